/- Rows that the call itself made and whose length stays: a block of words, a block of bools. -/
import Derived.Test.YtpcbcnheogjofaaCell
namespace Go.Proofs.Ytpcbcnheogjofaa
open Go.RowKit Go.Proofs.YtpcbcnheogjofaaW.PrintWords
set_option linter.unusedVariables false
set_option linter.unusedSimpArgs false

def RowI (k : IntKind) (t : TypeId) (W : World) (r : Nat) (xs : List Int) : Prop := W.heap[r]? = some (.cells (xs.map (Value.int k)).toArray t (0, 0))
def RowB (t : TypeId) (W : World) (r : Nat) (xs : List Bool) : Prop := W.heap[r]? = some (.cells (xs.map Value.bool).toArray t (0, 0))
section
variable {k : IntKind} {t : TypeId} {W W' : World} {r : Nat} {xs : List Int} {bs : List Bool}
theorem RowI.lt (h : RowI k t W r xs) : r < W.heap.size := (Array.getElem?_eq_some_iff.1 h).1
theorem RowB.lt (h : RowB t W r bs) : r < W.heap.size := (Array.getElem?_eq_some_iff.1 h).1
theorem RowI.cell (h : RowI k t W r xs) (j : Nat) (hj : j < xs.length) : W.cell? ⟨r, j, none⟩ = some (.int k (xs.getD j 0)) := by
  unfold RowI at h
  simp [World.cell?, h, List.getD_eq_getElem?_getD, List.getElem?_eq_getElem hj]
theorem RowB.cell (h : RowB t W r bs) (j : Nat) (hj : j < bs.length) : W.cell? ⟨r, j, none⟩ = some (.bool (bs.getD j false)) := by
  unfold RowB at h
  simp [World.cell?, h, List.getD_eq_getElem?_getD, List.getElem?_eq_getElem hj]
theorem RowI.free (h : RowI k t W r xs) (j : Nat) : W.frozen? ⟨r, j, none⟩ = false := by
  unfold RowI at h
  simp [World.frozen?, h]
theorem RowB.free (h : RowB t W r bs) (j : Nat) : W.frozen? ⟨r, j, none⟩ = false := by
  unfold RowB at h
  simp [World.frozen?, h]
theorem RowI.set (h : RowI k t W r xs) (j : Nat) (x : Int) : RowI k t (W.setCell ⟨r, j, none⟩ (.int k x)) r (xs.set j x) := by
  unfold RowI at *
  rw [heap_set h]
  simp
theorem RowB.set (h : RowB t W r bs) (j : Nat) (x : Bool) : RowB t (W.setCell ⟨r, j, none⟩ (.bool x)) r (bs.set j x) := by
  unfold RowB at *
  rw [heap_set h]
  simp
theorem RowI.other (h : RowI k t W r xs) {b j : Nat} (hb : r ≠ b) (v : Value) : RowI k t (W.setCell ⟨b, j, none⟩ v) r xs := heap_set_ne h hb v
theorem RowB.other (h : RowB t W r bs) {b j : Nat} (hb : r ≠ b) (v : Value) : RowB t (W.setCell ⟨b, j, none⟩ v) r bs := heap_set_ne h hb v
theorem RowI.fr {S : Nat → Prop} (h : RowI k t W r xs) (f : Fr S W W') (hs : ¬ S r) : RowI k t W' r xs := (f.block r h.lt hs).trans h
theorem RowB.fr {S : Nat → Prop} (h : RowB t W r bs) (f : Fr S W W') (hs : ¬ S r) : RowB t W' r bs := (f.block r h.lt hs).trans h
theorem RowI.al (h : RowI k t W r xs) (o : Obj) : RowI k t (W.alloc o) r xs := alloc_old h
theorem RowB.al (h : RowB t W r bs) (o : Obj) : RowB t (W.alloc o) r bs := alloc_old h
theorem MemAt.other {b g : Nat} {ws : List Int} {st wi at_ kd : Int} (h : MemAt W b g ws st wi at_ kd) {c j : Nat} (hb : b ≠ c) (hg : g ≠ c) (v : Value) : MemAt (W.setCell ⟨c, j, none⟩ v) b g ws st wi at_ kd :=
  ⟨heap_set_ne h.hdr hb v, heap_set_ne h.row hg v, h.ne, h.len, h.st0, h.wi0, h.wst⟩
theorem MemAt.al {b g : Nat} {ws : List Int} {st wi at_ kd : Int} (h : MemAt W b g ws st wi at_ kd) (o : Obj) : MemAt (W.alloc o) b g ws st wi at_ kd :=
  ⟨alloc_old h.hdr, alloc_old h.row, h.ne, h.len, h.st0, h.wi0, h.wst⟩
theorem MemAt.drN {b g : Nat} {ws : List Int} {st wi at_ kd : Int} (h : MemAt W b g ws st wi at_ kd) (n : Nat) : MemAt (W.drewN n) b g ws st wi at_ kd := ⟨h.hdr, h.row, h.ne, h.len, h.st0, h.wi0, h.wst⟩
theorem MemAt.dr {b g : Nat} {ws : List Int} {st wi at_ kd : Int} (h : MemAt W b g ws st wi at_ kd) : MemAt W.drew b g ws st wi at_ kd := ⟨h.hdr, h.row, h.ne, h.len, h.st0, h.wi0, h.wst⟩
theorem MemAt.below {b g : Nat} {ws : List Int} {st wi at_ kd : Int} (h : MemAt W b g ws st wi at_ kd) (hb : Below W.heap.size W W') : MemAt W' b g ws st wi at_ kd :=
  ⟨(hb.block b (Array.getElem?_eq_some_iff.1 h.hdr).1).trans h.hdr, (hb.block g (Array.getElem?_eq_some_iff.1 h.row).1).trans h.row, h.ne, h.len, h.st0, h.wi0, h.wst⟩
theorem MemAt.fr {S : Nat → Prop} {b g : Nat} {ws : List Int} {st wi at_ kd : Int} (h : MemAt W b g ws st wi at_ kd) (f : Fr S W W') (hb : ¬ S b) (hg : ¬ S g) : MemAt W' b g ws st wi at_ kd :=
  ⟨(f.block b (Array.getElem?_eq_some_iff.1 h.hdr).1 hb).trans h.hdr, (f.block g (Array.getElem?_eq_some_iff.1 h.row).1 hg).trans h.row, h.ne, h.len, h.st0, h.wi0, h.wst⟩
end
theorem madeBools (m : Nat) : (madeCells #[Value.bool false] m) = ((List.replicate m false).map Value.bool).toArray := by
  apply Array.ext_getElem?
  intro i
  simp [madeCells, Nat.mod_one, Array.getElem?_range, Array.getElem?_replicate]
theorem make_bools (m : Nat) (hm : m ≤ 1000) : ∀ W : World, (Instr.makeSlice 28 (.int .i64 (m : Int)) (.int .i64 (m : Int))).run Try.prog W = .ok (.slice (some ⟨W.heap.size, 0, none⟩) m m) (W.alloc (.cells ((List.replicate m false).map Value.bool).toArray 4)) := by
  intro W
  rw [← madeBools]
  exact run_make_row' 28 4 (.bool false) 1 Try.underlying28 (by kernel_rfl) rfl .i64 .i64 m (by omega) (by omega) W
theorem make_words (m : Nat) (hm : m ≤ 5000) : ∀ W : World, (Instr.makeSlice 27 (.int .i64 (m : Int)) (.int .i64 (m : Int))).run Try.prog W = .ok (.slice (some ⟨W.heap.size, 0, none⟩) m m) (W.alloc (.cells ((List.replicate m (0 : Int)).map (Value.int .u64)).toArray 29)) := by
  intro W
  rw [← madeNums]
  exact run_make_row' 27 29 (.int .u64 0) 8 Try.underlying27 (by kernel_rfl) rfl .i64 .i64 m (by omega) (by omega) W
end Go.Proofs.Ytpcbcnheogjofaa
