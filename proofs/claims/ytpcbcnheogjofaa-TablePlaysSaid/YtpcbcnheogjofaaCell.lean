/- Contracts of package cell: a memory of words, told by the list of its words, its counters, its last access. -/
import Derived.Test.YtpcbcnheogjofaaBase
import Derived.Test.YtpcbcnheogjofaaWWords
namespace Go.Proofs.Ytpcbcnheogjofaa
open Go.RowKit Go.Proofs.YtpcbcnheogjofaaW.PrintWords
set_option linter.unusedVariables false
set_option linter.unusedSimpArgs false

/-- Only the blocks of S are written; what is new is new. -/
structure Fr (S : Nat → Prop) (W W' : World) : Prop where
  os : W'.os = W.os
  tape : W'.tape = W.tape
  output : W'.output = W.output
  size : W.heap.size ≤ W'.heap.size
  block : ∀ k, k < W.heap.size → ¬ S k → W'.heap[k]? = W.heap[k]?
theorem Fr.refl (S : Nat → Prop) (W : World) : Fr S W W := ⟨rfl, rfl, rfl, Nat.le_refl _, fun _ _ _ => rfl⟩
theorem Fr.trans {S : Nat → Prop} {A B C : World} (h : Fr S A B) (k : Fr S B C) : Fr S A C :=
  ⟨k.os.trans h.os, k.tape.trans h.tape, k.output.trans h.output, Nat.le_trans h.size k.size, fun i hi hs => (k.block i (Nat.lt_of_lt_of_le hi h.size) hs).trans (h.block i hi hs)⟩
theorem Fr.mono {S S' : Nat → Prop} {A B : World} (h : Fr S A B) (hs : ∀ k, S k → S' k) : Fr S' A B := ⟨h.os, h.tape, h.output, h.size, fun k hk hn => h.block k hk (fun hk' => hn (hs k hk'))⟩
theorem Fr.set {S : Nat → Prop} {A B : World} (h : Fr S A B) {p : Addr} (hp : S p.block) (u : Value) : Fr S A (B.setCell p u) :=
  ⟨h.os, h.tape, h.output, by simpa using h.size, fun k hk hs => (Below.heap_setCell B p u k (fun e => hs (e ▸ hp))).trans (h.block k hk hs)⟩
theorem Fr.al {S : Nat → Prop} {A B : World} (h : Fr S A B) (o : Obj) : Fr S A (B.alloc o) :=
  ⟨h.os, h.tape, h.output, by simp; exact Nat.le_succ_of_le h.size, fun k hk hs => (Below.heap_alloc B o k (Nat.lt_of_lt_of_le hk h.size)).trans (h.block k hk hs)⟩
theorem Fr.dr {S : Nat → Prop} {A B : World} (h : Fr S A B) : Fr S A B.drew := ⟨h.os, h.tape, h.output, h.size, h.block⟩
theorem Fr.drN {S : Nat → Prop} {A B : World} (h : Fr S A B) (n : Nat) : Fr S A (B.drewN n) := ⟨h.os, h.tape, h.output, h.size, h.block⟩
theorem Fr.of_below {S : Nat → Prop} {A B : World} (h : Below A.heap.size A B) : Fr S A B := ⟨h.os, h.tape, h.output, h.size, fun k hk _ => h.block k hk⟩
theorem Fr.below {S : Nat → Prop} {w A B : World} (h : Fr S A B) (hw : Below w.heap.size w A) (hs : ∀ k, S k → w.heap.size ≤ k) : Below w.heap.size w B :=
  ⟨h.os.trans hw.os, h.tape.trans hw.tape, h.output.trans hw.output, Nat.le_trans hw.size h.size, fun k hk => (h.block k (Nat.lt_of_lt_of_le hk hw.size) (fun hk' => by have := hs k hk'; omega)).trans (hw.block k hk)⟩

/-- A memory: the header's block b, the words' block g. -/
structure MemAt (W : World) (b g : Nat) (ws : List Int) (st wi at_ kd : Int) : Prop where
  hdr : W.heap[b]? = some (.cells #[.slice (some ⟨g, 0, none⟩) ws.length ws.length, .int .u64 st, .int .u64 wi, .int .i64 at_, .int .i64 kd] 115 (0, 0))
  row : W.heap[g]? = some (.cells (ws.map (Value.int .u64)).toArray 29 (0, 0))
  ne : b ≠ g
  len : ws.length ≤ 4096
  st0 : 0 ≤ st
  wi0 : 0 ≤ wi
  wst : wi ≤ st

theorem madeNums (m : Nat) : (madeCells #[Value.int .u64 0] m) = ((List.replicate m (0 : Int)).map (Value.int .u64)).toArray := by
  apply Array.ext_getElem?
  intro i
  simp [madeCells, Nat.mod_one, Array.getElem?_range, Array.getElem?_replicate]
theorem alloc_at {W : World} {o : Obj} {n : Nat} (h : n = W.heap.size) : (W.alloc o).heap[n]? = some o := by rw [h]; exact heap_alloc_new W o
theorem alloc_old {W : World} {o p : Obj} {n : Nat} (h : W.heap[n]? = some p) : (W.alloc o).heap[n]? = some p := (Below.heap_alloc W o n (Array.getElem?_eq_some_iff.1 h).1).trans h
set_option maxRecDepth 100000 in
theorem New_in (n : Int) (h1 : 1 ≤ n) (h2 : n ≤ 4096) (w : World) : Calls Try.prog 18 #[.int .i64 n] w fun e w' => e = .returned (.tuple #[.pointer (some ⟨w.heap.size + 1, 0, none⟩), .int .i64 0]) ∧ MemAt w' (w.heap.size + 1) w.heap.size (List.replicate n.toNat 0) 0 0 0 0 ∧ Below w.heap.size w w' := by
  obtain ⟨m, rfl⟩ := Int.eq_ofNat_of_zero_le (show 0 ≤ n from by omega)
  have hmk := print_make (P := Try.prog) 27 29 .u64 8 Try.underlying27 (by kernel_rfl) (by decide) m (by omega)
  rw [madeNums] at hmk
  go_enter Try.func18, Try.ntmps18
  go_wp2
  go_ret2
  refine ⟨rfl, ⟨?_, ?_, by omega, by simp; omega, by omega, by omega, by omega⟩, below_al (below_al (Below.refl _ _) _) _⟩
  · rw [alloc_at (by simp)]
    simp
  · refine (alloc_old (alloc_at rfl)).trans ?_
    simp

theorem heap_set {W : World} {b o : Nat} {c : Array Value} {t : TypeId} {fr : Nat × Nat} (h : W.heap[b]? = some (.cells c t fr)) (v : Value) : (W.setCell ⟨b, o, none⟩ v).heap[b]? = some (.cells (c.setIfInBounds o v) t fr) := by
  simp [World.setCell, Array.getElem?_modify, h]
theorem heap_set_ne {W : World} {b o k : Nat} {p : Obj} (h : W.heap[k]? = some p) (hk : k ≠ b) (v : Value) : (W.setCell ⟨b, o, none⟩ v).heap[k]? = some p := (Below.heap_setCell W ⟨b, o, none⟩ v k hk).trans h
section
variable {W : World} {b g : Nat} {ws : List Int} {st wi at_ kd : Int}
theorem MemAt.acc (h : MemAt W b g ws st wi at_ kd) (i k : Int) : MemAt (((W.setCell ⟨b, 1, none⟩ (.int .u64 (st + 1))).setCell ⟨b, 3, none⟩ (.int .i64 i)).setCell ⟨b, 4, none⟩ (.int .i64 k)) b g ws (st + 1) wi i k :=
  ⟨by rw [heap_set (heap_set (heap_set h.hdr _) _) _]; rfl, heap_set_ne (heap_set_ne (heap_set_ne h.row h.ne.symm _) h.ne.symm _) h.ne.symm _, h.ne, h.len, by have := h.st0; omega, h.wi0, by have := h.wst; omega⟩
theorem MemAt.word (h : MemAt W b g ws st wi at_ kd) (i : Nat) (v : Int) : MemAt (W.setCell ⟨g, i, none⟩ (.int .u64 v)) b g (ws.set i v) st wi at_ kd :=
  ⟨by rw [heap_set_ne h.hdr h.ne _]; simp, by rw [heap_set h.row]; simp, h.ne, by have := h.len; simpa using this, h.st0, h.wi0, h.wst⟩
theorem MemAt.win (h : MemAt W b g ws st wi at_ kd) (hl : wi + 1 ≤ st) : MemAt (W.setCell ⟨b, 2, none⟩ (.int .u64 (wi + 1))) b g ws st (wi + 1) at_ kd :=
  ⟨by rw [heap_set h.hdr]; rfl, heap_set_ne h.row h.ne.symm _, h.ne, h.len, h.st0, by have := h.wi0; omega, hl⟩
theorem MemAt.cells (h : MemAt W b g ws st wi at_ kd) : W.cell? ⟨b, 0, none⟩ = some (.slice (some ⟨g, 0, none⟩) ws.length ws.length) ∧ W.cell? ⟨b, 1, none⟩ = some (.int .u64 st) ∧ W.cell? ⟨b, 2, none⟩ = some (.int .u64 wi) ∧ W.cell? ⟨b, 3, none⟩ = some (.int .i64 at_) ∧ W.cell? ⟨b, 4, none⟩ = some (.int .i64 kd) := by
  refine ⟨?_, ?_, ?_, ?_, ?_⟩ <;> simp [World.cell?, h.hdr]
theorem MemAt.free (h : MemAt W b g ws st wi at_ kd) (i : Nat) : W.frozen? ⟨b, i, none⟩ = false ∧ W.frozen? ⟨g, i, none⟩ = false := by
  constructor <;> simp [World.frozen?, h.hdr, h.row]
theorem MemAt.word_at (h : MemAt W b g ws st wi at_ kd) (i : Nat) (hi : i < ws.length) : W.cell? ⟨g, i, none⟩ = some (.int .u64 (ws.getD i 0)) := by
  simp [World.cell?, h.row, hi, List.getD_eq_getElem?_getD, List.getElem?_eq_getElem hi]
def own2 (b g : Nat) : Nat → Prop := fun k => k = b ∨ k = g
set_option maxRecDepth 100000 in
theorem Load_in (h : MemAt W b g ws st wi at_ kd) (hs : st ≤ 1000000000) (i : Int) (h0 : 0 ≤ i) (h1 : i < ws.length) : Calls Try.prog 19 #[.pointer (some ⟨b, 0, none⟩), .int .i64 i] W fun e w' => e = .returned (.int .u64 (ws.getD i.toNat 0)) ∧ MemAt w' b g ws (st + 1) wi i 1 ∧ Fr (own2 b g) W w' := by
  obtain ⟨c0, c1, c2, c3, c4⟩ := h.cells
  obtain ⟨z1, _⟩ := h.free 1
  obtain ⟨z2, _⟩ := h.free 2
  obtain ⟨z3, _⟩ := h.free 3
  obtain ⟨z4, _⟩ := h.free 4
  have hne := h.ne
  have hne' := h.ne.symm
  have hst := h.st0
  have hwi := h.wi0
  have hws := h.wst
  have hll := h.len
  obtain ⟨j, rfl⟩ := Int.eq_ofNat_of_zero_le h0
  have hj : j < ws.length := by omega
  rw [Int.toNat_natCast]
  have cj := h.word_at j hj
  obtain ⟨_, zj⟩ := h.free j
  have H := Lib.hid h
  clear h
  generalize hx : ws.getD j 0 = x at *
  have HX := Lib.hid hx
  clear hx
  go_enter Try.func19, Try.ntmps19
  go_wp2
  go_ret
  exact ⟨rfl, H.out.acc _ _, (((Fr.refl _ _).set (Or.inl rfl) _).set (Or.inl rfl) _).set (Or.inl rfl) _⟩
set_option maxRecDepth 100000 in
theorem Store_in (h : MemAt W b g ws st wi at_ kd) (hs : st ≤ 1000000000) (i : Int) (h0 : 0 ≤ i) (h1 : i < ws.length) (v : Int) : Calls Try.prog 24 #[.pointer (some ⟨b, 0, none⟩), .int .i64 i, .int .u64 v] W fun e w' => e = .returned (.tuple #[]) ∧ MemAt w' b g (ws.set i.toNat v) (st + 1) wi i 2 ∧ Fr (own2 b g) W w' := by
  obtain ⟨c0, c1, c2, c3, c4⟩ := h.cells
  obtain ⟨z1, _⟩ := h.free 1
  obtain ⟨z2, _⟩ := h.free 2
  obtain ⟨z3, _⟩ := h.free 3
  obtain ⟨z4, _⟩ := h.free 4
  have hne := h.ne
  have hne' := h.ne.symm
  have hst := h.st0
  have hwi := h.wi0
  have hws := h.wst
  have hll := h.len
  obtain ⟨j, rfl⟩ := Int.eq_ofNat_of_zero_le h0
  have hj : j < ws.length := by omega
  rw [Int.toNat_natCast]
  have cj := h.word_at j hj
  obtain ⟨_, zj⟩ := h.free j
  have H := Lib.hid h
  clear h
  generalize hx : ws.getD j 0 = x at *
  have HX := Lib.hid hx
  clear hx
  go_enter Try.func24, Try.ntmps24
  go_wp2
  go_end0
  exact ⟨rfl, (H.out.acc _ _).word _ _, ((((Fr.refl _ _).set (Or.inl rfl) _).set (Or.inl rfl) _).set (Or.inl rfl) _).set (Or.inr rfl) _⟩
set_option maxRecDepth 100000 in
theorem Add_in (h : MemAt W b g ws st wi at_ kd) (hs : st ≤ 1000000000) (i : Int) (h0 : 0 ≤ i) (h1 : i < ws.length) (v : Int) : Calls Try.prog 23 #[.pointer (some ⟨b, 0, none⟩), .int .i64 i, .int .u64 v] W fun e w' => e = .returned (.int .u64 (IntKind.u64.wrap (ws.getD i.toNat 0 + v))) ∧ MemAt w' b g (ws.set i.toNat (IntKind.u64.wrap (ws.getD i.toNat 0 + v))) (st + 1) wi i 4 ∧ Fr (own2 b g) W w' := by
  obtain ⟨c0, c1, c2, c3, c4⟩ := h.cells
  obtain ⟨z1, _⟩ := h.free 1
  obtain ⟨z2, _⟩ := h.free 2
  obtain ⟨z3, _⟩ := h.free 3
  obtain ⟨z4, _⟩ := h.free 4
  have hne := h.ne
  have hne' := h.ne.symm
  have hst := h.st0
  have hwi := h.wi0
  have hws := h.wst
  have hll := h.len
  obtain ⟨j, rfl⟩ := Int.eq_ofNat_of_zero_le h0
  have hj : j < ws.length := by omega
  rw [Int.toNat_natCast]
  have cj := h.word_at j hj
  obtain ⟨_, zj⟩ := h.free j
  have H := Lib.hid h
  clear h
  generalize hx : ws.getD j 0 = x at *
  have HX := Lib.hid hx
  clear hx
  generalize hy : IntKind.u64.wrap (x + v) = y at *
  go_enter Try.func23, Try.ntmps23
  go_wp2
  go_ret
  exact ⟨rfl, (H.out.acc _ _).word _ _, ((((Fr.refl _ _).set (Or.inl rfl) _).set (Or.inl rfl) _).set (Or.inl rfl) _).set (Or.inr rfl) _⟩
set_option maxRecDepth 100000 in
theorem CAS_hit (h : MemAt W b g ws st wi at_ kd) (hs : st ≤ 1000000000) (i : Int) (h0 : 0 ≤ i) (h1 : i < ws.length) (old new : Int) (hit : (ws.getD i.toNat 0 != old) = false) : Calls Try.prog 20 #[.pointer (some ⟨b, 0, none⟩), .int .i64 i, .int .u64 old, .int .u64 new] W fun e w' => e = .returned (.bool true) ∧ MemAt w' b g (ws.set i.toNat new) (st + 1) (wi + 1) i 3 ∧ Fr (own2 b g) W w' := by
  obtain ⟨c0, c1, c2, c3, c4⟩ := h.cells
  obtain ⟨z1, _⟩ := h.free 1
  obtain ⟨z2, _⟩ := h.free 2
  obtain ⟨z3, _⟩ := h.free 3
  obtain ⟨z4, _⟩ := h.free 4
  have hne := h.ne
  have hne' := h.ne.symm
  have hst := h.st0
  have hwi := h.wi0
  have hws := h.wst
  have hll := h.len
  obtain ⟨j, rfl⟩ := Int.eq_ofNat_of_zero_le h0
  have hj : j < ws.length := by omega
  rw [Int.toNat_natCast] at *
  have cj := h.word_at j hj
  obtain ⟨_, zj⟩ := h.free j
  have H := Lib.hid h
  clear h
  generalize hx : ws.getD j 0 = x at *
  have HX := Lib.hid hx
  clear hx
  go_enter Try.func20, Try.ntmps20
  go_wp2
  go_ret
  exact ⟨rfl, ((H.out.acc _ _).word _ _).win (by omega), (((((Fr.refl _ _).set (Or.inl rfl) _).set (Or.inl rfl) _).set (Or.inl rfl) _).set (Or.inr rfl) _).set (Or.inl rfl) _⟩
set_option maxRecDepth 100000 in
theorem CAS_miss (h : MemAt W b g ws st wi at_ kd) (hs : st ≤ 1000000000) (i : Int) (h0 : 0 ≤ i) (h1 : i < ws.length) (old new : Int) (hit : (ws.getD i.toNat 0 != old) = true) : Calls Try.prog 20 #[.pointer (some ⟨b, 0, none⟩), .int .i64 i, .int .u64 old, .int .u64 new] W fun e w' => e = .returned (.bool false) ∧ MemAt w' b g ws (st + 1) wi i 3 ∧ Fr (own2 b g) W w' := by
  obtain ⟨c0, c1, c2, c3, c4⟩ := h.cells
  obtain ⟨z1, _⟩ := h.free 1
  obtain ⟨z2, _⟩ := h.free 2
  obtain ⟨z3, _⟩ := h.free 3
  obtain ⟨z4, _⟩ := h.free 4
  have hne := h.ne
  have hne' := h.ne.symm
  have hst := h.st0
  have hwi := h.wi0
  have hws := h.wst
  have hll := h.len
  obtain ⟨j, rfl⟩ := Int.eq_ofNat_of_zero_le h0
  have hj : j < ws.length := by omega
  rw [Int.toNat_natCast] at *
  have cj := h.word_at j hj
  obtain ⟨_, zj⟩ := h.free j
  have H := Lib.hid h
  clear h
  generalize hx : ws.getD j 0 = x at *
  have HX := Lib.hid hx
  clear hx
  go_enter Try.func20, Try.ntmps20
  go_wp2
  go_ret
  exact ⟨rfl, H.out.acc _ _, (((Fr.refl _ _).set (Or.inl rfl) _).set (Or.inl rfl) _).set (Or.inl rfl) _⟩
set_option maxRecDepth 100000 in
theorem Load_out (h : MemAt W b g ws st wi at_ kd) (i : Int) (ho : i < 0 ∨ ws.length ≤ i) : Calls Try.prog 19 #[.pointer (some ⟨b, 0, none⟩), .int .i64 i] W fun e w' => e = .returned (.int .u64 0) ∧ W = w' := by
  obtain ⟨c0, c1, c2, c3, c4⟩ := h.cells
  obtain ⟨z1, _⟩ := h.free 1
  obtain ⟨z2, _⟩ := h.free 2
  obtain ⟨z3, _⟩ := h.free 3
  obtain ⟨z4, _⟩ := h.free 4
  have hne := h.ne
  have hne' := h.ne.symm
  have hst := h.st0
  have hwi := h.wi0
  have hws := h.wst
  have hll := h.len
  rcases ho with ho | ho
  · go_enter Try.func19, Try.ntmps19
    go_wp2
    go_ret
    exact ⟨rfl, rfl⟩
  · have h0 : 0 ≤ i := by omega
    have h2 : ¬ i < ws.length := by omega
    go_enter Try.func19, Try.ntmps19
    go_wp2
    go_ret
    exact ⟨rfl, rfl⟩
set_option maxRecDepth 100000 in
theorem Add_out (h : MemAt W b g ws st wi at_ kd) (i : Int) (ho : i < 0 ∨ ws.length ≤ i) (v : Int) : Calls Try.prog 23 #[.pointer (some ⟨b, 0, none⟩), .int .i64 i, .int .u64 v] W fun e w' => e = .returned (.int .u64 0) ∧ W = w' := by
  obtain ⟨c0, c1, c2, c3, c4⟩ := h.cells
  obtain ⟨z1, _⟩ := h.free 1
  obtain ⟨z2, _⟩ := h.free 2
  obtain ⟨z3, _⟩ := h.free 3
  obtain ⟨z4, _⟩ := h.free 4
  have hne := h.ne
  have hne' := h.ne.symm
  have hst := h.st0
  have hwi := h.wi0
  have hws := h.wst
  have hll := h.len
  rcases ho with ho | ho
  · go_enter Try.func23, Try.ntmps23
    go_wp2
    go_ret
    exact ⟨rfl, rfl⟩
  · have h0 : 0 ≤ i := by omega
    have h2 : ¬ i < ws.length := by omega
    go_enter Try.func23, Try.ntmps23
    go_wp2
    go_ret
    exact ⟨rfl, rfl⟩
set_option maxRecDepth 100000 in
theorem Store_out (h : MemAt W b g ws st wi at_ kd) (i : Int) (ho : i < 0 ∨ ws.length ≤ i) (v : Int) : Calls Try.prog 24 #[.pointer (some ⟨b, 0, none⟩), .int .i64 i, .int .u64 v] W fun e w' => e = .returned (.tuple #[]) ∧ W = w' := by
  obtain ⟨c0, c1, c2, c3, c4⟩ := h.cells
  obtain ⟨z1, _⟩ := h.free 1
  obtain ⟨z2, _⟩ := h.free 2
  obtain ⟨z3, _⟩ := h.free 3
  obtain ⟨z4, _⟩ := h.free 4
  have hne := h.ne
  have hne' := h.ne.symm
  have hst := h.st0
  have hwi := h.wi0
  have hws := h.wst
  have hll := h.len
  rcases ho with ho | ho
  · go_enter Try.func24, Try.ntmps24
    go_wp2
    go_end0
    exact ⟨rfl, rfl⟩
  · have h0 : 0 ≤ i := by omega
    have h2 : ¬ i < ws.length := by omega
    go_enter Try.func24, Try.ntmps24
    go_wp2
    go_end0
    exact ⟨rfl, rfl⟩
set_option maxRecDepth 100000 in
theorem CAS_out (h : MemAt W b g ws st wi at_ kd) (i : Int) (ho : i < 0 ∨ ws.length ≤ i) (v v2 : Int) : Calls Try.prog 20 #[.pointer (some ⟨b, 0, none⟩), .int .i64 i, .int .u64 v, .int .u64 v2] W fun e w' => e = .returned (.bool false) ∧ W = w' := by
  obtain ⟨c0, c1, c2, c3, c4⟩ := h.cells
  obtain ⟨z1, _⟩ := h.free 1
  obtain ⟨z2, _⟩ := h.free 2
  obtain ⟨z3, _⟩ := h.free 3
  obtain ⟨z4, _⟩ := h.free 4
  have hne := h.ne
  have hne' := h.ne.symm
  have hst := h.st0
  have hwi := h.wi0
  have hws := h.wst
  have hll := h.len
  rcases ho with ho | ho
  · go_enter Try.func20, Try.ntmps20
    go_wp2
    go_ret
    exact ⟨rfl, rfl⟩
  · have h0 : 0 ≤ i := by omega
    have h2 : ¬ i < ws.length := by omega
    go_enter Try.func20, Try.ntmps20
    go_wp2
    go_ret
    exact ⟨rfl, rfl⟩
set_option maxRecDepth 100000 in
theorem Steps_any (h : MemAt W b g ws st wi at_ kd) (hs : st ≤ 1000000000) : Calls Try.prog 25 #[.pointer (some ⟨b, 0, none⟩)] W fun e w' => e = .returned (.int .i64 st) ∧ W = w' := by
  obtain ⟨c0, c1, c2, c3, c4⟩ := h.cells
  obtain ⟨z1, _⟩ := h.free 1
  obtain ⟨z2, _⟩ := h.free 2
  obtain ⟨z3, _⟩ := h.free 3
  obtain ⟨z4, _⟩ := h.free 4
  have hne := h.ne
  have hne' := h.ne.symm
  have hst := h.st0
  have hwi := h.wi0
  have hws := h.wst
  have hll := h.len
  go_enter Try.func25, Try.ntmps25
  go_wp2
  go_ret
  exact ⟨rfl, rfl⟩
set_option maxRecDepth 100000 in
theorem Wins_any (h : MemAt W b g ws st wi at_ kd) (hs : st ≤ 1000000000) : Calls Try.prog 21 #[.pointer (some ⟨b, 0, none⟩)] W fun e w' => e = .returned (.int .i64 wi) ∧ W = w' := by
  obtain ⟨c0, c1, c2, c3, c4⟩ := h.cells
  obtain ⟨z1, _⟩ := h.free 1
  obtain ⟨z2, _⟩ := h.free 2
  obtain ⟨z3, _⟩ := h.free 3
  obtain ⟨z4, _⟩ := h.free 4
  have hne := h.ne
  have hne' := h.ne.symm
  have hst := h.st0
  have hwi := h.wi0
  have hws := h.wst
  have hll := h.len
  go_enter Try.func21, Try.ntmps21
  go_wp2
  go_ret
  exact ⟨rfl, rfl⟩
set_option maxRecDepth 100000 in
theorem Len_any (h : MemAt W b g ws st wi at_ kd) : Calls Try.prog 26 #[.pointer (some ⟨b, 0, none⟩)] W fun e w' => e = .returned (.int .i64 ws.length) ∧ W = w' := by
  obtain ⟨c0, c1, c2, c3, c4⟩ := h.cells
  obtain ⟨z1, _⟩ := h.free 1
  obtain ⟨z2, _⟩ := h.free 2
  obtain ⟨z3, _⟩ := h.free 3
  obtain ⟨z4, _⟩ := h.free 4
  have hne := h.ne
  have hne' := h.ne.symm
  have hst := h.st0
  have hwi := h.wi0
  have hws := h.wst
  have hll := h.len
  go_enter Try.func26, Try.ntmps26
  go_wp2
  go_ret
  exact ⟨rfl, rfl⟩
set_option maxRecDepth 100000 in
theorem Last_any (h : MemAt W b g ws st wi at_ kd) : Calls Try.prog 27 #[.pointer (some ⟨b, 0, none⟩)] W fun e w' => e = .returned (.tuple #[.int .i64 at_, .int .i64 kd, .bool (decide (0 < st))]) ∧ ∃ n, w' = W.drewN n := by
  obtain ⟨c0, c1, c2, c3, c4⟩ := h.cells
  obtain ⟨z1, _⟩ := h.free 1
  obtain ⟨z2, _⟩ := h.free 2
  obtain ⟨z3, _⟩ := h.free 3
  obtain ⟨z4, _⟩ := h.free 4
  have hne := h.ne
  have hne' := h.ne.symm
  have hst := h.st0
  have hwi := h.wi0
  have hws := h.wst
  have hll := h.len
  go_enter Try.func27, Try.ntmps27
  go_wp2
  go_quiet (fail)
  go_wp2
  go_ret3
  exact ⟨rfl, _, rfl⟩

theorem New_out (n : Int) (h : n < 1 ∨ 4096 < n) (w : World) : Calls Try.prog 18 #[.int .i64 n] w fun e w' => e = .returned (.tuple #[.pointer none, .int .i64 1]) ∧ w = w' := by
  rcases h with h | h
  · go_enter Try.func18, Try.ntmps18
    go_wp2
    go_ret2
    exact ⟨rfl, rfl⟩
  · have h' : ¬ n < 1 := by omega
    go_enter Try.func18, Try.ntmps18
    go_wp2
    go_ret2
    exact ⟨rfl, rfl⟩
end
end Go.Proofs.Ytpcbcnheogjofaa
