/- Contracts of the reference's Memory: those of package cell, turned by gencellref.py. -/
import Derived.Test.YtpcbcnheogjofaaCell
import Derived.Test.YtpcbcnheogjofaaRowAt
namespace Go.Proofs.Ytpcbcnheogjofaa
open Go.RowKit Go.Proofs.YtpcbcnheogjofaaW.PrintWords
set_option linter.unusedVariables false
set_option linter.unusedSimpArgs false

/-- A memory: the header's block b, the words' block g. -/
structure RefAt (W : World) (b g : Nat) (ws : List Int) (st wi at_ kd : Int) : Prop where
  hdr : W.heap[b]? = some (.cells #[.slice (some ⟨g, 0, none⟩) ws.length ws.length, .int .i64 st, .int .i64 wi, .int .i64 at_, .int .i64 kd] 44 (0, 0))
  row : W.heap[g]? = some (.cells (ws.map (Value.int .u64)).toArray 29 (0, 0))
  ne : b ≠ g
  len : ws.length ≤ 4096
  st0 : 0 ≤ st
  wi0 : 0 ≤ wi
  wst : wi ≤ st

section
variable {W W' : World}
theorem RefAt.other {b g : Nat} {ws : List Int} {st wi at_ kd : Int} (h : RefAt W b g ws st wi at_ kd) {c j : Nat} (hb : b ≠ c) (hg : g ≠ c) (v : Value) : RefAt (W.setCell ⟨c, j, none⟩ v) b g ws st wi at_ kd :=
  ⟨heap_set_ne h.hdr hb v, heap_set_ne h.row hg v, h.ne, h.len, h.st0, h.wi0, h.wst⟩
theorem RefAt.al {b g : Nat} {ws : List Int} {st wi at_ kd : Int} (h : RefAt W b g ws st wi at_ kd) (o : Obj) : RefAt (W.alloc o) b g ws st wi at_ kd :=
  ⟨alloc_old h.hdr, alloc_old h.row, h.ne, h.len, h.st0, h.wi0, h.wst⟩
theorem RefAt.drN {b g : Nat} {ws : List Int} {st wi at_ kd : Int} (h : RefAt W b g ws st wi at_ kd) (n : Nat) : RefAt (W.drewN n) b g ws st wi at_ kd := ⟨h.hdr, h.row, h.ne, h.len, h.st0, h.wi0, h.wst⟩
theorem RefAt.dr {b g : Nat} {ws : List Int} {st wi at_ kd : Int} (h : RefAt W b g ws st wi at_ kd) : RefAt W.drew b g ws st wi at_ kd := ⟨h.hdr, h.row, h.ne, h.len, h.st0, h.wi0, h.wst⟩
theorem RefAt.below {b g : Nat} {ws : List Int} {st wi at_ kd : Int} (h : RefAt W b g ws st wi at_ kd) (hb : Below W.heap.size W W') : RefAt W' b g ws st wi at_ kd :=
  ⟨(hb.block b (Array.getElem?_eq_some_iff.1 h.hdr).1).trans h.hdr, (hb.block g (Array.getElem?_eq_some_iff.1 h.row).1).trans h.row, h.ne, h.len, h.st0, h.wi0, h.wst⟩
theorem RefAt.fr {S : Nat → Prop} {b g : Nat} {ws : List Int} {st wi at_ kd : Int} (h : RefAt W b g ws st wi at_ kd) (f : Fr S W W') (hb : ¬ S b) (hg : ¬ S g) : RefAt W' b g ws st wi at_ kd :=
  ⟨(f.block b (Array.getElem?_eq_some_iff.1 h.hdr).1 hb).trans h.hdr, (f.block g (Array.getElem?_eq_some_iff.1 h.row).1 hg).trans h.row, h.ne, h.len, h.st0, h.wi0, h.wst⟩
end
section
variable {W : World} {b g : Nat} {ws : List Int} {st wi at_ kd : Int}
theorem RefAt.acc (h : RefAt W b g ws st wi at_ kd) (i k : Int) : RefAt (((W.setCell ⟨b, 1, none⟩ (.int .i64 (st + 1))).setCell ⟨b, 3, none⟩ (.int .i64 i)).setCell ⟨b, 4, none⟩ (.int .i64 k)) b g ws (st + 1) wi i k :=
  ⟨by rw [heap_set (heap_set (heap_set h.hdr _) _) _]; rfl, heap_set_ne (heap_set_ne (heap_set_ne h.row h.ne.symm _) h.ne.symm _) h.ne.symm _, h.ne, h.len, by have := h.st0; omega, h.wi0, by have := h.wst; omega⟩
theorem RefAt.word (h : RefAt W b g ws st wi at_ kd) (i : Nat) (v : Int) : RefAt (W.setCell ⟨g, i, none⟩ (.int .u64 v)) b g (ws.set i v) st wi at_ kd :=
  ⟨by rw [heap_set_ne h.hdr h.ne _]; simp, by rw [heap_set h.row]; simp, h.ne, by have := h.len; simpa using this, h.st0, h.wi0, h.wst⟩
theorem RefAt.win (h : RefAt W b g ws st wi at_ kd) (hl : wi + 1 ≤ st) : RefAt (W.setCell ⟨b, 2, none⟩ (.int .i64 (wi + 1))) b g ws st (wi + 1) at_ kd :=
  ⟨by rw [heap_set h.hdr]; rfl, heap_set_ne h.row h.ne.symm _, h.ne, h.len, h.st0, by have := h.wi0; omega, hl⟩
theorem RefAt.cells (h : RefAt W b g ws st wi at_ kd) : W.cell? ⟨b, 0, none⟩ = some (.slice (some ⟨g, 0, none⟩) ws.length ws.length) ∧ W.cell? ⟨b, 1, none⟩ = some (.int .i64 st) ∧ W.cell? ⟨b, 2, none⟩ = some (.int .i64 wi) ∧ W.cell? ⟨b, 3, none⟩ = some (.int .i64 at_) ∧ W.cell? ⟨b, 4, none⟩ = some (.int .i64 kd) := by
  refine ⟨?_, ?_, ?_, ?_, ?_⟩ <;> simp [World.cell?, h.hdr]
theorem RefAt.free (h : RefAt W b g ws st wi at_ kd) (i : Nat) : W.frozen? ⟨b, i, none⟩ = false ∧ W.frozen? ⟨g, i, none⟩ = false := by
  constructor <;> simp [World.frozen?, h.hdr, h.row]
theorem RefAt.word_at (h : RefAt W b g ws st wi at_ kd) (i : Nat) (hi : i < ws.length) : W.cell? ⟨g, i, none⟩ = some (.int .u64 (ws.getD i 0)) := by
  simp [World.cell?, h.row, hi, List.getD_eq_getElem?_getD, List.getElem?_eq_getElem hi]
set_option maxRecDepth 100000 in
theorem RThere_in (h : RefAt W b g ws st wi at_ kd) (hs : st ≤ 1000000000) (i : Int) (h0 : 0 ≤ i) (h1 : i < ws.length) (kk : Int) : Calls Try.prog 78 #[.pointer (some ⟨b, 0, none⟩), .int .i64 i, .int .i64 kk] W fun e w' => e = .returned (.bool true) ∧ RefAt w' b g ws (st + 1) wi i kk ∧ Fr (own2 b g) W w' := by
  obtain ⟨c0, c1, c2, c3, c4⟩ := h.cells
  obtain ⟨z1, _⟩ := h.free 1
  obtain ⟨z2, _⟩ := h.free 2
  obtain ⟨z3, _⟩ := h.free 3
  obtain ⟨z4, _⟩ := h.free 4
  have hne := h.ne
  have hne' := h.ne.symm
  have hst := h.st0
  have hwi := h.wi0
  have hws := h.wst
  have hll := h.len
  obtain ⟨j, rfl⟩ := Int.eq_ofNat_of_zero_le h0
  have hj : j < ws.length := by omega
  have cj := h.word_at j hj
  obtain ⟨_, zj⟩ := h.free j
  have H := Lib.hid h
  clear h
  generalize hx : ws.getD j 0 = x at *
  have HX := Lib.hid hx
  clear hx
  go_enter Try.func78, Try.ntmps78
  go_wp2
  go_ret
  exact ⟨rfl, H.out.acc _ _, (((Fr.refl _ _).set (Or.inl rfl) _).set (Or.inl rfl) _).set (Or.inl rfl) _⟩
set_option maxRecDepth 100000 in
theorem RLoad_in (h : RefAt W b g ws st wi at_ kd) (hs : st ≤ 1000000000) (i : Int) (h0 : 0 ≤ i) (h1 : i < ws.length) : Calls Try.prog 28 #[.pointer (some ⟨b, 0, none⟩), .int .i64 i] W fun e w' => e = .returned (.int .u64 (ws.getD i.toNat 0)) ∧ RefAt w' b g ws (st + 1) wi i 1 ∧ Fr (own2 b g) W w' := by
  obtain ⟨c0, c1, c2, c3, c4⟩ := h.cells
  obtain ⟨z1, _⟩ := h.free 1
  obtain ⟨z2, _⟩ := h.free 2
  obtain ⟨z3, _⟩ := h.free 3
  obtain ⟨z4, _⟩ := h.free 4
  have hne := h.ne
  have hne' := h.ne.symm
  have hst := h.st0
  have hwi := h.wi0
  have hws := h.wst
  have hll := h.len
  obtain ⟨j, rfl⟩ := Int.eq_ofNat_of_zero_le h0
  have hj : j < ws.length := by omega
  rw [Int.toNat_natCast]
  have cj := h.word_at j hj
  obtain ⟨_, zj⟩ := h.free j
  have H := Lib.hid h
  clear h
  generalize hx : ws.getD j 0 = x at *
  have HX := Lib.hid hx
  clear hx
  go_enter Try.func28, Try.ntmps28
  go_wp2
  go_ret
  exact ⟨rfl, H.out.acc _ _, (((Fr.refl _ _).set (Or.inl rfl) _).set (Or.inl rfl) _).set (Or.inl rfl) _⟩
set_option maxRecDepth 100000 in
theorem RStore_in (h : RefAt W b g ws st wi at_ kd) (hs : st ≤ 1000000000) (i : Int) (h0 : 0 ≤ i) (h1 : i < ws.length) (v : Int) : Calls Try.prog 29 #[.pointer (some ⟨b, 0, none⟩), .int .i64 i, .int .u64 v] W fun e w' => e = .returned (.tuple #[]) ∧ RefAt w' b g (ws.set i.toNat v) (st + 1) wi i 2 ∧ Fr (own2 b g) W w' := by
  obtain ⟨c0, c1, c2, c3, c4⟩ := h.cells
  obtain ⟨z1, _⟩ := h.free 1
  obtain ⟨z2, _⟩ := h.free 2
  obtain ⟨z3, _⟩ := h.free 3
  obtain ⟨z4, _⟩ := h.free 4
  have hne := h.ne
  have hne' := h.ne.symm
  have hst := h.st0
  have hwi := h.wi0
  have hws := h.wst
  have hll := h.len
  obtain ⟨j, rfl⟩ := Int.eq_ofNat_of_zero_le h0
  have hj : j < ws.length := by omega
  rw [Int.toNat_natCast]
  have cj := h.word_at j hj
  obtain ⟨_, zj⟩ := h.free j
  have H := Lib.hid h
  clear h
  generalize hx : ws.getD j 0 = x at *
  have HX := Lib.hid hx
  clear hx
  go_enter Try.func29, Try.ntmps29
  go_wp2
  go_end0
  exact ⟨rfl, (H.out.acc _ _).word _ _, ((((Fr.refl _ _).set (Or.inl rfl) _).set (Or.inl rfl) _).set (Or.inl rfl) _).set (Or.inr rfl) _⟩
set_option maxRecDepth 100000 in
theorem RAdd_in (h : RefAt W b g ws st wi at_ kd) (hs : st ≤ 1000000000) (i : Int) (h0 : 0 ≤ i) (h1 : i < ws.length) (v : Int) : Calls Try.prog 31 #[.pointer (some ⟨b, 0, none⟩), .int .i64 i, .int .u64 v] W fun e w' => e = .returned (.int .u64 (IntKind.u64.wrap (ws.getD i.toNat 0 + v))) ∧ RefAt w' b g (ws.set i.toNat (IntKind.u64.wrap (ws.getD i.toNat 0 + v))) (st + 1) wi i 4 ∧ Fr (own2 b g) W w' := by
  obtain ⟨j, rfl⟩ := Int.eq_ofNat_of_zero_le h0
  have hj : j < ws.length := by omega
  have hll := h.len
  rw [Int.toNat_natCast]
  generalize hx : ws.getD j 0 = x at *
  have HX := Lib.hid hx
  clear hx
  generalize hy : IntKind.u64.wrap (x + v) = y at *
  go_enter Try.func31, Try.ntmps31
  go_wp2_with fail
  refine (RThere_in h hs _ h0 h1 4).mono ?_
  rintro e w1 ⟨rfl, H, hF⟩
  obtain ⟨c0, c1, c2, c3, c4⟩ := H.cells
  have cj := H.word_at j hj
  rw [HX.out] at cj
  obtain ⟨_, zj⟩ := H.free j
  have hne := h.ne
  have hne' := h.ne.symm
  clear h
  go_wp2_with fail
  go_region
  all_goals go_wp2
  all_goals go_ret
  all_goals exact ⟨rfl, (H.word _ _).dr, (hF.set (Or.inr rfl) _).dr⟩
set_option maxRecDepth 100000 in
theorem RCAS_hit (h : RefAt W b g ws st wi at_ kd) (hs : st ≤ 1000000000) (i : Int) (h0 : 0 ≤ i) (h1 : i < ws.length) (old new : Int) (hit : (ws.getD i.toNat 0 != old) = false) : Calls Try.prog 30 #[.pointer (some ⟨b, 0, none⟩), .int .i64 i, .int .u64 old, .int .u64 new] W fun e w' => e = .returned (.bool true) ∧ RefAt w' b g (ws.set i.toNat new) (st + 1) (wi + 1) i 3 ∧ Fr (own2 b g) W w' := by
  obtain ⟨c0, c1, c2, c3, c4⟩ := h.cells
  obtain ⟨z1, _⟩ := h.free 1
  obtain ⟨z2, _⟩ := h.free 2
  obtain ⟨z3, _⟩ := h.free 3
  obtain ⟨z4, _⟩ := h.free 4
  have hne := h.ne
  have hne' := h.ne.symm
  have hst := h.st0
  have hwi := h.wi0
  have hws := h.wst
  have hll := h.len
  obtain ⟨j, rfl⟩ := Int.eq_ofNat_of_zero_le h0
  have hj : j < ws.length := by omega
  rw [Int.toNat_natCast] at *
  have cj := h.word_at j hj
  obtain ⟨_, zj⟩ := h.free j
  have H := Lib.hid h
  clear h
  generalize hx : ws.getD j 0 = x at *
  have HX := Lib.hid hx
  clear hx
  go_enter Try.func30, Try.ntmps30
  go_wp2
  go_ret
  exact ⟨rfl, ((H.out.acc _ _).word _ _).win (by omega), (((((Fr.refl _ _).set (Or.inl rfl) _).set (Or.inl rfl) _).set (Or.inl rfl) _).set (Or.inr rfl) _).set (Or.inl rfl) _⟩
set_option maxRecDepth 100000 in
theorem RCAS_miss (h : RefAt W b g ws st wi at_ kd) (hs : st ≤ 1000000000) (i : Int) (h0 : 0 ≤ i) (h1 : i < ws.length) (old new : Int) (hit : (ws.getD i.toNat 0 != old) = true) : Calls Try.prog 30 #[.pointer (some ⟨b, 0, none⟩), .int .i64 i, .int .u64 old, .int .u64 new] W fun e w' => e = .returned (.bool false) ∧ RefAt w' b g ws (st + 1) wi i 3 ∧ Fr (own2 b g) W w' := by
  obtain ⟨c0, c1, c2, c3, c4⟩ := h.cells
  obtain ⟨z1, _⟩ := h.free 1
  obtain ⟨z2, _⟩ := h.free 2
  obtain ⟨z3, _⟩ := h.free 3
  obtain ⟨z4, _⟩ := h.free 4
  have hne := h.ne
  have hne' := h.ne.symm
  have hst := h.st0
  have hwi := h.wi0
  have hws := h.wst
  have hll := h.len
  obtain ⟨j, rfl⟩ := Int.eq_ofNat_of_zero_le h0
  have hj : j < ws.length := by omega
  rw [Int.toNat_natCast] at *
  have cj := h.word_at j hj
  obtain ⟨_, zj⟩ := h.free j
  have H := Lib.hid h
  clear h
  generalize hx : ws.getD j 0 = x at *
  have HX := Lib.hid hx
  clear hx
  go_enter Try.func30, Try.ntmps30
  go_wp2
  go_ret
  exact ⟨rfl, H.out.acc _ _, (((Fr.refl _ _).set (Or.inl rfl) _).set (Or.inl rfl) _).set (Or.inl rfl) _⟩
set_option maxRecDepth 100000 in
theorem RLoad_out (h : RefAt W b g ws st wi at_ kd) (i : Int) (ho : i < 0 ∨ ws.length ≤ i) : Calls Try.prog 28 #[.pointer (some ⟨b, 0, none⟩), .int .i64 i] W fun e w' => e = .returned (.int .u64 0) ∧ W = w' := by
  obtain ⟨c0, c1, c2, c3, c4⟩ := h.cells
  obtain ⟨z1, _⟩ := h.free 1
  obtain ⟨z2, _⟩ := h.free 2
  obtain ⟨z3, _⟩ := h.free 3
  obtain ⟨z4, _⟩ := h.free 4
  have hne := h.ne
  have hne' := h.ne.symm
  have hst := h.st0
  have hwi := h.wi0
  have hws := h.wst
  have hll := h.len
  rcases ho with ho | ho
  · go_enter Try.func28, Try.ntmps28
    go_wp2
    go_ret
    exact ⟨rfl, rfl⟩
  · have h0 : 0 ≤ i := by omega
    have h2 : ¬ i < ws.length := by omega
    go_enter Try.func28, Try.ntmps28
    go_wp2
    go_ret
    exact ⟨rfl, rfl⟩
set_option maxRecDepth 100000 in
theorem RAdd_out (h : RefAt W b g ws st wi at_ kd) (i : Int) (ho : i < 0 ∨ ws.length ≤ i) (v : Int) : Calls Try.prog 31 #[.pointer (some ⟨b, 0, none⟩), .int .i64 i, .int .u64 v] W fun e w' => e = .returned (.int .u64 0) ∧ W = w' := by
  obtain ⟨c0, c1, c2, c3, c4⟩ := h.cells
  obtain ⟨z1, _⟩ := h.free 1
  obtain ⟨z2, _⟩ := h.free 2
  obtain ⟨z3, _⟩ := h.free 3
  obtain ⟨z4, _⟩ := h.free 4
  have hne := h.ne
  have hne' := h.ne.symm
  have hst := h.st0
  have hwi := h.wi0
  have hws := h.wst
  have hll := h.len
  rcases ho with ho | ho
  · go_enter Try.func31, Try.ntmps31
    go_wp2
    go_ret
    exact ⟨rfl, rfl⟩
  · have h0 : 0 ≤ i := by omega
    have h2 : ¬ i < ws.length := by omega
    go_enter Try.func31, Try.ntmps31
    go_wp2
    go_ret
    exact ⟨rfl, rfl⟩
set_option maxRecDepth 100000 in
theorem RStore_out (h : RefAt W b g ws st wi at_ kd) (i : Int) (ho : i < 0 ∨ ws.length ≤ i) (v : Int) : Calls Try.prog 29 #[.pointer (some ⟨b, 0, none⟩), .int .i64 i, .int .u64 v] W fun e w' => e = .returned (.tuple #[]) ∧ W = w' := by
  obtain ⟨c0, c1, c2, c3, c4⟩ := h.cells
  obtain ⟨z1, _⟩ := h.free 1
  obtain ⟨z2, _⟩ := h.free 2
  obtain ⟨z3, _⟩ := h.free 3
  obtain ⟨z4, _⟩ := h.free 4
  have hne := h.ne
  have hne' := h.ne.symm
  have hst := h.st0
  have hwi := h.wi0
  have hws := h.wst
  have hll := h.len
  rcases ho with ho | ho
  · go_enter Try.func29, Try.ntmps29
    go_wp2
    go_end0
    exact ⟨rfl, rfl⟩
  · have h0 : 0 ≤ i := by omega
    have h2 : ¬ i < ws.length := by omega
    go_enter Try.func29, Try.ntmps29
    go_wp2
    go_end0
    exact ⟨rfl, rfl⟩
set_option maxRecDepth 100000 in
theorem RCAS_out (h : RefAt W b g ws st wi at_ kd) (i : Int) (ho : i < 0 ∨ ws.length ≤ i) (v v2 : Int) : Calls Try.prog 30 #[.pointer (some ⟨b, 0, none⟩), .int .i64 i, .int .u64 v, .int .u64 v2] W fun e w' => e = .returned (.bool false) ∧ W = w' := by
  obtain ⟨c0, c1, c2, c3, c4⟩ := h.cells
  obtain ⟨z1, _⟩ := h.free 1
  obtain ⟨z2, _⟩ := h.free 2
  obtain ⟨z3, _⟩ := h.free 3
  obtain ⟨z4, _⟩ := h.free 4
  have hne := h.ne
  have hne' := h.ne.symm
  have hst := h.st0
  have hwi := h.wi0
  have hws := h.wst
  have hll := h.len
  rcases ho with ho | ho
  · go_enter Try.func30, Try.ntmps30
    go_wp2
    go_ret
    exact ⟨rfl, rfl⟩
  · have h0 : 0 ≤ i := by omega
    have h2 : ¬ i < ws.length := by omega
    go_enter Try.func30, Try.ntmps30
    go_wp2
    go_ret
    exact ⟨rfl, rfl⟩
end
end Go.Proofs.Ytpcbcnheogjofaa
