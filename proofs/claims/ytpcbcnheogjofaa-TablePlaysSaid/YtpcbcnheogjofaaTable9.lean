/- Contracts of package table: a task's key, its job, its body; what is told of a task that does not come again. -/
import Derived.Test.YtpcbcnheogjofaaTable8
namespace Go.Proofs.Ytpcbcnheogjofaa
open Go.RowKit Go.Maps Go.Shelf Go.Proofs.YtpcbcnheogjofaaW.PrintWords
set_option linter.unusedVariables false
set_option linter.unusedSimpArgs false

section
variable {W W' : World} {t a b g mb : Nat} {ws : List Int} {B : Int} {rv : Value} {n : Nat} {R : List Value} {C : Int → Int → Int} {base : Nat} {q cap : Nat}
set_option maxRecDepth 100000 in
theorem TKey_in (h : TbAt W t a b g mb ws B (.slice (some ⟨q, 0, none⟩) n cap) n R C base) (id : Int) (k : Nat) (hid : id = k + 1) (hk : k < n) (hn : n ≤ 5000) (old key : Int) (hR : R[k * 13 + 4]? = some (.int .u64 old)) : Calls Try.prog 75 #[.pointer (some ⟨t, 0, none⟩), .int .i64 id, .int .u64 key] W fun e w' => e = .returned (.int .i64 0) ∧ w' = W.setCell ⟨q, k * 13 + 4, none⟩ (.int .u64 key) := by
  subst hid
  have hat := at_in h ((k : Int) + 1) k rfl hk hn
  have c3 := h.rcell (k * 13 + 4) (by omega) _ hR
  have f3 := h.rfree (k * 13 + 4)
  have HAT := Lib.hid hat
  clear h hat hR
  go_enter Try.func75, Try.ntmps75
  go_wp2_with fail
  refine HAT.out.mono ?_
  rintro e w' ⟨rfl, rfl⟩
  go_wp2_with fail
  go_ret
  exact ⟨rfl, rfl⟩
set_option maxRecDepth 100000 in
theorem TKey_out {A : Option Addr} (h : TbAt W t a b g mb ws B (.slice A n cap) n R C base) (id : Int) (ho : id < 1 ∨ (n : Int) < id) (hn : n ≤ 5000) (key : Int) : Calls Try.prog 75 #[.pointer (some ⟨t, 0, none⟩), .int .i64 id, .int .u64 key] W fun e w' => e = .returned (.int .i64 1) ∧ W = w' := by
  have HAT := Lib.hid (at_out h id ho hn)
  clear h
  go_enter Try.func75, Try.ntmps75
  go_wp2_with fail
  refine HAT.out.mono ?_
  rintro e w' ⟨rfl, rfl⟩
  go_wp2_with fail
  go_ret
  exact ⟨rfl, rfl⟩
set_option maxRecDepth 100000 in
theorem TAgain_zero (h : TbAt W t a b g mb ws B (.slice (some ⟨q, 0, none⟩) n cap) n R C base) (id now : Int) (k : Nat) (hid : id = k + 1) (hk : k < n) (hn : n ≤ 5000) (hR : R[k * 13 + 9]? = some (.int .u64 0)) : Calls Try.prog 71 #[.pointer (some ⟨t, 0, none⟩), .int .i64 id, .int .u64 now] W fun e w' => e = .returned (.tuple #[.int .u64 0, .bool false]) ∧ W = w' := by
  subst hid
  have hat := at_in h ((k : Int) + 1) k rfl hk hn
  have c9 := h.rcell (k * 13 + 9) (by omega) _ hR
  have HAT := Lib.hid hat
  clear h hat hR
  go_enter Try.func71, Try.ntmps71
  go_wp2_with fail
  refine HAT.out.mono ?_
  rintro e w' ⟨rfl, rfl⟩
  go_wp2_with fail
  go_ret2
  exact ⟨rfl, rfl⟩
set_option maxRecDepth 100000 in
theorem TGet_out {A : Option Addr} (h : TbAt W t a b g mb ws B (.slice A n cap) n R C base) (id : Int) (ho : id < 1 ∨ (n : Int) < id) (hn : n ≤ 5000) : Calls Try.prog 72 #[.pointer (some ⟨t, 0, none⟩), .int .i64 id] W fun e w' => e = .returned (.tuple #[.agg #[.int .i64 0, .int .i64 0, .int .i64 0, .int .u64 0, .int .u64 0, .int .u64 0, .int .u64 0], .bool false]) ∧ Below W.heap.size W w' := by
  obtain ⟨x, hx⟩ : ∃ x, W.heap.size = x := ⟨_, rfl⟩
  obtain ⟨W0, hW0⟩ : ∃ W0, W.alloc (.cells #[.int .i64 0, .int .i64 0, .int .i64 0, .int .u64 0, .int .u64 0, .int .u64 0, .int .u64 0] 98) = W0 := ⟨_, rfl⟩
  have h0 : TbAt W0 t a b g mb ws B (.slice A n cap) n R C base := by rw [← hW0]; exact h.al _
  have HAT := Lib.hid (at_out h0 id ho hn)
  have hx0 : W0.heap[x]? = some (.cells #[.int .i64 0, .int .i64 0, .int .i64 0, .int .u64 0, .int .u64 0, .int .u64 0, .int .u64 0] 98 (0, 0)) := by rw [← hW0, ← hx]; exact heap_alloc_new W _
  have hB0 : Below W.heap.size W W0 := by rw [← hW0]; exact below_al (Below.refl _ _) _
  have HB := Lib.hid hB0
  have HX := Lib.hid hx
  have x0 : W0.cell? ⟨x, 0, none⟩ = some (.int .i64 0) := by simp [World.cell?, hx0]
  have x1 : W0.cell? ⟨x, 1, none⟩ = some (.int .i64 0) := by simp [World.cell?, hx0]
  have x2 : W0.cell? ⟨x, 2, none⟩ = some (.int .i64 0) := by simp [World.cell?, hx0]
  have x3 : W0.cell? ⟨x, 3, none⟩ = some (.int .u64 0) := by simp [World.cell?, hx0]
  have x4 : W0.cell? ⟨x, 4, none⟩ = some (.int .u64 0) := by simp [World.cell?, hx0]
  have x5 : W0.cell? ⟨x, 5, none⟩ = some (.int .u64 0) := by simp [World.cell?, hx0]
  have x6 : W0.cell? ⟨x, 6, none⟩ = some (.int .u64 0) := by simp [World.cell?, hx0]
  have f0 : W0.frozen? ⟨x, 0, none⟩ = false := by simp [World.frozen?, hx0]
  have f1 : W0.frozen? ⟨x, 1, none⟩ = false := by simp [World.frozen?, hx0]
  have f2 : W0.frozen? ⟨x, 2, none⟩ = false := by simp [World.frozen?, hx0]
  have f3 : W0.frozen? ⟨x, 3, none⟩ = false := by simp [World.frozen?, hx0]
  have f4 : W0.frozen? ⟨x, 4, none⟩ = false := by simp [World.frozen?, hx0]
  have f5 : W0.frozen? ⟨x, 5, none⟩ = false := by simp [World.frozen?, hx0]
  have f6 : W0.frozen? ⟨x, 6, none⟩ = false := by simp [World.frozen?, hx0]
  go_enter Try.func72, Try.ntmps72
  go_upto_region 1 with fail
  try rw [hW0]
  clear hW0 h h0 hx0 hB0
  go_wp2_with fail
  refine HAT.out.mono ?_
  rintro e w' ⟨rfl, rfl⟩
  go_wp2_with fail
  refine bodyPost_ret (v := .tuple #[.agg #[.int .i64 0, .int .i64 0, .int .i64 0, .int .u64 0, .int .u64 0, .int .u64 0, .int .u64 0], .bool false]) (by simp [results, Try.results72, go_sem, x0, x1, x2, x3, x4, x5, x6]) rfl ?_
  refine ⟨rfl, ?_⟩
  have hge : W.heap.size ≤ x := by rw [HX.out]; exact Nat.le_refl _
  exact (((((((HB.out.setCell (p := (⟨x, 0, none⟩ : Addr)) hge _).setCell (p := (⟨x, 1, none⟩ : Addr)) hge _).setCell (p := (⟨x, 2, none⟩ : Addr)) hge _).setCell (p := (⟨x, 3, none⟩ : Addr)) hge _).setCell (p := (⟨x, 4, none⟩ : Addr)) hge _).setCell (p := (⟨x, 5, none⟩ : Addr)) hge _).setCell (p := (⟨x, 6, none⟩ : Addr)) hge _)
set_option maxRecDepth 100000 in
theorem TBody_in (h : TbAt W t a b g mb ws B (.slice (some ⟨q, 0, none⟩) n cap) n R C base) (id : Int) (k : Nat) (hid : id = k + 1) (hk : k < n) (hn : n ≤ 5000) (bv : Value) (L : List Op3) (hR : R[k * 13 + 7]? = some bv) (hL : L.length ≤ 1000) (hO : OpsV W bv L) : Calls Try.prog 100 #[.pointer (some ⟨t, 0, none⟩), .int .i64 id] W fun e w' => ∃ v', e = .returned v' ∧ OpsV w' v' L ∧ Below W.heap.size W w' := by
  subst hid
  have hat := at_in h ((k : Int) + 1) k rfl hk hn
  have c7 := h.rcell (k * 13 + 7) (by omega) _ hR
  have HAT := Lib.hid hat
  have HO := Lib.hid hO
  clear h hat hR hO
  go_enter Try.func100, Try.ntmps100
  go_wp2_with fail
  refine HAT.out.mono ?_
  rintro e w' ⟨rfl, rfl⟩
  go_wp2_with fail
  refine (Clone_any hL HO.out).mono ?_
  rintro e w1 ⟨v1, rfl, hO1, hf1, hB1⟩
  go_wp2_with fail
  refine (Clip_any hO1).mono ?_
  rintro e w2 ⟨v2, rfl, hO2, hb2, rfl⟩
  go_wp2_with fail
  go_ret
  exact ⟨v2, rfl, hO2, hB1⟩
set_option maxRecDepth 100000 in
theorem SameBody_any {va vb : Value} {L : List Op3} (hL : L.length ≤ 1000) (ha : OpsV W va L) (hb : OpsV W vb L) : Calls Try.prog 99 #[va, vb] W fun e w' => e = .returned (.bool true) ∧ Below W.heap.size W w' := by
  obtain ⟨A, ca, rfl, hA⟩ := ha.form
  obtain ⟨D, cb, rfl, hD⟩ := hb.form
  obtain ⟨n, hn⟩ : ∃ n, L.length = n := ⟨_, rfl⟩
  have HN := Lib.hid hn
  have HA := Lib.hid hA
  have HD := Lib.hid hD
  rw [hn] at hL ⊢
  clear hn hA hD ha hb
  go_enter Try.func99, Try.ntmps99
  go_wp2_with fail
  go_loopg [5] n (fun gg v5 wr => ∃ i : Nat, gg = n - i ∧ i ≤ n ∧ v5 = .int .i64 i ∧ Below W.heap.size W wr)
  case atStart => exact ⟨0, by omega, by omega, rfl, Below.refl _ _⟩
  case round =>
    obtain ⟨i, rfl, hi, rfl, hB⟩ := hrel
    by_cases hlt : i < n
    · have hg : L[i]? = some (L[i]'(by rw [HN.out]; exact hlt)) := List.getElem?_eq_getElem _
      obtain ⟨⟨k, x, y⟩, ho⟩ : ∃ o, L[i]'(by rw [HN.out]; exact hlt) = o := ⟨_, rfl⟩
      rw [ho] at hg
      rcases HA.out with h0 | ⟨c1, o1, rfl, hlt1, hcs1⟩
      · exfalso; rw [h0] at hg; simp at hg
      rcases HD.out with h0 | ⟨c2, o2, rfl, hlt2, hcs2⟩
      · exfalso; rw [h0] at hg; simp at hg
      obtain ⟨x0, x1, x2⟩ := hcs1 i k x y hg
      obtain ⟨y0, y1, y2⟩ := hcs2 i k x y hg
      have d0 := cell_keeps hB hlt1 x0
      have d1 := cell_keeps hB hlt1 x1
      have d2 := cell_keeps hB hlt1 x2
      have e0 := cell_keeps hB hlt2 y0
      have e1 := cell_keeps hB hlt2 y1
      have e2 := cell_keeps hB hlt2 y2
      clear hcs1 hcs2 x0 x1 x2 y0 y1 y2 hg ho
      go_wp2_with fail
      go_big_quiet (fail)
      have hB2 := below_drN hB nq
      go_wp2_with fail
      go_roundg (n - (i + 1))
      case measure => omega
      case rel => exact ⟨i + 1, rfl, by omega, by go_num, hB2⟩
    · obtain rfl : i = n := by omega
      go_wp2_with fail
      go_ret
      exact ⟨rfl, hB⟩
end
end Go.Proofs.Ytpcbcnheogjofaa
