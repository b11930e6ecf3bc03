/- Contracts of the reference's Credits. -/
import Derived.Test.YtpcbcnheogjofaaCredit
import Derived.BigQuiet
namespace Go.Proofs.Ytpcbcnheogjofaa
open Go.RowKit Go.Proofs.YtpcbcnheogjofaaW.PrintWords
set_option linter.unusedVariables false
set_option linter.unusedSimpArgs false

/-- The reference's credits at block r. -/
def RC (W : World) (r : Nat) (n o m : Int) : Prop := W.heap[r]? = some (.cells #[.int .i64 n, .int .i64 o, .int .i64 m] 54 (0, 0))
section
variable {W W' : World} {r c b g : Nat} {n o m K : Int}
theorem RC.cells (h : RC W r n o m) : W.cell? ⟨r, 0, none⟩ = some (.int .i64 n) ∧ W.cell? ⟨r, 1, none⟩ = some (.int .i64 o) ∧ W.cell? ⟨r, 2, none⟩ = some (.int .i64 m) ∧ ∀ i, W.frozen? ⟨r, i, none⟩ = false := by
  unfold RC at h
  refine ⟨?_, ?_, ?_, fun i => ?_⟩ <;> simp [World.cell?, World.frozen?, h]
theorem RC.out (h : RC W r n o m) (x : Int) : RC (W.setCell ⟨r, 1, none⟩ (.int .i64 x)) r n x m := by
  unfold RC at *
  rw [heap_set h]
  rfl
theorem RC.most (h : RC W r n o m) (x : Int) : RC (W.setCell ⟨r, 2, none⟩ (.int .i64 x)) r n o x := by
  unfold RC at *
  rw [heap_set h]
  rfl
theorem RC.fr {S : Nat → Prop} (h : RC W r n o m) (f : Fr S W W') (hs : ¬ S r) : RC W' r n o m := (f.block r (Array.getElem?_eq_some_iff.1 h).1 hs).trans h
theorem fr1_set (f : Fr (· = r) W W') (j : Nat) (v : Value) : Fr (· = r) W (W'.setCell ⟨r, j, none⟩ v) := Fr.set (S := (· = r)) f (p := ⟨r, j, none⟩) rfl v
theorem RC.dr (h : RC W r n o m) : RC W.drew r n o m := h
theorem CrAt.fr {S : Nat → Prop} (h : CrAt W c b g n o m K) (f : Fr S W W') (h1 : ¬ S c) (h2 : ¬ S b) (h3 : ¬ S g) : CrAt W' c b g n o m K := by
  obtain ⟨st, wi, at_, kd, hs, hM⟩ := h.mem
  exact { h with hdr := (f.block c (Array.getElem?_eq_some_iff.1 h.hdr).1 h1).trans h.hdr, mem := ⟨st, wi, at_, kd, hs, hM.fr f h2 h3⟩ }
set_option maxRecDepth 100000 in
theorem RTake_miss (h : RC W r n n m) : Calls Try.prog 39 #[.pointer (some ⟨r, 0, none⟩)] W fun e w' => e = .returned (.bool false) ∧ RC w' r n n m ∧ Fr (· = r) W w' := by
  obtain ⟨c0, c1, c2, c3⟩ := h.cells
  go_enter Try.func39, Try.ntmps39
  go_wp2_with fail
  go_quiet (fail)
  go_wp2_with fail
  go_ret
  exact ⟨rfl, h, (Fr.refl _ _).drN _⟩
set_option maxRecDepth 100000 in
theorem RGive_miss (h : RC W r n 0 m) : Calls Try.prog 40 #[.pointer (some ⟨r, 0, none⟩)] W fun e w' => e = .returned (.int .i64 7) ∧ RC w' r n 0 m ∧ Fr (· = r) W w' := by
  obtain ⟨c0, c1, c2, c3⟩ := h.cells
  go_enter Try.func40, Try.ntmps40
  go_wp2_with fail
  go_ret
  exact ⟨rfl, h, Fr.refl _ _⟩
set_option maxRecDepth 100000 in
theorem RGive_hit (h : RC W r n o m) (h0 : 0 < o) (h1 : o ≤ 64) : Calls Try.prog 40 #[.pointer (some ⟨r, 0, none⟩)] W fun e w' => e = .returned (.int .i64 0) ∧ RC w' r n (o - 1) m ∧ Fr (· = r) W w' := by
  obtain ⟨c0, c1, c2, c3⟩ := h.cells
  have f1 := c3 1
  have q : (o == 0) = false := by simp; omega
  have q2 : IntKind.i64.wrap (o - 1) = o - 1 := by rw [IntKind.wrap_i64]; omega
  go_enter Try.func40, Try.ntmps40
  go_wp2_with fail
  go_ret
  exact ⟨rfl, h.out _, fr1_set (Fr.refl _ _) _ _⟩
set_option maxRecDepth 100000 in
theorem RTake_hit (h : RC W r n o m) (h0 : 0 ≤ o) (h1 : o < n) (h2 : n ≤ 64) {m' : Int} (hm : (m < o + 1 ∧ m' = o + 1) ∨ (o + 1 ≤ m ∧ m' = m)) : Calls Try.prog 39 #[.pointer (some ⟨r, 0, none⟩)] W fun e w' => e = .returned (.bool true) ∧ RC w' r n (o + 1) m' ∧ Fr (· = r) W w' := by
  obtain ⟨c0, c1, c2, c3⟩ := h.cells
  have f1 := c3 1
  have f2 := c3 2
  have q : (o == n) = false := by simp; omega
  have q2 : IntKind.i64.wrap (o + 1) = o + 1 := by rw [IntKind.wrap_i64]; omega
  rcases hm with ⟨hmx, rfl⟩ | ⟨hmx, rfl⟩
  · go_enter Try.func39, Try.ntmps39
    go_wp2_with fail
    go_quiet (fail)
    go_wp2_with fail
    have hR1 := (show RC (W.drewN nq) r n o m from h).out (o + 1)
    obtain ⟨d0, d1, d2, d3⟩ := hR1.cells
    have g2 := d3 2
    have hmn : ¬ (o + 1 ≤ m) := by omega
    go_region
    all_goals go_wp2
    all_goals go_ret
    exact ⟨rfl, (hR1.most _).dr, (fr1_set (fr1_set ((Fr.refl _ _).drN _) _ _) _ _).dr⟩
  · go_enter Try.func39, Try.ntmps39
    go_wp2_with fail
    go_quiet (fail)
    go_wp2_with fail
    have hR1 := (show RC (W.drewN nq) r n o m' from h).out (o + 1)
    obtain ⟨d0, d1, d2, d3⟩ := hR1.cells
    have g2 := d3 2
    have hmn : ¬ (m' < o + 1) := by omega
    go_region
    all_goals go_wp2
    all_goals go_ret
    exact ⟨rfl, (hR1.most _).dr, (fr1_set (fr1_set ((Fr.refl _ _).drN _) _ _) _ _).dr⟩
end
end Go.Proofs.Ytpcbcnheogjofaa
