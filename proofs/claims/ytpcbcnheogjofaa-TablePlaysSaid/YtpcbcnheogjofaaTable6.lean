/- Package table, sixth part: what the document fixes; rows' cells that are set. -/
import Derived.Test.YtpcbcnheogjofaaTable4
import Derived.Test.YtpcbcnheogjofaaTable5
namespace Go.Proofs.Ytpcbcnheogjofaa
open Go.RowKit Go.Maps Go.Proofs.YtpcbcnheogjofaaW.PrintWords
set_option linter.unusedVariables false
set_option linter.unusedSimpArgs false

theorem updC_bd {C : Int → Int → Int} (h : ∀ x y, 0 ≤ C x y ∧ C x y ≤ 1000000) (x y v : Int) (v0 : 0 ≤ v) (v1 : v ≤ 1000000) : ∀ p q, 0 ≤ updC C x y v p q ∧ updC C x y v p q ≤ 1000000 := by
  intro p q
  unfold updC
  split
  · exact ⟨v0, v1⟩
  · exact h p q
theorem len_setJob (R : List Value) (k : Nat) (f p d r m : Int) : (setJob R k f p d r m).length = R.length := by simp [setJob]
theorem job_setJob (R : List Value) (hl : R.length = 13) (f p d r m : Int) : JobR (setJob R 0 f p d r m) 0 f p d r m := by
  unfold JobR setJob
  refine ⟨?_, ?_, ?_, ?_, ?_⟩ <;> simp [List.getElem?_set, hl]
theorem task_setJob {R : List Value} {a0 a1 a2 a3 a4 a5 a6 : Value} (h : TaskR R 0 a0 a1 a2 a3 a4 a5 a6) (f p d r m : Int) : TaskR (setJob R 0 f p d r m) 0 a0 a1 a2 a3 a4 a5 a6 := by
  obtain ⟨h0, h1, h2, h3, h4, h5, h6⟩ := h
  unfold TaskR setJob
  simp only [Nat.zero_mul, Nat.zero_add] at *
  refine ⟨?_, ?_, ?_, ?_, ?_, ?_, ?_⟩ <;> simp [List.getElem?_set, h0, h1, h2, h3, h4, h5, h6]
theorem job_set3 {R : List Value} {f p d r m : Int} (h : JobR R 0 f p d r m) (v : Value) : JobR (R.set (0 * 13 + 3) v) 0 f p d r m := by
  obtain ⟨h0, h1, h2, h3, h4⟩ := h
  unfold JobR
  simp only [Nat.zero_mul, Nat.zero_add] at *
  refine ⟨?_, ?_, ?_, ?_, ?_⟩ <;> simp [List.getElem?_set, h0, h1, h2, h3, h4]
theorem task_set3 {R : List Value} (hl : R.length = 13) {a0 a1 a2 a3 a4 a5 a6 : Value} (h : TaskR R 0 a0 a1 a2 a3 a4 a5 a6) (v : Value) : TaskR (R.set (0 * 13 + 3) v) 0 a0 a1 a2 v a4 a5 a6 := by
  obtain ⟨h0, h1, h2, h3, h4, h5, h6⟩ := h
  unfold TaskR
  refine ⟨?_, ?_, ?_, ?_, ?_, ?_, ?_⟩
  · rw [List.getElem?_set_ne (by decide)]; exact h0
  · rw [List.getElem?_set_ne (by decide)]; exact h1
  · rw [List.getElem?_set_ne (by decide)]; exact h2
  · simp [List.getElem?_set, hl]
  · rw [List.getElem?_set_ne (by decide)]; exact h4
  · rw [List.getElem?_set_ne (by decide)]; exact h5
  · rw [List.getElem?_set_ne (by decide)]; exact h6
set_option maxRecDepth 100000 in
set_option maxHeartbeats 4000000 in
theorem awake17 (w : World) : Calls Try.prog 70 #[] w fun e w' => e = .returned (.bool true) ∧ Below w.heap.size w w' := by
  have hz : ∀ x y : Int, (0 : Int) ≤ (fun _ _ => 0 : Int → Int → Int) x y ∧ (fun _ _ => 0 : Int → Int → Int) x y ≤ 1000000 := fun _ _ => ⟨Int.le_refl 0, by show (0 : Int) ≤ 1000000; decide⟩
  have HZ := Lib.hid hz
  clear hz
  go_enter Try.func70, Try.ntmps70
  go_wp2_with fail
  refine (TNew_in 5 (by decide) (by decide) _).mono ?_
  rintro e w1 ⟨t, a, b, g, mb, base, rfl, h1, hbs, ht, ha, hb, hg, hmb, hB⟩
  rw [show List.replicate (5 : Int).toNat (0 : Int) = [0, 0, 0, 0, 0] from rfl] at h1
  have HO := Lib.hid (show ∀ x, (own2 b g x ∨ x = mb ∨ x = t ∨ some x = (Value.slice none 0 0).ownBlock) → w.heap.size ≤ x from fun x hx => by
    rcases hx with (h | h) | h | h | h
    · omega
    · omega
    · omega
    · omega
    · cases h)
  go_wp2_with fail
  refine (TMake_ok h1 hbs (by decide) (by decide) (by decide) (fun j hj => by omega) (by decide) 3 2 0 0 0 0 0 (by decide) (by decide) (by decide) (by decide) (by decide) (by decide) (by decide) (by decide) (by decide) (.inl rfl) HZ.out).mono ?_
  rintro e w2 ⟨q, cap, rfl, h2, hF2⟩
  rw [show ([0, 0, 0, 0, 0] : List Int).set 0 (nextI (([0, 0, 0, 0, 0] : List Int).getD 0 0) 2) = [10, 0, 0, 0, 0] from by decide] at h2
  rw [show ((0 : Nat) : Int) + 1 = 1 from rfl] at h2 ⊢
  have hB2 := hF2.below hB HO.out
  obtain ⟨C1, hC1⟩ : ∃ C1, updC (fun _ _ => 0) 2 3 ((fun _ _ => 0 : Int → Int → Int) 2 3 + 1) = C1 := ⟨_, rfl⟩
  rw [hC1] at h2
  have hcb : ∀ x y, 0 ≤ C1 x y ∧ C1 x y ≤ 1000000 := by rw [← hC1]; exact updC_bd HZ.out 2 3 _ (by decide) (by decide)
  have hsum : sumC (turnC C1 (10 % 8) 3 3) 3 8 = 1 := by rw [← hC1]; decide
  have htb : ∀ x y, 0 ≤ turnC C1 (10 % 8) 3 3 x y ∧ turnC C1 (10 % 8) 3 3 x y ≤ 1000000 := by
    unfold turnC
    refine updC_bd (updC_bd hcb _ _ _ ?_ ?_) _ _ _ ?_ ?_ <;> (rw [← hC1]; decide)
  have hq2 := h2.q_ge
  have hqw : w.heap.size ≤ q ∨ True := .inr trivial
  have hbase : w.heap.size ≤ base := by have := h2.lt; omega
  have HO2 := Lib.hid (own2_ge hb hg)
  have HO3 := Lib.hid (show ∀ x, own3 b g mb q x → w.heap.size ≤ x from fun x hx => by
    rcases hx with (h | h) | h | h
    · omega
    · omega
    · omega
    · have := hq2.1; omega)
  have HCB := Lib.hid hcb
  have HSUM := Lib.hid hsum
  have HTB := Lib.hid htb
  clear h1 hbs hB hF2 hC1 hcb hsum htb
  go_wp2_with fail
  refine (TTurn_bad h2 (by decide) 0 (by decide) (by decide) (by decide) 4 7 (by decide) (.inr ⟨by decide, by decide, by decide, rfl⟩)).mono ?_
  rintro e w3 ⟨rfl, h3, hF3⟩
  have hB3 := hF3.below hB2 HO2.out
  clear h2 hB2 hF3
  go_wp2_with fail
  refine (TTurn_ok h3 (by decide) 0 (by decide) (by decide) (by decide) 3 (by decide) (by decide) (by decide) HCB.out 3 0 (by decide) (by decide) rfl rfl).mono ?_
  rintro e w4 ⟨rfl, h4, hF4⟩
  have hB4 := hF4.below hB3 HO3.out
  clear h3 hB3 hF4
  go_wp2_with fail
  refine (TCount_any h4 HTB.out 3 (show (Lit.int .i64 3).wf = true from by decide)).mono ?_
  rintro e w5 ⟨rfl, rfl⟩
  rw [show ([10, 0, 0, 0, 0] : List Int).getD 0 0 = 10 from rfl, HSUM.out]
  go_wp2_with fail
  go_ret
  exact ⟨rfl, hB4⟩
end Go.Proofs.Ytpcbcnheogjofaa
