/- Layer 3's awake. -/
import Derived.Test.YtpcbcnheogjofaaCell
namespace Go.Proofs.Ytpcbcnheogjofaa
open Go.RowKit
set_option linter.unusedVariables false
set_option linter.unusedSimpArgs false
theorem own2_ge (n : Nat) : ∀ k, own2 (n + 1) n k → n ≤ k := by
  intro k hk
  rcases hk with rfl | rfl <;> omega

set_option maxRecDepth 100000 in
theorem awake3 (w : World) : Calls Try.prog 22 #[] w fun e w' => e = .returned (.bool true) ∧ Below w.heap.size w w' := by
  have ho := own2_ge w.heap.size
  have HO := Lib.hid ho
  clear ho
  go_enter Try.func22, Try.ntmps22
  go_wp2_with fail
  refine (New_in 1 (by decide) (by decide) _).mono ?_
  rintro e w1 ⟨rfl, hM1, hB1⟩
  rw [show List.replicate (1 : Int).toNat (0 : Int) = [0] from rfl] at hM1
  go_wp2_with fail
  refine (Store_in hM1 (by decide) 0 (by decide) (by decide) 5).mono ?_
  rintro e w2 ⟨rfl, hM2, hF2⟩
  have hB2 := hF2.below hB1 HO.out
  clear hM1 hB1 hF2
  rw [show List.set [(0 : Int)] (0 : Int).toNat 5 = [5] from rfl, show (0 : Int) + 1 = 1 from rfl] at hM2
  go_wp2_with fail
  refine (CAS_hit hM2 (by decide) 0 (by decide) (by decide) 5 6 (by decide)).mono ?_
  rintro e w3 ⟨rfl, hM3, hF3⟩
  have hB3 := hF3.below hB2 HO.out
  clear hM2 hB2 hF3
  rw [show List.set [(5 : Int)] (0 : Int).toNat 6 = [6] from rfl] at hM3
  go_wp2_with fail
  refine (CAS_miss hM3 (by decide) 0 (by decide) (by decide) 5 7 (by decide)).mono ?_
  rintro e w4 ⟨rfl, hM4, hF4⟩
  have hB4 := hF4.below hB3 HO.out
  clear hM3 hB3 hF4
  go_wp2_with fail
  refine (Load_in hM4 (by decide) 0 (by decide) (by decide)).mono ?_
  rintro e w5 ⟨rfl, hM5, hF5⟩
  have hB5 := hF5.below hB4 HO.out
  clear hM4 hB4 hF5
  rw [show List.getD [(6 : Int)] (0 : Int).toNat 0 = 6 from rfl]
  go_wp2_with (first | (go_at_call 25; refine (Steps_any hM5 (by decide)).mono ?_; rintro e w' ⟨rfl, rfl⟩) | (go_at_call 21; refine (Wins_any hM5 (by decide)).mono ?_; rintro e w' ⟨rfl, rfl⟩))
  go_ret
  exact ⟨rfl, hB5⟩
end Go.Proofs.Ytpcbcnheogjofaa
