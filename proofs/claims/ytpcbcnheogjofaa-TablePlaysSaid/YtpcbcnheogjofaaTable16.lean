/- The statement's own same, where there is no task yet. -/
import Derived.Test.YtpcbcnheogjofaaTable15
namespace Go.Proofs.Ytpcbcnheogjofaa
open Go.RowKit Go.Maps Go.Shelf Go.Proofs.YtpcbcnheogjofaaW.PrintWords
set_option linter.unusedVariables false
set_option linter.unusedSimpArgs false
section
variable {W : World} {t a b g mb : Nat} {ws : List Int} {B : Int} {TT : Nat → Tk} {base : Nat}
set_option maxRecDepth 100000 in
set_option maxHeartbeats 8000000 in
theorem same_nil (h : TbAt W t a b g mb ws B (.slice none 0 0) 0 [] (CG (stOf ws) (prOf TT) 0) base) (id : Int) : Calls Try.prog 76 #[.pointer (some ⟨t, 0, none⟩), .slice none 0 0, .int .i64 id] W fun e w' => e = .returned (.bool true) ∧ Below W.heap.size W w' := by
  have HALL := Lib.hid (TAll_nil h)
  have HTL := Lib.hid (TLen_any h (by decide))
  have HH := Lib.hid h
  clear h
  go_enter Try.func76, Try.ntmps76
  go_wp2_with fail
  refine HALL.out.mono ?_
  rintro e w1 ⟨rfl, rfl⟩
  go_wp2_with fail
  refine HTL.out.mono ?_
  rintro e w2 ⟨rfl, rfl⟩
  go_upto_region 5 with fail
  obtain ⟨cb, hcb⟩ : ∃ cb, W.heap.size = cb := ⟨_, rfl⟩
  obtain ⟨W2, hW2⟩ : ∃ W2, W.alloc (.cells #[.int .i64 0, .int .i64 0, .int .i64 0, .int .i64 0, .int .i64 0, .int .i64 0, .int .i64 0, .int .i64 0] 144) = W2 := ⟨_, rfl⟩
  have hR2 : RowI .i64 144 W2 cb (cntL (stOf ws) 0) := by
    rw [← hW2]
    unfold RowI
    rw [alloc_at hcb.symm]
    rfl
  have hB2 : Below W.heap.size W W2 := by rw [← hW2]; exact below_al (Below.refl _ _) _
  try rw [hcb]
  rw [hW2]
  clear hW2 hcb
  go_wp2_with fail
  refine wp_loop_rounds 1 ?_
  rw [rounds_succ]
  go_wp2_with fail
  go_loopg [14] 8 (fun gg v14 wx => ∃ s : Nat, gg = 8 - s ∧ s ≤ 8 ∧ v14 = .int .i64 s ∧ RowI .i64 144 wx cb (cntL (stOf ws) 0) ∧ Below W.heap.size W wx)
  case atStart => exact ⟨0, rfl, by omega, rfl, hR2, hB2⟩
  case round =>
    clear hR2 hB2
    obtain ⟨s, rfl, hs8, rfl, hR, hB⟩ := hrel
    have h3 := HH.out.below hB
    by_cases hlt3 : s < 8
    · have e1 := hR.cell s (by simp [cntL]; omega)
      rw [cntL_at _ 0 s hlt3] at e1
      have HCT := Lib.hid (fun n2 : Nat => TCount_any (h3.drN n2) (fun x y => ⟨by simp [CG], by simp [CG]⟩) (s : Int) (In64_small _ (by omega) (by omega)))
      rw [sumC_CG (S := stOf ws) (P := prOf TT) 0 (fun j hj => absurd hj (Nat.not_lt_zero _)) (s : Int)] at HCT
      have hz : cntG (stOf ws) 0 (s : Int) = 0 := rfl
      rw [hz] at e1 HCT
      have HR := Lib.hid hR
      clear hR hz h3
      go_wp2_with fail
      go_quiet ((go_at_call 68; exact Calls.quiet_of_same (same_eq (HCT.out _))))
      go_wp2_with fail
      go_roundg (8 - (s + 1))
      case measure => omega
      case rel => exact ⟨s + 1, rfl, by omega, by go_num, HR.out, below_drN hB _⟩
    · obtain rfl : s = 8 := by omega
      have hout : id < 1 ∨ ((0 : Nat) : Int) < id := by omega
      have HGET := Lib.hid (TGet_out h3 id hout (by decide))
      clear hR h3
      go_wp2_with fail
      refine HGET.out.mono ?_
      rintro e w9 ⟨rfl, hB9⟩
      have hB10 := below_step hB9 hB
      clear hB9
      rcases hout with ho | ho
      · have g5 : decide (id ≥ 1) = false := by simp; omega
        have g6 : decide (1 ≤ id) = false := by simp; omega
        go_wp2_with fail
        go_ret
        exact ⟨rfl, below_al hB10 _⟩
      · have g5 : decide (id ≥ 1) = true := by simp; omega
        have g6 : decide (1 ≤ id) = true := by simp; omega
        have g7 : decide (id ≤ 0) = false := by simp; omega
        go_wp2_with fail
        go_ret
        exact ⟨rfl, below_al hB10 _⟩
end
end Go.Proofs.Ytpcbcnheogjofaa
