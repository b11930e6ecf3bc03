/- Contracts of the document's own answer for bodies: whether an op may be, whether a body may be. -/
import Derived.Test.YtpcbcnheogjofaaBody2
namespace Go.Proofs.Ytpcbcnheogjofaa
open Go.RowKit Go.Maps Go.Proofs.YtpcbcnheogjofaaW.PrintWords
set_option linter.unusedVariables false
set_option linter.unusedSimpArgs false

theorem okOp1 (x y : Int) : okOp 1 x y = (decide (x = 0) && decide (y = 0)) := by unfold okOp; simp
theorem okOp5 (x y : Int) : okOp 5 x y = (decide (x = 0) && decide (y = 0)) := by unfold okOp; simp
theorem okOp2 (x y : Int) : okOp 2 x y = (decide (0 ≤ x) && decide (x ≤ 7) && decide (y = 0)) := by unfold okOp; simp [Bool.and_assoc]
theorem okOp3 (x y : Int) : okOp 3 x y = (decide (0 ≤ x) && decide (x ≤ 7) && decide (0 ≤ y) && decide (y ≤ 1000000)) := by unfold okOp; simp [Bool.and_assoc]
theorem okOp4 (x y : Int) : okOp 4 x y = (decide (1 ≤ x) && decide (x ≤ 1000) && decide (y = 0)) := by unfold okOp; simp [Bool.and_assoc]
section
variable {W W' : World}
set_option maxRecDepth 100000 in
set_option maxHeartbeats 4000000 in
theorem OpOk_any (k x y : Int) : Calls Try.prog 114 #[.agg #[.int .i64 k, .int .i64 x, .int .i64 y]] W fun e w' => e = .returned (.bool (okOp k x y)) ∧ Below W.heap.size W w' := by
  by_cases h1 : k = 1
  · subst h1
    rw [okOp1]
    go_enter Try.func114, Try.ntmps114
    go_wp2_with fail
    all_goals
      go_ret
      refine ⟨ret_bool ?_, below_al (Below.refl _ _) _⟩
      rw [Bool.eq_iff_iff]
      simp only [Bool.and_eq_true, decide_eq_true_eq, beq_iff_eq, Bool.false_eq_true, true_iff, false_iff, iff_true, iff_false, not_true_eq_false]
      omega
  by_cases h5 : k = 5
  · subst h5
    rw [okOp5]
    go_enter Try.func114, Try.ntmps114
    go_wp2_with fail
    all_goals
      go_ret
      refine ⟨ret_bool ?_, below_al (Below.refl _ _) _⟩
      rw [Bool.eq_iff_iff]
      simp only [Bool.and_eq_true, decide_eq_true_eq, beq_iff_eq, Bool.false_eq_true, true_iff, false_iff, iff_true, iff_false, not_true_eq_false]
      omega
  by_cases h2 : k = 2
  · subst h2
    rw [okOp2]
    go_enter Try.func114, Try.ntmps114
    go_wp2_with fail
    all_goals
      go_ret
      refine ⟨ret_bool ?_, below_al (Below.refl _ _) _⟩
      rw [Bool.eq_iff_iff]
      simp only [Bool.and_eq_true, decide_eq_true_eq, beq_iff_eq, Bool.false_eq_true, true_iff, false_iff, iff_true, iff_false, not_true_eq_false]
      omega
  by_cases h3 : k = 3
  · subst h3
    rw [okOp3]
    go_enter Try.func114, Try.ntmps114
    go_wp2_with fail
    all_goals
      go_ret
      refine ⟨ret_bool ?_, below_al (Below.refl _ _) _⟩
      rw [Bool.eq_iff_iff]
      simp only [Bool.and_eq_true, decide_eq_true_eq, beq_iff_eq, Bool.false_eq_true, true_iff, false_iff, iff_true, iff_false, not_true_eq_false]
      omega
  by_cases h4 : k = 4
  · subst h4
    rw [okOp4]
    go_enter Try.func114, Try.ntmps114
    go_wp2_with fail
    all_goals
      go_ret
      refine ⟨ret_bool ?_, below_al (Below.refl _ _) _⟩
      rw [Bool.eq_iff_iff]
      simp only [Bool.and_eq_true, decide_eq_true_eq, beq_iff_eq, Bool.false_eq_true, true_iff, false_iff, iff_true, iff_false, not_true_eq_false]
      omega
  have he : okOp k x y = false := by unfold okOp; simp; omega
  rw [he]
  have g1 : (k == 1) = false := by simpa using h1
  have g2 : (k == 2) = false := by simpa using h2
  have g3 : (k == 3) = false := by simpa using h3
  have g4 : (k == 4) = false := by simpa using h4
  have g5 : (k == 5) = false := by simpa using h5
  clear h1 h2 h3 h4 h5 he
  go_enter Try.func114, Try.ntmps114
  go_wp2_with fail
  go_ret
  exact ⟨rfl, below_al (Below.refl _ _) _⟩
set_option maxRecDepth 100000 in
set_option maxHeartbeats 4000000 in
theorem RBodyOk_any (A : Option Addr) (cap : Nat) (L : List Op3) (hL : L.length ≤ 1000) (hO : OpsAt W A L) : Calls Try.prog 96 #[.slice A L.length cap] W fun e w' => e = .returned (.bool (bodyB L)) ∧ Below W.heap.size W w' := by
  by_cases h16 : L.length ≤ 16
  · have hb : bodyB L = okL L := by unfold bodyB; simp [h16]
    have HB := Lib.hid hb
    obtain ⟨n, hn⟩ : ∃ n, L.length = n := ⟨_, rfl⟩
    have HN := Lib.hid hn
    have HO := Lib.hid hO
    rw [hn] at hL h16 ⊢
    obtain ⟨bb, hbb⟩ : ∃ b, bodyB L = b := ⟨_, rfl⟩
    rw [hbb] at hb ⊢
    have HBB := Lib.hid hbb
    clear hn hO hb hbb
    have g1 : decide ((n : Int) > 16) = false := by simp; omega
    have g2 : decide ((16 : Int) < n) = false := by simp; omega
    have g3 : decide (16 < n) = false := by simp; omega
    go_enter Try.func96, Try.ntmps96
    go_wp2_with fail
    go_loopg [3] n (fun gg v3 wr => ∃ i : Nat, gg = n - i ∧ i ≤ n ∧ v3 = .int .i64 i ∧ (∀ j : Nat, j < i → ∀ o, L[j]? = some o → okOp o.1 o.2.1 o.2.2 = true) ∧ Below W.heap.size W wr)
    case atStart => exact ⟨0, by omega, by omega, rfl, fun j hj => by omega, Below.refl _ _⟩
    case round =>
      obtain ⟨i, rfl, hi, rfl, hall, hB⟩ := hrel
      have HALL := Lib.hid hall
      clear hall
      by_cases hlt : i < n
      · have hg : L[i]? = some (L[i]'(by rw [HN.out]; exact hlt)) := List.getElem?_eq_getElem _
        obtain ⟨⟨k, x, y⟩, ho⟩ : ∃ o, L[i]'(by rw [HN.out]; exact hlt) = o := ⟨_, rfl⟩
        rw [ho] at hg
        rcases HO.out with h0 | ⟨c1, o1, rfl, hlt1, hcs1⟩
        · exfalso; rw [h0] at hg; simp at hg
        obtain ⟨x0, x1, x2⟩ := hcs1 i k x y hg
        have d0 := cell_keeps hB hlt1 x0
        have d1 := cell_keeps hB hlt1 x1
        have d2 := cell_keeps hB hlt1 x2
        have HG := Lib.hid hg
        obtain ⟨ok, hok⟩ : ∃ b, okOp k x y = b := ⟨_, rfl⟩
        have HOK := Lib.hid hok
        have HC := Lib.hid (fun w => OpOk_any (W := w) k x y)
        rw [hok] at HC
        clear hcs1 x0 x1 x2 hg ho hok
        cases ok with
        | true =>
          go_wp2_with fail
          refine (HC.out _).mono ?_
          rintro e w1 ⟨rfl, hB1⟩
          have hB2 := below_step hB1 hB
          go_wp2_with fail
          go_roundg (n - (i + 1))
          case measure => omega
          case rel => exact ⟨i + 1, rfl, by omega, by go_num, fun j hj o hjo => by
            rcases (show j < i ∨ j = i from by omega) with h | h
            · exact HALL.out j h o hjo
            · subst h
              rw [HG.out] at hjo
              injection hjo with hjo
              subst hjo
              exact HOK.out, hB2⟩
        | false =>
          have hbf : bb = false := by
            rw [← HBB.out, HB.out]
            unfold okL
            rw [List.all_eq_false]
            exact ⟨(k, x, y), List.mem_of_getElem? HG.out, by simp [HOK.out]⟩
          subst hbf
          go_wp2_with fail
          refine (HC.out _).mono ?_
          rintro e w1 ⟨rfl, hB1⟩
          have hB2 := below_step hB1 hB
          go_wp2_with fail
          go_ret
          exact ⟨rfl, hB2⟩
      · obtain rfl : i = n := by omega
        have hbt : bb = true := by
          rw [← HBB.out, HB.out]
          unfold okL
          rw [List.all_eq_true]
          intro o ho
          obtain ⟨j, hj⟩ := List.getElem?_of_mem ho
          have hjl := (List.getElem?_eq_some_iff.1 hj).1
          rw [HN.out] at hjl
          exact HALL.out j hjl o hj
        subst hbt
        go_wp2_with fail
        go_ret
        exact ⟨rfl, hB⟩
  · have hb : bodyB L = false := by unfold bodyB; simp [h16]
    rw [hb]
    obtain ⟨n, hn⟩ : ∃ n, L.length = n := ⟨_, rfl⟩
    rw [hn] at hL h16 ⊢
    clear hn hO hb
    have g1 : decide ((n : Int) > 16) = true := by simp; omega
    have g2 : decide ((16 : Int) < n) = true := by simp; omega
    have g3 : decide (16 < n) = true := by simp; omega
    clear h16
    go_enter Try.func96, Try.ntmps96
    go_wp2_with fail
    go_ret
    exact ⟨rfl, Below.refl _ _⟩
end
end Go.Proofs.Ytpcbcnheogjofaa
