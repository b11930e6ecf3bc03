/- Contracts of the reference's answers for package age, and of age.Beta. -/
import Derived.Test.YtceoadgmiabhfaaAge
import Derived.LoopTactic
namespace Go.Proofs.Ytceoadgmiabhfaa
open Go.RowKit
set_option linter.unusedVariables false
set_option linter.unusedSimpArgs false

theorem pow2_lt (k : Nat) (h : k ≤ 7) : (0 : Int) < 2 ^ k ∧ (2 : Int) ^ k ≤ 128 := by
  have hh : ∀ k : Fin 8, (0 : Int) < 2 ^ k.val ∧ (2 : Int) ^ k.val ≤ 128 := by decide
  exact hh ⟨k, by omega⟩
theorem refslack_any (p : Int) (w : World) : Calls Try.prog 34 #[.int .i64 p] w fun e w' => e = .returned (.int .u64 (slackI p)) ∧ w = w' := by
  obtain ⟨c, hc, hc7⟩ : ∃ c : Nat, clampP p = c ∧ c ≤ 7 := ⟨(clampP p).toNat, by unfold clampP; omega, by unfold clampP; omega⟩
  have es : slackI p = 2 ^ c - 1 := by unfold slackI; rw [hc]; rfl
  rw [es]
  have hp := pow2_lt c hc7
  have HP := Lib.hid hp
  unfold clampP at hc
  clear es hp
  rcases (show p < 0 ∨ (0 ≤ p ∧ p ≤ 7) ∨ 7 < p from by omega) with h | ⟨h, h'⟩ | h
  all_goals
    go_enter Try.func34, Try.ntmps34
    go_wp2
    go_loop [3, 4] (fun s i => ∃ k : Nat, k ≤ c ∧ s = .int .u64 (2 ^ k) ∧ i = .int .i64 k) (fun _ i => c - (intOf i).toNat)
    case atStart => exact ⟨0, by omega, rfl, rfl⟩
    case round =>
      obtain ⟨k, hk, rfl, rfl⟩ := hrel
      have hq := pow2_lt k (by omega)
      have hs : (2 : Int) ^ (k + 1) = 2 * 2 ^ k := by rw [Int.pow_succ, Int.mul_comm]
      have HS := Lib.hid hs
      clear hs
      by_cases hlt : k < c
      · generalize (2 : Int) ^ k = y at *
        go_wp2
        all_goals (try omega)
        all_goals
          go_round
          case rel => exact ⟨k + 1, by omega, by rw [HS.out], by go_num⟩
          case measure => simp [intOf]; omega
      · obtain rfl : k = c := by omega
        generalize hy : (2 : Int) ^ k = y at *
        have HY := Lib.hid hy
        clear hy
        go_wp2
        all_goals (try omega)
        all_goals (go_ret; exact ⟨ret_int (by rw [HY.out]), rfl⟩)

theorem refadd (x y : Int) (hx : 0 ≤ x) (hy : 0 ≤ y) (hx1 : x ≤ top) (hy1 : y ≤ top) (w : World) :
    Calls Try.prog 46 #[.int .u64 x, .int .u64 y] w fun e w' => e = .returned (.int .u64 (addI x y)) ∧ w = w' := by
  have q : IntKind.u64.wrap (18446744073709551615 - x) = top - x := by rw [IntKind.wrap_u64]; unfold top at *; omega
  by_cases h : x + y ≤ top
  · have e : addI x y = IntKind.u64.wrap (x + y) := by rw [IntKind.wrap_u64]; unfold addI top at *; omega
    have h' : ¬ top - x < y := by omega
    rw [e]; clear e h
    go_enter Try.func46, Try.ntmps46
    go_wp2
    all_goals (go_ret; exact ⟨rfl, rfl⟩)
  · have e : addI x y = 18446744073709551615 := by unfold addI top at *; omega
    have h' : top - x < y := by omega
    rw [e]; clear e h
    go_enter Try.func46, Try.ntmps46
    go_wp2
    all_goals (go_ret; exact ⟨rfl, rfl⟩)
theorem refkey_any (t p : Int) (h0 : 0 ≤ t) (h1 : t ≤ top) (w : World) : Calls Try.prog 35 #[.int .u64 t, .int .i64 p] w fun e w' => e = .returned (.int .u64 (addI t (slackI p))) ∧ w = w' := by
  have hb := slack_bd p
  go_enter Try.func35, Try.ntmps35
  go_wp2_with (first | (go_at_call 34; refine (refslack_any _ _).mono ?_; rintro e w' ⟨rfl, rfl⟩) | (go_at_call 46; refine (refadd _ _ h0 hb.1 h1 (by unfold top; omega) _).mono ?_; rintro e w' ⟨rfl, rfl⟩))
  go_ret
  exact ⟨rfl, rfl⟩
theorem few_any (n : Int) (w : World) : Calls Try.prog 48 #[.int .i64 n] w fun e w' => e = .returned (.int .i64 (clampN n)) ∧ w = w' := by
  rcases (show n < 0 ∨ (0 ≤ n ∧ n ≤ 1000) ∨ 1000 < n from by omega) with h | ⟨h, h'⟩ | h
  · rw [show clampN n = 0 from by unfold clampN; omega]
    go_enter Try.func48, Try.ntmps48
    go_wp2
    all_goals (go_ret; exact ⟨rfl, rfl⟩)
  · rw [show clampN n = n from by unfold clampN; omega]
    go_enter Try.func48, Try.ntmps48
    go_wp2
    all_goals (go_ret; exact ⟨rfl, rfl⟩)
  · rw [show clampN n = 1000 from by unfold clampN; omega]
    go_enter Try.func48, Try.ntmps48
    go_wp2
    all_goals (go_ret; exact ⟨rfl, rfl⟩)
theorem refrho_any (t k : Int) (w : World) : Calls Try.prog 37 #[.int .i64 t, .int .i64 k] w fun e w' => e = .returned (.int .i64 (rhoI t k)) ∧ w = w' := by
  obtain ⟨a1, a2⟩ := clampN_bd t
  obtain ⟨b1, b2⟩ := clampN_bd k
  obtain ⟨c1, c2⟩ := rho_bd _ _ a1 a2 b1 b2
  unfold rhoI
  go_enter Try.func37, Try.ntmps37
  go_wp2_with (go_at_call 48; refine (few_any _ _).mono ?_; rintro e w' ⟨rfl, rfl⟩)
  go_ret
  exact ⟨rfl, rfl⟩
def betaI (p c t : Int) : Int := slackI p + clampN c + 2 * clampN t
theorem beta_any (p c t : Int) (w : World) : Calls Try.prog 38 #[.int .i64 p, .int .i64 c, .int .i64 t] w fun e w' => e = .returned (.int .i64 (betaI p c t)) ∧ w = w' := by
  obtain ⟨a1, a2⟩ := clampN_bd t
  obtain ⟨b1, b2⟩ := clampN_bd c
  obtain ⟨c1, c2⟩ := slack_bd p
  unfold betaI
  go_enter Try.func38, Try.ntmps38
  go_wp2_with (first | (go_at_call 47; refine (within_any _ _).mono ?_; rintro e w' ⟨rfl, rfl⟩) | (go_at_call 13; refine (slack_any _ _).mono ?_; rintro e w' ⟨rfl, rfl⟩))
  go_ret
  exact ⟨rfl, rfl⟩
theorem refbeta_any (p c t : Int) (w : World) : Calls Try.prog 39 #[.int .i64 p, .int .i64 c, .int .i64 t] w fun e w' => e = .returned (.int .i64 (betaI p c t)) ∧ w = w' := by
  obtain ⟨a1, a2⟩ := clampN_bd t
  obtain ⟨b1, b2⟩ := clampN_bd c
  obtain ⟨c1, c2⟩ := slack_bd p
  unfold betaI
  go_enter Try.func39, Try.ntmps39
  go_wp2_with (first | (go_at_call 48; refine (few_any _ _).mono ?_; rintro e w' ⟨rfl, rfl⟩) | (go_at_call 34; refine (refslack_any _ _).mono ?_; rintro e w' ⟨rfl, rfl⟩))
  go_ret
  exact ⟨rfl, rfl⟩
end Go.Proofs.Ytceoadgmiabhfaa
