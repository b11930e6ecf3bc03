/- Contracts of package age (and of tick.Add), one walk a function; the numbers are filled in by by-name.py. -/
import Derived.Test.YtceoadgmiabhfaaBase
namespace Go.Proofs.Ytceoadgmiabhfaa
open Go.RowKit
set_option linter.unusedVariables false
set_option linter.unusedSimpArgs false

theorem add64_lo (x y : Int) (hx : 0 ≤ x) (hy : 0 ≤ y) (h : x + y ≤ top) (w : World) :
    (callFunc 51 #[.int .u64 x, .int .u64 y, .int .u64 0]).run Try.prog w = .ok (.value (.tuple #[.int .u64 (x + y), .int .u64 0])) w := by
  rw [run_callFunc_extern Try.func51 (by kernel_rfl) (by kernel_rfl) (by kernel_rfl) (e := add64Entry) (by kernel_rfl), run_add64 x y 0 (by omega) (by omega) (by omega) (by omega)]
  unfold top at h
  rw [show (x + y + 0) % 18446744073709551616 = x + y from by omega, show (x + y + 0) / 18446744073709551616 = 0 from by omega]
  rfl
theorem add64_hi (x y : Int) (hx : 0 ≤ x) (hy : 0 ≤ y) (hx1 : x ≤ top) (hy1 : y ≤ top) (h : top < x + y) (w : World) :
    (callFunc 51 #[.int .u64 x, .int .u64 y, .int .u64 0]).run Try.prog w = .ok (.value (.tuple #[.int .u64 (x + y - top - 1), .int .u64 1])) w := by
  rw [run_callFunc_extern Try.func51 (by kernel_rfl) (by kernel_rfl) (by kernel_rfl) (e := add64Entry) (by kernel_rfl), run_add64 x y 0 (by omega) (by omega) (by omega) (by omega)]
  unfold top at *
  rw [show (x + y + 0) % 18446744073709551616 = x + y - 18446744073709551615 - 1 from by omega, show (x + y + 0) / 18446744073709551616 = 1 from by omega]
  rfl

def addI (x y : Int) : Int := min (x + y) top
def clampP (p : Int) : Int := min (max p 0) 7
def slackI (p : Int) : Int := 2 ^ (clampP p).toNat - 1


theorem tickAdd (x y : Int) (hx : 0 ≤ x) (hy : 0 ≤ y) (hx1 : x ≤ top) (hy1 : y ≤ top) (w : World) :
    Calls Try.prog 44 #[.int .u64 x, .int .u64 y] w fun e w' => e = .returned (.int .u64 (addI x y)) ∧ w = w' := by
  by_cases h : x + y ≤ top
  · have e : addI x y = x + y := by unfold addI; omega
    rw [e]; clear e
    go_enter Try.func44, Try.ntmps44
    go_wp2_with (simp only [add64_lo x y hx hy h])
    go_ret
    exact ⟨rfl, rfl⟩
  · have h' : top < x + y := by omega
    have e : addI x y = 18446744073709551615 := by unfold addI top at *; omega
    rw [e]; clear e h
    go_enter Try.func44, Try.ntmps44
    go_wp2_with (simp only [add64_hi x y hx hy hx1 hy1 h'])
    go_ret
    exact ⟨rfl, rfl⟩

theorem slack_any (p : Int) (w : World) : Calls Try.prog 13 #[.int .i64 p] w fun e w' => e = .returned (.int .u64 (slackI p)) ∧ w = w' := by
  have hk : ∀ p : Int, p = 0 ∨ p = 1 ∨ p = 2 ∨ p = 3 ∨ p = 4 ∨ p = 5 ∨ p = 6 ∨ p = 7 ∨ p < 0 ∨ 7 < p := by intro p; omega
  rcases hk p with rfl | rfl | rfl | rfl | rfl | rfl | rfl | rfl | h | h
  iterate 8
   · go_enter Try.func13, Try.ntmps13
     go_wp2
     go_ret
     exact ⟨ret_int (by decide), rfl⟩
  · have e : slackI p = 0 := by unfold slackI; rw [show clampP p = 0 from by unfold clampP; omega]; rfl
    rw [e]; clear e
    go_enter Try.func13, Try.ntmps13
    go_wp2
    all_goals (go_ret; exact ⟨rfl, rfl⟩)
  · have e : slackI p = 127 := by unfold slackI; rw [show clampP p = 7 from by unfold clampP; omega]; rfl
    rw [e]; clear e
    go_enter Try.func13, Try.ntmps13
    go_wp2
    all_goals (go_ret; exact ⟨rfl, rfl⟩)

theorem slack_bd (p : Int) : 0 ≤ slackI p ∧ slackI p ≤ 127 := by
  have hk : clampP p = 0 ∨ clampP p = 1 ∨ clampP p = 2 ∨ clampP p = 3 ∨ clampP p = 4 ∨ clampP p = 5 ∨ clampP p = 6 ∨ clampP p = 7 := by unfold clampP; omega
  unfold slackI
  rcases hk with h | h | h | h | h | h | h | h <;> rw [h] <;> decide

theorem key_any (t p : Int) (h0 : 0 ≤ t) (h1 : t ≤ top) (w : World) : Calls Try.prog 14 #[.int .u64 t, .int .i64 p] w fun e w' => e = .returned (.int .u64 (addI t (slackI p))) ∧ w = w' := by
  have hb := slack_bd p
  go_enter Try.func14, Try.ntmps14
  go_wp2_with (first | (go_at_call 13; refine (slack_any _ _).mono ?_; rintro e w' ⟨rfl, rfl⟩) | (go_at_call 44; refine (tickAdd _ _ h0 hb.1 h1 (by unfold top; omega) _).mono ?_; rintro e w' ⟨rfl, rfl⟩))
  go_ret
  exact ⟨rfl, rfl⟩

theorem overdue_any (k i t : Int) (w : World) : Calls Try.prog 26 #[.agg #[.int .u64 k, .int .i64 i], .int .u64 t] w fun e w' => e = .returned (.bool (decide (k ≤ t))) ∧ w.alloc (.cells #[.int .u64 k, .int .i64 i] 37) = w' := by
  go_enter Try.func26, Try.ntmps26
  go_wp2
  go_ret
  exact ⟨rfl, rfl⟩

theorem overdue_b (k i t : Int) (w : World) : Calls Try.prog 26 #[.agg #[.int .u64 k, .int .i64 i], .int .u64 t] w fun e w' => e = .returned (.bool (decide (k ≤ t))) ∧ Below w.heap.size w w' :=
  (overdue_any k i t w).mono fun _ _ ⟨he, hw⟩ => ⟨he, hw ▸ below_al (Below.refl _ _) _⟩
def clampN (n : Int) : Int := min (max n 0) 1000
theorem clampN_bd (n : Int) : 0 ≤ clampN n ∧ clampN n ≤ 1000 := by unfold clampN; omega
theorem within_any (n : Int) (w : World) : Calls Try.prog 47 #[.int .i64 n] w fun e w' => e = .returned (.int .i64 (clampN n)) ∧ w = w' := by
  rcases (show n < 0 ∨ (0 ≤ n ∧ n ≤ 1000) ∨ 1000 < n from by omega) with h | ⟨h, h'⟩ | h
  · rw [show clampN n = 0 from by unfold clampN; omega]
    go_enter Try.func47, Try.ntmps47
    go_wp2
    all_goals (go_ret; exact ⟨rfl, rfl⟩)
  · rw [show clampN n = n from by unfold clampN; omega]
    go_enter Try.func47, Try.ntmps47
    go_wp2
    all_goals (go_ret; exact ⟨rfl, rfl⟩)
  · rw [show clampN n = 1000 from by unfold clampN; omega]
    go_enter Try.func47, Try.ntmps47
    go_wp2
    all_goals (go_ret; exact ⟨rfl, rfl⟩)
theorem rho_bd (a b : Int) (h0 : 0 ≤ a) (h1 : a ≤ 1000) (h2 : 0 ≤ b) (h3 : b ≤ 1000) : 0 ≤ (a + 1) * b ∧ (a + 1) * b ≤ 1001000 :=
  ⟨Int.mul_nonneg (by omega) h2, by
    have := Int.mul_le_mul (show a + 1 ≤ 1001 from by omega) h3 h2 (by omega)
    omega⟩
def rhoI (t k : Int) : Int := (clampN t + 1) * clampN k + clampN t
theorem rho_any (t k : Int) (w : World) : Calls Try.prog 36 #[.int .i64 t, .int .i64 k] w fun e w' => e = .returned (.int .i64 (rhoI t k)) ∧ w = w' := by
  obtain ⟨a1, a2⟩ := clampN_bd t
  obtain ⟨b1, b2⟩ := clampN_bd k
  obtain ⟨c1, c2⟩ := rho_bd _ _ a1 a2 b1 b2
  unfold rhoI
  go_enter Try.func36, Try.ntmps36
  go_wp2_with (go_at_call 47; refine (within_any _ _).mono ?_; rintro e w' ⟨rfl, rfl⟩)
  go_ret
  exact ⟨rfl, rfl⟩

theorem choose_yes (k i k' i' t : Int) (h : k ≤ t) (w : World) : Calls Try.prog 27 #[.agg #[.int .u64 k, .int .i64 i], .agg #[.int .u64 k', .int .i64 i'], .int .u64 t] w fun e w' => e = .returned (.agg #[.int .u64 k, .int .i64 i]) ∧ Below w.heap.size w w' := by
  go_enter Try.func27, Try.ntmps27
  go_wp2_with (go_at_call 26; refine (overdue_any _ _ _ _).mono ?_; rintro e w' ⟨rfl, rfl⟩)
  exact bodyPost_ret (v := .agg #[.int .u64 k, .int .i64 i]) (by simp [results, Try.results27, go_sem]) rfl ⟨rfl, by repeat (first | exact Below.refl _ _ | refine below_al ?_ _)⟩
theorem choose_no (k i k' i' t : Int) (h : t < k) (w : World) : Calls Try.prog 27 #[.agg #[.int .u64 k, .int .i64 i], .agg #[.int .u64 k', .int .i64 i'], .int .u64 t] w fun e w' => e = .returned (.agg #[.int .u64 k', .int .i64 i']) ∧ Below w.heap.size w w' := by
  go_enter Try.func27, Try.ntmps27
  go_wp2_with (go_at_call 26; refine (overdue_any _ _ _ _).mono ?_; rintro e w' ⟨rfl, rfl⟩)
  exact bodyPost_ret (v := .agg #[.int .u64 k', .int .i64 i']) (by simp [results, Try.results27, go_sem]) rfl ⟨rfl, by repeat (first | exact Below.refl _ _ | refine below_al ?_ _)⟩

theorem awake11 (w : World) : Calls Try.prog 15 #[] w fun e w' => e = .returned (.bool true) ∧ Below w.heap.size w w' := by
  have e1 : addI 10 (slackI 3) = 17 := by decide
  have e2 : slackI 0 = 0 := by decide
  have e3 : slackI 7 = 127 := by decide
  have e4 : rhoI 2 1 = 5 := by decide
  go_enter Try.func15, Try.ntmps15
  go_wp2_with (first | (go_at_call 13; refine (slack_any _ _).mono ?_; rintro e w' ⟨rfl, rfl⟩) | (go_at_call 14; refine (key_any _ _ (by decide) (by decide) _).mono ?_; rintro e w' ⟨rfl, rfl⟩) | (go_at_call 26; refine (overdue_any _ _ _ _).mono ?_; rintro e w' ⟨rfl, rfl⟩) | (go_at_call 36; refine (rho_any _ _ _).mono ?_; rintro e w' ⟨rfl, rfl⟩))
  go_ret
  exact ⟨rfl, (((Below.refl _ _).alloc (Nat.le_refl _) _).alloc (by simp) _)⟩
end Go.Proofs.Ytceoadgmiabhfaa
