/- Contracts of package word (and of the reference's answers for it), one walk a function. -/
import Derived.Test.YtpcbcnheogjofaaSteps
import Derived.Laws.BitsAllLaws
import Derived.Lib.Hide
namespace Go.Proofs.Ytpcbcnheogjofaa
open Go.RowKit
set_option linter.unusedVariables false
set_option linter.unusedSimpArgs false

def packI (s v : Int) : Int := s % 8 + 8 * (v % 2305843009213693952)
theorem or_join (x y : Int) (hx : 0 ≤ x) (hx8 : x < 8) (hy : 0 ≤ y) (hy8 : y % 8 = 0) (hyt : y ≤ top) : bits .or .u64 x y = x + y := by
  have e : 18446744073709551616 = top + 1 := rfl
  rw [u64_or x y hx (by omega) hy (by omega)]
  obtain ⟨a, rfl⟩ := Int.eq_ofNat_of_zero_le hx
  obtain ⟨b, rfl⟩ := Int.eq_ofNat_of_zero_le hy
  rw [Int.toNat_natCast, Int.toNat_natCast, Nat.or_comm, nat_join 3 b a (by omega) (by omega)]
  omega
theorem pack_eq (s v : Int) : bits .or .u64 (bits .and .u64 (IntKind.u64.wrap s) 7) (IntKind.u64.wrap (v * 8)) = packI s v := by
  rw [and_u64_7, IntKind.wrap_u64, IntKind.wrap_u64, or_join _ _ (by omega) (by omega) (by omega) (by omega) (by unfold top; omega)]
  unfold packI
  omega
theorem pack_bd (s v : Int) : 0 ≤ packI s v ∧ packI s v ≤ top := by unfold packI top; omega

theorem pack_any (s v : Int) (w : World) : Calls Try.prog 105 #[.int .i64 s, .int .u64 v] w fun e w' => e = .returned (.int .u64 (packI s v)) ∧ w = w' := by
  go_enter Try.func105, Try.ntmps105
  go_wp2
  go_ret
  exact ⟨ret_int (pack_eq s v), rfl⟩
theorem state_any (x : Int) (w : World) : Calls Try.prog 85 #[.int .u64 x] w fun e w' => e = .returned (.int .i64 (x % 8)) ∧ w = w' := by
  go_enter Try.func85, Try.ntmps85
  go_wp2
  go_ret
  exact ⟨ret_int (by rw [and_u64_7]; unfold wrap64; omega), rfl⟩
theorem version_any (x : Int) (w : World) : Calls Try.prog 106 #[.int .u64 x] w fun e w' => e = .returned (.int .u64 (x / 8)) ∧ w = w' := by
  go_enter Try.func106, Try.ntmps106
  go_wp2
  go_ret
  exact ⟨rfl, rfl⟩
theorem ref_pack_any (s v : Int) (w : World) : Calls Try.prog 108 #[.int .i64 s, .int .u64 v] w fun e w' => e = .returned (.int .u64 (packI s v)) ∧ w = w' := by
  go_enter Try.func108, Try.ntmps108
  go_wp2
  go_ret
  exact ⟨ret_int (pack_eq s v), rfl⟩
theorem ref_state_any (x : Int) (w : World) : Calls Try.prog 62 #[.int .u64 x] w fun e w' => e = .returned (.int .i64 (x % 8)) ∧ w = w' := by
  go_enter Try.func62, Try.ntmps62
  go_wp2
  go_ret
  exact ⟨ret_int (by rw [and_u64_7]; unfold wrap64; omega), rfl⟩
theorem ref_version_any (x : Int) (w : World) : Calls Try.prog 109 #[.int .u64 x] w fun e w' => e = .returned (.int .u64 (x / 8)) ∧ w = w' := by
  go_enter Try.func109, Try.ntmps109
  go_wp2
  go_ret
  exact ⟨rfl, rfl⟩
def nextI (x s : Int) : Int := packI s (x / 8 + 1)
theorem wrap_pack (s v : Int) : packI s (IntKind.u64.wrap v) = packI s v := by unfold packI; rw [IntKind.wrap_u64]; omega
theorem next_any (x s : Int) (hx : 0 ≤ x) (hx1 : x ≤ top) (w : World) : Calls Try.prog 86 #[.int .u64 x, .int .i64 s] w fun e w' => e = .returned (.int .u64 (nextI x s)) ∧ w = w' := by
  go_enter Try.func86, Try.ntmps86
  go_wp2_with (first | (go_at_call 106; refine (version_any _ _).mono ?_; rintro e w' ⟨rfl, rfl⟩) | (go_at_call 105; refine (pack_any _ _ _).mono ?_; rintro e w' ⟨rfl, rfl⟩))
  go_ret
  exact ⟨ret_int (by unfold nextI; first | rfl | exact wrap_pack _ _), rfl⟩
theorem ref_next_any (x s : Int) (hx : 0 ≤ x) (hx1 : x ≤ top) (w : World) : Calls Try.prog 90 #[.int .u64 x, .int .i64 s] w fun e w' => e = .returned (.int .u64 (nextI x s)) ∧ w = w' := by
  go_enter Try.func90, Try.ntmps90
  go_wp2_with (first | (go_at_call 109; refine (ref_version_any _ _).mono ?_; rintro e w' ⟨rfl, rfl⟩) | (go_at_call 108; refine (ref_pack_any _ _ _).mono ?_; rintro e w' ⟨rfl, rfl⟩))
  go_ret
  exact ⟨ret_int (by unfold nextI; first | rfl | exact wrap_pack _ _), rfl⟩
def overB (s : Int) : Bool := s == 4 || s == 5 || s == 6
theorem over_any (s : Int) (w : World) : Calls Try.prog 88 #[.int .i64 s] w fun e w' => e = .returned (.bool (overB s)) ∧ w = w' := by
  rcases (show s = 4 ∨ s = 5 ∨ s = 6 ∨ (s ≠ 4 ∧ s ≠ 5 ∧ s ≠ 6) from by omega) with rfl | rfl | rfl | ⟨h1, h2, h3⟩
  iterate 3
   · go_enter Try.func88, Try.ntmps88
     go_wp2
     go_ret
     exact ⟨rfl, rfl⟩
  · have e : overB s = false := by unfold overB; simp [h1, h2, h3]
    have h1' : (s == 4) = false := by simpa using h1
    have h2' : (s == 5) = false := by simpa using h2
    have h3' : (s == 6) = false := by simpa using h3
    rw [e]; clear e h1 h2 h3
    go_enter Try.func88, Try.ntmps88
    go_wp2
    go_ret
    exact ⟨rfl, rfl⟩
theorem ref_over_any (s : Int) (w : World) : Calls Try.prog 91 #[.int .i64 s] w fun e w' => e = .returned (.bool (overB s)) ∧ w = w' := by
  rcases (show s = 4 ∨ s = 5 ∨ s = 6 ∨ s < 4 ∨ 6 < s from by omega) with rfl | rfl | rfl | h | h
  iterate 3
   · go_enter Try.func91, Try.ntmps91
     go_wp2
     go_ret
     exact ⟨rfl, rfl⟩
  · have e : overB s = false := by unfold overB; simp; omega
    rw [e]; clear e
    go_enter Try.func91, Try.ntmps91
    go_wp2
    all_goals (go_ret; exact ⟨by first | rfl | (exact ret_bool (by simp; omega)), rfl⟩)
  · have e : overB s = false := by unfold overB; simp; omega
    rw [e]; clear e
    go_enter Try.func91, Try.ntmps91
    go_wp2
    all_goals (go_ret; exact ⟨by first | rfl | (exact ret_bool (by simp; omega)), rfl⟩)
theorem can_cases (a b : Int) : (a = 0 ∧ (b = 1 ∨ b = 2 ∨ b = 6) ∨ a = 1 ∧ (b = 2 ∨ b = 6) ∨ a = 2 ∧ (b = 3 ∨ b = 6) ∨ a = 3 ∧ (b = 1 ∨ b = 4 ∨ b = 5)) ↔ canB a b = true := by
  unfold canB
  rw [List.contains_iff_mem]
  constructor
  · rintro (⟨rfl, rfl | rfl | rfl⟩ | ⟨rfl, rfl | rfl⟩ | ⟨rfl, rfl | rfl⟩ | ⟨rfl, rfl | rfl | rfl⟩) <;> decide
  · intro h
    unfold stepL at h
    simp only [List.mem_cons, Prod.mk.injEq, List.not_mem_nil, or_false] at h
    rcases h with ⟨rfl, rfl⟩ | ⟨rfl, rfl⟩ | ⟨rfl, rfl⟩ | ⟨rfl, rfl⟩ | ⟨rfl, rfl⟩ | ⟨rfl, rfl⟩ | ⟨rfl, rfl⟩ | ⟨rfl, rfl⟩ | ⟨rfl, rfl⟩ | ⟨rfl, rfl⟩ <;> simp
theorem ok_any (x : Int) (hx : 0 ≤ x) (w : World) : Calls Try.prog 107 #[.int .u64 x] w fun e w' => e = .returned (.bool (decide (x % 8 < 7))) ∧ w = w' := by
  go_enter Try.func107, Try.ntmps107
  go_wp2_with (go_at_call 85; refine (state_any _ _).mono ?_; rintro e w' ⟨rfl, rfl⟩)
  go_ret
  exact ⟨rfl, rfl⟩

theorem can_false {a b : Int} (h : ¬ (a = 0 ∧ (b = 1 ∨ b = 2 ∨ b = 6) ∨ a = 1 ∧ (b = 2 ∨ b = 6) ∨ a = 2 ∧ (b = 3 ∨ b = 6) ∨ a = 3 ∧ (b = 1 ∨ b = 4 ∨ b = 5))) : canB a b = false := by
  cases hc : canB a b
  · rfl
  · exact absurd ((can_cases a b).2 hc) h
theorem ref_can_0 (b : Int) (w : World) : Calls Try.prog 67 #[.int .i64 0, .int .i64 b] w fun e w' => e = .returned (.bool (canB 0 b)) ∧ w = w' := by
  rcases (show b = 1 ∨ b = 2 ∨ b = 6 ∨ (b ≠ 1 ∧ b ≠ 2 ∧ b ≠ 6) from by omega) with rfl | rfl | rfl | ⟨h1, h2, h6⟩
  · have e : canB 0 1 = true := by decide
    rw [e]; clear e
    go_enter Try.func67, Try.ntmps67
    go_wp2
    go_ret
    exact ⟨rfl, rfl⟩
  · have e : canB 0 2 = true := by decide
    rw [e]; clear e
    go_enter Try.func67, Try.ntmps67
    go_wp2
    go_ret
    exact ⟨rfl, rfl⟩
  · have e : canB 0 6 = true := by decide
    rw [e]; clear e
    go_enter Try.func67, Try.ntmps67
    go_wp2
    go_ret
    exact ⟨rfl, rfl⟩
  · have e : canB 0 b = false := can_false (by omega)
    rw [e]; clear e
    have k1 : (b == 1) = false := by simpa using h1
    have k2 : (b == 2) = false := by simpa using h2
    have k6 : (b == 6) = false := by simpa using h6
    clear h1 h2 h6
    go_enter Try.func67, Try.ntmps67
    go_wp2
    go_ret
    exact ⟨rfl, rfl⟩
theorem ref_can_1 (b : Int) (w : World) : Calls Try.prog 67 #[.int .i64 1, .int .i64 b] w fun e w' => e = .returned (.bool (canB 1 b)) ∧ w = w' := by
  rcases (show b = 2 ∨ b = 6 ∨ (b ≠ 2 ∧ b ≠ 6) from by omega) with rfl | rfl | ⟨h2, h6⟩
  · have e : canB 1 2 = true := by decide
    rw [e]; clear e
    go_enter Try.func67, Try.ntmps67
    go_wp2
    go_ret
    exact ⟨rfl, rfl⟩
  · have e : canB 1 6 = true := by decide
    rw [e]; clear e
    go_enter Try.func67, Try.ntmps67
    go_wp2
    go_ret
    exact ⟨rfl, rfl⟩
  · have e : canB 1 b = false := can_false (by omega)
    rw [e]; clear e
    have k2 : (b == 2) = false := by simpa using h2
    have k6 : (b == 6) = false := by simpa using h6
    clear h2 h6
    go_enter Try.func67, Try.ntmps67
    go_wp2
    go_ret
    exact ⟨rfl, rfl⟩
theorem ref_can_2 (b : Int) (w : World) : Calls Try.prog 67 #[.int .i64 2, .int .i64 b] w fun e w' => e = .returned (.bool (canB 2 b)) ∧ w = w' := by
  rcases (show b = 3 ∨ b = 6 ∨ (b ≠ 3 ∧ b ≠ 6) from by omega) with rfl | rfl | ⟨h3, h6⟩
  · have e : canB 2 3 = true := by decide
    rw [e]; clear e
    go_enter Try.func67, Try.ntmps67
    go_wp2
    go_ret
    exact ⟨rfl, rfl⟩
  · have e : canB 2 6 = true := by decide
    rw [e]; clear e
    go_enter Try.func67, Try.ntmps67
    go_wp2
    go_ret
    exact ⟨rfl, rfl⟩
  · have e : canB 2 b = false := can_false (by omega)
    rw [e]; clear e
    have k3 : (b == 3) = false := by simpa using h3
    have k6 : (b == 6) = false := by simpa using h6
    clear h3 h6
    go_enter Try.func67, Try.ntmps67
    go_wp2
    go_ret
    exact ⟨rfl, rfl⟩
theorem ref_can_3 (b : Int) (w : World) : Calls Try.prog 67 #[.int .i64 3, .int .i64 b] w fun e w' => e = .returned (.bool (canB 3 b)) ∧ w = w' := by
  rcases (show b = 1 ∨ b = 4 ∨ b = 5 ∨ (b ≠ 1 ∧ b ≠ 4 ∧ b ≠ 5) from by omega) with rfl | rfl | rfl | ⟨h1, h4, h5⟩
  · have e : canB 3 1 = true := by decide
    rw [e]; clear e
    go_enter Try.func67, Try.ntmps67
    go_wp2
    go_ret
    exact ⟨rfl, rfl⟩
  · have e : canB 3 4 = true := by decide
    rw [e]; clear e
    go_enter Try.func67, Try.ntmps67
    go_wp2
    go_ret
    exact ⟨rfl, rfl⟩
  · have e : canB 3 5 = true := by decide
    rw [e]; clear e
    go_enter Try.func67, Try.ntmps67
    go_wp2
    go_ret
    exact ⟨rfl, rfl⟩
  · have e : canB 3 b = false := can_false (by omega)
    rw [e]; clear e
    have k1 : (b == 1) = false := by simpa using h1
    have k4 : (b == 4) = false := by simpa using h4
    have k5 : (b == 5) = false := by simpa using h5
    clear h1 h4 h5
    go_enter Try.func67, Try.ntmps67
    go_wp2
    go_ret
    exact ⟨rfl, rfl⟩
theorem ref_can_any (a b : Int) (w : World) : Calls Try.prog 67 #[.int .i64 a, .int .i64 b] w fun e w' => e = .returned (.bool (canB a b)) ∧ w = w' := by
  rcases (show a = 0 ∨ a = 1 ∨ a = 2 ∨ a = 3 ∨ (a ≠ 0 ∧ a ≠ 1 ∧ a ≠ 2 ∧ a ≠ 3) from by omega) with rfl | rfl | rfl | rfl | ⟨h0, h1, h2, h3⟩
  · exact ref_can_0 b w
  · exact ref_can_1 b w
  · exact ref_can_2 b w
  · exact ref_can_3 b w
  · have e : canB a b = false := can_false (by omega)
    rw [e]; clear e
    have h0' : (a == 0) = false := by simpa using h0
    have h1' : (a == 1) = false := by simpa using h1
    have h2' : (a == 2) = false := by simpa using h2
    have h3' : (a == 3) = false := by simpa using h3
    clear h0 h1 h2 h3
    go_enter Try.func67, Try.ntmps67
    go_wp2
    go_ret
    exact ⟨rfl, rfl⟩
end Go.Proofs.Ytpcbcnheogjofaa
