/- Contracts of tick.Mul, of the reference's sums, products, differences, and of layer 2's awake. -/
import Derived.Test.YtebmhaadopceoaaTick
import Derived.Test.YtebmhaadopceoaaShelf
namespace Go.Proofs.Ytebmhaadopceoaa
open Go.RowKit
set_option linter.unusedVariables false
set_option linter.unusedSimpArgs false

def mulI (x y : Int) : Int := min (x * y) top
theorem mul64_any (x y : Int) (hx : 0 ≤ x) (hy : 0 ≤ y) (hx1 : x ≤ top) (hy1 : y ≤ top) (w : World) :
    Calls Try.prog 34 #[.int .u64 x, .int .u64 y] w fun e w' => e = .returned (.tuple #[.int .u64 (x * y / (top + 1)), .int .u64 (x * y % (top + 1))]) ∧ w = w' := by
  obtain ⟨a, rfl⟩ := Int.eq_ofNat_of_zero_le hx
  obtain ⟨b, rfl⟩ := Int.eq_ofNat_of_zero_le hy
  unfold top at hx1 hy1
  refine (Go.Proofs.Try.bits_Mul64 a b (by omega) (by omega) w).mono ?_
  rintro e w' ⟨he, hw⟩
  refine ⟨?_, hw.symm⟩
  rw [he, show top + 1 = ((18446744073709551616 : Nat) : Int) from rfl, ← Int.natCast_mul, Int.natCast_ediv, Int.natCast_emod]
theorem tickMul (x y : Int) (hx : 0 ≤ x) (hy : 0 ≤ y) (hx1 : x ≤ top) (hy1 : y ≤ top) (w : World) :
    Calls Try.prog 20 #[.int .u64 x, .int .u64 y] w fun e w' => e = .returned (.int .u64 (mulI x y)) ∧ w = w' := by
  have hm : 0 ≤ x * y := Int.mul_nonneg hx hy
  have h64 := mul64_any x y hx hy hx1 hy1
  by_cases h : x * y ≤ top
  · have e1 : x * y / (top + 1) = 0 := Int.ediv_eq_zero_of_lt hm (by omega)
    have e2 : x * y % (top + 1) = x * y := Int.emod_eq_of_lt hm (by omega)
    rw [e1, e2] at h64
    rw [show mulI x y = x * y from by unfold mulI; omega]
    have H := Lib.hid h64
    clear h64 e1 e2
    go_enter Try.func20, Try.ntmps20
    go_wp2_with fail
    refine (H.out _).mono ?_
    rintro e w' ⟨rfl, rfl⟩
    go_wp2
    go_ret
    exact ⟨rfl, rfl⟩
  · have e1 : 0 < x * y / (top + 1) := Int.lt_of_lt_of_le (by decide : (0 : Int) < 1) ((Int.le_ediv_iff_mul_le (show 0 < top + 1 from by decide)).2 (by omega))
    rw [show mulI x y = 18446744073709551615 from by unfold mulI top at *; omega]
    generalize x * y / (top + 1) = q at h64 e1
    generalize x * y % (top + 1) = r at h64
    have H := Lib.hid h64
    clear h64 hm h
    go_enter Try.func20, Try.ntmps20
    go_wp2_with fail
    refine (H.out _).mono ?_
    rintro e w' ⟨rfl, rfl⟩
    go_wp2
    go_ret
    exact ⟨rfl, rfl⟩

theorem refadd (x y : Int) (hx : 0 ≤ x) (hy : 0 ≤ y) (hx1 : x ≤ top) (hy1 : y ≤ top) (w : World) :
    Calls Try.prog 21 #[.int .u64 x, .int .u64 y] w fun e w' => e = .returned (.int .u64 (addI x y)) ∧ w = w' := by
  have q : IntKind.u64.wrap (18446744073709551615 - x) = top - x := by rw [IntKind.wrap_u64]; unfold top at *; omega
  by_cases h : x + y ≤ top
  · have e : addI x y = IntKind.u64.wrap (x + y) := by rw [IntKind.wrap_u64]; unfold addI top at *; omega
    have h' : ¬ top - x < y := by omega
    rw [e]; clear e h
    go_enter Try.func21, Try.ntmps21
    go_wp2
    all_goals (go_ret; exact ⟨rfl, rfl⟩)
  · have e : addI x y = 18446744073709551615 := by unfold addI top at *; omega
    have h' : top - x < y := by omega
    rw [e]; clear e h
    go_enter Try.func21, Try.ntmps21
    go_wp2
    all_goals (go_ret; exact ⟨rfl, rfl⟩)
theorem refmul (x y : Int) (hx : 0 ≤ x) (hy : 0 ≤ y) (hx1 : x ≤ top) (hy1 : y ≤ top) (w : World) :
    Calls Try.prog 22 #[.int .u64 x, .int .u64 y] w fun e w' => e = .returned (.int .u64 (mulI x y)) ∧ w = w' := by
  rcases (show x = 0 ∨ 0 < x from by omega) with rfl | h0
  · rw [show mulI 0 y = 0 from by unfold mulI; rw [Int.zero_mul]; rfl]
    have q : IntKind.u64.wrap (0 * y) = 0 := by rw [Int.zero_mul]; rfl
    go_enter Try.func22, Try.ntmps22
    go_wp2
    all_goals (go_ret; exact ⟨by first | rfl | exact ret_int q | simp, rfl⟩)
  · have hz : (x != 0) = true := by rw [bne_iff_ne]; omega
    have hz2 : (x == 0) = false := by simp; omega
    have hm : 0 ≤ x * y := Int.mul_nonneg hx hy
    have hk : y ≤ top / x ↔ x * y ≤ top := by rw [Int.le_ediv_iff_mul_le h0, Int.mul_comm]
    have hq0 : 0 ≤ top / x := Int.ediv_nonneg (by decide) hx
    have hq1 : top / x ≤ top := Int.ediv_le_self _ (by decide)
    have g1 : IntKind.u64.wrap (Int.tdiv 18446744073709551615 x) = top / x := by
      rw [Int.tdiv_eq_ediv_of_nonneg (by decide), IntKind.wrap_u64]
      unfold top at *
      omega
    by_cases h : x * y ≤ top
    · have h1 : ¬ top / x < y := by have := hk.2 h; omega
      rw [show mulI x y = x * y from by unfold mulI; omega]
      have g2 : IntKind.u64.wrap (x * y) = x * y := by rw [IntKind.wrap_u64]; unfold top at *; omega
      generalize top / x = q at g1 h1
      clear hk hq0 hq1 h hm
      go_enter Try.func22, Try.ntmps22
      go_wp2
      all_goals (go_ret; exact ⟨rfl, rfl⟩)
    · have h1 : top / x < y := by have := fun h' => h (hk.1 h'); omega
      rw [show mulI x y = 18446744073709551615 from by unfold mulI top at *; omega]
      generalize top / x = q at g1 h1
      clear hk hq0 hq1 h hm
      go_enter Try.func22, Try.ntmps22
      go_wp2
      all_goals (go_ret; exact ⟨rfl, rfl⟩)
theorem refsub (x y : Int) (hx : 0 ≤ x) (hy : 0 ≤ y) (hx1 : x ≤ top) (hy1 : y ≤ top) (w : World) :
    Calls Try.prog 24 #[.int .u64 x, .int .u64 y] w fun e w' => e = .returned (.int .u64 (subI x y)) ∧ w = w' := by
  by_cases h : x < y
  · rw [show subI x y = 0 from by unfold subI; omega]
    go_enter Try.func24, Try.ntmps24
    go_wp2
    all_goals (go_ret; exact ⟨rfl, rfl⟩)
  · have e : subI x y = IntKind.u64.wrap (x - y) := by rw [IntKind.wrap_u64]; unfold subI top at *; omega
    rw [e]; clear e
    go_enter Try.func24, Try.ntmps24
    go_wp2
    all_goals (go_ret; exact ⟨rfl, rfl⟩)
theorem refOf (n : Int) (w : World) (h : n ≤ 9223372036854775807) : Calls Try.prog 25 #[.int .i64 n] w fun e w' => e = .returned (.int .u64 (max n 0)) ∧ w = w' := by
  have q : 0 ≤ n → IntKind.u64.wrap n = n := fun h0 => by rw [IntKind.wrap_u64]; omega
  have HQ := Lib.hid q
  clear q h
  by_cases h : n < 0
  · rw [show max n 0 = 0 from by omega]
    go_enter Try.func25, Try.ntmps25
    go_wp2
    all_goals (go_ret; exact ⟨rfl, rfl⟩)
  · rw [show max n 0 = n from by omega]
    have q := HQ.out (by omega)
    go_enter Try.func25, Try.ntmps25
    go_wp2
    all_goals (go_ret; exact ⟨rfl, rfl⟩)
theorem refInt (x : Int) (hx : 0 ≤ x) (w : World) : Calls Try.prog 26 #[.int .u64 x] w fun e w' => e = .returned (.int .i64 (min x i63)) ∧ w = w' := by
  by_cases h : x ≤ 9223372036854775807
  · rw [show min x i63 = x from by unfold i63; omega]
    have q : wrap64 x = x := by unfold wrap64; omega
    go_enter Try.func26, Try.ntmps26
    go_wp2
    all_goals (go_ret; exact ⟨rfl, rfl⟩)
  · rw [show min x i63 = 9223372036854775807 from by unfold i63; omega]
    go_enter Try.func26, Try.ntmps26
    go_wp2
    all_goals (go_ret; exact ⟨rfl, rfl⟩)

theorem awake2 (w : World) : Calls Try.prog 14 #[] w fun e w' => e = .returned (.bool true) ∧ w = w' := by
  have e1 : gN 5 3 9 = 11 := by decide
  have e2 : gB 5 3 9 = true := by decide
  have e3 : addI 18446744073709551615 1 = 18446744073709551615 := by decide
  have e4 : subI 3 5 = 0 := by decide
  have e5 : min 9223372036854775808 i63 = 9223372036854775807 := by decide
  have e6 : max (-1 : Int) 0 = 0 := by decide
  go_enter Try.func14, Try.ntmps14
  go_wp2_with (first | (go_at_call 16; refine (grid_any _ _ _ (by decide) (by decide) (by decide) (by decide) (by decide) (by decide) _).mono ?_; rintro e w' ⟨rfl, rfl⟩) | (go_at_call 19; refine (tickAdd _ _ (by decide) (by decide) (by decide) (by decide) _).mono ?_; rintro e w' ⟨rfl, rfl⟩) | (go_at_call 23; refine (tickSub _ _ (by decide) (by decide) (by decide) (by decide) _).mono ?_; rintro e w' ⟨rfl, rfl⟩) | (go_at_call 12; refine (tickOf _ _ (by decide)).mono ?_; rintro e w' ⟨rfl, rfl⟩) | (go_at_call 13; refine (tickInt _ (by decide) _).mono ?_; rintro e w' ⟨rfl, rfl⟩))
  go_ret
  exact ⟨rfl, rfl⟩
end Go.Proofs.Ytebmhaadopceoaa
