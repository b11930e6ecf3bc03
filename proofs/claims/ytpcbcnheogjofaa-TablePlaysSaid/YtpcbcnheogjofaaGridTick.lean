/- Contracts of package tick, one walk a function. -/
import Derived.Test.YtpcbcnheogjofaaBase
namespace Go.Proofs.Ytpcbcnheogjofaa
open Go.RowKit
set_option linter.unusedVariables false
set_option linter.unusedSimpArgs false

theorem add64_lo (x y : Int) (hx : 0 ≤ x) (hy : 0 ≤ y) (h : x + y ≤ top) (w : World) :
    (callFunc 101 #[.int .u64 x, .int .u64 y, .int .u64 0]).run Try.prog w = .ok (.value (.tuple #[.int .u64 (x + y), .int .u64 0])) w := by
  rw [run_callFunc_extern Try.func101 (by kernel_rfl) (by kernel_rfl) (by kernel_rfl) (e := add64Entry) (by kernel_rfl), run_add64 x y 0 (by omega) (by omega) (by omega) (by omega)]
  unfold top at h
  rw [show (x + y + 0) % 18446744073709551616 = x + y from by omega, show (x + y + 0) / 18446744073709551616 = 0 from by omega]
  rfl
theorem add64_hi (x y : Int) (hx : 0 ≤ x) (hy : 0 ≤ y) (hx1 : x ≤ top) (hy1 : y ≤ top) (h : top < x + y) (w : World) :
    (callFunc 101 #[.int .u64 x, .int .u64 y, .int .u64 0]).run Try.prog w = .ok (.value (.tuple #[.int .u64 (x + y - top - 1), .int .u64 1])) w := by
  rw [run_callFunc_extern Try.func101 (by kernel_rfl) (by kernel_rfl) (by kernel_rfl) (e := add64Entry) (by kernel_rfl), run_add64 x y 0 (by omega) (by omega) (by omega) (by omega)]
  unfold top at *
  rw [show (x + y + 0) % 18446744073709551616 = x + y - 18446744073709551615 - 1 from by omega, show (x + y + 0) / 18446744073709551616 = 1 from by omega]
  rfl

/-- The next point of a grid, bounds or no bounds. -/
def nxI (f p n : Int) : Int := if n < f then f else f + (n - f) / p * p + p
def gB (f p n : Int) : Bool := decide (p ≠ 0) && decide (nxI f p n ≤ top)
def gN (f p n : Int) : Int := if gB f p n then nxI f p n else 0
theorem quo_bd (x p : Int) (hx : 0 ≤ x) (hp : 0 < p) : 0 ≤ x / p ∧ x / p ≤ x ∧ x / p * p ≤ x ∧ 0 ≤ x / p * p ∧ x < x / p * p + p := by
  have h0 : 0 ≤ x / p := Int.ediv_nonneg hx (by omega)
  have h1 : x / p * p ≤ x := Int.ediv_mul_le x (by omega)
  have h2 : x < (x / p + 1) * p := Int.lt_ediv_add_one_mul_self x hp
  rw [Int.add_mul, Int.one_mul] at h2
  have h3 : 0 ≤ x / p * p := Int.mul_nonneg h0 (by omega)
  refine ⟨h0, Int.ediv_le_self _ hx, h1, h3, h2⟩
theorem nx_bd (f p n : Int) (f0 : 0 ≤ f) (p0 : 0 < p) (n0 : 0 ≤ n) : n < nxI f p n ∧ f ≤ nxI f p n := by
  unfold nxI
  split
  · omega
  · have := quo_bd (n - f) p (by omega) p0
    omega
theorem gN_bd (f p n : Int) (f0 : 0 ≤ f) (p0 : 0 ≤ p) (n0 : 0 ≤ n) : 0 ≤ gN f p n ∧ gN f p n ≤ top := by
  unfold gN
  split
  · rename_i h
    unfold gB at h
    simp at h
    have := nx_bd f p n f0 (by omega) n0
    exact ⟨by omega, h.2⟩
  · unfold top; omega

theorem walk_forms (f p n : Int) (f0 : 0 ≤ f) (p0 : 0 < p) (h : f ≤ n) (n1 : n ≤ top) :
    IntKind.u64.wrap (n - f) = n - f ∧ IntKind.u64.wrap ((n - f).tdiv p) = (n - f) / p ∧ IntKind.u64.wrap ((n - f) / p * p) = (n - f) / p * p ∧ IntKind.u64.wrap (f + (n - f) / p * p) = f + (n - f) / p * p := by
  obtain ⟨q0, q1, q2, q3, q4⟩ := quo_bd (n - f) p (by omega) p0
  rw [Int.tdiv_eq_ediv_of_nonneg (by omega)]
  unfold top at n1
  refine ⟨?_, ?_, ?_, ?_⟩ <;> rw [IntKind.wrap_u64] <;> omega
theorem grid_any (f p n : Int) (f0 : 0 ≤ f) (f1 : f ≤ top) (p0 : 0 ≤ p) (p1 : p ≤ top) (n0 : 0 ≤ n) (n1 : n ≤ top) (w : World) :
    Calls Try.prog 79 #[.int .u64 f, .int .u64 p, .int .u64 n] w fun e w' => e = .returned (.tuple #[.int .u64 (gN f p n), .bool (gB f p n)]) ∧ w = w' := by
  rcases (show p = 0 ∨ 0 < p from by omega) with rfl | hp
  · rw [show gB f 0 n = false from rfl, show gN f 0 n = 0 from rfl]
    go_enter Try.func79, Try.ntmps79
    go_wp2
    go_ret2
    exact ⟨rfl, rfl⟩
  · have hz : (p == 0) = false := by simp; omega
    have hpn : p ≠ 0 := by omega
    by_cases hf : n < f
    · have hb : gB f p n = true := by unfold gB nxI; rw [if_pos hf]; simp [hpn, f1]
      have hn : gN f p n = f := by unfold gN; rw [hb]; unfold nxI; rw [if_pos hf]; rfl
      rw [hb, hn]
      clear hb hn hpn
      go_enter Try.func79, Try.ntmps79
      go_wp2
      go_ret2
      exact ⟨rfl, rfl⟩
    · obtain ⟨q0, q1, q2, q3, q4⟩ := quo_bd (n - f) p (by omega) hp
      have hnx : nxI f p n = f + (n - f) / p * p + p := by unfold nxI; rw [if_neg hf]
      obtain ⟨e0, e1, e2, e3⟩ := walk_forms f p n f0 hp (by omega) n1
      obtain ⟨q, hq⟩ : ∃ q, q = (n - f) / p := ⟨_, rfl⟩
      rw [← hq] at q0 q1 q2 q3 q4 hnx e1 e2 e3
      obtain ⟨m, hm⟩ : ∃ m, m = q * p := ⟨_, rfl⟩
      rw [← hm] at q2 q3 q4 hnx e3
      replace e2 := e2.trans hm.symm
      obtain ⟨s, hs⟩ : ∃ s, s = f + m := ⟨_, rfl⟩
      have hsf : f + m = s := hs.symm
      have s0 : 0 ≤ s := by omega
      have s1 : s ≤ top := by omega
      rw [hsf] at hnx
      replace e3 := e3.trans hsf
      clear hq hm hs q0 q1 q2 q3 q4 hsf
      by_cases hle : s + p ≤ top
      · have hb : gB f p n = true := by unfold gB; rw [hnx]; simp [hpn, hle]
        have hn : gN f p n = s + p := by unfold gN; rw [hb, hnx]; rfl
        rw [hb, hn]
        have hadd := add64_lo s p s0 p0 hle
        clear hb hn hpn hnx hle
        go_enter Try.func79, Try.ntmps79
        go_wp2_with (simp only [hadd])
        go_ret2
        exact ⟨rfl, rfl⟩
      · have hle' : top < s + p := by omega
        have hb : gB f p n = false := by unfold gB; rw [hnx]; simp [hle']
        have hn : gN f p n = 0 := by unfold gN; rw [hb]; rfl
        rw [hb, hn]
        have hadd := add64_hi s p s0 p0 s1 p1 hle'
        clear hb hn hpn hnx hle hle'
        go_enter Try.func79, Try.ntmps79
        go_wp2_with (simp only [hadd])
        go_ret2
        exact ⟨rfl, rfl⟩

/-! ### The other calls of tick -/
def addI (x y : Int) : Int := min (x + y) top
def subI (x y : Int) : Int := max (x - y) 0
def i63 : Int := 9223372036854775807
/-- How many points up to a tick. -/
def cntI (f p t : Int) : Int := if t < f then 0 else (t - f) / p + 1
def missI (f p a b : Int) : Int := if p = 0 ∨ b ≤ a then 0 else cntI f p b - cntI f p a
theorem cnt_bd (f p t : Int) (f0 : 0 ≤ f) (p0 : 0 < p) (t0 : 0 ≤ t) : 0 ≤ cntI f p t ∧ cntI f p t ≤ t + 1 := by
  unfold cntI
  split
  · omega
  · have := quo_bd (t - f) p (by omega) p0
    omega
theorem cnt_mono (f p a b : Int) (f0 : 0 ≤ f) (p0 : 0 < p) (a0 : 0 ≤ a) (h : a ≤ b) : cntI f p a ≤ cntI f p b ∧ cntI f p b - cntI f p a ≤ b - a := by
  unfold cntI
  by_cases ha : a < f
  · rw [if_pos ha]
    split
    · omega
    · have := quo_bd (b - f) p (by omega) p0
      omega
  · rw [if_neg ha, if_neg (by omega)]
    obtain ⟨x0, x1, x2, x3, x4⟩ := quo_bd (a - f) p (by omega) p0
    obtain ⟨y0, y1, y2, y3, y4⟩ := quo_bd (b - f) p (by omega) p0
    have h1 : (a - f) / p ≤ (b - f) / p := Int.ediv_le_ediv p0 (by omega)
    refine ⟨by omega, ?_⟩
    generalize (a - f) / p = x at *
    generalize (b - f) / p = y at *
    have h2 : (y - x) * p = y * p - x * p := Int.sub_mul ..
    have h3 : y - x ≤ (y - x) * p := by
      have := Int.mul_le_mul_of_nonneg_left (show (1 : Int) ≤ p from by omega) (show 0 ≤ y - x from by omega)
      rwa [Int.mul_one] at this
    by_cases he : y = x
    · omega
    · have h4 : p ≤ (y - x) * p := by
        have := Int.mul_le_mul_of_nonneg_right (show (1 : Int) ≤ y - x from by omega) (show 0 ≤ p from by omega)
        rwa [Int.one_mul] at this
      by_cases hp1 : p = 1
      · subst hp1; omega
      · have h5 : (y - x - 1) * 2 ≤ (y - x - 1) * p := Int.mul_le_mul_of_nonneg_left (by omega) (by omega)
        have h6 : (y - x - 1) * p = y * p - x * p - p := by rw [Int.sub_mul, h2, Int.one_mul]
        omega
theorem miss_bd (f p a b : Int) (f0 : 0 ≤ f) (p0 : 0 ≤ p) (a0 : 0 ≤ a) (b0 : 0 ≤ b) : 0 ≤ missI f p a b ∧ missI f p a b ≤ b := by
  unfold missI
  split
  · omega
  · have := cnt_mono f p a b f0 (by omega) a0 (by omega)
    omega
theorem upto_any (f p t : Int) (f0 : 0 ≤ f) (p0 : 0 < p) (t0 : 0 ≤ t) (t1 : t ≤ top) (w : World) :
    Calls Try.prog 102 #[.int .u64 f, .int .u64 p, .int .u64 t] w fun e w' => e = .returned (.int .u64 (IntKind.u64.wrap (cntI f p t))) ∧ w = w' := by
  have hz : (p == 0) = false := by simp; omega
  by_cases h : t < f
  · rw [show cntI f p t = 0 from by unfold cntI; rw [if_pos h]]
    go_enter Try.func102, Try.ntmps102
    go_wp2
    go_ret
    exact ⟨rfl, rfl⟩
  · rw [show cntI f p t = (t - f) / p + 1 from by unfold cntI; rw [if_neg h]]
    obtain ⟨e0, e1, _, _⟩ := walk_forms f p t f0 p0 (by omega) t1
    generalize (t - f) / p = q at *
    go_enter Try.func102, Try.ntmps102
    go_wp2
    go_ret
    exact ⟨rfl, rfl⟩
theorem miss_wrap (x y : Int) (h0 : 0 ≤ x - y) (h1 : x - y ≤ top) : IntKind.u64.wrap (IntKind.u64.wrap x - IntKind.u64.wrap y) = x - y := by
  unfold top at h1
  rw [IntKind.wrap_u64, IntKind.wrap_u64, IntKind.wrap_u64]
  omega
theorem missed_any (f p a b : Int) (f0 : 0 ≤ f) (p0 : 0 ≤ p) (a0 : 0 ≤ a) (a1 : a ≤ top) (b0 : 0 ≤ b) (b1 : b ≤ top) (w : World) :
    Calls Try.prog 81 #[.int .u64 f, .int .u64 p, .int .u64 a, .int .u64 b] w fun e w' => e = .returned (.int .u64 (missI f p a b)) ∧ w = w' := by
  rcases (show p = 0 ∨ 0 < p from by omega) with rfl | hp
  · rw [show missI f 0 a b = 0 from by unfold missI; rw [if_pos (Or.inl rfl)]]
    go_enter Try.func81, Try.ntmps81
    go_wp2
    go_ret
    exact ⟨rfl, rfl⟩
  · have hz : (p == 0) = false := by simp; omega
    by_cases h : b ≤ a
    · rw [show missI f p a b = 0 from by unfold missI; rw [if_pos (Or.inr h)]]
      go_enter Try.func81, Try.ntmps81
      go_wp2
      go_ret
      exact ⟨rfl, rfl⟩
    · have h' : a < b := by omega
      have hm : missI f p a b = cntI f p b - cntI f p a := by unfold missI; rw [if_neg (by omega)]
      have hc := cnt_mono f p a b f0 hp a0 (by omega)
      have hw := miss_wrap (cntI f p b) (cntI f p a) (by omega) (by omega)
      rw [hm]
      have k1 := upto_any f p b f0 hp b0 b1
      have k2 := upto_any f p a f0 hp a0 a1
      have K1 := Lib.hid k1
      have K2 := Lib.hid k2
      clear hm hc k1 k2 h
      go_enter Try.func81, Try.ntmps81
      go_wp2_with fail
      refine (K1.out _).mono ?_
      rintro e w' ⟨rfl, rfl⟩
      go_wp2_with fail
      refine (K2.out _).mono ?_
      rintro e w' ⟨rfl, rfl⟩
      go_wp2
      go_ret
      exact ⟨rfl, rfl⟩

/-! ### The reference's Grid and Missed -/
theorem refgrid_any (f p n : Int) (f0 : 0 ≤ f) (f1 : f ≤ top) (p0 : 0 ≤ p) (p1 : p ≤ top) (n0 : 0 ≤ n) (n1 : n ≤ top) (w : World) :
    Calls Try.prog 83 #[.int .u64 f, .int .u64 p, .int .u64 n] w fun e w' => e = .returned (.tuple #[.int .u64 (gN f p n), .bool (gB f p n)]) ∧ w = w' := by
  rcases (show p = 0 ∨ 0 < p from by omega) with rfl | hp
  · rw [show gB f 0 n = false from rfl, show gN f 0 n = 0 from rfl]
    go_enter Try.func83, Try.ntmps83
    go_wp2
    go_ret2
    exact ⟨rfl, rfl⟩
  · have hz : (p == 0) = false := by simp; omega
    have hpn : p ≠ 0 := by omega
    by_cases hf : n < f
    · have hb : gB f p n = true := by unfold gB nxI; rw [if_pos hf]; simp [hpn, f1]
      have hn : gN f p n = f := by unfold gN; rw [hb]; unfold nxI; rw [if_pos hf]; rfl
      rw [hb, hn]
      clear hb hn hpn
      go_enter Try.func83, Try.ntmps83
      go_wp2
      go_ret2
      exact ⟨rfl, rfl⟩
    · obtain ⟨q0, q1, q2, q3, q4⟩ := quo_bd (n - f) p (by omega) hp
      obtain ⟨r0, r1, r2, r3, r4⟩ := quo_bd (top - f) p (by omega) hp
      have hnx : nxI f p n = f + (n - f) / p * p + p := by unfold nxI; rw [if_neg hf]
      obtain ⟨e0, e1, _, _⟩ := walk_forms f p n f0 hp (by omega) n1
      have g0 : IntKind.u64.wrap (18446744073709551615 - f) = top - f := by rw [IntKind.wrap_u64]; unfold top at *; omega
      have g1 : IntKind.u64.wrap ((top - f).tdiv p) = (top - f) / p := by rw [Int.tdiv_eq_ediv_of_nonneg (by omega), IntKind.wrap_u64]; unfold top at *; omega
      have hkey : (n - f) / p + 1 ≤ (top - f) / p ↔ f + (n - f) / p * p + p ≤ top := by
        rw [Int.le_ediv_iff_mul_le hp, Int.add_mul, Int.one_mul]
        omega
      have hlow : (n - f) / p + 1 ≤ top + 1 := by omega
      obtain ⟨q, hq⟩ : ∃ q, q = (n - f) / p := ⟨_, rfl⟩
      obtain ⟨r, hr⟩ : ∃ r, r = (top - f) / p := ⟨_, rfl⟩
      rw [← hq] at q0 q1 q2 q3 q4 hnx e1 hkey hlow
      rw [← hr] at r0 r1 r2 r3 r4 g1 hkey
      by_cases hle : q + 1 ≤ r
      · have hle' := hkey.1 hle
        have hb : gB f p n = true := by unfold gB; rw [hnx]; simp [hpn, hle']
        have hn : gN f p n = f + q * p + p := by unfold gN; rw [hb, hnx]; rfl
        rw [hb, hn]
        have g2 : IntKind.u64.wrap (q + 1) = q + 1 := by rw [IntKind.wrap_u64]; unfold top at *; omega
        have g3 : (q + 1 == 0) = false := by simp; omega
        have g4 : ¬ r < q + 1 := by omega
        have g5 : IntKind.u64.wrap (f + IntKind.u64.wrap ((q + 1) * p)) = f + q * p + p := by rw [IntKind.wrap_u64, IntKind.wrap_u64, Int.add_mul, Int.one_mul]; unfold top at *; omega
        clear hb hn hpn hnx hkey hlow hle hle' q0 q1 q2 q3 q4 r0 r1 r2 r3 r4 hq hr
        go_enter Try.func83, Try.ntmps83
        go_wp2
        go_ret2
        exact ⟨rfl, rfl⟩
      · have hle' : top < f + q * p + p := by have := fun h => hle (hkey.2 h); omega
        have hb : gB f p n = false := by unfold gB; rw [hnx]; simp [hle']
        have hn : gN f p n = 0 := by unfold gN; rw [hb]; rfl
        rw [hb, hn]
        by_cases hw : q + 1 = top + 1
        · have g2 : IntKind.u64.wrap (q + 1) = 0 := by rw [IntKind.wrap_u64, hw]; rfl
          clear hb hn hpn hnx hkey hlow hle hle' q0 q1 q2 q3 q4 r0 r1 r2 r3 r4 hq hr hw
          go_enter Try.func83, Try.ntmps83
          go_wp2
          go_ret2
          exact ⟨rfl, rfl⟩
        · have g2 : IntKind.u64.wrap (q + 1) = q + 1 := by rw [IntKind.wrap_u64]; unfold top at *; omega
          have g3 : (q + 1 == 0) = false := by simp; omega
          have g4 : r < q + 1 := by omega
          clear hb hn hpn hnx hkey hlow hle hle' q0 q1 q2 q3 q4 r0 r1 r2 r3 r4 hq hr hw
          go_enter Try.func83, Try.ntmps83
          go_wp2
          go_ret2
          exact ⟨rfl, rfl⟩
theorem refupto_any (f p t : Int) (f0 : 0 ≤ f) (p0 : 0 < p) (t0 : 0 ≤ t) (t1 : t ≤ top) (w : World) :
    Calls Try.prog 103 #[.int .u64 f, .int .u64 p, .int .u64 t] w fun e w' => e = .returned (.tuple #[.int .u64 (if t < f then 0 else (t - f) / p), .bool (decide (f ≤ t))]) ∧ w = w' := by
  have hz : (p == 0) = false := by simp; omega
  by_cases h : t < f
  · have d : decide (f ≤ t) = false := by simp; omega
    rw [if_pos h, d]
    clear d
    go_enter Try.func103, Try.ntmps103
    go_wp2
    go_ret2
    exact ⟨rfl, rfl⟩
  · have d : decide (f ≤ t) = true := by simp; omega
    rw [if_neg h, d]
    clear d
    obtain ⟨e0, e1, _, _⟩ := walk_forms f p t f0 p0 (by omega) t1
    generalize (t - f) / p = q at *
    go_enter Try.func103, Try.ntmps103
    go_wp2
    go_ret2
    exact ⟨rfl, rfl⟩
theorem refmissed_any (f p a b : Int) (f0 : 0 ≤ f) (p0 : 0 ≤ p) (a0 : 0 ≤ a) (a1 : a ≤ top) (b0 : 0 ≤ b) (b1 : b ≤ top) (w : World) :
    Calls Try.prog 82 #[.int .u64 f, .int .u64 p, .int .u64 a, .int .u64 b] w fun e w' => e = .returned (.int .u64 (missI f p a b)) ∧ w = w' := by
  rcases (show p = 0 ∨ 0 < p from by omega) with rfl | hp
  · rw [show missI f 0 a b = 0 from by unfold missI; rw [if_pos (Or.inl rfl)]]
    go_enter Try.func82, Try.ntmps82
    go_wp2
    go_ret
    exact ⟨rfl, rfl⟩
  · have hz : (p == 0) = false := by simp; omega
    by_cases h : b ≤ a
    · rw [show missI f p a b = 0 from by unfold missI; rw [if_pos (Or.inr h)]]
      go_enter Try.func82, Try.ntmps82
      go_wp2
      go_ret
      exact ⟨rfl, rfl⟩
    · have h' : a < b := by omega
      have hm : missI f p a b = cntI f p b - cntI f p a := by unfold missI; rw [if_neg (by omega)]
      have hc := cnt_mono f p a b f0 hp a0 (by omega)
      rw [hm]
      have k1 := refupto_any f p b f0 hp b0 b1
      have k2 := refupto_any f p a f0 hp a0 a1
      by_cases hb : b < f
      · have hv : cntI f p b - cntI f p a = 0 := by unfold cntI; rw [if_pos hb, if_pos (by omega)]; rfl
        have d1 : decide (f ≤ b) = false := by simp; omega
        rw [if_pos hb, d1] at k1
        rw [hv]
        have K1 := Lib.hid k1
        clear hm hc k1 k2 h hv d1
        go_enter Try.func82, Try.ntmps82
        go_wp2_with fail
        refine (K1.out _).mono ?_
        rintro e w' ⟨rfl, rfl⟩
        go_wp2
        go_ret
        exact ⟨rfl, rfl⟩
      · have d1 : decide (f ≤ b) = true := by simp; omega
        rw [if_neg hb, d1] at k1
        by_cases ha : a < f
        · have hv : cntI f p b - cntI f p a = (b - f) / p + 1 := by unfold cntI; rw [if_neg hb, if_pos ha]; omega
          have d2 : decide (f ≤ a) = false := by simp; omega
          rw [if_pos ha, d2] at k2
          rw [hv]
          have g : IntKind.u64.wrap ((b - f) / p + 1) = (b - f) / p + 1 := by rw [← hv, IntKind.wrap_u64]; unfold top at *; omega
          generalize (b - f) / p = q at *
          have K1 := Lib.hid k1
          have K2 := Lib.hid k2
          clear hm hc k1 k2 h hv d1 d2
          go_enter Try.func82, Try.ntmps82
          go_wp2_with fail
          refine (K1.out _).mono ?_
          rintro e w' ⟨rfl, rfl⟩
          go_wp2_with fail
          refine (K2.out _).mono ?_
          rintro e w' ⟨rfl, rfl⟩
          go_wp2
          go_ret
          exact ⟨rfl, rfl⟩
        · have hv : cntI f p b - cntI f p a = (b - f) / p - (a - f) / p := by unfold cntI; rw [if_neg hb, if_neg ha]; omega
          have d2 : decide (f ≤ a) = true := by simp; omega
          rw [if_neg ha, d2] at k2
          rw [hv]
          have g : IntKind.u64.wrap ((b - f) / p - (a - f) / p) = (b - f) / p - (a - f) / p := by rw [← hv, IntKind.wrap_u64]; unfold top at *; omega
          generalize (b - f) / p = q at *
          generalize (a - f) / p = r at *
          have K1 := Lib.hid k1
          have K2 := Lib.hid k2
          clear hm hc k1 k2 h hv d1 d2
          go_enter Try.func82, Try.ntmps82
          go_wp2_with fail
          refine (K1.out _).mono ?_
          rintro e w' ⟨rfl, rfl⟩
          go_wp2_with fail
          refine (K2.out _).mono ?_
          rintro e w' ⟨rfl, rfl⟩
          go_wp2
          go_ret
          exact ⟨rfl, rfl⟩
end Go.Proofs.Ytpcbcnheogjofaa
