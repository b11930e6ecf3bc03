/- Law TickWalks proved: for any first tick, period, beginning and number of steps the call returns true, under no condition.
   The frame below the walk was written by the kit's proof-skeleton.mjs. -/
import Derived.Test.YtebmhaadopceoaaRows
import Derived.WalkKit
import Derived.ProofKit
import Derived.OpenShut
import Derived.ShutString
import Derived.ChangeOld
import Derived.Below
import Derived.Test.YtebmhaadopceoaaTick2
namespace Go.Proofs.Ytebmhaadopceoaa.tickWalks
open Go.ChangeShapes Go.WideShapes Go.ChangeAt Go.RowKit
set_option linter.unusedVariables false      -- a walk need not use every 'w<i>' (that an integer argument fits its kind)

theorem own : ownKnob Try.prog.godebug = none := by kernel_rfl

theorem nx_cnt (f p t : Int) : nxI f p t = f + cntI f p t * p := by
  unfold nxI cntI
  by_cases h : t < f
  · rw [if_pos h, if_pos h, Int.zero_mul, Int.add_zero]
  · rw [if_neg h, if_neg h, Int.add_mul, Int.one_mul]; omega
theorem cnt_at (f p j : Int) (p0 : 0 < p) (j0 : 0 ≤ j) : cntI f p (f + j * p) = j + 1 := by
  have h : 0 ≤ j * p := Int.mul_nonneg j0 (by omega)
  unfold cntI
  rw [if_neg (by omega), show f + j * p - f = j * p from by omega, Int.mul_ediv_cancel _ (by omega)]
theorem cnt_before (f p j : Int) (p0 : 0 < p) (j0 : 0 ≤ j) : cntI f p (f + j * p - 1) = j := by
  rcases (show j = 0 ∨ 1 ≤ j from by omega) with rfl | h1
  · unfold cntI
    rw [Int.zero_mul, if_pos (by omega)]
  · have h : p ≤ j * p := by
      have := Int.mul_le_mul_of_nonneg_right h1 (show 0 ≤ p from by omega)
      rwa [Int.one_mul] at this
    unfold cntI
    rw [if_neg (by omega)]
    have : (f + j * p - 1 - f) / p = j - 1 := by
      rw [show f + j * p - 1 - f = (p - 1) + (j - 1) * p from by rw [Int.sub_mul, Int.one_mul]; omega, Int.add_mul_ediv_right _ _ (by omega), Int.ediv_eq_zero_of_lt (by omega) (by omega)]
      omega
    omega
theorem nx_p (f p t : Int) (f0 : 0 ≤ f) (p0 : 0 < p) (t0 : 0 ≤ t) : f < nxI f p t → p ≤ nxI f p t := by
  intro h
  unfold nxI at *
  by_cases ht : t < f
  · rw [if_pos ht] at h; omega
  · rw [if_neg ht]
    have := quo_bd (t - f) p (by omega) p0
    omega
/-- What is told of a step. -/
theorem stepT (f p s at_ i y : Int) (f0 : 0 ≤ f) (f1 : f ≤ 1048575) (p0 : 0 < p) (p1 : p ≤ 4096) (s0 : 0 ≤ s) (s1 : s ≤ 2097151) (hy : y = nxI f p at_) (ha : s ≤ at_) (hb : at_ ≤ s + f + i * p) (hi : 0 ≤ i) (h40 : i ≤ 40)
    (hc : cntI f p at_ = cntI f p s + i) (he : 0 < i → s < at_) :
    gB f p at_ = true ∧ gN f p at_ = y ∧ 0 ≤ y ∧ y ≤ top ∧ at_ < y ∧ f ≤ y ∧ (y - f) % p = 0 ∧ (f < y → y - p ≤ at_) ∧ y ≤ s + f + (i + 1) * p ∧ cntI f p y = cntI f p s + (i + 1) ∧ missI f p s y = i + 1 ∧ missI f p s (y - 1) = i := by
  have hnx := nx_cnt f p at_
  obtain ⟨c0, _⟩ := cnt_bd f p s f0 p0 s0
  obtain ⟨n1, n2⟩ := nx_bd f p at_ f0 p0 (by omega)
  have hip : i * p ≤ 40 * 4096 := Int.mul_le_mul h40 p1 (by omega) (by omega)
  have hip1 : (i + 1) * p = i * p + p := by rw [Int.add_mul, Int.one_mul]
  have hle : f < y → y - p ≤ at_ := by
    intro hfy
    rw [hy] at *
    unfold nxI at *
    by_cases h : at_ < f
    · rw [if_pos h] at hfy; omega
    · rw [if_neg h]
      have := quo_bd (at_ - f) p (by omega) p0
      omega
  have hym : y ≤ s + f + (i + 1) * p := by
    by_cases hfy : f < y
    · have := hle hfy; omega
    · have : 0 ≤ (i + 1) * p := Int.mul_nonneg (by omega) (by omega)
      omega
  have hyt : y ≤ top := by unfold top; omega
  have hcy : cntI f p y = cntI f p s + (i + 1) := by
    rw [hy, hnx, cnt_at f p _ p0 (by omega)]
    omega
  have hcy1 : cntI f p (y - 1) = cntI f p s + i := by
    rw [hy, hnx, cnt_before f p _ p0 (by omega)]
    omega
  have hmod : (y - f) % p = 0 := by
    rw [hy, hnx, show f + cntI f p at_ * p - f = cntI f p at_ * p from by omega]
    exact Int.mul_emod_left _ _
  have hgb : gB f p at_ = true := by
    unfold gB
    rw [← hy]
    have : p ≠ 0 := by omega
    simp [this, hyt]
  refine ⟨hgb, by unfold gN; rw [hgb, ← hy]; rfl, by omega, hyt, by omega, by omega, hmod, hle, hym, hcy, ?_, ?_⟩
  · unfold missI
    rw [if_neg (by omega), hcy]
    omega
  · unfold missI
    rcases (show i = 0 ∨ 0 < i from by omega) with rfl | h
    · split
      · rfl
      · rw [hcy1]; omega
    · have := he h
      rw [if_neg (by omega), hcy1]
      omega

theorem walk (a0 : Int) (a1 : Int) (a2 : Int) (a3 : Int) (w0 : (Lit.int .u64 a0).wf = true) (w1 : (Lit.int .u64 a1).wf = true) (w2 : (Lit.int .u64 a2).wf = true) (w3 : (Lit.int .i64 a3).wf = true) (w : World) :
    Calls Try.prog 6 #[.int .u64 a0, .int .u64 a1, .int .u64 a2, .int .i64 a3] w fun e w' => e = .returned (.bool true) ∧ Below w.heap.size w w' := by
  obtain ⟨f, hf, f0, f1⟩ : ∃ p, bits .and .u64 a0 1048575 = p ∧ 0 ≤ p ∧ p ≤ 1048575 := ⟨_, rfl, by rw [and_u64_20]; omega, by rw [and_u64_20]; omega⟩
  obtain ⟨q, hq, q0, q1⟩ : ∃ p, bits .and .u64 a1 4095 = p ∧ 0 ≤ p ∧ p ≤ 4095 := ⟨_, rfl, by rw [and_u64_4095]; omega, by rw [and_u64_4095]; omega⟩
  obtain ⟨s, hs, s0, s1⟩ : ∃ p, bits .and .u64 a2 2097151 = p ∧ 0 ≤ p ∧ p ≤ 2097151 := ⟨_, rfl, by rw [and_u64_21]; omega, by rw [and_u64_21]; omega⟩
  obtain ⟨v, hv, v0, v255⟩ : ∃ p, bits .and .i64 a3 255 = p ∧ 0 ≤ p ∧ p ≤ 255 := ⟨_, rfl, by rw [and_i64_255]; omega, by rw [and_i64_255]; omega⟩
  obtain ⟨n, hn, n40⟩ : ∃ n : Nat, v % 40 = n ∧ n < 40 := ⟨(v % 40).toNat, by omega, by omega⟩
  obtain ⟨p, hp, p0, p1⟩ : ∃ p, q + 1 = p ∧ 0 < p ∧ p ≤ 4096 := ⟨_, rfl, by omega, by omega⟩
  have w1' : IntKind.u64.wrap (q + 1) = p := by rw [IntKind.wrap_u64]; omega
  have f2 : f ≤ top := by unfold top; omega
  have p2 : p ≤ top := by unfold top; omega
  have p3 : 0 ≤ p := by omega
  have s2 : s ≤ top := by unfold top; omega
  clear w0 w1 w2 w3
  go_enter Try.func6, Try.ntmps6
  go_wp2_with fail
  rw [hn]
  clear hn hv v0 v255
  go_loop [10, 11] (fun v10 v11 => ∃ (k : Nat) (x : Int), k ≤ n ∧ v11 = .int .u64 k ∧ v10 = .int .u64 x ∧ s ≤ x ∧ x ≤ s + f + k * p ∧ cntI f p x = cntI f p s + k ∧ (0 < (k : Int) → s < x)) (fun _ v11 => n - (intOf v11).toNat)
  case atStart => exact ⟨0, s, by omega, rfl, rfl, by omega, by simp; omega, by simp, by simp⟩
  case round =>
    obtain ⟨k, x, hk, rfl, rfl, r1, r2, r3, r4⟩ := hrel
    by_cases hlt : k < n
    · obtain ⟨t1, t2, t3, t4, t5, t6, t7, t8, t9, t10, t11, t12⟩ := stepT f p s x k _ f0 f1 p0 p1 s0 s1 rfl r1 r2 (by omega) (by omega) r3 r4
      have hkp : (k : Int) * p ≤ 40 * 4096 := Int.mul_le_mul (by omega) p1 (by omega) (by omega)
      have x0 : 0 ≤ x := by omega
      have x1 : x ≤ top := by unfold top; omega
      have nxp := Lib.hid (nx_p f p x f0 p0 x0)
      generalize hy : nxI f p x = y at *
      have y1 : y - 1 ≤ top := by omega
      have y2 : 0 ≤ y - 1 := by omega
      have u0 : IntKind.u64.wrap (y - 1) = y - 1 := by rw [IntKind.wrap_u64]; unfold top at *; omega
      have u1 : IntKind.u64.wrap (y - f) = y - f := by rw [IntKind.wrap_u64]; unfold top at *; omega
      have u2 : (y - f).tmod p = 0 := by rw [Int.tmod_eq_emod_of_nonneg (by omega)]; exact t7
      have u3 : IntKind.u64.wrap ((y - f).tmod p) = 0 := by rw [u2]; rfl
      have pz : (p == 0) = false := by simp; omega
      have kk : IntKind.u64.wrap ((k : Int) + 1) = k + 1 := by rw [IntKind.wrap_u64]; omega
      have T7 := Lib.hid t7
      have T8 := Lib.hid t8
      have T9 := Lib.hid t9
      have T10 := Lib.hid t10
      have hsy : s < y := by omega
      clear r1 r2 r3 r4 hkp t7 t8 t9 t10 hy
      by_cases hfy : f < y
      · have h9 := T8.out hfy
        have u4 : IntKind.u64.wrap (y - p) = y - p := by
          have := nxp.out hfy
          rw [IntKind.wrap_u64]
          unfold top at *
          omega
        go_wp2_with (first | (go_at_call 16; refine (grid_any _ _ _ (by assumption) (by assumption) (by assumption) (by assumption) (by assumption) (by assumption) _).mono ?_; rintro e w' ⟨rfl, rfl⟩) | (go_at_call 15; refine (missed_any _ _ _ _ (by assumption) (by assumption) (by assumption) (by assumption) (by assumption) (by assumption) _).mono ?_; rintro e w' ⟨rfl, rfl⟩))
        go_round
        case rel => exact ⟨k + 1, y, by omega, by go_num, rfl, by omega, T9.out, T10.out, fun _ => by omega⟩
        case measure => simp [intOf]; omega
      · go_wp2_with (first | (go_at_call 16; refine (grid_any _ _ _ (by assumption) (by assumption) (by assumption) (by assumption) (by assumption) (by assumption) _).mono ?_; rintro e w' ⟨rfl, rfl⟩) | (go_at_call 15; refine (missed_any _ _ _ _ (by assumption) (by assumption) (by assumption) (by assumption) (by assumption) (by assumption) _).mono ?_; rintro e w' ⟨rfl, rfl⟩))
        go_round
        case rel => exact ⟨k + 1, y, by omega, by go_num, rfl, by omega, T9.out, T10.out, fun _ => by omega⟩
        case measure => simp [intOf]; omega
    · go_wp2_with (go_at_call 14; refine (awake2 _).mono ?_; rintro e w' ⟨rfl, rfl⟩)
      go_ret
      exact ⟨rfl, Below.refl _ _⟩

set_option maxRecDepth 100000 in
theorem lifted (os : Os) (started : os.Started) (H : Type) (enc : TypeId × Value → H) :
    ReturnsInHanded {} Try.checked os 6 .any (Rows.tickWalksSpec.pre6 enc Try.prog Try.f6 Rows.tickWalksRow.domain false) (Rows.tickWalksSpec.post enc Try.prog Try.f6 false true false false) := by
  refine returnsInHanded_of_change (C := Try.checked) own started (by kernel_rfl) Try.func6
    (ChangeSpec.witness6 (enc := enc) (C := Try.checked) false ⟨#[], #[.int .u64 0, .int .u64 0, .int .u64 0, .int .i64 0], []⟩ 8 (by kernel_rfl) (by kernel_rfl) (by kernel_rfl) (by kernel_rfl)) ?_
  intro W base args ds gs before hval0 hW hcnd _
  have hval : ∀ (j : Nat) t v, Try.f6.params[j]? = some t → args[j]? = some v → Value.okWide Try.prog W .any base t v := hval0
  have hW' := hW
  obtain ⟨p, q, hA0, hV, rfl, hfz, hnd⟩ := hW
  have hA : DataW.TrodAll enc Try.prog W 0 (fun _ => true) true Try.f6.params.toList args.toList ds p := hA0
  rw [Try.params6] at hA hval
  obtain ⟨v0, vs0, d0, ds0, p0, q0, hargs, rfl, rfl, h0, r0⟩ := trodAll_cons hA
  obtain ⟨v1, vs1, d1, ds1, p1, q1, rfl, rfl, rfl, h1, r1⟩ := trodAll_cons r0
  obtain ⟨v2, vs2, d2, ds2, p2, q2, rfl, rfl, rfl, h2, r2⟩ := trodAll_cons r1
  obtain ⟨v3, vs3, d3, ds3, p3, q3, rfl, rfl, rfl, h3, r3⟩ := trodAll_cons r2
  obtain ⟨rfl, rfl, rfl⟩ := trodAll_nil r3
  obtain rfl : args = #[v0, v1, v2, v3] := by cases args; simp_all
  obtain ⟨rfl, rfl⟩ := trodVars_none hV
  obtain ⟨a0, rfl, rfl, rfl, w0⟩ := open_int Try.underlying22 (hval 0 22 v0 rfl rfl) h0
  obtain ⟨a1, rfl, rfl, rfl, w1⟩ := open_int Try.underlying22 (hval 1 22 v1 rfl rfl) h1
  obtain ⟨a2, rfl, rfl, rfl, w2⟩ := open_int Try.underlying22 (hval 2 22 v2 rfl rfl) h2
  obtain ⟨a3, rfl, rfl, rfl, w3⟩ := open_int Try.underlying3 (hval 3 3 v3 rfl rfl) h3
  clear hA0 hval0
  refine (walk a0 a1 a2 a3 w0 w1 w2 w3 W).mono fun e W' ⟨he, bel⟩ => ?_
  subst he
  exact ⟨_, rfl, _, _, _, [], _, [], hW', (trodAll_cons_mk (shut_bool Try.underlying4 _) trodAll_mk0), (trodAll_cons_mk (shut_int Try.underlying22 w0) (trodAll_cons_mk (shut_int Try.underlying22 w1) (trodAll_cons_mk (shut_int Try.underlying22 w2) (trodAll_cons_mk (shut_int Try.underlying3 w3) trodAll_mk0)))), rfl, bel.frame _, fun h => by cases h⟩

theorem over : Rows.tickWalksRow.holds Try.pinned (OpenSpec.ofChange Rows.tickWalksSpec) :=
  OpenClaim.holds_of_wide 6 Try.f6 rfl rfl rfl rfl rfl rfl rfl ⟨rfl, rfl, rfl, rfl, rfl⟩ rfl rfl rfl rfl rfl (by kernel_rfl) Try.func6 (by kernel_rfl)
    (of_decide_eq_true (by kernel_rfl)) (by unfold Func.isWrapper; first | (rw [if_pos (by decide +kernel)]; kernel_rfl) | (rw [if_neg (by decide +kernel)]; exact ⟨rfl, rfl⟩))
    (fun os started H enc _ => lifted os started H enc)

theorem proved : Rows.TickWalksSaid :=
  over
#print axioms proved
end Go.Proofs.Ytebmhaadopceoaa.tickWalks
