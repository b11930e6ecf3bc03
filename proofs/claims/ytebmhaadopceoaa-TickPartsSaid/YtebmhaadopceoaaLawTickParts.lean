/- Law TickParts proved: for any row of ticks and any three ticks the call returns true, under no condition.
   The frame below the walk was written by the kit's proof-skeleton.mjs. -/
import Derived.Test.YtebmhaadopceoaaRows
import Derived.WalkKit
import Derived.ProofKit
import Derived.OpenShut
import Derived.ShutString
import Derived.ChangeOld
import Derived.Below
import Derived.Test.YtebmhaadopceoaaTick2
namespace Go.Proofs.Ytebmhaadopceoaa.tickParts
open Go.ChangeShapes Go.WideShapes Go.ChangeAt Go.RowKit
set_option linter.unusedVariables false      -- a walk need not use every 'w<i>' (that an integer argument fits its kind)

theorem own : ownKnob Try.prog.godebug = none := by kernel_rfl

theorem core (f p a b c : Int) (f0 : 0 ≤ f) (p2 : 2 ≤ p) (a0 : 0 ≤ a) (ab : a ≤ b) (bc : b ≤ c) (ct : c ≤ top) :
    IntKind.u64.wrap (missI f p a b + missI f p b c) = missI f p a c ∧ missI f p c a = 0 := by
  have h1 := cnt_mono f p a b f0 (by omega) a0 ab
  have h2 := cnt_mono f p b c f0 (by omega) (by omega) bc
  have e : missI f p a b + missI f p b c = missI f p a c := by
    rcases (show a = b ∨ a < b from by omega) with rfl | hab
    · have : missI f p a a = 0 := by unfold missI; rw [if_pos (by omega)]
      omega
    · rcases (show b = c ∨ b < c from by omega) with rfl | hbc
      · have : missI f p b b = 0 := by unfold missI; rw [if_pos (by omega)]
        omega
      · unfold missI
        rw [if_neg (by omega), if_neg (by omega), if_neg (by omega)]
        omega
  have hb := miss_bd f p a c f0 (by omega) a0 (by omega)
  unfold top at ct
  refine ⟨by rw [e, IntKind.wrap_u64]; omega, ?_⟩
  unfold missI
  rw [if_pos (by omega)]

theorem walk (a0 : Int) (a1 : Int) (a2 : Int) (a3 : Int) (a4 : Int) (w0 : (Lit.int .u64 a0).wf = true) (w1 : (Lit.int .u64 a1).wf = true) (w2 : (Lit.int .u64 a2).wf = true) (w3 : (Lit.int .u64 a3).wf = true) (w4 : (Lit.int .u64 a4).wf = true) (w : World) :
    Calls Try.prog 4 #[.int .u64 a0, .int .u64 a1, .int .u64 a2, .int .u64 a3, .int .u64 a4] w fun e w' => e = .returned (.bool true) ∧ Below w.heap.size w w' := by
  obtain ⟨f0, f1⟩ := u64_of_wf w0
  obtain ⟨p0, p1⟩ := u64_of_wf w1
  obtain ⟨x0, x1⟩ := u64_of_wf w2
  obtain ⟨y0, y1⟩ := u64_of_wf w3
  obtain ⟨z0, z1⟩ := u64_of_wf w4
  clear w0 w1 w2 w3 w4
  have q2 : (0 : Int) ≤ 2 := by decide
  have q3 : (2 : Int) ≤ top := by decide
  have HC := fun p x y z hp h1 h2 h3 h4 => core a0 p x y z f0 hp h1 h2 h3 h4
  have HC := Lib.hid HC
  by_cases hp : a1 < 2
  · by_cases h1 : a3 < a2
    · by_cases h2 : a4 < a2
      · by_cases h3 : a4 < a3
        · obtain ⟨e1, e2⟩ := HC.out 2 a4 a3 a2 (by omega) z0 (by omega) (by omega) x1
          go_enter Try.func4, Try.ntmps4
          go_wp2_with (first | (go_at_call 15; refine (missed_any _ _ _ _ (by assumption) (by assumption) (by assumption) (by assumption) (by assumption) (by assumption) _).mono ?_; rintro e w' ⟨rfl, rfl⟩) | (go_at_call 14; refine (awake2 _).mono ?_; rintro e w' ⟨rfl, rfl⟩))
          go_ret
          exact ⟨rfl, Below.refl _ _⟩
        · obtain ⟨e1, e2⟩ := HC.out 2 a3 a4 a2 (by omega) y0 (by omega) (by omega) x1
          go_enter Try.func4, Try.ntmps4
          go_wp2_with (first | (go_at_call 15; refine (missed_any _ _ _ _ (by assumption) (by assumption) (by assumption) (by assumption) (by assumption) (by assumption) _).mono ?_; rintro e w' ⟨rfl, rfl⟩) | (go_at_call 14; refine (awake2 _).mono ?_; rintro e w' ⟨rfl, rfl⟩))
          go_ret
          exact ⟨rfl, Below.refl _ _⟩
      · obtain ⟨e1, e2⟩ := HC.out 2 a3 a2 a4 (by omega) y0 (by omega) (by omega) z1
        go_enter Try.func4, Try.ntmps4
        go_wp2_with (first | (go_at_call 15; refine (missed_any _ _ _ _ (by assumption) (by assumption) (by assumption) (by assumption) (by assumption) (by assumption) _).mono ?_; rintro e w' ⟨rfl, rfl⟩) | (go_at_call 14; refine (awake2 _).mono ?_; rintro e w' ⟨rfl, rfl⟩))
        go_ret
        exact ⟨rfl, Below.refl _ _⟩
    · by_cases h2 : a4 < a3
      · by_cases h3 : a4 < a2
        · obtain ⟨e1, e2⟩ := HC.out 2 a4 a2 a3 (by omega) z0 (by omega) (by omega) y1
          go_enter Try.func4, Try.ntmps4
          go_wp2_with (first | (go_at_call 15; refine (missed_any _ _ _ _ (by assumption) (by assumption) (by assumption) (by assumption) (by assumption) (by assumption) _).mono ?_; rintro e w' ⟨rfl, rfl⟩) | (go_at_call 14; refine (awake2 _).mono ?_; rintro e w' ⟨rfl, rfl⟩))
          go_ret
          exact ⟨rfl, Below.refl _ _⟩
        · obtain ⟨e1, e2⟩ := HC.out 2 a2 a4 a3 (by omega) x0 (by omega) (by omega) y1
          go_enter Try.func4, Try.ntmps4
          go_wp2_with (first | (go_at_call 15; refine (missed_any _ _ _ _ (by assumption) (by assumption) (by assumption) (by assumption) (by assumption) (by assumption) _).mono ?_; rintro e w' ⟨rfl, rfl⟩) | (go_at_call 14; refine (awake2 _).mono ?_; rintro e w' ⟨rfl, rfl⟩))
          go_ret
          exact ⟨rfl, Below.refl _ _⟩
      · obtain ⟨e1, e2⟩ := HC.out 2 a2 a3 a4 (by omega) x0 (by omega) (by omega) z1
        go_enter Try.func4, Try.ntmps4
        go_wp2_with (first | (go_at_call 15; refine (missed_any _ _ _ _ (by assumption) (by assumption) (by assumption) (by assumption) (by assumption) (by assumption) _).mono ?_; rintro e w' ⟨rfl, rfl⟩) | (go_at_call 14; refine (awake2 _).mono ?_; rintro e w' ⟨rfl, rfl⟩))
        go_ret
        exact ⟨rfl, Below.refl _ _⟩
  · by_cases h1 : a3 < a2
    · by_cases h2 : a4 < a2
      · by_cases h3 : a4 < a3
        · obtain ⟨e1, e2⟩ := HC.out a1 a4 a3 a2 (by omega) z0 (by omega) (by omega) x1
          go_enter Try.func4, Try.ntmps4
          go_wp2_with (first | (go_at_call 15; refine (missed_any _ _ _ _ (by assumption) (by assumption) (by assumption) (by assumption) (by assumption) (by assumption) _).mono ?_; rintro e w' ⟨rfl, rfl⟩) | (go_at_call 14; refine (awake2 _).mono ?_; rintro e w' ⟨rfl, rfl⟩))
          go_ret
          exact ⟨rfl, Below.refl _ _⟩
        · obtain ⟨e1, e2⟩ := HC.out a1 a3 a4 a2 (by omega) y0 (by omega) (by omega) x1
          go_enter Try.func4, Try.ntmps4
          go_wp2_with (first | (go_at_call 15; refine (missed_any _ _ _ _ (by assumption) (by assumption) (by assumption) (by assumption) (by assumption) (by assumption) _).mono ?_; rintro e w' ⟨rfl, rfl⟩) | (go_at_call 14; refine (awake2 _).mono ?_; rintro e w' ⟨rfl, rfl⟩))
          go_ret
          exact ⟨rfl, Below.refl _ _⟩
      · obtain ⟨e1, e2⟩ := HC.out a1 a3 a2 a4 (by omega) y0 (by omega) (by omega) z1
        go_enter Try.func4, Try.ntmps4
        go_wp2_with (first | (go_at_call 15; refine (missed_any _ _ _ _ (by assumption) (by assumption) (by assumption) (by assumption) (by assumption) (by assumption) _).mono ?_; rintro e w' ⟨rfl, rfl⟩) | (go_at_call 14; refine (awake2 _).mono ?_; rintro e w' ⟨rfl, rfl⟩))
        go_ret
        exact ⟨rfl, Below.refl _ _⟩
    · by_cases h2 : a4 < a3
      · by_cases h3 : a4 < a2
        · obtain ⟨e1, e2⟩ := HC.out a1 a4 a2 a3 (by omega) z0 (by omega) (by omega) y1
          go_enter Try.func4, Try.ntmps4
          go_wp2_with (first | (go_at_call 15; refine (missed_any _ _ _ _ (by assumption) (by assumption) (by assumption) (by assumption) (by assumption) (by assumption) _).mono ?_; rintro e w' ⟨rfl, rfl⟩) | (go_at_call 14; refine (awake2 _).mono ?_; rintro e w' ⟨rfl, rfl⟩))
          go_ret
          exact ⟨rfl, Below.refl _ _⟩
        · obtain ⟨e1, e2⟩ := HC.out a1 a2 a4 a3 (by omega) x0 (by omega) (by omega) y1
          go_enter Try.func4, Try.ntmps4
          go_wp2_with (first | (go_at_call 15; refine (missed_any _ _ _ _ (by assumption) (by assumption) (by assumption) (by assumption) (by assumption) (by assumption) _).mono ?_; rintro e w' ⟨rfl, rfl⟩) | (go_at_call 14; refine (awake2 _).mono ?_; rintro e w' ⟨rfl, rfl⟩))
          go_ret
          exact ⟨rfl, Below.refl _ _⟩
      · obtain ⟨e1, e2⟩ := HC.out a1 a2 a3 a4 (by omega) x0 (by omega) (by omega) z1
        go_enter Try.func4, Try.ntmps4
        go_wp2_with (first | (go_at_call 15; refine (missed_any _ _ _ _ (by assumption) (by assumption) (by assumption) (by assumption) (by assumption) (by assumption) _).mono ?_; rintro e w' ⟨rfl, rfl⟩) | (go_at_call 14; refine (awake2 _).mono ?_; rintro e w' ⟨rfl, rfl⟩))
        go_ret
        exact ⟨rfl, Below.refl _ _⟩

set_option maxRecDepth 100000 in
theorem lifted (os : Os) (started : os.Started) (H : Type) (enc : TypeId × Value → H) :
    ReturnsInHanded {} Try.checked os 4 .any (Rows.tickPartsSpec.pre6 enc Try.prog Try.f4 Rows.tickPartsRow.domain false) (Rows.tickPartsSpec.post enc Try.prog Try.f4 false true false false) := by
  refine returnsInHanded_of_change (C := Try.checked) own started (by kernel_rfl) Try.func4
    (ChangeSpec.witness6 (enc := enc) (C := Try.checked) false ⟨#[], #[.int .u64 0, .int .u64 0, .int .u64 0, .int .u64 0, .int .u64 0], []⟩ 8 (by kernel_rfl) (by kernel_rfl) (by kernel_rfl) (by kernel_rfl)) ?_
  intro W base args ds gs before hval0 hW hcnd _
  have hval : ∀ (j : Nat) t v, Try.f4.params[j]? = some t → args[j]? = some v → Value.okWide Try.prog W .any base t v := hval0
  have hW' := hW
  obtain ⟨p, q, hA0, hV, rfl, hfz, hnd⟩ := hW
  have hA : DataW.TrodAll enc Try.prog W 0 (fun _ => true) true Try.f4.params.toList args.toList ds p := hA0
  rw [Try.params4] at hA hval
  obtain ⟨v0, vs0, d0, ds0, p0, q0, hargs, rfl, rfl, h0, r0⟩ := trodAll_cons hA
  obtain ⟨v1, vs1, d1, ds1, p1, q1, rfl, rfl, rfl, h1, r1⟩ := trodAll_cons r0
  obtain ⟨v2, vs2, d2, ds2, p2, q2, rfl, rfl, rfl, h2, r2⟩ := trodAll_cons r1
  obtain ⟨v3, vs3, d3, ds3, p3, q3, rfl, rfl, rfl, h3, r3⟩ := trodAll_cons r2
  obtain ⟨v4, vs4, d4, ds4, p4, q4, rfl, rfl, rfl, h4, r4⟩ := trodAll_cons r3
  obtain ⟨rfl, rfl, rfl⟩ := trodAll_nil r4
  obtain rfl : args = #[v0, v1, v2, v3, v4] := by cases args; simp_all
  obtain ⟨rfl, rfl⟩ := trodVars_none hV
  obtain ⟨a0, rfl, rfl, rfl, w0⟩ := open_int Try.underlying22 (hval 0 22 v0 rfl rfl) h0
  obtain ⟨a1, rfl, rfl, rfl, w1⟩ := open_int Try.underlying22 (hval 1 22 v1 rfl rfl) h1
  obtain ⟨a2, rfl, rfl, rfl, w2⟩ := open_int Try.underlying22 (hval 2 22 v2 rfl rfl) h2
  obtain ⟨a3, rfl, rfl, rfl, w3⟩ := open_int Try.underlying22 (hval 3 22 v3 rfl rfl) h3
  obtain ⟨a4, rfl, rfl, rfl, w4⟩ := open_int Try.underlying22 (hval 4 22 v4 rfl rfl) h4
  clear hA0 hval0
  refine (walk a0 a1 a2 a3 a4 w0 w1 w2 w3 w4 W).mono fun e W' ⟨he, bel⟩ => ?_
  subst he
  exact ⟨_, rfl, _, _, _, [], _, [], hW', (trodAll_cons_mk (shut_bool Try.underlying4 _) trodAll_mk0), (trodAll_cons_mk (shut_int Try.underlying22 w0) (trodAll_cons_mk (shut_int Try.underlying22 w1) (trodAll_cons_mk (shut_int Try.underlying22 w2) (trodAll_cons_mk (shut_int Try.underlying22 w3) (trodAll_cons_mk (shut_int Try.underlying22 w4) trodAll_mk0))))), rfl, bel.frame _, fun h => by cases h⟩

theorem over : Rows.tickPartsRow.holds Try.pinned (OpenSpec.ofChange Rows.tickPartsSpec) :=
  OpenClaim.holds_of_wide 4 Try.f4 rfl rfl rfl rfl rfl rfl rfl ⟨rfl, rfl, rfl, rfl, rfl⟩ rfl rfl rfl rfl rfl (by kernel_rfl) Try.func4 (by kernel_rfl)
    (of_decide_eq_true (by kernel_rfl)) (by unfold Func.isWrapper; first | (rw [if_pos (by decide +kernel)]; kernel_rfl) | (rw [if_neg (by decide +kernel)]; exact ⟨rfl, rfl⟩))
    (fun os started H enc _ => lifted os started H enc)

theorem proved : Rows.TickPartsSaid :=
  over
#print axioms proved
end Go.Proofs.Ytebmhaadopceoaa.tickParts
