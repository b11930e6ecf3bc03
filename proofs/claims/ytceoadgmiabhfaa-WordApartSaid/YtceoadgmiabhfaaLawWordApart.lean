/- Law WordApart proved: for any two states and versions the call returns true, under no condition.
   The frame below the walk was written by the kit's proof-skeleton.mjs. -/
import Derived.Test.YtceoadgmiabhfaaRows
import Derived.WalkKit
import Derived.ProofKit
import Derived.OpenShut
import Derived.ShutString
import Derived.ChangeOld
import Derived.Below
import Derived.Test.YtceoadgmiabhfaaWord
namespace Go.Proofs.Ytceoadgmiabhfaa.wordApart
open Go.ChangeShapes Go.WideShapes Go.ChangeAt Go.RowKit
set_option linter.unusedVariables false      -- a walk need not use every 'w<i>' (that an integer argument fits its kind)

theorem own : ownKnob Try.prog.godebug = none := by kernel_rfl

theorem core (a b x y : Int) (a0 : 0 ≤ a) (a7 : a ≤ 7) (b0 : 0 ≤ b) (b7 : b ≤ 7) (x0 : 0 ≤ x) (x1 : x < 2305843009213693952) (y0 : 0 ≤ y) (y1 : y < 2305843009213693952) : packI a x = packI b y ↔ a = b ∧ x = y := by
  unfold packI
  omega

theorem walk (a0 : Int) (a1 : Int) (a2 : Int) (a3 : Int) (w0 : (Lit.int .i64 a0).wf = true) (w1 : (Lit.int .i64 a1).wf = true) (w2 : (Lit.int .u64 a2).wf = true) (w3 : (Lit.int .u64 a3).wf = true) (w : World) :
    Calls Try.prog 4 #[.int .i64 a0, .int .i64 a1, .int .u64 a2, .int .u64 a3] w fun e w' => e = .returned (.bool true) ∧ Below w.heap.size w w' := by
  obtain ⟨a, ha, a00, a07⟩ : ∃ p, bits .and .i64 a0 7 = p ∧ 0 ≤ p ∧ p ≤ 7 := ⟨_, rfl, by rw [and_i64_7]; omega, by rw [and_i64_7]; omega⟩
  obtain ⟨b, hbb, b00, b07⟩ : ∃ p, bits .and .i64 a1 7 = p ∧ 0 ≤ p ∧ p ≤ 7 := ⟨_, rfl, by rw [and_i64_7]; omega, by rw [and_i64_7]; omega⟩
  obtain ⟨x, hx, x00, x07⟩ : ∃ p, bits .and .u64 a2 2305843009213693951 = p ∧ 0 ≤ p ∧ p < 2305843009213693952 := ⟨_, rfl, by rw [and_u64_61]; omega, by rw [and_u64_61]; omega⟩
  obtain ⟨y, hy, y00, y07⟩ : ∃ p, bits .and .u64 a3 2305843009213693951 = p ∧ 0 ≤ p ∧ p < 2305843009213693952 := ⟨_, rfl, by rw [and_u64_61]; omega, by rw [and_u64_61]; omega⟩
  have hc := core a b x y a00 a07 b00 b07 x00 x07 y00 y07
  clear x07 y07
  by_cases hab : a = b
  · by_cases hxy : x = y
    · subst hab
      subst hxy
      have e : (packI a x == packI a x) = true := by simp
      clear hc
      go_enter Try.func4, Try.ntmps4
      go_wp2_with (first | (go_at_call 16; refine (pack_any _ _ _).mono ?_; rintro e w' ⟨rfl, rfl⟩) | (go_at_call 17; refine (awake1 _).mono ?_; rintro e w' ⟨rfl, hb⟩))
      go_ret
      exact ⟨rfl, hb⟩
    · have e : (packI a x == packI b y) = false := by rw [beq_eq_false_iff_ne]; intro h; exact hxy (hc.1 h).2
      have e2 : (x == y) = false := by simpa using hxy
      have e3 : (a == b) = true := by simpa using hab
      clear hc hxy hab
      go_enter Try.func4, Try.ntmps4
      go_wp2_with (first | (go_at_call 16; refine (pack_any _ _ _).mono ?_; rintro e w' ⟨rfl, rfl⟩) | (go_at_call 17; refine (awake1 _).mono ?_; rintro e w' ⟨rfl, hb⟩))
      go_ret
      exact ⟨rfl, hb⟩
  · have e : (packI a x == packI b y) = false := by rw [beq_eq_false_iff_ne]; intro h; exact hab (hc.1 h).1
    have e3 : (a == b) = false := by simpa using hab
    clear hc hab
    go_enter Try.func4, Try.ntmps4
    go_wp2_with (first | (go_at_call 16; refine (pack_any _ _ _).mono ?_; rintro e w' ⟨rfl, rfl⟩) | (go_at_call 17; refine (awake1 _).mono ?_; rintro e w' ⟨rfl, hb⟩))
    go_ret
    exact ⟨rfl, hb⟩

set_option maxRecDepth 100000 in
theorem lifted (os : Os) (started : os.Started) (H : Type) (enc : TypeId × Value → H) :
    ReturnsInHanded {} Try.checked os 4 .any (Rows.wordApartSpec.pre6 enc Try.prog Try.f4 Rows.wordApartRow.domain false) (Rows.wordApartSpec.post enc Try.prog Try.f4 false true false false) := by
  refine returnsInHanded_of_change (C := Try.checked) own started (by kernel_rfl) Try.func4
    (ChangeSpec.witness6 (enc := enc) (C := Try.checked) false ⟨#[], #[.int .i64 0, .int .i64 0, .int .u64 0, .int .u64 0], []⟩ 8 (by kernel_rfl) (by kernel_rfl) (by kernel_rfl) (by kernel_rfl)) ?_
  intro W base args ds gs before hval0 hW hcnd _
  have hval : ∀ (j : Nat) t v, Try.f4.params[j]? = some t → args[j]? = some v → Value.okWide Try.prog W .any base t v := hval0
  have hW' := hW
  obtain ⟨p, q, hA0, hV, rfl, hfz, hnd⟩ := hW
  have hA : DataW.TrodAll enc Try.prog W 0 (fun _ => true) true Try.f4.params.toList args.toList ds p := hA0
  rw [Try.params4] at hA hval
  obtain ⟨v0, vs0, d0, ds0, p0, q0, hargs, rfl, rfl, h0, r0⟩ := trodAll_cons hA
  obtain ⟨v1, vs1, d1, ds1, p1, q1, rfl, rfl, rfl, h1, r1⟩ := trodAll_cons r0
  obtain ⟨v2, vs2, d2, ds2, p2, q2, rfl, rfl, rfl, h2, r2⟩ := trodAll_cons r1
  obtain ⟨v3, vs3, d3, ds3, p3, q3, rfl, rfl, rfl, h3, r3⟩ := trodAll_cons r2
  obtain ⟨rfl, rfl, rfl⟩ := trodAll_nil r3
  obtain rfl : args = #[v0, v1, v2, v3] := by cases args; simp_all
  obtain ⟨rfl, rfl⟩ := trodVars_none hV
  obtain ⟨a0, rfl, rfl, rfl, w0⟩ := open_int Try.underlying3 (hval 0 3 v0 rfl rfl) h0
  obtain ⟨a1, rfl, rfl, rfl, w1⟩ := open_int Try.underlying3 (hval 1 3 v1 rfl rfl) h1
  obtain ⟨a2, rfl, rfl, rfl, w2⟩ := open_int Try.underlying22 (hval 2 22 v2 rfl rfl) h2
  obtain ⟨a3, rfl, rfl, rfl, w3⟩ := open_int Try.underlying22 (hval 3 22 v3 rfl rfl) h3
  clear hA0 hval0
  refine (walk a0 a1 a2 a3 w0 w1 w2 w3 W).mono fun e W' ⟨he, bel⟩ => ?_
  subst he
  exact ⟨_, rfl, _, _, _, [], _, [], hW', (trodAll_cons_mk (shut_bool Try.underlying4 _) trodAll_mk0), (trodAll_cons_mk (shut_int Try.underlying3 w0) (trodAll_cons_mk (shut_int Try.underlying3 w1) (trodAll_cons_mk (shut_int Try.underlying22 w2) (trodAll_cons_mk (shut_int Try.underlying22 w3) trodAll_mk0)))), rfl, bel.frame _, fun h => by cases h⟩

theorem over : Rows.wordApartRow.holds Try.pinned (OpenSpec.ofChange Rows.wordApartSpec) :=
  OpenClaim.holds_of_wide 4 Try.f4 rfl rfl rfl rfl rfl rfl rfl ⟨rfl, rfl, rfl, rfl, rfl⟩ rfl rfl rfl rfl rfl (by kernel_rfl) Try.func4 (by kernel_rfl)
    (of_decide_eq_true (by kernel_rfl)) (by unfold Func.isWrapper; first | (rw [if_pos (by decide +kernel)]; kernel_rfl) | (rw [if_neg (by decide +kernel)]; exact ⟨rfl, rfl⟩))
    (fun os started H enc _ => lifted os started H enc)

theorem proved : Rows.WordApartSaid :=
  over
#print axioms proved
end Go.Proofs.Ytceoadgmiabhfaa.wordApart
