/- Law AgeDue proved: for any ticket, any urgency and any later ticket the call returns true, under no condition.
   The frame below the walk was written by the kit's proof-skeleton.mjs. -/
import Derived.Test.YtceoadgmiabhfaaRows
import Derived.WalkKit
import Derived.ProofKit
import Derived.OpenShut
import Derived.ShutString
import Derived.ChangeOld
import Derived.Below
import Derived.Test.YtceoadgmiabhfaaAge
import Derived.Deep.RegionHeld3
namespace Go.Proofs.Ytceoadgmiabhfaa.ageDue
open Go.ChangeShapes Go.WideShapes Go.ChangeAt Go.RowKit
set_option linter.unusedVariables false      -- a walk need not use every 'w<i>' (that an integer argument fits its kind)

theorem own : ownKnob Try.prog.godebug = none := by kernel_rfl



theorem walk (a0 : Int) (a1 : Int) (a2 : Int) (w0 : (Lit.int .u64 a0).wf = true) (w1 : (Lit.int .i64 a1).wf = true) (w2 : (Lit.int .i64 a2).wf = true) (w : World) :
    Calls Try.prog 7 #[.int .u64 a0, .int .i64 a1, .int .i64 a2] w fun e w' => e = .returned (.bool true) ∧ Below w.heap.size w w' := by
  obtain ⟨t, ht, t0, t1⟩ : ∃ p, bits .and .u64 a0 1152921504606846975 = p ∧ 0 ≤ p ∧ p < 1152921504606846976 := ⟨_, rfl, by rw [and_u64_60]; omega, by rw [and_u64_60]; omega⟩
  obtain ⟨p, hp, p0, p7⟩ : ∃ p, bits .and .i64 a1 7 = p ∧ 0 ≤ p ∧ p ≤ 7 := ⟨_, rfl, by rw [and_i64_7]; omega, by rw [and_i64_7]; omega⟩
  obtain ⟨n, hn, n0, n1⟩ : ∃ p, bits .and .i64 a2 255 = p ∧ 0 ≤ p ∧ p ≤ 255 := ⟨_, rfl, by rw [and_i64_255]; omega, by rw [and_i64_255]; omega⟩
  obtain ⟨s0, s1⟩ := slack_bd p
  have ea : addI t (slackI p) = t + slackI p := by unfold addI top; omega
  have tt : t ≤ top := by unfold top; omega
  by_cases ho : slackI p ≤ n
  · have d1 : decide (t + slackI p ≤ t + n) = true := by simp; omega
    go_enter Try.func7, Try.ntmps7
    go_wp2_with (first | (go_at_call 13; refine (slack_any _ _).mono ?_; rintro e w' ⟨rfl, rfl⟩) | (go_at_call 14; refine (key_any _ _ (by assumption) (by assumption) _).mono ?_; rintro e w' ⟨rfl, rfl⟩) | (go_at_call 26; refine (overdue_any _ _ _ _).mono ?_; rintro e w' ⟨rfl, rfl⟩))
    have q : IntKind.u64.wrap (t + n) = t + n := by rw [IntKind.wrap_u64]; omega
    go_region_held3 (fun w' => w'.cell? ⟨w.heap.size, 0, none⟩ = some (.int .u64 (t + slackI p)) ∧ w'.cell? ⟨w.heap.size, 1, none⟩ = some (.int .i64 1) ∧ w'.cell? ⟨w.heap.size + 1, 0, none⟩ = some (.int .u64 (t + slackI p + 5)) ∧ w'.cell? ⟨w.heap.size + 1, 1, none⟩ = some (.int .i64 2) ∧ w'.cell? ⟨w.heap.size + 1 + 1 + 1, 0, none⟩ = some (.int .u64 (t + slackI p)) ∧ w'.cell? ⟨w.heap.size + 1 + 1 + 1, 1, none⟩ = some (.int .i64 1) ∧ Below w.heap.size w w') ((first | exact keep6 (by assumption) (by assumption) | (refine ⟨?_, ?_, ?_, ?_, ?_, ?_, ?_⟩ <;> first | (simp [go_sem, World.cell?_alloc_past]; done) | (repeat (first | exact Below.refl _ _ | refine below_dr ?_ | refine below_drN ?_ _ | refine below_al ?_ _ | refine below_step (by assumption) ?_))))) (first | (go_at_call 27; refine (choose_yes _ _ _ _ _ (show t + slackI p ≤ t + n from by omega) _).mono ?_; rintro e w' ⟨rfl, hb⟩) | (go_at_call 15; refine (awake11 _).mono ?_; rintro e w' ⟨rfl, hb⟩))
    all_goals go_wp2
    go_ret
    exact ⟨rfl, last6 (by assumption)⟩
  · have d1 : decide (t + slackI p ≤ t + n) = false := by simp; omega
    have ho' : n < slackI p := by omega
    go_enter Try.func7, Try.ntmps7
    go_wp2_with (first | (go_at_call 13; refine (slack_any _ _).mono ?_; rintro e w' ⟨rfl, rfl⟩) | (go_at_call 14; refine (key_any _ _ (by assumption) (by assumption) _).mono ?_; rintro e w' ⟨rfl, rfl⟩) | (go_at_call 26; refine (overdue_any _ _ _ _).mono ?_; rintro e w' ⟨rfl, rfl⟩))
    have q : IntKind.u64.wrap (t + n) = t + n := by rw [IntKind.wrap_u64]; omega
    go_region_held3 (fun w' => w'.cell? ⟨w.heap.size, 0, none⟩ = some (.int .u64 (t + slackI p)) ∧ w'.cell? ⟨w.heap.size, 1, none⟩ = some (.int .i64 1) ∧ w'.cell? ⟨w.heap.size + 1, 0, none⟩ = some (.int .u64 (t + slackI p + 5)) ∧ w'.cell? ⟨w.heap.size + 1, 1, none⟩ = some (.int .i64 2) ∧ w'.cell? ⟨w.heap.size + 1 + 1 + 1, 0, none⟩ = some (.int .u64 (t + slackI p + 5)) ∧ w'.cell? ⟨w.heap.size + 1 + 1 + 1, 1, none⟩ = some (.int .i64 2) ∧ Below w.heap.size w w') ((first | exact keep6 (by assumption) (by assumption) | (refine ⟨?_, ?_, ?_, ?_, ?_, ?_, ?_⟩ <;> first | (simp [go_sem, World.cell?_alloc_past]; done) | (repeat (first | exact Below.refl _ _ | refine below_dr ?_ | refine below_drN ?_ _ | refine below_al ?_ _ | refine below_step (by assumption) ?_))))) (first | (go_at_call 27; refine (choose_no _ _ _ _ _ (show t + n < t + slackI p from by omega) _).mono ?_; rintro e w' ⟨rfl, hb⟩) | (go_at_call 15; refine (awake11 _).mono ?_; rintro e w' ⟨rfl, hb⟩))
    all_goals go_wp2
    go_ret
    exact ⟨rfl, last6 (by assumption)⟩

set_option maxRecDepth 100000 in
theorem lifted (os : Os) (started : os.Started) (H : Type) (enc : TypeId × Value → H) :
    ReturnsInHanded {} Try.checked os 7 .any (Rows.ageDueSpec.pre6 enc Try.prog Try.f7 Rows.ageDueRow.domain false) (Rows.ageDueSpec.post enc Try.prog Try.f7 false true false false) := by
  refine returnsInHanded_of_change (C := Try.checked) own started (by kernel_rfl) Try.func7
    (ChangeSpec.witness6 (enc := enc) (C := Try.checked) false ⟨#[], #[.int .u64 0, .int .i64 0, .int .i64 0], []⟩ 8 (by kernel_rfl) (by kernel_rfl) (by kernel_rfl) (by kernel_rfl)) ?_
  intro W base args ds gs before hval0 hW hcnd _
  have hval : ∀ (j : Nat) t v, Try.f7.params[j]? = some t → args[j]? = some v → Value.okWide Try.prog W .any base t v := hval0
  have hW' := hW
  obtain ⟨p, q, hA0, hV, rfl, hfz, hnd⟩ := hW
  have hA : DataW.TrodAll enc Try.prog W 0 (fun _ => true) true Try.f7.params.toList args.toList ds p := hA0
  rw [Try.params7] at hA hval
  obtain ⟨v0, vs0, d0, ds0, p0, q0, hargs, rfl, rfl, h0, r0⟩ := trodAll_cons hA
  obtain ⟨v1, vs1, d1, ds1, p1, q1, rfl, rfl, rfl, h1, r1⟩ := trodAll_cons r0
  obtain ⟨v2, vs2, d2, ds2, p2, q2, rfl, rfl, rfl, h2, r2⟩ := trodAll_cons r1
  obtain ⟨rfl, rfl, rfl⟩ := trodAll_nil r2
  obtain rfl : args = #[v0, v1, v2] := by cases args; simp_all
  obtain ⟨rfl, rfl⟩ := trodVars_none hV
  obtain ⟨a0, rfl, rfl, rfl, w0⟩ := open_int Try.underlying22 (hval 0 22 v0 rfl rfl) h0
  obtain ⟨a1, rfl, rfl, rfl, w1⟩ := open_int Try.underlying3 (hval 1 3 v1 rfl rfl) h1
  obtain ⟨a2, rfl, rfl, rfl, w2⟩ := open_int Try.underlying3 (hval 2 3 v2 rfl rfl) h2
  clear hA0 hval0
  refine (walk a0 a1 a2 w0 w1 w2 W).mono fun e W' ⟨he, bel⟩ => ?_
  subst he
  exact ⟨_, rfl, _, _, _, [], _, [], hW', (trodAll_cons_mk (shut_bool Try.underlying4 _) trodAll_mk0), (trodAll_cons_mk (shut_int Try.underlying22 w0) (trodAll_cons_mk (shut_int Try.underlying3 w1) (trodAll_cons_mk (shut_int Try.underlying3 w2) trodAll_mk0))), rfl, bel.frame _, fun h => by cases h⟩

theorem over : Rows.ageDueRow.holds Try.pinned (OpenSpec.ofChange Rows.ageDueSpec) :=
  OpenClaim.holds_of_wide 7 Try.f7 rfl rfl rfl rfl rfl rfl rfl ⟨rfl, rfl, rfl, rfl, rfl⟩ rfl rfl rfl rfl rfl (by kernel_rfl) Try.func7 (by kernel_rfl)
    (of_decide_eq_true (by kernel_rfl)) (by unfold Func.isWrapper; first | (rw [if_pos (by decide +kernel)]; kernel_rfl) | (rw [if_neg (by decide +kernel)]; exact ⟨rfl, rfl⟩))
    (fun os started H enc _ => lifted os started H enc)

theorem proved : Rows.AgeDueSaid :=
  over
#print axioms proved
end Go.Proofs.Ytceoadgmiabhfaa.ageDue
