/- Law AgeTells proved: for any ticket, urgency, numbers and entries the call returns true, under no condition.
   The frame below the walk was written by the kit's proof-skeleton.mjs. -/
import Derived.Test.YtceoadgmiabhfaaRows
import Derived.WalkKit
import Derived.ProofKit
import Derived.OpenShut
import Derived.ShutString
import Derived.ChangeOld
import Derived.Below
import Derived.Lib.SmallJoins
import Derived.Test.YtceoadgmiabhfaaAgeRef
import Derived.Deep.RegionHeld3
namespace Go.Proofs.Ytceoadgmiabhfaa.ageTells
open Go.ChangeShapes Go.WideShapes Go.ChangeAt Go.RowKit
open Go.ChangeMaps (open_string shut_string)
set_option linter.unusedVariables false

theorem own : ownKnob Try.prog.godebug = none := by kernel_rfl
theorem laidOut : laidOutB Try.prog = true := by kernel_rfl



theorem walk (a0 : Int) (a1 : Int) (a2 : Int) (a3 : Int) (a4 b4 : Int) (a5 b5 : Int) (w : World) (w0 : (Lit.int .u64 a0).wf = true) (w1 : (Lit.int .i64 a1).wf = true) (w2 : (Lit.int .i64 a2).wf = true) (w3 : (Lit.int .i64 a3).wf = true) (w4 : (Lit.int .u64 a4).wf = true) (x4 : (Lit.int .i64 b4).wf = true) (w5 : (Lit.int .u64 a5).wf = true) (x5 : (Lit.int .i64 b5).wf = true) :
    Calls Try.prog 10 #[.int .u64 a0, .int .i64 a1, .int .i64 a2, .int .i64 a3, .agg #[.int .u64 a4, .int .i64 b4], .agg #[.int .u64 a5, .int .i64 b5]] w fun e w' => e = .returned (.bool true) ∧ Below w.heap.size w w' := by
  obtain ⟨t0, t1⟩ := u64_of_wf w0
  obtain ⟨k0, k1⟩ := u64_of_wf w4
  clear w0 w1 w2 w3 w4 x4 w5 x5
  by_cases ho : a4 ≤ a0
  · go_enter Try.func10, Try.ntmps10
    go_wp2_with (first | (go_at_call 13; refine (slack_any _ _).mono ?_; rintro e w' ⟨rfl, rfl⟩) | (go_at_call 34; refine (refslack_any _ _).mono ?_; rintro e w' ⟨rfl, rfl⟩) | (go_at_call 14; refine (key_any _ _ (by assumption) (by assumption) _).mono ?_; rintro e w' ⟨rfl, rfl⟩) | (go_at_call 35; refine (refkey_any _ _ (by assumption) (by assumption) _).mono ?_; rintro e w' ⟨rfl, rfl⟩) | (go_at_call 36; refine (rho_any _ _ _).mono ?_; rintro e w' ⟨rfl, rfl⟩) | (go_at_call 37; refine (refrho_any _ _ _).mono ?_; rintro e w' ⟨rfl, rfl⟩) | (go_at_call 38; refine (beta_any _ _ _ _).mono ?_; rintro e w' ⟨rfl, rfl⟩) | (go_at_call 39; refine (refbeta_any _ _ _ _).mono ?_; rintro e w' ⟨rfl, rfl⟩))
    have d : decide (a4 ≤ a0) = true := by simp; omega
    go_region_held3 (fun w' => w'.cell? ⟨w.heap.size, 0, none⟩ = some (.int .u64 a4) ∧ w'.cell? ⟨w.heap.size, 1, none⟩ = some (.int .i64 b4) ∧ w'.cell? ⟨w.heap.size + 1, 0, none⟩ = some (.int .u64 a5) ∧ w'.cell? ⟨w.heap.size + 1, 1, none⟩ = some (.int .i64 b5) ∧ w'.cell? ⟨w.heap.size + 1 + 1, 0, none⟩ = some (.int .u64 a4) ∧ w'.cell? ⟨w.heap.size + 1 + 1, 1, none⟩ = some (.int .i64 b4) ∧ Below w.heap.size w w') ((first | exact keep6 (by assumption) (by assumption) | (refine ⟨?_, ?_, ?_, ?_, ?_, ?_, ?_⟩ <;> first | (simp [go_sem, World.cell?_alloc_past]; done) | (repeat (first | exact Below.refl _ _ | refine below_dr ?_ | refine below_drN ?_ _ | refine below_al ?_ _ | refine below_step (by assumption) ?_))))) (first | (go_at_call 27; refine (choose_yes _ _ _ _ _ ho _).mono ?_; rintro e w' ⟨rfl, hb⟩) | (go_at_call 26; refine (overdue_b _ _ _ _).mono ?_; rintro e w' ⟨rfl, hb⟩) | (go_at_call 15; refine (awake11 _).mono ?_; rintro e w' ⟨rfl, hb⟩))
    all_goals go_wp2
    go_ret
    exact ⟨rfl, last6 (by assumption)⟩
  · have ho' : a0 < a4 := by omega
    go_enter Try.func10, Try.ntmps10
    go_wp2_with (first | (go_at_call 13; refine (slack_any _ _).mono ?_; rintro e w' ⟨rfl, rfl⟩) | (go_at_call 34; refine (refslack_any _ _).mono ?_; rintro e w' ⟨rfl, rfl⟩) | (go_at_call 14; refine (key_any _ _ (by assumption) (by assumption) _).mono ?_; rintro e w' ⟨rfl, rfl⟩) | (go_at_call 35; refine (refkey_any _ _ (by assumption) (by assumption) _).mono ?_; rintro e w' ⟨rfl, rfl⟩) | (go_at_call 36; refine (rho_any _ _ _).mono ?_; rintro e w' ⟨rfl, rfl⟩) | (go_at_call 37; refine (refrho_any _ _ _).mono ?_; rintro e w' ⟨rfl, rfl⟩) | (go_at_call 38; refine (beta_any _ _ _ _).mono ?_; rintro e w' ⟨rfl, rfl⟩) | (go_at_call 39; refine (refbeta_any _ _ _ _).mono ?_; rintro e w' ⟨rfl, rfl⟩))
    have d : decide (a4 ≤ a0) = false := by simp; omega
    go_region_held3 (fun w' => w'.cell? ⟨w.heap.size, 0, none⟩ = some (.int .u64 a4) ∧ w'.cell? ⟨w.heap.size, 1, none⟩ = some (.int .i64 b4) ∧ w'.cell? ⟨w.heap.size + 1, 0, none⟩ = some (.int .u64 a5) ∧ w'.cell? ⟨w.heap.size + 1, 1, none⟩ = some (.int .i64 b5) ∧ w'.cell? ⟨w.heap.size + 1 + 1, 0, none⟩ = some (.int .u64 a5) ∧ w'.cell? ⟨w.heap.size + 1 + 1, 1, none⟩ = some (.int .i64 b5) ∧ Below w.heap.size w w') ((first | exact keep6 (by assumption) (by assumption) | (refine ⟨?_, ?_, ?_, ?_, ?_, ?_, ?_⟩ <;> first | (simp [go_sem, World.cell?_alloc_past]; done) | (repeat (first | exact Below.refl _ _ | refine below_dr ?_ | refine below_drN ?_ _ | refine below_al ?_ _ | refine below_step (by assumption) ?_))))) (first | (go_at_call 27; refine (choose_no _ _ _ _ _ ho' _).mono ?_; rintro e w' ⟨rfl, hb⟩) | (go_at_call 26; refine (overdue_b _ _ _ _).mono ?_; rintro e w' ⟨rfl, hb⟩) | (go_at_call 15; refine (awake11 _).mono ?_; rintro e w' ⟨rfl, hb⟩))
    all_goals go_wp2
    go_ret
    exact ⟨rfl, last6 (by assumption)⟩

set_option maxRecDepth 100000 in
theorem lifted (os : Os) (started : os.Started) (H : Type) (enc : TypeId × Value → H) :
    ReturnsInHanded {} Try.checked os 10 .any (Rows.ageTellsSpec.pre6 enc Try.prog Try.f10 Rows.ageTellsRow.domain false) (Rows.ageTellsSpec.post enc Try.prog Try.f10 false true false false) := by
  refine returnsInHanded_of_change (C := Try.checked) own started (by kernel_rfl) Try.func10
    (ChangeSpec.witness6 (enc := enc) (C := Try.checked) false ⟨#[], #[.int .u64 0, .int .i64 0, .int .i64 0, .int .i64 0, .agg #[.int .u64 0, .int .i64 0], .agg #[.int .u64 0, .int .i64 0]], []⟩ 8 (by kernel_rfl) (by kernel_rfl) (by kernel_rfl) (by kernel_rfl)) ?_
  intro W base args ds gs before hval0 hW hcnd _
  have hval : ∀ (j : Nat) t v, Try.f10.params[j]? = some t → args[j]? = some v → Value.okWide Try.prog W .any base t v := hval0
  have hW' := hW
  obtain ⟨p, q, hA0, hV, rfl, hfz, hnd⟩ := hW
  have hA : DataW.TrodAll enc Try.prog W 0 (fun _ => true) true Try.f10.params.toList args.toList ds p := hA0
  rw [Try.params10] at hA hval
  obtain ⟨v0, vs0, d0, ds0, p0, q0, hargs, rfl, rfl, h0, r0⟩ := trodAll_cons hA
  obtain ⟨v1, vs1, d1, ds1, p1, q1, rfl, rfl, rfl, h1, r1⟩ := trodAll_cons r0
  obtain ⟨v2, vs2, d2, ds2, p2, q2, rfl, rfl, rfl, h2, r2⟩ := trodAll_cons r1
  obtain ⟨v3, vs3, d3, ds3, p3, q3, rfl, rfl, rfl, h3, r3⟩ := trodAll_cons r2
  obtain ⟨v4, vs4, d4, ds4, p4, q4, rfl, rfl, rfl, h4, r4⟩ := trodAll_cons r3
  obtain ⟨v5, vs5, d5, ds5, p5, q5, rfl, rfl, rfl, h5, r5⟩ := trodAll_cons r4
  obtain ⟨rfl, rfl, rfl⟩ := trodAll_nil r5
  obtain rfl : args = #[v0, v1, v2, v3, v4, v5] := by cases args; simp_all
  obtain ⟨rfl, rfl⟩ := trodVars_none hV
  obtain ⟨a0, rfl, rfl, rfl, w0⟩ := open_int Try.underlying22 (hval 0 22 v0 rfl rfl) h0
  obtain ⟨a1, rfl, rfl, rfl, w1⟩ := open_int Try.underlying3 (hval 1 3 v1 rfl rfl) h1
  obtain ⟨a2, rfl, rfl, rfl, w2⟩ := open_int Try.underlying3 (hval 2 3 v2 rfl rfl) h2
  obtain ⟨a3, rfl, rfl, rfl, w3⟩ := open_int Try.underlying3 (hval 3 3 v3 rfl rfl) h3
  have k4 := h4
  have lt4 : ∀ x ∈ p4, x.block < W.heap.size := by obtain ⟨m, hm⟩ := k4; exact DataW.trod_lt m _ _ _ hm
  obtain ⟨a4, b4, rfl, w4, x4⟩ : ∃ a b : Int, v4 = .agg #[.int .u64 a, .int .i64 b] ∧ (Lit.int .u64 a).wf = true ∧ (Lit.int .i64 b).wf = true := by
    obtain ⟨c0, c1, y0, y1, m, rfl, _, _, hy0, hy1⟩ := Go.Joins.open_agg2 Try.underlying37 (by kernel_rfl) (by kernel_rfl) (hval 4 37 v4 rfl rfl) h4
    obtain ⟨a, e0, _, wa⟩ := DataW.trod_int Try.underlying22 hy0
    obtain ⟨b, e1, _, wb⟩ := DataW.trod_int Try.underlying3 hy1
    simp at e0 e1
    subst e0 e1
    exact ⟨a, b, rfl, wa, wb⟩
  have k5 := h5
  have lt5 : ∀ x ∈ p5, x.block < W.heap.size := by obtain ⟨m, hm⟩ := k5; exact DataW.trod_lt m _ _ _ hm
  obtain ⟨a5, b5, rfl, w5, x5⟩ : ∃ a b : Int, v5 = .agg #[.int .u64 a, .int .i64 b] ∧ (Lit.int .u64 a).wf = true ∧ (Lit.int .i64 b).wf = true := by
    obtain ⟨c0, c1, y0, y1, m, rfl, _, _, hy0, hy1⟩ := Go.Joins.open_agg2 Try.underlying37 (by kernel_rfl) (by kernel_rfl) (hval 5 37 v5 rfl rfl) h5
    obtain ⟨a, e0, _, wa⟩ := DataW.trod_int Try.underlying22 hy0
    obtain ⟨b, e1, _, wb⟩ := DataW.trod_int Try.underlying3 hy1
    simp at e0 e1
    subst e0 e1
    exact ⟨a, b, rfl, wa, wb⟩
  clear hA0 hval0
  refine (walk a0 a1 a2 a3 a4 b4 a5 b5 W w0 w1 w2 w3 w4 x4 w5 x5).mono fun e W' ⟨he, bel⟩ => ?_
  subst he
  exact ⟨_, rfl, _, _, _, [], _, [], hW', trodAll_mk1 (shut_bool Try.underlying4 _), (trodAll_cons_mk (shut_int Try.underlying22 w0) (trodAll_cons_mk (shut_int Try.underlying3 w1) (trodAll_cons_mk (shut_int Try.underlying3 w2) (trodAll_cons_mk (shut_int Try.underlying3 w3) (trodAll_cons_mk (Below.trod laidOut (by kernel_rfl) (of_decide_eq_true (by kernel_rfl)) k4 bel lt4) (trodAll_cons_mk (Below.trod laidOut (by kernel_rfl) (of_decide_eq_true (by kernel_rfl)) k5 bel lt5) trodAll_mk0)))))), rfl, bel.frame _, fun h => by cases h⟩

theorem over : Rows.ageTellsRow.holds Try.pinned (OpenSpec.ofChange Rows.ageTellsSpec) :=
  OpenClaim.holds_of_wide 10 Try.f10 rfl rfl rfl rfl rfl rfl rfl ⟨rfl, rfl, rfl, rfl, rfl⟩ rfl rfl rfl rfl rfl (by kernel_rfl) Try.func10 (by kernel_rfl)
    (of_decide_eq_true (by kernel_rfl)) (by unfold Func.isWrapper; first | (rw [if_pos (by decide +kernel)]; kernel_rfl) | (rw [if_neg (by decide +kernel)]; exact ⟨rfl, rfl⟩))
    (fun os started H enc _ => lifted os started H enc)

theorem proved : Rows.AgeTellsSaid := over
#print axioms proved
end Go.Proofs.Ytceoadgmiabhfaa.ageTells
