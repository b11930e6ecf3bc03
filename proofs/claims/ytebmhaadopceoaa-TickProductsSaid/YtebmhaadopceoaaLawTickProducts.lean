/- Law TickProducts proved: for any tick and any number the call returns true, under no condition.
   The frame below the walk was written by the kit's proof-skeleton.mjs. -/
import Derived.Test.YtebmhaadopceoaaRows
import Derived.WalkKit
import Derived.ProofKit
import Derived.OpenShut
import Derived.ShutString
import Derived.ChangeOld
import Derived.Below
import Derived.Test.YtebmhaadopceoaaTick2
namespace Go.Proofs.Ytebmhaadopceoaa.tickProducts
open Go.ChangeShapes Go.WideShapes Go.ChangeAt Go.RowKit
set_option linter.unusedVariables false      -- a walk need not use every 'w<i>' (that an integer argument fits its kind)

theorem own : ownKnob Try.prog.godebug = none := by kernel_rfl

theorem step (a : Int) (k : Nat) (a0 : 0 ≤ a) : addI (mulI a k) a = mulI a ((k + 1 : Nat) : Int) := by
  have h : 0 ≤ a * k := Int.mul_nonneg a0 (by omega)
  have e : a * ((k + 1 : Nat) : Int) = a * k + a := by rw [show ((k + 1 : Nat) : Int) = (k : Int) + 1 from rfl, Int.mul_add, Int.mul_one]
  unfold addI mulI
  rw [e]
  unfold top
  omega
theorem mul_bd (a k : Int) (a0 : 0 ≤ a) (k0 : 0 ≤ k) : 0 ≤ mulI a k ∧ mulI a k ≤ top := by
  have h : 0 ≤ a * k := Int.mul_nonneg a0 k0
  unfold mulI top
  omega
theorem comm (a b : Int) : mulI b a = mulI a b := by unfold mulI; rw [Int.mul_comm]
theorem mul0 (a : Int) : mulI a ((0 : Nat) : Int) = 0 := by
  unfold mulI
  rw [show a * ((0 : Nat) : Int) = 0 from Int.mul_zero a]
  rfl

theorem walk (a0 : Int) (a1 : Int) (w0 : (Lit.int .u64 a0).wf = true) (w1 : (Lit.int .i64 a1).wf = true) (w : World) :
    Calls Try.prog 7 #[.int .u64 a0, .int .i64 a1] w fun e w' => e = .returned (.bool true) ∧ Below w.heap.size w w' := by
  obtain ⟨x0, x1⟩ := u64_of_wf w0
  obtain ⟨v, hv, v0, v255⟩ : ∃ p, bits .and .i64 a1 255 = p ∧ 0 ≤ p ∧ p ≤ 255 := ⟨_, rfl, by rw [and_i64_255]; omega, by rw [and_i64_255]; omega⟩
  obtain ⟨n, hn, n50⟩ : ∃ n : Nat, v % 50 = n ∧ n < 50 := ⟨(v % 50).toNat, by omega, by omega⟩
  have q1 : IntKind.u64.wrap (n : Int) = n := by rw [IntKind.wrap_u64]; omega
  have m1 : (n : Int) ≤ top := by unfold top; omega
  have m0 : (0 : Int) ≤ n := by omega
  clear w0 w1
  go_enter Try.func7, Try.ntmps7
  go_wp2_with fail
  rw [hn]
  clear hn hv v0 v255
  go_loop [5, 6] (fun v5 v6 => ∃ k : Nat, k ≤ n ∧ v6 = .int .i64 k ∧ v5 = .int .u64 (mulI a0 k)) (fun _ v6 => n - (intOf v6).toNat)
  case atStart => exact ⟨0, by omega, rfl, by rw [mul0]⟩
  case round =>
    obtain ⟨k, hk, rfl, rfl⟩ := hrel
    obtain ⟨b0, b1⟩ := mul_bd a0 k x0 (by omega)
    by_cases hlt : k < n
    · have hs := Lib.hid (step a0 k x0)
      go_wp2_with (first | (go_at_call 19; refine (tickAdd _ _ (by assumption) (by assumption) (by assumption) (by assumption) _).mono ?_; rintro e w' ⟨rfl, rfl⟩))
      go_round
      case rel => exact ⟨k + 1, by omega, by go_num, by rw [hs.out]⟩
      case measure => simp [intOf]; omega
    · obtain rfl : k = n := by omega
      have e := comm a0 k
      go_wp2_with (first | (go_at_call 20; refine (tickMul _ _ (by assumption) (by assumption) (by assumption) (by assumption) _).mono ?_; rintro e w' ⟨rfl, rfl⟩) | (go_at_call 14; refine (awake2 _).mono ?_; rintro e w' ⟨rfl, rfl⟩))
      go_ret
      exact ⟨rfl, Below.refl _ _⟩

set_option maxRecDepth 100000 in
theorem lifted (os : Os) (started : os.Started) (H : Type) (enc : TypeId × Value → H) :
    ReturnsInHanded {} Try.checked os 7 .any (Rows.tickProductsSpec.pre6 enc Try.prog Try.f7 Rows.tickProductsRow.domain false) (Rows.tickProductsSpec.post enc Try.prog Try.f7 false true false false) := by
  refine returnsInHanded_of_change (C := Try.checked) own started (by kernel_rfl) Try.func7
    (ChangeSpec.witness6 (enc := enc) (C := Try.checked) false ⟨#[], #[.int .u64 0, .int .i64 0], []⟩ 8 (by kernel_rfl) (by kernel_rfl) (by kernel_rfl) (by kernel_rfl)) ?_
  intro W base args ds gs before hval0 hW hcnd _
  have hval : ∀ (j : Nat) t v, Try.f7.params[j]? = some t → args[j]? = some v → Value.okWide Try.prog W .any base t v := hval0
  have hW' := hW
  obtain ⟨p, q, hA0, hV, rfl, hfz, hnd⟩ := hW
  have hA : DataW.TrodAll enc Try.prog W 0 (fun _ => true) true Try.f7.params.toList args.toList ds p := hA0
  rw [Try.params7] at hA hval
  obtain ⟨v0, vs0, d0, ds0, p0, q0, hargs, rfl, rfl, h0, r0⟩ := trodAll_cons hA
  obtain ⟨v1, vs1, d1, ds1, p1, q1, rfl, rfl, rfl, h1, r1⟩ := trodAll_cons r0
  obtain ⟨rfl, rfl, rfl⟩ := trodAll_nil r1
  obtain rfl : args = #[v0, v1] := by cases args; simp_all
  obtain ⟨rfl, rfl⟩ := trodVars_none hV
  obtain ⟨a0, rfl, rfl, rfl, w0⟩ := open_int Try.underlying22 (hval 0 22 v0 rfl rfl) h0
  obtain ⟨a1, rfl, rfl, rfl, w1⟩ := open_int Try.underlying3 (hval 1 3 v1 rfl rfl) h1
  clear hA0 hval0
  refine (walk a0 a1 w0 w1 W).mono fun e W' ⟨he, bel⟩ => ?_
  subst he
  exact ⟨_, rfl, _, _, _, [], _, [], hW', (trodAll_cons_mk (shut_bool Try.underlying4 _) trodAll_mk0), (trodAll_cons_mk (shut_int Try.underlying22 w0) (trodAll_cons_mk (shut_int Try.underlying3 w1) trodAll_mk0)), rfl, bel.frame _, fun h => by cases h⟩

theorem over : Rows.tickProductsRow.holds Try.pinned (OpenSpec.ofChange Rows.tickProductsSpec) :=
  OpenClaim.holds_of_wide 7 Try.f7 rfl rfl rfl rfl rfl rfl rfl ⟨rfl, rfl, rfl, rfl, rfl⟩ rfl rfl rfl rfl rfl (by kernel_rfl) Try.func7 (by kernel_rfl)
    (of_decide_eq_true (by kernel_rfl)) (by unfold Func.isWrapper; first | (rw [if_pos (by decide +kernel)]; kernel_rfl) | (rw [if_neg (by decide +kernel)]; exact ⟨rfl, rfl⟩))
    (fun os started H enc _ => lifted os started H enc)

theorem proved : Rows.TickProductsSaid :=
  over
#print axioms proved
end Go.Proofs.Ytebmhaadopceoaa.tickProducts
