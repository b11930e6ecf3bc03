/- Law ArenaOld proved: for any number the call returns true, under no condition.
   The frame below the walk was written by the kit's proof-skeleton.mjs. -/
import Derived.Test.YtpcbcnheogjofaaRows
import Derived.WalkKit
import Derived.ProofKit
import Derived.OpenShut
import Derived.ShutString
import Derived.ChangeOld
import Derived.Below
import Derived.Test.YtpcbcnheogjofaaArena3
namespace Go.Proofs.Ytpcbcnheogjofaa.arenaOld
open Go.ChangeShapes Go.WideShapes Go.ChangeAt Go.RowKit
set_option linter.unusedVariables false      -- a walk need not use every 'w<i>' (that an integer argument fits its kind)

theorem own : ownKnob Try.prog.godebug = none := by kernel_rfl

set_option maxRecDepth 100000 in
set_option maxHeartbeats 8000000 in

theorem walk (a0 : Int) (w0 : (Lit.int .i64 a0).wf = true) (w : World) :
    Calls Try.prog 12 #[.int .i64 a0] w fun e w' => e = .returned (.bool true) ∧ Below w.heap.size w w' := by
  clear w0
  obtain ⟨q, hq, q255⟩ : ∃ q : Nat, bits .and .i64 a0 255 = (q : Int) ∧ q ≤ 255 := ⟨(a0 % 256).toNat, by rw [and_i64_255]; omega, by omega⟩
  obtain ⟨t, ht, t30⟩ : ∃ t : Nat, (q : Int).tmod 30 = (t : Int) ∧ t < 30 := ⟨q % 30, by rw [Int.tmod_eq_emod_of_nonneg (by omega)]; omega, by omega⟩
  have HC23 := Lib.hid (show canB 2 3 = true from by decide)
  have HC34 := Lib.hid (show canB 3 4 = true from by decide)
  go_enter Try.func12, Try.ntmps12
  go_wp2_with fail
  refine (ANew_in 1 (by decide) (by decide) _).mono ?_
  rintro e w1 ⟨a, b, g, rfl, hA, ha, hb, hg, hB⟩
  rw [show List.replicate (1 : Int).toNat (0 : Int) = [0] from rfl] at hA
  have HO := Lib.hid (own2_ge hb hg)
  clear ha hb hg
  go_wp2_with fail
  refine (O_alloc hA (by decide) 2 10 (by decide) (by decide) (by decide) (by decide)).mono ?_
  rintro e w2 ⟨rfl, hA2, hF2⟩
  have hB2 := hF2.below hB HO.out
  clear hA hB hF2
  go_wp2_with fail
  refine (O_word hA2 (by decide)).mono ?_
  rintro e w3 ⟨rfl, hA3, hF3⟩
  have hB3 := hF3.below hB2 HO.out
  clear hA2 hB2 hF3
  go_wp2_with fail
  go_loopg [8, 9, 10, 11, 12, 13, 14] (t + 1) (fun gg v8 _ _ _ _ _ _ wr => ∃ i : Nat, gg = t + 1 - i ∧ i ≤ t + 1 ∧ v8 = .int .i64 i ∧ ArAt wr a b g [2 + 8 * (1 + 4 * (i : Int))] (10 + 20 * i) ∧ Below w.heap.size w wr)
  case atStart => exact ⟨0, rfl, by omega, rfl, hA3.le (by omega), hB3⟩
  case round =>
    clear hA3 hB3
    obtain ⟨i, rfl, hi, rfl, hA, hB⟩ := hrel
    obtain ⟨v, hv⟩ : ∃ v : Int, 1 + 4 * (i : Int) = v := ⟨_, rfl⟩
    rw [hv] at hA
    have hvb : 0 ≤ v ∧ v ≤ 1000 := by omega
    obtain ⟨x0, hx0⟩ : ∃ x, 2 + 8 * v = x := ⟨_, rfl⟩
    have n1 := next_lin 2 v 3 (by decide) (by decide) (by decide) (by decide) hvb.1 (by omega)
    have n2 := next_lin 3 (v + 1) 4 (by decide) (by decide) (by decide) (by decide) (by omega) (by omega)
    have n3 := next_lin 4 (v + 1 + 1) 0 (by decide) (by decide) (by decide) (by decide) (by omega) (by omega)
    have n4 := next_lin 0 (v + 1 + 1 + 1) 2 (by decide) (by decide) (by decide) (by decide) (by omega) (by omega)
    obtain ⟨x1, hx1⟩ : ∃ x, 3 + 8 * (v + 1) = x := ⟨_, rfl⟩
    obtain ⟨x2, hx2⟩ : ∃ x, 4 + 8 * (v + 1 + 1) = x := ⟨_, rfl⟩
    obtain ⟨x3, hx3⟩ : ∃ x, 0 + 8 * (v + 1 + 1 + 1) = x := ⟨_, rfl⟩
    obtain ⟨x4, hx4⟩ : ∃ x, 2 + 8 * (v + 1 + 1 + 1 + 1) = x := ⟨_, rfl⟩
    rw [hx0, hx1] at n1
    rw [hx1, hx2] at n2
    rw [hx2, hx3] at n3
    rw [hx3, hx4] at n4
    rw [hx0] at hA
    have m0 : x0 % 8 = 2 := by omega
    have m1 : x1 % 8 = 3 := by omega
    have m2 : x2 % 8 = 4 := by omega
    have m3 : x3 % 8 = 0 := by omega
    have d4 : x4 ≠ 10 := by omega
    have e4 : 2 + 8 * (1 + 4 * ((i + 1 : Nat) : Int)) = x4 := by omega
    have HE := Lib.hid e4
    have N1 := Lib.hid n1
    have N2 := Lib.hid n2
    have N3 := Lib.hid n3
    have N4 := Lib.hid n4
    have M0 := Lib.hid m0
    have M1 := Lib.hid m1
    have M2 := Lib.hid m2
    have M3 := Lib.hid m3
    have D4 := Lib.hid d4
    clear n1 n2 n3 n4 hx0 hx1 hx2 hx3 hx4 m0 m1 m2 m3 d4 e4 hv hvb v
    by_cases hlt : i < t + 1
    · go_wp2_with fail
      refine (O_word hA (by omega)).mono ?_
      rintro e w1 ⟨rfl, hA1, hF1⟩
      have hB1 := hF1.below hB HO.out
      clear hA hB hF1
      go_wp2_with fail
      refine (O_ok hA1 (by omega) 3 x1 (by decide) (by decide) N1.out (by rw [M0.out]; exact HC23.out)).mono ?_
      rintro e w2 ⟨rfl, hA2, hF2⟩
      have hB2 := hF2.below hB1 HO.out
      clear hA1 hB1 hF2
      go_wp2_with fail
      refine (O_ok hA2 (by omega) 4 x2 (by decide) (by decide) N2.out (by rw [M1.out]; exact HC34.out)).mono ?_
      rintro e w3 ⟨rfl, hA3, hF3⟩
      have hB3 := hF3.below hB2 HO.out
      clear hA2 hB2 hF3
      go_wp2_with fail
      refine (O_free hA3 (by omega) x3 N3.out (by rw [M2.out]; rfl)).mono ?_
      rintro e w4 ⟨rfl, hA4, hF4⟩
      have hB4 := hF4.below hB3 HO.out
      clear hA3 hB3 hF4
      go_wp2_with fail
      refine (O_alloc hA4 (by omega) 2 x4 (by decide) (by decide) M3.out N4.out).mono ?_
      rintro e w5 ⟨rfl, hA5, hF5⟩
      have hB5 := hF5.below hB4 HO.out
      clear hA4 hB4 hF5
      go_wp2_with fail
      refine (O_late hA5 (by omega) 10 3 (by decide) (by decide) (by decide) (by decide) D4.out (by decide)).mono ?_
      rintro e w6 ⟨rfl, hA6, hF6⟩
      have hB6 := hF6.below hB5 HO.out
      clear hA5 hB5 hF6
      go_wp2_with fail
      go_roundg (t + 1 - (i + 1))
      case measure => omega
      case rel => exact ⟨i + 1, rfl, by omega, by go_num, by rw [HE.out]; exact hA6.le (by omega), hB6⟩
    · obtain rfl : i = t + 1 := by omega
      go_wp2_with fail
      refine (O_state hA (by omega)).mono ?_
      rintro e w1 ⟨rfl, hA1, hF1⟩
      have hB1 := hF1.below hB HO.out
      rw [M0.out]
      go_wp2_with fail
      refine (awake4 _).mono ?_
      rintro e w2 ⟨rfl, hb⟩
      go_wp2_with fail
      go_ret
      exact ⟨rfl, below_step hb hB1⟩

set_option maxRecDepth 100000 in
theorem lifted (os : Os) (started : os.Started) (H : Type) (enc : TypeId × Value → H) :
    ReturnsInHanded {} Try.checked os 12 .any (Rows.arenaOldSpec.pre6 enc Try.prog Try.f12 Rows.arenaOldRow.domain false) (Rows.arenaOldSpec.post enc Try.prog Try.f12 false true false false) := by
  refine returnsInHanded_of_change (C := Try.checked) own started (by kernel_rfl) Try.func12
    (ChangeSpec.witness6 (enc := enc) (C := Try.checked) false ⟨#[], #[.int .i64 0], []⟩ 8 (by kernel_rfl) (by kernel_rfl) (by kernel_rfl) (by kernel_rfl)) ?_
  intro W base args ds gs before hval0 hW hcnd _
  have hval : ∀ (j : Nat) t v, Try.f12.params[j]? = some t → args[j]? = some v → Value.okWide Try.prog W .any base t v := hval0
  have hW' := hW
  obtain ⟨p, q, hA0, hV, rfl, hfz, hnd⟩ := hW
  have hA : DataW.TrodAll enc Try.prog W 0 (fun _ => true) true Try.f12.params.toList args.toList ds p := hA0
  rw [Try.params12] at hA hval
  obtain ⟨v0, vs0, d0, ds0, p0, q0, hargs, rfl, rfl, h0, r0⟩ := trodAll_cons hA
  obtain ⟨rfl, rfl, rfl⟩ := trodAll_nil r0
  obtain rfl : args = #[v0] := by cases args; simp_all
  obtain ⟨rfl, rfl⟩ := trodVars_none hV
  obtain ⟨a0, rfl, rfl, rfl, w0⟩ := open_int Try.underlying3 (hval 0 3 v0 rfl rfl) h0
  clear hA0 hval0
  refine (walk a0 w0 W).mono fun e W' ⟨he, bel⟩ => ?_
  subst he
  exact ⟨_, rfl, _, _, _, [], _, [], hW', (trodAll_cons_mk (shut_bool Try.underlying4 _) trodAll_mk0), (trodAll_cons_mk (shut_int Try.underlying3 w0) trodAll_mk0), rfl, bel.frame _, fun h => by cases h⟩

theorem over : Rows.arenaOldRow.holds Try.pinned (OpenSpec.ofChange Rows.arenaOldSpec) :=
  OpenClaim.holds_of_wide 12 Try.f12 rfl rfl rfl rfl rfl rfl rfl ⟨rfl, rfl, rfl, rfl, rfl⟩ rfl rfl rfl rfl rfl (by kernel_rfl) Try.func12 (by kernel_rfl)
    (of_decide_eq_true (by kernel_rfl)) (by unfold Func.isWrapper; first | (rw [if_pos (by decide +kernel)]; kernel_rfl) | (rw [if_neg (by decide +kernel)]; exact ⟨rfl, rfl⟩))
    (fun os started H enc _ => lifted os started H enc)

theorem proved : Rows.ArenaOldSaid :=
  over
#print axioms proved
end Go.Proofs.Ytpcbcnheogjofaa.arenaOld
