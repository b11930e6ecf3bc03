/- Law WordParts proved: for any word and any place the call returns true, under no condition.
   The frame below the walk was written by the kit's proof-skeleton.mjs. -/
import Derived.Test.YtceoadgmiabhfaaRows
import Derived.WalkKit
import Derived.ProofKit
import Derived.OpenShut
import Derived.ShutString
import Derived.ChangeOld
import Derived.Below
import Derived.Test.YtceoadgmiabhfaaBits
namespace Go.Proofs.Ytceoadgmiabhfaa.wordParts
open Go.ChangeShapes Go.WideShapes Go.ChangeAt Go.RowKit
set_option linter.unusedVariables false      -- a walk need not use every 'w<i>' (that an integer argument fits its kind)

theorem own : ownKnob Try.prog.godebug = none := by kernel_rfl

theorem parts (X LO HI : B64) (A : Nat) (hA : A ≤ 63) (hLO : fieldB X 0 (A : Int) = LO) (hHI : fieldB X (A : Int) (64 - (A : Int)) = HI) :
    HI <<< A ||| LO = X ∧ LO >>> A = 0#64 ∧ (A = 0 → HI = X) ∧ withB (withB 0#64 0 (A : Int) LO) (A : Int) (64 - (A : Int)) HI = X ∧ withB X 0 64 5#64 = 5#64 := by
  have k1 : ∀ j, HI.getLsbD j = (decide (A + j < 64) && X.getLsbD (A + j)) := by
    intro j
    rw [← hHI, field_bit, Int.toNat_natCast]
    by_cases h : A + j < 64
    · rw [show inB (A : Int) (64 - (A : Int)) (A + j) = true from by unfold inB; simp; omega]; simp [h]
    · simp [h]
  have k0 : ∀ j, j < 64 → LO.getLsbD j = (decide (j < A) && X.getLsbD j) := by
    intro j hj
    rw [← hLO, field_bit, show (0 : Int).toNat + j = j from by simp]
    by_cases h : j < A
    · rw [show inB 0 (A : Int) j = true from by unfold inB; simp; omega]; simp [h, hj]
    · rw [show inB 0 (A : Int) j = false from by unfold inB; simp; omega]; simp [h]
  refine ⟨?_, ?_, ?_, ?_, ?_⟩
  · apply BitVec.eq_of_getLsbD_eq
    intro i hi
    rw [BitVec.getLsbD_or, BitVec.getLsbD_shiftLeft, k1, k0 i hi]
    by_cases h : i < A
    · simp [h, hi]
    · rw [show A + (i - A) = i from by omega]; simp [h, hi]
  · apply BitVec.eq_of_getLsbD_eq
    intro i hi
    rw [BitVec.getLsbD_ushiftRight]
    by_cases h : A + i < 64
    · rw [k0 _ h, show decide (A + i < A) = false from by simp]; simp
    · rw [BitVec.getLsbD_of_ge _ _ (by omega)]; simp
  · rintro rfl
    apply BitVec.eq_of_getLsbD_eq
    intro i hi
    rw [k1]
    simp [hi]
  · apply BitVec.eq_of_getLsbD_eq
    intro i hi
    rw [with_bit _ _ _ _ _ hi, with_bit _ _ _ _ _ hi]
    by_cases h : i < A
    · rw [show inB (A : Int) (64 - (A : Int)) i = false from by unfold inB; simp; omega, show inB 0 (A : Int) i = true from by unfold inB; simp; omega, show i - (0 : Int).toNat = i from by simp, if_neg (by decide), if_pos rfl, k0 i hi]
      simp [h]
    · rw [show inB (A : Int) (64 - (A : Int)) i = true from by unfold inB; simp; omega, if_pos rfl, k1, Int.toNat_natCast, show A + (i - A) = i from by omega]
      simp [hi]
  · apply BitVec.eq_of_getLsbD_eq
    intro i hi
    rw [with_bit _ _ _ _ _ hi, show inB 0 64 i = true from by unfold inB; simp; omega, if_pos rfl]
    simp

theorem walk (a0 : Int) (a1 : Int) (w0 : (Lit.int .u64 a0).wf = true) (w1 : (Lit.int .i64 a1).wf = true) (w : World) :
    Calls Try.prog 11 #[.int .u64 a0, .int .i64 a1] w fun e w' => e = .returned (.bool true) ∧ Below w.heap.size w w' := by
  obtain ⟨z0, z1⟩ := u64_of_wf w0
  obtain ⟨X, rfl⟩ := nv_of a0 z0 z1
  obtain ⟨A, hA, A63⟩ : ∃ A : Nat, bits .and .i64 a1 63 = (A : Int) ∧ A ≤ 63 := ⟨(a1 % 64).toNat, by rw [and_i64_63]; omega, by omega⟩
  obtain ⟨LO, hLO⟩ : ∃ Y, fieldB X 0 (A : Int) = Y := ⟨_, rfl⟩
  obtain ⟨HI, hHI⟩ : ∃ Y, fieldB X (A : Int) (64 - (A : Int)) = Y := ⟨_, rfl⟩
  obtain ⟨e1, e2, e0, e3, e4⟩ := parts X LO HI A A63 hLO hHI
  obtain ⟨MI, hMI⟩ : ∃ Y, withB 0#64 0 (A : Int) LO = Y := ⟨_, rfl⟩
  rw [hMI] at e3
  have fA : (Lit.int .i64 (A : Int)).wf = true := by simp [Lit.wf, IntKind.min, IntKind.max, IntKind.signed, IntKind.bits]; omega
  have fB : (Lit.int .i64 (64 - (A : Int))).wf = true := by simp [Lit.wf, IntKind.min, IntKind.max, IntKind.signed, IntKind.bits]; omega
  have F1 := Lib.hid (fun w => field_any X 0 (A : Int) (by decide) fA w)
  have F2 := Lib.hid (fun w => field_any X (A : Int) (64 - (A : Int)) fA fB w)
  have F3 := Lib.hid (fun w => with_any 0#64 LO 0 (A : Int) (by decide) fA w)
  have F4 := Lib.hid (fun w => with_any MI HI (A : Int) (64 - (A : Int)) fA fB w)
  have F5 := Lib.hid (fun w => with_any X 5#64 0 64 (by decide) (by decide) w)
  rw [hLO] at F1
  rw [hHI] at F2
  rw [hMI] at F3
  rw [e3] at F4
  rw [show nv 0#64 = 0 from rfl] at F3
  rw [e4, show nv 5#64 = 5 from rfl] at F5
  have g1 : (bits .or .u64 (IntKind.u64.wrap (nv HI * 2 ^ A)) (nv LO) != nv X) = false := by rw [b_shl, b_or, e1]; simp
  have g2 : (nv LO / 2 ^ A != 0) = false := by rw [b_shr, e2]; rfl
  have g3 : (nv X == nv X) = true := by simp
  clear e1 e2 e3 e4 hLO hHI hMI w0 w1 z0 z1 fA fB
  by_cases h0 : A = 0
  · have h1 : ((A : Int) == 0) = true := by simpa using h0
    have h2 : decide ((A : Int) > 0) = false := by simp; omega
    have h3 : decide (0 < (A : Int)) = false := by simp; omega
    have g4 : (nv HI != nv X) = false := by rw [e0 h0]; simp
    clear h0 e0
    go_enter Try.func11, Try.ntmps11
    go_wp2_with (first | (go_at_call 40; (first | with_reducible refine (F1.out _).mono ?_ | with_reducible refine (F2.out _).mono ?_); rintro e w' ⟨rfl, rfl⟩) | (go_at_call 41; (first | with_reducible refine (F3.out _).mono ?_ | with_reducible refine (F4.out _).mono ?_ | with_reducible refine (F5.out _).mono ?_); rintro e w' ⟨rfl, rfl⟩) | (go_at_call 17; refine (awake1 _).mono ?_; rintro e w' ⟨rfl, hb⟩))
    all_goals (go_ret; exact ⟨rfl, hb⟩)
  · have h1 : ((A : Int) == 0) = false := by simpa using h0
    have h2 : decide ((A : Int) > 0) = true := by simp; omega
    have h3 : decide (0 < (A : Int)) = true := by simp; omega
    clear h0 e0
    go_enter Try.func11, Try.ntmps11
    go_wp2_with (first | (go_at_call 40; (first | with_reducible refine (F1.out _).mono ?_ | with_reducible refine (F2.out _).mono ?_); rintro e w' ⟨rfl, rfl⟩) | (go_at_call 41; (first | with_reducible refine (F3.out _).mono ?_ | with_reducible refine (F4.out _).mono ?_ | with_reducible refine (F5.out _).mono ?_); rintro e w' ⟨rfl, rfl⟩) | (go_at_call 17; refine (awake1 _).mono ?_; rintro e w' ⟨rfl, hb⟩))
    all_goals (go_ret; exact ⟨rfl, hb⟩)

set_option maxRecDepth 100000 in
theorem lifted (os : Os) (started : os.Started) (H : Type) (enc : TypeId × Value → H) :
    ReturnsInHanded {} Try.checked os 11 .any (Rows.wordPartsSpec.pre6 enc Try.prog Try.f11 Rows.wordPartsRow.domain false) (Rows.wordPartsSpec.post enc Try.prog Try.f11 false true false false) := by
  refine returnsInHanded_of_change (C := Try.checked) own started (by kernel_rfl) Try.func11
    (ChangeSpec.witness6 (enc := enc) (C := Try.checked) false ⟨#[], #[.int .u64 0, .int .i64 0], []⟩ 8 (by kernel_rfl) (by kernel_rfl) (by kernel_rfl) (by kernel_rfl)) ?_
  intro W base args ds gs before hval0 hW hcnd _
  have hval : ∀ (j : Nat) t v, Try.f11.params[j]? = some t → args[j]? = some v → Value.okWide Try.prog W .any base t v := hval0
  have hW' := hW
  obtain ⟨p, q, hA0, hV, rfl, hfz, hnd⟩ := hW
  have hA : DataW.TrodAll enc Try.prog W 0 (fun _ => true) true Try.f11.params.toList args.toList ds p := hA0
  rw [Try.params11] at hA hval
  obtain ⟨v0, vs0, d0, ds0, p0, q0, hargs, rfl, rfl, h0, r0⟩ := trodAll_cons hA
  obtain ⟨v1, vs1, d1, ds1, p1, q1, rfl, rfl, rfl, h1, r1⟩ := trodAll_cons r0
  obtain ⟨rfl, rfl, rfl⟩ := trodAll_nil r1
  obtain rfl : args = #[v0, v1] := by cases args; simp_all
  obtain ⟨rfl, rfl⟩ := trodVars_none hV
  obtain ⟨a0, rfl, rfl, rfl, w0⟩ := open_int Try.underlying22 (hval 0 22 v0 rfl rfl) h0
  obtain ⟨a1, rfl, rfl, rfl, w1⟩ := open_int Try.underlying3 (hval 1 3 v1 rfl rfl) h1
  clear hA0 hval0
  refine (walk a0 a1 w0 w1 W).mono fun e W' ⟨he, bel⟩ => ?_
  subst he
  exact ⟨_, rfl, _, _, _, [], _, [], hW', (trodAll_cons_mk (shut_bool Try.underlying4 _) trodAll_mk0), (trodAll_cons_mk (shut_int Try.underlying22 w0) (trodAll_cons_mk (shut_int Try.underlying3 w1) trodAll_mk0)), rfl, bel.frame _, fun h => by cases h⟩

theorem over : Rows.wordPartsRow.holds Try.pinned (OpenSpec.ofChange Rows.wordPartsSpec) :=
  OpenClaim.holds_of_wide 11 Try.f11 rfl rfl rfl rfl rfl rfl rfl ⟨rfl, rfl, rfl, rfl, rfl⟩ rfl rfl rfl rfl rfl (by kernel_rfl) Try.func11 (by kernel_rfl)
    (of_decide_eq_true (by kernel_rfl)) (by unfold Func.isWrapper; first | (rw [if_pos (by decide +kernel)]; kernel_rfl) | (rw [if_neg (by decide +kernel)]; exact ⟨rfl, rfl⟩))
    (fun os started H enc _ => lifted os started H enc)

theorem proved : Rows.WordPartsSaid :=
  over
#print axioms proved
end Go.Proofs.Ytceoadgmiabhfaa.wordParts
