/- Law ArenaFills proved: for any numbers the call returns true, under no condition.
   The frame below the walk was written by the kit's proof-skeleton.mjs. -/
import Derived.Test.YtpcbcnheogjofaaRows
import Derived.WalkKit
import Derived.ProofKit
import Derived.OpenShut
import Derived.ShutString
import Derived.ChangeOld
import Derived.Below
import Derived.Test.YtpcbcnheogjofaaArena4
namespace Go.Proofs.Ytpcbcnheogjofaa.arenaFills
open Go.ChangeShapes Go.WideShapes Go.ChangeAt Go.RowKit
set_option linter.unusedVariables false      -- a walk need not use every 'w<i>' (that an integer argument fits its kind)

theorem own : ownKnob Try.prog.godebug = none := by kernel_rfl

theorem cnt_all (ws : List Int) (s : Int) (h : ∀ j, j < ws.length → ws.getD j 0 % 8 = s) : cntS ws s = ws.length := by
  unfold cntS
  rw [List.filter_eq_self.2]
  intro x hx
  obtain ⟨j, hj, rfl⟩ := List.mem_iff_getElem.1 hx
  have := h j hj
  rw [List.getD_eq_getElem?_getD, List.getElem?_eq_getElem hj] at this
  simpa using this
set_option maxRecDepth 100000 in
set_option maxHeartbeats 8000000 in

theorem walk (a0 : Int) (a1 : Int) (w0 : (Lit.int .i64 a0).wf = true) (w1 : (Lit.int .i64 a1).wf = true) (w : World) :
    Calls Try.prog 13 #[.int .i64 a0, .int .i64 a1] w fun e w' => e = .returned (.bool true) ∧ Below w.heap.size w w' := by
  clear w0 w1
  obtain ⟨q, hq, q255⟩ : ∃ q : Nat, bits .and .i64 a0 255 = (q : Int) ∧ q ≤ 255 := ⟨(a0 % 256).toNat, by rw [and_i64_255]; omega, by omega⟩
  obtain ⟨t, ht, t60⟩ : ∃ t : Nat, (q : Int).tmod 60 = (t : Int) ∧ t < 60 := ⟨q % 60, by rw [Int.tmod_eq_emod_of_nonneg (by omega)]; omega, by omega⟩
  obtain ⟨N, hN, N1, N60⟩ : ∃ N : Nat, (t : Int) + 1 = (N : Int) ∧ 1 ≤ N ∧ N ≤ 60 := ⟨t + 1, by omega, by omega, by omega⟩
  obtain ⟨u, hu, u255⟩ : ∃ q : Nat, bits .and .i64 a1 255 = (q : Int) ∧ q ≤ 255 := ⟨(a1 % 256).toNat, by rw [and_i64_255]; omega, by omega⟩
  obtain ⟨K, hK, KN⟩ : ∃ K : Nat, (u : Int).tmod (N : Int) = (K : Int) ∧ K < N := ⟨u % N, by rw [Int.tmod_eq_emod_of_nonneg (by omega)]; omega, Nat.mod_lt _ (by omega)⟩
  have hN0 : ((N : Int) == 0) = false := by simp; omega
  have HKN := Lib.hid (show (u : Int).tmod (N : Int) = (K : Int) from hK)
  go_enter Try.func13, Try.ntmps13
  go_wp2_with fail
  refine (ANew_in N (by omega) (by omega) _).mono ?_
  rintro e w1 ⟨a, b, g, rfl, hA, ha, hb, hg, hB⟩
  rw [Int.toNat_natCast] at hA
  have HO := Lib.hid (own2_ge hb hg)
  clear ha hb hg
  go_wp2_with fail
  go_loopg [7, 8, 9] N (fun gg v7 v8 v9 wr => ∃ (i : Nat) (ws : List Int), gg = N - i ∧ i ≤ N ∧ v7 = .int .i64 ((i : Int) + 1) ∧ ws.length = N ∧ (∀ j, j < i → ws.getD j 0 = 10) ∧ (∀ j, i ≤ j → ws.getD j 0 = 0) ∧ ArAt wr a b g ws (100 * i) ∧ Below w.heap.size w wr)
  case atStart => exact ⟨0, List.replicate N 0, by omega, by omega, rfl, by simp, fun j hj => by omega, (by intro j _; rw [List.getD_eq_getElem?_getD, List.getElem?_replicate]; split <;> rfl), hA.le (by omega), hB⟩
  case round =>
    clear hA hB
    obtain ⟨i, ws, rfl, hi, rfl, hwl, hw1, hw2, hA, hB⟩ := hrel
    by_cases hlt : i < N
    · have g1 : decide ((i : Int) + 1 ≤ N) = true := by simp; omega
      have hw2i := hw2 i (Nat.le_refl _)
      have HL := Lib.hid hwl
      have H1 := Lib.hid hw1
      have H2 := Lib.hid hw2
      have HI := Lib.hid hw2i
      clear hwl hw1 hw2 hw2i
      go_wp2_with fail
      refine (Alloc_at hA (by omega) 2 (by decide) (by decide) i (by have := HL.out; omega) (fun j hj => by rw [H1.out j hj]; decide) (by rw [HI.out]; decide)).mono ?_
      rintro e w2 ⟨rfl, hA2, hF2⟩
      rw [HI.out, show nextI 0 2 = 10 from by decide] at hA2
      have hB2 := hF2.below hB HO.out
      clear hA hB hF2
      go_wp2_with fail
      go_roundg (N - (i + 1))
      case measure => omega
      case rel => exact ⟨i + 1, ws.set i 10, by omega, by omega, by go_num, by rw [List.length_set]; exact HL.out, (by
        intro j hj
        rw [getD_set_any]
        split
        · rfl
        · rename_i hh
          have := HL.out
          exact H1.out j (by omega)), (by
        intro j hj
        rw [getD_set_any, if_neg (by omega)]
        exact H2.out j (by omega)), hA2.le (by omega), hB2⟩
    · obtain rfl : i = N := by omega
      have g1 : decide ((i : Int) + 1 ≤ i) = false := by simp; omega
      have hk10 := hw1 K KN
      have HL := Lib.hid hwl
      have H1 := Lib.hid hw1
      have HK10 := Lib.hid hk10
      have HKL := Lib.hid (show K < ws.length from by omega)
      clear hwl hw1 hw2 hk10
      go_wp2_with fail
      refine (Alloc_full hA (by omega) 1 (by decide) (by decide) (fun j hj => by rw [H1.out j (by have := HL.out; omega)]; decide)).mono ?_
      rintro e w2 ⟨rfl, hA2, hF2⟩
      have hB2 := hF2.below hB HO.out
      rw [HL.out] at hA2
      clear hA hB hF2
      go_wp2_with fail
      refine (Word_in hA2 (by omega) _ K rfl HKL.out).mono ?_
      rintro e w3 ⟨rfl, hA3, hF3⟩
      have hB3 := hF3.below hB2 HO.out
      rw [HK10.out]
      clear hA2 hB2 hF3
      go_wp2_with fail
      refine (Free_state hA3 (by omega) _ K rfl HKL.out (by rw [HK10.out]; decide)).mono ?_
      rintro e w4 ⟨rfl, hA4, hF4⟩
      have hB4 := hF4.below hB3 HO.out
      clear hA3 hB3 hF4
      go_wp2_with fail
      refine (Turn_ok hA4 _ 10 6 K rfl HKL.out (by decide) (by decide) (by decide) (by decide) (by decide) (by omega) (by rw [HK10.out]; decide)).mono ?_
      rintro e w5 ⟨rfl, hA5, hF5⟩
      have hB5 := hF5.below hB4 HO.out
      rw [show nextI 10 6 = 22 from by decide] at hA5 ⊢
      obtain ⟨x2, hx2⟩ : ∃ x2, ws.set K 22 = x2 := ⟨_, rfl⟩
      have HX2 := Lib.hid (show x2.length = i ∧ x2.getD K 0 = 22 ∧ ∀ j, j < i → j ≠ K → x2.getD j 0 = 10 from by
        rw [← hx2]
        refine ⟨by rw [List.length_set]; exact HL.out, by rw [getD_set_any, if_pos ⟨rfl, HKL.out⟩], fun j hj hne => by rw [getD_set_any, if_neg (by omega)]; exact H1.out j hj⟩)
      rw [hx2] at hA5
      have HK2 := Lib.hid (show K < x2.length from by rw [HX2.out.1]; exact KN)
      clear hx2 hA4 hB4 hF5
      go_wp2_with fail
      refine (Free_ok hA5 (by omega) _ K rfl HK2.out (by rw [HX2.out.2.1]; decide)).mono ?_
      rintro e w6 ⟨rfl, hA6, hF6⟩
      have hB6 := hF6.below hB5 HO.out
      rw [HX2.out.2.1, show nextI 22 0 = 24 from by decide] at hA6
      obtain ⟨x3, hx3⟩ : ∃ x3, x2.set K 24 = x3 := ⟨_, rfl⟩
      have HX3 := Lib.hid (show x3.length = i ∧ x3.getD K 0 = 24 ∧ ∀ j, j < i → j ≠ K → x3.getD j 0 = 10 from by
        rw [← hx3]
        refine ⟨by rw [List.length_set]; exact HX2.out.1, by rw [getD_set_any, if_pos ⟨rfl, HK2.out⟩], fun j hj hne => by rw [getD_set_any, if_neg (by omega)]; exact HX2.out.2.2 j hj hne⟩)
      rw [hx3] at hA6
      have HK3 := Lib.hid (show K < x3.length from by rw [HX3.out.1]; exact KN)
      clear hx3 hA5 hB5 hF6
      go_wp2_with fail
      refine (Free_state hA6 (by omega) _ K rfl HK3.out (by rw [HX3.out.2.1]; decide)).mono ?_
      rintro e w7 ⟨rfl, hA7, hF7⟩
      have hB7 := hF7.below hB6 HO.out
      clear hA6 hB6 hF7
      go_wp2_with fail
      refine (State_in hA7 (by omega) _ K rfl HK3.out).mono ?_
      rintro e w8 ⟨rfl, hA8, hF8⟩
      have hB8 := hF8.below hB7 HO.out
      rw [HX3.out.2.1, show (24 : Int) % 8 = 0 from by decide]
      clear hA7 hB7 hF8
      go_wp2_with fail
      refine (Alloc_at hA8 (by omega) 2 (by decide) (by decide) K HK3.out (fun j hj => by rw [HX3.out.2.2 j (by omega) (by omega)]; decide) (by rw [HX3.out.2.1]; decide)).mono ?_
      rintro e w9 ⟨rfl, hA9, hF9⟩
      have hB9 := hF9.below hB8 HO.out
      rw [HX3.out.2.1, show nextI 24 2 = 34 from by decide] at hA9
      obtain ⟨x4, hx4⟩ : ∃ x4, x3.set K 34 = x4 := ⟨_, rfl⟩
      have HX4 := Lib.hid (show x4.length = i ∧ x4.getD K 0 = 34 ∧ ∀ j, j < i → j ≠ K → x4.getD j 0 = 10 from by
        rw [← hx4]
        refine ⟨by rw [List.length_set]; exact HX3.out.1, by rw [getD_set_any, if_pos ⟨rfl, HK3.out⟩], fun j hj hne => by rw [getD_set_any, if_neg (by omega)]; exact HX3.out.2.2 j hj hne⟩)
      rw [hx4] at hA9
      have HK4 := Lib.hid (show K < x4.length from by rw [HX4.out.1]; exact KN)
      have HCN := Lib.hid (show cntS x4 2 = i from by
        rw [cnt_all x4 2 (by
          intro j hj
          rw [HX4.out.1] at hj
          by_cases hjk : j = K
          · rw [hjk, HX4.out.2.1]; decide
          · rw [HX4.out.2.2 j hj hjk]; decide), HX4.out.1])
      clear hx4 hA8 hB8 hF9
      go_wp2_with fail
      refine (Word_in hA9 (by omega) _ K rfl HK4.out).mono ?_
      rintro e w10 ⟨rfl, hA10, hF10⟩
      have hB10 := hF10.below hB9 HO.out
      rw [HX4.out.2.1]
      clear hA9 hB9 hF10
      go_wp2_with fail
      refine (Word_in hA10 (by omega) _ K rfl HK4.out).mono ?_
      rintro e w11 ⟨rfl, hA11, hF11⟩
      have hB11 := hF11.below hB10 HO.out
      rw [HX4.out.2.1]
      clear hA10 hB10 hF11
      go_wp2_with fail
      refine (State_in hA11 (by omega) _ K rfl HK4.out).mono ?_
      rintro e w12 ⟨rfl, hA12, hF12⟩
      have hB12 := hF12.below hB11 HO.out
      rw [HX4.out.2.1, show (34 : Int) % 8 = 2 from by decide]
      clear hA11 hB11 hF12
      go_wp2_with fail
      refine (Count_2 hA12 (by omega)).mono ?_
      rintro e w13 ⟨rfl, hA13, hF13⟩
      have hB13 := hF13.below hB12 HO.out
      rw [HCN.out]
      clear hA12 hB12 hF13
      go_wp2_with fail
      refine (awake4 _).mono ?_
      rintro e w14 ⟨rfl, hb⟩
      go_wp2_with fail
      go_ret
      exact ⟨rfl, below_step hb hB13⟩

set_option maxRecDepth 100000 in
theorem lifted (os : Os) (started : os.Started) (H : Type) (enc : TypeId × Value → H) :
    ReturnsInHanded {} Try.checked os 13 .any (Rows.arenaFillsSpec.pre6 enc Try.prog Try.f13 Rows.arenaFillsRow.domain false) (Rows.arenaFillsSpec.post enc Try.prog Try.f13 false true false false) := by
  refine returnsInHanded_of_change (C := Try.checked) own started (by kernel_rfl) Try.func13
    (ChangeSpec.witness6 (enc := enc) (C := Try.checked) false ⟨#[], #[.int .i64 0, .int .i64 0], []⟩ 8 (by kernel_rfl) (by kernel_rfl) (by kernel_rfl) (by kernel_rfl)) ?_
  intro W base args ds gs before hval0 hW hcnd _
  have hval : ∀ (j : Nat) t v, Try.f13.params[j]? = some t → args[j]? = some v → Value.okWide Try.prog W .any base t v := hval0
  have hW' := hW
  obtain ⟨p, q, hA0, hV, rfl, hfz, hnd⟩ := hW
  have hA : DataW.TrodAll enc Try.prog W 0 (fun _ => true) true Try.f13.params.toList args.toList ds p := hA0
  rw [Try.params13] at hA hval
  obtain ⟨v0, vs0, d0, ds0, p0, q0, hargs, rfl, rfl, h0, r0⟩ := trodAll_cons hA
  obtain ⟨v1, vs1, d1, ds1, p1, q1, rfl, rfl, rfl, h1, r1⟩ := trodAll_cons r0
  obtain ⟨rfl, rfl, rfl⟩ := trodAll_nil r1
  obtain rfl : args = #[v0, v1] := by cases args; simp_all
  obtain ⟨rfl, rfl⟩ := trodVars_none hV
  obtain ⟨a0, rfl, rfl, rfl, w0⟩ := open_int Try.underlying3 (hval 0 3 v0 rfl rfl) h0
  obtain ⟨a1, rfl, rfl, rfl, w1⟩ := open_int Try.underlying3 (hval 1 3 v1 rfl rfl) h1
  clear hA0 hval0
  refine (walk a0 a1 w0 w1 W).mono fun e W' ⟨he, bel⟩ => ?_
  subst he
  exact ⟨_, rfl, _, _, _, [], _, [], hW', (trodAll_cons_mk (shut_bool Try.underlying4 _) trodAll_mk0), (trodAll_cons_mk (shut_int Try.underlying3 w0) (trodAll_cons_mk (shut_int Try.underlying3 w1) trodAll_mk0)), rfl, bel.frame _, fun h => by cases h⟩

theorem over : Rows.arenaFillsRow.holds Try.pinned (OpenSpec.ofChange Rows.arenaFillsSpec) :=
  OpenClaim.holds_of_wide 13 Try.f13 rfl rfl rfl rfl rfl rfl rfl ⟨rfl, rfl, rfl, rfl, rfl⟩ rfl rfl rfl rfl rfl (by kernel_rfl) Try.func13 (by kernel_rfl)
    (of_decide_eq_true (by kernel_rfl)) (by unfold Func.isWrapper; first | (rw [if_pos (by decide +kernel)]; kernel_rfl) | (rw [if_neg (by decide +kernel)]; exact ⟨rfl, rfl⟩))
    (fun os started H enc _ => lifted os started H enc)

theorem proved : Rows.ArenaFillsSaid :=
  over
#print axioms proved
end Go.Proofs.Ytpcbcnheogjofaa.arenaFills
