/- Law CellRaces proved: for any number and any order the call returns true, under no condition.
   The frame below the walk was written by the kit's proof-skeleton.mjs. -/
import Derived.Test.YtpcbcnheogjofaaRows
import Derived.WalkKit
import Derived.ProofKit
import Derived.OpenShut
import Derived.ShutString
import Derived.ChangeOld
import Derived.Below
import Derived.Test.YtpcbcnheogjofaaCellAwake
import Derived.Test.YtpcbcnheogjofaaRowAt
import Derived.Deep.RegionHeld3
namespace Go.Proofs.Ytpcbcnheogjofaa.cellRaces
open Go.ChangeShapes Go.WideShapes Go.ChangeAt Go.RowKit
open Go.ChangeMaps (open_string shut_string)
set_option linter.unusedVariables false

theorem own : ownKnob Try.prog.godebug = none := by kernel_rfl
theorem laidOut : laidOutB Try.prog = true := by kernel_rfl

def IsRow (k : IntKind) (w : World) (a : Option Addr) (len cap : Nat) (zs : List Int) : Prop :=
  (a = none ∧ len = 0 ∧ cap = 0 ∧ zs = []) ∨
  ∃ x, a = some x ∧ len ≤ cap ∧ cap ≤ maxLen ∧ zs.length = cap ∧ (∀ i, i < zs.length → w.cell? (x.add i) = some (.int k (zs.getD i 0))) ∧ ∀ n ∈ zs, (Lit.int k n).wf = true



theorem walk (a0 : Int) (a1 : Option Addr) (len1 cap1 : Nat) (z1 : List Int) (w : World) (w0 : (Lit.int .i64 a0).wf = true) (w1 : IsRow .i64 w a1 len1 cap1 z1) :
    Calls Try.prog 3 #[.int .i64 a0, .slice a1 len1 cap1] w fun e w' => e = .returned (.bool true) ∧ Below w.heap.size w w' := by
  have HO := Lib.hid (own2_ge w.heap.size)
  obtain ⟨v, hv, v0, v7⟩ : ∃ p, bits .and .i64 a0 7 = p ∧ 0 ≤ p ∧ p ≤ 7 := ⟨_, rfl, by rw [and_i64_7]; omega, by rw [and_i64_7]; omega⟩
  obtain ⟨m, hm, m1, m8⟩ : ∃ m : Nat, v + 1 = m ∧ 1 ≤ m ∧ m ≤ 8 := ⟨(v + 1).toNat, by omega, by omega, by omega⟩
  have hmk1 := make_words m (by omega)
  have hmk2 := make_bools m (by omega)
  clear w0
  rcases row_cases w1 with rfl | ⟨b, off, rfl, hl, hlm, hbw, hc, hwz⟩
  · clear w1
    go_enter Try.func3, Try.ntmps3
    go_wp2_with fail
    refine (New_in 1 (by decide) (by decide) _).mono ?_
    rintro e w1 ⟨rfl, hM0, hB0⟩
    rw [show List.replicate (1 : Int).toNat (0 : Int) = [0] from rfl] at hM0
    go_wp2_with fail
    refine wp_loop_rounds 1 ?_
    rw [rounds_succ]
    have hM := (hM0.al (.cells (Array.replicate m (Value.int .u64 0)) 29)).al (.cells (Array.replicate m (Value.bool false)) 4)
    have hB := below_al (below_al hB0 (.cells (Array.replicate m (Value.int .u64 0)) 29)) (.cells (Array.replicate m (Value.bool false)) 4)
    go_wp2_with fail
    refine (Load_in hM (by omega) 0 (by decide) (by simp)).mono ?_
    rintro e w5 ⟨rfl, hM5, hF5⟩
    have hB5 := hF5.below hB HO.out
    rw [show List.getD [(0 : Int)] (0 : Int).toNat 0 = 0 from rfl]
    clear hM hB hF5
    go_wp2_with (first | (go_at_call 21; refine (Wins_any hM5 (by omega)).mono ?_; rintro e w' ⟨rfl, rfl⟩) | (go_at_call 22; refine (awake3 _).mono ?_; rintro e w' ⟨rfl, hb⟩))
    go_ret
    exact ⟨rfl, below_step hb hB5⟩
  · clear w1
    go_enter Try.func3, Try.ntmps3
    go_wp2_with fail
    refine (New_in 1 (by decide) (by decide) _).mono ?_
    rintro e w1 ⟨rfl, hM0, hB0⟩
    rw [show List.replicate (1 : Int).toNat (0 : Int) = [0] from rfl] at hM0
    go_wp2_with fail
    obtain ⟨r, hr⟩ : ∃ r, r = w1.heap.size := ⟨_, rfl⟩
    have hrb : w.heap.size + 1 < r := by rw [hr]; exact (Array.getElem?_eq_some_iff.1 hM0.hdr).1
    have hM1 := (hM0.al (.cells (Array.replicate m (Value.int .u64 0)) 29)).al (.cells (Array.replicate m (Value.bool false)) 4)
    have hB1 := below_al (below_al hB0 (.cells (Array.replicate m (Value.int .u64 0)) 29)) (.cells (Array.replicate m (Value.bool false)) 4)
    have hR1 : RowI .u64 29 ((w1.alloc (.cells (Array.replicate m (Value.int .u64 0)) 29)).alloc (.cells (Array.replicate m (Value.bool false)) 4)) r (List.replicate m 0) := by
      refine RowI.al ?_ _
      unfold RowI
      rw [alloc_at hr]
      simp
    have hS1 : RowB 4 ((w1.alloc (.cells (Array.replicate m (Value.int .u64 0)) 29)).alloc (.cells (Array.replicate m (Value.bool false)) 4)) (r + 1) (List.replicate m false) := by
      unfold RowB
      rw [alloc_at (by rw [hr]; simp)]
      simp
    have n1 : r ≠ w.heap.size + 1 := by omega
    have n2 : r ≠ w.heap.size := by omega
    have n3 : r + 1 ≠ w.heap.size + 1 := by omega
    have n4 : r + 1 ≠ w.heap.size := by omega
    have n5 : r ≠ r + 1 := by omega
    have n6 : ¬ own2 (w.heap.size + 1) w.heap.size r := fun h => h.elim n1 n2
    have n7 : ¬ own2 (w.heap.size + 1) w.heap.size (r + 1) := fun h => h.elim n3 n4
    have n1' := n1.symm
    have n2' := n2.symm
    have n3' := n3.symm
    have n4' := n4.symm
    have N6 := Lib.hid n6
    have N7 := Lib.hid n7
    clear n6 n7 hM0 hB0
    rw [← hr]
    clear hr
    go_loopw [9, 10] (fun v9 v10 wr => ∃ (k W : Nat) (rs : List Int) (hs : List Bool) (st at_ kd : Int), k ≤ 80 ∧ k ≤ len1 ∧ v10 = .int .i64 k ∧ v9 = .int .i64 W ∧ W ≤ k ∧ st ≤ k ∧ rs.length = m ∧ hs.length = m ∧ MemAt wr (w.heap.size + 1) w.heap.size [(W : Int)] st W at_ kd ∧ RowI .u64 29 wr r rs ∧ RowB 4 wr (r + 1) hs ∧ Below w.heap.size w wr) (fun _ v10 _ => 80 - (intOf v10).toNat)
    case atStart => exact ⟨0, 0, List.replicate m 0, List.replicate m false, 0, 0, 0, by omega, by omega, rfl, rfl, by omega, by decide, by simp, by simp, hM1, hR1, hS1, hB1⟩
    case round =>
      obtain ⟨k, W, rs, hs, st, at_, kd, hk, hkl, rfl, rfl, hW, hst, hrs, hhs, hM, hR, hS, hB⟩ := hrel
      by_cases hlt : k < 80 ∧ k < len1
      · obtain ⟨h80, hlen⟩ := hlt
        have hcell0 := hc k (by omega)
        have hcell := cell_keeps hB hbw hcell0
        generalize z1.getD k 0 = x at hcell hcell0
        obtain ⟨u, hu, u0, u255⟩ : ∃ p, bits .and .i64 x 255 = p ∧ 0 ≤ p ∧ p ≤ 255 := ⟨_, rfl, by rw [and_i64_255]; omega, by rw [and_i64_255]; omega⟩
        obtain ⟨t, ht, tm⟩ : ∃ t : Nat, u % (m : Int) = t ∧ t < m := ⟨(u % (m : Int)).toNat, by rw [Int.toNat_of_nonneg (Int.emod_nonneg _ (by omega))], by have := Int.emod_lt_of_pos u (show (0 : Int) < m from by omega); omega⟩
        have ci := hR.cell t (by omega)
        have cb := hS.cell t (by omega)
        have fi := hR.free t
        have fb := hS.free t
        have HK := Lib.hid hrs
        have HH := Lib.hid hhs
        clear hrs hhs
        cases hbt : hs.getD t false
        · rw [hbt] at cb
          clear hbt
          go_wp2_with fail
          refine (Load_in hM (by omega) 0 (by decide) (by simp)).mono ?_
          rintro e w5 ⟨rfl, hM5, hF5⟩
          have hB5 := hF5.below hB HO.out
          have hR5 := hR.fr hF5 N6.out
          have hS5 := hS.fr hF5 N7.out
          rw [show List.getD [(W : Int)] (0 : Int).toNat 0 = W from rfl]
          have fi5 := hR5.free t
          have fb5 := hS5.free t
          have ci5 := hR5.cell t (by have := HK.out; omega)
          have cb5 := hS5.cell t (by have := HH.out; omega)
          generalize rs.getD t 0 = y at ci ci5
          generalize hs.getD t false = c at cb5
          clear hM hB hR hS hF5 ci cb fi fb
          go_wp2_with fail
          go_roundw
          case rel => exact ⟨k + 1, W, rs.set t W, hs.set t true, _, _, _, by omega, by omega, by go_num, rfl, by omega, by omega, by rw [List.length_set]; exact HK.out, by rw [List.length_set]; exact HH.out, (hM5.other n1' n2' _).other n3' n4' _, (hR5.set t W).other n5 _, (hS5.other (Ne.symm n5) _).set t true, (hB5.setCell (by show w.heap.size ≤ r; omega) _).setCell (by show w.heap.size ≤ r + 1; omega) _⟩
          case measure => simp [intOf]; omega
        · rw [hbt] at cb
          clear hbt
          have hR6 := hR.other (b := r + 1) (j := t) n5 (.bool false)
          have hS6 := hS.set t false
          have hM6 := hM.other (c := r + 1) (j := t) n3' n4' (.bool false)
          have hB6 := hB.setCell (p := (⟨r + 1, t, none⟩ : Addr)) (by show w.heap.size ≤ r + 1; omega) (.bool false)
          clear hR hS hM hB
          obtain ⟨y, hy⟩ : ∃ y, rs.getD t 0 = y := ⟨_, rfl⟩
          have HY := Lib.hid hy
          rw [hy] at ci
          clear hy
          by_cases hyW : (W : Int) = y
          · subst hyW
            have q1 : IntKind.u64.wrap ((W : Int) + 1) = (W : Int) + 1 := by rw [IntKind.wrap_u64]; omega
            have q2 : IntKind.u64.wrap (W : Int) = W := by rw [IntKind.wrap_u64]; omega
            go_wp2_with fail
            have hkt : t < rs.length := by have := HK.out; omega
            have e1 : (List.getD [(W : Int)] (0 : Int).toNat 0 != (W : Int)) = false := by simp
            have hM6d := hM6.dr
            have hR6d := hR6.fr ((Fr.refl (own2 (w.heap.size + 1) w.heap.size) (wr.setCell ⟨r + 1, t, none⟩ (.bool false))).dr) N6.out
            go_region_held3 (fun w' => w'.cell? ⟨r, t, none⟩ = some (.int .u64 W)) ((first | assumption | (rw [← HY.out]; exact hR6d.cell t hkt) | (rw [← HY.out]; exact (hR6d.fr hF7 N6.out).cell t hkt))) (first | (go_at_call 20; refine (CAS_hit hM6d (by omega) 0 (by decide) (by simp) _ _ e1).mono ?_; rintro e w' ⟨rfl, hM7, hF7⟩))
            have hR7 := hR6d.fr hF7 N6.out
            have c7 := hR7.cell t hkt
            rw [HY.out] at c7
            have f7 := hR7.free t
            have hS7 := (hS6.fr ((Fr.refl (own2 (w.heap.size + 1) w.heap.size) (wr.setCell ⟨r + 1, t, none⟩ (.bool false))).dr) N7.out).fr hF7 N7.out
            have hB7 := hF7.below (below_dr hB6) HO.out
            clear hM6 hM6d hR6 hR6d hS6 hF7 hB6
            go_wp2_with fail
            go_roundw
            case rel => exact ⟨k + 1, W + 1, rs, hs.set t false, st + 1, 0, 3, by omega, by omega, by go_num, by go_num, by omega, by omega, HK.out, by rw [List.length_set]; exact HH.out, hM7, hR7, hS7, hB7⟩
            case measure => simp [intOf]; omega
          · have e1 : (List.getD [(W : Int)] (0 : Int).toNat 0 != y) = true := by simpa using hyW
            have e2 : (y == (W : Int)) = false := by simpa using fun h => hyW (Eq.symm h)
            go_wp2_with fail
            have hkt : t < rs.length := by have := HK.out; omega
            have hM6d := hM6.dr
            have hR6d := hR6.fr ((Fr.refl (own2 (w.heap.size + 1) w.heap.size) (wr.setCell ⟨r + 1, t, none⟩ (.bool false))).dr) N6.out
            go_region_held3 (fun w' => w'.cell? ⟨r, t, none⟩ = some (.int .u64 y)) ((first | assumption | (rw [← HY.out]; exact hR6d.cell t hkt) | (rw [← HY.out]; exact (hR6d.fr hF7 N6.out).cell t hkt))) (first | (go_at_call 20; refine (CAS_miss hM6d (by omega) 0 (by decide) (by simp) _ _ e1).mono ?_; rintro e w' ⟨rfl, hM7, hF7⟩))
            have hR7 := hR6d.fr hF7 N6.out
            have c7 := hR7.cell t hkt
            rw [HY.out] at c7
            have f7 := hR7.free t
            have hS7 := (hS6.fr ((Fr.refl (own2 (w.heap.size + 1) w.heap.size) (wr.setCell ⟨r + 1, t, none⟩ (.bool false))).dr) N7.out).fr hF7 N7.out
            have hB7 := hF7.below (below_dr hB6) HO.out
            have q2 : IntKind.u64.wrap (W : Int) = W := by rw [IntKind.wrap_u64]; omega
            clear hM6 hM6d hR6 hR6d hS6 hF7 hB6
            go_wp2_with fail
            go_roundw
            case rel => exact ⟨k + 1, W, rs, hs.set t false, _, _, _, by omega, by omega, by go_num, by go_num, by omega, by omega, HK.out, by rw [List.length_set]; exact HH.out, hM7, hR7, hS7, hB7⟩
            case measure => simp [intOf]; omega
      · by_cases h80 : k < 80
        · have hlen : ¬ k < len1 := fun h => hlt ⟨h80, h⟩
          have q2 : IntKind.u64.wrap (W : Int) = W := by rw [IntKind.wrap_u64]; omega
          go_wp2_with fail
          refine (Load_in hM (by omega) 0 (by decide) (by simp)).mono ?_
          rintro e w5 ⟨rfl, hM5, hF5⟩
          have hB5 := hF5.below hB HO.out
          rw [show List.getD [((W : Int) : Int)] (0 : Int).toNat 0 = (W : Int) from rfl]
          clear hM hB hF5
          go_wp2_with (first | (go_at_call 21; refine (Wins_any hM5 (by omega)).mono ?_; rintro e w' ⟨rfl, rfl⟩) | (go_at_call 22; refine (awake3 _).mono ?_; rintro e w' ⟨rfl, hb⟩))
          go_ret
          exact ⟨rfl, below_step hb hB5⟩
        · by_cases hlen : k < len1
          · have q2 : IntKind.u64.wrap (W : Int) = W := by rw [IntKind.wrap_u64]; omega
            go_wp2_with fail
            refine (Load_in hM (by omega) 0 (by decide) (by simp)).mono ?_
            rintro e w5 ⟨rfl, hM5, hF5⟩
            have hB5 := hF5.below hB HO.out
            rw [show List.getD [((W : Int) : Int)] (0 : Int).toNat 0 = (W : Int) from rfl]
            clear hM hB hF5
            go_wp2_with (first | (go_at_call 21; refine (Wins_any hM5 (by omega)).mono ?_; rintro e w' ⟨rfl, rfl⟩) | (go_at_call 22; refine (awake3 _).mono ?_; rintro e w' ⟨rfl, hb⟩))
            go_ret
            exact ⟨rfl, below_step hb hB5⟩
          · have q2 : IntKind.u64.wrap (W : Int) = W := by rw [IntKind.wrap_u64]; omega
            go_wp2_with fail
            refine (Load_in hM (by omega) 0 (by decide) (by simp)).mono ?_
            rintro e w5 ⟨rfl, hM5, hF5⟩
            have hB5 := hF5.below hB HO.out
            rw [show List.getD [((W : Int) : Int)] (0 : Int).toNat 0 = (W : Int) from rfl]
            clear hM hB hF5
            go_wp2_with (first | (go_at_call 21; refine (Wins_any hM5 (by omega)).mono ?_; rintro e w' ⟨rfl, rfl⟩) | (go_at_call 22; refine (awake3 _).mono ?_; rintro e w' ⟨rfl, hb⟩))
            go_ret
            exact ⟨rfl, below_step hb hB5⟩

set_option maxRecDepth 100000 in
theorem lifted (os : Os) (started : os.Started) (H : Type) (enc : TypeId × Value → H) :
    ReturnsInHanded {} Try.checked os 3 .any (Rows.cellRacesSpec.pre6 enc Try.prog Try.f3 Rows.cellRacesRow.domain false) (Rows.cellRacesSpec.post enc Try.prog Try.f3 false true false false) := by
  refine returnsInHanded_of_change (C := Try.checked) own started (by kernel_rfl) Try.func3
    (ChangeSpec.witness6 (enc := enc) (C := Try.checked) false ⟨#[], #[.int .i64 0, .slice none 0 0], []⟩ 8 (by kernel_rfl) (by kernel_rfl) (by kernel_rfl) (by kernel_rfl)) ?_
  intro W base args ds gs before hval0 hW hcnd _
  have hval : ∀ (j : Nat) t v, Try.f3.params[j]? = some t → args[j]? = some v → Value.okWide Try.prog W .any base t v := hval0
  have hW' := hW
  obtain ⟨p, q, hA0, hV, rfl, hfz, hnd⟩ := hW
  have hA : DataW.TrodAll enc Try.prog W 0 (fun _ => true) true Try.f3.params.toList args.toList ds p := hA0
  rw [Try.params3] at hA hval
  obtain ⟨v0, vs0, d0, ds0, p0, q0, hargs, rfl, rfl, h0, r0⟩ := trodAll_cons hA
  obtain ⟨v1, vs1, d1, ds1, p1, q1, rfl, rfl, rfl, h1, r1⟩ := trodAll_cons r0
  obtain ⟨rfl, rfl, rfl⟩ := trodAll_nil r1
  obtain rfl : args = #[v0, v1] := by cases args; simp_all
  obtain ⟨rfl, rfl⟩ := trodVars_none hV
  obtain ⟨a0, rfl, rfl, rfl, w0⟩ := open_int Try.underlying3 (hval 0 3 v0 rfl rfl) h0
  obtain ⟨a1, len1, cap1, rfl⟩ := okWide_slice Try.underlying22 (hval 1 22 v1 rfl rfl)
  have k1 := h1
  have lt1 : ∀ x ∈ p1, x.block < W.heap.size := by obtain ⟨m, hm⟩ := k1; exact DataW.trod_lt m _ _ _ hm
  obtain ⟨z1, w1⟩ : ∃ zs, IsRow .i64 W a1 len1 cap1 zs := by
    obtain ⟨fuel, hf⟩ := h1
    rcases open_ints Try.underlying22 Try.underlying3 (by kernel_rfl) hf with ⟨hcs, _⟩ | ⟨x, l, c, zs, hcs, _, hl, hm, hz, _, hcell, hwz⟩
    · simp [Value.cells] at hcs
      obtain ⟨rfl, rfl, rfl⟩ := hcs
      exact ⟨[], .inl ⟨rfl, rfl, rfl, rfl⟩⟩
    · simp [Value.cells] at hcs
      obtain ⟨rfl, rfl, rfl⟩ := hcs
      exact ⟨zs, .inr ⟨_, rfl, hl, hm, by simpa using hz, hcell, hwz⟩⟩
  clear hA0 hval0
  refine (walk a0 a1 len1 cap1 z1 W w0 w1).mono fun e W' ⟨he, bel⟩ => ?_
  subst he
  exact ⟨_, rfl, _, _, _, [], _, [], hW', trodAll_mk1 (shut_bool Try.underlying4 _), (trodAll_cons_mk (shut_int Try.underlying3 w0) (trodAll_cons_mk (Below.trod laidOut (by kernel_rfl) (of_decide_eq_true (by kernel_rfl)) k1 bel lt1) trodAll_mk0)), rfl, bel.frame _, fun h => by cases h⟩

theorem over : Rows.cellRacesRow.holds Try.pinned (OpenSpec.ofChange Rows.cellRacesSpec) :=
  OpenClaim.holds_of_wide 3 Try.f3 rfl rfl rfl rfl rfl rfl rfl ⟨rfl, rfl, rfl, rfl, rfl⟩ rfl rfl rfl rfl rfl (by kernel_rfl) Try.func3 (by kernel_rfl)
    (of_decide_eq_true (by kernel_rfl)) (by unfold Func.isWrapper; first | (rw [if_pos (by decide +kernel)]; kernel_rfl) | (rw [if_neg (by decide +kernel)]; exact ⟨rfl, rfl⟩))
    (fun os started H enc _ => lifted os started H enc)

theorem proved : Rows.CellRacesSaid := over
#print axioms proved
end Go.Proofs.Ytpcbcnheogjofaa.cellRaces
