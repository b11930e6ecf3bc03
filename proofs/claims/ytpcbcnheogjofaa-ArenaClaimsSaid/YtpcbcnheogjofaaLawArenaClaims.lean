/- Law ArenaClaims proved: for any number and any order the call returns true, under no condition.
   The frame below the walk was written by the kit's proof-skeleton.mjs. -/
import Derived.Test.YtpcbcnheogjofaaRows
import Derived.WalkKit
import Derived.ProofKit
import Derived.OpenShut
import Derived.ShutString
import Derived.ChangeOld
import Derived.Below
import Derived.Test.YtpcbcnheogjofaaArena3
import Derived.Test.YtpcbcnheogjofaaRowAt
import Derived.Deep.CutBlock
namespace Go.Proofs.Ytpcbcnheogjofaa.arenaClaims
open Go.ChangeShapes Go.WideShapes Go.ChangeAt Go.RowKit
open Go.ChangeMaps (open_string shut_string)
set_option linter.unusedVariables false

theorem own : ownKnob Try.prog.godebug = none := by kernel_rfl
theorem laidOut : laidOutB Try.prog = true := by kernel_rfl

def IsRow (k : IntKind) (w : World) (a : Option Addr) (len cap : Nat) (zs : List Int) : Prop :=
  (a = none ∧ len = 0 ∧ cap = 0 ∧ zs = []) ∨
  ∃ x, a = some x ∧ len ≤ cap ∧ cap ≤ maxLen ∧ zs.length = cap ∧ (∀ i, i < zs.length → w.cell? (x.add i) = some (.int k (zs.getD i 0))) ∧ ∀ n ∈ zs, (Lit.int k n).wf = true

set_option maxRecDepth 100000 in
set_option maxHeartbeats 8000000 in

theorem walk (a0 : Int) (a1 : Option Addr) (len1 cap1 : Nat) (z1 : List Int) (w : World) (w0 : (Lit.int .i64 a0).wf = true) (w1 : IsRow .i64 w a1 len1 cap1 z1) :
    Calls Try.prog 11 #[.int .i64 a0, .slice a1 len1 cap1] w fun e w' => e = .returned (.bool true) ∧ Below w.heap.size w w' := by
  obtain ⟨v, hv, v0, v7⟩ : ∃ p, bits .and .i64 a0 7 = p ∧ 0 ≤ p ∧ p ≤ 7 := ⟨_, rfl, by rw [and_i64_7]; omega, by rw [and_i64_7]; omega⟩
  obtain ⟨m, hm, m1, m8⟩ : ∃ m : Nat, v + 1 = m ∧ 1 ≤ m ∧ m ≤ 8 := ⟨(v + 1).toNat, by omega, by omega, by omega⟩
  have hmk1 := make_words m (by omega)
  have hmk2 := make_bools m (by omega)
  have HW := Lib.hid (row_cases w1)
  clear w0 w1
  have HC23 := Lib.hid (show canB 2 3 = true from by decide)
  have HC33 := Lib.hid (show canB 3 1 = true from by decide)
  have HC12 := Lib.hid (show canB 1 2 = true from by decide)
  go_enter Try.func11, Try.ntmps11
  go_wp2_with fail
  refine (ANew_in 1 (by decide) (by decide) _).mono ?_
  rintro e w1 ⟨a, b, g, rfl, hA, ha, hb, hg, hB⟩
  rw [show List.replicate (1 : Int).toNat (0 : Int) = [0] from rfl] at hA
  have HO := Lib.hid (own2_ge hb hg)
  clear ha hb hg
  go_wp2_with fail
  refine (O_alloc hA (by decide) 2 10 (by decide) (by decide) (by decide) (by decide)).mono ?_
  rintro e w2 ⟨rfl, hA2, hF2⟩
  have hB2 := hF2.below hB HO.out
  clear hA hB hF2
  go_wp2_with fail
  obtain ⟨r, hr⟩ : ∃ r, r = w2.heap.size := ⟨_, rfl⟩
  obtain ⟨la, lb, lg⟩ := hA2.lts
  have hA3 := (hA2.al (.cells (Array.replicate m (Value.int .u64 0)) 29)).al (.cells (Array.replicate m (Value.bool false)) 4)
  have hB3 := below_al (below_al hB2 (.cells (Array.replicate m (Value.int .u64 0)) 29)) (.cells (Array.replicate m (Value.bool false)) 4)
  have hR3 : RowI .u64 29 ((w2.alloc (.cells (Array.replicate m (Value.int .u64 0)) 29)).alloc (.cells (Array.replicate m (Value.bool false)) 4)) r (List.replicate m 0) := by
    refine RowI.al ?_ _
    unfold RowI
    rw [alloc_at hr]
    simp
  have hS3 : RowB 4 ((w2.alloc (.cells (Array.replicate m (Value.int .u64 0)) 29)).alloc (.cells (Array.replicate m (Value.bool false)) 4)) (r + 1) (List.replicate m false) := by
    unfold RowB
    rw [alloc_at (by rw [hr]; simp)]
    simp
  have hwr : w.heap.size ≤ r := by rw [hr]; exact hB2.size
  have n1 : a ≠ r := by omega
  have n2 : b ≠ r := by omega
  have n3 : g ≠ r := by omega
  have n4 : a ≠ r + 1 := by omega
  have n5 : b ≠ r + 1 := by omega
  have n6 : g ≠ r + 1 := by omega
  have n7 : r ≠ r + 1 := by omega
  have NR := Lib.hid (show ¬ own2 b g r from fun h => h.elim (fun h => n2 h.symm) (fun h => n3 h.symm))
  have NS := Lib.hid (show ¬ own2 b g (r + 1) from fun h => h.elim (fun h => n5 h.symm) (fun h => n6 h.symm))
  clear hA2 hB2
  rw [← hr]
  clear hr la lb lg
  go_loopg [11, 12, 13, 14, 15, 16, 17, 18, 19] 80 (fun gg v11 v12 _ _ _ _ _ _ _ wr => ∃ (k : Nat) (o x : Int) (rs : List Int) (hs : List Bool), gg = 80 - k ∧ k ≤ 80 ∧ k ≤ len1 ∧ v12 = .int .i64 k ∧ v11 = .int .i64 o ∧ ((o = -1 ∧ x % 8 = 2) ∨ (0 ≤ o ∧ o < m ∧ x % 8 = 3)) ∧ rs.length = m ∧ hs.length = m ∧ (∀ j, 0 ≤ rs.getD j 0 ∧ rs.getD j 0 ≤ top) ∧ ArAt wr a b g [x] (10 + 10 * k) ∧ RowI .u64 29 wr r rs ∧ RowB 4 wr (r + 1) hs ∧ Below w.heap.size w wr)
  case atStart => exact ⟨0, -1, 10, List.replicate m 0, List.replicate m false, by omega, by omega, by omega, rfl, rfl, .inl ⟨rfl, by decide⟩, by simp, by simp, zeros_wf m, hA3.le (by omega), hR3, hS3, hB3⟩
  case round =>
    clear hA3 hR3 hS3 hB3
    obtain ⟨k, o, x, rs, hs, rfl, hk, hkl, rfl, rfl, ho, hrs, hhs, hwf, hA, hR, hS, hB⟩ := hrel
    by_cases hlt : k < 80 ∧ k < len1
    · obtain ⟨h80, hlen⟩ := hlt
      rcases HW.out with h0 | ⟨c, off, rfl, hl, hlm, hcw, hc, hwz⟩
      · omega
      have hcell0 := hc k (by omega)
      have hcell := cell_keeps hB hcw hcell0
      generalize z1.getD k 0 = y at hcell hcell0
      obtain ⟨u, hu, u0, u255⟩ : ∃ p, bits .and .i64 y 255 = p ∧ 0 ≤ p ∧ p ≤ 255 := ⟨_, rfl, by rw [and_i64_255]; omega, by rw [and_i64_255]; omega⟩
      obtain ⟨t, ht, tm⟩ : ∃ t : Nat, u % (m : Int) = t ∧ t < m := ⟨(u % (m : Int)).toNat, by rw [Int.toNat_of_nonneg (Int.emod_nonneg _ (by omega))], by have := Int.emod_lt_of_pos u (show (0 : Int) < m from by omega); omega⟩
      have ht2 : u.tmod (m : Int) = t := by rw [Int.tmod_eq_emod_of_nonneg u0]; exact ht
      have hm0 : ((m : Int) == 0) = false := by simp; omega
      have HRS := Lib.hid hrs
      have HHS := Lib.hid hhs
      have HWF := Lib.hid hwf
      have HOO := Lib.hid ho
      clear hc hwz hrs hhs hwf ho hcell0
      go_upto_block 2 with fail
      go_cut [11] (fun v11 wx => ∃ (o' x' : Int) (rs' : List Int) (hs' : List Bool), v11 = .int .i64 o' ∧ ((o' = -1 ∧ x' % 8 = 2) ∨ (0 ≤ o' ∧ o' < m ∧ x' % 8 = 3)) ∧ rs'.length = m ∧ hs'.length = m ∧ (∀ j, 0 ≤ rs'.getD j 0 ∧ rs'.getD j 0 ≤ top) ∧ ArAt wx a b g [x'] (10 + 10 * k + 9) ∧ RowI .u64 29 wx r rs' ∧ RowB 4 wx (r + 1) hs' ∧ Below w.heap.size w wx)
      case first =>
        clear hcell hu ht ht2
        by_cases hot : o = t
        · have g1 : (o == (t : Int)) = true := by simpa using hot
          have hx3 : x % 8 = 3 := by rcases HOO.out with h | h <;> omega
          have HX := Lib.hid hx3
          have M1 := Lib.hid (next_mod x 1 (by decide) (by decide))
          have M2 := Lib.hid (next_mod (nextI x 1) 2 (by decide) (by decide))
          clear hx3 hot
          generalize hy1 : nextI x 1 = y1 at *
          generalize hy2 : nextI y1 2 = y2 at *
          have HY1 := Lib.hid hy1
          have HY2 := Lib.hid hy2
          clear hy1 hy2
          go_wp2_with fail
          refine (O_word hA (by omega)).mono ?_
          rintro e w3 ⟨rfl, hA3, hF3⟩
          have hB3 := hF3.below hB HO.out
          have hR3 := hR.fr hF3 NR.out
          have hS3 := hS.fr hF3 NS.out
          clear hA hB hR hS hF3
          go_wp2_with fail
          refine (O_ok hA3 (by omega) 1 y1 (by decide) (by decide) HY1.out (by rw [HX.out]; exact HC33.out)).mono ?_
          rintro e w4 ⟨rfl, hA4, hF4⟩
          have hB4 := hF4.below hB3 HO.out
          have hR4 := hR3.fr hF4 NR.out
          have hS4 := hS3.fr hF4 NS.out
          clear hA3 hB3 hR3 hS3 hF4
          go_wp2_with fail
          refine (O_ok hA4 (by omega) 2 y2 (by decide) (by decide) HY2.out (by rw [M1.out]; exact HC12.out)).mono ?_
          rintro e w5 ⟨rfl, hA5, hF5⟩
          have hB5 := hF5.below hB4 HO.out
          have hR5 := hR4.fr hF5 NR.out
          have hS5 := hS4.fr hF5 NS.out
          clear hA4 hB4 hR4 hS4 hF5
          go_wp2_with fail
          go_meet
          exact ⟨-1, y2, rs, hs, rfl, .inl ⟨rfl, M2.out⟩, HRS.out, HHS.out, HWF.out, hA5.le (by omega), hR5, hS5, hB5⟩
        · have g1 : (o == (t : Int)) = false := by simpa using hot
          have ci := hR.cell t (by have := HRS.out; omega)
          have cb := hS.cell t (by have := HHS.out; omega)
          have fi := hR.free t
          have fb := hS.free t
          have HRL := Lib.hid (show t < rs.length from by have := HRS.out; omega)
          clear hot
          obtain ⟨y, hy⟩ : ∃ y, rs.getD t 0 = y := ⟨_, rfl⟩
          have hyb := HWF.out t
          rw [hy] at ci hyb
          have HY := Lib.hid hy
          clear hy
          cases hbt : hs.getD t false
          · rw [hbt] at cb
            clear hbt
            go_wp2_with fail
            refine (O_word hA (by omega)).mono ?_
            rintro e w3 ⟨rfl, hA3, hF3⟩
            have hxb := hA3.wf 0
            rw [show [x].getD 0 0 = x from rfl] at hxb
            have HXB := Lib.hid hxb
            have hB3 := hF3.below hB HO.out
            have hR3 := hR.fr hF3 NR.out
            have hS3 := hS.fr hF3 NS.out
            have ci3 := hR3.cell t HRL.out
            rw [HY.out] at ci3
            have cb3 := hS3.cell t (by have := HHS.out; omega)
            have fi3 := hR3.free t
            have fb3 := hS3.free t
            generalize hs.getD t false = c3 at cb3
            clear hA hB hR hS hF3 ci cb fi fb hxb
            go_wp2_with fail
            go_meet
            exact ⟨o, x, rs.set t x, hs.set t true, rfl, HOO.out, by rw [List.length_set]; exact HRS.out, by rw [List.length_set]; exact HHS.out, wf_set HWF.out _ _ HXB.out.1 HXB.out.2, ((hA3.put n1 n2 n3 _).put n4 n5 n6 _).le (by omega), (hR3.set t x).other n7 _, (hS3.other (Ne.symm n7) _).set t true, (hB3.setCell (by show w.heap.size ≤ r; omega) _).setCell (by show w.heap.size ≤ r + 1; omega) _⟩
          · rw [hbt] at cb
            clear hbt
            have hR3 := hR.other (b := r + 1) (j := t) n7 (.bool false)
            have hS3 := hS.set t false
            have hA3 := hA.put (c := r + 1) (j := t) n4 n5 n6 (.bool false)
            have hB3 := hB.setCell (p := (⟨r + 1, t, none⟩ : Addr)) (by show w.heap.size ≤ r + 1; omega) (.bool false)
            have HHS2 := Lib.hid (show (hs.set t false).length = m from by rw [List.length_set]; exact HHS.out)
            clear hR hS hA hB
            have hymod : 0 ≤ y % 8 ∧ y % 8 ≤ 7 := by omega
            cases hcan : canB (y % 8) 3
            · go_wp2_with fail
              refine (O_bad hA3 y 3 hyb.1 hyb.2 (by decide) (by decide) hcan).mono ?_
              rintro e w4 ⟨rfl, hA4, hF4⟩
              have hB4 := hF4.below hB3 HO.out
              have hR4 := hR3.fr hF4 NR.out
              have hS4 := hS3.fr hF4 NS.out
              clear hA3 hB3 hR3 hS3 hF4 ci cb fi fb
              go_wp2_with fail
              go_meet
              exact ⟨o, x, rs, hs.set t false, rfl, HOO.out, HRS.out, HHS2.out, HWF.out, hA4.le (by omega), hR4, hS4, hB4⟩
            · by_cases hxy : x = y
              · subst hxy
                have M3 := Lib.hid (next_mod x 3 (by decide) (by decide))
                generalize hy3 : nextI x 3 = y3 at *
                have HY3 := Lib.hid hy3
                have hon : o = -1 := by
                  rcases HOO.out with h | h
                  · exact h.1
                  · rw [h.2.2] at hcan
                    exact absurd hcan (by decide)
                subst hon
                clear hy3
                go_wp2_with fail
                refine (O_ok hA3 (by omega) 3 y3 (by decide) (by decide) HY3.out hcan).mono ?_
                rintro e w4 ⟨rfl, hA4, hF4⟩
                have hB4 := hF4.below hB3 HO.out
                have hR4 := hR3.fr hF4 NR.out
                have hS4 := hS3.fr hF4 NS.out
                clear hA3 hB3 hR3 hS3 hF4 ci cb fi fb
                go_wp2_with fail
                go_meet
                exact ⟨t, y3, rs, hs.set t false, rfl, .inr ⟨by omega, by omega, M3.out⟩, HRS.out, HHS2.out, HWF.out, hA4.le (by omega), hR4, hS4, hB4⟩
              · go_wp2_with fail
                refine (O_late hA3 (by omega) y 3 hyb.1 hyb.2 (by decide) (by decide) hxy hcan).mono ?_
                rintro e w4 ⟨rfl, hA4, hF4⟩
                have hB4 := hF4.below hB3 HO.out
                have hR4 := hR3.fr hF4 NR.out
                have hS4 := hS3.fr hF4 NS.out
                clear hA3 hB3 hR3 hS3 hF4 ci cb fi fb
                go_wp2_with fail
                go_meet
                exact ⟨o, x, rs, hs.set t false, rfl, HOO.out, HRS.out, HHS2.out, HWF.out, hA4.le (by omega), hR4, hS4, hB4⟩
      case rest =>
      clear hA hR hS hB hcell hu ht ht2
      obtain ⟨o', x', rs', hs', rfl, ho', hrs', hhs', hwf', hA, hR, hS, hB⟩ := hcut
      have HRS' := Lib.hid hrs'
      have HHS' := Lib.hid hhs'
      have HWF' := Lib.hid hwf'
      have HOO' := Lib.hid ho'
      have hoc : (∃ _ : x' % 8 = 2, decide (o' ≥ 0) = false ∧ decide (0 ≤ o') = false) ∨ (∃ _ : x' % 8 = 3, decide (o' ≥ 0) = true ∧ decide (0 ≤ o') = true) := by
        rcases ho' with h | h
        · exact .inl ⟨h.2, by simp; omega, by simp; omega⟩
        · exact .inr ⟨h.2.2, by simp; omega, by simp; omega⟩
      clear hrs' hhs' hwf' ho'
      rcases hoc with ⟨hx2, g3, g4⟩ | ⟨hx2, g3, g4⟩
      all_goals
        have HX2 := Lib.hid hx2
        clear hx2
        go_wp2_with fail
        refine (O_state hA (by omega)).mono ?_
        rintro e w3 ⟨rfl, hA3, hF3⟩
        have hB3 := hF3.below hB HO.out
        have hR3 := hR.fr hF3 NR.out
        have hS3 := hS.fr hF3 NS.out
        rw [HX2.out]
        clear hA hB hR hS hF3
        go_wp2_with fail
        go_roundg (80 - (k + 1))
        case measure => omega
        case rel => exact ⟨k + 1, o', x', rs', hs', rfl, by omega, by omega, by go_num, rfl, HOO'.out, HRS'.out, HHS'.out, HWF'.out, hA3.le (by omega), hR3, hS3, hB3⟩
    · clear hA hR hS hwf
      by_cases h80 : k < 80
      · have hlen : ¬ k < len1 := fun h => hlt ⟨h80, h⟩
        go_wp2_with fail
        refine (awake4 _).mono ?_
        rintro e w2 ⟨rfl, hb⟩
        go_wp2_with fail
        go_ret
        exact ⟨rfl, below_step hb hB⟩
      · by_cases hlen : k < len1
        all_goals
          go_wp2_with fail
          refine (awake4 _).mono ?_
          rintro e w2 ⟨rfl, hb⟩
          go_wp2_with fail
          go_ret
          exact ⟨rfl, below_step hb hB⟩

set_option maxRecDepth 100000 in
theorem lifted (os : Os) (started : os.Started) (H : Type) (enc : TypeId × Value → H) :
    ReturnsInHanded {} Try.checked os 11 .any (Rows.arenaClaimsSpec.pre6 enc Try.prog Try.f11 Rows.arenaClaimsRow.domain false) (Rows.arenaClaimsSpec.post enc Try.prog Try.f11 false true false false) := by
  refine returnsInHanded_of_change (C := Try.checked) own started (by kernel_rfl) Try.func11
    (ChangeSpec.witness6 (enc := enc) (C := Try.checked) false ⟨#[], #[.int .i64 0, .slice none 0 0], []⟩ 8 (by kernel_rfl) (by kernel_rfl) (by kernel_rfl) (by kernel_rfl)) ?_
  intro W base args ds gs before hval0 hW hcnd _
  have hval : ∀ (j : Nat) t v, Try.f11.params[j]? = some t → args[j]? = some v → Value.okWide Try.prog W .any base t v := hval0
  have hW' := hW
  obtain ⟨p, q, hA0, hV, rfl, hfz, hnd⟩ := hW
  have hA : DataW.TrodAll enc Try.prog W 0 (fun _ => true) true Try.f11.params.toList args.toList ds p := hA0
  rw [Try.params11] at hA hval
  obtain ⟨v0, vs0, d0, ds0, p0, q0, hargs, rfl, rfl, h0, r0⟩ := trodAll_cons hA
  obtain ⟨v1, vs1, d1, ds1, p1, q1, rfl, rfl, rfl, h1, r1⟩ := trodAll_cons r0
  obtain ⟨rfl, rfl, rfl⟩ := trodAll_nil r1
  obtain rfl : args = #[v0, v1] := by cases args; simp_all
  obtain ⟨rfl, rfl⟩ := trodVars_none hV
  obtain ⟨a0, rfl, rfl, rfl, w0⟩ := open_int Try.underlying3 (hval 0 3 v0 rfl rfl) h0
  obtain ⟨a1, len1, cap1, rfl⟩ := okWide_slice Try.underlying22 (hval 1 22 v1 rfl rfl)
  have k1 := h1
  have lt1 : ∀ x ∈ p1, x.block < W.heap.size := by obtain ⟨m, hm⟩ := k1; exact DataW.trod_lt m _ _ _ hm
  obtain ⟨z1, w1⟩ : ∃ zs, IsRow .i64 W a1 len1 cap1 zs := by
    obtain ⟨fuel, hf⟩ := h1
    rcases open_ints Try.underlying22 Try.underlying3 (by kernel_rfl) hf with ⟨hcs, _⟩ | ⟨x, l, c, zs, hcs, _, hl, hm, hz, _, hcell, hwz⟩
    · simp [Value.cells] at hcs
      obtain ⟨rfl, rfl, rfl⟩ := hcs
      exact ⟨[], .inl ⟨rfl, rfl, rfl, rfl⟩⟩
    · simp [Value.cells] at hcs
      obtain ⟨rfl, rfl, rfl⟩ := hcs
      exact ⟨zs, .inr ⟨_, rfl, hl, hm, by simpa using hz, hcell, hwz⟩⟩
  clear hA0 hval0
  refine (walk a0 a1 len1 cap1 z1 W w0 w1).mono fun e W' ⟨he, bel⟩ => ?_
  subst he
  exact ⟨_, rfl, _, _, _, [], _, [], hW', trodAll_mk1 (shut_bool Try.underlying4 _), (trodAll_cons_mk (shut_int Try.underlying3 w0) (trodAll_cons_mk (Below.trod laidOut (by kernel_rfl) (of_decide_eq_true (by kernel_rfl)) k1 bel lt1) trodAll_mk0)), rfl, bel.frame _, fun h => by cases h⟩

theorem over : Rows.arenaClaimsRow.holds Try.pinned (OpenSpec.ofChange Rows.arenaClaimsSpec) :=
  OpenClaim.holds_of_wide 11 Try.f11 rfl rfl rfl rfl rfl rfl rfl ⟨rfl, rfl, rfl, rfl, rfl⟩ rfl rfl rfl rfl rfl (by kernel_rfl) Try.func11 (by kernel_rfl)
    (of_decide_eq_true (by kernel_rfl)) (by unfold Func.isWrapper; first | (rw [if_pos (by decide +kernel)]; kernel_rfl) | (rw [if_neg (by decide +kernel)]; exact ⟨rfl, rfl⟩))
    (fun os started H enc _ => lifted os started H enc)

theorem proved : Rows.ArenaClaimsSaid := over
#print axioms proved
end Go.Proofs.Ytpcbcnheogjofaa.arenaClaims
