/- Law CreditMost proved: for any number and any row of ups and downs the call returns true, under no condition.
   The frame below the walk was written by the kit's proof-skeleton.mjs. -/
import Derived.Test.YtpcbcnheogjofaaRows
import Derived.WalkKit
import Derived.ProofKit
import Derived.OpenShut
import Derived.ShutString
import Derived.ChangeOld
import Derived.Below
import Derived.Test.YtpcbcnheogjofaaCredit
namespace Go.Proofs.Ytpcbcnheogjofaa.creditMost
open Go.ChangeShapes Go.WideShapes Go.ChangeAt Go.RowKit
open Go.ChangeMaps (open_string shut_string)
set_option linter.unusedVariables false

theorem own : ownKnob Try.prog.godebug = none := by kernel_rfl
theorem laidOut : laidOutB Try.prog = true := by kernel_rfl

def IsRow (k : IntKind) (w : World) (a : Option Addr) (len cap : Nat) (zs : List Int) : Prop :=
  (a = none ∧ len = 0 ∧ cap = 0 ∧ zs = []) ∨
  ∃ x, a = some x ∧ len ≤ cap ∧ cap ≤ maxLen ∧ zs.length = cap ∧ (∀ i, i < zs.length → w.cell? (x.add i) = some (.int k (zs.getD i 0))) ∧ ∀ n ∈ zs, (Lit.int k n).wf = true

def outOf (W : World) (g : Nat) : Int := intOf ((W.cell? ⟨g, 0, none⟩).getD (.bool false))
theorem _root_.Go.Proofs.Ytpcbcnheogjofaa.CrAt.outOf {W : World} {c b g : Nat} {n o m K : Int} (h : CrAt W c b g n o m K) : outOf W g = o := by
  obtain ⟨st, wi, at_, kd, hs, hM⟩ := h.mem
  have := hM.word_at 0 (by simp)
  simp only [List.getD_cons_zero] at this
  simp [creditMost.outOf, this, intOf]

theorem walk (a0 : Int) (a1 : Option Addr) (len1 cap1 : Nat) (z1 : List Int) (w : World) (w0 : (Lit.int .i64 a0).wf = true) (w1 : IsRow .i64 w a1 len1 cap1 z1) :
    Calls Try.prog 7 #[.int .i64 a0, .slice a1 len1 cap1] w fun e w' => e = .returned (.bool true) ∧ Below w.heap.size w w' := by
  have HO := Lib.hid (own2_ge' w.heap.size)
  obtain ⟨v, hv, v0, v63⟩ : ∃ p, bits .and .i64 a0 63 = p ∧ 0 ≤ p ∧ p ≤ 63 := ⟨_, rfl, by rw [and_i64_63]; omega, by rw [and_i64_63]; omega⟩
  obtain ⟨n, hn, n1, n64⟩ : ∃ n : Int, v + 1 = n ∧ 1 ≤ n ∧ n ≤ 64 := ⟨v + 1, rfl, by omega, by omega⟩
  clear w0
  rcases row_cases w1 with rfl | ⟨b, off, rfl, hl, hlm, hbw, hc, hwz⟩
  · clear w1
    go_enter Try.func7, Try.ntmps7
    go_wp2_with fail
    refine (CNew_in n n1 n64 _).mono ?_
    rintro e w1 ⟨rfl, hC, hB⟩
    generalize w1.heap.size - 1 = c at hC
    go_wp2_with fail
    refine wp_loop_rounds 1 ?_
    rw [rounds_succ]
    go_wp2_with fail
    go_loopw [] (fun wr => ∃ o mo K : Int, K ≤ 100000 + 10 * o ∧ o ≤ mo ∧ CrAt wr c (w.heap.size + 1) w.heap.size n o mo K ∧ Below w.heap.size w wr) (fun wr => (n - outOf wr w.heap.size).toNat)
    case atStart => exact ⟨_, _, _, by have := hC.o0; omega, by omega, hC, hB⟩
    case round =>
      obtain ⟨o, mo, K, hK, hom, hC, hB⟩ := hrel
      have O1 := hC.on
      have O0 := hC.o0
      have OM := hC.mn
      by_cases hfull : o = n
      · subst hfull
        have hmo : mo = o := by omega
        subst hmo
        have dz : decide ((mo - mo : Int) > 0) = false := by simp
        go_wp2_with fail
        refine (Free_in hC (by omega)).mono ?_
        rintro e w2 ⟨rfl, hC2, hF2⟩
        have hB2 := hF2.below hB HO.out
        clear hC hB hF2
        go_wp2_with fail
        refine (Take_miss hC2 (by omega)).mono ?_
        rintro e w3 ⟨rfl, hC3, hF3⟩
        have hB3 := hF3.below hB2 HO.out
        clear hC2 hB2 hF3
        go_wp2_with fail
        refine (Most_in hC3 (by omega)).mono ?_
        rintro e w4 ⟨rfl, hC4, hF4⟩
        have hB4 := hF4.below hB3 HO.out
        clear hC3 hB3 hF4
        go_wp2_with fail
        refine (Out_in hC4 (by omega)).mono ?_
        rintro e w5 ⟨rfl, hC5, hF5⟩
        have hB5 := hF5.below hB4 HO.out
        clear hC4 hB4 hF5
        go_wp2_with fail
        refine (awake15 _).mono ?_
        rintro e w6 ⟨rfl, hb⟩
        go_wp2_with fail
        go_ret
        exact ⟨rfl, below_step hb hB5⟩
      · have hlt : o < n := by omega
        have dz : decide ((n - o : Int) > 0) = true := by simp; omega
        obtain ⟨m', hm'⟩ : ∃ m' : Int, (mo < o + 1 ∧ m' = o + 1) ∨ (o + 1 ≤ mo ∧ m' = mo) := by
          rcases Int.lt_or_le mo (o + 1) with h | h
          · exact ⟨_, Or.inl ⟨h, rfl⟩⟩
          · exact ⟨_, Or.inr ⟨h, rfl⟩⟩
        have HM := Lib.hid hm'
        clear hm'
        go_wp2_with fail
        refine (Free_in hC (by omega)).mono ?_
        rintro e w2 ⟨rfl, hC2, hF2⟩
        have hB2 := hF2.below hB HO.out
        have HZ := Lib.hid (hC.outOf)
        clear hC hB hF2
        go_wp2_with fail
        refine (Take_hit hC2 (by omega) hlt HM.out).mono ?_
        rintro e w3 ⟨rfl, hC3, hF3⟩
        have hB3 := hF3.below hB2 HO.out
        clear hC2 hB2 hF3
        go_wp2_with fail
        go_roundw
        case rel => exact ⟨_, _, _, by omega, by have := HM.out; omega, hC3, hB3⟩
        case measure => rw [hC3.outOf, HZ.out]; omega

  · clear w1
    go_enter Try.func7, Try.ntmps7
    go_wp2_with fail
    refine (CNew_in n n1 n64 _).mono ?_
    rintro e w1 ⟨rfl, hC0, hB0⟩
    generalize w1.heap.size - 1 = c at hC0
    go_wp2_with fail
    go_loopw [7, 8, 9] (fun v7 v8 _ wr => ∃ (k : Nat) (o0 mo K : Int), k ≤ 60 ∧ k ≤ len1 ∧ v8 = .int .i64 k ∧ v7 = .int .i64 mo ∧ K ≤ 1000 * k ∧ o0 ≤ mo ∧ CrAt wr c (w.heap.size + 1) w.heap.size n o0 mo K ∧ Below w.heap.size w wr) (fun _ v8 _ _ => 60 - (intOf v8).toNat)
    case atStart => exact ⟨0, 0, 0, 0, by omega, by omega, rfl, rfl, by decide, by decide, hC0, hB0⟩
    case round =>
      obtain ⟨k, o0, mo, K, hk, hkl, rfl, rfl, hK, hom, hC, hB⟩ := hrel
      by_cases hlt : k < len1 ∧ k < 60
      · obtain ⟨hlen, h60⟩ := hlt
        have hcell := cell_keeps hB hbw (hc k (by omega))
        generalize z1.getD k 0 = x at hcell
        obtain ⟨u, hu, u0, u255⟩ : ∃ p, bits .and .i64 x 255 = p ∧ 0 ≤ p ∧ p ≤ 255 := ⟨_, rfl, by rw [and_i64_255]; omega, by rw [and_i64_255]; omega⟩
        obtain ⟨t, ht, tm⟩ : ∃ t : Nat, u % (n + 1) = t ∧ t ≤ n := ⟨(u % (n + 1)).toNat, by rw [Int.toNat_of_nonneg (Int.emod_nonneg _ (by omega))], by have := Int.emod_lt_of_pos u (show (0 : Int) < n + 1 from by omega); have := Int.emod_nonneg u (show (n + 1 : Int) ≠ 0 from by omega); omega⟩
        have HO0 := Lib.hid hom
        clear hom
        have d60 : decide ((k : Int) < 60) = true := by simp; omega
        have dlen : decide ((k : Int) < len1) = true := by simp; omega
        go_wp2_with fail
        rw [ht]
        clear ht
        go_loopw [] (fun wr => ∃ o m K : Int, K ≤ 1000 * k + 10 * o ∧ ((o = o0 ∧ m = mo) ∨ (o ≤ t ∧ o0 ≤ o ∧ mo ≤ m ∧ o ≤ m ∧ (m = mo ∨ m = o))) ∧ CrAt wr c (w.heap.size + 1) w.heap.size n o m K ∧ Below w.heap.size w wr) (fun wr => ((t : Int) - outOf wr w.heap.size).toNat)
        case atStart => exact ⟨_, _, _, by have := hC.o0; omega, Or.inl ⟨rfl, rfl⟩, hC, hB⟩
        case round =>
          obtain ⟨o, m, K, hK, hom, hC, hB⟩ := hrel
          have O1 := hC.on
          have O0 := hC.o0
          have HOM := Lib.hid hom
          clear hom
          by_cases hlt : o < t
          · obtain ⟨m', hm'⟩ : ∃ m' : Int, (m < o + 1 ∧ m' = o + 1) ∨ (o + 1 ≤ m ∧ m' = m) := by
              rcases Int.lt_or_le m (o + 1) with h | h
              · exact ⟨_, Or.inl ⟨h, rfl⟩⟩
              · exact ⟨_, Or.inr ⟨h, rfl⟩⟩
            have HM := Lib.hid hm'
            clear hm'
            go_wp2_with fail
            refine (Out_in hC (by omega)).mono ?_
            rintro e w2 ⟨rfl, hC2, hF2⟩
            have hB2 := hF2.below hB HO.out
            have HZ := Lib.hid (hC.outOf)
            clear hC hB hF2
            go_wp2_with fail
            refine (Take_hit hC2 (by omega) (by omega) HM.out).mono ?_
            rintro e w3 ⟨rfl, hC3, hF3⟩
            have hB3 := hF3.below hB2 HO.out
            clear hC2 hB2 hF3
            go_wp2_with fail
            go_roundw
            case rel => exact ⟨_, _, _, by omega, by have := HM.out; have := HOM.out; omega, hC3, hB3⟩
            case measure => rw [hC3.outOf, HZ.out]; omega
          · have HGE := Lib.hid (show (t : Int) ≤ o from by omega)
            have dlt : decide (o < (t : Int)) = false := by simp; omega
            go_wp2_with fail
            refine (Out_in hC (by omega)).mono ?_
            rintro e w2 ⟨rfl, hC2, hF2⟩
            have hB2 := hF2.below hB HO.out
            clear hC hB hF2 hlt O1 O0
            go_wp2_with fail
            go_loopw [] (fun wr => ∃ o' K : Int, K ≤ 1000 * k + 980 - 5 * o' ∧ (t : Int) ≤ o' ∧ CrAt wr c (w.heap.size + 1) w.heap.size n o' m K ∧ Below w.heap.size w wr) (fun wr => (outOf wr w.heap.size).toNat)
            case atStart => exact ⟨_, _, by have := hC2.o0; have := hC2.on; omega, HGE.out, hC2, hB2⟩
            case round =>
              obtain ⟨o', K, hK, hge, hC, hB⟩ := hrel
              have O1 := hC.on
              have O0 := hC.o0
              by_cases hgt : (t : Int) < o'
              · have dz : decide (o' > (t : Int)) = true := by simpa using hgt
                go_wp2_with fail
                refine (Out_in hC (by omega)).mono ?_
                rintro e w2 ⟨rfl, hC2, hF2⟩
                have hB2 := hF2.below hB HO.out
                have HZ := Lib.hid (hC.outOf)
                clear hC hB hF2
                go_wp2_with fail
                refine (Give_hit hC2 (by omega) (by omega)).mono ?_
                rintro e w3 ⟨rfl, hC3, hF3⟩
                have hB3 := hF3.below hB2 HO.out
                clear hC2 hB2 hF3
                go_wp2_with fail
                go_roundw
                case rel => exact ⟨_, _, by omega, by omega, hC3, hB3⟩
                case measure => rw [hC3.outOf, HZ.out]; omega
              · have hot : o' = t := by omega
                subst hot
                have dz : decide ((t : Int) > (t : Int)) = false := by simp
                have HMM := Lib.hid (show (mo < (t : Int) ∧ m = t) ∨ ((t : Int) ≤ mo ∧ m = mo) from by have := HOM.out; have := HGE.out; have := HO0.out; omega)
                go_wp2_with fail
                refine (Out_in hC (by omega)).mono ?_
                rintro e w2 ⟨rfl, hC2, hF2⟩
                have hB2 := hF2.below hB HO.out
                clear hC hB hF2
                rcases HMM.out with ⟨hmx, hmm⟩ | ⟨hmx, hmm⟩
                · subst hmm
                  go_wp2_with fail
                  refine (Most_in hC2 (by omega)).mono ?_
                  rintro e w3 ⟨rfl, hC3, hF3⟩
                  have hB3 := hF3.below hB2 HO.out
                  clear hC2 hB2 hF3
                  go_wp2_with fail
                  refine (Free_in hC3 (by omega)).mono ?_
                  rintro e w4 ⟨rfl, hC4, hF4⟩
                  have hB4 := hF4.below hB3 HO.out
                  clear hC3 hB3 hF4
                  go_wp2_with fail
                  go_roundw
                  case rel => exact ⟨k + 1, _, _, _, by omega, by omega, by go_num, rfl, by omega, by omega, hC4, hB4⟩
                  case measure => simp [intOf]; omega

                · subst hmm
                  go_wp2_with fail
                  refine (Most_in hC2 (by omega)).mono ?_
                  rintro e w3 ⟨rfl, hC3, hF3⟩
                  have hB3 := hF3.below hB2 HO.out
                  clear hC2 hB2 hF3
                  go_wp2_with fail
                  refine (Free_in hC3 (by omega)).mono ?_
                  rintro e w4 ⟨rfl, hC4, hF4⟩
                  have hB4 := hF4.below hB3 HO.out
                  clear hC3 hB3 hF4
                  go_wp2_with fail
                  go_roundw
                  case rel => exact ⟨k + 1, _, _, _, by omega, by omega, by go_num, rfl, by omega, by omega, hC4, hB4⟩
                  case measure => simp [intOf]; omega


      · by_cases hlen : k < len1
        · have h60 : ¬ k < 60 := fun h => hlt ⟨hlen, h⟩
          go_wp2_with fail
          go_loopw [] (fun wr => ∃ o mo K : Int, K ≤ 100000 + 10 * o ∧ o ≤ mo ∧ CrAt wr c (w.heap.size + 1) w.heap.size n o mo K ∧ Below w.heap.size w wr) (fun wr => (n - outOf wr w.heap.size).toNat)
          case atStart => exact ⟨_, _, _, by have := hC.o0; omega, by omega, hC, hB⟩
          case round =>
            obtain ⟨o, mo, K, hK, hom, hC, hB⟩ := hrel
            have O1 := hC.on
            have O0 := hC.o0
            have OM := hC.mn
            by_cases hfull : o = n
            · subst hfull
              have hmo : mo = o := by omega
              subst hmo
              have dz : decide ((mo - mo : Int) > 0) = false := by simp
              go_wp2_with fail
              refine (Free_in hC (by omega)).mono ?_
              rintro e w2 ⟨rfl, hC2, hF2⟩
              have hB2 := hF2.below hB HO.out
              clear hC hB hF2
              go_wp2_with fail
              refine (Take_miss hC2 (by omega)).mono ?_
              rintro e w3 ⟨rfl, hC3, hF3⟩
              have hB3 := hF3.below hB2 HO.out
              clear hC2 hB2 hF3
              go_wp2_with fail
              refine (Most_in hC3 (by omega)).mono ?_
              rintro e w4 ⟨rfl, hC4, hF4⟩
              have hB4 := hF4.below hB3 HO.out
              clear hC3 hB3 hF4
              go_wp2_with fail
              refine (Out_in hC4 (by omega)).mono ?_
              rintro e w5 ⟨rfl, hC5, hF5⟩
              have hB5 := hF5.below hB4 HO.out
              clear hC4 hB4 hF5
              go_wp2_with fail
              refine (awake15 _).mono ?_
              rintro e w6 ⟨rfl, hb⟩
              go_wp2_with fail
              go_ret
              exact ⟨rfl, below_step hb hB5⟩
            · have hlt : o < n := by omega
              have dz : decide ((n - o : Int) > 0) = true := by simp; omega
              obtain ⟨m', hm'⟩ : ∃ m' : Int, (mo < o + 1 ∧ m' = o + 1) ∨ (o + 1 ≤ mo ∧ m' = mo) := by
                rcases Int.lt_or_le mo (o + 1) with h | h
                · exact ⟨_, Or.inl ⟨h, rfl⟩⟩
                · exact ⟨_, Or.inr ⟨h, rfl⟩⟩
              have HM := Lib.hid hm'
              clear hm'
              go_wp2_with fail
              refine (Free_in hC (by omega)).mono ?_
              rintro e w2 ⟨rfl, hC2, hF2⟩
              have hB2 := hF2.below hB HO.out
              have HZ := Lib.hid (hC.outOf)
              clear hC hB hF2
              go_wp2_with fail
              refine (Take_hit hC2 (by omega) hlt HM.out).mono ?_
              rintro e w3 ⟨rfl, hC3, hF3⟩
              have hB3 := hF3.below hB2 HO.out
              clear hC2 hB2 hF3
              go_wp2_with fail
              go_roundw
              case rel => exact ⟨_, _, _, by omega, by have := HM.out; omega, hC3, hB3⟩
              case measure => rw [hC3.outOf, HZ.out]; omega

        · skip
          go_wp2_with fail
          go_loopw [] (fun wr => ∃ o mo K : Int, K ≤ 100000 + 10 * o ∧ o ≤ mo ∧ CrAt wr c (w.heap.size + 1) w.heap.size n o mo K ∧ Below w.heap.size w wr) (fun wr => (n - outOf wr w.heap.size).toNat)
          case atStart => exact ⟨_, _, _, by have := hC.o0; omega, by omega, hC, hB⟩
          case round =>
            obtain ⟨o, mo, K, hK, hom, hC, hB⟩ := hrel
            have O1 := hC.on
            have O0 := hC.o0
            have OM := hC.mn
            by_cases hfull : o = n
            · subst hfull
              have hmo : mo = o := by omega
              subst hmo
              have dz : decide ((mo - mo : Int) > 0) = false := by simp
              go_wp2_with fail
              refine (Free_in hC (by omega)).mono ?_
              rintro e w2 ⟨rfl, hC2, hF2⟩
              have hB2 := hF2.below hB HO.out
              clear hC hB hF2
              go_wp2_with fail
              refine (Take_miss hC2 (by omega)).mono ?_
              rintro e w3 ⟨rfl, hC3, hF3⟩
              have hB3 := hF3.below hB2 HO.out
              clear hC2 hB2 hF3
              go_wp2_with fail
              refine (Most_in hC3 (by omega)).mono ?_
              rintro e w4 ⟨rfl, hC4, hF4⟩
              have hB4 := hF4.below hB3 HO.out
              clear hC3 hB3 hF4
              go_wp2_with fail
              refine (Out_in hC4 (by omega)).mono ?_
              rintro e w5 ⟨rfl, hC5, hF5⟩
              have hB5 := hF5.below hB4 HO.out
              clear hC4 hB4 hF5
              go_wp2_with fail
              refine (awake15 _).mono ?_
              rintro e w6 ⟨rfl, hb⟩
              go_wp2_with fail
              go_ret
              exact ⟨rfl, below_step hb hB5⟩
            · have hlt : o < n := by omega
              have dz : decide ((n - o : Int) > 0) = true := by simp; omega
              obtain ⟨m', hm'⟩ : ∃ m' : Int, (mo < o + 1 ∧ m' = o + 1) ∨ (o + 1 ≤ mo ∧ m' = mo) := by
                rcases Int.lt_or_le mo (o + 1) with h | h
                · exact ⟨_, Or.inl ⟨h, rfl⟩⟩
                · exact ⟨_, Or.inr ⟨h, rfl⟩⟩
              have HM := Lib.hid hm'
              clear hm'
              go_wp2_with fail
              refine (Free_in hC (by omega)).mono ?_
              rintro e w2 ⟨rfl, hC2, hF2⟩
              have hB2 := hF2.below hB HO.out
              have HZ := Lib.hid (hC.outOf)
              clear hC hB hF2
              go_wp2_with fail
              refine (Take_hit hC2 (by omega) hlt HM.out).mono ?_
              rintro e w3 ⟨rfl, hC3, hF3⟩
              have hB3 := hF3.below hB2 HO.out
              clear hC2 hB2 hF3
              go_wp2_with fail
              go_roundw
              case rel => exact ⟨_, _, _, by omega, by have := HM.out; omega, hC3, hB3⟩
              case measure => rw [hC3.outOf, HZ.out]; omega

set_option maxRecDepth 100000 in
theorem lifted (os : Os) (started : os.Started) (H : Type) (enc : TypeId × Value → H) :
    ReturnsInHanded {} Try.checked os 7 .any (Rows.creditMostSpec.pre6 enc Try.prog Try.f7 Rows.creditMostRow.domain false) (Rows.creditMostSpec.post enc Try.prog Try.f7 false true false false) := by
  refine returnsInHanded_of_change (C := Try.checked) own started (by kernel_rfl) Try.func7
    (ChangeSpec.witness6 (enc := enc) (C := Try.checked) false ⟨#[], #[.int .i64 0, .slice none 0 0], []⟩ 8 (by kernel_rfl) (by kernel_rfl) (by kernel_rfl) (by kernel_rfl)) ?_
  intro W base args ds gs before hval0 hW hcnd _
  have hval : ∀ (j : Nat) t v, Try.f7.params[j]? = some t → args[j]? = some v → Value.okWide Try.prog W .any base t v := hval0
  have hW' := hW
  obtain ⟨p, q, hA0, hV, rfl, hfz, hnd⟩ := hW
  have hA : DataW.TrodAll enc Try.prog W 0 (fun _ => true) true Try.f7.params.toList args.toList ds p := hA0
  rw [Try.params7] at hA hval
  obtain ⟨v0, vs0, d0, ds0, p0, q0, hargs, rfl, rfl, h0, r0⟩ := trodAll_cons hA
  obtain ⟨v1, vs1, d1, ds1, p1, q1, rfl, rfl, rfl, h1, r1⟩ := trodAll_cons r0
  obtain ⟨rfl, rfl, rfl⟩ := trodAll_nil r1
  obtain rfl : args = #[v0, v1] := by cases args; simp_all
  obtain ⟨rfl, rfl⟩ := trodVars_none hV
  obtain ⟨a0, rfl, rfl, rfl, w0⟩ := open_int Try.underlying3 (hval 0 3 v0 rfl rfl) h0
  obtain ⟨a1, len1, cap1, rfl⟩ := okWide_slice Try.underlying22 (hval 1 22 v1 rfl rfl)
  have k1 := h1
  have lt1 : ∀ x ∈ p1, x.block < W.heap.size := by obtain ⟨m, hm⟩ := k1; exact DataW.trod_lt m _ _ _ hm
  obtain ⟨z1, w1⟩ : ∃ zs, IsRow .i64 W a1 len1 cap1 zs := by
    obtain ⟨fuel, hf⟩ := h1
    rcases open_ints Try.underlying22 Try.underlying3 (by kernel_rfl) hf with ⟨hcs, _⟩ | ⟨x, l, c, zs, hcs, _, hl, hm, hz, _, hcell, hwz⟩
    · simp [Value.cells] at hcs
      obtain ⟨rfl, rfl, rfl⟩ := hcs
      exact ⟨[], .inl ⟨rfl, rfl, rfl, rfl⟩⟩
    · simp [Value.cells] at hcs
      obtain ⟨rfl, rfl, rfl⟩ := hcs
      exact ⟨zs, .inr ⟨_, rfl, hl, hm, by simpa using hz, hcell, hwz⟩⟩
  clear hA0 hval0
  refine (walk a0 a1 len1 cap1 z1 W w0 w1).mono fun e W' ⟨he, bel⟩ => ?_
  subst he
  exact ⟨_, rfl, _, _, _, [], _, [], hW', trodAll_mk1 (shut_bool Try.underlying4 _), (trodAll_cons_mk (shut_int Try.underlying3 w0) (trodAll_cons_mk (Below.trod laidOut (by kernel_rfl) (of_decide_eq_true (by kernel_rfl)) k1 bel lt1) trodAll_mk0)), rfl, bel.frame _, fun h => by cases h⟩

theorem over : Rows.creditMostRow.holds Try.pinned (OpenSpec.ofChange Rows.creditMostSpec) :=
  OpenClaim.holds_of_wide 7 Try.f7 rfl rfl rfl rfl rfl rfl rfl ⟨rfl, rfl, rfl, rfl, rfl⟩ rfl rfl rfl rfl rfl (by kernel_rfl) Try.func7 (by kernel_rfl)
    (of_decide_eq_true (by kernel_rfl)) (by unfold Func.isWrapper; first | (rw [if_pos (by decide +kernel)]; kernel_rfl) | (rw [if_neg (by decide +kernel)]; exact ⟨rfl, rfl⟩))
    (fun os started H enc _ => lifted os started H enc)

theorem proved : Rows.CreditMostSaid := over
#print axioms proved
end Go.Proofs.Ytpcbcnheogjofaa.creditMost
