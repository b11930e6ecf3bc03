/- Law ArenaPlays proved: for any number and any script the call returns true, under no condition.
   The frame below the walk was written by the kit's proof-skeleton.mjs. -/
import Derived.Test.YtpcbcnheogjofaaRows
import Derived.WalkKit
import Derived.ProofKit
import Derived.OpenShut
import Derived.ShutString
import Derived.ChangeOld
import Derived.Below
import Derived.Lib.SmallJoins
import Derived.Test.YtpcbcnheogjofaaArenaBoth
import Derived.Test.YtpcbcnheogjofaaOpen
import Derived.Deep.CutBlock
import Derived.Deep.RegionHeld3
namespace Go.Proofs.Ytpcbcnheogjofaa.arenaPlays
open Go.ChangeShapes Go.WideShapes Go.ChangeAt Go.RowKit
open Go.ChangeMaps (open_string shut_string)
set_option linter.unusedVariables false

theorem own : ownKnob Try.prog.godebug = none := by kernel_rfl
theorem laidOut : laidOutB Try.prog = true := by kernel_rfl

def kd1 : Nat → IntKind := fun j => match j with | 0 => .i64 | 1 => .i64 | 2 => .i64 | 3 => .u64 | _ => .i64

structure PInv (w X : World) (q d : Nat) (us : List Int) (c0 c1 c2 c3 : Int) : Prop where
  row : RowI .u64 29 X q us
  op : X.heap[d]? = some (.cells #[.int .i64 c0, .int .i64 c1, .int .i64 c2, .int .u64 c3] 82 (0, 0))
  bel : Below w.heap.size w X
theorem pfr {S : Nat → Prop} {w X X' : World} {q d : Nat} {us : List Int} {c0 c1 c2 c3 : Int} (h : PInv w X q d us c0 c1 c2 c3) (f : Fr S X X') (hq : ¬ S q) (hd : ¬ S d) (hs : ∀ k, S k → w.heap.size ≤ k) : PInv w X' q d us c0 c1 c2 c3 :=
  ⟨h.row.fr f hq, (f.block d (Array.getElem?_eq_some_iff.1 h.op).1 hd).trans h.op, f.below h.bel hs⟩
theorem pdr {w X : World} {q d : Nat} {us : List Int} {c0 c1 c2 c3 : Int} (h : PInv w X q d us c0 c1 c2 c3) : PInv w X.drew q d us c0 c1 c2 c3 := ⟨h.row, h.op, below_dr h.bel⟩
theorem pcells {w X : World} {q d : Nat} {us : List Int} {c0 c1 c2 c3 : Int} (h : PInv w X q d us c0 c1 c2 c3) : X.cell? ⟨d, 0, none⟩ = some (.int .i64 c0) ∧ X.cell? ⟨d, 1, none⟩ = some (.int .i64 c1) ∧ X.cell? ⟨d, 2, none⟩ = some (.int .i64 c2) ∧ X.cell? ⟨d, 3, none⟩ = some (.int .u64 c3) := by
  refine ⟨?_, ?_, ?_, ?_⟩ <;> simp [World.cell?, h.op]
set_option maxRecDepth 100000 in
set_option maxHeartbeats 40000000 in

theorem walk (a0 : Int) (a1 : Option Addr) (len1 cap1 : Nat) (w : World) (w0 : (Lit.int .i64 a0).wf = true) (w1 : IsOps 4 kd1 w a1 len1) :
    Calls Try.prog 14 #[.int .i64 a0, .slice a1 len1 cap1] w fun e w' => e = .returned (.bool true) ∧ Below w.heap.size w w' := by
  obtain ⟨y0, y1⟩ := i64_of_wf w0
  have HW := Lib.hid w1
  clear w0 w1
  obtain ⟨M, hM⟩ : ∃ M : Int, ((a0 < 1 ∨ 1000 < a0) ∧ M = a0) ∨ (1 ≤ a0 ∧ a0 ≤ 12 ∧ M = a0) ∨ (12 < a0 ∧ a0 ≤ 1000 ∧ M = a0 % 12 + 1) := by
    rcases (show (a0 < 1 ∨ 1000 < a0) ∨ (1 ≤ a0 ∧ a0 ≤ 12) ∨ (12 < a0 ∧ a0 ≤ 1000) from by omega) with h | h | h
    · exact ⟨_, .inl ⟨h, rfl⟩⟩
    · exact ⟨_, .inr (.inl ⟨h.1, h.2, rfl⟩)⟩
    · exact ⟨_, .inr (.inr ⟨h.1, h.2, rfl⟩)⟩
  go_enter Try.func14, Try.ntmps14
  obtain ⟨Q, hQ⟩ : ∃ Q : Bool, (Q = false ∧ (a0 ≤ 12 ∨ 1000 < a0) ∧ M = a0) ∨ (Q = true ∧ 12 < a0 ∧ a0 ≤ 1000 ∧ M = a0 % 12 + 1) := by
    rcases hM with ⟨h, rfl⟩ | ⟨h1, h2, rfl⟩ | ⟨h1, h2, rfl⟩
    · exact ⟨false, .inl ⟨rfl, by omega, rfl⟩⟩
    · exact ⟨false, .inl ⟨rfl, by omega, rfl⟩⟩
    · exact ⟨true, .inr ⟨rfl, h1, h2, rfl⟩⟩
  have HM := Lib.hid hM
  clear hM
  go_upto_region 1 with fail
  go_cut [28] (fun v28 wx => v28 = .bool Q ∧ w = wx)
  case first =>
    rcases hQ with ⟨rfl, h | h, rfl⟩ | ⟨rfl, h1, h2, rfl⟩
    · have g1 : decide (M > 12) = false := by simp; omega
      have g2 : decide (12 < M) = false := by simp; omega
      go_wp2_with fail
      go_meet
      exact ⟨rfl, rfl⟩
    · have g1 : decide (M > 12) = true := by simp; omega
      have g2 : decide (12 < M) = true := by simp; omega
      have g3 : decide (M ≤ 1000) = false := by simp; omega
      go_wp2_with fail
      go_meet
      exact ⟨rfl, rfl⟩
    · have g1 : decide (a0 > 12) = true := by simp; omega
      have g2 : decide (12 < a0) = true := by simp; omega
      have g3 : decide (a0 ≤ 1000) = true := by simp; omega
      go_wp2_with fail
      go_meet
      exact ⟨rfl, rfl⟩
  case rest =>
  obtain ⟨rfl, rfl⟩ := hcut
  go_upto_if 28 with fail
  go_cut [0] (fun v0 wx => v0 = .int .i64 M ∧ w = wx)
  case first =>
    rcases hQ with ⟨rfl, h, rfl⟩ | ⟨rfl, h1, h2, rfl⟩
    · go_wp2_with fail
      go_meet
      exact ⟨rfl, rfl⟩
    · have ht : a0.tmod 12 = a0 % 12 := Int.tmod_eq_emod_of_nonneg (by omega)
      have h5 : 0 ≤ a0 % 12 := by omega
      have h6 : a0 % 12 < 12 := by omega
      go_wp2_with fail
      go_meet
      exact ⟨rfl, rfl⟩
  case rest =>
  obtain ⟨rfl, rfl⟩ := hcut
  have hM2 : (M < 1 ∨ 1000 < M) ∨ (1 ≤ M ∧ M ≤ 12) := by have := HM.out; omega
  clear hQ y0 y1
  rcases hM2 with hout | ⟨m1, m12⟩
  · go_wp2_with fail
    refine (ANew_out M hout _).mono ?_
    rintro e w1 ⟨rfl, rfl⟩
    rcases hout with h | h
    · have g1 : decide (M < 1) = true := by simpa using h
      go_wp2_with fail
      refine (awake4 _).mono ?_
      rintro e w2 ⟨rfl, hb⟩
      go_wp2_with fail
      go_ret
      exact ⟨rfl, hb⟩
    · have g1 : decide (M < 1) = false := by simp; omega
      have g2 : decide (M > 1000) = true := by simpa using h
      have g3 : decide (1000 < M) = true := by simpa using h
      go_wp2_with fail
      refine (awake4 _).mono ?_
      rintro e w2 ⟨rfl, hb⟩
      go_wp2_with fail
      go_ret
      exact ⟨rfl, hb⟩
  · obtain ⟨N, rfl⟩ := Int.eq_ofNat_of_zero_le (show 0 ≤ M from by omega)
    have hN1 : 1 ≤ N := by omega
    have hN12 : N ≤ 12 := by omega
    obtain ⟨P, hP⟩ : ∃ P : Nat, (N : Int) + 1 = (P : Int) := ⟨N + 1, by omega⟩
    have hPN : P = N + 1 := by omega
    have hmk1 := make_words N (by omega)
    have hmk2 := make_words P (by omega)
    have g1 : decide ((N : Int) < 1) = false := by simp; omega
    have g2 : decide ((N : Int) > 1000) = false := by simp; omega
    have g3 : decide (1000 < (N : Int)) = false := by simp; omega
    have HPN := Lib.hid hPN
    clear m1 m12 hPN
    go_wp2_with fail
    refine (ANew_in N (by omega) (by omega) _).mono ?_
    rintro e w1 ⟨a, b, g, rfl, hA, ha, hb, hg, hB⟩
    rw [Int.toNat_natCast] at hA
    have HO := Lib.hid (own2_ge hb hg)
    clear ha hb hg
    have HAL := Lib.hid hA
    clear hA
    go_wp2_with fail
    refine (ALen_any HAL.out).mono ?_
    rintro e w2 ⟨rfl, rfl⟩
    rw [List.length_replicate]
    go_wp2_with fail
    obtain ⟨r, hr⟩ : ∃ r, r = w1.heap.size := ⟨_, rfl⟩
    obtain ⟨la, lb, lg⟩ := HAL.out.lts
    obtain ⟨W3, hW3⟩ : ∃ W3, ((w1.alloc (.cells (Array.replicate N (Value.int .u64 0)) 29)).alloc (.cells #[.slice (some ⟨r, 0, none⟩) N N] 80)).alloc (.cells (Array.replicate P (Value.int .u64 0)) 29) = W3 := ⟨_, rfl⟩
    have hA3 : ArAt W3 a b g (List.replicate N 0) 0 := by rw [← hW3]; exact ((HAL.out.al _).al _).al _
    have hB3 : Below w.heap.size w W3 := by rw [← hW3]; exact below_al (below_al (below_al hB _) _) _
    have hR3 : RaAt W3 (r + 1) r (List.replicate N 0) := by
      rw [← hW3]
      refine RaAt.al ⟨?_, ?_, by omega, by simp; omega, zeros_wf N⟩ _
      · rw [alloc_at (by rw [hr]; simp)]
        simp
      · refine RowI.al ?_ _
        unfold RowI
        rw [alloc_at hr]
        simp
    have hQ3 : RowI .u64 29 W3 (r + 2) (List.replicate P 0) := by
      rw [← hW3]
      unfold RowI
      rw [alloc_at (by rw [hr]; simp)]
      simp
    have hsz : W3.heap.size = r + 3 := by rw [← hW3, hr]; simp
    have hwr : w.heap.size ≤ r := by rw [hr]; exact hB.size
    try rw [← hr]
    rw [hW3]
    clear hW3 hB
    have NA1 := Lib.hid (show ¬ own1 r a from fun h => by unfold own1 at h; omega)
    have NA2 := Lib.hid (show ¬ own1 r b from fun h => by unfold own1 at h; omega)
    have NA3 := Lib.hid (show ¬ own1 r g from fun h => by unfold own1 at h; omega)
    have NR1 := Lib.hid (show ¬ own2 b g (r + 1) from fun h => by unfold own2 at h; omega)
    have NR2 := Lib.hid (show ¬ own2 b g r from fun h => by unfold own2 at h; omega)
    have NQ1 := Lib.hid (show ¬ own2 b g (r + 2) from fun h => by unfold own2 at h; omega)
    have NQ2 := Lib.hid (show ¬ own1 r (r + 2) from fun h => by unfold own1 at h; omega)
    have HO1 := Lib.hid (show ∀ k, own1 r k → w.heap.size ≤ k from fun k h => by unfold own1 at h; omega)
    have ND := Lib.hid (show ∀ d, r + 3 ≤ d → (¬ own2 b g d ∧ ¬ own1 r d) from fun d hd => ⟨fun h => by unfold own2 at h; omega, fun h => by unfold own1 at h; omega⟩)
    have LAB := Lib.hid (show a ≠ r + 2 ∧ b ≠ r + 2 ∧ g ≠ r + 2 from by omega)
    clear hr la lb lg
    go_loopg [9, 10, 11, 12, 13, 14, 15, 16, 17, 18, 19, 20, 21, 22] 60 (fun gg v9 _ _ _ _ _ _ _ _ _ _ _ _ _ wr => ∃ (k : Nat) (ws us : List Int), gg = 60 - k ∧ k ≤ 60 ∧ k ≤ len1 ∧ v9 = .int .i64 k ∧ ws.length = N ∧ no7 ws ∧ us.length = P ∧ (∀ j, 0 ≤ us.getD j 0 ∧ us.getD j 0 ≤ top) ∧ ArAt wr a b g ws (500 * k) ∧ RaAt wr (r + 1) r ws ∧ RowI .u64 29 wr (r + 2) us ∧ r + 3 ≤ wr.heap.size ∧ Below w.heap.size w wr)
    case atStart => exact ⟨0, List.replicate N 0, List.replicate P 0, by omega, by omega, by omega, rfl, by simp, (by intro j; have := zeros_wf N j; rw [List.getD_eq_getElem?_getD, List.getElem?_replicate]; split <;> decide), by simp, zeros_wf P, hA3.le (by omega), hR3, hQ3, by omega, hB3⟩
    case round =>
      clear hA3 hR3 hQ3 hB3 hsz
      obtain ⟨k, ws, us, rfl, hk, hkl, rfl, hwl, h7, hul, huw, hA, hR, hQ, hsz, hB⟩ := hrel
      by_cases hlt : k < 60 ∧ k < len1
      · obtain ⟨h60, hlen⟩ := hlt
        rcases HW.out with h0 | ⟨c, off, F, rfl, hlm, hcw, hc⟩
        · omega
        have x0 := hc k 0 hlen (by decide)
        have x1 := hc k 1 hlen (by decide)
        have x2 := hc k 2 hlen (by decide)
        have x3 := hc k 3 hlen (by decide)
        obtain ⟨C0, hC0⟩ : ∃ z, F k 0 = z := ⟨_, rfl⟩
        obtain ⟨C1, hC1⟩ : ∃ z, F k 1 = z := ⟨_, rfl⟩
        obtain ⟨C2, hC2⟩ : ∃ z, F k 2 = z := ⟨_, rfl⟩
        obtain ⟨C3, hC3⟩ : ∃ z, F k 3 = z := ⟨_, rfl⟩
        rw [hC0] at x0
        rw [hC1] at x1
        rw [hC2] at x2
        rw [hC3] at x3
        have c0 := cell_keeps hB hcw x0.1
        have c1 := cell_keeps hB hcw x1.1
        have c2 := cell_keeps hB hcw x2.1
        have c3 := cell_keeps hB hcw x3.1
        have wf2 := x2.2
        have bd3 := u64_of_wf x3.2
        have HX1 := Lib.hid x1.2
        have HX2 := Lib.hid wf2
        have HX3 := Lib.hid bd3
        simp only [kd1, Nat.add_zero, ← Nat.add_assoc] at c0 c1 c2 c3
        have HL := Lib.hid hwl
        have HUL := Lib.hid hul
        have HUW := Lib.hid huw
        have HN7 := Lib.hid h7
        clear hc x0 x1 x2 x3 wf2 bd3 hC0 hC1 hC2 hC3 F hwl hul huw h7
        go_upto_region 14 with fail
        obtain ⟨d, hd⟩ : ∃ d, d = wr.heap.size := ⟨_, rfl⟩
        obtain ⟨W4, hW4⟩ : ∃ W4, wr.alloc (.cells #[.int .i64 C0, .int .i64 C1, .int .i64 C2, .int .u64 C3] 82) = W4 := ⟨_, rfl⟩
        have hA4 : ArAt W4 a b g ws (500 * k) := by rw [← hW4]; exact hA.al _
        have hR4 : RaAt W4 (r + 1) r ws := by rw [← hW4]; exact hR.al _
        have hP4 : PInv w W4 (r + 2) d us C0 C1 C2 C3 := by rw [← hW4]; exact ⟨hQ.al _, alloc_at hd, below_al hB _⟩
        have hsz4 : r + 3 ≤ W4.heap.size := by rw [← hW4]; simp; omega
        have hdr : r + 3 ≤ d := by omega
        rw [hW4]
        try rw [← hd]
        clear hW4 hd hA hR hQ hB hsz c0 c1 c2 c3
        have ND1 := Lib.hid (ND.out d hdr).1
        have ND2 := Lib.hid (ND.out d hdr).2
        obtain ⟨e0, e1, e2, e3⟩ := pcells hP4
        go_upto_block 2 with fail
        go_cut [] (fun wx => ∃ (ws' us' : List Int), ws'.length = N ∧ no7 ws' ∧ us'.length = P ∧ (∀ j, 0 ≤ us'.getD j 0 ∧ us'.getD j 0 ≤ top) ∧ ArAt wx a b g ws' (500 * k + 50) ∧ RaAt wx (r + 1) r ws' ∧ RowI .u64 29 wx (r + 2) us' ∧ r + 3 ≤ wx.heap.size ∧ Below w.heap.size w wx)
        case first =>
          by_cases hk0 : C0 = 0
          · have g5 : (C0 == 0) = true := by simpa using hk0
            obtain ⟨ws', X, E, hl', h7', hPP, hRR⟩ := alloc_both ws C2 HX2.out HN7.out
            have HPP := Lib.hid hPP
            have HRR := Lib.hid hRR
            have HL2 := Lib.hid hl'
            have H7' := Lib.hid h7'
            clear hPP hRR hl' h7' hk0
            as_aux_lemma =>
              go_wp2_with fail
              refine (HPP.out _ _ _ _ _ hA4 (by omega)).mono ?_
              rintro e w5 ⟨rfl, hA5, hF5⟩
              have hR5 := hR4.fr hF5 NR1.out NR2.out
              have hP5 := pfr hP4 hF5 NQ1.out ND1.out HO.out
              have hs5 := Nat.le_trans hsz4 hF5.size
              clear hA4 hR4 hP4 hsz4 hF5 e0 e1 e2 e3
              obtain ⟨e0, e1, e2, e3⟩ := pcells hP5
              go_wp2_with fail
              refine (HRR.out _ _ _ hR5).mono ?_
              rintro e w6 ⟨rfl, hR6, hF6⟩
              have hA6 := hA5.fr hF6 NA1.out NA2.out NA3.out
              have hP6 := pfr hP5 hF6 NQ2.out ND2.out HO1.out
              have hs6 := Nat.le_trans hs5 hF6.size
              clear hA5 hR5 hP5 hs5 hF6 e0 e1 e2 e3
              go_wp2_with fail
              go_meet
              exact ⟨ws', us, HL2.out.trans HL.out, H7'.out, HUL.out, HUW.out, hA6.le (by have := HL.out; omega), hR6, hP6.row, hs6, hP6.bel⟩
          · by_cases hk3 : C0 = 3
            · have g5 : (C0 == 0) = false := by simpa using hk0
              have g6 : (C0 == 3) = true := by simpa using hk3
              obtain ⟨ws', E, hl', h7', hPP, hRR⟩ := free_both ws C1 HN7.out
              have HPP := Lib.hid hPP
              have HRR := Lib.hid hRR
              have HL2 := Lib.hid hl'
              have H7' := Lib.hid h7'
              have hAd := hA4.dr
              have hRd := hR4.dr
              have hPd := pdr hP4
              have e1d := (pcells hPd).2.1
              have hszd : r + 3 ≤ W4.drew.heap.size := hsz4
              clear hPP hRR hl' h7' hk0 hk3 hA4 hR4 hP4
              as_aux_lemma =>
                go_wp2_with fail
                go_region_held3 (fun X => X.cell? ⟨d, 1, none⟩ = some (.int .i64 C1)) ((first | assumption | exact cellFr hF5 ND1.out (by assumption) | exact cellFr hF6 ND2.out (by assumption))) (first | (go_at_call 55; refine (HPP.out _ _ _ _ _ (by assumption) (by omega)).mono ?_; rintro e w5 ⟨rfl, hA5, hF5⟩; have hR5 := RaAt.fr (by assumption) hF5 NR1.out NR2.out; have hP5 := pfr (by assumption) hF5 NQ1.out ND1.out HO.out; have hs5 := Nat.le_trans (by assumption) hF5.size) | (go_at_call 59; refine (HRR.out _ _ _ (by assumption)).mono ?_; rintro e w6 ⟨rfl, hR6, hF6⟩; have hA6 := ArAt.fr (by assumption) hF6 NA1.out NA2.out NA3.out; have hP6 := pfr (by assumption) hF6 NQ2.out ND2.out HO1.out; have hs6 := Nat.le_trans (by assumption) hF6.size))
                all_goals
                  go_wp2_with fail
                  go_meet
                  exact ⟨ws', us, HL2.out.trans HL.out, H7'.out, HUL.out, HUW.out, ArAt.le (by assumption) (by omega), by assumption, PInv.row (by assumption), by assumption, PInv.bel (by assumption)⟩
            · have g5 : (C0 == 0) = false := by simpa using hk0
              have g6 : (C0 == 3) = false := by simpa using hk3
              clear hk0 hk3
              as_aux_lemma =>
                go_upto_if 91 with fail
                go_cut [15] (fun v15 wx => ∃ old, v15 = .int .u64 old ∧ 0 ≤ old ∧ old ≤ top ∧ W4 = wx)
                case first =>
                  by_cases hk1 : C0 = 1
                  · have g7 : (C0 == 1) = true := by simpa using hk1
                    have hb := wordF_bd hR4.wf C1
                    obtain ⟨z, hz⟩ : ∃ z, wordF ws C1 = z := ⟨_, rfl⟩
                    rw [hz] at hb
                    have HZ := Lib.hid hz
                    clear hz hk1
                    go_wp2_with fail
                    refine (RWord_any hR4 C1).mono ?_
                    rintro e w5 ⟨rfl, rfl⟩
                    rw [HZ.out]
                    go_wp2_with fail
                    go_meet
                    exact ⟨z, rfl, hb.1, hb.2, rfl⟩
                  · have g7 : (C0 == 1) = false := by simpa using hk1
                    clear hk1
                    go_wp2_with fail
                    go_meet
                    exact ⟨C3, rfl, HX3.out.1, HX3.out.2, rfl⟩
                case rest =>
                obtain ⟨old1, rfl, o10, o11, rfl⟩ := hcut
                go_upto_region 18 with fail
                go_cut [109] (fun v109 wx => ∃ Q : Bool, v109 = .bool Q ∧ (Q = true → ∃ K : Nat, C1 = K ∧ K ≤ N) ∧ W4 = wx)
                case first =>
                  by_cases hk2 : C0 = 2
                  · have g7 : (C0 == 2) = true := by simpa using hk2
                    clear hk2
                    by_cases hc1 : 1 ≤ C1
                    · have g8 : decide (C1 ≥ 1) = true := by simpa using hc1
                      have g9 : decide (1 ≤ C1) = true := by simpa using hc1
                      by_cases hcN : C1 ≤ N
                      · have g10 : decide (C1 ≤ N) = true := by simpa using hcN
                        have HQ := Lib.hid (show ∃ K : Nat, C1 = K ∧ K ≤ N from ⟨C1.toNat, by omega, by omega⟩)
                        clear hc1 hcN
                        go_wp2_with fail
                        go_meet
                        exact ⟨true, rfl, fun _ => HQ.out, rfl⟩
                      · have g10 : decide (C1 ≤ N) = false := by simpa using hcN
                        clear hc1 hcN
                        go_wp2_with fail
                        go_meet
                        exact ⟨false, rfl, (fun h => by cases h), rfl⟩
                    · have g8 : decide (C1 ≥ 1) = false := by simpa using hc1
                      have g9 : decide (1 ≤ C1) = false := by simpa using hc1
                      clear hc1
                      go_wp2_with fail
                      go_meet
                      exact ⟨false, rfl, (fun h => by cases h), rfl⟩
                  · have g7 : (C0 == 2) = false := by simpa using hk2
                    clear hk2
                    go_wp2_with fail
                    go_meet
                    exact ⟨false, rfl, (fun h => by cases h), rfl⟩
                case rest =>
                obtain ⟨Q, rfl, hQ, rfl⟩ := hcut
                go_upto_if 109 with fail
                go_cut [15] (fun v15 wx => ∃ old, v15 = .int .u64 old ∧ 0 ≤ old ∧ old ≤ top ∧ W4 = wx)
                case first =>
                  cases Q
                  · go_wp2_with fail
                    go_meet
                    exact ⟨old1, rfl, o10, o11, rfl⟩
                  · obtain ⟨K, rfl, hKN⟩ := hQ rfl
                    have cK := hP4.row.cell K (by have := HUL.out; have := HPN.out; omega)
                    have hb := HUW.out K
                    obtain ⟨z, hz⟩ : ∃ z, us.getD K 0 = z := ⟨_, rfl⟩
                    rw [hz] at hb cK
                    have hKP : K < P := by have := HPN.out; omega
                    clear hz
                    go_wp2_with fail
                    go_meet
                    exact ⟨z, rfl, hb.1, hb.2, rfl⟩
                case rest =>
                obtain ⟨old, rfl, o0, o1, rfl⟩ := hcut
                obtain ⟨ws', X, E, hl', h7', hidx, hPP, hRR⟩ := turn_both ws C1 old C2 o0 o1 HN7.out
                have hbb := wordF_bd hR4.wf C1
                by_cases hE : E = 0
                · obtain ⟨K, rfl, hKN⟩ := hidx hE
                  subst hE
                  obtain ⟨z, hz⟩ : ∃ z, wordF ws ((K : Int) + 1) = z := ⟨_, rfl⟩
                  rw [hz] at hbb
                  have HZ := Lib.hid hz
                  have HPP := Lib.hid hPP
                  have HRR := Lib.hid hRR
                  have HL2 := Lib.hid hl'
                  have H7' := Lib.hid h7'
                  have hKP : K + 1 < P := by have := HPN.out; have := HL.out; omega
                  clear hPP hRR hl' h7' hidx hz hQ
                  as_aux_lemma =>
                    go_wp2_with fail
                    refine (RWord_any hR4 _).mono ?_
                    rintro e w5 ⟨rfl, rfl⟩
                    rw [HZ.out]
                    go_wp2_with fail
                    refine (HPP.out _ _ _ _ _ hA4 (by omega)).mono ?_
                    rintro e w5 ⟨rfl, hA5, hF5⟩
                    have hR5 := hR4.fr hF5 NR1.out NR2.out
                    have hP5 := pfr hP4 hF5 NQ1.out ND1.out HO.out
                    have hs5 := Nat.le_trans hsz4 hF5.size
                    clear hA4 hR4 hP4 hsz4 hF5 e0 e1 e2 e3
                    obtain ⟨e0, e1, e2, e3⟩ := pcells hP5
                    go_wp2_with fail
                    refine (HRR.out _ _ _ hR5).mono ?_
                    rintro e w6 ⟨rfl, hR6, hF6⟩
                    have hA6 := hA5.fr hF6 NA1.out NA2.out NA3.out
                    have hP6 := pfr hP5 hF6 NQ2.out ND2.out HO1.out
                    have hs6 := Nat.le_trans hs5 hF6.size
                    clear hA5 hR5 hP5 hs5 hF6 e0 e1 e2 e3
                    obtain ⟨e0, e1, e2, e3⟩ := pcells hP6
                    have cK := hP6.row.cell (K + 1) (by have := HUL.out; omega)
                    have fK := hP6.row.free (K + 1)
                    generalize us.getD (K + 1) 0 = y at cK
                    go_wp2_with fail
                    go_meet
                    exact ⟨ws', us.set (K + 1) z, HL2.out.trans HL.out, H7'.out, by rw [List.length_set]; exact HUL.out, wf_set HUW.out _ _ hbb.1 hbb.2, (hA6.put LAB.out.1 LAB.out.2.1 LAB.out.2.2 _).le (by omega), hR6.put (by omega) (by omega) _, hP6.row.set (K + 1) z, by simpa using hs6, hP6.bel.setCell (by show w.heap.size ≤ r + 2; omega) _⟩
                · have gE : (E == 0) = false := by simpa using hE
                  obtain ⟨z, hz⟩ : ∃ z, wordF ws C1 = z := ⟨_, rfl⟩
                  have HZ := Lib.hid hz
                  have HPP := Lib.hid hPP
                  have HRR := Lib.hid hRR
                  have HL2 := Lib.hid hl'
                  have H7' := Lib.hid h7'
                  clear hPP hRR hl' h7' hidx hz hbb hE hQ
                  as_aux_lemma =>
                    go_wp2_with fail
                    refine (RWord_any hR4 _).mono ?_
                    rintro e w5 ⟨rfl, rfl⟩
                    rw [HZ.out]
                    go_wp2_with fail
                    refine (HPP.out _ _ _ _ _ hA4 (by omega)).mono ?_
                    rintro e w5 ⟨rfl, hA5, hF5⟩
                    have hR5 := hR4.fr hF5 NR1.out NR2.out
                    have hP5 := pfr hP4 hF5 NQ1.out ND1.out HO.out
                    have hs5 := Nat.le_trans hsz4 hF5.size
                    clear hA4 hR4 hP4 hsz4 hF5 e0 e1 e2 e3
                    obtain ⟨e0, e1, e2, e3⟩ := pcells hP5
                    go_wp2_with fail
                    refine (HRR.out _ _ _ hR5).mono ?_
                    rintro e w6 ⟨rfl, hR6, hF6⟩
                    have hA6 := hA5.fr hF6 NA1.out NA2.out NA3.out
                    have hP6 := pfr hP5 hF6 NQ2.out ND2.out HO1.out
                    have hs6 := Nat.le_trans hs5 hF6.size
                    clear hA5 hR5 hP5 hs5 hF6 e0 e1 e2 e3
                    go_wp2_with fail
                    go_meet
                    exact ⟨ws', us, HL2.out.trans HL.out, H7'.out, HUL.out, HUW.out, hA6.le (by omega), hR6, hP6.row, hs6, hP6.bel⟩
        case rest =>
        clear hA4 hR4 hP4 hsz4 e0 e1 e2 e3
        obtain ⟨ws', us', hwl, h7, hul, huw, hA, hR, hQ, hsz, hB⟩ := hcut
        have HL' := Lib.hid hwl
        have HUL' := Lib.hid hul
        have HUW' := Lib.hid huw
        have HN7' := Lib.hid h7
        clear hwl hul huw h7
        as_aux_lemma =>
          go_wp2_with fail
          go_loopg [21] (P + 1) (fun g2 v21 wr2 => ∃ i : Nat, g2 = P + 1 - i ∧ i ≤ P + 1 ∧ v21 = .int .i64 i ∧ ArAt wr2 a b g ws' (500 * k + 50 + 2 * i) ∧ RaAt wr2 (r + 1) r ws' ∧ RowI .u64 29 wr2 (r + 2) us' ∧ r + 3 ≤ wr2.heap.size ∧ Below w.heap.size w wr2)
          case atStart => exact ⟨0, rfl, by omega, rfl, hA.le (by omega), hR, hQ, hsz, hB⟩
          case round =>
            clear hA hR hQ hsz hB
            obtain ⟨i, rfl, hi, rfl, hA, hR, hQ, hsz, hB⟩ := hrel
            by_cases hip : i < P + 1
            · have q1 : decide ((i : Int) ≤ P) = true := by simp; omega
              obtain ⟨X, hX⟩ : ∃ X, wordF ws' i = X := ⟨_, rfl⟩
              have HX := Lib.hid hX
              clear hX
              go_wp2_with fail
              refine (AWord_any hA (by omega) i).mono ?_
              rintro e w5 ⟨rfl, hA5, hF5⟩
              rw [HX.out]
              have hR5 := hR.fr hF5 NR1.out NR2.out
              have hQ5 := hQ.fr hF5 NQ1.out
              have hB5 := hF5.below hB HO.out
              have hs5 := Nat.le_trans hsz hF5.size
              clear hA hR hQ hB hF5 hsz
              go_wp2_with fail
              refine (RWord_any hR5 i).mono ?_
              rintro e w6 ⟨rfl, rfl⟩
              rw [HX.out]
              go_wp2_with fail
              refine (AState_any hA5 (by omega) i).mono ?_
              rintro e w6 ⟨rfl, hA6, hF6⟩
              rw [HX.out]
              have hR6 := hR5.fr hF6 NR1.out NR2.out
              have hQ6 := hQ5.fr hF6 NQ1.out
              have hB6 := hF6.below hB5 HO.out
              have hs6 := Nat.le_trans hs5 hF6.size
              clear hA5 hR5 hQ5 hB5 hF6 hs5
              go_wp2_with fail
              refine (RWord_any hR6 i).mono ?_
              rintro e w7 ⟨rfl, rfl⟩
              rw [HX.out]
              go_wp2_with fail
              refine (ref_state_any X _).mono ?_
              rintro e w7 ⟨rfl, rfl⟩
              go_wp2_with fail
              go_roundg (P + 1 - (i + 1))
              case measure => omega
              case rel => exact ⟨i + 1, rfl, by omega, by go_num, hA6.le (by omega), hR6, hQ6, hs6, hB6⟩
            · obtain rfl : i = P + 1 := by omega
              have q1 : decide (((P + 1 : Nat) : Int) ≤ P) = false := by simp; omega
              have hA0 := hA.le (show 500 * (k : Int) + 50 + 2 * ((P + 1 : Nat) : Int) ≤ 500 * k + 100 from by have := HPN.out; omega)
              clear hA
              go_wp2_with fail
              go_loopg [22] 8 (fun g2 v22 wr2 => ∃ i : Nat, g2 = 8 - i ∧ i ≤ 8 ∧ v22 = .int .i64 i ∧ ArAt wr2 a b g ws' (500 * k + 100 + 12 * i) ∧ RaAt wr2 (r + 1) r ws' ∧ RowI .u64 29 wr2 (r + 2) us' ∧ r + 3 ≤ wr2.heap.size ∧ Below w.heap.size w wr2)
              case atStart => exact ⟨0, rfl, by omega, rfl, hA0.le (by omega), hR, hQ, hsz, hB⟩
              case round =>
                clear hA0 hR hQ hsz hB
                obtain ⟨i, rfl, hi, rfl, hA, hR, hQ, hsz, hB⟩ := hrel
                by_cases hip : i < 8
                · have q2 : decide ((i : Int) ≤ 7) = true := by simp; omega
                  obtain ⟨X, hX⟩ : ∃ X, cntS ws' i = X := ⟨_, rfl⟩
                  have HX := Lib.hid hX
                  clear hX
                  go_wp2_with fail
                  refine (ACount_any hA (by omega) HN7'.out i (by omega) (by omega)).mono ?_
                  rintro e w5 ⟨rfl, hA5, hF5⟩
                  rw [HX.out]
                  rw [HL'.out] at hA5
                  have hR5 := hR.fr hF5 NR1.out NR2.out
                  have hQ5 := hQ.fr hF5 NQ1.out
                  have hB5 := hF5.below hB HO.out
                  have hs5 := Nat.le_trans hsz hF5.size
                  clear hA hR hQ hB hF5 hsz
                  go_wp2_with fail
                  refine (RCount_any hR5 i).mono ?_
                  rintro e w6 ⟨rfl, rfl⟩
                  rw [HX.out]
                  go_wp2_with fail
                  go_roundg (8 - (i + 1))
                  case measure => omega
                  case rel => exact ⟨i + 1, rfl, by omega, by go_num, hA5.le (by omega), hR5, hQ5, hs5, hB5⟩
                · obtain rfl : i = 8 := by omega
                  go_wp2_with fail
                  go_roundg (60 - (k + 1))
                  case measure => omega
                  case rel => exact ⟨k + 1, ws', us', rfl, by omega, by omega, by go_num, HL'.out, HN7'.out, HUL'.out, HUW'.out, hA.le (by omega), hR, hQ, hsz, hB⟩
      · clear hA hR hQ huw
        by_cases h60 : k < 60
        · have hlen : ¬ k < len1 := fun h => hlt ⟨h60, h⟩
          go_wp2_with fail
          refine (awake4 _).mono ?_
          rintro e w2 ⟨rfl, hb⟩
          go_wp2_with fail
          go_ret
          exact ⟨rfl, below_step hb hB⟩
        · by_cases hlen : k < len1
          all_goals
            go_wp2_with fail
            refine (awake4 _).mono ?_
            rintro e w2 ⟨rfl, hb⟩
            go_wp2_with fail
            go_ret
            exact ⟨rfl, below_step hb hB⟩

set_option maxRecDepth 100000 in
theorem lifted (os : Os) (started : os.Started) (H : Type) (enc : TypeId × Value → H) :
    ReturnsInHanded {} Try.checked os 14 .any (Rows.arenaPlaysSpec.pre6 enc Try.prog Try.f14 Rows.arenaPlaysRow.domain false) (Rows.arenaPlaysSpec.post enc Try.prog Try.f14 false true false false) := by
  refine returnsInHanded_of_change (C := Try.checked) own started (by kernel_rfl) Try.func14
    (ChangeSpec.witness6 (enc := enc) (C := Try.checked) false ⟨#[], #[.int .i64 0, .slice none 0 0], []⟩ 8 (by kernel_rfl) (by kernel_rfl) (by kernel_rfl) (by kernel_rfl)) ?_
  intro W base args ds gs before hval0 hW hcnd _
  have hval : ∀ (j : Nat) t v, Try.f14.params[j]? = some t → args[j]? = some v → Value.okWide Try.prog W .any base t v := hval0
  have hW' := hW
  obtain ⟨p, q, hA0, hV, rfl, hfz, hnd⟩ := hW
  have hA : DataW.TrodAll enc Try.prog W 0 (fun _ => true) true Try.f14.params.toList args.toList ds p := hA0
  rw [Try.params14] at hA hval
  obtain ⟨v0, vs0, d0, ds0, p0, q0, hargs, rfl, rfl, h0, r0⟩ := trodAll_cons hA
  obtain ⟨v1, vs1, d1, ds1, p1, q1, rfl, rfl, rfl, h1, r1⟩ := trodAll_cons r0
  obtain ⟨rfl, rfl, rfl⟩ := trodAll_nil r1
  obtain rfl : args = #[v0, v1] := by cases args; simp_all
  obtain ⟨rfl, rfl⟩ := trodVars_none hV
  obtain ⟨a0, rfl, rfl, rfl, w0⟩ := open_int Try.underlying3 (hval 0 3 v0 rfl rfl) h0
  obtain ⟨a1, len1, cap1, rfl⟩ := okWide_slice Try.underlying77 (hval 1 77 v1 rfl rfl)
  have k1 := h1
  have lt1 : ∀ x ∈ p1, x.block < W.heap.size := by obtain ⟨m, hm⟩ := k1; exact DataW.trod_lt m _ _ _ hm
  have w1 : IsOps 4 kd1 W a1 len1 := by
    obtain ⟨fuel, hf⟩ := h1
    refine isOps_of kd1 Try.underlying77 Try.underlying82 (by kernel_rfl) (by kernel_rfl) (by decide) ?_ hf
    intro j f hj
    match j, hj with
    | 0, hj => simp at hj; subst hj; exact Try.underlying3
    | 1, hj => simp at hj; subst hj; exact Try.underlying3
    | 2, hj => simp at hj; subst hj; exact Try.underlying3
    | 3, hj => simp at hj; subst hj; exact Try.underlying29
    | n + 4, hj => simp at hj
  clear hA0 hval0
  refine (walk a0 a1 len1 cap1 W w0 w1).mono fun e W' ⟨he, bel⟩ => ?_
  subst he
  exact ⟨_, rfl, _, _, _, [], _, [], hW', trodAll_mk1 (shut_bool Try.underlying4 _), (trodAll_cons_mk (shut_int Try.underlying3 w0) (trodAll_cons_mk (Below.trod laidOut (by kernel_rfl) (of_decide_eq_true (by kernel_rfl)) k1 bel lt1) trodAll_mk0)), rfl, bel.frame _, fun h => by cases h⟩

theorem over : Rows.arenaPlaysRow.holds Try.pinned (OpenSpec.ofChange Rows.arenaPlaysSpec) :=
  OpenClaim.holds_of_wide 14 Try.f14 rfl rfl rfl rfl rfl rfl rfl ⟨rfl, rfl, rfl, rfl, rfl⟩ rfl rfl rfl rfl rfl (by kernel_rfl) Try.func14 (by kernel_rfl)
    (of_decide_eq_true (by kernel_rfl)) (by unfold Func.isWrapper; first | (rw [if_pos (by decide +kernel)]; kernel_rfl) | (rw [if_neg (by decide +kernel)]; exact ⟨rfl, rfl⟩))
    (fun os started H enc _ => lifted os started H enc)

theorem proved : Rows.ArenaPlaysSaid := over
#print axioms proved
end Go.Proofs.Ytpcbcnheogjofaa.arenaPlays
