/- Law TablePlays proved: for any number and any script the call returns true, under no condition.
   The frame below the walk was written by the kit's proof-skeleton.mjs. -/
import Derived.Test.YtpcbcnheogjofaaRows
import Derived.WalkKit
import Derived.ProofKit
import Derived.OpenShut
import Derived.ShutString
import Derived.ChangeOld
import Derived.Below
import Derived.Lib.SmallJoins
import Derived.Test.YtpcbcnheogjofaaSwEnd
import Derived.Deep.CutBlock
import Derived.Deep.RegionHeld3
namespace Go.Proofs.Ytpcbcnheogjofaa.tablePlays
open Go.ChangeShapes Go.WideShapes Go.ChangeAt Go.RowKit
open Go.ChangeMaps (open_string shut_string)
set_option linter.unusedVariables false

theorem own : ownKnob Try.prog.godebug = none := by kernel_rfl
theorem laidOut : laidOutB Try.prog = true := by kernel_rfl

def kdA : Nat → IntKind := fun j => match j with | 0 | 1 | 2 | 3 => .i64 | _ => .u64

set_option maxRecDepth 100000 in
theorem TNew_out (m : Int) (h : m < 1 ∨ 1000 < m) (w : World) : Calls Try.prog 64 #[.int .i64 m] w fun e w' => e = .returned (.tuple #[.pointer none, .int .i64 1]) ∧ w = w' := by
  have HA := Lib.hid (ANew_out m h)
  clear h
  go_enter Try.func64, Try.ntmps64
  go_wp2_with fail
  refine (HA.out _).mono ?_
  rintro e w1 ⟨rfl, rfl⟩
  go_wp2_with fail
  go_ret2
  exact ⟨rfl, rfl⟩
set_option maxRecDepth 100000 in
set_option maxHeartbeats 40000000 in

theorem walk (a0 : Int) (a1 : Option Addr) (len1 cap1 : Nat) (w : World) (w0 : (Lit.int .i64 a0).wf = true) (w1 : IsActs kdA w a1 len1) :
    Calls Try.prog 17 #[.int .i64 a0, .slice a1 len1 cap1] w fun e w' => e = .returned (.bool true) ∧ Below w.heap.size w w' := by
  obtain ⟨y0, y1⟩ := i64_of_wf w0
  have HW := Lib.hid w1
  clear w0 w1
  rcases (show (a0 < 1 ∨ 1000 < a0) ∨ (1 ≤ a0 ∧ a0 ≤ 1000) from by omega) with hout | ⟨m1, m2⟩
  · skip
    as_aux_lemma =>
      go_enter Try.func17, Try.ntmps17
      go_wp2_with fail
      refine (TNew_out a0 hout _).mono ?_
      rintro e w1 ⟨rfl, rfl⟩
      rcases hout with h | h
      · have g1 : decide (a0 < 1) = true := by simpa using h
        go_wp2_with fail
        refine (awake17 _).mono ?_
        rintro e w2 ⟨rfl, hb⟩
        go_wp2_with fail
        go_ret
        exact ⟨rfl, hb⟩
      · have g1 : decide (a0 < 1) = false := by simp; omega
        have g2 : decide (a0 > 1000) = true := by simpa using h
        have g3 : decide (1000 < a0) = true := by simpa using h
        go_wp2_with fail
        refine (awake17 _).mono ?_
        rintro e w2 ⟨rfl, hb⟩
        go_wp2_with fail
        go_ret
        exact ⟨rfl, hb⟩
  · obtain ⟨M, rfl⟩ := Int.eq_ofNat_of_zero_le (show 0 ≤ a0 from by omega)
    have hM1 : 1 ≤ M := by omega
    have hM2 : M ≤ 1000 := by omega
    have g1 : decide ((M : Int) < 1) = false := by simp; omega
    have g2 : decide ((M : Int) > 1000) = false := by simp; omega
    have g3 : decide (1000 < (M : Int)) = false := by simp; omega
    have HNEW := Lib.hid (fun w => TNew_in (M : Int) m1 m2 w)
    clear m1 m2
    go_enter Try.func17, Try.ntmps17
    go_wp2_with fail
    refine (HNEW.out _).mono ?_
    rintro e w1 ⟨t, a, b, g, mb, base, rfl, h1, hbs, ht, ha, hb, hg, hmb, hB⟩
    rw [Int.toNat_natCast] at h1
    have HLO := Lib.hid (show w.heap.size ≤ t ∧ w.heap.size ≤ a ∧ w.heap.size ≤ b ∧ w.heap.size ≤ g ∧ w.heap.size ≤ mb from ⟨ht, ha, hb, hg, hmb⟩)
    have HBASE := Lib.hid (show w.heap.size ≤ base from by have := h1.lt; omega)
    have hP : PI w w1 t a b g mb M base 0 0 (.slice none 0 0) := ⟨0, List.replicate M 0, [], [], fun _ => ⟨0, 0, 0, 0, 0, 0, 0, 0, 0, []⟩, fun _ => .slice none 0 0, fun _ => .slice none 0 0, .slice none 0 0, by omega, by simp, by omega, fun j hj => by omega, (by intro j _; rw [List.getD_eq_getElem?_getD, List.getElem?_replicate]; split <;> rfl), ⟨h1, Blk.nil 13 _, fun k hk => by omega, fun k hk => by omega, fun k hk => by omega⟩, ⟨World.ownsRow_nil _ _ _ _, Blk.nil 14 _, fun k hk => by omega, fun k hk => by omega⟩, ⟨(fun c hc => by cases hc), fun k hk => by omega, fun k hk => by omega⟩, fun _ => ⟨rfl, rfl⟩, hbs, hB⟩
    clear h1 hbs ht ha hb hg hmb hB HNEW
    go_wp2_with fail
    go_loopg [7, 8, 9, 10, 11, 12, 13, 14, 15, 16, 17, 18, 19, 20] 40 (fun gg v7 v8 _ _ _ _ _ _ _ _ _ _ _ _ wr => ∃ (k : Nat) (Lv : Value), gg = 40 - k ∧ k ≤ 40 ∧ k ≤ len1 ∧ v8 = .int .i64 k ∧ Lv = v7 ∧ PI w wr t a b g mb M base (2000 * k) k Lv)
    case atStart => exact ⟨0, _, by omega, by omega, by omega, rfl, rfl, hP⟩
    case round =>
      as_aux_lemma =>
        clear hP
        obtain ⟨k, Lv, rfl, hk, hkl, rfl, rfl, hP⟩ := hrel
        by_cases hlt : k < 40 ∧ k < len1
        · obtain ⟨h40, hlen⟩ := hlt
          rcases HW.out with h0 | ⟨c, off, F, V, O, rfl, hlm, hcw, hc⟩
          · omega
          obtain ⟨hnum, hbody, hOV⟩ := hc k hlen
          have hbel : Below w.heap.size w wr := by obtain ⟨_, _, _, _, _, _, _, _, _, _, _, _, _, _, _, _, _, _, h⟩ := hP; exact h
          have x0 := hnum 0 (by decide)
          obtain ⟨KD, hKD⟩ : ∃ z, F k 0 = z := ⟨_, rfl⟩
          rw [hKD] at x0
          have x1 := hnum 1 (by decide)
          obtain ⟨ID, hID⟩ : ∃ z, F k 1 = z := ⟨_, rfl⟩
          rw [hID] at x1
          have x2 := hnum 2 (by decide)
          obtain ⟨PR, hPR⟩ : ∃ z, F k 2 = z := ⟨_, rfl⟩
          rw [hPR] at x2
          have x3 := hnum 3 (by decide)
          obtain ⟨ST, hST⟩ : ∃ z, F k 3 = z := ⟨_, rfl⟩
          rw [hST] at x3
          have x4 := hnum 4 (by decide)
          obtain ⟨NN, hNN⟩ : ∃ z, F k 4 = z := ⟨_, rfl⟩
          rw [hNN] at x4
          have x5 := hnum 5 (by decide)
          obtain ⟨f, hf⟩ : ∃ z, F k 5 = z := ⟨_, rfl⟩
          rw [hf] at x5
          have x6 := hnum 6 (by decide)
          obtain ⟨p, hp⟩ : ∃ z, F k 6 = z := ⟨_, rfl⟩
          rw [hp] at x6
          have x7 := hnum 7 (by decide)
          obtain ⟨d, hd⟩ : ∃ z, F k 7 = z := ⟨_, rfl⟩
          rw [hd] at x7
          have x8 := hnum 8 (by decide)
          obtain ⟨r, hr⟩ : ∃ z, F k 8 = z := ⟨_, rfl⟩
          rw [hr] at x8
          have x9 := hnum 9 (by decide)
          obtain ⟨m, hm⟩ : ∃ z, F k 9 = z := ⟨_, rfl⟩
          rw [hm] at x9
          simp only [kdA, Nat.add_zero, ← Nat.add_assoc] at x0 x1 x2 x3 x4 x5 x6 x7 x8 x9 hbody
          have c0 := cell_keeps hbel hcw x0.1
          have c1 := cell_keeps hbel hcw x1.1
          have c2 := cell_keeps hbel hcw x2.1
          have c3 := cell_keeps hbel hcw x3.1
          have c4 := cell_keeps hbel hcw x4.1
          have c5 := cell_keeps hbel hcw x5.1
          have c6 := cell_keeps hbel hcw x6.1
          have c7 := cell_keeps hbel hcw x7.1
          have c8 := cell_keeps hbel hcw x8.1
          have c9 := cell_keeps hbel hcw x9.1
          have c10 := cell_keeps hbel hcw hbody
          obtain ⟨A, cb, hv, hdrop⟩ := hOV.form
          clear hdrop
          obtain ⟨L, hL⟩ : ∃ L, O k = L := ⟨_, rfl⟩
          rw [hv] at c10 hOV
          rw [hL] at c10 hOV
          have hOW : OpsV wr (.slice A L.length cb) L := by
            rcases hOV with h | ⟨a2, cap2, e, q1, q2, q3⟩
            · exact .inl h
            · refine .inr ⟨a2, cap2, e, q1, q2, ?_⟩
              rcases q3 with h | ⟨c3, o3, e3, q4, q5⟩
              · exact .inl h
              · exact .inr ⟨c3, o3, e3, Nat.lt_of_lt_of_le q4 hbel.size, fun j hj => cell_keeps hbel q4 (q5 j hj)⟩
          have HOB := Lib.hid (show L = [] ∨ ∀ c, (Value.slice A L.length cb).ownBlock = some c → c < w.heap.size from by
            rcases hOV with ⟨_, h⟩ | ⟨a2, cap2, e, q1, q2, h | ⟨c3, o3, e3, q4, q5⟩⟩
            · exact .inl h
            · exact .inl h
            · right
              intro c4 hc4
              rw [e, e3] at hc4
              simp only [Value.ownBlock, Option.some.injEq] at hc4
              omega)
          have HB := Lib.hid (show (Lit.int .i64 ST).wf = true ∧ (0 ≤ f ∧ f ≤ top) ∧ (0 ≤ p ∧ p ≤ top) ∧ (0 ≤ d ∧ d ≤ top) ∧ (0 ≤ r ∧ r ≤ top) ∧ (0 ≤ m ∧ m ≤ top) ∧ (0 ≤ NN ∧ NN ≤ top) ∧ (Lit.int .i64 ID).wf = true from ⟨x3.2, u64_of_wf x5.2, u64_of_wf x6.2, u64_of_wf x7.2, u64_of_wf x8.2, u64_of_wf x9.2, u64_of_wf x4.2, x1.2⟩)
          have HOW := Lib.hid hOW
          clear hnum hbody hOV hc hv hL hOW x0 x1 x2 x3 x4 x5 x6 x7 x8 x9 hKD hID hPR hST hNN hf hp hd hr hm V O F
          obtain ⟨n, ws, R, XS, TT, bv, lv, rv, hnk, hwl, hnM, hws, hws0, hTI, hWI, hNI, hn0, hbs, hbel2⟩ := hP
          clear hbel2
          obtain ⟨LA, lcap, rfl⟩ : ∃ LA lcap, Lv = .slice LA n lcap := by
            rcases hWI.lw.2 with ⟨e, h⟩ | ⟨g2, c2, cur, e, _⟩
            · exact ⟨none, 0, by rw [e, h]⟩
            · exact ⟨_, _, e⟩
          obtain ⟨RA, rcap, rfl⟩ : ∃ RA rcap, rv = .slice RA n rcap := by
            rcases hTI.tb.rows.2 with ⟨e, h⟩ | ⟨g2, c2, cur, e, _⟩
            · exact ⟨none, 0, by rw [e, h]⟩
            · exact ⟨_, _, e⟩
          have HN40 := Lib.hid (show n ≤ 40 from by omega)
          obtain ⟨dd, hdd⟩ : ∃ z, wr.heap.size = z := ⟨_, rfl⟩
          obtain ⟨IN, PB, PO, hQ⟩ : ∃ (IN : Bool) (PB PO : Nat), (IN = true ∧ ∃ kk : Nat, kk < n ∧ ID = (kk : Int) + 1 ∧ (∃ lq, LA = some ⟨lq, 0, none⟩ ∧ PB = lq) ∧ PO = kk * 14) ∨ (IN = false ∧ (ID < 1 ∨ (n : Int) < ID) ∧ PB = dd + 1 ∧ PO = 0) := by
            by_cases hin : 1 ≤ ID ∧ ID ≤ n
            · refine ⟨true, ?_⟩
              rcases hWI.lw.2 with ⟨e, h⟩ | ⟨lq, c2, cur, e, _⟩
              · omega
              · simp only [Value.slice.injEq] at e
                exact ⟨lq, (ID - 1).toNat * 14, .inl ⟨rfl, (ID - 1).toNat, by omega, by omega, ⟨lq, e.1, rfl⟩, rfl⟩⟩
            · exact ⟨false, dd + 1, 0, .inr ⟨rfl, by omega, rfl, rfl⟩⟩
          have hSwp := fun (hl30 : L.length ≤ 30) => SwI_mk (w := w) (KD := KD) (PR := PR) ⟨hM1, hM2⟩ h40 hnk hwl hnM hws hws0 hTI hWI hNI hn0 hdd (by omega) hbel HBASE.out ⟨HLO.out.1, HLO.out.2.2.1, HLO.out.2.2.2.1, HLO.out.2.2.2.2⟩ HOW.out HOB.out hl30 HB.out hQ
          have HQ := Lib.hid hQ
          have HBEL := Lib.hid hbel
          clear hnk hwl hnM hws hws0 hTI hWI hNI hn0 hbs hbel hQ HOW HOB HB
          go_upto_region 11 with fail
          obtain ⟨W4, hW4⟩ : ∃ W4, wr.alloc (.cells #[.int .i64 KD, .int .i64 ID, .int .i64 PR, .int .i64 ST, .int .u64 NN, .int .u64 f, .int .u64 p, .int .u64 d, .int .u64 r, .int .u64 m, .slice A L.length cb] 107) = W4 := ⟨_, rfl⟩
          have hD : W4.heap[dd]? = some (.cells #[.int .i64 KD, .int .i64 ID, .int .i64 PR, .int .i64 ST, .int .u64 NN, .int .u64 f, .int .u64 p, .int .u64 d, .int .u64 r, .int .u64 m, .slice A L.length cb] 107 (0, 0)) := by rw [← hW4]; exact alloc_at hdd.symm
          have hb4 : Below w.heap.size w W4 := by rw [← hW4]; exact below_al HBEL.out _
          have hs4 : W4.heap.size = dd + 1 := by rw [← hW4]; simp [hdd]
          try rw [hdd]
          rw [hW4]
          rw [hW4] at hSwp
          have HSwp := Lib.hid hSwp
          have HS4 := Lib.hid (show W4.heap.size = dd + 1 ∧ Below w.heap.size w W4 from ⟨hs4, hb4⟩)
          clear hW4 hdd c0 c1 c2 c3 c4 c5 c6 c7 c8 c9 c10 hSwp hb4 hs4
          obtain ⟨d0, d1, d2, d3, d4, d5, d6, d7, d8, d9, d10⟩ := opc hD
          have HD := Lib.hid hD
          clear hD
          by_cases h30 : 30 < L.length
          · skip
            as_aux_lemma =>
              have g5 : decide ((L.length : Int) > 30) = true := by simp; omega
              have g6 : decide ((30 : Int) < L.length) = true := by simp; omega
              have g7 : decide (30 < L.length) = true := by simpa using h30
              clear h30
              go_wp2_with fail
              refine (awake17 _).mono ?_
              rintro e w5 ⟨rfl, hb5⟩
              go_wp2_with fail
              go_ret
              exact ⟨rfl, below_step hb5 HS4.out.2⟩
          · have g5 : decide ((L.length : Int) > 30) = false := by simp; omega
            have g6 : decide ((30 : Int) < L.length) = false := by simp; omega
            have g7 : decide (30 < L.length) = false := by simpa using h30
            go_upto_region 13 with fail
            have H30 := Lib.hid (show L.length ≤ 30 from by omega)
            clear h30
            go_cut [10] (fun v10 wx => v10 = .bool IN ∧ W4 = wx)
            case first =>
              as_aux_lemma =>
                have gn : n ≤ 40 := HN40.out
                rcases HQ.out with ⟨rfl, kk, hkk, rfl, ⟨lq, rfl, rfl⟩, rfl⟩ | ⟨rfl, ho, rfl, rfl⟩
                · have g8 : decide ((kk : Int) + 1 ≥ 1) = true := by simp; omega
                  have g9 : decide (1 ≤ (kk : Int) + 1) = true := by simp; omega
                  have g10 : decide ((kk : Int) + 1 ≤ n) = true := by simp; omega
                  go_wp2_with fail
                  go_meet
                  exact ⟨rfl, rfl⟩
                · rcases ho with ho | ho
                  · have g8 : decide (ID ≥ 1) = false := by simp; omega
                    have g9 : decide (1 ≤ ID) = false := by simp; omega
                    clear ho
                    go_wp2_with fail
                    go_meet
                    exact ⟨rfl, rfl⟩
                  · have g8 : decide (ID ≥ 1) = true := by simp; omega
                    have g9 : decide (1 ≤ ID) = true := by simp; omega
                    have g10 : decide (ID ≤ n) = false := by simp; omega
                    clear ho
                    go_wp2_with fail
                    go_meet
                    exact ⟨rfl, rfl⟩
            case rest =>
            as_aux_lemma =>
              obtain ⟨rfl, rfl⟩ := hcut
              go_upto_if 78 with fail
              obtain ⟨W5, hW5⟩ : ∃ W5, W4.alloc (.cells #[.int .i64 0, .int .i64 0, .int .i64 0, .int .u64 0, .int .u64 0, .int .u64 0, .int .u64 0, .slice none 0 0, .bool false, .int .u64 0, .int .u64 0, .int .u64 0, .int .u64 0, .int .u64 0] 110) = W5 := ⟨_, rfl⟩
              have hSw := HSwp.out H30.out
              rw [hW5] at hSw
              try rw [HS4.out.1]
              rw [hW5]
              clear hW5 d0 d1 d2 d3 d4 d5 d6 d7 d8 d9 d10 HD HSwp H30 HS4
              obtain ⟨d0, d1, d2, d3, d4, d5, d6, d7, d8, d9, d10⟩ := opc hSw.d6
              have HSw := Lib.hid hSw
              clear hSw
              go_cut [11] (fun v11 wx => v11 = .pointer (some ⟨PB, PO, none⟩) ∧ W5 = wx)
              case first =>
                as_aux_lemma =>
                  have gn : n ≤ 40 := HN40.out
                  rcases HQ.out with ⟨rfl, kk, hkk, rfl, ⟨lq, rfl, rfl⟩, rfl⟩ | ⟨rfl, ho, rfl, rfl⟩
                  · go_wp2_with fail
                    go_meet
                    exact ⟨rfl, rfl⟩
                  · clear ho
                    go_wp2_with fail
                    go_meet
                    exact ⟨rfl, rfl⟩
              case rest =>
              as_aux_lemma =>
                obtain ⟨rfl, rfl⟩ := hcut
                go_upto_region 17 with fail
                go_upto_block 2 with fail
                go_cut [7] (fun v7 wx => ∃ Lv', v7 = Lv' ∧ PI w wx t a b g mb M base (2000 * k + 1500) (k + 1) Lv' ∧ wx.heap[dd]? = some (.cells #[.int .i64 KD, .int .i64 ID, .int .i64 PR, .int .i64 ST, .int .u64 NN, .int .u64 f, .int .u64 p, .int .u64 d, .int .u64 r, .int .u64 m, .slice A L.length cb] 107 (0, 0)))
                case first =>
                  as_aux_lemma =>
                    refine sw_any HSw.out ?_
                    intros
                    dsimp only [Exit.then]
                    go_step
                    go_meet
                    exact ⟨_, rfl, by assumption, by assumption⟩
                case rest =>
                as_aux_lemma =>
                  obtain ⟨Lv', rfl, hP5, hD5⟩ := hcut
                  clear HSw d0 d1 d2 d3 d4 d5 d6 d7 d8 d9 d10
                  obtain ⟨d0, d1, d2, d3, d4, d5, d6, d7, d8, d9, d10⟩ := opc hD5
                  clear hD5
                  go_wp2_with fail
                  refine (same_PI hP5 (by omega) (by omega) ⟨HLO.out.2.2.1, HLO.out.2.2.2.1⟩ ID).mono ?_
                  rintro e w6 ⟨rfl, hP6⟩
                  have HP6 := Lib.hid hP6
                  clear hP5 hP6
                  go_wp2_with fail
                  go_roundg (40 - (k + 1))
                  case measure => omega
                  case rel => exact ⟨k + 1, _, rfl, by omega, by omega, by go_num, rfl, HP6.out.le (by omega)⟩
        · skip
          as_aux_lemma =>
            have hbel : Below w.heap.size w wr := hP.bel
            clear hP
            have gk : k ≤ 40 := hk
            by_cases h1 : k < len1
            · have h40 : k = 40 := by omega
              subst h40
              have g5 : decide ((40 : Int) < len1) = true := by simp; omega
              have g6 : decide (((40 : Nat) : Int) < len1) = true := by simp; omega
              clear hlt
              go_wp2_with fail
              refine (awake17 _).mono ?_
              rintro e w5 ⟨rfl, hb5⟩
              go_wp2_with fail
              go_ret
              exact ⟨rfl, below_step hb5 hbel⟩
            · have g5 : decide ((k : Int) < len1) = false := by simp; omega
              clear hlt
              go_wp2_with fail
              refine (awake17 _).mono ?_
              rintro e w5 ⟨rfl, hb5⟩
              go_wp2_with fail
              go_ret
              exact ⟨rfl, below_step hb5 hbel⟩

set_option maxRecDepth 100000 in
theorem lifted (os : Os) (started : os.Started) (H : Type) (enc : TypeId × Value → H) :
    ReturnsInHanded {} Try.checked os 17 .any (Rows.tablePlaysSpec.pre6 enc Try.prog Try.f17 Rows.tablePlaysRow.domain false) (Rows.tablePlaysSpec.post enc Try.prog Try.f17 false true false false) := by
  refine returnsInHanded_of_change (C := Try.checked) own started (by kernel_rfl) Try.func17
    (ChangeSpec.witness6 (enc := enc) (C := Try.checked) false ⟨#[], #[.int .i64 0, .slice none 0 0], []⟩ 8 (by kernel_rfl) (by kernel_rfl) (by kernel_rfl) (by kernel_rfl)) ?_
  intro W base args ds gs before hval0 hW hcnd _
  have hval : ∀ (j : Nat) t v, Try.f17.params[j]? = some t → args[j]? = some v → Value.okWide Try.prog W .any base t v := hval0
  have hW' := hW
  obtain ⟨p, q, hA0, hV, rfl, hfz, hnd⟩ := hW
  have hA : DataW.TrodAll enc Try.prog W 0 (fun _ => true) true Try.f17.params.toList args.toList ds p := hA0
  rw [Try.params17] at hA hval
  obtain ⟨v0, vs0, d0, ds0, p0, q0, hargs, rfl, rfl, h0, r0⟩ := trodAll_cons hA
  obtain ⟨v1, vs1, d1, ds1, p1, q1, rfl, rfl, rfl, h1, r1⟩ := trodAll_cons r0
  obtain ⟨rfl, rfl, rfl⟩ := trodAll_nil r1
  obtain rfl : args = #[v0, v1] := by cases args; simp_all
  obtain ⟨rfl, rfl⟩ := trodVars_none hV
  obtain ⟨a0, rfl, rfl, rfl, w0⟩ := open_int Try.underlying3 (hval 0 3 v0 rfl rfl) h0
  obtain ⟨a1, len1, cap1, rfl⟩ := okWide_slice Try.underlying103 (hval 1 103 v1 rfl rfl)
  have k1 := h1
  have lt1 : ∀ x ∈ p1, x.block < W.heap.size := by obtain ⟨m, hm⟩ := k1; exact DataW.trod_lt m _ _ _ hm
  have w1 : IsActs kdA W a1 len1 := by
    obtain ⟨fuel, hf⟩ := h1
    refine isActs_of kdA Try.underlying103 Try.underlying107 (by kernel_rfl) ?_ ⟨_, rfl, rfl, by kernel_rfl, Try.underlying57⟩ ?_ ⟨_, rfl, rfl, by kernel_rfl, Try.underlying105⟩ Try.underlying135 (by kernel_rfl) (by kernel_rfl) rfl ?_ hf
    · intro i hi
      match i, hi with
      | 0, _ => exact ⟨_, rfl, rfl, by kernel_rfl, Try.underlying3⟩
      | 1, _ => exact ⟨_, rfl, rfl, by kernel_rfl, Try.underlying3⟩
      | 2, _ => exact ⟨_, rfl, rfl, by kernel_rfl, Try.underlying3⟩
      | 3, _ => exact ⟨_, rfl, rfl, by kernel_rfl, Try.underlying3⟩
      | 4, _ => exact ⟨_, rfl, rfl, by kernel_rfl, Try.underlying29⟩
      | n + 5, hi => omega
    · intro j hj
      match j, hj with
      | 0, _ => exact ⟨_, rfl, rfl, by kernel_rfl, Try.underlying29⟩
      | 1, _ => exact ⟨_, rfl, rfl, by kernel_rfl, Try.underlying29⟩
      | 2, _ => exact ⟨_, rfl, rfl, by kernel_rfl, Try.underlying29⟩
      | 3, _ => exact ⟨_, rfl, rfl, by kernel_rfl, Try.underlying29⟩
      | 4, _ => exact ⟨_, rfl, rfl, by kernel_rfl, Try.underlying29⟩
      | n + 5, hj => omega
    · intro j f hj
      match j, hj with
      | 0, hj => simp at hj; subst hj; exact Try.underlying3
      | 1, hj => simp at hj; subst hj; exact Try.underlying3
      | 2, hj => simp at hj; subst hj; exact Try.underlying3
      | n + 3, hj => simp at hj
  clear hA0 hval0
  refine (walk a0 a1 len1 cap1 W w0 w1).mono fun e W' ⟨he, bel⟩ => ?_
  subst he
  exact ⟨_, rfl, _, _, _, [], _, [], hW', trodAll_mk1 (shut_bool Try.underlying4 _), (trodAll_cons_mk (shut_int Try.underlying3 w0) (trodAll_cons_mk (Below.trod laidOut (by kernel_rfl) (of_decide_eq_true (by kernel_rfl)) k1 bel lt1) trodAll_mk0)), rfl, bel.frame _, fun h => by cases h⟩

theorem over : Rows.tablePlaysRow.holds Try.pinned (OpenSpec.ofChange Rows.tablePlaysSpec) :=
  OpenClaim.holds_of_wide 17 Try.f17 rfl rfl rfl rfl rfl rfl rfl ⟨rfl, rfl, rfl, rfl, rfl⟩ rfl rfl rfl rfl rfl (by kernel_rfl) Try.func17 (by kernel_rfl)
    (of_decide_eq_true (by kernel_rfl)) (by unfold Func.isWrapper; first | (rw [if_pos (by decide +kernel)]; kernel_rfl) | (rw [if_neg (by decide +kernel)]; exact ⟨rfl, rfl⟩))
    (fun os started H enc _ => lifted os started H enc)

theorem proved : Rows.TablePlaysSaid := over
#print axioms proved
end Go.Proofs.Ytpcbcnheogjofaa.tablePlays
