/- Law TableCounts proved: for any number and any row of turns the call returns true, under no condition.
   The frame below the walk was written by the kit's proof-skeleton.mjs. -/
import Derived.Test.YtpcbcnheogjofaaRows
import Derived.WalkKit
import Derived.ProofKit
import Derived.OpenShut
import Derived.ShutString
import Derived.ChangeOld
import Derived.Below
import Derived.Test.YtpcbcnheogjofaaTable7
import Derived.Deep.LoopGhost
import Derived.BigQuiet
namespace Go.Proofs.Ytpcbcnheogjofaa.tableCounts
open Go.ChangeShapes Go.WideShapes Go.ChangeAt Go.RowKit
open Go.ChangeMaps (open_string shut_string)
set_option linter.unusedVariables false

theorem own : ownKnob Try.prog.godebug = none := by kernel_rfl
theorem laidOut : laidOutB Try.prog = true := by kernel_rfl

def IsRow (k : IntKind) (w : World) (a : Option Addr) (len cap : Nat) (zs : List Int) : Prop :=
  (a = none ∧ len = 0 ∧ cap = 0 ∧ zs = []) ∨
  ∃ x, a = some x ∧ len ≤ cap ∧ cap ≤ maxLen ∧ zs.length = cap ∧ (∀ i, i < zs.length → w.cell? (x.add i) = some (.int k (zs.getD i 0))) ∧ ∀ n ∈ zs, (Lit.int k n).wf = true

def RowsR (R : List Value) (n : Nat) : Prop := R.length = n * 13 ∧ ∀ j : Nat, j < n → R[j * 13 + 1]? = some (.int .i64 (((j : Int) + 1) % 8)) ∧ ∃ ru : Int, R[j * 13 + 5]? = some (.int .u64 ru)
theorem RowsR_push {R : List Value} {n : Nat} (h : RowsR R n) (id pr d f p r m : Int) (hp : pr = ((n : Int) + 1) % 8) : RowsR (R ++ rowL id pr d f p r m) (n + 1) := by
  refine ⟨by rw [List.length_append, h.1]; simp [rowL]; omega, fun j hj => ?_⟩
  have hl := h.1
  rcases Nat.lt_or_ge j n with h' | h'
  · obtain ⟨h1, ru, h2⟩ := h.2 j h'
    exact ⟨by rw [List.getElem?_append_left (by omega)]; exact h1, ru, by rw [List.getElem?_append_left (by omega)]; exact h2⟩
  · obtain rfl : j = n := by omega
    refine ⟨?_, 0, ?_⟩
    · rw [List.getElem?_append_right (by omega), hl, show j * 13 + 1 - j * 13 = 1 from by omega, hp]; rfl
    · rw [List.getElem?_append_right (by omega), hl, show j * 13 + 5 - j * 13 = 5 from by omega]; rfl
theorem RowsR_set5 {R : List Value} {n : Nat} (h : RowsR R n) (k : Nat) (z : Int) : RowsR (R.set (k * 13 + 5) (.int .u64 z)) n := by
  refine ⟨by rw [List.length_set]; exact h.1, fun j hj => ?_⟩
  obtain ⟨h1, ru, h2⟩ := h.2 j hj
  have hl := h.1
  refine ⟨by rw [List.getElem?_set_ne (by omega)]; exact h1, ?_⟩
  by_cases e : k = j
  · subst e
    exact ⟨z, by rw [List.getElem?_set_self (by omega)]⟩
  · exact ⟨ru, by rw [List.getElem?_set_ne (by omega)]; exact h2⟩
def sumN (ws : List Int) (n : Nat) : Nat → Int
  | 0 => 0
  | k + 1 => sumN ws n k + cntN ws n k
theorem cntN_bd (ws : List Int) (n : Nat) (s : Int) : 0 ≤ cntN ws n s ∧ cntN ws n s ≤ n := by
  induction n with
  | zero => simp [cntN]
  | succ k ih =>
    simp only [cntN]
    split <;> omega
theorem sumN_bd (ws : List Int) (n k : Nat) (hn : n ≤ 60) : 0 ≤ sumN ws n k ∧ sumN ws n k ≤ 60 * k := by
  induction k with
  | zero => simp [sumN]
  | succ k ih =>
    have := cntN_bd ws n k
    simp only [sumN]
    omega
theorem can_0 (a : Int) : canB a 0 = false := by
  cases h : canB a 0
  · rfl
  · have := can_bd h; omega
set_option maxRecDepth 100000 in
set_option maxHeartbeats 20000000 in

theorem walk (a0 : Int) (a1 : Option Addr) (len1 cap1 : Nat) (z1 : List Int) (w : World) (w0 : (Lit.int .i64 a0).wf = true) (w1 : IsRow .i64 w a1 len1 cap1 z1) :
    Calls Try.prog 15 #[.int .i64 a0, .slice a1 len1 cap1] w fun e w' => e = .returned (.bool true) ∧ Below w.heap.size w w' := by
  clear w0
  have HW := Lib.hid (row_cases w1)
  clear w1
  obtain ⟨q, hq, q255⟩ : ∃ q : Nat, bits .and .i64 a0 255 = (q : Int) ∧ q ≤ 255 := ⟨(a0 % 256).toNat, by rw [and_i64_255]; omega, by omega⟩
  obtain ⟨N, hN, N60⟩ : ∃ t : Nat, (q : Int).tmod 61 = (t : Int) ∧ t ≤ 60 := ⟨q % 61, by rw [Int.tmod_eq_emod_of_nonneg (by omega)]; omega, by omega⟩
  obtain ⟨P, hP⟩ : ∃ P : Nat, (N : Int) + 1 = (P : Int) := ⟨N + 1, by omega⟩
  have HPN := Lib.hid (show P = N + 1 from by omega)
  have hmk : ∀ W : World, (Instr.makeSlice 22 (.int .i64 (P : Int)) (.int .i64 (P : Int))).run Try.prog W = .ok (.slice (some ⟨W.heap.size, 0, none⟩) P P) (W.alloc (.cells ((List.replicate P (0 : Int)).map (Value.int .i64)).toArray 3)) := by
    intro W
    have hm0 : (madeCells #[Value.int .i64 0] P) = ((List.replicate P (0 : Int)).map (Value.int .i64)).toArray := by
      apply Array.ext_getElem?
      intro i
      simp [madeCells, Nat.mod_one, Array.getElem?_range, Array.getElem?_replicate]
    rw [← hm0]
    exact run_make_row' 22 3 (.int .i64 0) 8 Try.underlying22 (by kernel_rfl) rfl .i64 .i64 P (by omega) (by omega) W
  have HZ := Lib.hid (show ∀ x y : Int, (0 : Int) ≤ (fun _ _ => 0 : Int → Int → Int) x y ∧ (fun _ _ => 0 : Int → Int → Int) x y ≤ 1000000 from fun _ _ => ⟨Int.le_refl 0, by show (0 : Int) ≤ 1000000; decide⟩)
  go_enter Try.func15, Try.ntmps15
  go_wp2_with fail
  refine (TNew_in 60 (by decide) (by decide) _).mono ?_
  rintro e w1 ⟨t, a, b, g, mb, base, rfl, h1, hbs, ht, ha, hb, hg, hmb, hB⟩
  have hbase : w.heap.size ≤ base := by have := h1.lt; omega
  have H1 := Lib.hid h1
  have HLO := Lib.hid (show w.heap.size ≤ t ∧ w.heap.size ≤ a ∧ w.heap.size ≤ b ∧ w.heap.size ≤ g ∧ w.heap.size ≤ mb from ⟨ht, ha, hb, hg, hmb⟩)
  clear h1 ht ha hb hg hmb
  go_wp2_with fail
  obtain ⟨qs, hqs⟩ : ∃ qs, qs = w1.heap.size := ⟨_, rfl⟩
  obtain ⟨W2, hW2⟩ : ∃ W2, w1.alloc (.cells (Array.replicate P (Value.int .i64 0)) 3) = W2 := ⟨_, rfl⟩
  have h2 : TbAt W2 t a b g mb (List.replicate 60 0) 0 (.slice none 0 0) 0 [] (CC (List.replicate 60 0) 0) base := by
    rw [← hW2]
    have := H1.out.al (.cells (Array.replicate P (Value.int .i64 0)) 3)
    exact this
  have hR2 : RowI .i64 3 W2 qs (List.replicate P 0) := by
    rw [← hW2]
    unfold RowI
    rw [alloc_at hqs]
    simp
  have hB2 : Below w.heap.size w W2 := by rw [← hW2]; exact below_al hB _
  have hs2 : base ≤ W2.heap.size := by rw [← hW2]; simp; omega
  have hqb : base ≤ qs := by omega
  have hlt5 := H1.out.lt
  have HQS := Lib.hid (show ¬ own2 b g qs ∧ qs ≠ mb ∧ qs ≠ t from ⟨fun h => by rcases h with h | h <;> omega, by omega, by omega⟩)
  have hwq : w.heap.size ≤ qs := by omega
  try rw [← hqs]
  rw [hW2]
  clear hW2 hqs hbs hB hlt5
  go_wp2_with fail
  go_loopg [8, 9, 10] N (fun gg v8 _ _ wr => ∃ (k : Nat) (ws xs : List Int) (R : List Value) (A : Option Addr) (cap : Nat), gg = N - k ∧ k ≤ N ∧ v8 = .int .i64 ((k : Int) + 1) ∧ ws.length = 60 ∧ (∀ j, j < k → 1 ≤ ws.getD j 0 % 8 ∧ ws.getD j 0 % 8 ≤ 6) ∧ (∀ j, k ≤ j → ws.getD j 0 = 0) ∧ xs.length = P ∧ (∀ j, j < k → xs.getD (j + 1) 0 = ws.getD j 0 % 8) ∧ RowsR R k ∧ (k = 0 ∨ ∃ q, A = some ⟨q, 0, none⟩ ∧ q ≠ qs) ∧ (k = 0 → A = none ∧ cap = 0) ∧ TbAt wr t a b g mb ws (100 * k) (.slice A k cap) k R (CC ws k) base ∧ base ≤ wr.heap.size ∧ RowI .i64 3 wr qs xs ∧ Below w.heap.size w wr)
  case atStart => exact ⟨0, List.replicate 60 0, List.replicate P 0, [], none, 0, by omega, by omega, rfl, by simp, fun j hj => by omega, (by intro j _; rw [List.getD_eq_getElem?_getD, List.getElem?_replicate]; split <;> rfl), by simp, fun j hj => by omega, ⟨rfl, fun j hj => by omega⟩, .inl rfl, fun _ => ⟨rfl, rfl⟩, by simpa using h2, hs2, hR2, hB2⟩
  case round =>
    clear h2 hR2 hB2 hs2
    obtain ⟨k, ws, xs, R, A, cap, rfl, hk, rfl, hwl, hw1, hw2, hxl, hx, hRR, hA, hA0, hT, hsz, hS, hB⟩ := hrel
    by_cases hlt : k < N
    · have g1 : decide ((k : Int) + 1 ≤ N) = true := by simp; omega
      obtain ⟨v1, hv1, v10, v11⟩ : ∃ v, bits .and .i64 ((k : Int) + 1) 1 = v ∧ 0 ≤ v ∧ v ≤ 1 := ⟨_, rfl, by rw [and_i64_1]; omega, by rw [and_i64_1]; omega⟩
      obtain ⟨PR, hPR, p0, p1, hPR2⟩ : ∃ v, bits .and .i64 ((k : Int) + 1) 7 = v ∧ 0 ≤ v ∧ v ≤ 7 ∧ v = ((k : Int) + 1) % 8 := ⟨_, rfl, by rw [and_i64_7]; omega, by rw [and_i64_7]; omega, by rw [and_i64_7]⟩
      obtain ⟨s, hs, s1, s2⟩ : ∃ s, 1 + v1 = s ∧ 1 ≤ s ∧ s ≤ 2 := ⟨_, rfl, by omega, by omega⟩
      have hcan : canB 0 s = true := by rcases (show s = 1 ∨ s = 2 from by omega) with rfl | rfl <;> decide
      have hsw : (Lit.int .i64 s).wf = true := by simp [Lit.wf, IntKind.min, IntKind.max, IntKind.signed, IntKind.bits]; omega
      have ck := hS.cell (k + 1) (by have := HPN.out; omega)
      have fk := hS.free (k + 1)
      generalize xs.getD (k + 1) 0 = y0 at ck
      have hS2 := hS.set (k + 1) s
      have hB2 := hB.setCell (p := (⟨qs, k + 1, none⟩ : Addr)) (by show w.heap.size ≤ qs; omega) (.int .i64 s)
      have hk0 := hw2 k (Nat.le_refl _)
      have hnq : (Value.slice A k cap).ownBlock ≠ some qs := by
        rcases hA with rfl | ⟨q, rfl, hq⟩
        · obtain ⟨rfl, _⟩ := hA0 rfl
          simp [Value.ownBlock]
        · intro e
          simp only [Value.ownBlock, Option.some.injEq] at e
          exact hq e
      have hT2 : TbAt (wr.setCell ⟨qs, k + 1, none⟩ (.int .i64 s)) t a b g mb ws (100 * k) (.slice A k cap) k R (CC ws k) base := by
        obtain ⟨l1, l2, l3, l4, l5⟩ := hT.lt
        refine ⟨heap_set_ne hT.hdr (by omega) _, hT.ar.put (by omega) (by omega) (by omega) _, ?_, hT.map.of_block (Below.heap_setCell wr ⟨qs, k + 1, none⟩ _ mb (by show mb ≠ qs; omega)), hT.lt, hT.ne⟩
        exact hT.rows.kept (row := some qs) ⟨rfl, rfl, rfl, by simp, fun i _ hn => Below.heap_setCell wr ⟨qs, k + 1, none⟩ _ i (fun e => hn (by rw [e]))⟩ (.inr hnq)
      have hsz2 : base ≤ (wr.setCell ⟨qs, k + 1, none⟩ (.int .i64 s)).heap.size := by simpa using hsz
      have HSX := Lib.hid hS2
      have HWL := Lib.hid hwl
      have HW1 := Lib.hid hw1
      have HW2 := Lib.hid hw2
      have HXL := Lib.hid hxl
      have HXX := Lib.hid hx
      have HRR := Lib.hid hRR
      have HPR2 := Lib.hid hPR2
      have HK0 := Lib.hid hk0
      have HNQ := Lib.hid hnq
      have HT2 := Lib.hid hT2
      have HCAN := Lib.hid hcan
      have HSW := Lib.hid hsw
      have hLT := HLO.out
      clear hwl hw1 hw2 hxl hx hRR hA hA0 hT hS hB hPR2 hk0 hnq hT2 hcan hsw hS2 hLT hsz
      go_wp2_with fail
      refine (TMake_ok HT2.out hsz2 (by omega) (by omega) (by rw [HWL.out]; omega) (fun j hj => by have := HW1.out j hj; rw [beq_eq_false_iff_ne]; omega) (by rw [HK0.out]; decide) PR s 0 0 0 0 0 p0 p1 HSW.out HCAN.out (by decide) (by decide) (by decide) (by decide) (by decide) (.inl rfl) (fun x y => by have := CC_bd ws k x y; omega)).mono ?_
      rintro e w3 ⟨q3, cap3, rfl, hT3, hF3⟩
      have hfr : ∀ x, (own2 b g x ∨ x = mb ∨ x = t ∨ some x = (Value.slice A k cap).ownBlock) → w.heap.size ≤ x := by
        intro x hx
        have h5 := HLO.out
        rcases hx with (h | h) | h | h | h
        · omega
        · omega
        · omega
        · omega
        · have := (HT2.out.rows.lt x h.symm).1
          omega
      have hB3 := hF3.below hB2 hfr
      have hnS : ¬ (own2 b g qs ∨ qs = mb ∨ qs = t ∨ some qs = (Value.slice A k cap).ownBlock) := by
        intro hh
        have h5 := HQS.out
        rcases hh with h | h | h | h
        · exact h5.1 h
        · exact h5.2.1 h
        · exact h5.2.2 h
        · exact HNQ.out h.symm
      have hS3 := HSX.out.fr hF3 hnS
      have hsz3 : base ≤ w3.heap.size := Nat.le_trans hsz2 hF3.size
      have hq3 : q3 ≠ qs := by
        rintro rfl
        rcases hT3.rows.2 with ⟨e1, _⟩ | ⟨g', c', cur, e1, _, e3, _⟩
        · cases e1
        · simp only [Value.slice.injEq, Option.some.injEq, Addr.mk.injEq, and_true, true_and] at e1
          obtain ⟨rfl, _⟩ := e1
          unfold RowI at hS3
          rw [e3] at hS3
          simp at hS3
      have hcm := CC_made ws k (by rw [HWL.out]; omega) (nextI (ws.getD k 0) s) s (next_mod _ s (by omega) (by omega))
      rw [← HPR2.out] at hcm
      rw [← hcm] at hT3
      have hT4 : TbAt w3 t a b g mb (ws.set k (nextI (ws.getD k 0) s)) (100 * ((k + 1 : Nat) : Int)) (.slice (some ⟨q3, 0, none⟩) (k + 1) cap3) (k + 1) (R ++ rowL ((k : Int) + 1) PR 0 0 0 0 0) (CC (ws.set k (nextI (ws.getD k 0) s)) (k + 1)) base := ⟨hT3.hdr, hT3.ar.le (by omega), hT3.rows, hT3.map, hT3.lt, hT3.ne⟩
      clear hcm hT3
      clear hF3 hB2 hnS hfr
      go_wp2_with fail
      go_roundg (N - (k + 1))
      case measure => omega
      case rel => exact ⟨k + 1, ws.set k (nextI (ws.getD k 0) s), xs.set (k + 1) s, R ++ rowL ((k : Int) + 1) PR 0 0 0 0 0, some ⟨q3, 0, none⟩, cap3, rfl, by omega, by go_num, by rw [List.length_set]; exact HWL.out, (by
          intro j hj
          rw [getD_set_any]
          split
          · rw [next_mod _ s (by omega) (by omega)]; omega
          · rename_i hh
            have := HWL.out
            exact HW1.out j (by omega)), (by
          intro j hj
          rw [getD_set_any, if_neg (by omega)]
          exact HW2.out j (by omega)), by rw [List.length_set]; exact HXL.out, (by
          intro j hj
          have h6 := HWL.out
          have h7 := HXL.out
          have h8 := HPN.out
          rw [getD_set_any, getD_set_any]
          by_cases e : k = j
          · subst e
            rw [if_pos ⟨rfl, by omega⟩, if_pos ⟨rfl, by omega⟩, next_mod _ s (by omega) (by omega)]
          · rw [if_neg (by omega), if_neg (by omega)]
            exact HXX.out j (by omega)), RowsR_push HRR.out _ _ _ _ _ _ _ HPR2.out, .inr ⟨q3, rfl, hq3⟩, (fun h => by omega), hT4, hsz3, hS3, hB3⟩
    · obtain rfl : k = N := by omega
      have g1 : decide ((k : Int) + 1 ≤ k) = false := by simp; omega
      have g1b : decide (P ≤ k) = false := by simp; omega
      have HA := Lib.hid hA
      have hT0 : TbAt wr t a b g mb ws 6000 (.slice A k cap) k R (CC ws k) base := ⟨hT.hdr, hT.ar.le (by omega), hT.rows, hT.map, hT.lt, hT.ne⟩
      clear hA hw2 hA0 hT
      go_wp2_with fail
      go_loopg [11, 12, 13, 14] 60 (fun gg v11 _ _ _ wr => ∃ (i : Nat) (ws xs : List Int) (R : List Value), gg = 60 - i ∧ i ≤ 60 ∧ v11 = .int .i64 i ∧ ws.length = 60 ∧ (∀ j, j < k → 1 ≤ ws.getD j 0 % 8 ∧ ws.getD j 0 % 8 ≤ 6) ∧ xs.length = P ∧ (∀ j, j < k → xs.getD (j + 1) 0 = ws.getD j 0 % 8) ∧ RowsR R k ∧ TbAt wr t a b g mb ws (6000 + 10 * i) (.slice A k cap) k R (CC ws k) base ∧ RowI .i64 3 wr qs xs ∧ Below w.heap.size w wr)
      case atStart => exact ⟨0, ws, xs, R, rfl, by omega, rfl, hwl, hw1, hxl, hx, hRR, by simpa using hT0, hS, hB⟩
      case round =>
        clear hwl hw1 hxl hx hRR hT0 hS hB hsz ws xs R
        obtain ⟨i, ws, xs, R, rfl, hi, rfl, hwl, hw1, hxl, hx, hRR, hT, hS, hB⟩ := hrel
        obtain ⟨Q, hQ⟩ : ∃ Q, decide (i < len1 ∧ i < 60 ∧ 0 < k) = Q := ⟨_, rfl⟩
        have HWL := Lib.hid hwl
        have HW1 := Lib.hid hw1
        have HXL := Lib.hid hxl
        have HXX := Lib.hid hx
        have HRR := Lib.hid hRR
        have HT := Lib.hid hT
        have HS := Lib.hid hS
        have HQ := Lib.hid hQ
        clear hwl hw1 hxl hx hRR hT hS hQ hP g1 g1b
        go_upto_region 14 with fail
        go_cut [72, 73, 74, 75, 76, 77, 78] (fun _ _ _ _ _ _ v78 wx => v78 = .bool Q ∧ wr = wx)
        case first =>
          by_cases h1 : i < len1
          · by_cases h2 : i < 60
            · by_cases h3 : 0 < k
              · have : Q = true := by rw [← HQ.out]; simp; omega
                subst this
                go_wp2_with fail
                go_meet
                exact ⟨rfl, rfl⟩
              · have : Q = false := by rw [← HQ.out]; simp; omega
                subst this
                go_wp2_with fail
                go_meet
                exact ⟨rfl, rfl⟩
            · have : Q = false := by rw [← HQ.out]; simp; omega
              subst this
              go_wp2_with fail
              go_meet
              exact ⟨rfl, rfl⟩
          · have : Q = false := by rw [← HQ.out]; simp; omega
            subst this
            go_wp2_with fail
            go_meet
            exact ⟨rfl, rfl⟩
        case rest =>
        obtain ⟨rfl, rfl⟩ := hcut
        cases Q with
        | true =>
          obtain ⟨hil, h60, hk0⟩ : i < len1 ∧ i < 60 ∧ 0 < k := of_decide_eq_true HQ.out
          rcases HA.out with h0 | ⟨qr, rfl, hqr⟩
          · omega
          rcases HW.out with h0 | ⟨c, off, rfl, hl, hlm, hbw, hc, hwz⟩
          · omega
          have hcell := cell_keeps hB hbw (hc i (by omega))
          generalize z1.getD i 0 = x at hcell
          obtain ⟨v, hv, v0, v1⟩ : ∃ v, bits .and .i64 x 255 = v ∧ 0 ≤ v ∧ v ≤ 255 := ⟨_, rfl, by rw [and_i64_255]; omega, by rw [and_i64_255]; omega⟩
          obtain ⟨J, hJ, hJk⟩ : ∃ J : Nat, v.tmod k = (J : Int) ∧ J < k := by
            have e1 := Int.emod_nonneg v (show (k : Int) ≠ 0 by omega)
            have e2 := Int.emod_lt_of_pos v (show (0 : Int) < k by omega)
            exact ⟨(v % k).toNat, by rw [Int.tmod_eq_emod_of_nonneg v0]; omega, by omega⟩
          obtain ⟨u, hu, u0, u1⟩ : ∃ v, bits .and .i64 (x / 256) 255 = v ∧ 0 ≤ v ∧ v ≤ 255 := ⟨_, rfl, by rw [and_i64_255]; omega, by rw [and_i64_255]; omega⟩
          obtain ⟨T, hTT, T0, T6⟩ : ∃ T : Int, u.tmod 7 = T ∧ 0 ≤ T ∧ T ≤ 6 := ⟨_, rfl, by rw [Int.tmod_eq_emod_of_nonneg u0]; omega, by rw [Int.tmod_eq_emod_of_nonneg u0]; omega⟩
          have kz : ((k : Int) == 0) = false := by simp; omega
          clear hc hwz HQ
          go_wp2_with fail
          go_big_quiet (fail)
          have hT6 := HT.out.drN nq
          have hS6 : RowI .i64 3 (World.drewN wr nq) qs xs := HS.out
          have hB6 := below_drN hB nq
          generalize World.drewN wr nq = W6 at *
          obtain ⟨S0, hS0, sb0, sb7⟩ : ∃ z, ws.getD J 0 % 8 = z ∧ 0 ≤ z ∧ z ≤ 7 := ⟨_, rfl, by omega, by omega⟩
          have hxJ := HXX.out J hJk
          rw [hS0] at hxJ
          obtain ⟨h5a, ru, h5b⟩ := HRR.out.2 J hJk
          have hJP : J + 1 < P := by have := HPN.out; omega
          have HT6 := Lib.hid hT6
          have HS6 := Lib.hid hS6
          have HS0 := Lib.hid hS0
          have HXJ := Lib.hid hxJ
          have HRA := Lib.hid h5a
          have HRB := Lib.hid h5b
          have hfr2 : ∀ x, own2 b g x → w.heap.size ≤ x := own2_ge HLO.out.2.2.1 HLO.out.2.2.2.1
          have hq0 := hT6.q_ge
          have hbase : w.heap.size ≤ base := by have := HLO.out; have := hT6.lt; omega
          have hfr3 : ∀ x, own3 b g mb qr x → w.heap.size ≤ x := fun x hx => by
            rcases hx with h | h | h
            · exact hfr2 x h
            · have := HLO.out; omega
            · omega
          have hn3 : ¬ own3 b g mb qr qs := fun hh => by
            rcases hh with h | h | h
            · exact HQS.out.1 h
            · exact HQS.out.2.1 h
            · exact hqr h.symm
          have HF2 := Lib.hid hfr2
          have HF3 := Lib.hid hfr3
          have HN3 := Lib.hid hn3
          clear hS0 hxJ h5a h5b hT6 hS6 hfr2 hfr3 hn3 hq0 hbase hcell hB HT HS
          cases hc : canB S0 T with
          | false =>
            obtain ⟨E, hE, hEE⟩ : ∃ E : Int, (E = 1 ∨ E = 7) ∧ (((T ≤ 0 ∨ 7 ≤ T) ∧ E = 1) ∨ (1 ≤ T ∧ T ≤ 6 ∧ canB S0 T = false ∧ E = 7)) := by
              rcases (show T = 0 ∨ 1 ≤ T from by omega) with h | h
              · exact ⟨1, .inl rfl, .inl ⟨.inl (by omega), rfl⟩⟩
              · exact ⟨7, .inr rfl, .inr ⟨h, T6, hc, rfl⟩⟩
            have e0 : (E != 0) = true := by simp; omega
            have e1 : (E == 0) = false := by simp; omega
            have HEE := Lib.hid hEE
            have HCC := Lib.hid hc
            clear hEE hc hE
            go_wp2_with fail
            refine (TTurn_bad HT6.out (by omega) J hJk (by rw [HWL.out]; omega) (by omega) T E e0 (by rw [HS0.out]; exact HEE.out)).mono ?_
            rintro e w7 ⟨rfl, hT7, hF7⟩
            have hB7 := hF7.below hB6 HF2.out
            have hS7 := HS6.out.fr hF7 HQS.out.1
            have ck := hS7.cell (J + 1) (by have := HPN.out; rw [HXL.out]; omega)
            rw [HXJ.out] at ck
            have HT7 := Lib.hid hT7
            have HS7 := Lib.hid hS7
            clear hT7 hS7 hF7 hB6
            go_wp2_with fail
            refine (ref_can_any S0 T _).mono ?_
            rintro e w8 ⟨rfl, rfl⟩
            rw [HCC.out]
            go_wp2_with fail
            go_roundg (60 - (i + 1))
            case measure => omega
            case rel => exact ⟨i + 1, ws, xs, R, rfl, by omega, by go_num, HWL.out, HW1.out, HXL.out, HXX.out, HRR.out, by have := HT7.out; rw [show (6000 : Int) + 10 * ((i + 1 : Nat) : Int) = 6000 + 10 * i + 10 from by omega]; exact ⟨this.hdr, this.ar.le (by omega), this.rows, this.map, this.lt, this.ne⟩, HS7.out, hB7⟩
          | true =>
            have hcb := can_bd hc
            have HCC := Lib.hid hc
            clear hc
            go_wp2_with fail
            refine (TTurn_ok HT6.out (by omega) J hJk (by rw [HWL.out]; omega) (by omega) T hcb.1 hcb.2 (by rw [HS0.out]; exact HCC.out) (fun x y => by have := CC_bd ws k x y; omega) (((J : Int) + 1) % 8) ru (by omega) (by omega) HRA.out HRB.out).mono ?_
            rintro e w7 ⟨rfl, hT7, hF7⟩
            have hB7 := hF7.below hB6 HF3.out
            have hS7 := HS6.out.fr hF7 HN3.out
            have ck := hS7.cell (J + 1) (by have := HPN.out; rw [HXL.out]; omega)
            have fk := hS7.free (J + 1)
            rw [HXJ.out] at ck
            rw [← CC_turn ws J (by rw [HWL.out]; omega) (nextI (ws.getD J 0) T) k hJk _ T rfl (next_mod _ T (by omega) (by omega))] at hT7
            have hS8 := hS7.set (J + 1) T
            have hB8 := hB7.setCell (p := (⟨qs, J + 1, none⟩ : Addr)) (by show w.heap.size ≤ qs; omega) (.int .i64 T)
            have hT8 := hT7.other (c := qs) (j := J + 1) hqb hqr (.int .i64 T)
            have hR8 : RowsR (if T = 4 ∨ T = 5 then R.set (J * 13 + 5) (.int .u64 (IntKind.u64.wrap (ru + 1))) else R) k := by
              split
              · exact RowsR_set5 HRR.out _ _
              · exact HRR.out
            have HR8 := Lib.hid hR8
            clear hR8
            generalize (if T = 4 ∨ T = 5 then R.set (J * 13 + 5) (.int .u64 (IntKind.u64.wrap (ru + 1))) else R) = R8 at *
            have HT8 := Lib.hid hT8
            have HS8 := Lib.hid hS8
            clear hT7 hS7 hF7 hB6 hT8 hS8
            go_wp2_with fail
            refine (ref_can_any S0 T _).mono ?_
            rintro e w8 ⟨rfl, rfl⟩
            rw [HCC.out]
            go_wp2_with fail
            go_roundg (60 - (i + 1))
            case measure => omega
            case rel => exact ⟨i + 1, ws.set J (nextI (ws.getD J 0) T), xs.set (J + 1) T, R8, rfl, by omega, by go_num, by rw [List.length_set]; exact HWL.out, (by
              intro j hj
              rw [getD_set_any]
              split
              · rw [next_mod _ T (by omega) (by omega)]; omega
              · exact HW1.out j hj), by rw [List.length_set]; exact HXL.out, (by
              intro j hj
              have h6 := HWL.out
              have h7 := HXL.out
              have h8 := HPN.out
              rw [getD_set_any, getD_set_any]
              by_cases e : J = j
              · subst e
                rw [if_pos ⟨rfl, by omega⟩, if_pos ⟨rfl, by omega⟩, next_mod _ T (by omega) (by omega)]
              · rw [if_neg (by omega), if_neg (by omega)]
                exact HXX.out j hj), HR8.out, by have := HT8.out; rw [show (6000 : Int) + 10 * ((i + 1 : Nat) : Int) = 6000 + 10 * i + 10 from by omega]; exact ⟨this.hdr, this.ar.le (by omega), this.rows, this.map, this.lt, this.ne⟩, HS8.out, hB8⟩
        | false =>
          have hsum : sumN ws k 7 = k := by
            have := cntN_all ws k (fun j hj => (HW1.out j hj).2)
            simp only [sumN]
            simpa using this
          have HSUM := Lib.hid hsum
          clear hsum HQ
          go_wp2_with fail
          go_loopg [15, 16, 17, 18] 7 (fun gg v15 v16 _ _ wx => ∃ s : Nat, gg = 7 - s ∧ s ≤ 7 ∧ v16 = .int .i64 s ∧ v15 = .int .i64 (sumN ws k s) ∧ wr = wx)
          case atStart => exact ⟨0, rfl, by omega, rfl, rfl, rfl⟩
          case round =>
            obtain ⟨s, rfl, hs7, rfl, rfl, rfl⟩ := hrel
            by_cases hlt3 : s < 7
            · have hb := sumN_bd ws k s (by omega)
              obtain ⟨SU, hSU⟩ : ∃ z, sumN ws k s = z := ⟨_, rfl⟩
              rw [hSU] at hb ⊢
              have HSU := Lib.hid hSU
              clear hSU
              have g7 : decide ((s : Int) < 7) = true := by simp; omega
              have g7b : decide (s < 7) = true := by simpa using hlt3
              go_wp2_with fail
              go_loopg [17, 18] k (fun gg v17 v18 wx => ∃ j : Nat, gg = k - j ∧ j ≤ k ∧ v18 = .int .i64 ((j : Int) + 1) ∧ v17 = .int .i64 (cntN ws j s) ∧ wr = wx)
              case atStart => exact ⟨0, by omega, by omega, rfl, rfl, rfl⟩
              case round =>
                obtain ⟨j, rfl, hj, rfl, rfl, rfl⟩ := hrel
                have hcb := cntN_bd ws j s
                by_cases hlt4 : j < k
                · have g5 : decide ((j : Int) + 1 ≤ k) = true := by simp; omega
                  have g5b : decide (j + 1 ≤ k) = true := by simp; omega
                  have hjP : j + 1 < P := by have := HPN.out; omega
                  have ck := HS.out.cell (j + 1) (by have := HPN.out; rw [HXL.out]; omega)
                  have hxj := HXX.out j hlt4
                  have hstep : cntN ws (j + 1) s = cntN ws j s + (if ws.getD j 0 % 8 = s then 1 else 0) := rfl
                  obtain ⟨S0, hS0⟩ : ∃ z, ws.getD j 0 % 8 = z := ⟨_, rfl⟩
                  obtain ⟨C0, hC0⟩ : ∃ z, cntN ws j s = z := ⟨_, rfl⟩
                  rw [hS0] at hxj hstep
                  rw [hC0] at hstep hcb
                  rw [hxj] at ck
                  rw [hC0]
                  have HST := Lib.hid hstep
                  clear hxj hS0 hC0 hstep
                  by_cases e : S0 = s
                  · subst e
                    go_wp2_with fail
                    go_roundg (k - (j + 1))
                    case measure => omega
                    case rel => exact ⟨j + 1, rfl, by omega, by go_num, by rw [HST.out]; simp, rfl⟩
                  · have g6 : (S0 == (s : Int)) = false := by simpa using e
                    go_wp2_with fail
                    go_roundg (k - (j + 1))
                    case measure => omega
                    case rel => exact ⟨j + 1, rfl, by omega, by go_num, by rw [HST.out, if_neg e, Int.add_zero], rfl⟩
                · obtain rfl : j = k := by omega
                  have g5 : decide ((j : Int) + 1 ≤ j) = false := by simp; omega
                  have hSs : sumN ws j (s + 1) = sumN ws j s + cntN ws j s := rfl
                  have hcc := sumC_CC ws j s
                  obtain ⟨C0, hC0⟩ : ∃ z, cntN ws j s = z := ⟨_, rfl⟩
                  rw [HSU.out, hC0] at hSs
                  rw [hC0] at hcb hcc ⊢
                  have HCC := Lib.hid hcc
                  have HSS := Lib.hid hSs
                  clear hSs hC0 hcc
                  go_wp2_with fail
                  refine (TCount_any HT.out (fun x y => by have := CC_bd ws j x y; omega) s (by show (Lit.int .i64 (s : Int)).wf = true; simp [Lit.wf, IntKind.min, IntKind.max, IntKind.signed, IntKind.bits]; omega)).mono ?_
                  rintro e w8 ⟨rfl, rfl⟩
                  rw [HCC.out]
                  go_wp2_with fail
                  go_roundg (7 - (s + 1))
                  case measure => omega
                  case rel => exact ⟨s + 1, rfl, by omega, by go_num, by rw [HSS.out], rfl⟩
            · obtain rfl : s = 7 := by omega
              rw [HSUM.out]
              go_wp2_with fail
              refine (TMake_prio 8 2 0 0 0 0 0 (by decide) _ _).mono ?_
              rintro e w8 ⟨rfl, hB8⟩
              have hT8 := HT.out.below hB8
              have hB9 := below_step hB8 hB
              have HT8 := Lib.hid hT8
              clear hT8 hB8 hB
              go_wp2_with fail
              refine (TLen_any HT8.out (by omega)).mono ?_
              rintro e w9 ⟨rfl, rfl⟩
              go_wp2_with fail
              refine (awake17 _).mono ?_
              rintro e w10 ⟨rfl, hB10⟩
              go_wp2_with fail
              go_ret
              exact ⟨rfl, below_step hB10 hB9⟩

set_option maxRecDepth 100000 in
theorem lifted (os : Os) (started : os.Started) (H : Type) (enc : TypeId × Value → H) :
    ReturnsInHanded {} Try.checked os 15 .any (Rows.tableCountsSpec.pre6 enc Try.prog Try.f15 Rows.tableCountsRow.domain false) (Rows.tableCountsSpec.post enc Try.prog Try.f15 false true false false) := by
  refine returnsInHanded_of_change (C := Try.checked) own started (by kernel_rfl) Try.func15
    (ChangeSpec.witness6 (enc := enc) (C := Try.checked) false ⟨#[], #[.int .i64 0, .slice none 0 0], []⟩ 8 (by kernel_rfl) (by kernel_rfl) (by kernel_rfl) (by kernel_rfl)) ?_
  intro W base args ds gs before hval0 hW hcnd _
  have hval : ∀ (j : Nat) t v, Try.f15.params[j]? = some t → args[j]? = some v → Value.okWide Try.prog W .any base t v := hval0
  have hW' := hW
  obtain ⟨p, q, hA0, hV, rfl, hfz, hnd⟩ := hW
  have hA : DataW.TrodAll enc Try.prog W 0 (fun _ => true) true Try.f15.params.toList args.toList ds p := hA0
  rw [Try.params15] at hA hval
  obtain ⟨v0, vs0, d0, ds0, p0, q0, hargs, rfl, rfl, h0, r0⟩ := trodAll_cons hA
  obtain ⟨v1, vs1, d1, ds1, p1, q1, rfl, rfl, rfl, h1, r1⟩ := trodAll_cons r0
  obtain ⟨rfl, rfl, rfl⟩ := trodAll_nil r1
  obtain rfl : args = #[v0, v1] := by cases args; simp_all
  obtain ⟨rfl, rfl⟩ := trodVars_none hV
  obtain ⟨a0, rfl, rfl, rfl, w0⟩ := open_int Try.underlying3 (hval 0 3 v0 rfl rfl) h0
  obtain ⟨a1, len1, cap1, rfl⟩ := okWide_slice Try.underlying22 (hval 1 22 v1 rfl rfl)
  have k1 := h1
  have lt1 : ∀ x ∈ p1, x.block < W.heap.size := by obtain ⟨m, hm⟩ := k1; exact DataW.trod_lt m _ _ _ hm
  obtain ⟨z1, w1⟩ : ∃ zs, IsRow .i64 W a1 len1 cap1 zs := by
    obtain ⟨fuel, hf⟩ := h1
    rcases open_ints Try.underlying22 Try.underlying3 (by kernel_rfl) hf with ⟨hcs, _⟩ | ⟨x, l, c, zs, hcs, _, hl, hm, hz, _, hcell, hwz⟩
    · simp [Value.cells] at hcs
      obtain ⟨rfl, rfl, rfl⟩ := hcs
      exact ⟨[], .inl ⟨rfl, rfl, rfl, rfl⟩⟩
    · simp [Value.cells] at hcs
      obtain ⟨rfl, rfl, rfl⟩ := hcs
      exact ⟨zs, .inr ⟨_, rfl, hl, hm, by simpa using hz, hcell, hwz⟩⟩
  clear hA0 hval0
  refine (walk a0 a1 len1 cap1 z1 W w0 w1).mono fun e W' ⟨he, bel⟩ => ?_
  subst he
  exact ⟨_, rfl, _, _, _, [], _, [], hW', trodAll_mk1 (shut_bool Try.underlying4 _), (trodAll_cons_mk (shut_int Try.underlying3 w0) (trodAll_cons_mk (Below.trod laidOut (by kernel_rfl) (of_decide_eq_true (by kernel_rfl)) k1 bel lt1) trodAll_mk0)), rfl, bel.frame _, fun h => by cases h⟩

theorem over : Rows.tableCountsRow.holds Try.pinned (OpenSpec.ofChange Rows.tableCountsSpec) :=
  OpenClaim.holds_of_wide 15 Try.f15 rfl rfl rfl rfl rfl rfl rfl ⟨rfl, rfl, rfl, rfl, rfl⟩ rfl rfl rfl rfl rfl (by kernel_rfl) Try.func15 (by kernel_rfl)
    (of_decide_eq_true (by kernel_rfl)) (by unfold Func.isWrapper; first | (rw [if_pos (by decide +kernel)]; kernel_rfl) | (rw [if_neg (by decide +kernel)]; exact ⟨rfl, rfl⟩))
    (fun os started H enc _ => lifted os started H enc)

theorem proved : Rows.TableCountsSaid := over
#print axioms proved
end Go.Proofs.Ytpcbcnheogjofaa.tableCounts
