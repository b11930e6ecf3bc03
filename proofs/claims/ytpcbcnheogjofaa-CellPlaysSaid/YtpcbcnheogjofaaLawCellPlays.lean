/- Law CellPlays proved: for any number and any accesses the call returns true, under no condition.
   The frame below the walk was written by the kit's proof-skeleton.mjs. -/
import Derived.Test.YtpcbcnheogjofaaRows
import Derived.WalkKit
import Derived.ProofKit
import Derived.OpenShut
import Derived.ShutString
import Derived.ChangeOld
import Derived.Below
import Derived.Lib.SmallJoins
import Derived.Test.YtpcbcnheogjofaaCellAwake
import Derived.Test.YtpcbcnheogjofaaCellRef
import Derived.Test.YtpcbcnheogjofaaOpen
import Derived.Deep.RegionHeld3
import Derived.Deep.DeepCutAuto
import Derived.BigQuiet
import Derived.Deep.LoopGhost
namespace Go.Proofs.Ytpcbcnheogjofaa.cellPlays
open Go.ChangeShapes Go.WideShapes Go.ChangeAt Go.RowKit
open Go.ChangeMaps (open_string shut_string)
set_option linter.unusedVariables false

theorem own : ownKnob Try.prog.godebug = none := by kernel_rfl
theorem laidOut : laidOutB Try.prog = true := by kernel_rfl

def kd1 : Nat → IntKind := fun j => match j with | 0 => .i64 | 1 => .i64 | 2 => .u64 | 3 => .u64 | _ => .i64

theorem cell_frr {S : Nat → Prop} {X w' : World} {d i : Nat} {u : Value} (f : Fr S X w') (hn : ¬ S d) (h : X.cell? ⟨d, i, none⟩ = some u) : w'.cell? ⟨d, i, none⟩ = some u := by
  have hb := World.block_lt_of_cell? X _ h
  have hk : w'.heap[d]? = X.heap[d]? := f.block d hb hn
  simp only [World.cell?, hk] at h ⊢
  exact h
theorem keepD {S : Nat → Prop} {X w' : World} {d : Nat} {u v z : Value} (f : Fr S X w') (hn : ¬ S d) (h : X.cell? ⟨d, 1, none⟩ = some u ∧ X.cell? ⟨d, 2, none⟩ = some v ∧ X.cell? ⟨d, 3, none⟩ = some z) : w'.cell? ⟨d, 1, none⟩ = some u ∧ w'.cell? ⟨d, 2, none⟩ = some v ∧ w'.cell? ⟨d, 3, none⟩ = some z :=
  ⟨cell_frr f hn h.1, cell_frr f hn h.2.1, cell_frr f hn h.2.2⟩
set_option maxRecDepth 100000 in
set_option maxHeartbeats 8000000 in

theorem walk (a0 : Int) (a1 : Option Addr) (len1 cap1 : Nat) (w : World) (w0 : (Lit.int .i64 a0).wf = true) (w1 : IsOps 4 kd1 w a1 len1) :
    Calls Try.prog 6 #[.int .i64 a0, .slice a1 len1 cap1] w fun e w' => e = .returned (.bool true) ∧ Below w.heap.size w w' := by
  have HO := Lib.hid (own2_ge w.heap.size)
  obtain ⟨x0, x1⟩ := i64_of_wf w0
  clear w0
  by_cases hbad : a0 < 1 ∨ 4096 < a0
  · rcases hbad with hb | hb
    · have h20 : ¬ (20 < a0) := by omega
      go_enter Try.func6, Try.ntmps6
      go_wp2_with fail
      refine (New_out a0 (Or.inl hb) _).mono ?_
      rintro e w1 ⟨rfl, rfl⟩
      go_wp2_with fail
      refine (awake3 _).mono ?_
      rintro e w2 ⟨rfl, hb⟩
      go_wp2_with fail
      go_ret
      exact ⟨rfl, hb⟩
    · have h20 : 20 < a0 := by omega
      have h1 : ¬ (a0 < 1) := by omega
      go_enter Try.func6, Try.ntmps6
      go_wp2_with fail
      refine (New_out a0 (Or.inr hb) _).mono ?_
      rintro e w1 ⟨rfl, rfl⟩
      go_wp2_with fail
      refine (awake3 _).mono ?_
      rintro e w2 ⟨rfl, hb⟩
      go_wp2_with fail
      go_ret
      exact ⟨rfl, hb⟩
  · obtain ⟨N, hN, N1, N20⟩ : ∃ N : Nat, ((a0 ≤ 20 ∧ (N : Int) = a0) ∨ (20 < a0 ∧ a0 % 20 + 1 = (N : Int))) ∧ 1 ≤ N ∧ N ≤ 20 := by
      rcases Int.lt_or_le 20 a0 with h | h
      · exact ⟨(a0 % 20 + 1).toNat, Or.inr ⟨h, by omega⟩, by omega, by omega⟩
      · exact ⟨a0.toNat, Or.inl ⟨h, by omega⟩, by omega, by omega⟩
    have HB := Lib.hid hbad
    clear hbad
    have hmk := make_words N (by omega)
    have HW := Lib.hid w1
    clear w1
    go_enter Try.func6, Try.ntmps6
    go_upto_region 1 with fail
    go_cut [22] (fun v22 wx => v22 = .bool (decide (20 < a0)) ∧ w = wx)
    case first =>
      rcases hN with ⟨h, h'⟩ | ⟨h, h'⟩
      · have h20 : ¬ (20 < a0) := by omega
        go_wp2_with fail
        go_meet
        exact ⟨by simp; omega, rfl⟩
      · have h4 : a0 ≤ 4096 := by have := HB.out; omega
        go_wp2_with fail
        go_meet
        exact ⟨by simp; omega, rfl⟩
    case rest =>
    obtain ⟨rfl, rfl⟩ := hcut
    go_upto_if 22 with fail
    go_cut [0] (fun v0 wx => v0 = .int .i64 N ∧ w = wx)
    case first =>
      rcases hN with ⟨h, h'⟩ | ⟨h, h'⟩
      · have h20 : ¬ (20 < a0) := by omega
        have dd : decide (20 < a0) = false := by simp; omega
        go_wp2_with fail
        go_meet
        exact ⟨by rw [h'], rfl⟩
      · have dd : decide (20 < a0) = true := by simp; omega
        go_wp2_with fail
        go_meet
        exact ⟨rfl, rfl⟩
    case rest =>
    obtain ⟨rfl, rfl⟩ := hcut
    clear hN x0 x1
    have hnp : ¬ ((N : Int) < 1) := by omega
    have hnq : ¬ (4096 < (N : Int)) := by omega
    go_wp2_with fail
    refine (New_in N (by omega) (by omega) _).mono ?_
    rintro e w1 ⟨rfl, hM0, hB0⟩
    rw [Int.toNat_natCast] at hM0
    go_wp2_with fail
    refine (Len_any hM0).mono ?_
    rintro e w2 ⟨rfl, rfl⟩
    rw [List.length_replicate]
    go_wp2_with fail
    have hM1 := (hM0.al (.cells (Array.replicate N (Value.int .u64 0)) 29)).al (.cells #[.slice (some ⟨w1.heap.size, 0, none⟩) N N, .int .i64 0, .int .i64 0, .int .i64 0, .int .i64 0] 44)
    have hB1 := below_al (below_al hB0 (.cells (Array.replicate N (Value.int .u64 0)) 29)) (.cells #[.slice (some ⟨w1.heap.size, 0, none⟩) N N, .int .i64 0, .int .i64 0, .int .i64 0, .int .i64 0] 44)
    have hA1 : RefAt ((w1.alloc (.cells (Array.replicate N (Value.int .u64 0)) 29)).alloc (.cells #[.slice (some ⟨w1.heap.size, 0, none⟩) N N, .int .i64 0, .int .i64 0, .int .i64 0, .int .i64 0] 44)) (w1.heap.size + 1) w1.heap.size (List.replicate N 0) 0 0 0 0 := by
      refine ⟨?_, ?_, by omega, by simp; omega, by decide, by decide, by decide⟩
      · rw [alloc_at (by simp)]
        simp
      · refine (alloc_old (alloc_at rfl)).trans ?_
        simp
    refine (Last_any hM1).mono ?_
    rintro e w2 ⟨rfl, nd, rfl⟩
    have hM2 := hM1.drN nd
    have hB2 := below_drN hB1 nd
    have hA2 := hA1.drN nd
    have hlt1 : w.heap.size + 1 < w1.heap.size := (Array.getElem?_eq_some_iff.1 hM0.hdr).1
    clear hM1 hB1 hA1 hM0 hB0
    generalize hr : w1.heap.size = r at *
    generalize hwx : World.drewN _ nd = wx at hM2 hB2 hA2 ⊢
    have n1 : w.heap.size + 1 ≠ r := by omega
    have n2 : w.heap.size + 1 ≠ r + 1 := by omega
    have n3 : w.heap.size ≠ r := by omega
    have n4 : w.heap.size ≠ r + 1 := by omega
    have HN := Lib.hid (show ∀ k, own2 (w.heap.size + 1) w.heap.size k → ¬ own2 (r + 1) r k from fun k h h' => by rcases h with h | h <;> rcases h' with h' | h' <;> omega)
    have HR := Lib.hid (show ∀ k, own2 (r + 1) r k → w.heap.size ≤ k from fun k h => by rcases h with h | h <;> omega)
    have HWX := Lib.hid hwx
    clear hwx hr hlt1 n1 n2 n3 n4
    have d0 : decide ((0 : Int) < 0) = false := by decide
    go_wp2_with fail
    go_loopg [11, 12, 13, 14, 15] 60 (fun g v11 _ _ _ _ wr => ∃ (k : Nat) (ws : List Int) (st wi at_ kd : Int), g = 60 - k ∧ k ≤ 60 ∧ k ≤ len1 ∧ v11 = .int .i64 k ∧ ws.length = N ∧ st ≤ k ∧ MemAt wr (w.heap.size + 1) w.heap.size ws st wi at_ kd ∧ RefAt wr (r + 1) r ws st wi at_ kd ∧ Below w.heap.size w wr)
    case atStart => exact ⟨0, _, _, _, _, _, rfl, by omega, by omega, rfl, by simp, by decide, hM2, hA2, hB2⟩
    case round =>
      clear hM2 hA2 hB2 HWX
      obtain ⟨k, ws, st, wi, at_, kd, rfl, hk, hkl, rfl, hws, hst, hM, hA, hB⟩ := hrel
      by_cases hlt : k < len1 ∧ k < 60
      · obtain ⟨hlen, h60⟩ := hlt
        rcases HW.out with h0 | ⟨b, off, F, rfl, hlm, hbw, hc⟩
        · omega
        have hc0 := cell_keeps hB hbw (hc k 0 hlen (by decide)).1
        have hc1 := cell_keeps hB hbw (hc k 1 hlen (by decide)).1
        have hc2 := cell_keeps hB hbw (hc k 2 hlen (by decide)).1
        have hc3 := cell_keeps hB hbw (hc k 3 hlen (by decide)).1
        obtain ⟨i0, i1⟩ := i64_of_wf (hc k 1 hlen (by decide)).2
        simp only [kd1, ← Nat.add_assoc, Nat.add_zero] at hc0 hc1 hc2 hc3
        generalize F k 0 = kind at hc0
        generalize F k 1 = I at hc1 i0 i1
        generalize F k 2 = A at hc2
        generalize F k 3 = B at hc3
        go_upto_block 2 with fail
        obtain ⟨W1, hW1⟩ : ∃ W1, wr.alloc (.cells #[.int .i64 kind, .int .i64 I, .int .u64 A, .int .u64 B] 40) = W1 := ⟨_, rfl⟩
        have hWd : W1.heap[wr.heap.size]? = some (.cells #[.int .i64 kind, .int .i64 I, .int .u64 A, .int .u64 B] 40 (0, 0)) := by rw [← hW1]; exact alloc_at rfl
        have e0 : W1.cell? ⟨wr.heap.size, 0, none⟩ = some (.int .i64 kind) := by simp [World.cell?, hWd]
        have e1 : W1.cell? ⟨wr.heap.size, 1, none⟩ = some (.int .i64 I) := by simp [World.cell?, hWd]
        have e2 : W1.cell? ⟨wr.heap.size, 2, none⟩ = some (.int .u64 A) := by simp [World.cell?, hWd]
        have e3 : W1.cell? ⟨wr.heap.size, 3, none⟩ = some (.int .u64 B) := by simp [World.cell?, hWd]
        have hM1 : MemAt W1 (w.heap.size + 1) w.heap.size ws st wi at_ kd := by rw [← hW1]; exact hM.al _
        have hA1 : RefAt W1 (r + 1) r ws st wi at_ kd := by rw [← hW1]; exact hA.al _
        have hB1 : Below w.heap.size w W1 := by rw [← hW1]; exact below_al hB _
        have m1 := (Array.getElem?_eq_some_iff.1 hM.hdr).1
        have m2 := (Array.getElem?_eq_some_iff.1 hM.row).1
        have m3 := (Array.getElem?_eq_some_iff.1 hA.hdr).1
        have m4 := (Array.getElem?_eq_some_iff.1 hA.row).1
        rw [hW1]
        clear hW1 hWd hM hA hB hc hc0 hc1 hc2 hc3
        obtain ⟨d, hd⟩ : ∃ d, wr.heap.size = d := ⟨_, rfl⟩
        rw [hd] at m1 m2 m3 m4 e0 e1 e2 e3 ⊢
        have HD1 := Lib.hid (show ¬ own2 (w.heap.size + 1) w.heap.size d from fun h => by rcases h with h | h <;> omega)
        have HD2 := Lib.hid (show ¬ own2 (r + 1) r d from fun h => by rcases h with h | h <;> omega)
        clear hd m1 m2 m3 m4
        have HN1 := Lib.hid (show ¬ own2 (w.heap.size + 1) w.heap.size (r + 1) from fun h => HN.out _ h (Or.inl rfl))
        have HN2 := Lib.hid (show ¬ own2 (w.heap.size + 1) w.heap.size r from fun h => HN.out _ h (Or.inr rfl))
        have HN3 := Lib.hid (show ¬ own2 (r + 1) r (w.heap.size + 1) from fun h => HN.out _ (Or.inl rfl) h)
        have HN4 := Lib.hid (show ¬ own2 (r + 1) r w.heap.size from fun h => HN.out _ (Or.inr rfl) h)
        go_cut [] (fun wc => ∃ (ws : List Int) (st wi at_ kd : Int), ws.length = N ∧ st ≤ k + 1 ∧ MemAt wc (w.heap.size + 1) w.heap.size ws st wi at_ kd ∧ RefAt wc (r + 1) r ws st wi at_ kd ∧ Below w.heap.size w wc)
        case first =>
          by_cases hin : 0 ≤ I ∧ I < ws.length
          · obtain ⟨I0, I1⟩ := hin
            by_cases k1 : kind = 1
            · subst k1
              as_aux_lemma =>
                go_wp2_with fail
                have hMd := hM1.dr
                have hAd := hA1.dr
                go_region_held3 (fun w' => w'.cell? ⟨d, 1, none⟩ = some (.int .i64 I) ∧ w'.cell? ⟨d, 2, none⟩ = some (.int .u64 A) ∧ w'.cell? ⟨d, 3, none⟩ = some (.int .u64 B)) ((first | exact ⟨e1, e2, e3⟩ | assumption | exact keepD hF2 HD1.out (by assumption) | exact keepD hF3 HD2.out (by assumption))) (first | (go_at_call 19; refine (Load_in hMd (by omega) I I0 I1).mono ?_; rintro e w2 ⟨rfl, hM2, hF2⟩) | (go_at_call 28; refine (RLoad_in (hAd.fr hF2 HN1.out HN2.out) (by omega) I I0 I1).mono ?_; rintro e w3 ⟨rfl, hA3, hF3⟩))
                go_wp2_with fail
                go_meet
                exact ⟨_, _, _, _, _, hws, by omega, hM2.fr hF3 HN3.out HN4.out, hA3, hF3.below (hF2.below (below_dr hB1) HO.out) HR.out⟩
            · have d1 : (kind == 1) = false := by simpa using k1
              by_cases k2 : kind = 2
              · subst k2
                as_aux_lemma =>
                  go_wp2_with fail
                  refine (Store_in hM1 (by omega) I I0 I1 A).mono ?_
                  rintro e w2 ⟨rfl, hM2, hF2⟩
                  have g1 := cell_frr hF2 HD1.out e1
                  have g2 := cell_frr hF2 HD1.out e2
                  go_wp2_with fail
                  refine (RStore_in (hA1.fr hF2 HN1.out HN2.out) (by omega) I I0 I1 A).mono ?_
                  rintro e w3 ⟨rfl, hA3, hF3⟩
                  go_wp2_with fail
                  go_meet
                  exact ⟨_, _, _, _, _, by simpa using hws, by omega, hM2.fr hF3 HN3.out HN4.out, hA3, hF3.below (hF2.below hB1 HO.out) HR.out⟩
              · have d2 : (kind == 2) = false := by simpa using k2
                by_cases k3 : kind = 3
                · subst k3
                  by_cases hhit : ws.getD I.toNat 0 = A
                  · have hh : (ws.getD I.toNat 0 != A) = false := by simpa using hhit
                    clear hhit
                    as_aux_lemma =>
                      go_wp2_with fail
                      have hMd := hM1.dr
                      have hAd := hA1.dr
                      go_region_held3 (fun w' => w'.cell? ⟨d, 1, none⟩ = some (.int .i64 I) ∧ w'.cell? ⟨d, 2, none⟩ = some (.int .u64 A) ∧ w'.cell? ⟨d, 3, none⟩ = some (.int .u64 B)) ((first | exact ⟨e1, e2, e3⟩ | assumption | exact keepD hF2 HD1.out (by assumption) | exact keepD hF3 HD2.out (by assumption))) (first | (go_at_call 20; refine (CAS_hit hMd (by omega) I I0 I1 A B hh).mono ?_; rintro e w2 ⟨rfl, hM2, hF2⟩) | (go_at_call 30; refine (RCAS_hit (hAd.fr hF2 HN1.out HN2.out) (by omega) I I0 I1 A B hh).mono ?_; rintro e w3 ⟨rfl, hA3, hF3⟩))
                      go_wp2_with fail
                      go_meet
                      exact ⟨_, _, _, _, _, by simpa using hws, by omega, hM2.fr hF3 HN3.out HN4.out, hA3, hF3.below (hF2.below (below_dr hB1) HO.out) HR.out⟩
                  · have hh : (ws.getD I.toNat 0 != A) = true := by simpa using hhit
                    clear hhit
                    as_aux_lemma =>
                      go_wp2_with fail
                      have hMd := hM1.dr
                      have hAd := hA1.dr
                      go_region_held3 (fun w' => w'.cell? ⟨d, 1, none⟩ = some (.int .i64 I) ∧ w'.cell? ⟨d, 2, none⟩ = some (.int .u64 A) ∧ w'.cell? ⟨d, 3, none⟩ = some (.int .u64 B)) ((first | exact ⟨e1, e2, e3⟩ | assumption | exact keepD hF2 HD1.out (by assumption) | exact keepD hF3 HD2.out (by assumption))) (first | (go_at_call 20; refine (CAS_miss hMd (by omega) I I0 I1 A B hh).mono ?_; rintro e w2 ⟨rfl, hM2, hF2⟩) | (go_at_call 30; refine (RCAS_miss (hAd.fr hF2 HN1.out HN2.out) (by omega) I I0 I1 A B hh).mono ?_; rintro e w3 ⟨rfl, hA3, hF3⟩))
                      go_wp2_with fail
                      go_meet
                      exact ⟨_, _, _, _, _, hws, by omega, hM2.fr hF3 HN3.out HN4.out, hA3, hF3.below (hF2.below (below_dr hB1) HO.out) HR.out⟩
                · have d3 : (kind == 3) = false := by simpa using k3
                  as_aux_lemma =>
                    go_wp2_with fail
                    have hMd := hM1.dr
                    have hAd := hA1.dr
                    go_region_held3 (fun w' => w'.cell? ⟨d, 1, none⟩ = some (.int .i64 I) ∧ w'.cell? ⟨d, 2, none⟩ = some (.int .u64 A) ∧ w'.cell? ⟨d, 3, none⟩ = some (.int .u64 B)) ((first | exact ⟨e1, e2, e3⟩ | assumption | exact keepD hF2 HD1.out (by assumption) | exact keepD hF3 HD2.out (by assumption))) (first | (go_at_call 23; refine (Add_in hMd (by omega) I I0 I1 A).mono ?_; rintro e w2 ⟨rfl, hM2, hF2⟩) | (go_at_call 31; refine (RAdd_in (hAd.fr hF2 HN1.out HN2.out) (by omega) I I0 I1 A).mono ?_; rintro e w3 ⟨rfl, hA3, hF3⟩))
                    go_wp2_with fail
                    go_meet
                    exact ⟨_, _, _, _, _, by simpa using hws, by omega, hM2.fr hF3 HN3.out HN4.out, hA3, hF3.below (hF2.below (below_dr hB1) HO.out) HR.out⟩
          · have hout : I < 0 ∨ ws.length ≤ I := by omega
            clear hin
            by_cases k1 : kind = 1
            · subst k1
              as_aux_lemma =>
                go_wp2_with fail
                have hMd := hM1.dr
                have hAd := hA1.dr
                go_region_held3 (fun w' => w'.cell? ⟨d, 1, none⟩ = some (.int .i64 I) ∧ w'.cell? ⟨d, 2, none⟩ = some (.int .u64 A) ∧ w'.cell? ⟨d, 3, none⟩ = some (.int .u64 B)) ((first | exact ⟨e1, e2, e3⟩ | assumption | exact keepD hF2 HD1.out (by assumption) | exact keepD hF3 HD2.out (by assumption))) (first | (go_at_call 19; refine (Load_out hMd I hout).mono ?_; rintro e w2 ⟨rfl, rfl⟩) | (go_at_call 28; refine (RLoad_out hAd I hout).mono ?_; rintro e w3 ⟨rfl, rfl⟩))
                go_wp2_with fail
                go_meet
                exact ⟨_, _, _, _, _, hws, by omega, hMd, hAd, below_dr hB1⟩
            · have d1 : (kind == 1) = false := by simpa using k1
              by_cases k2 : kind = 2
              · subst k2
                as_aux_lemma =>
                  go_wp2_with fail
                  refine (Store_out hM1 I hout A).mono ?_
                  rintro e w2 ⟨rfl, rfl⟩
                  go_wp2_with fail
                  refine (RStore_out hA1 I hout A).mono ?_
                  rintro e w3 ⟨rfl, rfl⟩
                  go_wp2_with fail
                  go_meet
                  exact ⟨_, _, _, _, _, hws, by omega, hM1, hA1, hB1⟩
              · have d2 : (kind == 2) = false := by simpa using k2
                by_cases k3 : kind = 3
                · subst k3
                  as_aux_lemma =>
                    go_wp2_with fail
                    have hMd := hM1.dr
                    have hAd := hA1.dr
                    go_region_held3 (fun w' => w'.cell? ⟨d, 1, none⟩ = some (.int .i64 I) ∧ w'.cell? ⟨d, 2, none⟩ = some (.int .u64 A) ∧ w'.cell? ⟨d, 3, none⟩ = some (.int .u64 B)) ((first | exact ⟨e1, e2, e3⟩ | assumption | exact keepD hF2 HD1.out (by assumption) | exact keepD hF3 HD2.out (by assumption))) (first | (go_at_call 20; refine (CAS_out hMd I hout A B).mono ?_; rintro e w2 ⟨rfl, rfl⟩) | (go_at_call 30; refine (RCAS_out hAd I hout A B).mono ?_; rintro e w3 ⟨rfl, rfl⟩))
                    go_wp2_with fail
                    go_meet
                    exact ⟨_, _, _, _, _, hws, by omega, hMd, hAd, below_dr hB1⟩
                · have d3 : (kind == 3) = false := by simpa using k3
                  as_aux_lemma =>
                    go_wp2_with fail
                    have hMd := hM1.dr
                    have hAd := hA1.dr
                    go_region_held3 (fun w' => w'.cell? ⟨d, 1, none⟩ = some (.int .i64 I) ∧ w'.cell? ⟨d, 2, none⟩ = some (.int .u64 A) ∧ w'.cell? ⟨d, 3, none⟩ = some (.int .u64 B)) ((first | exact ⟨e1, e2, e3⟩ | assumption | exact keepD hF2 HD1.out (by assumption) | exact keepD hF3 HD2.out (by assumption))) (first | (go_at_call 23; refine (Add_out hMd I hout A).mono ?_; rintro e w2 ⟨rfl, rfl⟩) | (go_at_call 31; refine (RAdd_out hAd I hout A).mono ?_; rintro e w3 ⟨rfl, rfl⟩))
                    go_wp2_with fail
                    go_meet
                    exact ⟨_, _, _, _, _, hws, by omega, hMd, hAd, below_dr hB1⟩
        case rest =>
          clear hM1 hA1 hB1 e0 e1 e2 e3
          obtain ⟨ws, st, wi, at_, kd, hws, hst, hM, hA, hB⟩ := hcut
          go_wp2_with fail
          refine (Last_any hM).mono ?_
          rintro e w2 ⟨rfl, nd, rfl⟩
          have hM2 := hM.drN nd
          have hB2 := below_drN hB nd
          have hA2 := hA.drN nd
          clear hM hB hA
          generalize hwx : World.drewN _ nd = wx at hM2 hB2 hA2 ⊢
          have HWX := Lib.hid hwx
          clear hwx
          obtain ⟨f0, f1, f2, f3, f4⟩ := hA2.cells
          by_cases hpos : 0 < st
          · have dpos : decide (0 < st) = true := by simpa using hpos
            as_aux_lemma =>
              go_wp2_with fail
              go_quiet ((first | (go_at_call 25; exact Calls.quiet_of_same (same_eq (Steps_any (hM2.drN _) (by omega)))) | (go_at_call 21; exact Calls.quiet_of_same (same_eq (Wins_any (hM2.drN _) (by omega))))))
              have hM3 := hM2.drN nq
              have hB3 := below_drN hB2 nq
              have hA3 := hA2.drN nq
              clear hM2 hB2 hA2 f0 f1 f2 f3 f4
              go_wp2_with fail
              go_roundg (60 - (k + 1))
              case measure => omega
              case rel => exact ⟨k + 1, ws, st, wi, at_, kd, rfl, by omega, by omega, by go_num, hws, by omega, hM3, hA3, hB3⟩
          · have dpos : decide (0 < st) = false := by simpa using hpos
            as_aux_lemma =>
              go_wp2_with fail
              go_quiet ((first | (go_at_call 25; exact Calls.quiet_of_same (same_eq (Steps_any (hM2.drN _) (by omega)))) | (go_at_call 21; exact Calls.quiet_of_same (same_eq (Wins_any (hM2.drN _) (by omega))))))
              have hM3 := hM2.drN nq
              have hB3 := below_drN hB2 nq
              have hA3 := hA2.drN nq
              clear hM2 hB2 hA2 f0 f1 f2 f3 f4
              go_wp2_with fail
              go_roundg (60 - (k + 1))
              case measure => omega
              case rel => exact ⟨k + 1, ws, st, wi, at_, kd, rfl, by omega, by omega, by go_num, hws, by omega, hM3, hA3, hB3⟩
      · by_cases hlen : k < len1
        · have h60 : ¬ k < 60 := fun h => hlt ⟨hlen, h⟩
          as_aux_lemma =>
            go_wp2_with fail
            go_loopg [16] N (fun g v16 wr => ∃ (j : Nat) (st' wi' at' kd' : Int), g = N - j ∧ j ≤ N ∧ v16 = .int .i64 j ∧ st' ≤ 60 + j ∧ MemAt wr (w.heap.size + 1) w.heap.size ws st' wi' at' kd' ∧ RefAt wr (r + 1) r ws st wi at_ kd ∧ Below w.heap.size w wr)
            case atStart => exact ⟨0, _, _, _, _, rfl, by omega, rfl, by omega, hM, hA, hB⟩
            case round =>
              clear hM hA hB
              obtain ⟨j, st', wi', at', kd', rfl, hjN, rfl, hst', hM, hA, hB⟩ := hrel
              by_cases hj : j < N
              · have c0 := hA.cells.1
                have cj := hA.word_at j (by omega)
                rw [hws] at c0
                obtain ⟨x, hx⟩ : ∃ x, ws.getD j 0 = x := ⟨_, rfl⟩
                rw [hx] at cj
                have HX := Lib.hid hx
                clear hx
                have HN1 := Lib.hid (show ¬ own2 (w.heap.size + 1) w.heap.size (r + 1) from fun h => HN.out _ h (Or.inl rfl))
                have HN2 := Lib.hid (show ¬ own2 (w.heap.size + 1) w.heap.size r from fun h => HN.out _ h (Or.inr rfl))
                have HWS := Lib.hid hws
                clear hws
                go_wp2_with fail
                have hMd := hM.dr
                have hAd := hA.dr
                go_region_held3 (fun w' => w'.cell? ⟨r + 1, 0, none⟩ = some (.slice (some ⟨r, 0, none⟩) N N) ∧ w'.cell? ⟨r, j, none⟩ = some (.int .u64 x)) ((first | exact ⟨c0, cj⟩ | assumption | exact ⟨cell_frr hF2 HN1.out c0, cell_frr hF2 HN2.out cj⟩)) (first | (go_at_call 19; refine (Load_in hMd (by omega) j (by omega) (by have := HWS.out; omega)).mono ?_; rintro e w2 ⟨rfl, hM2, hF2⟩; rw [Int.toNat_natCast, HX.out]))
                have hA2 := hAd.fr hF2 HN1.out HN2.out
                have hB2 := hF2.below (below_dr hB) HO.out
                have hws := HWS.out
                clear hM hMd hA hAd hB hF2
                go_wp2_with fail
                go_roundg (N - (j + 1))
                case measure => omega
                case rel => exact ⟨j + 1, _, _, _, _, rfl, by omega, by go_num, by omega, hM2, hA2, hB2⟩
              · obtain rfl : j = N := by omega
                go_wp2_with fail
                refine (awake3 _).mono ?_
                rintro e w2 ⟨rfl, hb⟩
                go_wp2_with fail
                go_ret
                exact ⟨rfl, below_step hb hB⟩
        · skip
          as_aux_lemma =>
            go_wp2_with fail
            go_loopg [16] N (fun g v16 wr => ∃ (j : Nat) (st' wi' at' kd' : Int), g = N - j ∧ j ≤ N ∧ v16 = .int .i64 j ∧ st' ≤ 60 + j ∧ MemAt wr (w.heap.size + 1) w.heap.size ws st' wi' at' kd' ∧ RefAt wr (r + 1) r ws st wi at_ kd ∧ Below w.heap.size w wr)
            case atStart => exact ⟨0, _, _, _, _, rfl, by omega, rfl, by omega, hM, hA, hB⟩
            case round =>
              clear hM hA hB
              obtain ⟨j, st', wi', at', kd', rfl, hjN, rfl, hst', hM, hA, hB⟩ := hrel
              by_cases hj : j < N
              · have c0 := hA.cells.1
                have cj := hA.word_at j (by omega)
                rw [hws] at c0
                obtain ⟨x, hx⟩ : ∃ x, ws.getD j 0 = x := ⟨_, rfl⟩
                rw [hx] at cj
                have HX := Lib.hid hx
                clear hx
                have HN1 := Lib.hid (show ¬ own2 (w.heap.size + 1) w.heap.size (r + 1) from fun h => HN.out _ h (Or.inl rfl))
                have HN2 := Lib.hid (show ¬ own2 (w.heap.size + 1) w.heap.size r from fun h => HN.out _ h (Or.inr rfl))
                have HWS := Lib.hid hws
                clear hws
                go_wp2_with fail
                have hMd := hM.dr
                have hAd := hA.dr
                go_region_held3 (fun w' => w'.cell? ⟨r + 1, 0, none⟩ = some (.slice (some ⟨r, 0, none⟩) N N) ∧ w'.cell? ⟨r, j, none⟩ = some (.int .u64 x)) ((first | exact ⟨c0, cj⟩ | assumption | exact ⟨cell_frr hF2 HN1.out c0, cell_frr hF2 HN2.out cj⟩)) (first | (go_at_call 19; refine (Load_in hMd (by omega) j (by omega) (by have := HWS.out; omega)).mono ?_; rintro e w2 ⟨rfl, hM2, hF2⟩; rw [Int.toNat_natCast, HX.out]))
                have hA2 := hAd.fr hF2 HN1.out HN2.out
                have hB2 := hF2.below (below_dr hB) HO.out
                have hws := HWS.out
                clear hM hMd hA hAd hB hF2
                go_wp2_with fail
                go_roundg (N - (j + 1))
                case measure => omega
                case rel => exact ⟨j + 1, _, _, _, _, rfl, by omega, by go_num, by omega, hM2, hA2, hB2⟩
              · obtain rfl : j = N := by omega
                go_wp2_with fail
                refine (awake3 _).mono ?_
                rintro e w2 ⟨rfl, hb⟩
                go_wp2_with fail
                go_ret
                exact ⟨rfl, below_step hb hB⟩

set_option maxRecDepth 100000 in
theorem lifted (os : Os) (started : os.Started) (H : Type) (enc : TypeId × Value → H) :
    ReturnsInHanded {} Try.checked os 6 .any (Rows.cellPlaysSpec.pre6 enc Try.prog Try.f6 Rows.cellPlaysRow.domain false) (Rows.cellPlaysSpec.post enc Try.prog Try.f6 false true false false) := by
  refine returnsInHanded_of_change (C := Try.checked) own started (by kernel_rfl) Try.func6
    (ChangeSpec.witness6 (enc := enc) (C := Try.checked) false ⟨#[], #[.int .i64 0, .slice none 0 0], []⟩ 8 (by kernel_rfl) (by kernel_rfl) (by kernel_rfl) (by kernel_rfl)) ?_
  intro W base args ds gs before hval0 hW hcnd _
  have hval : ∀ (j : Nat) t v, Try.f6.params[j]? = some t → args[j]? = some v → Value.okWide Try.prog W .any base t v := hval0
  have hW' := hW
  obtain ⟨p, q, hA0, hV, rfl, hfz, hnd⟩ := hW
  have hA : DataW.TrodAll enc Try.prog W 0 (fun _ => true) true Try.f6.params.toList args.toList ds p := hA0
  rw [Try.params6] at hA hval
  obtain ⟨v0, vs0, d0, ds0, p0, q0, hargs, rfl, rfl, h0, r0⟩ := trodAll_cons hA
  obtain ⟨v1, vs1, d1, ds1, p1, q1, rfl, rfl, rfl, h1, r1⟩ := trodAll_cons r0
  obtain ⟨rfl, rfl, rfl⟩ := trodAll_nil r1
  obtain rfl : args = #[v0, v1] := by cases args; simp_all
  obtain ⟨rfl, rfl⟩ := trodVars_none hV
  obtain ⟨a0, rfl, rfl, rfl, w0⟩ := open_int Try.underlying3 (hval 0 3 v0 rfl rfl) h0
  obtain ⟨a1, len1, cap1, rfl⟩ := okWide_slice Try.underlying37 (hval 1 37 v1 rfl rfl)
  have k1 := h1
  have lt1 : ∀ x ∈ p1, x.block < W.heap.size := by obtain ⟨m, hm⟩ := k1; exact DataW.trod_lt m _ _ _ hm
  have w1 : IsOps 4 kd1 W a1 len1 := by
    obtain ⟨fuel, hf⟩ := h1
    refine isOps_of kd1 Try.underlying37 Try.underlying40 (by kernel_rfl) (by kernel_rfl) (by decide) ?_ hf
    intro j f hj
    match j, hj with
    | 0, hj => simp at hj; subst hj; exact Try.underlying3
    | 1, hj => simp at hj; subst hj; exact Try.underlying3
    | 2, hj => simp at hj; subst hj; exact Try.underlying29
    | 3, hj => simp at hj; subst hj; exact Try.underlying29
    | n + 4, hj => simp at hj
  clear hA0 hval0
  refine (walk a0 a1 len1 cap1 W w0 w1).mono fun e W' ⟨he, bel⟩ => ?_
  subst he
  exact ⟨_, rfl, _, _, _, [], _, [], hW', trodAll_mk1 (shut_bool Try.underlying4 _), (trodAll_cons_mk (shut_int Try.underlying3 w0) (trodAll_cons_mk (Below.trod laidOut (by kernel_rfl) (of_decide_eq_true (by kernel_rfl)) k1 bel lt1) trodAll_mk0)), rfl, bel.frame _, fun h => by cases h⟩

theorem over : Rows.cellPlaysRow.holds Try.pinned (OpenSpec.ofChange Rows.cellPlaysSpec) :=
  OpenClaim.holds_of_wide 6 Try.f6 rfl rfl rfl rfl rfl rfl rfl ⟨rfl, rfl, rfl, rfl, rfl⟩ rfl rfl rfl rfl rfl (by kernel_rfl) Try.func6 (by kernel_rfl)
    (of_decide_eq_true (by kernel_rfl)) (by unfold Func.isWrapper; first | (rw [if_pos (by decide +kernel)]; kernel_rfl) | (rw [if_neg (by decide +kernel)]; exact ⟨rfl, rfl⟩))
    (fun os started H enc _ => lifted os started H enc)

theorem proved : Rows.CellPlaysSaid := over
#print axioms proved
end Go.Proofs.Ytpcbcnheogjofaa.cellPlays
