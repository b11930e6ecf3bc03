/- Contracts of package table, third part: turning a task. -/
import Derived.Test.YtpcbcnheogjofaaTable2
namespace Go.Proofs.Ytpcbcnheogjofaa
open Go.RowKit Go.Maps Go.Proofs.YtpcbcnheogjofaaW.PrintWords
set_option linter.unusedVariables false
set_option linter.unusedSimpArgs false

section
variable {W W' : World} {t a b g mb : Nat} {ws : List Int} {B : Int} {rv : Value} {n : Nat} {R : List Value} {C : Int → Int → Int} {base : Nat} {q cap : Nat}
theorem setBlk_heap_ne (W : World) (k : Nat) (o : Obj) (i : Nat) (h : i ≠ k) : (World.setBlk W k o).heap[i]? = W.heap[i]? := by
  show (W.heap.setIfInBounds k o)[i]? = _
  rw [Array.getElem?_setIfInBounds, if_neg (Ne.symm h)]
theorem setBlk_size (W : World) (k : Nat) (o : Obj) : (World.setBlk W k o).heap.size = W.heap.size := by simp [World.setBlk]
/-- Only block k is written. -/
theorem Fr.of_setBlk {S : Nat → Prop} (W : World) (k : Nat) (o : Obj) (hk : S k) : Fr S W (World.setBlk W k o) :=
  ⟨rfl, rfl, rfl, by rw [setBlk_size]; exact Nat.le_refl _, fun i _ hn => setBlk_heap_ne W k o i (fun e => hn (e ▸ hk))⟩
theorem TbAt.setMap (h : TbAt W t a b g mb ws B rv n R C base) {C' : Int → Int → Int} {es : Array MapEntry} {clock : Nat} (hm : CntM (World.setBlk W mb (.map es clock)) mb C') : TbAt (World.setBlk W mb (.map es clock)) t a b g mb ws B rv n R C' base := by
  obtain ⟨l1, l2, l3, l4, l5⟩ := h.lt
  obtain ⟨n1, n2, n3, n4, n5, n6, n7⟩ := h.ne
  refine ⟨(setBlk_heap_ne W mb _ t n4).trans h.hdr, h.ar.fr (Fr.of_setBlk (S := fun k => k = mb) W mb _ rfl) (fun e => n5 e.symm) (fun e => n6 e.symm) (fun e => n7 e.symm), ?_, hm, h.lt, h.ne⟩
  refine h.rows.kept (row := some mb) ⟨rfl, rfl, rfl, by rw [setBlk_size]; exact Nat.le_refl _, fun k _ hn => setBlk_heap_ne W mb _ k (fun e => hn (by rw [e]))⟩ ?_
  cases hv : rv.ownBlock with
  | none => exact .inl rfl
  | some x =>
    right
    have := (h.rows.lt x hv).1
    intro e
    injection e with e
    omega
theorem TbAt.arFr (h : TbAt W t a b g mb ws B rv n R C base) {ws' : List Int} {B' : Int} (f : Fr (own2 b g) W W') (hA : ArAt W' a b g ws' B') : TbAt W' t a b g mb ws' B' rv n R C base := by
  obtain ⟨l1, l2, l3, l4, l5⟩ := h.lt
  obtain ⟨n1, n2, n3, n4, n5, n6, n7⟩ := h.ne
  obtain ⟨fm, ⟨es, clock, h1, h2⟩, hf⟩ := h.map
  have hmlt := (Array.getElem?_eq_some_iff.1 h1).1
  have hnm : ¬ own2 b g mb := fun hh => by rcases hh with hh | hh <;> omega
  have hnt : ¬ own2 b g t := fun hh => by rcases hh with hh | hh <;> omega
  refine ⟨(f.block t (Array.getElem?_eq_some_iff.1 h.hdr).1 hnt).trans h.hdr, hA, ?_, h.map.of_block (f.block mb hmlt hnm), h.lt, h.ne⟩
  cases hv : rv.ownBlock with
  | none =>
    rcases h.rows.2 with ⟨e1, e2⟩ | ⟨g', c', cur, e1, _⟩
    · exact ⟨h.rows.1, .inl ⟨e1, e2⟩⟩
    · rw [e1] at hv; cases hv
  | some x =>
    have hx := h.rows.lt x hv
    have hnx : ¬ own2 b g x := fun hh => by rcases hh with hh | hh <;> omega
    rcases h.rows.2 with ⟨e1, e2⟩ | ⟨g', c', cur, e1, e2, e3, e4⟩
    · rw [e1] at hv; cases hv
    · rw [e1] at hv
      injection hv with hv
      have hv : g' = x := hv
      subst hv
      exact ⟨h.rows.1, .inr ⟨g', c', cur, e1, e2, (f.block g' hx.2 hnx).trans e3, e4⟩⟩
set_option maxRecDepth 100000 in
theorem TTurn_out {A : Option Addr} (h : TbAt W t a b g mb ws B (.slice A n cap) n R C base) (id s : Int) (ho : id < 1 ∨ (n : Int) < id) (hn : n ≤ 5000) : Calls Try.prog 66 #[.pointer (some ⟨t, 0, none⟩), .int .i64 id, .int .i64 s] W fun e w' => e = .returned (.int .i64 1) ∧ W = w' := by
  have HAT := Lib.hid (at_out h id ho hn)
  clear h
  go_enter Try.func66, Try.ntmps66
  go_wp2_with fail
  refine HAT.out.mono ?_
  rintro e w' ⟨rfl, rfl⟩
  go_wp2_with fail
  go_ret
  exact ⟨rfl, rfl⟩
set_option maxRecDepth 100000 in
set_option maxHeartbeats 4000000 in
theorem TTurn_bad (h : TbAt W t a b g mb ws B (.slice (some ⟨q, 0, none⟩) n cap) n R C base) (hB : B ≤ 800000000) (k : Nat) (hk : k < n) (hkw : k < ws.length) (hn : n ≤ 5000) (s : Int) (E : Int) (hE : (E != 0) = true)
    (hs : ((s ≤ 0 ∨ 7 ≤ s) ∧ E = 1) ∨ (1 ≤ s ∧ s ≤ 6 ∧ canB (ws.getD k 0 % 8) s = false ∧ E = 7)) : Calls Try.prog 66 #[.pointer (some ⟨t, 0, none⟩), .int .i64 ((k : Int) + 1), .int .i64 s] W fun e w' => e = .returned (.int .i64 E) ∧ TbAt w' t a b g mb ws (B + 2) (.slice (some ⟨q, 0, none⟩) n cap) n R C base ∧ Fr (own2 b g) W w' := by
  have HAT := Lib.hid (at_in h ((k : Int) + 1) k rfl hk hn)
  have hW := Word_in h.ar (by omega) ((k : Int) + 1) k rfl hkw
  have hwf := h.ar.wf k
  have hT : ∀ w, ArAt w a b g ws (B + 1) → Calls Try.prog 51 #[.pointer (some ⟨a, 0, none⟩), .int .i64 ((k : Int) + 1), .int .u64 (ws.getD k 0), .int .i64 s] w fun e w' => e = .returned (.tuple #[.int .u64 0, .int .i64 E]) ∧ ArAt w' a b g ws (B + 2) ∧ Fr (own2 b g) w w' := by
    intro w hA
    rcases hs with ⟨h1, rfl⟩ | ⟨h1, h2, h3, rfl⟩
    · refine (Turn_arg hA _ (ws.getD k 0) s hwf.1 hwf.2 (th_in rfl hkw) h1).mono ?_
      rintro e w' ⟨h1, rfl⟩
      exact ⟨h1, hA.le (by omega), Fr.refl _ _⟩
    · refine (Turn_state hA _ (ws.getD k 0) s k rfl hkw hwf.1 hwf.2 h1 h2 h3).mono ?_
      rintro e w' ⟨h1, h2, h3⟩
      exact ⟨h1, h2.le (by omega), h3⟩
  obtain ⟨X, hX⟩ : ∃ X, ws.getD k 0 = X := ⟨_, rfl⟩
  rw [hX] at hW hT
  obtain ⟨c0, c1, c2⟩ := h.cells
  have HW := Lib.hid hW
  have HT := Lib.hid hT
  have HH := Lib.hid h
  clear h hW hT hs hX
  go_enter Try.func66, Try.ntmps66
  go_wp2_with fail
  refine HAT.out.mono ?_
  rintro e w' ⟨rfl, rfl⟩
  go_wp2_with fail
  refine HW.out.mono ?_
  rintro e w1 ⟨rfl, hA1, hF1⟩
  have h1 := HH.out.arFr hF1 hA1
  obtain ⟨d0, d1, d2⟩ := h1.cells
  have H1 := Lib.hid h1
  clear h1 c0 c1 c2
  go_wp2_with fail
  refine (HT.out _ hA1).mono ?_
  rintro e w2 ⟨rfl, hA2, hF2⟩
  go_wp2_with fail
  go_ret
  exact ⟨rfl, H1.out.arFr hF2 hA2, hF1.trans hF2⟩
/-- The counts behind a turn. -/
def turnC (C : Int → Int → Int) (s0 s p : Int) : Int → Int → Int := updC (updC C s0 p (C s0 p - 1)) s p (updC C s0 p (C s0 p - 1) s p + 1)
def own3 (b g mb q : Nat) : Nat → Prop := fun k => own2 b g k ∨ k = mb ∨ k = q
set_option maxRecDepth 100000 in
set_option maxHeartbeats 20000000 in
theorem TTurn_ok (h : TbAt W t a b g mb ws B (.slice (some ⟨q, 0, none⟩) n cap) n R C base) (hB : B ≤ 800000000) (k : Nat) (hk : k < n) (hkw : k < ws.length) (hn : n ≤ 5000) (s : Int) (s0 : 1 ≤ s) (s1 : s ≤ 6) (hcan : canB (ws.getD k 0 % 8) s = true) (hC : ∀ x y, 0 ≤ C x y ∧ C x y ≤ 1000000) (PR RU : Int) (p0 : 0 ≤ PR) (p1 : PR ≤ 7) (hPR : R[k * 13 + 1]? = some (.int .i64 PR)) (hRU : R[k * 13 + 5]? = some (.int .u64 RU)) :
    Calls Try.prog 66 #[.pointer (some ⟨t, 0, none⟩), .int .i64 ((k : Int) + 1), .int .i64 s] W fun e w' => e = .returned (.int .i64 0) ∧ TbAt w' t a b g mb (ws.set k (nextI (ws.getD k 0) s)) (B + 2) (.slice (some ⟨q, 0, none⟩) n cap) n (if s = 4 ∨ s = 5 then R.set (k * 13 + 5) (.int .u64 (IntKind.u64.wrap (RU + 1))) else R) (turnC C (ws.getD k 0 % 8) s PR) base ∧ Fr (own3 b g mb q) W w' := by
  have HAT := Lib.hid (at_in h ((k : Int) + 1) k rfl hk hn)
  have hW := Word_in h.ar (by omega) ((k : Int) + 1) k rfl hkw
  have hwf := h.ar.wf k
  have hT : ∀ w, ArAt w a b g ws (B + 1) → Calls Try.prog 51 #[.pointer (some ⟨a, 0, none⟩), .int .i64 ((k : Int) + 1), .int .u64 (ws.getD k 0), .int .i64 s] w fun e w' => e = .returned (.tuple #[.int .u64 (nextI (ws.getD k 0) s), .int .i64 0]) ∧ ArAt w' a b g (ws.set k (nextI (ws.getD k 0) s)) (B + 2) ∧ Fr (own2 b g) w w' := by
    intro w hA
    refine (Turn_ok hA _ (ws.getD k 0) s k rfl hkw hwf.1 hwf.2 s0 s1 hcan (by omega) (by simp)).mono ?_
    rintro e w' ⟨h1, h2, h3⟩
    exact ⟨h1, h2.le (by omega), h3⟩
  obtain ⟨X, hX⟩ : ∃ X, ws.getD k 0 = X := ⟨_, rfl⟩
  rw [hX] at hW hT hwf ⊢
  obtain ⟨Y, hY⟩ : ∃ Y, nextI X s = Y := ⟨_, rfl⟩
  rw [hY] at hT ⊢
  obtain ⟨S0, hS0, sb0, sb1⟩ : ∃ S0, X % 8 = S0 ∧ 0 ≤ S0 ∧ S0 ≤ 7 := ⟨_, rfl, by omega, by omega⟩
  rw [hS0]
  obtain ⟨RR, hRR⟩ : ∃ RR, (if s = 4 ∨ s = 5 then R.set (k * 13 + 5) (.int .u64 (IntKind.u64.wrap (RU + 1))) else R) = RR := ⟨_, rfl⟩
  rw [hRR]
  have HRR := Lib.hid hRR
  clear hRR
  have i1 : In64 S0 := by show (Lit.int .i64 S0).wf = true; simp [Lit.wf, IntKind.min, IntKind.max, IntKind.signed, IntKind.bits]; omega
  have i2 : In64 PR := by show (Lit.int .i64 PR).wf = true; simp [Lit.wf, IntKind.min, IntKind.max, IntKind.signed, IntKind.bits]; omega
  have i3 : In64 s := by show (Lit.int .i64 s).wf = true; simp [Lit.wf, IntKind.min, IntKind.max, IntKind.signed, IntKind.bits]; omega
  have I1 := Lib.hid i1
  have I2 := Lib.hid i2
  have I3 := Lib.hid i3
  obtain ⟨c0, c1, c2⟩ := h.cells
  have HW := Lib.hid hW
  have HT := Lib.hid hT
  have HH := Lib.hid h
  have HS0 := Lib.hid hS0
  have HPR := Lib.hid hPR
  have HRU := Lib.hid hRU
  have HCB := Lib.hid hC
  clear h hW hT hX hY hS0 hcan hPR hRU hC i1 i2 i3 hwf
  go_enter Try.func66, Try.ntmps66
  go_wp2_with fail
  refine HAT.out.mono ?_
  rintro e w' ⟨rfl, rfl⟩
  go_wp2_with fail
  refine HW.out.mono ?_
  rintro e w1 ⟨rfl, hA1, hF1⟩
  have h1 := HH.out.arFr hF1 hA1
  obtain ⟨d0, d1, d2⟩ := h1.cells
  have H1 := Lib.hid h1
  clear h1 c0 c1 c2
  go_wp2_with fail
  refine (HT.out _ hA1).mono ?_
  rintro e w2 ⟨rfl, hA2, hF2⟩
  have h2 := H1.out.arFr hF2 hA2
  have hF3 : Fr (own3 b g mb q) W w2 := (hF1.trans hF2).mono (fun k hk => .inl hk)
  clear hA1 hF1 hA2 hF2 d0 d1 d2
  obtain ⟨d0, d1, d2⟩ := h2.cells
  have kp := h2.rcell (k * 13 + 1) (by omega) _ HPR.out
  have H2 := Lib.hid h2
  clear h2
  go_upto_region 8 with fail
  go_cut [] (fun wx => TbAt wx t a b g mb (ws.set k Y) (B + 2) (.slice (some ⟨q, 0, none⟩) n cap) n R (updC C S0 PR (C S0 PR - 1)) base ∧ Fr (own3 b g mb q) W wx)
  case first =>
    have h2d := H2.out.dr
    obtain ⟨f0, f1, f2⟩ := h2d.cells
    have kpd := h2d.rcell (k * 13 + 1) (by omega) _ HPR.out
    have hl1 := h2d.map.look S0 PR I1.out I2.out
    obtain ⟨st1, es1, ck1, hen1, hmid, hst1⟩ := h2d.map.entry S0 PR I1.out I2.out
    have h2m := h2d.setMap hmid
    obtain ⟨g0, g1, g2⟩ := h2m.cells
    have kpm := h2m.rcell (k * 13 + 1) (by omega) _ HPR.out
    have hl2 := hmid.look S0 PR I1.out I2.out
    have hcb := HCB.out S0 PR
    obtain ⟨C0, hC0⟩ : ∃ z, C S0 PR = z := ⟨_, rfl⟩
    rw [hC0] at hl1 hl2 hen1 hcb
    have hwr : IntKind.i64.wrap (C0 - 1) = C0 - 1 := by rw [IntKind.wrap_i64]; omega
    obtain ⟨es2, ck2, hes1, hcm1⟩ := hst1 (C0 - 1)
    have H2D := Lib.hid h2d
    have HCM1 := Lib.hid hcm1
    have HC0 := Lib.hid hC0
    clear h2d h2m hmid hst1 hcm1 hC0 d0 d1 d2 kp
    go_region_with (first | (go_at_call 85; refine (state_any X _).mono ?_; rintro e w3 ⟨rfl, rfl⟩; rw [HS0.out]))
    all_goals
      go_wp2_with fail
      go_meet
      rw [HC0.out]
      exact ⟨H2D.out.setMap HCM1.out, (hF3.dr).trans (Fr.of_setBlk _ _ _ (.inr (.inl rfl)))⟩
  case rest =>
  clear d0 d1 d2 kp hF3
  obtain ⟨h3, hF3⟩ := hcut
  obtain ⟨C1, hC1⟩ : ∃ C1, updC C S0 PR (C S0 PR - 1) = C1 := ⟨_, rfl⟩
  rw [hC1] at h3
  have hcb1 : -1 ≤ C1 s PR ∧ C1 s PR ≤ 1000000 := by
    have h1 := HCB.out S0 PR
    have h2 := HCB.out s PR
    rw [← hC1]
    unfold updC
    split <;> omega
  have HC1 := Lib.hid hC1
  have HCB1 := Lib.hid hcb1
  clear hC1 hcb1
  obtain ⟨d0, d1, d2⟩ := h3.cells
  have kp := h3.rcell (k * 13 + 1) (by omega) _ HPR.out
  have H3 := Lib.hid h3
  clear h3
  go_upto_region 9 with fail
  go_cut [] (fun wx => TbAt wx t a b g mb (ws.set k Y) (B + 2) (.slice (some ⟨q, 0, none⟩) n cap) n R (updC C1 s PR (C1 s PR + 1)) base ∧ Fr (own3 b g mb q) W wx)
  case first =>
    have h2d := H3.out.dr
    obtain ⟨f0, f1, f2⟩ := h2d.cells
    have kpd := h2d.rcell (k * 13 + 1) (by omega) _ HPR.out
    have hl1 := h2d.map.look s PR I3.out I2.out
    obtain ⟨st1, es1, ck1, hen1, hmid, hst1⟩ := h2d.map.entry s PR I3.out I2.out
    have h2m := h2d.setMap hmid
    obtain ⟨g0, g1, g2⟩ := h2m.cells
    have kpm := h2m.rcell (k * 13 + 1) (by omega) _ HPR.out
    have hl2 := hmid.look s PR I3.out I2.out
    have hcb := HCB1.out
    obtain ⟨C0, hC0⟩ : ∃ z, C1 s PR = z := ⟨_, rfl⟩
    rw [hC0] at hl1 hl2 hen1 hcb
    have hwr : IntKind.i64.wrap (C0 + 1) = C0 + 1 := by rw [IntKind.wrap_i64]; omega
    obtain ⟨es2, ck2, hes1, hcm1⟩ := hst1 (C0 + 1)
    have H2D := Lib.hid h2d
    have HCM1 := Lib.hid hcm1
    have HC0 := Lib.hid hC0
    clear h2d h2m hmid hst1 hcm1 hC0 d0 d1 d2 kp
    go_region
    all_goals
      go_wp2_with fail
      go_meet
      rw [HC0.out]
      exact ⟨H2D.out.setMap HCM1.out, (hF3.dr).trans (Fr.of_setBlk _ _ _ (.inr (.inl rfl)))⟩
  case rest =>
  clear d0 d1 d2 kp hF3
  obtain ⟨h4, hF4⟩ := hcut
  rw [show updC C1 s PR (C1 s PR + 1) = turnC C S0 s PR from by rw [← HC1.out]; rfl] at h4
  have kr := h4.rcell (k * 13 + 5) (by omega) _ HRU.out
  have fr := h4.rfree (k * 13 + 5)
  have H4 := Lib.hid h4
  clear h4
  rcases (show s = 4 ∨ s = 5 ∨ (s ≠ 4 ∧ s ≠ 5) from by omega) with rfl | rfl | ⟨hs4, hs5⟩
  · go_wp2_with fail
    go_ret
    exact ⟨rfl, by have := HRR.out; simp at this; rw [← this]; exact H4.out.rset _ _, hF4.set (p := ⟨q, k * 13 + 5, none⟩) (.inr (.inr rfl)) _⟩
  · go_wp2_with fail
    go_ret
    exact ⟨rfl, by have := HRR.out; simp at this; rw [← this]; exact H4.out.rset _ _, hF4.set (p := ⟨q, k * 13 + 5, none⟩) (.inr (.inr rfl)) _⟩
  · have g4 : (s == 4) = false := by simpa using hs4
    have g5 : (s == 5) = false := by simpa using hs5
    go_wp2_with fail
    go_ret
    exact ⟨rfl, by have := HRR.out; rw [if_neg (by omega)] at this; rw [← this]; exact H4.out, hF4⟩
end
end Go.Proofs.Ytpcbcnheogjofaa
