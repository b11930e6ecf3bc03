/- Contracts of package table, fourth part: a table is made, a task is told. -/
import Derived.Test.YtpcbcnheogjofaaTable3
namespace Go.Proofs.Ytpcbcnheogjofaa
open Go.RowKit Go.Maps Go.Proofs.YtpcbcnheogjofaaW.PrintWords
set_option linter.unusedVariables false
set_option linter.unusedSimpArgs false

theorem cntM_empty {W : World} {mb : Nat} (h : W.heap[mb]? = some (.map #[] 0)) : CntM W mb (fun _ _ => 0) := ⟨fun _ _ => none, ⟨#[], 0, h, PMapE.empty⟩, fun _ _ => rfl⟩
set_option maxRecDepth 100000 in
theorem TNew_in (m : Int) (h1 : 1 ≤ m) (h2 : m ≤ 1000) (w : World) : Calls Try.prog 64 #[.int .i64 m] w fun e w' => ∃ t a b g mb base, e = .returned (.tuple #[.pointer (some ⟨t, 0, none⟩), .int .i64 0]) ∧ TbAt w' t a b g mb (List.replicate m.toNat 0) 0 (.slice none 0 0) 0 [] (fun _ _ => 0) base ∧ base ≤ w'.heap.size ∧ w.heap.size ≤ t ∧ w.heap.size ≤ a ∧ w.heap.size ≤ b ∧ w.heap.size ≤ g ∧ w.heap.size ≤ mb ∧ Below w.heap.size w w' := by
  have hmm : ∀ w, (Instr.makeMap 128 none).run Try.prog w = .ok (.map (some w.heap.size)) (w.alloc (.map #[] 0)) := fun _ => by rfl
  go_enter Try.func64, Try.ntmps64
  go_wp2_with fail
  refine (ANew_in m h1 h2 _).mono ?_
  rintro e w1 ⟨a, b, g, rfl, hA, ha, hb, hg, hB⟩
  obtain ⟨l1, l2, l3⟩ := hA.lts
  have HA := Lib.hid hA
  clear hA
  go_wp2_with fail
  go_ret2
  have hB2 := below_al (below_al hB (.map #[] 0)) (.cells #[.pointer (some ⟨a, 0, none⟩), .slice none 0 0, .map (some w1.heap.size)] 131)
  refine ⟨w1.heap.size + 1, a, b, g, w1.heap.size, w1.heap.size + 2, by simp, ⟨alloc_at (by simp), (HA.out.al _).al _, ⟨by simp, .inl ⟨rfl, rfl⟩⟩, cntM_empty (alloc_old (alloc_at rfl)), by omega, by omega⟩, by simp, by have := hB.size; omega, ha, hb, hg, hB.size, hB2⟩
/-- The seven cells of a row's task. -/
def TaskR (R : List Value) (k : Nat) (id pr st du ke ru mi : Value) : Prop := R[k * 13]? = some id ∧ R[k * 13 + 1]? = some pr ∧ R[k * 13 + 2]? = some st ∧ R[k * 13 + 3]? = some du ∧ R[k * 13 + 4]? = some ke ∧ R[k * 13 + 5]? = some ru ∧ R[k * 13 + 6]? = some mi
section
variable {W W' : World} {t a b g mb : Nat} {ws : List Int} {B : Int} {rv : Value} {n : Nat} {R : List Value} {C : Int → Int → Int} {base : Nat} {q cap : Nat}
theorem TbAt.other (h : TbAt W t a b g mb ws B (.slice (some ⟨q, 0, none⟩) n cap) n R C base) {c j : Nat} (hc : base ≤ c) (hq : q ≠ c) (v : Value) : TbAt (W.setCell ⟨c, j, none⟩ v) t a b g mb ws B (.slice (some ⟨q, 0, none⟩) n cap) n R C base := by
  obtain ⟨l1, l2, l3, l4, l5⟩ := h.lt
  refine ⟨heap_set_ne h.hdr (by omega) v, h.ar.put (by omega) (by omega) (by omega) v, ?_, h.map.of_block (Below.heap_setCell W ⟨c, j, none⟩ v mb (by show mb ≠ c; omega)), h.lt, h.ne⟩
  refine h.rows.kept (row := some c) ⟨rfl, rfl, rfl, by simp, fun k _ hn => Below.heap_setCell W ⟨c, j, none⟩ v k (fun e => hn (by rw [e]))⟩ (.inr ?_)
  intro e
  injection e with e
  exact hq e
set_option maxRecDepth 100000 in
set_option maxHeartbeats 8000000 in
theorem TGet_in (h : TbAt W t a b g mb ws B (.slice (some ⟨q, 0, none⟩) n cap) n R C base) (hB : B ≤ 800000000) (k : Nat) (hk : k < n) (hkw : k < ws.length) (hn : n ≤ 5000) (ID PR S0 DU KE RU MI f p d r m : Int) (hp : 0 < p) (hT : TaskR R k (.int .i64 ID) (.int .i64 PR) (.int .i64 S0) (.int .u64 DU) (.int .u64 KE) (.int .u64 RU) (.int .u64 MI)) (hJ : JobR R k f p d r m) :
    Calls Try.prog 72 #[.pointer (some ⟨t, 0, none⟩), .int .i64 ((k : Int) + 1)] W fun e w' => e = .returned (.tuple #[.agg #[.int .i64 ID, .int .i64 PR, .int .i64 (ws.getD k 0 % 8), .int .u64 DU, .int .u64 KE, .int .u64 r, .int .u64 m], .bool true]) ∧ TbAt w' t a b g mb ws (B + 1) (.slice (some ⟨q, 0, none⟩) n cap) n R C base ∧ Fr (own2 b g) W w' := by
  obtain ⟨Z, hZ⟩ : ∃ Z, ws.getD k 0 % 8 = Z := ⟨_, rfl⟩
  rw [hZ]
  have HZ := Lib.hid hZ
  clear hZ
  obtain ⟨x, hx⟩ : ∃ x, W.heap.size = x := ⟨_, rfl⟩
  obtain ⟨W0, hW0⟩ : ∃ W0, W.alloc (.cells #[.int .i64 0, .int .i64 0, .int .i64 0, .int .u64 0, .int .u64 0, .int .u64 0, .int .u64 0] 98) = W0 := ⟨_, rfl⟩
  have h0 : TbAt W0 t a b g mb ws B (.slice (some ⟨q, 0, none⟩) n cap) n R C base := by rw [← hW0]; exact h.al _
  have HAT := Lib.hid (at_in h0 ((k : Int) + 1) k rfl hk hn)
  have hx0 : W0.heap[x]? = some (.cells #[.int .i64 0, .int .i64 0, .int .i64 0, .int .u64 0, .int .u64 0, .int .u64 0, .int .u64 0] 98 (0, 0)) := by rw [← hW0, ← hx]; exact heap_alloc_new W _
  have hs0 : W0.heap.size = x + 1 := by rw [← hW0, ← hx]; simp
  have hF0 : Fr (own2 b g) W W0 := by rw [← hW0]; exact (Fr.refl _ _).al _
  obtain ⟨q0, q1, q2, q3, q4, q5, q6⟩ := hT
  have t0 := h0.rcell (k * 13) (by omega) _ q0
  have t1 := h0.rcell (k * 13 + 1) (by omega) _ q1
  have t2 := h0.rcell (k * 13 + 2) (by omega) _ q2
  have t3 := h0.rcell (k * 13 + 3) (by omega) _ q3
  have t4 := h0.rcell (k * 13 + 4) (by omega) _ q4
  have t5 := h0.rcell (k * 13 + 5) (by omega) _ q5
  have t6 := h0.rcell (k * 13 + 6) (by omega) _ q6
  obtain ⟨lt1, lt2, lt3, lt4, lt5⟩ := h.lt
  have hqx : q < x := by rw [← hx]; exact h.q_ge.2
  have hqb := h.q_ge.1
  obtain ⟨la, lb, lg⟩ := h.ar.lts
  have NX := Lib.hid (show ¬ own2 b g x ∧ ¬ own2 b g (x + 1) from ⟨fun hh => by rcases hh with hh | hh <;> omega, fun hh => by rcases hh with hh | hh <;> omega⟩)
  have HH := Lib.hid h0
  have HJ := Lib.hid hJ
  go_enter Try.func72, Try.ntmps72
  go_upto_region 1 with fail
  try rw [hW0]
  clear hW0 h h0 q0 q1 q2 q3 q4 q5 q6 hJ la lb lg lt1 lt2 lt3 lt4 lt5
  go_wp2_with fail
  refine HAT.out.mono ?_
  rintro e w' ⟨rfl, rfl⟩
  go_upto_region 5 with fail
  obtain ⟨W1, hW1⟩ : ∃ W1, W0.alloc (.cells #[.int .i64 ID, .int .i64 PR, .int .i64 S0, .int .u64 DU, .int .u64 KE, .int .u64 RU, .int .u64 MI] 98) = W1 := ⟨_, rfl⟩
  have h1 : TbAt W1 t a b g mb ws B (.slice (some ⟨q, 0, none⟩) n cap) n R C base := by rw [← hW1]; exact HH.out.al _
  have hx1 : W1.heap[x]? = some (.cells #[.int .i64 0, .int .i64 0, .int .i64 0, .int .u64 0, .int .u64 0, .int .u64 0, .int .u64 0] 98 (0, 0)) := by rw [← hW1]; exact alloc_old hx0
  have hy1 : W1.heap[x + 1]? = some (.cells #[.int .i64 ID, .int .i64 PR, .int .i64 S0, .int .u64 DU, .int .u64 KE, .int .u64 RU, .int .u64 MI] 98 (0, 0)) := by rw [← hW1]; exact alloc_at hs0.symm
  have hF1 : Fr (own2 b g) W W1 := by rw [← hW1]; exact hF0.al _
  try rw [hW1]
  try rw [hs0]
  clear hW1 hx0 hs0 hF0 t0 t1 t2 t3 t4 t5 t6
  obtain ⟨c0, c1, c2⟩ := h1.cells
  have H1 := Lib.hid h1
  clear h1
  go_wp2_with fail
  refine (State_in H1.out.ar (by omega) _ k rfl hkw).mono ?_
  rintro e w2 ⟨rfl, hA2, hF2⟩
  rw [HZ.out]
  have h2 := H1.out.arFr hF2 hA2
  have hx2 := (hF2.block x (Array.getElem?_eq_some_iff.1 hx1).1 NX.out.1).trans hx1
  have hy2 := (hF2.block (x + 1) (Array.getElem?_eq_some_iff.1 hy1).1 NX.out.2).trans hy1
  have hF3 := hF1.trans hF2
  clear hA2 hF2 hF1 hx1 hy1 c0 c1 c2
  have y2 : w2.cell? ⟨x + 1, 2, none⟩ = some (.int .i64 S0) := by simp [World.cell?, hy2]
  have yf : ∀ i, w2.frozen? ⟨x + 1, i, none⟩ = false := fun i => by simp [World.frozen?, hy2]
  have yf2 := yf 2
  go_upto_region 6 with fail
  obtain ⟨W3, hW3⟩ : ∃ W3, w2.setCell ⟨x + 1, 2, none⟩ (.int .i64 Z) = W3 := ⟨_, rfl⟩
  have h3 : TbAt W3 t a b g mb ws (B + 1) (.slice (some ⟨q, 0, none⟩) n cap) n R C base := by rw [← hW3]; exact h2.other (by omega) (by omega) _
  have hx3 : W3.heap[x]? = some (.cells #[.int .i64 0, .int .i64 0, .int .i64 0, .int .u64 0, .int .u64 0, .int .u64 0, .int .u64 0] 98 (0, 0)) := by rw [← hW3]; exact heap_set_ne hx2 (by omega) _
  have hy3 : W3.heap[x + 1]? = some (.cells #[.int .i64 ID, .int .i64 PR, .int .i64 Z, .int .u64 DU, .int .u64 KE, .int .u64 RU, .int .u64 MI] 98 (0, 0)) := by rw [← hW3, heap_set hy2]; rfl
  have hF4 : Fr (fun k => own2 b g k ∨ x ≤ k) W W3 := by rw [← hW3]; exact (hF3.mono (fun k hk => Or.inl hk)).set (p := ⟨x + 1, 2, none⟩) (.inr (by show x ≤ x + 1; omega)) _
  try rw [hW3]
  clear hW3 h2 hx2 hy2 hF3 y2 yf yf2
  have j9 := h3.rcell (k * 13 + 9) (by omega) _ HJ.out.2.1
  have j11 := h3.rcell (k * 13 + 11) (by omega) _ HJ.out.2.2.2.1
  have j12 := h3.rcell (k * 13 + 12) (by omega) _ HJ.out.2.2.2.2
  have H3 := Lib.hid h3
  have g1 : decide (p > 0) = true := by simpa using hp
  have g2 : decide (0 < p) = true := by simpa using hp
  clear h3
  go_upto_region 7 with fail
  go_cut [] (fun wx => wx.heap[x]? = some (.cells #[.int .i64 0, .int .i64 0, .int .i64 0, .int .u64 0, .int .u64 0, .int .u64 0, .int .u64 0] 98 (0, 0)) ∧ wx.heap[x + 1]? = some (.cells #[.int .i64 ID, .int .i64 PR, .int .i64 Z, .int .u64 DU, .int .u64 KE, .int .u64 r, .int .u64 m] 98 (0, 0)) ∧ TbAt wx t a b g mb ws (B + 1) (.slice (some ⟨q, 0, none⟩) n cap) n R C base ∧ Fr (fun k => own2 b g k ∨ x ≤ k) W wx)
  case first =>
    have h3d := H3.out.dr
    have i9 := h3d.rcell (k * 13 + 9) (by omega) _ HJ.out.2.1
    have i11 := h3d.rcell (k * 13 + 11) (by omega) _ HJ.out.2.2.2.1
    have i12 := h3d.rcell (k * 13 + 12) (by omega) _ HJ.out.2.2.2.2
    have y5 : W3.cell? ⟨x + 1, 5, none⟩ = some (.int .u64 RU) := by simp [World.cell?, hy3]
    have y6 : W3.cell? ⟨x + 1, 6, none⟩ = some (.int .u64 MI) := by simp [World.cell?, hy3]
    have z5 : W3.frozen? ⟨x + 1, 5, none⟩ = false := by simp [World.frozen?, hy3]
    have z6 : W3.frozen? ⟨x + 1, 6, none⟩ = false := by simp [World.frozen?, hy3]
    have hnq : q ≠ x + 1 := by omega
    have hnq2 : x + 1 ≠ q := by omega
    have H3D := Lib.hid h3d
    clear h3d
    go_region
    all_goals
      go_wp2_with fail
      go_meet
      refine ⟨?_, ?_, ?_, ?_⟩
      · first | exact heap_set_ne (heap_set_ne hx3 (by omega) _) (by omega) _ | exact heap_set_ne (heap_set_ne (show W3.drew.heap[x]? = _ from hx3) (by omega) _) (by omega) _
      · have e : ((W3.setCell ⟨x + 1, 5, none⟩ (.int .u64 r)).setCell ⟨x + 1, 6, none⟩ (.int .u64 m)).heap[x + 1]? = some (.cells #[.int .i64 ID, .int .i64 PR, .int .i64 Z, .int .u64 DU, .int .u64 KE, .int .u64 r, .int .u64 m] 98 (0, 0)) := by rw [heap_set (heap_set hy3 _) _]; rfl
        exact e
      · first | exact (H3D.out.other (by omega) (by omega) _).other (by omega) (by omega) _ | exact ((H3.out.other (by omega) (by omega) _).other (by omega) (by omega) _).dr
      · first | exact ((hF4.dr).set (p := ⟨x + 1, _, none⟩) (.inr (by show x ≤ x + 1; omega)) _).set (p := ⟨x + 1, _, none⟩) (.inr (by show x ≤ x + 1; omega)) _ | exact ((hF4.set (p := ⟨x + 1, _, none⟩) (.inr (by show x ≤ x + 1; omega)) _).set (p := ⟨x + 1, _, none⟩) (.inr (by show x ≤ x + 1; omega)) _).dr
  case rest =>
  clear hx3 hy3 hF4 j9 j11 j12
  obtain ⟨hx4, hy4, h4, hF5⟩ := hcut
  have y0 : wc.cell? ⟨x + 1, 0, none⟩ = some (.int .i64 ID) := by simp [World.cell?, hy4]
  have y1 : wc.cell? ⟨x + 1, 1, none⟩ = some (.int .i64 PR) := by simp [World.cell?, hy4]
  have y2 : wc.cell? ⟨x + 1, 2, none⟩ = some (.int .i64 Z) := by simp [World.cell?, hy4]
  have y3 : wc.cell? ⟨x + 1, 3, none⟩ = some (.int .u64 DU) := by simp [World.cell?, hy4]
  have y4 : wc.cell? ⟨x + 1, 4, none⟩ = some (.int .u64 KE) := by simp [World.cell?, hy4]
  have y5 : wc.cell? ⟨x + 1, 5, none⟩ = some (.int .u64 r) := by simp [World.cell?, hy4]
  have y6 : wc.cell? ⟨x + 1, 6, none⟩ = some (.int .u64 m) := by simp [World.cell?, hy4]
  have x0 : wc.cell? ⟨x, 0, none⟩ = some (.int .i64 0) := by simp [World.cell?, hx4]
  have x1 : wc.cell? ⟨x, 1, none⟩ = some (.int .i64 0) := by simp [World.cell?, hx4]
  have x2 : wc.cell? ⟨x, 2, none⟩ = some (.int .i64 0) := by simp [World.cell?, hx4]
  have x3 : wc.cell? ⟨x, 3, none⟩ = some (.int .u64 0) := by simp [World.cell?, hx4]
  have x4 : wc.cell? ⟨x, 4, none⟩ = some (.int .u64 0) := by simp [World.cell?, hx4]
  have x5 : wc.cell? ⟨x, 5, none⟩ = some (.int .u64 0) := by simp [World.cell?, hx4]
  have x6 : wc.cell? ⟨x, 6, none⟩ = some (.int .u64 0) := by simp [World.cell?, hx4]
  have f0 : wc.frozen? ⟨x, 0, none⟩ = false := by simp [World.frozen?, hx4]
  have f1 : wc.frozen? ⟨x, 1, none⟩ = false := by simp [World.frozen?, hx4]
  have f2 : wc.frozen? ⟨x, 2, none⟩ = false := by simp [World.frozen?, hx4]
  have f3 : wc.frozen? ⟨x, 3, none⟩ = false := by simp [World.frozen?, hx4]
  have f4 : wc.frozen? ⟨x, 4, none⟩ = false := by simp [World.frozen?, hx4]
  have f5 : wc.frozen? ⟨x, 5, none⟩ = false := by simp [World.frozen?, hx4]
  have f6 : wc.frozen? ⟨x, 6, none⟩ = false := by simp [World.frozen?, hx4]
  have H4 := Lib.hid h4
  clear h4 hx4 hy4
  go_wp2_with fail
  refine bodyPost_ret (v := .tuple #[.agg #[.int .i64 ID, .int .i64 PR, .int .i64 Z, .int .u64 DU, .int .u64 KE, .int .u64 r, .int .u64 m], .bool true]) (by simp [results, Try.results72, go_sem, x0, x1, x2, x3, x4, x5, x6]) rfl ?_
  refine ⟨rfl, ?_, ?_⟩
  · exact ((((((H4.out.other (by omega) (by omega) _).other (by omega) (by omega) _).other (by omega) (by omega) _).other (by omega) (by omega) _).other (by omega) (by omega) _).other (by omega) (by omega) _).other (by omega) (by omega) _
  · have hFn := (((((((hF5.set (p := ⟨x, 0, none⟩) (Or.inr (Nat.le_refl x)) (.int .i64 ID)).set (p := ⟨x, 1, none⟩) (Or.inr (Nat.le_refl x)) (.int .i64 PR)).set (p := ⟨x, 2, none⟩) (Or.inr (Nat.le_refl x)) (.int .i64 Z)).set (p := ⟨x, 3, none⟩) (Or.inr (Nat.le_refl x)) (.int .u64 DU)).set (p := ⟨x, 4, none⟩) (Or.inr (Nat.le_refl x)) (.int .u64 KE)).set (p := ⟨x, 5, none⟩) (Or.inr (Nat.le_refl x)) (.int .u64 r)).set (p := ⟨x, 6, none⟩) (Or.inr (Nat.le_refl x)) (.int .u64 m))
    exact ⟨hFn.os, hFn.tape, hFn.output, hFn.size, fun i hi hn => hFn.block i hi (fun hh => by rcases hh with hh | hh; exact hn hh; omega)⟩
end
end Go.Proofs.Ytpcbcnheogjofaa
