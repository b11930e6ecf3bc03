/- Contracts of package table: Make at any body: refused, full, made. Printed by gen/genmake2.py. -/
import Derived.Test.YtpcbcnheogjofaaTable11
import Derived.Deep.RegionHeldLaw
import Derived.Deep.RegionLaw
namespace Go.Proofs.Ytpcbcnheogjofaa
open Go.RowKit Go.Maps Go.Shelf Go.Proofs.YtpcbcnheogjofaaW.PrintWords
set_option linter.unusedVariables false
set_option linter.unusedSimpArgs false

def rowB (id pr d f p r m : Int) (bv : Value) : List Value := [.int .i64 id, .int .i64 pr, .int .i64 0, .int .u64 d, .int .u64 0, .int .u64 0, .int .u64 0, bv, .int .u64 f, .int .u64 p, .int .u64 d, .int .u64 r, .int .u64 m]
theorem rowB_one (id pr d f p r m : Int) (A : Option Addr) (n c : Nat) : ∀ u ∈ rowB id pr d f p r m (.slice A n c), u.oneCell' = true := by
  intro u hu
  simp only [rowB, List.mem_cons, List.not_mem_nil, or_false] at hu
  rcases hu with rfl | rfl | rfl | rfl | rfl | rfl | rfl | rfl | rfl | rfl | rfl | rfl | rfl <;> rfl
/-- Is what is to be made refused? -/
def badMk (PR s p : Int) (ok : Bool) (L : List Op3) : Bool := decide (PR < 0) || decide (7 < PR) || !bodyB L || !canB 0 s || (decide (0 < p) && !ok)
section
variable {W W' : World} {t a b g mb : Nat} {ws : List Int} {B : Int} {rv : Value} {n : Nat} {R : List Value} {C : Int → Int → Int} {base : Nat}
set_option maxRecDepth 100000 in
set_option maxHeartbeats 4000000 in
theorem TMake_bad (PR s f p d r m : Int) (A : Option Addr) (cb : Nat) (L : List Op3) (hL : L.length ≤ 1000) (hsw : (Lit.int .i64 s).wf = true) (f0 : 0 ≤ f) (pp0 : 0 ≤ p) (d0 : 0 ≤ d) (d1 : d ≤ top) (hO : OpsAt W A L) (hbad : badMk PR s p (okB f p d) L = true) : Calls Try.prog 65 #[.pointer (some ⟨t, 0, none⟩), .int .i64 PR, .slice A L.length cb, .agg #[.int .u64 f, .int .u64 p, .int .u64 d, .int .u64 r, .int .u64 m], .int .i64 s] W fun e w' => e = .returned (.tuple #[.int .i64 0, .int .i64 1]) ∧ Below W.heap.size W w' := by
  obtain ⟨jb, hjb⟩ : ∃ jb, W.heap.size = jb := ⟨_, rfl⟩
  obtain ⟨W0, hW0⟩ : ∃ W0, W.alloc (.cells #[.int .u64 f, .int .u64 p, .int .u64 d, .int .u64 r, .int .u64 m] 57) = W0 := ⟨_, rfl⟩
  have hj0 : W0.heap[jb]? = some (.cells #[.int .u64 f, .int .u64 p, .int .u64 d, .int .u64 r, .int .u64 m] 57 (0, 0)) := by rw [← hW0, ← hjb]; exact heap_alloc_new W _
  have hb0 : Below W.heap.size W W0 := by rw [← hW0]; exact below_al (Below.refl _ _) _
  have HCAN := Lib.hid (fun w => can_any 0 s (show (Lit.int .i64 0).wf = true from by decide) hsw w)
  have HBO := Lib.hid (BodyOk_any A cb L hL (hO.below hb0))
  obtain ⟨j0, j1, j2, j3, j4⟩ : W0.cell? ⟨jb, 0, none⟩ = some (.int .u64 f) ∧ W0.cell? ⟨jb, 1, none⟩ = some (.int .u64 p) ∧ W0.cell? ⟨jb, 2, none⟩ = some (.int .u64 d) ∧ W0.cell? ⟨jb, 3, none⟩ = some (.int .u64 r) ∧ W0.cell? ⟨jb, 4, none⟩ = some (.int .u64 m) := by
    refine ⟨?_, ?_, ?_, ?_, ?_⟩ <;> simp [World.cell?, hj0]
  have HB0 := Lib.hid hb0
  have HJ0 := Lib.hid hj0
  have hcase : PR < 0 ∨ (¬ PR < 0 ∧ 7 < PR) ∨ (¬ PR < 0 ∧ ¬ 7 < PR ∧ bodyB L = false) ∨ (¬ PR < 0 ∧ ¬ 7 < PR ∧ bodyB L = true ∧ canB 0 s = false) ∨ (¬ PR < 0 ∧ ¬ 7 < PR ∧ bodyB L = true ∧ canB 0 s = true ∧ 0 < p ∧ okB f p d = false) := by
    unfold badMk at hbad
    by_cases h1 : PR < 0
    · exact .inl h1
    by_cases h2 : 7 < PR
    · exact .inr (.inl ⟨h1, h2⟩)
    cases h3 : bodyB L
    · exact .inr (.inr (.inl ⟨h1, h2, rfl⟩))
    cases h4 : canB 0 s
    · exact .inr (.inr (.inr (.inl ⟨h1, h2, rfl, rfl⟩)))
    simp [h1, h2, h3, h4] at hbad
    exact .inr (.inr (.inr (.inr ⟨h1, h2, rfl, rfl, hbad.1, hbad.2⟩)))
  clear hbad hb0 hj0 hO
  rcases hcase with h1 | ⟨h1, h2⟩ | ⟨h1, h2, h3⟩ | ⟨h1, h2, h3, h4⟩ | ⟨h1, h2, h3, h4, h5, h6⟩
  · have q1 : decide (PR < 0) = true := by simpa using h1
    clear h1
    go_enter Try.func65, Try.ntmps65
    go_wp2_with fail
    go_ret2
    exact ⟨rfl, HB0.out⟩
  · have q1 : decide (PR < 0) = false := by simpa using h1
    have q2 : decide (PR > 7) = true := by simpa using h2
    have q3 : decide (7 < PR) = true := by simpa using h2
    clear h1 h2
    go_enter Try.func65, Try.ntmps65
    go_wp2_with fail
    go_ret2
    exact ⟨rfl, HB0.out⟩
  · have q1 : decide (PR < 0) = false := by simpa using h1
    have q2 : decide (PR > 7) = false := by simpa using h2
    have q3 : decide (7 < PR) = false := by simpa using h2
    have H3 := Lib.hid h3
    clear h1 h2 h3
    go_enter Try.func65, Try.ntmps65
    go_wp2_with fail
    refine HBO.out.mono ?_
    rintro e w1 ⟨rfl, hB1⟩
    rw [H3.out]
    go_wp2_with fail
    go_ret2
    exact ⟨rfl, below_step hB1 HB0.out⟩
  · have q1 : decide (PR < 0) = false := by simpa using h1
    have q2 : decide (PR > 7) = false := by simpa using h2
    have q3 : decide (7 < PR) = false := by simpa using h2
    have H3 := Lib.hid h3
    have H4 := Lib.hid h4
    clear h1 h2 h3 h4
    go_enter Try.func65, Try.ntmps65
    go_wp2_with fail
    refine HBO.out.mono ?_
    rintro e w1 ⟨rfl, hB1⟩
    rw [H3.out]
    go_wp2_with fail
    refine (HCAN.out _).mono ?_
    rintro e w2 ⟨rfl, hB2⟩
    rw [H4.out]
    go_wp2_with fail
    go_ret2
    exact ⟨rfl, below_step (below_step hB2 hB1) HB0.out⟩
  · have q1 : decide (PR < 0) = false := by simpa using h1
    have q2 : decide (PR > 7) = false := by simpa using h2
    have q3 : decide (7 < PR) = false := by simpa using h2
    have H3 := Lib.hid h3
    have H4 := Lib.hid h4
    have H6 := Lib.hid h6
    have g1 : decide (p > 0) = true := by simpa using h5
    have g2 : decide (0 < p) = true := by simpa using h5
    clear h1 h2 h3 h4 h5 h6
    go_enter Try.func65, Try.ntmps65
    go_wp2_with fail
    refine HBO.out.mono ?_
    rintro e w1 ⟨rfl, hB1⟩
    rw [H3.out]
    go_wp2_with fail
    refine (HCAN.out _).mono ?_
    rintro e w2 ⟨rfl, hB2⟩
    rw [H4.out]
    have hB3 := below_step hB2 hB1
    have hj2 := (hB3.block jb (Array.getElem?_eq_some_iff.1 HJ0.out).1).trans HJ0.out
    clear j0 j1 j2 j3 j4
    obtain ⟨j0, j1, j2, j3, j4⟩ : w2.cell? ⟨jb, 0, none⟩ = some (.int .u64 f) ∧ w2.cell? ⟨jb, 1, none⟩ = some (.int .u64 p) ∧ w2.cell? ⟨jb, 2, none⟩ = some (.int .u64 d) ∧ w2.cell? ⟨jb, 3, none⟩ = some (.int .u64 r) ∧ w2.cell? ⟨jb, 4, none⟩ = some (.int .u64 m) := by
      refine ⟨?_, ?_, ?_, ?_, ?_⟩ <;> simp [World.cell?, hj2]
    go_wp2_with fail
    refine (GOk_any f p d r m f0 pp0 d0 d1 _).mono ?_
    rintro e w3 ⟨rfl, rfl⟩
    rw [H6.out]
    go_wp2_with fail
    go_ret2
    exact ⟨rfl, below_al (below_step hB3 HB0.out) _⟩
set_option maxRecDepth 100000 in
set_option maxHeartbeats 4000000 in
theorem TMake_full (h : TbAt W t a b g mb ws B rv n R C base) (hB : B ≤ 800000000) (hall : ∀ j, j < ws.length → (ws.getD j 0 % 8 == 0) = false) (PR s f p d r m : Int) (A : Option Addr) (cb : Nat) (L : List Op3) (hL : L.length ≤ 1000) (hsw : (Lit.int .i64 s).wf = true) (f0 : 0 ≤ f) (pp0 : 0 ≤ p) (d0 : 0 ≤ d) (d1 : d ≤ top) (hO : OpsAt W A L) (hbad : badMk PR s p (okB f p d) L = false) : Calls Try.prog 65 #[.pointer (some ⟨t, 0, none⟩), .int .i64 PR, .slice A L.length cb, .agg #[.int .u64 f, .int .u64 p, .int .u64 d, .int .u64 r, .int .u64 m], .int .i64 s] W fun e w' => e = .returned (.tuple #[.int .i64 0, .int .i64 65]) ∧ TbAt w' t a b g mb ws (B + ws.length) rv n R C base ∧ Fr (own2 b g) W w' := by
  obtain ⟨jb, hjb⟩ : ∃ jb, W.heap.size = jb := ⟨_, rfl⟩
  obtain ⟨W0, hW0⟩ : ∃ W0, W.alloc (.cells #[.int .u64 f, .int .u64 p, .int .u64 d, .int .u64 r, .int .u64 m] 57) = W0 := ⟨_, rfl⟩
  have hj0 : W0.heap[jb]? = some (.cells #[.int .u64 f, .int .u64 p, .int .u64 d, .int .u64 r, .int .u64 m] 57 (0, 0)) := by rw [← hW0, ← hjb]; exact heap_alloc_new W _
  have hb0 : Below W.heap.size W W0 := by rw [← hW0]; exact below_al (Below.refl _ _) _
  have HCAN := Lib.hid (fun w => can_any 0 s (show (Lit.int .i64 0).wf = true from by decide) hsw w)
  have HBO := Lib.hid (BodyOk_any A cb L hL (hO.below hb0))
  have hgood : 0 ≤ PR ∧ PR ≤ 7 ∧ bodyB L = true ∧ canB 0 s = true ∧ (p = 0 ∨ (0 < p ∧ okB f p d = true)) := by
    unfold badMk at hbad
    simp only [Bool.or_eq_false_iff, Bool.and_eq_false_iff, decide_eq_false_iff_not, Bool.not_eq_false'] at hbad
    obtain ⟨⟨⟨⟨h1, h2⟩, h3⟩, h4⟩, h5⟩ := hbad
    exact ⟨by omega, by omega, h3, h4, by rcases h5 with h | h; exact .inl (by omega); by_cases hz : p = 0; exact .inl hz; exact .inr ⟨by omega, h⟩⟩
  obtain ⟨p0, p1, hbody, hcan, hok⟩ := hgood
  have q1 : decide (PR < 0) = false := by simp; omega
  have q2 : decide (PR > 7) = false := by simp; omega
  have q3 : decide (7 < PR) = false := by simp; omega
  rw [hcan] at HCAN
  rw [hbody] at HBO
  have HOK := Lib.hid hok
  have h0 : TbAt W0 t a b g mb ws B rv n R C base := by rw [← hW0]; exact h.al _
  have HAL := Lib.hid (fun (w : World) (hA : ArAt w a b g ws B) => Alloc_full hA (by omega) s hsw hcan hall)
  have HH0 := Lib.hid h0
  have HB0 := Lib.hid hb0
  clear h h0 hb0 hall hcan hok hsw hbody hbad hO
  go_enter Try.func65, Try.ntmps65
  go_upto_region 1 with fail
  try rw [hW0]
  try rw [hjb]
  clear hW0
  obtain ⟨j0, j1, j2, j3, j4⟩ : W0.cell? ⟨jb, 0, none⟩ = some (.int .u64 f) ∧ W0.cell? ⟨jb, 1, none⟩ = some (.int .u64 p) ∧ W0.cell? ⟨jb, 2, none⟩ = some (.int .u64 d) ∧ W0.cell? ⟨jb, 3, none⟩ = some (.int .u64 r) ∧ W0.cell? ⟨jb, 4, none⟩ = some (.int .u64 m) := by
    refine ⟨?_, ?_, ?_, ?_, ?_⟩ <;> simp [World.cell?, hj0]
  go_cut [39] (fun v39 wx => v39 = .bool false ∧ Below W0.heap.size W0 wx)
  case first =>
    go_wp2_with fail
    refine HBO.out.mono ?_
    rintro e w1 ⟨rfl, hB1⟩
    go_wp2_with fail
    refine (HCAN.out _).mono ?_
    rintro e w2 ⟨rfl, hB2⟩
    have hB3 := below_step hB2 hB1
    have hj2 := (hB3.block jb (Array.getElem?_eq_some_iff.1 hj0).1).trans hj0
    clear j0 j1 j2 j3 j4
    obtain ⟨j0, j1, j2, j3, j4⟩ : w2.cell? ⟨jb, 0, none⟩ = some (.int .u64 f) ∧ w2.cell? ⟨jb, 1, none⟩ = some (.int .u64 p) ∧ w2.cell? ⟨jb, 2, none⟩ = some (.int .u64 d) ∧ w2.cell? ⟨jb, 3, none⟩ = some (.int .u64 r) ∧ w2.cell? ⟨jb, 4, none⟩ = some (.int .u64 m) := by
      refine ⟨?_, ?_, ?_, ?_, ?_⟩ <;> simp [World.cell?, hj2]
    rcases HOK.out with rfl | ⟨hp, hok⟩
    · go_wp2_with fail
      go_meet
      exact ⟨rfl, hB3⟩
    · have g1 : decide (p > 0) = true := by simpa using hp
      have g2 : decide (0 < p) = true := by simpa using hp
      go_wp2_with fail
      refine (GOk_any f p d r m f0 pp0 d0 d1 _).mono ?_
      rintro e w3 ⟨rfl, rfl⟩
      rw [hok]
      go_wp2_with fail
      go_meet
      exact ⟨rfl, below_al hB3 _⟩
  case rest =>
  obtain ⟨rfl, hB1⟩ := hcut
  have h1 := HH0.out.below hB1
  have hF1 : Fr (own2 b g) W wc := Fr.of_below (below_step hB1 HB0.out)
  obtain ⟨k0, k1, k2⟩ := h1.cells
  have H1 := Lib.hid h1
  clear h1 hj0 hB1 j0 j1 j2 j3 j4
  go_wp2_with fail
  refine (HAL.out _ H1.out.ar).mono ?_
  rintro e w4 ⟨rfl, hA4, hF4⟩
  go_wp2_with fail
  go_ret2
  exact ⟨rfl, H1.out.arFr hF4 hA4, hF1.trans hF4⟩
set_option maxRecDepth 100000 in
set_option maxHeartbeats 40000000 in
theorem TMake_new (h : TbAt W t a b g mb ws B rv n R C base) (hbs : base ≤ W.heap.size) (hn : n ≤ 5000) (hB : B ≤ 800000000) (hkn : n < ws.length) (hpre : ∀ j, j < n → (ws.getD j 0 % 8 == 0) = false) (hfree : (ws.getD n 0 % 8 == 0) = true) (hC : ∀ x y, 0 ≤ C x y ∧ C x y ≤ 1000000)
    (PR s f p d r m : Int) (A : Option Addr) (cb : Nat) (L : List Op3) (hL : L.length ≤ 1000) (hsw : (Lit.int .i64 s).wf = true) (f0 : 0 ≤ f) (pp0 : 0 ≤ p) (d0 : 0 ≤ d) (d1 : d ≤ top) (hO : OpsAt W A L) (hbad : badMk PR s p (okB f p d) L = false) (hOV : OpsV W (.slice A L.length cb) L) (hdis : L = [] ∨ ∀ c, (Value.slice A L.length cb).ownBlock = some c → ¬ own2 b g c) :
    Calls Try.prog 65 #[.pointer (some ⟨t, 0, none⟩), .int .i64 PR, .slice A L.length cb, .agg #[.int .u64 f, .int .u64 p, .int .u64 d, .int .u64 r, .int .u64 m], .int .i64 s] W fun e wx => ∃ q cap bv, e = .returned (.tuple #[.int .i64 ((n : Int) + 1), .int .i64 0]) ∧ TbAt wx t a b g mb (ws.set n (nextI (ws.getD n 0) s)) (B + n + 2) (.slice (some ⟨q, 0, none⟩) (n + 1) cap) (n + 1) (R ++ rowB ((n : Int) + 1) PR d f p r m bv) (updC C s PR (C s PR + 1)) base ∧ OpsV wx bv L ∧ (∀ c, bv.ownBlock = some c → W.heap.size ≤ c ∧ c < wx.heap.size ∧ c ≠ q) ∧ (rv.ownBlock = some q ∨ W.heap.size ≤ q) ∧ Fr (fun x => own2 b g x ∨ x = mb ∨ x = t ∨ some x = rv.ownBlock) W wx := by
  obtain ⟨jb, hjb⟩ : ∃ jb, W.heap.size = jb := ⟨_, rfl⟩
  obtain ⟨W0, hW0⟩ : ∃ W0, W.alloc (.cells #[.int .u64 f, .int .u64 p, .int .u64 d, .int .u64 r, .int .u64 m] 57) = W0 := ⟨_, rfl⟩
  have hj0 : W0.heap[jb]? = some (.cells #[.int .u64 f, .int .u64 p, .int .u64 d, .int .u64 r, .int .u64 m] 57 (0, 0)) := by rw [← hW0, ← hjb]; exact heap_alloc_new W _
  have hb0 : Below W.heap.size W W0 := by rw [← hW0]; exact below_al (Below.refl _ _) _
  have HCAN := Lib.hid (fun w => can_any 0 s (show (Lit.int .i64 0).wf = true from by decide) hsw w)
  have HBO := Lib.hid (BodyOk_any A cb L hL (hO.below hb0))
  have hgood : 0 ≤ PR ∧ PR ≤ 7 ∧ bodyB L = true ∧ canB 0 s = true ∧ (p = 0 ∨ (0 < p ∧ okB f p d = true)) := by
    unfold badMk at hbad
    simp only [Bool.or_eq_false_iff, Bool.and_eq_false_iff, decide_eq_false_iff_not, Bool.not_eq_false'] at hbad
    obtain ⟨⟨⟨⟨h1, h2⟩, h3⟩, h4⟩, h5⟩ := hbad
    exact ⟨by omega, by omega, h3, h4, by rcases h5 with h | h; exact .inl (by omega); by_cases hz : p = 0; exact .inl hz; exact .inr ⟨by omega, h⟩⟩
  obtain ⟨p0, p1, hbody, hcan, hok⟩ := hgood
  have q1 : decide (PR < 0) = false := by simp; omega
  have q2 : decide (PR > 7) = false := by simp; omega
  have q3 : decide (7 < PR) = false := by simp; omega
  rw [hcan] at HCAN
  rw [hbody] at HBO
  have HOK := Lib.hid hok
  have h0 : TbAt W0 t a b g mb ws B rv n R C base := by rw [← hW0]; exact h.al _
  have hs0 : base ≤ W0.heap.size := Nat.le_trans hbs hb0.size
  have HAL := Lib.hid (fun (w : World) (hA : ArAt w a b g ws B) => Alloc_at hA (by omega) s hsw hcan n hkn hpre hfree)
  have i2 : In64 PR := by show (Lit.int .i64 PR).wf = true; simp [Lit.wf, IntKind.min, IntKind.max, IntKind.signed, IntKind.bits]; omega
  have I2 := Lib.hid i2
  have I3 := Lib.hid (show In64 s from hsw)
  have HCB := Lib.hid hC
  obtain ⟨WS, hWS⟩ : ∃ WS, ws.set n (nextI (ws.getD n 0) s) = WS := ⟨_, rfl⟩
  rw [hWS] at HAL
  rw [hWS]
  have HJ := Lib.hid (show jb ≠ t ∧ ¬ own2 b g jb ∧ some jb ≠ rv.ownBlock from by
    obtain ⟨l1, l2, l3, l4, l5⟩ := h.lt
    refine ⟨by omega, fun hh => by rcases hh with hh | hh <;> omega, fun e => ?_⟩
    have := (h.rows.lt jb e.symm).2
    omega)
  have HOV0 := Lib.hid (hOV.below hb0)
  have HDIS := Lib.hid hdis
  have HH0 := Lib.hid h0
  have HB0 := Lib.hid hb0
  have HS0 := Lib.hid hs0
  have HWB := Lib.hid (show (∀ c, rv.ownBlock = some c → c < W.heap.size) ∧ t < W.heap.size from ⟨fun c hc => (h.rows.lt c hc).2, by have := h.lt; omega⟩)
  clear h h0 hb0 hs0 hpre hfree hcan hok hC hsw i2 hWS hkn hbody hbad hO hOV hdis
  go_enter Try.func65, Try.ntmps65
  go_upto_region 1 with fail
  try rw [hW0]
  try rw [hjb]
  clear hW0
  obtain ⟨j0, j1, j2, j3, j4⟩ : W0.cell? ⟨jb, 0, none⟩ = some (.int .u64 f) ∧ W0.cell? ⟨jb, 1, none⟩ = some (.int .u64 p) ∧ W0.cell? ⟨jb, 2, none⟩ = some (.int .u64 d) ∧ W0.cell? ⟨jb, 3, none⟩ = some (.int .u64 r) ∧ W0.cell? ⟨jb, 4, none⟩ = some (.int .u64 m) := by
    refine ⟨?_, ?_, ?_, ?_, ?_⟩ <;> simp [World.cell?, hj0]
  go_cut [39] (fun v39 wx => v39 = .bool false ∧ Below W0.heap.size W0 wx)
  case first =>
    go_wp2_with fail
    refine HBO.out.mono ?_
    rintro e w1 ⟨rfl, hB1⟩
    go_wp2_with fail
    refine (HCAN.out _).mono ?_
    rintro e w2 ⟨rfl, hB2⟩
    have hB3 := below_step hB2 hB1
    have hj2 := (hB3.block jb (Array.getElem?_eq_some_iff.1 hj0).1).trans hj0
    clear j0 j1 j2 j3 j4
    obtain ⟨j0, j1, j2, j3, j4⟩ : w2.cell? ⟨jb, 0, none⟩ = some (.int .u64 f) ∧ w2.cell? ⟨jb, 1, none⟩ = some (.int .u64 p) ∧ w2.cell? ⟨jb, 2, none⟩ = some (.int .u64 d) ∧ w2.cell? ⟨jb, 3, none⟩ = some (.int .u64 r) ∧ w2.cell? ⟨jb, 4, none⟩ = some (.int .u64 m) := by
      refine ⟨?_, ?_, ?_, ?_, ?_⟩ <;> simp [World.cell?, hj2]
    rcases HOK.out with rfl | ⟨hp, hok⟩
    · go_wp2_with fail
      go_meet
      exact ⟨rfl, hB3⟩
    · have g1 : decide (p > 0) = true := by simpa using hp
      have g2 : decide (0 < p) = true := by simpa using hp
      go_wp2_with fail
      refine (GOk_any f p d r m f0 pp0 d0 d1 _).mono ?_
      rintro e w3 ⟨rfl, rfl⟩
      rw [hok]
      go_wp2_with fail
      go_meet
      exact ⟨rfl, below_al hB3 _⟩
  case rest =>
  obtain ⟨rfl, hB1⟩ := hcut
  have h1 := HH0.out.below hB1
  have hOV1 := HOV0.out.below hB1
  have hj1 := (hB1.block jb (Array.getElem?_eq_some_iff.1 hj0).1).trans hj0
  have hF1 : Fr (fun x => own2 b g x ∨ x = mb ∨ x = t ∨ some x = rv.ownBlock) W wc := Fr.of_below (below_step hB1 HB0.out)
  have hs1 : base ≤ wc.heap.size := Nat.le_trans HS0.out hB1.size
  obtain ⟨k0, k1, k2⟩ := h1.cells
  have H1 := Lib.hid h1
  have HOV1 := Lib.hid hOV1
  clear h1 hj0 hB1 j0 j1 j2 j3 j4 hOV1
  go_wp2_with fail
  refine (HAL.out _ H1.out.ar).mono ?_
  rintro e w4 ⟨rfl, hA4, hF4⟩
  have h4 := H1.out.arFr hF4 hA4
  have hOV4 : OpsV w4.drew (.slice A L.length cb) L := HOV1.out.frOr (hF4.dr) HDIS.out
  have hj4 := (hF4.block jb (Array.getElem?_eq_some_iff.1 hj1).1 HJ.out.2.1).trans hj1
  have hF5 : Fr (fun x => own2 b g x ∨ x = mb ∨ x = t ∨ some x = rv.ownBlock) W w4 := hF1.trans (hF4.mono (fun k hk => Or.inl hk))
  have hs4 : base ≤ w4.heap.size := Nat.le_trans hs1 hF4.size
  clear hj1 hF1 hF4 hA4 hs1 k0 k1 k2
  obtain ⟨k0, k1, k2⟩ := h4.cells
  obtain ⟨j0, j1, j2, j3, j4⟩ : w4.cell? ⟨jb, 0, none⟩ = some (.int .u64 f) ∧ w4.cell? ⟨jb, 1, none⟩ = some (.int .u64 p) ∧ w4.cell? ⟨jb, 2, none⟩ = some (.int .u64 d) ∧ w4.cell? ⟨jb, 3, none⟩ = some (.int .u64 r) ∧ w4.cell? ⟨jb, 4, none⟩ = some (.int .u64 m) := by
    refine ⟨?_, ?_, ?_, ?_, ?_⟩ <;> simp [World.cell?, hj4]
  have H4 := Lib.hid h4
  have HOV4 := Lib.hid hOV4
  have HF5 := Lib.hid hF5
  have HW4 := Lib.hid (show W.heap.size ≤ w4.heap.size from hF5.size)
  clear h4 hOV4
  go_upto_region 6 with fail
  go_cut [] (fun wx => ∃ q cap bv, TbAt wx t a b g mb WS (B + n + 2) (.slice (some ⟨q, 0, none⟩) (n + 1) cap) (n + 1) (R ++ rowB ((n : Int) + 1) PR d f p r m bv) C base ∧ OpsV wx bv L ∧ (∀ c, bv.ownBlock = some c → W.heap.size ≤ c ∧ c < wx.heap.size ∧ c ≠ q) ∧ (rv.ownBlock = some q ∨ W.heap.size ≤ q) ∧ Fr (fun x => own2 b g x ∨ x = mb ∨ x = t ∨ some x = rv.ownBlock) W wx)
  case first =>
    obtain ⟨i0, hi0, hz0, hz1, hz2⟩ := info_parts rowInfo
    have h4d := H4.out.dr
    have HT4 := Lib.hid (show t < w4.drew.heap.size from (Array.getElem?_eq_some_iff.1 h4d.hdr).1)
    have HSD := Lib.hid (show w4.drew.cell? ⟨jb, 0, none⟩ = some (.int .u64 f) ∧ w4.drew.cell? ⟨jb, 1, none⟩ = some (.int .u64 p) ∧ w4.drew.cell? ⟨jb, 2, none⟩ = some (.int .u64 d) ∧ w4.drew.cell? ⟨jb, 3, none⟩ = some (.int .u64 r) ∧ w4.drew.cell? ⟨jb, 4, none⟩ = some (.int .u64 m) from ⟨j0, j1, j2, j3, j4⟩)
    have HFACT := Lib.hid (show ∀ w5 : World, Below w4.drew.heap.size w4.drew w5 → ∀ A6 cap6 (o6 : Obj), Obj.cells #[.int .i64 ((n : Int) + 1), .int .i64 PR, .int .i64 0, .int .u64 d, .int .u64 0, .int .u64 0, .int .u64 0, .slice A6 L.length cap6, .int .u64 f, .int .u64 p, .int .u64 d, .int .u64 r, .int .u64 m] 137 = o6 →
        Hid ((w5.alloc o6).ownsRow base 137 13 rv n R) ∧ Hid (∀ j u, (rowB ((n : Int) + 1) PR d f p r m (.slice A6 L.length cap6))[j]? = some u → (w5.alloc o6).cell? ((⟨w5.heap.size, 0, none⟩ : Addr).add j) = some u) ∧ Hid ((w5.alloc o6).cell? ⟨t, 1, none⟩ = some rv) ∧ Hid ((w5.alloc o6).frozen? ⟨t, 1, none⟩ = false) ∧ Hid (t < (w5.alloc o6).heap.size) ∧ Hid (some t ≠ rv.ownBlock) ∧ Hid (TbAt (w5.alloc o6) t a b g mb WS (B + n + 2) rv n R C base) ∧ Hid ((w5.alloc o6).cell? ⟨jb, 0, none⟩ = some (.int .u64 f) ∧ (w5.alloc o6).cell? ⟨jb, 1, none⟩ = some (.int .u64 p) ∧ (w5.alloc o6).cell? ⟨jb, 2, none⟩ = some (.int .u64 d) ∧ (w5.alloc o6).cell? ⟨jb, 3, none⟩ = some (.int .u64 r) ∧ (w5.alloc o6).cell? ⟨jb, 4, none⟩ = some (.int .u64 m)) ∧ Hid (jb < (w5.alloc o6).heap.size) from by
      intro w5 hB5 A6 cap6 o6 ho6
      have h5 := h4d.below hB5
      have h5o := h5.al o6
      have hnb : (w5.alloc o6).heap[w5.heap.size]? = some (.cells #[.int .i64 ((n : Int) + 1), .int .i64 PR, .int .i64 0, .int .u64 d, .int .u64 0, .int .u64 0, .int .u64 0, .slice A6 L.length cap6, .int .u64 f, .int .u64 p, .int .u64 d, .int .u64 r, .int .u64 m] 137) := by rw [← ho6]; exact heap_alloc_new w5 _
      have hcs : (w5.alloc o6).cell? ⟨jb, 0, none⟩ = some (.int .u64 f) ∧ (w5.alloc o6).cell? ⟨jb, 1, none⟩ = some (.int .u64 p) ∧ (w5.alloc o6).cell? ⟨jb, 2, none⟩ = some (.int .u64 d) ∧ (w5.alloc o6).cell? ⟨jb, 3, none⟩ = some (.int .u64 r) ∧ (w5.alloc o6).cell? ⟨jb, 4, none⟩ = some (.int .u64 m) := by
        refine ⟨?_, ?_, ?_, ?_, ?_⟩
        · exact cell_goes (below_al (Below.refl _ w5) o6) (cell_goes hB5 HSD.out.1)
        · exact cell_goes (below_al (Below.refl _ w5) o6) (cell_goes hB5 HSD.out.2.1)
        · exact cell_goes (below_al (Below.refl _ w5) o6) (cell_goes hB5 HSD.out.2.2.1)
        · exact cell_goes (below_al (Below.refl _ w5) o6) (cell_goes hB5 HSD.out.2.2.2.1)
        · exact cell_goes (below_al (Below.refl _ w5) o6) (cell_goes hB5 HSD.out.2.2.2.2)
      exact ⟨h5o.rows, World.news_of_block hnb, h5o.cells.2.1, (by simp only [World.frozen?, h5o.hdr]; rfl), (Array.getElem?_eq_some_iff.1 h5o.hdr).1, (fun e => by have := (h5o.rows.lt t e.symm).1; have := h5o.lt.1; omega), h5o, hcs, World.block_lt_of_cell? _ _ hcs.1⟩)
    have HEND := Lib.hid (show ∀ w5 : World, Below w4.drew.heap.size w4.drew w5 → ∀ A6 cap6, OpsV w5 (.slice A6 L.length cap6) L → (∀ c, (Value.slice A6 L.length cap6).ownBlock = some c → w4.drew.heap.size ≤ c ∧ c < w5.heap.size) → ∀ o6 : Obj, Obj.cells #[.int .i64 ((n : Int) + 1), .int .i64 PR, .int .i64 0, .int .u64 d, .int .u64 0, .int .u64 0, .int .u64 0, .slice A6 L.length cap6, .int .u64 f, .int .u64 p, .int .u64 d, .int .u64 r, .int .u64 m] 137 = o6 → ∀ q cap w6, (w5.alloc o6).grownBy w6 rv.ownBlock → w6.ownsRow base 137 13 (.slice (some ⟨q, 0, none⟩) (n + 1) cap) (n + 1) (R ++ rowB ((n : Int) + 1) PR d f p r m (.slice A6 L.length cap6)) → (rv.ownBlock = some q ∨ q = w5.heap.size + 1) → ∃ q' cap' bv, TbAt (w6.setCell ⟨t, 1, none⟩ (.slice (some ⟨q, 0, none⟩) (n + 1) cap)) t a b g mb WS (B + n + 2) (.slice (some ⟨q', 0, none⟩) (n + 1) cap') (n + 1) (R ++ rowB ((n : Int) + 1) PR d f p r m bv) C base ∧ OpsV (w6.setCell ⟨t, 1, none⟩ (.slice (some ⟨q, 0, none⟩) (n + 1) cap)) bv L ∧ (∀ c, bv.ownBlock = some c → W.heap.size ≤ c ∧ c < (w6.setCell ⟨t, 1, none⟩ (.slice (some ⟨q, 0, none⟩) (n + 1) cap)).heap.size ∧ c ≠ q') ∧ (rv.ownBlock = some q' ∨ W.heap.size ≤ q') ∧ Fr (fun x => own2 b g x ∨ x = mb ∨ x = t ∨ some x = rv.ownBlock) W (w6.setCell ⟨t, 1, none⟩ (.slice (some ⟨q, 0, none⟩) (n + 1) cap)) from by
      intro w5 hB5 A6 cap6 hO6 hblk o6 ho6 q cap w6 hgrow hown hat
      have h5o := (h4d.below hB5).al o6
      have hw5 : w4.heap.size ≤ w5.heap.size := hB5.size
      have h45 : W.heap.size ≤ w4.heap.size := HW4.out
      have hF6 : Fr (fun k => some k = rv.ownBlock) (w5.alloc o6) w6 := Fr.of_grown hgrow
      have hsz6 : w5.heap.size + 1 ≤ w6.heap.size := by have := hF6.size; simpa using this
      refine ⟨q, cap, .slice A6 L.length cap6, h5o.grown hgrow hown, ?_, ?_, ?_, ?_⟩
      · refine OpsV.fr (OpsV.fr (hO6.below (below_al (Below.refl _ w5) o6)) hF6 (fun c hc e => ?_)) ((Fr.refl (own1 t) w6).set (p := ⟨t, 1, none⟩) (show own1 t t from rfl) _) (fun c hc e => ?_)
        · have h1 := (hblk c hc).1
          have h2 := HWB.out.1 c e.symm
          have h3 : w4.drew.heap.size = w4.heap.size := rfl
          omega
        · have h1 := (hblk c hc).1
          have h2 := HWB.out.2
          have h3 : w4.drew.heap.size = w4.heap.size := rfl
          unfold own1 at e
          omega
      · intro c hc
        have h1 := hblk c hc
        have h3 : w4.drew.heap.size = w4.heap.size := rfl
        refine ⟨by omega, by simp; omega, fun e => ?_⟩
        rcases hat with h | h
        · have := HWB.out.1 q h; omega
        · omega
      · rcases hat with h | h
        · exact .inl h
        · right; omega
      · exact (((HF5.out.dr).trans (Fr.of_below hB5)).al o6).trans ((hF6.mono (fun k hk => .inr (.inr (.inr hk)))).set (p := ⟨t, 1, none⟩) (.inr (.inr (.inl rfl))) _))
    clear h4d
    refine wp_region_held_drew (S := (fun X => X.cell? ⟨jb, 0, none⟩ = some (.int .u64 f) ∧ X.cell? ⟨jb, 1, none⟩ = some (.int .u64 p) ∧ X.cell? ⟨jb, 2, none⟩ = some (.int .u64 d) ∧ X.cell? ⟨jb, 3, none⟩ = some (.int .u64 r) ∧ X.cell? ⟨jb, 4, none⟩ = some (.int .u64 m))) (by kernel_rfl) ?_ (fun hHeld => ?_)
    · (try dsimp only); (first | exact HSD.out | exact HS5.out | exact HSO.out | assumption | exact ⟨(hgrow.cell_far ⟨jb, 0, none⟩ HJ2.out HJ.out.2.2).trans (HSO.out.1), (hgrow.cell_far ⟨jb, 1, none⟩ HJ2.out HJ.out.2.2).trans (HSO.out.2.1), (hgrow.cell_far ⟨jb, 2, none⟩ HJ2.out HJ.out.2.2).trans (HSO.out.2.2.1), (hgrow.cell_far ⟨jb, 3, none⟩ HJ2.out HJ.out.2.2).trans (HSO.out.2.2.2.1), (hgrow.cell_far ⟨jb, 4, none⟩ HJ2.out HJ.out.2.2).trans (HSO.out.2.2.2.2)⟩ | exact ⟨cellFr ((Fr.refl (own1 t) _).set (p := ⟨t, 1, none⟩) (show own1 t t from rfl) _) HJ.out.1 ((hgrow.cell_far ⟨jb, 0, none⟩ HJ2.out HJ.out.2.2).trans (HSO.out.1)), cellFr ((Fr.refl (own1 t) _).set (p := ⟨t, 1, none⟩) (show own1 t t from rfl) _) HJ.out.1 ((hgrow.cell_far ⟨jb, 1, none⟩ HJ2.out HJ.out.2.2).trans (HSO.out.2.1)), cellFr ((Fr.refl (own1 t) _).set (p := ⟨t, 1, none⟩) (show own1 t t from rfl) _) HJ.out.1 ((hgrow.cell_far ⟨jb, 2, none⟩ HJ2.out HJ.out.2.2).trans (HSO.out.2.2.1)), cellFr ((Fr.refl (own1 t) _).set (p := ⟨t, 1, none⟩) (show own1 t t from rfl) _) HJ.out.1 ((hgrow.cell_far ⟨jb, 3, none⟩ HJ2.out HJ.out.2.2).trans (HSO.out.2.2.2.1)), cellFr ((Fr.refl (own1 t) _).set (p := ⟨t, 1, none⟩) (show own1 t t from rfl) _) HJ.out.1 ((hgrow.cell_far ⟨jb, 4, none⟩ HJ2.out HJ.out.2.2).trans (HSO.out.2.2.2.2))⟩)
    refine wpAnyH_take (i := 0) (v := ?_) rfl (by kernel_rfl) (by kernel_rfl) (by kernel_rfl) (fun _ _ _ h => h) (Or.inl ⟨by rfl, ?_⟩) (by assumption) ?_
    rotate_left
    · (intro w hSw; (try dsimp only at hSw); go_simp; try with_reducible rfl)
    (try simp only [Act.put, List.setIfInBounds_toArray, List.set_cons_zero, List.set_cons_succ])
    refine wpAnyH_take (i := 1) (v := ?_) rfl (by kernel_rfl) (by kernel_rfl) (by kernel_rfl) (fun _ _ _ h => h) (Or.inl ⟨by rfl, ?_⟩) (by assumption) ?_
    rotate_left
    · (intro w hSw; (try dsimp only at hSw); go_simp; try with_reducible rfl)
    (try simp only [Act.put, List.setIfInBounds_toArray, List.set_cons_zero, List.set_cons_succ])
    refine wpAnyH_take (i := 2) (v := ?_) rfl (by kernel_rfl) (by kernel_rfl) (by kernel_rfl) (fun _ _ _ h => h) (Or.inl ⟨by rfl, ?_⟩) (by assumption) ?_
    rotate_left
    · (intro w hSw; (try dsimp only at hSw); go_simp; try with_reducible rfl)
    (try simp only [Act.put, List.setIfInBounds_toArray, List.set_cons_zero, List.set_cons_succ])
    refine wpAnyH_take (i := 3) (v := ?_) rfl (by kernel_rfl) (by kernel_rfl) (by kernel_rfl) (fun _ _ _ h => h) (Or.inl ⟨by rfl, ?_⟩) (by assumption) ?_
    rotate_left
    · (intro w hSw; (try dsimp only at hSw); go_simp; try with_reducible rfl)
    (try simp only [Act.put, List.setIfInBounds_toArray, List.set_cons_zero, List.set_cons_succ])
    refine wpAnyH_take (i := 5) (v := ?_) rfl (by kernel_rfl) (by kernel_rfl) (by kernel_rfl) (fun _ _ _ h => h) (Or.inl ⟨by rfl, ?_⟩) (by assumption) ?_
    rotate_left
    · (intro w hSw; (try dsimp only at hSw); go_simp; try with_reducible rfl)
    (try simp only [Act.put, List.setIfInBounds_toArray, List.set_cons_zero, List.set_cons_succ])
    refine wpAnyH_take (i := 6) (v := ?_) rfl (by kernel_rfl) (by kernel_rfl) (by kernel_rfl) (fun _ _ _ h => h) (Or.inl ⟨by rfl, ?_⟩) (by assumption) ?_
    rotate_left
    · (intro w hSw; (try dsimp only at hSw); go_simp; try with_reducible rfl)
    (try simp only [Act.put, List.setIfInBounds_toArray, List.set_cons_zero, List.set_cons_succ])
    refine wpAnyH_take (i := 7) (v := ?_) rfl (by kernel_rfl) (by kernel_rfl) (by kernel_rfl) (fun _ _ _ h => h) (Or.inl ⟨by rfl, ?_⟩) (by assumption) ?_
    rotate_left
    · (intro w hSw; (try dsimp only at hSw); go_simp; try with_reducible rfl)
    (try simp only [Act.put, List.setIfInBounds_toArray, List.set_cons_zero, List.set_cons_succ])
    refine wpAnyH_take (i := 8) (v := ?_) rfl (by kernel_rfl) (by kernel_rfl) (by kernel_rfl) (fun _ _ _ h => h) (Or.inl ⟨by rfl, ?_⟩) (by assumption) ?_
    rotate_left
    · (intro w hSw; (try dsimp only at hSw); go_simp; try with_reducible rfl)
    (try simp only [Act.put, List.setIfInBounds_toArray, List.set_cons_zero, List.set_cons_succ])
    refine wpAnyH_take (i := 9) (v := ?_) rfl (by kernel_rfl) (by kernel_rfl) (by kernel_rfl) (fun _ _ _ h => h) (Or.inl ⟨by rfl, ?_⟩) (by assumption) ?_
    rotate_left
    · (intro w hSw; (try dsimp only at hSw); go_simp; try with_reducible rfl)
    (try simp only [Act.put, List.setIfInBounds_toArray, List.set_cons_zero, List.set_cons_succ])
    refine wpAnyH_take (i := 10) (v := ?_) rfl (by kernel_rfl) (by kernel_rfl) (by kernel_rfl) (fun _ _ _ h => h) (Or.inl ⟨by rfl, ?_⟩) (by assumption) ?_
    rotate_left
    · (intro w hSw; (try dsimp only at hSw); go_simp; try with_reducible rfl)
    (try simp only [Act.put, List.setIfInBounds_toArray, List.set_cons_zero, List.set_cons_succ])
    refine wpAnyH_take (i := 13) (v := ?_) rfl (by kernel_rfl) (by kernel_rfl) (by kernel_rfl) (fun _ _ _ h => h) (Or.inl ⟨by rfl, ?_⟩) (by assumption) ?_
    rotate_left
    · (intro w hSw; (try dsimp only at hSw); go_simp; try with_reducible rfl)
    (try simp only [Act.put, List.setIfInBounds_toArray, List.set_cons_zero, List.set_cons_succ])
    refine wpAnyH_ready (rs := [4, 11]) (by kernel_rfl) (by simp) ?_
    refine AllReadyH.cons rfl (fun K hK => ?_) ?_
    · skip
      go_simp
      refine hK.out _ _ ?_ (fun hHeld => ?_)
      · (try dsimp only); (first | exact HSD.out | exact HS5.out | exact HSO.out | assumption | exact ⟨(hgrow.cell_far ⟨jb, 0, none⟩ HJ2.out HJ.out.2.2).trans (HSO.out.1), (hgrow.cell_far ⟨jb, 1, none⟩ HJ2.out HJ.out.2.2).trans (HSO.out.2.1), (hgrow.cell_far ⟨jb, 2, none⟩ HJ2.out HJ.out.2.2).trans (HSO.out.2.2.1), (hgrow.cell_far ⟨jb, 3, none⟩ HJ2.out HJ.out.2.2).trans (HSO.out.2.2.2.1), (hgrow.cell_far ⟨jb, 4, none⟩ HJ2.out HJ.out.2.2).trans (HSO.out.2.2.2.2)⟩ | exact ⟨cellFr ((Fr.refl (own1 t) _).set (p := ⟨t, 1, none⟩) (show own1 t t from rfl) _) HJ.out.1 ((hgrow.cell_far ⟨jb, 0, none⟩ HJ2.out HJ.out.2.2).trans (HSO.out.1)), cellFr ((Fr.refl (own1 t) _).set (p := ⟨t, 1, none⟩) (show own1 t t from rfl) _) HJ.out.1 ((hgrow.cell_far ⟨jb, 1, none⟩ HJ2.out HJ.out.2.2).trans (HSO.out.2.1)), cellFr ((Fr.refl (own1 t) _).set (p := ⟨t, 1, none⟩) (show own1 t t from rfl) _) HJ.out.1 ((hgrow.cell_far ⟨jb, 2, none⟩ HJ2.out HJ.out.2.2).trans (HSO.out.2.2.1)), cellFr ((Fr.refl (own1 t) _).set (p := ⟨t, 1, none⟩) (show own1 t t from rfl) _) HJ.out.1 ((hgrow.cell_far ⟨jb, 3, none⟩ HJ2.out HJ.out.2.2).trans (HSO.out.2.2.2.1)), cellFr ((Fr.refl (own1 t) _).set (p := ⟨t, 1, none⟩) (show own1 t t from rfl) _) HJ.out.1 ((hgrow.cell_far ⟨jb, 4, none⟩ HJ2.out HJ.out.2.2).trans (HSO.out.2.2.2.2))⟩)
      clear hK K
      refine wpAnyH_ready (rs := [11]) (by kernel_rfl) (by simp) ?_
      refine AllReadyH.cons rfl (fun K hK => ?_) ?_
      · skip
        (go_simp; go_at_call 94; refine (Clone_any hL HOV4.out).mono ?_; rintro e w5 ⟨v5, rfl, hO5, hf5, hB5⟩; have hb5 := World.cell?_of_block (w := w4.drew) (w' := w5) (a := ⟨t, 1, none⟩) (hB5.block t HT4.out); have k1x : w5.cell? ⟨t, 1, none⟩ = some rv := hb5.trans k1; have HS5 := Lib.hid (show w5.cell? ⟨jb, 0, none⟩ = some (.int .u64 f) ∧ w5.cell? ⟨jb, 1, none⟩ = some (.int .u64 p) ∧ w5.cell? ⟨jb, 2, none⟩ = some (.int .u64 d) ∧ w5.cell? ⟨jb, 3, none⟩ = some (.int .u64 r) ∧ w5.cell? ⟨jb, 4, none⟩ = some (.int .u64 m) from ⟨cell_goes hB5 (HSD.out.1), cell_goes hB5 (HSD.out.2.1), cell_goes hB5 (HSD.out.2.2.1), cell_goes hB5 (HSD.out.2.2.2.1), cell_goes hB5 (HSD.out.2.2.2.2)⟩); clear hb5)
        refine hK.out _ _ ?_ (fun hHeld => ?_)
        · (try dsimp only); (first | exact HSD.out | exact HS5.out | exact HSO.out | assumption | exact ⟨(hgrow.cell_far ⟨jb, 0, none⟩ HJ2.out HJ.out.2.2).trans (HSO.out.1), (hgrow.cell_far ⟨jb, 1, none⟩ HJ2.out HJ.out.2.2).trans (HSO.out.2.1), (hgrow.cell_far ⟨jb, 2, none⟩ HJ2.out HJ.out.2.2).trans (HSO.out.2.2.1), (hgrow.cell_far ⟨jb, 3, none⟩ HJ2.out HJ.out.2.2).trans (HSO.out.2.2.2.1), (hgrow.cell_far ⟨jb, 4, none⟩ HJ2.out HJ.out.2.2).trans (HSO.out.2.2.2.2)⟩ | exact ⟨cellFr ((Fr.refl (own1 t) _).set (p := ⟨t, 1, none⟩) (show own1 t t from rfl) _) HJ.out.1 ((hgrow.cell_far ⟨jb, 0, none⟩ HJ2.out HJ.out.2.2).trans (HSO.out.1)), cellFr ((Fr.refl (own1 t) _).set (p := ⟨t, 1, none⟩) (show own1 t t from rfl) _) HJ.out.1 ((hgrow.cell_far ⟨jb, 1, none⟩ HJ2.out HJ.out.2.2).trans (HSO.out.2.1)), cellFr ((Fr.refl (own1 t) _).set (p := ⟨t, 1, none⟩) (show own1 t t from rfl) _) HJ.out.1 ((hgrow.cell_far ⟨jb, 2, none⟩ HJ2.out HJ.out.2.2).trans (HSO.out.2.2.1)), cellFr ((Fr.refl (own1 t) _).set (p := ⟨t, 1, none⟩) (show own1 t t from rfl) _) HJ.out.1 ((hgrow.cell_far ⟨jb, 3, none⟩ HJ2.out HJ.out.2.2).trans (HSO.out.2.2.2.1)), cellFr ((Fr.refl (own1 t) _).set (p := ⟨t, 1, none⟩) (show own1 t t from rfl) _) HJ.out.1 ((hgrow.cell_far ⟨jb, 4, none⟩ HJ2.out HJ.out.2.2).trans (HSO.out.2.2.2.2))⟩)
        clear hK K
        refine wpAnyH_ready (rs := [12]) (by kernel_rfl) (by simp) ?_
        refine AllReadyH.cons rfl (fun K hK => ?_) ?_
        · skip
          (go_simp; go_at_call 93; refine (Clip_any hO5).mono ?_; rintro e w5' ⟨v6, rfl, hO6, hb6, rfl⟩; obtain ⟨A6, cap6, rfl, -⟩ := hO6.form; obtain ⟨o6, ho6⟩ : ∃ o : Obj, Obj.cells #[.int .i64 ((n : Int) + 1), .int .i64 PR, .int .i64 0, .int .u64 d, .int .u64 0, .int .u64 0, .int .u64 0, .slice A6 L.length cap6, .int .u64 f, .int .u64 p, .int .u64 d, .int .u64 r, .int .u64 m] 137 = o := ⟨_, rfl⟩; obtain ⟨HOWN, HNEWS, HTC, HTF, HTL, HTN, H4O, HSO, HJ2⟩ := HFACT.out w5 hB5 A6 cap6 o6 ho6; have k1y := HTC.out)
          refine hK.out _ _ ?_ (fun hHeld => ?_)
          · (try dsimp only); (first | exact HSD.out | exact HS5.out | exact HSO.out | assumption | exact ⟨(hgrow.cell_far ⟨jb, 0, none⟩ HJ2.out HJ.out.2.2).trans (HSO.out.1), (hgrow.cell_far ⟨jb, 1, none⟩ HJ2.out HJ.out.2.2).trans (HSO.out.2.1), (hgrow.cell_far ⟨jb, 2, none⟩ HJ2.out HJ.out.2.2).trans (HSO.out.2.2.1), (hgrow.cell_far ⟨jb, 3, none⟩ HJ2.out HJ.out.2.2).trans (HSO.out.2.2.2.1), (hgrow.cell_far ⟨jb, 4, none⟩ HJ2.out HJ.out.2.2).trans (HSO.out.2.2.2.2)⟩ | exact ⟨cellFr ((Fr.refl (own1 t) _).set (p := ⟨t, 1, none⟩) (show own1 t t from rfl) _) HJ.out.1 ((hgrow.cell_far ⟨jb, 0, none⟩ HJ2.out HJ.out.2.2).trans (HSO.out.1)), cellFr ((Fr.refl (own1 t) _).set (p := ⟨t, 1, none⟩) (show own1 t t from rfl) _) HJ.out.1 ((hgrow.cell_far ⟨jb, 1, none⟩ HJ2.out HJ.out.2.2).trans (HSO.out.2.1)), cellFr ((Fr.refl (own1 t) _).set (p := ⟨t, 1, none⟩) (show own1 t t from rfl) _) HJ.out.1 ((hgrow.cell_far ⟨jb, 2, none⟩ HJ2.out HJ.out.2.2).trans (HSO.out.2.2.1)), cellFr ((Fr.refl (own1 t) _).set (p := ⟨t, 1, none⟩) (show own1 t t from rfl) _) HJ.out.1 ((hgrow.cell_far ⟨jb, 3, none⟩ HJ2.out HJ.out.2.2).trans (HSO.out.2.2.2.1)), cellFr ((Fr.refl (own1 t) _).set (p := ⟨t, 1, none⟩) (show own1 t t from rfl) _) HJ.out.1 ((hgrow.cell_far ⟨jb, 4, none⟩ HJ2.out HJ.out.2.2).trans (HSO.out.2.2.2.2))⟩)
          clear hK K
          refine wpAnyH_take (i := 14) (v := ?_) rfl (by kernel_rfl) (by kernel_rfl) (by kernel_rfl) (fun _ _ _ h => h) (Or.inl ⟨by rfl, ?_⟩) (by assumption) ?_
          rotate_left
          · (intro w hSw; (try dsimp only at hSw); go_simp; try with_reducible rfl)
          (try simp only [Act.put, List.setIfInBounds_toArray, List.set_cons_zero, List.set_cons_succ])
          refine wpAnyH_ready (rs := [15]) (by kernel_rfl) (by simp) ?_
          refine AllReadyH.cons rfl (fun K hK => ?_) ?_
          · skip
            go_simp
            refine hK.out _ _ ?_ (fun hHeld => ?_)
            · (try dsimp only); (first | exact HSD.out | exact HS5.out | exact HSO.out | assumption | exact ⟨(hgrow.cell_far ⟨jb, 0, none⟩ HJ2.out HJ.out.2.2).trans (HSO.out.1), (hgrow.cell_far ⟨jb, 1, none⟩ HJ2.out HJ.out.2.2).trans (HSO.out.2.1), (hgrow.cell_far ⟨jb, 2, none⟩ HJ2.out HJ.out.2.2).trans (HSO.out.2.2.1), (hgrow.cell_far ⟨jb, 3, none⟩ HJ2.out HJ.out.2.2).trans (HSO.out.2.2.2.1), (hgrow.cell_far ⟨jb, 4, none⟩ HJ2.out HJ.out.2.2).trans (HSO.out.2.2.2.2)⟩ | exact ⟨cellFr ((Fr.refl (own1 t) _).set (p := ⟨t, 1, none⟩) (show own1 t t from rfl) _) HJ.out.1 ((hgrow.cell_far ⟨jb, 0, none⟩ HJ2.out HJ.out.2.2).trans (HSO.out.1)), cellFr ((Fr.refl (own1 t) _).set (p := ⟨t, 1, none⟩) (show own1 t t from rfl) _) HJ.out.1 ((hgrow.cell_far ⟨jb, 1, none⟩ HJ2.out HJ.out.2.2).trans (HSO.out.2.1)), cellFr ((Fr.refl (own1 t) _).set (p := ⟨t, 1, none⟩) (show own1 t t from rfl) _) HJ.out.1 ((hgrow.cell_far ⟨jb, 2, none⟩ HJ2.out HJ.out.2.2).trans (HSO.out.2.2.1)), cellFr ((Fr.refl (own1 t) _).set (p := ⟨t, 1, none⟩) (show own1 t t from rfl) _) HJ.out.1 ((hgrow.cell_far ⟨jb, 3, none⟩ HJ2.out HJ.out.2.2).trans (HSO.out.2.2.2.1)), cellFr ((Fr.refl (own1 t) _).set (p := ⟨t, 1, none⟩) (show own1 t t from rfl) _) HJ.out.1 ((hgrow.cell_far ⟨jb, 4, none⟩ HJ2.out HJ.out.2.2).trans (HSO.out.2.2.2.2))⟩)
            clear hK K
            refine wpAnyH_ready (rs := [16]) (by kernel_rfl) (by simp) ?_
            refine AllReadyH.cons rfl (fun K hK => ?_) ?_
            · skip
              (refine step_append_lies _ rfl (.tmp 56) (.tmp 67) 129 rfl base 137 i0 rowZ 13 120 Try.underlying129 hi0 hz0 hz1 hz2 rfl (by decide) rv n R (by simp [Act.eval, Act.put]) HOWN.out ⟨w5.heap.size, 0, none⟩ 1 1 (rowB ((n : Int) + 1) PR d f p r m (.slice A6 L.length cap6)) (by simp [Act.eval, Act.put]) rfl HNEWS.out (rowB_one _ _ _ _ _ _ _ _ _ _) (by decide) (by unfold maxLen; omega) (by omega) (by simp; have := hB5.size; have : w4.drew.heap.size = w4.heap.size := rfl; omega) (w5.heap.size + 1) (by simp) ?_; intro q cap w6 hown hgrow hat hlt; have tc := (hgrow.cell_far ⟨t, 1, none⟩ HTL.out HTN.out).trans HTC.out; have tf := (hgrow.frozen_far ⟨t, 1, none⟩ HTL.out HTN.out).trans HTF.out)
              refine hK.out _ _ ?_ (fun hHeld => ?_)
              · (try dsimp only); (first | exact HSD.out | exact HS5.out | exact HSO.out | assumption | exact ⟨(hgrow.cell_far ⟨jb, 0, none⟩ HJ2.out HJ.out.2.2).trans (HSO.out.1), (hgrow.cell_far ⟨jb, 1, none⟩ HJ2.out HJ.out.2.2).trans (HSO.out.2.1), (hgrow.cell_far ⟨jb, 2, none⟩ HJ2.out HJ.out.2.2).trans (HSO.out.2.2.1), (hgrow.cell_far ⟨jb, 3, none⟩ HJ2.out HJ.out.2.2).trans (HSO.out.2.2.2.1), (hgrow.cell_far ⟨jb, 4, none⟩ HJ2.out HJ.out.2.2).trans (HSO.out.2.2.2.2)⟩ | exact ⟨cellFr ((Fr.refl (own1 t) _).set (p := ⟨t, 1, none⟩) (show own1 t t from rfl) _) HJ.out.1 ((hgrow.cell_far ⟨jb, 0, none⟩ HJ2.out HJ.out.2.2).trans (HSO.out.1)), cellFr ((Fr.refl (own1 t) _).set (p := ⟨t, 1, none⟩) (show own1 t t from rfl) _) HJ.out.1 ((hgrow.cell_far ⟨jb, 1, none⟩ HJ2.out HJ.out.2.2).trans (HSO.out.2.1)), cellFr ((Fr.refl (own1 t) _).set (p := ⟨t, 1, none⟩) (show own1 t t from rfl) _) HJ.out.1 ((hgrow.cell_far ⟨jb, 2, none⟩ HJ2.out HJ.out.2.2).trans (HSO.out.2.2.1)), cellFr ((Fr.refl (own1 t) _).set (p := ⟨t, 1, none⟩) (show own1 t t from rfl) _) HJ.out.1 ((hgrow.cell_far ⟨jb, 3, none⟩ HJ2.out HJ.out.2.2).trans (HSO.out.2.2.2.1)), cellFr ((Fr.refl (own1 t) _).set (p := ⟨t, 1, none⟩) (show own1 t t from rfl) _) HJ.out.1 ((hgrow.cell_far ⟨jb, 4, none⟩ HJ2.out HJ.out.2.2).trans (HSO.out.2.2.2.2))⟩)
              clear hK K
              refine wpAnyH_take (i := 17) (v := ?_) rfl (by kernel_rfl) (by kernel_rfl) (by kernel_rfl) (fun _ _ _ h => h) (Or.inl ⟨by rfl, ?_⟩) (by assumption) ?_
              rotate_left
              · (intro w hSw; (try dsimp only at hSw); go_simp; try with_reducible rfl)
              (try simp only [Act.put, List.setIfInBounds_toArray, List.set_cons_zero, List.set_cons_succ])
              refine wpAnyH_take (i := 18) (v := ?_) rfl (by kernel_rfl) (by kernel_rfl) (by kernel_rfl) (fun _ _ _ h => h) (Or.inl ⟨by rfl, ?_⟩) (by assumption) ?_
              rotate_left
              · (intro w hSw; (try dsimp only at hSw); go_simp; try with_reducible rfl)
              (try simp only [Act.put, List.setIfInBounds_toArray, List.set_cons_zero, List.set_cons_succ])
              refine wpAnyH_ready (rs := [19]) (by kernel_rfl) (by simp) ?_
              refine AllReadyH.cons rfl (fun K hK => ?_) ?_
              · skip
                go_simp
                refine hK.out _ _ ?_ (fun hHeld => ?_)
                · (try dsimp only); (first | exact HSD.out | exact HS5.out | exact HSO.out | assumption | exact ⟨(hgrow.cell_far ⟨jb, 0, none⟩ HJ2.out HJ.out.2.2).trans (HSO.out.1), (hgrow.cell_far ⟨jb, 1, none⟩ HJ2.out HJ.out.2.2).trans (HSO.out.2.1), (hgrow.cell_far ⟨jb, 2, none⟩ HJ2.out HJ.out.2.2).trans (HSO.out.2.2.1), (hgrow.cell_far ⟨jb, 3, none⟩ HJ2.out HJ.out.2.2).trans (HSO.out.2.2.2.1), (hgrow.cell_far ⟨jb, 4, none⟩ HJ2.out HJ.out.2.2).trans (HSO.out.2.2.2.2)⟩ | exact ⟨cellFr ((Fr.refl (own1 t) _).set (p := ⟨t, 1, none⟩) (show own1 t t from rfl) _) HJ.out.1 ((hgrow.cell_far ⟨jb, 0, none⟩ HJ2.out HJ.out.2.2).trans (HSO.out.1)), cellFr ((Fr.refl (own1 t) _).set (p := ⟨t, 1, none⟩) (show own1 t t from rfl) _) HJ.out.1 ((hgrow.cell_far ⟨jb, 1, none⟩ HJ2.out HJ.out.2.2).trans (HSO.out.2.1)), cellFr ((Fr.refl (own1 t) _).set (p := ⟨t, 1, none⟩) (show own1 t t from rfl) _) HJ.out.1 ((hgrow.cell_far ⟨jb, 2, none⟩ HJ2.out HJ.out.2.2).trans (HSO.out.2.2.1)), cellFr ((Fr.refl (own1 t) _).set (p := ⟨t, 1, none⟩) (show own1 t t from rfl) _) HJ.out.1 ((hgrow.cell_far ⟨jb, 3, none⟩ HJ2.out HJ.out.2.2).trans (HSO.out.2.2.2.1)), cellFr ((Fr.refl (own1 t) _).set (p := ⟨t, 1, none⟩) (show own1 t t from rfl) _) HJ.out.1 ((hgrow.cell_far ⟨jb, 4, none⟩ HJ2.out HJ.out.2.2).trans (HSO.out.2.2.2.2))⟩)
                clear hK K
                refine wpAnyH_done (by kernel_rfl) ?_ _
                go_wp2_with fail
                go_meet
                exact HEND.out w5 hB5 A6 cap6 hO6 (by rw [hb6]; exact hf5) o6 ho6 q cap w6 hgrow hown hat
              exact AllReadyH.nil
            exact AllReadyH.nil
          exact AllReadyH.nil
        exact AllReadyH.nil
      exact AllReadyH.nil
    refine AllReadyH.cons rfl (fun K hK => ?_) ?_
    · skip
      (go_simp; go_at_call 94; refine (Clone_any hL HOV4.out).mono ?_; rintro e w5 ⟨v5, rfl, hO5, hf5, hB5⟩; have hb5 := World.cell?_of_block (w := w4.drew) (w' := w5) (a := ⟨t, 1, none⟩) (hB5.block t HT4.out); have k1x : w5.cell? ⟨t, 1, none⟩ = some rv := hb5.trans k1; have HS5 := Lib.hid (show w5.cell? ⟨jb, 0, none⟩ = some (.int .u64 f) ∧ w5.cell? ⟨jb, 1, none⟩ = some (.int .u64 p) ∧ w5.cell? ⟨jb, 2, none⟩ = some (.int .u64 d) ∧ w5.cell? ⟨jb, 3, none⟩ = some (.int .u64 r) ∧ w5.cell? ⟨jb, 4, none⟩ = some (.int .u64 m) from ⟨cell_goes hB5 (HSD.out.1), cell_goes hB5 (HSD.out.2.1), cell_goes hB5 (HSD.out.2.2.1), cell_goes hB5 (HSD.out.2.2.2.1), cell_goes hB5 (HSD.out.2.2.2.2)⟩); clear hb5)
      refine hK.out _ _ ?_ (fun hHeld => ?_)
      · (try dsimp only); (first | exact HSD.out | exact HS5.out | exact HSO.out | assumption | exact ⟨(hgrow.cell_far ⟨jb, 0, none⟩ HJ2.out HJ.out.2.2).trans (HSO.out.1), (hgrow.cell_far ⟨jb, 1, none⟩ HJ2.out HJ.out.2.2).trans (HSO.out.2.1), (hgrow.cell_far ⟨jb, 2, none⟩ HJ2.out HJ.out.2.2).trans (HSO.out.2.2.1), (hgrow.cell_far ⟨jb, 3, none⟩ HJ2.out HJ.out.2.2).trans (HSO.out.2.2.2.1), (hgrow.cell_far ⟨jb, 4, none⟩ HJ2.out HJ.out.2.2).trans (HSO.out.2.2.2.2)⟩ | exact ⟨cellFr ((Fr.refl (own1 t) _).set (p := ⟨t, 1, none⟩) (show own1 t t from rfl) _) HJ.out.1 ((hgrow.cell_far ⟨jb, 0, none⟩ HJ2.out HJ.out.2.2).trans (HSO.out.1)), cellFr ((Fr.refl (own1 t) _).set (p := ⟨t, 1, none⟩) (show own1 t t from rfl) _) HJ.out.1 ((hgrow.cell_far ⟨jb, 1, none⟩ HJ2.out HJ.out.2.2).trans (HSO.out.2.1)), cellFr ((Fr.refl (own1 t) _).set (p := ⟨t, 1, none⟩) (show own1 t t from rfl) _) HJ.out.1 ((hgrow.cell_far ⟨jb, 2, none⟩ HJ2.out HJ.out.2.2).trans (HSO.out.2.2.1)), cellFr ((Fr.refl (own1 t) _).set (p := ⟨t, 1, none⟩) (show own1 t t from rfl) _) HJ.out.1 ((hgrow.cell_far ⟨jb, 3, none⟩ HJ2.out HJ.out.2.2).trans (HSO.out.2.2.2.1)), cellFr ((Fr.refl (own1 t) _).set (p := ⟨t, 1, none⟩) (show own1 t t from rfl) _) HJ.out.1 ((hgrow.cell_far ⟨jb, 4, none⟩ HJ2.out HJ.out.2.2).trans (HSO.out.2.2.2.2))⟩)
      clear hK K
      refine wpAnyH_ready (rs := [4, 12]) (by kernel_rfl) (by simp) ?_
      refine AllReadyH.cons rfl (fun K hK => ?_) ?_
      · skip
        go_simp
        refine hK.out _ _ ?_ (fun hHeld => ?_)
        · (try dsimp only); (first | exact HSD.out | exact HS5.out | exact HSO.out | assumption | exact ⟨(hgrow.cell_far ⟨jb, 0, none⟩ HJ2.out HJ.out.2.2).trans (HSO.out.1), (hgrow.cell_far ⟨jb, 1, none⟩ HJ2.out HJ.out.2.2).trans (HSO.out.2.1), (hgrow.cell_far ⟨jb, 2, none⟩ HJ2.out HJ.out.2.2).trans (HSO.out.2.2.1), (hgrow.cell_far ⟨jb, 3, none⟩ HJ2.out HJ.out.2.2).trans (HSO.out.2.2.2.1), (hgrow.cell_far ⟨jb, 4, none⟩ HJ2.out HJ.out.2.2).trans (HSO.out.2.2.2.2)⟩ | exact ⟨cellFr ((Fr.refl (own1 t) _).set (p := ⟨t, 1, none⟩) (show own1 t t from rfl) _) HJ.out.1 ((hgrow.cell_far ⟨jb, 0, none⟩ HJ2.out HJ.out.2.2).trans (HSO.out.1)), cellFr ((Fr.refl (own1 t) _).set (p := ⟨t, 1, none⟩) (show own1 t t from rfl) _) HJ.out.1 ((hgrow.cell_far ⟨jb, 1, none⟩ HJ2.out HJ.out.2.2).trans (HSO.out.2.1)), cellFr ((Fr.refl (own1 t) _).set (p := ⟨t, 1, none⟩) (show own1 t t from rfl) _) HJ.out.1 ((hgrow.cell_far ⟨jb, 2, none⟩ HJ2.out HJ.out.2.2).trans (HSO.out.2.2.1)), cellFr ((Fr.refl (own1 t) _).set (p := ⟨t, 1, none⟩) (show own1 t t from rfl) _) HJ.out.1 ((hgrow.cell_far ⟨jb, 3, none⟩ HJ2.out HJ.out.2.2).trans (HSO.out.2.2.2.1)), cellFr ((Fr.refl (own1 t) _).set (p := ⟨t, 1, none⟩) (show own1 t t from rfl) _) HJ.out.1 ((hgrow.cell_far ⟨jb, 4, none⟩ HJ2.out HJ.out.2.2).trans (HSO.out.2.2.2.2))⟩)
        clear hK K
        refine wpAnyH_ready (rs := [12]) (by kernel_rfl) (by simp) ?_
        refine AllReadyH.cons rfl (fun K hK => ?_) ?_
        · skip
          (go_simp; go_at_call 93; refine (Clip_any hO5).mono ?_; rintro e w5' ⟨v6, rfl, hO6, hb6, rfl⟩; obtain ⟨A6, cap6, rfl, -⟩ := hO6.form; obtain ⟨o6, ho6⟩ : ∃ o : Obj, Obj.cells #[.int .i64 ((n : Int) + 1), .int .i64 PR, .int .i64 0, .int .u64 d, .int .u64 0, .int .u64 0, .int .u64 0, .slice A6 L.length cap6, .int .u64 f, .int .u64 p, .int .u64 d, .int .u64 r, .int .u64 m] 137 = o := ⟨_, rfl⟩; obtain ⟨HOWN, HNEWS, HTC, HTF, HTL, HTN, H4O, HSO, HJ2⟩ := HFACT.out w5 hB5 A6 cap6 o6 ho6; have k1y := HTC.out)
          refine hK.out _ _ ?_ (fun hHeld => ?_)
          · (try dsimp only); (first | exact HSD.out | exact HS5.out | exact HSO.out | assumption | exact ⟨(hgrow.cell_far ⟨jb, 0, none⟩ HJ2.out HJ.out.2.2).trans (HSO.out.1), (hgrow.cell_far ⟨jb, 1, none⟩ HJ2.out HJ.out.2.2).trans (HSO.out.2.1), (hgrow.cell_far ⟨jb, 2, none⟩ HJ2.out HJ.out.2.2).trans (HSO.out.2.2.1), (hgrow.cell_far ⟨jb, 3, none⟩ HJ2.out HJ.out.2.2).trans (HSO.out.2.2.2.1), (hgrow.cell_far ⟨jb, 4, none⟩ HJ2.out HJ.out.2.2).trans (HSO.out.2.2.2.2)⟩ | exact ⟨cellFr ((Fr.refl (own1 t) _).set (p := ⟨t, 1, none⟩) (show own1 t t from rfl) _) HJ.out.1 ((hgrow.cell_far ⟨jb, 0, none⟩ HJ2.out HJ.out.2.2).trans (HSO.out.1)), cellFr ((Fr.refl (own1 t) _).set (p := ⟨t, 1, none⟩) (show own1 t t from rfl) _) HJ.out.1 ((hgrow.cell_far ⟨jb, 1, none⟩ HJ2.out HJ.out.2.2).trans (HSO.out.2.1)), cellFr ((Fr.refl (own1 t) _).set (p := ⟨t, 1, none⟩) (show own1 t t from rfl) _) HJ.out.1 ((hgrow.cell_far ⟨jb, 2, none⟩ HJ2.out HJ.out.2.2).trans (HSO.out.2.2.1)), cellFr ((Fr.refl (own1 t) _).set (p := ⟨t, 1, none⟩) (show own1 t t from rfl) _) HJ.out.1 ((hgrow.cell_far ⟨jb, 3, none⟩ HJ2.out HJ.out.2.2).trans (HSO.out.2.2.2.1)), cellFr ((Fr.refl (own1 t) _).set (p := ⟨t, 1, none⟩) (show own1 t t from rfl) _) HJ.out.1 ((hgrow.cell_far ⟨jb, 4, none⟩ HJ2.out HJ.out.2.2).trans (HSO.out.2.2.2.2))⟩)
          clear hK K
          refine wpAnyH_take (i := 14) (v := ?_) rfl (by kernel_rfl) (by kernel_rfl) (by kernel_rfl) (fun _ _ _ h => h) (Or.inl ⟨by rfl, ?_⟩) (by assumption) ?_
          rotate_left
          · (intro w hSw; (try dsimp only at hSw); go_simp; try with_reducible rfl)
          (try simp only [Act.put, List.setIfInBounds_toArray, List.set_cons_zero, List.set_cons_succ])
          refine wpAnyH_ready (rs := [15]) (by kernel_rfl) (by simp) ?_
          refine AllReadyH.cons rfl (fun K hK => ?_) ?_
          · skip
            go_simp
            refine hK.out _ _ ?_ (fun hHeld => ?_)
            · (try dsimp only); (first | exact HSD.out | exact HS5.out | exact HSO.out | assumption | exact ⟨(hgrow.cell_far ⟨jb, 0, none⟩ HJ2.out HJ.out.2.2).trans (HSO.out.1), (hgrow.cell_far ⟨jb, 1, none⟩ HJ2.out HJ.out.2.2).trans (HSO.out.2.1), (hgrow.cell_far ⟨jb, 2, none⟩ HJ2.out HJ.out.2.2).trans (HSO.out.2.2.1), (hgrow.cell_far ⟨jb, 3, none⟩ HJ2.out HJ.out.2.2).trans (HSO.out.2.2.2.1), (hgrow.cell_far ⟨jb, 4, none⟩ HJ2.out HJ.out.2.2).trans (HSO.out.2.2.2.2)⟩ | exact ⟨cellFr ((Fr.refl (own1 t) _).set (p := ⟨t, 1, none⟩) (show own1 t t from rfl) _) HJ.out.1 ((hgrow.cell_far ⟨jb, 0, none⟩ HJ2.out HJ.out.2.2).trans (HSO.out.1)), cellFr ((Fr.refl (own1 t) _).set (p := ⟨t, 1, none⟩) (show own1 t t from rfl) _) HJ.out.1 ((hgrow.cell_far ⟨jb, 1, none⟩ HJ2.out HJ.out.2.2).trans (HSO.out.2.1)), cellFr ((Fr.refl (own1 t) _).set (p := ⟨t, 1, none⟩) (show own1 t t from rfl) _) HJ.out.1 ((hgrow.cell_far ⟨jb, 2, none⟩ HJ2.out HJ.out.2.2).trans (HSO.out.2.2.1)), cellFr ((Fr.refl (own1 t) _).set (p := ⟨t, 1, none⟩) (show own1 t t from rfl) _) HJ.out.1 ((hgrow.cell_far ⟨jb, 3, none⟩ HJ2.out HJ.out.2.2).trans (HSO.out.2.2.2.1)), cellFr ((Fr.refl (own1 t) _).set (p := ⟨t, 1, none⟩) (show own1 t t from rfl) _) HJ.out.1 ((hgrow.cell_far ⟨jb, 4, none⟩ HJ2.out HJ.out.2.2).trans (HSO.out.2.2.2.2))⟩)
            clear hK K
            refine wpAnyH_ready (rs := [16]) (by kernel_rfl) (by simp) ?_
            refine AllReadyH.cons rfl (fun K hK => ?_) ?_
            · skip
              (refine step_append_lies _ rfl (.tmp 56) (.tmp 67) 129 rfl base 137 i0 rowZ 13 120 Try.underlying129 hi0 hz0 hz1 hz2 rfl (by decide) rv n R (by simp [Act.eval, Act.put]) HOWN.out ⟨w5.heap.size, 0, none⟩ 1 1 (rowB ((n : Int) + 1) PR d f p r m (.slice A6 L.length cap6)) (by simp [Act.eval, Act.put]) rfl HNEWS.out (rowB_one _ _ _ _ _ _ _ _ _ _) (by decide) (by unfold maxLen; omega) (by omega) (by simp; have := hB5.size; have : w4.drew.heap.size = w4.heap.size := rfl; omega) (w5.heap.size + 1) (by simp) ?_; intro q cap w6 hown hgrow hat hlt; have tc := (hgrow.cell_far ⟨t, 1, none⟩ HTL.out HTN.out).trans HTC.out; have tf := (hgrow.frozen_far ⟨t, 1, none⟩ HTL.out HTN.out).trans HTF.out)
              refine hK.out _ _ ?_ (fun hHeld => ?_)
              · (try dsimp only); (first | exact HSD.out | exact HS5.out | exact HSO.out | assumption | exact ⟨(hgrow.cell_far ⟨jb, 0, none⟩ HJ2.out HJ.out.2.2).trans (HSO.out.1), (hgrow.cell_far ⟨jb, 1, none⟩ HJ2.out HJ.out.2.2).trans (HSO.out.2.1), (hgrow.cell_far ⟨jb, 2, none⟩ HJ2.out HJ.out.2.2).trans (HSO.out.2.2.1), (hgrow.cell_far ⟨jb, 3, none⟩ HJ2.out HJ.out.2.2).trans (HSO.out.2.2.2.1), (hgrow.cell_far ⟨jb, 4, none⟩ HJ2.out HJ.out.2.2).trans (HSO.out.2.2.2.2)⟩ | exact ⟨cellFr ((Fr.refl (own1 t) _).set (p := ⟨t, 1, none⟩) (show own1 t t from rfl) _) HJ.out.1 ((hgrow.cell_far ⟨jb, 0, none⟩ HJ2.out HJ.out.2.2).trans (HSO.out.1)), cellFr ((Fr.refl (own1 t) _).set (p := ⟨t, 1, none⟩) (show own1 t t from rfl) _) HJ.out.1 ((hgrow.cell_far ⟨jb, 1, none⟩ HJ2.out HJ.out.2.2).trans (HSO.out.2.1)), cellFr ((Fr.refl (own1 t) _).set (p := ⟨t, 1, none⟩) (show own1 t t from rfl) _) HJ.out.1 ((hgrow.cell_far ⟨jb, 2, none⟩ HJ2.out HJ.out.2.2).trans (HSO.out.2.2.1)), cellFr ((Fr.refl (own1 t) _).set (p := ⟨t, 1, none⟩) (show own1 t t from rfl) _) HJ.out.1 ((hgrow.cell_far ⟨jb, 3, none⟩ HJ2.out HJ.out.2.2).trans (HSO.out.2.2.2.1)), cellFr ((Fr.refl (own1 t) _).set (p := ⟨t, 1, none⟩) (show own1 t t from rfl) _) HJ.out.1 ((hgrow.cell_far ⟨jb, 4, none⟩ HJ2.out HJ.out.2.2).trans (HSO.out.2.2.2.2))⟩)
              clear hK K
              refine wpAnyH_take (i := 17) (v := ?_) rfl (by kernel_rfl) (by kernel_rfl) (by kernel_rfl) (fun _ _ _ h => h) (Or.inl ⟨by rfl, ?_⟩) (by assumption) ?_
              rotate_left
              · (intro w hSw; (try dsimp only at hSw); go_simp; try with_reducible rfl)
              (try simp only [Act.put, List.setIfInBounds_toArray, List.set_cons_zero, List.set_cons_succ])
              refine wpAnyH_take (i := 18) (v := ?_) rfl (by kernel_rfl) (by kernel_rfl) (by kernel_rfl) (fun _ _ _ h => h) (Or.inl ⟨by rfl, ?_⟩) (by assumption) ?_
              rotate_left
              · (intro w hSw; (try dsimp only at hSw); go_simp; try with_reducible rfl)
              (try simp only [Act.put, List.setIfInBounds_toArray, List.set_cons_zero, List.set_cons_succ])
              refine wpAnyH_ready (rs := [19]) (by kernel_rfl) (by simp) ?_
              refine AllReadyH.cons rfl (fun K hK => ?_) ?_
              · skip
                go_simp
                refine hK.out _ _ ?_ (fun hHeld => ?_)
                · (try dsimp only); (first | exact HSD.out | exact HS5.out | exact HSO.out | assumption | exact ⟨(hgrow.cell_far ⟨jb, 0, none⟩ HJ2.out HJ.out.2.2).trans (HSO.out.1), (hgrow.cell_far ⟨jb, 1, none⟩ HJ2.out HJ.out.2.2).trans (HSO.out.2.1), (hgrow.cell_far ⟨jb, 2, none⟩ HJ2.out HJ.out.2.2).trans (HSO.out.2.2.1), (hgrow.cell_far ⟨jb, 3, none⟩ HJ2.out HJ.out.2.2).trans (HSO.out.2.2.2.1), (hgrow.cell_far ⟨jb, 4, none⟩ HJ2.out HJ.out.2.2).trans (HSO.out.2.2.2.2)⟩ | exact ⟨cellFr ((Fr.refl (own1 t) _).set (p := ⟨t, 1, none⟩) (show own1 t t from rfl) _) HJ.out.1 ((hgrow.cell_far ⟨jb, 0, none⟩ HJ2.out HJ.out.2.2).trans (HSO.out.1)), cellFr ((Fr.refl (own1 t) _).set (p := ⟨t, 1, none⟩) (show own1 t t from rfl) _) HJ.out.1 ((hgrow.cell_far ⟨jb, 1, none⟩ HJ2.out HJ.out.2.2).trans (HSO.out.2.1)), cellFr ((Fr.refl (own1 t) _).set (p := ⟨t, 1, none⟩) (show own1 t t from rfl) _) HJ.out.1 ((hgrow.cell_far ⟨jb, 2, none⟩ HJ2.out HJ.out.2.2).trans (HSO.out.2.2.1)), cellFr ((Fr.refl (own1 t) _).set (p := ⟨t, 1, none⟩) (show own1 t t from rfl) _) HJ.out.1 ((hgrow.cell_far ⟨jb, 3, none⟩ HJ2.out HJ.out.2.2).trans (HSO.out.2.2.2.1)), cellFr ((Fr.refl (own1 t) _).set (p := ⟨t, 1, none⟩) (show own1 t t from rfl) _) HJ.out.1 ((hgrow.cell_far ⟨jb, 4, none⟩ HJ2.out HJ.out.2.2).trans (HSO.out.2.2.2.2))⟩)
                clear hK K
                refine wpAnyH_done (by kernel_rfl) ?_ _
                go_wp2_with fail
                go_meet
                exact HEND.out w5 hB5 A6 cap6 hO6 (by rw [hb6]; exact hf5) o6 ho6 q cap w6 hgrow hown hat
              exact AllReadyH.nil
            exact AllReadyH.nil
          exact AllReadyH.nil
        exact AllReadyH.nil
      refine AllReadyH.cons rfl (fun K hK => ?_) ?_
      · skip
        (go_simp; go_at_call 93; refine (Clip_any hO5).mono ?_; rintro e w5' ⟨v6, rfl, hO6, hb6, rfl⟩; obtain ⟨A6, cap6, rfl, -⟩ := hO6.form; obtain ⟨o6, ho6⟩ : ∃ o : Obj, Obj.cells #[.int .i64 ((n : Int) + 1), .int .i64 PR, .int .i64 0, .int .u64 d, .int .u64 0, .int .u64 0, .int .u64 0, .slice A6 L.length cap6, .int .u64 f, .int .u64 p, .int .u64 d, .int .u64 r, .int .u64 m] 137 = o := ⟨_, rfl⟩; obtain ⟨HOWN, HNEWS, HTC, HTF, HTL, HTN, H4O, HSO, HJ2⟩ := HFACT.out w5 hB5 A6 cap6 o6 ho6; have k1y := HTC.out)
        refine hK.out _ _ ?_ (fun hHeld => ?_)
        · (try dsimp only); (first | exact HSD.out | exact HS5.out | exact HSO.out | assumption | exact ⟨(hgrow.cell_far ⟨jb, 0, none⟩ HJ2.out HJ.out.2.2).trans (HSO.out.1), (hgrow.cell_far ⟨jb, 1, none⟩ HJ2.out HJ.out.2.2).trans (HSO.out.2.1), (hgrow.cell_far ⟨jb, 2, none⟩ HJ2.out HJ.out.2.2).trans (HSO.out.2.2.1), (hgrow.cell_far ⟨jb, 3, none⟩ HJ2.out HJ.out.2.2).trans (HSO.out.2.2.2.1), (hgrow.cell_far ⟨jb, 4, none⟩ HJ2.out HJ.out.2.2).trans (HSO.out.2.2.2.2)⟩ | exact ⟨cellFr ((Fr.refl (own1 t) _).set (p := ⟨t, 1, none⟩) (show own1 t t from rfl) _) HJ.out.1 ((hgrow.cell_far ⟨jb, 0, none⟩ HJ2.out HJ.out.2.2).trans (HSO.out.1)), cellFr ((Fr.refl (own1 t) _).set (p := ⟨t, 1, none⟩) (show own1 t t from rfl) _) HJ.out.1 ((hgrow.cell_far ⟨jb, 1, none⟩ HJ2.out HJ.out.2.2).trans (HSO.out.2.1)), cellFr ((Fr.refl (own1 t) _).set (p := ⟨t, 1, none⟩) (show own1 t t from rfl) _) HJ.out.1 ((hgrow.cell_far ⟨jb, 2, none⟩ HJ2.out HJ.out.2.2).trans (HSO.out.2.2.1)), cellFr ((Fr.refl (own1 t) _).set (p := ⟨t, 1, none⟩) (show own1 t t from rfl) _) HJ.out.1 ((hgrow.cell_far ⟨jb, 3, none⟩ HJ2.out HJ.out.2.2).trans (HSO.out.2.2.2.1)), cellFr ((Fr.refl (own1 t) _).set (p := ⟨t, 1, none⟩) (show own1 t t from rfl) _) HJ.out.1 ((hgrow.cell_far ⟨jb, 4, none⟩ HJ2.out HJ.out.2.2).trans (HSO.out.2.2.2.2))⟩)
        clear hK K
        refine wpAnyH_take (i := 14) (v := ?_) rfl (by kernel_rfl) (by kernel_rfl) (by kernel_rfl) (fun _ _ _ h => h) (Or.inl ⟨by rfl, ?_⟩) (by assumption) ?_
        rotate_left
        · (intro w hSw; (try dsimp only at hSw); go_simp; try with_reducible rfl)
        (try simp only [Act.put, List.setIfInBounds_toArray, List.set_cons_zero, List.set_cons_succ])
        refine wpAnyH_ready (rs := [4, 15]) (by kernel_rfl) (by simp) ?_
        refine AllReadyH.cons rfl (fun K hK => ?_) ?_
        · skip
          go_simp
          refine hK.out _ _ ?_ (fun hHeld => ?_)
          · (try dsimp only); (first | exact HSD.out | exact HS5.out | exact HSO.out | assumption | exact ⟨(hgrow.cell_far ⟨jb, 0, none⟩ HJ2.out HJ.out.2.2).trans (HSO.out.1), (hgrow.cell_far ⟨jb, 1, none⟩ HJ2.out HJ.out.2.2).trans (HSO.out.2.1), (hgrow.cell_far ⟨jb, 2, none⟩ HJ2.out HJ.out.2.2).trans (HSO.out.2.2.1), (hgrow.cell_far ⟨jb, 3, none⟩ HJ2.out HJ.out.2.2).trans (HSO.out.2.2.2.1), (hgrow.cell_far ⟨jb, 4, none⟩ HJ2.out HJ.out.2.2).trans (HSO.out.2.2.2.2)⟩ | exact ⟨cellFr ((Fr.refl (own1 t) _).set (p := ⟨t, 1, none⟩) (show own1 t t from rfl) _) HJ.out.1 ((hgrow.cell_far ⟨jb, 0, none⟩ HJ2.out HJ.out.2.2).trans (HSO.out.1)), cellFr ((Fr.refl (own1 t) _).set (p := ⟨t, 1, none⟩) (show own1 t t from rfl) _) HJ.out.1 ((hgrow.cell_far ⟨jb, 1, none⟩ HJ2.out HJ.out.2.2).trans (HSO.out.2.1)), cellFr ((Fr.refl (own1 t) _).set (p := ⟨t, 1, none⟩) (show own1 t t from rfl) _) HJ.out.1 ((hgrow.cell_far ⟨jb, 2, none⟩ HJ2.out HJ.out.2.2).trans (HSO.out.2.2.1)), cellFr ((Fr.refl (own1 t) _).set (p := ⟨t, 1, none⟩) (show own1 t t from rfl) _) HJ.out.1 ((hgrow.cell_far ⟨jb, 3, none⟩ HJ2.out HJ.out.2.2).trans (HSO.out.2.2.2.1)), cellFr ((Fr.refl (own1 t) _).set (p := ⟨t, 1, none⟩) (show own1 t t from rfl) _) HJ.out.1 ((hgrow.cell_far ⟨jb, 4, none⟩ HJ2.out HJ.out.2.2).trans (HSO.out.2.2.2.2))⟩)
          clear hK K
          refine wpAnyH_ready (rs := [15]) (by kernel_rfl) (by simp) ?_
          refine AllReadyH.cons rfl (fun K hK => ?_) ?_
          · skip
            go_simp
            refine hK.out _ _ ?_ (fun hHeld => ?_)
            · (try dsimp only); (first | exact HSD.out | exact HS5.out | exact HSO.out | assumption | exact ⟨(hgrow.cell_far ⟨jb, 0, none⟩ HJ2.out HJ.out.2.2).trans (HSO.out.1), (hgrow.cell_far ⟨jb, 1, none⟩ HJ2.out HJ.out.2.2).trans (HSO.out.2.1), (hgrow.cell_far ⟨jb, 2, none⟩ HJ2.out HJ.out.2.2).trans (HSO.out.2.2.1), (hgrow.cell_far ⟨jb, 3, none⟩ HJ2.out HJ.out.2.2).trans (HSO.out.2.2.2.1), (hgrow.cell_far ⟨jb, 4, none⟩ HJ2.out HJ.out.2.2).trans (HSO.out.2.2.2.2)⟩ | exact ⟨cellFr ((Fr.refl (own1 t) _).set (p := ⟨t, 1, none⟩) (show own1 t t from rfl) _) HJ.out.1 ((hgrow.cell_far ⟨jb, 0, none⟩ HJ2.out HJ.out.2.2).trans (HSO.out.1)), cellFr ((Fr.refl (own1 t) _).set (p := ⟨t, 1, none⟩) (show own1 t t from rfl) _) HJ.out.1 ((hgrow.cell_far ⟨jb, 1, none⟩ HJ2.out HJ.out.2.2).trans (HSO.out.2.1)), cellFr ((Fr.refl (own1 t) _).set (p := ⟨t, 1, none⟩) (show own1 t t from rfl) _) HJ.out.1 ((hgrow.cell_far ⟨jb, 2, none⟩ HJ2.out HJ.out.2.2).trans (HSO.out.2.2.1)), cellFr ((Fr.refl (own1 t) _).set (p := ⟨t, 1, none⟩) (show own1 t t from rfl) _) HJ.out.1 ((hgrow.cell_far ⟨jb, 3, none⟩ HJ2.out HJ.out.2.2).trans (HSO.out.2.2.2.1)), cellFr ((Fr.refl (own1 t) _).set (p := ⟨t, 1, none⟩) (show own1 t t from rfl) _) HJ.out.1 ((hgrow.cell_far ⟨jb, 4, none⟩ HJ2.out HJ.out.2.2).trans (HSO.out.2.2.2.2))⟩)
            clear hK K
            refine wpAnyH_ready (rs := [16]) (by kernel_rfl) (by simp) ?_
            refine AllReadyH.cons rfl (fun K hK => ?_) ?_
            · skip
              (refine step_append_lies _ rfl (.tmp 56) (.tmp 67) 129 rfl base 137 i0 rowZ 13 120 Try.underlying129 hi0 hz0 hz1 hz2 rfl (by decide) rv n R (by simp [Act.eval, Act.put]) HOWN.out ⟨w5.heap.size, 0, none⟩ 1 1 (rowB ((n : Int) + 1) PR d f p r m (.slice A6 L.length cap6)) (by simp [Act.eval, Act.put]) rfl HNEWS.out (rowB_one _ _ _ _ _ _ _ _ _ _) (by decide) (by unfold maxLen; omega) (by omega) (by simp; have := hB5.size; have : w4.drew.heap.size = w4.heap.size := rfl; omega) (w5.heap.size + 1) (by simp) ?_; intro q cap w6 hown hgrow hat hlt; have tc := (hgrow.cell_far ⟨t, 1, none⟩ HTL.out HTN.out).trans HTC.out; have tf := (hgrow.frozen_far ⟨t, 1, none⟩ HTL.out HTN.out).trans HTF.out)
              refine hK.out _ _ ?_ (fun hHeld => ?_)
              · (try dsimp only); (first | exact HSD.out | exact HS5.out | exact HSO.out | assumption | exact ⟨(hgrow.cell_far ⟨jb, 0, none⟩ HJ2.out HJ.out.2.2).trans (HSO.out.1), (hgrow.cell_far ⟨jb, 1, none⟩ HJ2.out HJ.out.2.2).trans (HSO.out.2.1), (hgrow.cell_far ⟨jb, 2, none⟩ HJ2.out HJ.out.2.2).trans (HSO.out.2.2.1), (hgrow.cell_far ⟨jb, 3, none⟩ HJ2.out HJ.out.2.2).trans (HSO.out.2.2.2.1), (hgrow.cell_far ⟨jb, 4, none⟩ HJ2.out HJ.out.2.2).trans (HSO.out.2.2.2.2)⟩ | exact ⟨cellFr ((Fr.refl (own1 t) _).set (p := ⟨t, 1, none⟩) (show own1 t t from rfl) _) HJ.out.1 ((hgrow.cell_far ⟨jb, 0, none⟩ HJ2.out HJ.out.2.2).trans (HSO.out.1)), cellFr ((Fr.refl (own1 t) _).set (p := ⟨t, 1, none⟩) (show own1 t t from rfl) _) HJ.out.1 ((hgrow.cell_far ⟨jb, 1, none⟩ HJ2.out HJ.out.2.2).trans (HSO.out.2.1)), cellFr ((Fr.refl (own1 t) _).set (p := ⟨t, 1, none⟩) (show own1 t t from rfl) _) HJ.out.1 ((hgrow.cell_far ⟨jb, 2, none⟩ HJ2.out HJ.out.2.2).trans (HSO.out.2.2.1)), cellFr ((Fr.refl (own1 t) _).set (p := ⟨t, 1, none⟩) (show own1 t t from rfl) _) HJ.out.1 ((hgrow.cell_far ⟨jb, 3, none⟩ HJ2.out HJ.out.2.2).trans (HSO.out.2.2.2.1)), cellFr ((Fr.refl (own1 t) _).set (p := ⟨t, 1, none⟩) (show own1 t t from rfl) _) HJ.out.1 ((hgrow.cell_far ⟨jb, 4, none⟩ HJ2.out HJ.out.2.2).trans (HSO.out.2.2.2.2))⟩)
              clear hK K
              refine wpAnyH_take (i := 17) (v := ?_) rfl (by kernel_rfl) (by kernel_rfl) (by kernel_rfl) (fun _ _ _ h => h) (Or.inl ⟨by rfl, ?_⟩) (by assumption) ?_
              rotate_left
              · (intro w hSw; (try dsimp only at hSw); go_simp; try with_reducible rfl)
              (try simp only [Act.put, List.setIfInBounds_toArray, List.set_cons_zero, List.set_cons_succ])
              refine wpAnyH_take (i := 18) (v := ?_) rfl (by kernel_rfl) (by kernel_rfl) (by kernel_rfl) (fun _ _ _ h => h) (Or.inl ⟨by rfl, ?_⟩) (by assumption) ?_
              rotate_left
              · (intro w hSw; (try dsimp only at hSw); go_simp; try with_reducible rfl)
              (try simp only [Act.put, List.setIfInBounds_toArray, List.set_cons_zero, List.set_cons_succ])
              refine wpAnyH_ready (rs := [19]) (by kernel_rfl) (by simp) ?_
              refine AllReadyH.cons rfl (fun K hK => ?_) ?_
              · skip
                go_simp
                refine hK.out _ _ ?_ (fun hHeld => ?_)
                · (try dsimp only); (first | exact HSD.out | exact HS5.out | exact HSO.out | assumption | exact ⟨(hgrow.cell_far ⟨jb, 0, none⟩ HJ2.out HJ.out.2.2).trans (HSO.out.1), (hgrow.cell_far ⟨jb, 1, none⟩ HJ2.out HJ.out.2.2).trans (HSO.out.2.1), (hgrow.cell_far ⟨jb, 2, none⟩ HJ2.out HJ.out.2.2).trans (HSO.out.2.2.1), (hgrow.cell_far ⟨jb, 3, none⟩ HJ2.out HJ.out.2.2).trans (HSO.out.2.2.2.1), (hgrow.cell_far ⟨jb, 4, none⟩ HJ2.out HJ.out.2.2).trans (HSO.out.2.2.2.2)⟩ | exact ⟨cellFr ((Fr.refl (own1 t) _).set (p := ⟨t, 1, none⟩) (show own1 t t from rfl) _) HJ.out.1 ((hgrow.cell_far ⟨jb, 0, none⟩ HJ2.out HJ.out.2.2).trans (HSO.out.1)), cellFr ((Fr.refl (own1 t) _).set (p := ⟨t, 1, none⟩) (show own1 t t from rfl) _) HJ.out.1 ((hgrow.cell_far ⟨jb, 1, none⟩ HJ2.out HJ.out.2.2).trans (HSO.out.2.1)), cellFr ((Fr.refl (own1 t) _).set (p := ⟨t, 1, none⟩) (show own1 t t from rfl) _) HJ.out.1 ((hgrow.cell_far ⟨jb, 2, none⟩ HJ2.out HJ.out.2.2).trans (HSO.out.2.2.1)), cellFr ((Fr.refl (own1 t) _).set (p := ⟨t, 1, none⟩) (show own1 t t from rfl) _) HJ.out.1 ((hgrow.cell_far ⟨jb, 3, none⟩ HJ2.out HJ.out.2.2).trans (HSO.out.2.2.2.1)), cellFr ((Fr.refl (own1 t) _).set (p := ⟨t, 1, none⟩) (show own1 t t from rfl) _) HJ.out.1 ((hgrow.cell_far ⟨jb, 4, none⟩ HJ2.out HJ.out.2.2).trans (HSO.out.2.2.2.2))⟩)
                clear hK K
                refine wpAnyH_done (by kernel_rfl) ?_ _
                go_wp2_with fail
                go_meet
                exact HEND.out w5 hB5 A6 cap6 hO6 (by rw [hb6]; exact hf5) o6 ho6 q cap w6 hgrow hown hat
              exact AllReadyH.nil
            exact AllReadyH.nil
          exact AllReadyH.nil
        refine AllReadyH.cons rfl (fun K hK => ?_) ?_
        · skip
          go_simp
          refine hK.out _ _ ?_ (fun hHeld => ?_)
          · (try dsimp only); (first | exact HSD.out | exact HS5.out | exact HSO.out | assumption | exact ⟨(hgrow.cell_far ⟨jb, 0, none⟩ HJ2.out HJ.out.2.2).trans (HSO.out.1), (hgrow.cell_far ⟨jb, 1, none⟩ HJ2.out HJ.out.2.2).trans (HSO.out.2.1), (hgrow.cell_far ⟨jb, 2, none⟩ HJ2.out HJ.out.2.2).trans (HSO.out.2.2.1), (hgrow.cell_far ⟨jb, 3, none⟩ HJ2.out HJ.out.2.2).trans (HSO.out.2.2.2.1), (hgrow.cell_far ⟨jb, 4, none⟩ HJ2.out HJ.out.2.2).trans (HSO.out.2.2.2.2)⟩ | exact ⟨cellFr ((Fr.refl (own1 t) _).set (p := ⟨t, 1, none⟩) (show own1 t t from rfl) _) HJ.out.1 ((hgrow.cell_far ⟨jb, 0, none⟩ HJ2.out HJ.out.2.2).trans (HSO.out.1)), cellFr ((Fr.refl (own1 t) _).set (p := ⟨t, 1, none⟩) (show own1 t t from rfl) _) HJ.out.1 ((hgrow.cell_far ⟨jb, 1, none⟩ HJ2.out HJ.out.2.2).trans (HSO.out.2.1)), cellFr ((Fr.refl (own1 t) _).set (p := ⟨t, 1, none⟩) (show own1 t t from rfl) _) HJ.out.1 ((hgrow.cell_far ⟨jb, 2, none⟩ HJ2.out HJ.out.2.2).trans (HSO.out.2.2.1)), cellFr ((Fr.refl (own1 t) _).set (p := ⟨t, 1, none⟩) (show own1 t t from rfl) _) HJ.out.1 ((hgrow.cell_far ⟨jb, 3, none⟩ HJ2.out HJ.out.2.2).trans (HSO.out.2.2.2.1)), cellFr ((Fr.refl (own1 t) _).set (p := ⟨t, 1, none⟩) (show own1 t t from rfl) _) HJ.out.1 ((hgrow.cell_far ⟨jb, 4, none⟩ HJ2.out HJ.out.2.2).trans (HSO.out.2.2.2.2))⟩)
          clear hK K
          refine wpAnyH_ready (rs := [4]) (by kernel_rfl) (by simp) ?_
          refine AllReadyH.cons rfl (fun K hK => ?_) ?_
          · skip
            go_simp
            refine hK.out _ _ ?_ (fun hHeld => ?_)
            · (try dsimp only); (first | exact HSD.out | exact HS5.out | exact HSO.out | assumption | exact ⟨(hgrow.cell_far ⟨jb, 0, none⟩ HJ2.out HJ.out.2.2).trans (HSO.out.1), (hgrow.cell_far ⟨jb, 1, none⟩ HJ2.out HJ.out.2.2).trans (HSO.out.2.1), (hgrow.cell_far ⟨jb, 2, none⟩ HJ2.out HJ.out.2.2).trans (HSO.out.2.2.1), (hgrow.cell_far ⟨jb, 3, none⟩ HJ2.out HJ.out.2.2).trans (HSO.out.2.2.2.1), (hgrow.cell_far ⟨jb, 4, none⟩ HJ2.out HJ.out.2.2).trans (HSO.out.2.2.2.2)⟩ | exact ⟨cellFr ((Fr.refl (own1 t) _).set (p := ⟨t, 1, none⟩) (show own1 t t from rfl) _) HJ.out.1 ((hgrow.cell_far ⟨jb, 0, none⟩ HJ2.out HJ.out.2.2).trans (HSO.out.1)), cellFr ((Fr.refl (own1 t) _).set (p := ⟨t, 1, none⟩) (show own1 t t from rfl) _) HJ.out.1 ((hgrow.cell_far ⟨jb, 1, none⟩ HJ2.out HJ.out.2.2).trans (HSO.out.2.1)), cellFr ((Fr.refl (own1 t) _).set (p := ⟨t, 1, none⟩) (show own1 t t from rfl) _) HJ.out.1 ((hgrow.cell_far ⟨jb, 2, none⟩ HJ2.out HJ.out.2.2).trans (HSO.out.2.2.1)), cellFr ((Fr.refl (own1 t) _).set (p := ⟨t, 1, none⟩) (show own1 t t from rfl) _) HJ.out.1 ((hgrow.cell_far ⟨jb, 3, none⟩ HJ2.out HJ.out.2.2).trans (HSO.out.2.2.2.1)), cellFr ((Fr.refl (own1 t) _).set (p := ⟨t, 1, none⟩) (show own1 t t from rfl) _) HJ.out.1 ((hgrow.cell_far ⟨jb, 4, none⟩ HJ2.out HJ.out.2.2).trans (HSO.out.2.2.2.2))⟩)
            clear hK K
            refine wpAnyH_ready (rs := [16]) (by kernel_rfl) (by simp) ?_
            refine AllReadyH.cons rfl (fun K hK => ?_) ?_
            · skip
              (refine step_append_lies _ rfl (.tmp 56) (.tmp 67) 129 rfl base 137 i0 rowZ 13 120 Try.underlying129 hi0 hz0 hz1 hz2 rfl (by decide) rv n R (by simp [Act.eval, Act.put]) HOWN.out ⟨w5.heap.size, 0, none⟩ 1 1 (rowB ((n : Int) + 1) PR d f p r m (.slice A6 L.length cap6)) (by simp [Act.eval, Act.put]) rfl HNEWS.out (rowB_one _ _ _ _ _ _ _ _ _ _) (by decide) (by unfold maxLen; omega) (by omega) (by simp; have := hB5.size; have : w4.drew.heap.size = w4.heap.size := rfl; omega) (w5.heap.size + 1) (by simp) ?_; intro q cap w6 hown hgrow hat hlt; have tc := (hgrow.cell_far ⟨t, 1, none⟩ HTL.out HTN.out).trans HTC.out; have tf := (hgrow.frozen_far ⟨t, 1, none⟩ HTL.out HTN.out).trans HTF.out)
              refine hK.out _ _ ?_ (fun hHeld => ?_)
              · (try dsimp only); (first | exact HSD.out | exact HS5.out | exact HSO.out | assumption | exact ⟨(hgrow.cell_far ⟨jb, 0, none⟩ HJ2.out HJ.out.2.2).trans (HSO.out.1), (hgrow.cell_far ⟨jb, 1, none⟩ HJ2.out HJ.out.2.2).trans (HSO.out.2.1), (hgrow.cell_far ⟨jb, 2, none⟩ HJ2.out HJ.out.2.2).trans (HSO.out.2.2.1), (hgrow.cell_far ⟨jb, 3, none⟩ HJ2.out HJ.out.2.2).trans (HSO.out.2.2.2.1), (hgrow.cell_far ⟨jb, 4, none⟩ HJ2.out HJ.out.2.2).trans (HSO.out.2.2.2.2)⟩ | exact ⟨cellFr ((Fr.refl (own1 t) _).set (p := ⟨t, 1, none⟩) (show own1 t t from rfl) _) HJ.out.1 ((hgrow.cell_far ⟨jb, 0, none⟩ HJ2.out HJ.out.2.2).trans (HSO.out.1)), cellFr ((Fr.refl (own1 t) _).set (p := ⟨t, 1, none⟩) (show own1 t t from rfl) _) HJ.out.1 ((hgrow.cell_far ⟨jb, 1, none⟩ HJ2.out HJ.out.2.2).trans (HSO.out.2.1)), cellFr ((Fr.refl (own1 t) _).set (p := ⟨t, 1, none⟩) (show own1 t t from rfl) _) HJ.out.1 ((hgrow.cell_far ⟨jb, 2, none⟩ HJ2.out HJ.out.2.2).trans (HSO.out.2.2.1)), cellFr ((Fr.refl (own1 t) _).set (p := ⟨t, 1, none⟩) (show own1 t t from rfl) _) HJ.out.1 ((hgrow.cell_far ⟨jb, 3, none⟩ HJ2.out HJ.out.2.2).trans (HSO.out.2.2.2.1)), cellFr ((Fr.refl (own1 t) _).set (p := ⟨t, 1, none⟩) (show own1 t t from rfl) _) HJ.out.1 ((hgrow.cell_far ⟨jb, 4, none⟩ HJ2.out HJ.out.2.2).trans (HSO.out.2.2.2.2))⟩)
              clear hK K
              refine wpAnyH_take (i := 17) (v := ?_) rfl (by kernel_rfl) (by kernel_rfl) (by kernel_rfl) (fun _ _ _ h => h) (Or.inl ⟨by rfl, ?_⟩) (by assumption) ?_
              rotate_left
              · (intro w hSw; (try dsimp only at hSw); go_simp; try with_reducible rfl)
              (try simp only [Act.put, List.setIfInBounds_toArray, List.set_cons_zero, List.set_cons_succ])
              refine wpAnyH_take (i := 18) (v := ?_) rfl (by kernel_rfl) (by kernel_rfl) (by kernel_rfl) (fun _ _ _ h => h) (Or.inl ⟨by rfl, ?_⟩) (by assumption) ?_
              rotate_left
              · (intro w hSw; (try dsimp only at hSw); go_simp; try with_reducible rfl)
              (try simp only [Act.put, List.setIfInBounds_toArray, List.set_cons_zero, List.set_cons_succ])
              refine wpAnyH_ready (rs := [19]) (by kernel_rfl) (by simp) ?_
              refine AllReadyH.cons rfl (fun K hK => ?_) ?_
              · skip
                go_simp
                refine hK.out _ _ ?_ (fun hHeld => ?_)
                · (try dsimp only); (first | exact HSD.out | exact HS5.out | exact HSO.out | assumption | exact ⟨(hgrow.cell_far ⟨jb, 0, none⟩ HJ2.out HJ.out.2.2).trans (HSO.out.1), (hgrow.cell_far ⟨jb, 1, none⟩ HJ2.out HJ.out.2.2).trans (HSO.out.2.1), (hgrow.cell_far ⟨jb, 2, none⟩ HJ2.out HJ.out.2.2).trans (HSO.out.2.2.1), (hgrow.cell_far ⟨jb, 3, none⟩ HJ2.out HJ.out.2.2).trans (HSO.out.2.2.2.1), (hgrow.cell_far ⟨jb, 4, none⟩ HJ2.out HJ.out.2.2).trans (HSO.out.2.2.2.2)⟩ | exact ⟨cellFr ((Fr.refl (own1 t) _).set (p := ⟨t, 1, none⟩) (show own1 t t from rfl) _) HJ.out.1 ((hgrow.cell_far ⟨jb, 0, none⟩ HJ2.out HJ.out.2.2).trans (HSO.out.1)), cellFr ((Fr.refl (own1 t) _).set (p := ⟨t, 1, none⟩) (show own1 t t from rfl) _) HJ.out.1 ((hgrow.cell_far ⟨jb, 1, none⟩ HJ2.out HJ.out.2.2).trans (HSO.out.2.1)), cellFr ((Fr.refl (own1 t) _).set (p := ⟨t, 1, none⟩) (show own1 t t from rfl) _) HJ.out.1 ((hgrow.cell_far ⟨jb, 2, none⟩ HJ2.out HJ.out.2.2).trans (HSO.out.2.2.1)), cellFr ((Fr.refl (own1 t) _).set (p := ⟨t, 1, none⟩) (show own1 t t from rfl) _) HJ.out.1 ((hgrow.cell_far ⟨jb, 3, none⟩ HJ2.out HJ.out.2.2).trans (HSO.out.2.2.2.1)), cellFr ((Fr.refl (own1 t) _).set (p := ⟨t, 1, none⟩) (show own1 t t from rfl) _) HJ.out.1 ((hgrow.cell_far ⟨jb, 4, none⟩ HJ2.out HJ.out.2.2).trans (HSO.out.2.2.2.2))⟩)
                clear hK K
                refine wpAnyH_done (by kernel_rfl) ?_ _
                go_wp2_with fail
                go_meet
                exact HEND.out w5 hB5 A6 cap6 hO6 (by rw [hb6]; exact hf5) o6 ho6 q cap w6 hgrow hown hat
              exact AllReadyH.nil
            exact AllReadyH.nil
          exact AllReadyH.nil
        exact AllReadyH.nil
      exact AllReadyH.nil
    exact AllReadyH.nil
  case rest =>
  clear hj4 hF5 hs4 k0 k1 k2 j0 j1 j2 j3 j4
  obtain ⟨q, cap, bv, h5, hO5, hbv, hqq, hF6⟩ := hcut
  obtain ⟨k0, k1, k2⟩ := h5.cells
  have H5 := Lib.hid h5
  have HO5 := Lib.hid hO5
  have HBV := Lib.hid hbv
  have HMB := Lib.hid (show mb < W.heap.size from by have := h5.lt; omega)
  have HQQ := Lib.hid hqq
  clear h5 hO5 hbv hqq
  go_upto_region 7 with fail
  go_cut [] (fun wx => TbAt wx t a b g mb WS (B + n + 2) (.slice (some ⟨q, 0, none⟩) (n + 1) cap) (n + 1) (R ++ rowB ((n : Int) + 1) PR d f p r m bv) (updC C s PR (C s PR + 1)) base ∧ OpsV wx bv L ∧ (∀ c, bv.ownBlock = some c → W.heap.size ≤ c ∧ c < wx.heap.size ∧ c ≠ q) ∧ Fr (fun x => own2 b g x ∨ x = mb ∨ x = t ∨ some x = rv.ownBlock) W wx)
  case first =>
    have h2d := H5.out.dr
    have hO2 : OpsV wc.drew bv L := HO5.out.fr (Fr.refl (fun _ => False) _).dr (fun _ _ h => h)
    obtain ⟨f0', f1', f2'⟩ := h2d.cells
    have hl1 := h2d.map.look s PR I3.out I2.out
    obtain ⟨st1, es1, ck1, hen1, hmid, hst1⟩ := h2d.map.entry s PR I3.out I2.out
    have h2m := h2d.setMap hmid
    obtain ⟨g0, g1, g2⟩ := h2m.cells
    have hl2 := hmid.look s PR I3.out I2.out
    have hcb := HCB.out s PR
    obtain ⟨C0, hC0⟩ : ∃ z, C s PR = z := ⟨_, rfl⟩
    rw [hC0] at hl1 hl2 hen1 hcb
    have hwr : IntKind.i64.wrap (C0 + 1) = C0 + 1 := by rw [IntKind.wrap_i64]; omega
    obtain ⟨es2, ck2, hes1, hcm1⟩ := hst1 (C0 + 1)
    have H2D := Lib.hid h2d
    have HO2 := Lib.hid hO2
    have HCM1 := Lib.hid hcm1
    have HC0 := Lib.hid hC0
    clear h2d h2m hmid hst1 hcm1 hC0 k0 k1 k2 hO2
    go_region
    all_goals
      go_wp2_with fail
      go_meet
      rw [HC0.out]
      refine ⟨H2D.out.setMap HCM1.out, HO2.out.fr (Fr.of_setBlk (S := fun k => k = mb) _ _ _ rfl) (fun c hc e => ?_), fun c hc => ?_, (hF6.dr).trans (Fr.of_setBlk _ _ _ (.inr (.inl rfl)))⟩
      · have h1 := (HBV.out c hc).1; have h2 := HMB.out; omega
      · have h1 := HBV.out c hc; exact ⟨h1.1, by rw [setBlk_size]; exact h1.2.1, h1.2.2⟩
  case rest =>
  clear k0 k1 k2 hF6
  obtain ⟨h6, hO6, hbv6, hF7⟩ := hcut
  have H6 := Lib.hid h6
  have HO6 := Lib.hid hO6
  have HBV6 := Lib.hid hbv6
  clear h6 hO6 hbv6
  go_wp2_with fail
  go_ret2
  exact ⟨q, cap, bv, rfl, H6.out, HO6.out, HBV6.out, HQQ.out, hF7⟩
end
end Go.Proofs.Ytpcbcnheogjofaa
