/- What comes again, by the program and by the document, at any job; the law's own made. Printed by gen/genmade.py. -/
import Derived.Test.YtpcbcnheogjofaaTable12
import Derived.Test.YtpcbcnheogjofaaRef12
import Derived.Test.YtpcbcnheogjofaaBodyRef
namespace Go.Proofs.Ytpcbcnheogjofaa
open Go.RowKit Go.Maps Go.Shelf Go.Proofs.YtpcbcnheogjofaaW.PrintWords
set_option linter.unusedVariables false
set_option linter.unusedSimpArgs false

theorem wrap_top (z : Int) : 0 ≤ IntKind.u64.wrap z ∧ IntKind.u64.wrap z ≤ top := by
  have : top = 18446744073709551615 := by unfold top; rfl
  rw [IntKind.wrap_u64]
  omega
theorem after_both (f p d r m n : Int) (f0 : 0 ≤ f) (f1 : f ≤ top) (p0 : 0 ≤ p) (p1 : p ≤ top) (d0 : 0 ≤ d) (d1 : d ≤ top) (r0 : 0 ≤ r) (r1 : r ≤ top) (m0 : 0 ≤ m) (m1 : m ≤ top) (n0 : 0 ≤ n) (n1 : n ≤ top) :
    ∃ (D R M : Int) (g : Bool), (0 ≤ D ∧ D ≤ top ∧ 0 ≤ R ∧ R ≤ top ∧ 0 ≤ M ∧ M ≤ top) ∧ (∀ w, Calls Try.prog 43 #[.agg #[.int .u64 f, .int .u64 p, .int .u64 d, .int .u64 r, .int .u64 m], .int .u64 n] w fun e w' => e = .returned (.tuple #[.agg #[.int .u64 f, .int .u64 p, .int .u64 D, .int .u64 R, .int .u64 M], .bool g]) ∧ Below w.heap.size w w') ∧ (∀ w, Calls Try.prog 45 #[.agg #[.int .u64 f, .int .u64 p, .int .u64 d, .int .u64 r, .int .u64 m], .int .u64 n] w fun e w' => e = .returned (.tuple #[.agg #[.int .u64 f, .int .u64 p, .int .u64 D, .int .u64 R, .int .u64 M], .bool g]) ∧ Below w.heap.size w w') := by
  cases hok : okB f p d
  · exact ⟨d, r, m, false, ⟨d0, d1, r0, r1, m0, m1⟩, fun w => GAfter_no f p d r m n f0 p0 d0 d1 hok w, fun w => refAfter_no f p d r m n f0 p0 d0 d1 hok w⟩
  · obtain ⟨x, hx⟩ : ∃ x, (n < d ∧ x = d) ∨ (d ≤ n ∧ x = n) := by
      rcases Int.lt_or_le n d with h | h
      · exact ⟨d, .inl ⟨h, rfl⟩⟩
      · exact ⟨n, .inr ⟨h, rfl⟩⟩
    have hbd : 0 ≤ (if gB f p x then gN f p x else d) ∧ (if gB f p x then gN f p x else d) ≤ top := by
      split
      · exact gN_bd f p x f0 p0 (by omega)
      · exact ⟨d0, d1⟩
    exact ⟨_, _, _, _, ⟨hbd.1, hbd.2, (wrap_top _).1, (wrap_top _).2, (wrap_top _).1, (wrap_top _).2⟩, fun w => GAfter_go f p d r m n x (gB f p x) hx f0 f1 p0 p1 d0 d1 n0 n1 hok rfl w, fun w => refAfter_go f p d r m n x (gB f p x) hx f0 f1 p0 p1 d0 d1 n0 n1 hok rfl w⟩
section
variable {W W' : World}
set_option maxRecDepth 100000 in
set_option maxHeartbeats 8000000 in
theorem made_bad (KD ID PR s NN f p d r m : Int) (A : Option Addr) (cb : Nat) (L : List Op3) (hL : L.length ≤ 1000) (f0 : 0 ≤ f) (pp0 : 0 ≤ p) (d0 : 0 ≤ d) (d1 : d ≤ top) (hO : OpsAt W A L) (nn most : Int) (hbad : badMk PR s p (okB f p d) L = true) : Calls Try.prog 74 #[.agg #[.int .i64 KD, .int .i64 ID, .int .i64 PR, .int .i64 s, .int .u64 NN, .int .u64 f, .int .u64 p, .int .u64 d, .int .u64 r, .int .u64 m, .slice A L.length cb], .int .i64 nn, .int .i64 most] W fun e w' => e = .returned (.int .i64 1) ∧ Below W.heap.size W w' := by
  obtain ⟨x, hx⟩ : ∃ x, W.heap.size = x := ⟨_, rfl⟩
  obtain ⟨W0, hW0⟩ : ∃ W0, W.alloc (.cells #[.int .i64 KD, .int .i64 ID, .int .i64 PR, .int .i64 s, .int .u64 NN, .int .u64 f, .int .u64 p, .int .u64 d, .int .u64 r, .int .u64 m, .slice A L.length cb] 107) = W0 := ⟨_, rfl⟩
  have hj0 : W0.heap[x]? = some (.cells #[.int .i64 KD, .int .i64 ID, .int .i64 PR, .int .i64 s, .int .u64 NN, .int .u64 f, .int .u64 p, .int .u64 d, .int .u64 r, .int .u64 m, .slice A L.length cb] 107 (0, 0)) := by rw [← hW0, ← hx]; exact heap_alloc_new W _
  have hb0 : Below W.heap.size W W0 := by rw [← hW0]; exact below_al (Below.refl _ _) _
  have HBO := Lib.hid (RBodyOk_any A cb L hL (hO.below hb0))
  obtain ⟨j0, j1, j2, j3, j4, j5, j6, j7, j8, j9, j10⟩ : W0.cell? ⟨x, 0, none⟩ = some (.int .i64 KD) ∧ W0.cell? ⟨x, 1, none⟩ = some (.int .i64 ID) ∧ W0.cell? ⟨x, 2, none⟩ = some (.int .i64 PR) ∧ W0.cell? ⟨x, 3, none⟩ = some (.int .i64 s) ∧ W0.cell? ⟨x, 4, none⟩ = some (.int .u64 NN) ∧ W0.cell? ⟨x, 5, none⟩ = some (.int .u64 f) ∧ W0.cell? ⟨x, 6, none⟩ = some (.int .u64 p) ∧ W0.cell? ⟨x, 7, none⟩ = some (.int .u64 d) ∧ W0.cell? ⟨x, 8, none⟩ = some (.int .u64 r) ∧ W0.cell? ⟨x, 9, none⟩ = some (.int .u64 m) ∧ W0.cell? ⟨x, 10, none⟩ = some (.slice A L.length cb) := by
    refine ⟨?_, ?_, ?_, ?_, ?_, ?_, ?_, ?_, ?_, ?_, ?_⟩ <;> simp [World.cell?, hj0]
  have HB0 := Lib.hid hb0
  have HJ0 := Lib.hid hj0
  have hcase : PR < 0 ∨ (¬ PR < 0 ∧ 7 < PR) ∨ (¬ PR < 0 ∧ ¬ 7 < PR ∧ bodyB L = false) ∨ (¬ PR < 0 ∧ ¬ 7 < PR ∧ bodyB L = true ∧ canB 0 s = false) ∨ (¬ PR < 0 ∧ ¬ 7 < PR ∧ bodyB L = true ∧ canB 0 s = true ∧ 0 < p ∧ okB f p d = false) := by
    unfold badMk at hbad
    by_cases h1 : PR < 0
    · exact .inl h1
    by_cases h2 : 7 < PR
    · exact .inr (.inl ⟨h1, h2⟩)
    cases h3 : bodyB L
    · exact .inr (.inr (.inl ⟨h1, h2, rfl⟩))
    cases h4 : canB 0 s
    · exact .inr (.inr (.inr (.inl ⟨h1, h2, rfl, rfl⟩)))
    simp [h1, h2, h3, h4] at hbad
    exact .inr (.inr (.inr (.inr ⟨h1, h2, rfl, rfl, hbad.1, hbad.2⟩)))
  clear hbad hb0 hj0 hO
  rcases hcase with h1 | ⟨h1, h2⟩ | ⟨h1, h2, h3⟩ | ⟨h1, h2, h3, h4⟩ | ⟨h1, h2, h3, h4, h5, h6⟩
  · have q1 : decide (PR < 0) = true := by simpa using h1
    clear h1
    go_enter Try.func74, Try.ntmps74
    go_wp2_with fail
    go_ret
    exact ⟨rfl, HB0.out⟩
  · have q1 : decide (PR < 0) = false := by simpa using h1
    have q2 : decide (PR > 7) = true := by simpa using h2
    have q3 : decide (7 < PR) = true := by simpa using h2
    clear h1 h2
    go_enter Try.func74, Try.ntmps74
    go_wp2_with fail
    go_ret
    exact ⟨rfl, HB0.out⟩
  · have q1 : decide (PR < 0) = false := by simpa using h1
    have q2 : decide (PR > 7) = false := by simpa using h2
    have q3 : decide (7 < PR) = false := by simpa using h2
    have H3 := Lib.hid h3
    clear h1 h2 h3
    go_enter Try.func74, Try.ntmps74
    go_wp2_with fail
    refine HBO.out.mono ?_
    rintro e w1 ⟨rfl, hB1⟩
    rw [H3.out]
    have hj1 := (hB1.block x (Array.getElem?_eq_some_iff.1 HJ0.out).1).trans HJ0.out
    clear j0 j1 j2 j3 j4 j5 j6 j7 j8 j9 j10
    obtain ⟨j0, j1, j2, j3, j4, j5, j6, j7, j8, j9, j10⟩ : w1.cell? ⟨x, 0, none⟩ = some (.int .i64 KD) ∧ w1.cell? ⟨x, 1, none⟩ = some (.int .i64 ID) ∧ w1.cell? ⟨x, 2, none⟩ = some (.int .i64 PR) ∧ w1.cell? ⟨x, 3, none⟩ = some (.int .i64 s) ∧ w1.cell? ⟨x, 4, none⟩ = some (.int .u64 NN) ∧ w1.cell? ⟨x, 5, none⟩ = some (.int .u64 f) ∧ w1.cell? ⟨x, 6, none⟩ = some (.int .u64 p) ∧ w1.cell? ⟨x, 7, none⟩ = some (.int .u64 d) ∧ w1.cell? ⟨x, 8, none⟩ = some (.int .u64 r) ∧ w1.cell? ⟨x, 9, none⟩ = some (.int .u64 m) ∧ w1.cell? ⟨x, 10, none⟩ = some (.slice A L.length cb) := by
      refine ⟨?_, ?_, ?_, ?_, ?_, ?_, ?_, ?_, ?_, ?_, ?_⟩ <;> simp [World.cell?, hj1]
    go_wp2_with fail
    go_ret
    exact ⟨rfl, below_step hB1 HB0.out⟩
  · have q1 : decide (PR < 0) = false := by simpa using h1
    have q2 : decide (PR > 7) = false := by simpa using h2
    have q3 : decide (7 < PR) = false := by simpa using h2
    have H3 := Lib.hid h3
    have H4 := Lib.hid h4
    clear h1 h2 h3 h4
    go_enter Try.func74, Try.ntmps74
    go_wp2_with fail
    refine HBO.out.mono ?_
    rintro e w1 ⟨rfl, hB1⟩
    rw [H3.out]
    have hj1 := (hB1.block x (Array.getElem?_eq_some_iff.1 HJ0.out).1).trans HJ0.out
    clear j0 j1 j2 j3 j4 j5 j6 j7 j8 j9 j10
    obtain ⟨j0, j1, j2, j3, j4, j5, j6, j7, j8, j9, j10⟩ : w1.cell? ⟨x, 0, none⟩ = some (.int .i64 KD) ∧ w1.cell? ⟨x, 1, none⟩ = some (.int .i64 ID) ∧ w1.cell? ⟨x, 2, none⟩ = some (.int .i64 PR) ∧ w1.cell? ⟨x, 3, none⟩ = some (.int .i64 s) ∧ w1.cell? ⟨x, 4, none⟩ = some (.int .u64 NN) ∧ w1.cell? ⟨x, 5, none⟩ = some (.int .u64 f) ∧ w1.cell? ⟨x, 6, none⟩ = some (.int .u64 p) ∧ w1.cell? ⟨x, 7, none⟩ = some (.int .u64 d) ∧ w1.cell? ⟨x, 8, none⟩ = some (.int .u64 r) ∧ w1.cell? ⟨x, 9, none⟩ = some (.int .u64 m) ∧ w1.cell? ⟨x, 10, none⟩ = some (.slice A L.length cb) := by
      refine ⟨?_, ?_, ?_, ?_, ?_, ?_, ?_, ?_, ?_, ?_, ?_⟩ <;> simp [World.cell?, hj1]
    go_wp2_with fail
    refine (ref_can_any 0 s _).mono ?_
    rintro e w2 ⟨rfl, rfl⟩
    rw [H4.out]
    go_wp2_with fail
    go_ret
    exact ⟨rfl, below_step hB1 HB0.out⟩
  · have q1 : decide (PR < 0) = false := by simpa using h1
    have q2 : decide (PR > 7) = false := by simpa using h2
    have q3 : decide (7 < PR) = false := by simpa using h2
    have H3 := Lib.hid h3
    have H4 := Lib.hid h4
    have H6 := Lib.hid h6
    have g1 : decide (p > 0) = true := by simpa using h5
    have g2 : decide (0 < p) = true := by simpa using h5
    clear h1 h2 h3 h4 h5 h6
    go_enter Try.func74, Try.ntmps74
    go_wp2_with fail
    refine HBO.out.mono ?_
    rintro e w1 ⟨rfl, hB1⟩
    rw [H3.out]
    have hj1 := (hB1.block x (Array.getElem?_eq_some_iff.1 HJ0.out).1).trans HJ0.out
    clear j0 j1 j2 j3 j4 j5 j6 j7 j8 j9 j10
    obtain ⟨j0, j1, j2, j3, j4, j5, j6, j7, j8, j9, j10⟩ : w1.cell? ⟨x, 0, none⟩ = some (.int .i64 KD) ∧ w1.cell? ⟨x, 1, none⟩ = some (.int .i64 ID) ∧ w1.cell? ⟨x, 2, none⟩ = some (.int .i64 PR) ∧ w1.cell? ⟨x, 3, none⟩ = some (.int .i64 s) ∧ w1.cell? ⟨x, 4, none⟩ = some (.int .u64 NN) ∧ w1.cell? ⟨x, 5, none⟩ = some (.int .u64 f) ∧ w1.cell? ⟨x, 6, none⟩ = some (.int .u64 p) ∧ w1.cell? ⟨x, 7, none⟩ = some (.int .u64 d) ∧ w1.cell? ⟨x, 8, none⟩ = some (.int .u64 r) ∧ w1.cell? ⟨x, 9, none⟩ = some (.int .u64 m) ∧ w1.cell? ⟨x, 10, none⟩ = some (.slice A L.length cb) := by
      refine ⟨?_, ?_, ?_, ?_, ?_, ?_, ?_, ?_, ?_, ?_, ?_⟩ <;> simp [World.cell?, hj1]
    go_wp2_with fail
    refine (ref_can_any 0 s _).mono ?_
    rintro e w2 ⟨rfl, rfl⟩
    rw [H4.out]
    go_wp2_with fail
    refine (refOk_any f p d r m f0 pp0 d0 d1 _).mono ?_
    rintro e w3 ⟨rfl, rfl⟩
    rw [H6.out]
    go_wp2_with fail
    go_ret
    exact ⟨rfl, below_al (below_step hB1 HB0.out) _⟩
set_option maxRecDepth 100000 in
set_option maxHeartbeats 8000000 in
theorem made_good (KD ID PR s NN f p d r m : Int) (A : Option Addr) (cb : Nat) (L : List Op3) (hL : L.length ≤ 1000) (f0 : 0 ≤ f) (pp0 : 0 ≤ p) (d0 : 0 ≤ d) (d1 : d ≤ top) (hO : OpsAt W A L) (nn most : Int) (hbad : badMk PR s p (okB f p d) L = false) : Calls Try.prog 74 #[.agg #[.int .i64 KD, .int .i64 ID, .int .i64 PR, .int .i64 s, .int .u64 NN, .int .u64 f, .int .u64 p, .int .u64 d, .int .u64 r, .int .u64 m, .slice A L.length cb], .int .i64 nn, .int .i64 most] W fun e w' => e = .returned (.int .i64 (if most ≤ nn then 65 else 0)) ∧ Below W.heap.size W w' := by
  obtain ⟨x, hx⟩ : ∃ x, W.heap.size = x := ⟨_, rfl⟩
  obtain ⟨W0, hW0⟩ : ∃ W0, W.alloc (.cells #[.int .i64 KD, .int .i64 ID, .int .i64 PR, .int .i64 s, .int .u64 NN, .int .u64 f, .int .u64 p, .int .u64 d, .int .u64 r, .int .u64 m, .slice A L.length cb] 107) = W0 := ⟨_, rfl⟩
  have hj0 : W0.heap[x]? = some (.cells #[.int .i64 KD, .int .i64 ID, .int .i64 PR, .int .i64 s, .int .u64 NN, .int .u64 f, .int .u64 p, .int .u64 d, .int .u64 r, .int .u64 m, .slice A L.length cb] 107 (0, 0)) := by rw [← hW0, ← hx]; exact heap_alloc_new W _
  have hb0 : Below W.heap.size W W0 := by rw [← hW0]; exact below_al (Below.refl _ _) _
  have HBO := Lib.hid (RBodyOk_any A cb L hL (hO.below hb0))
  obtain ⟨j0, j1, j2, j3, j4, j5, j6, j7, j8, j9, j10⟩ : W0.cell? ⟨x, 0, none⟩ = some (.int .i64 KD) ∧ W0.cell? ⟨x, 1, none⟩ = some (.int .i64 ID) ∧ W0.cell? ⟨x, 2, none⟩ = some (.int .i64 PR) ∧ W0.cell? ⟨x, 3, none⟩ = some (.int .i64 s) ∧ W0.cell? ⟨x, 4, none⟩ = some (.int .u64 NN) ∧ W0.cell? ⟨x, 5, none⟩ = some (.int .u64 f) ∧ W0.cell? ⟨x, 6, none⟩ = some (.int .u64 p) ∧ W0.cell? ⟨x, 7, none⟩ = some (.int .u64 d) ∧ W0.cell? ⟨x, 8, none⟩ = some (.int .u64 r) ∧ W0.cell? ⟨x, 9, none⟩ = some (.int .u64 m) ∧ W0.cell? ⟨x, 10, none⟩ = some (.slice A L.length cb) := by
    refine ⟨?_, ?_, ?_, ?_, ?_, ?_, ?_, ?_, ?_, ?_, ?_⟩ <;> simp [World.cell?, hj0]
  have HB0 := Lib.hid hb0
  have HJ0 := Lib.hid hj0
  have hgood : 0 ≤ PR ∧ PR ≤ 7 ∧ bodyB L = true ∧ canB 0 s = true ∧ (p = 0 ∨ (0 < p ∧ okB f p d = true)) := by
    unfold badMk at hbad
    simp only [Bool.or_eq_false_iff, Bool.and_eq_false_iff, decide_eq_false_iff_not, Bool.not_eq_false'] at hbad
    obtain ⟨⟨⟨⟨h1, h2⟩, h3⟩, h4⟩, h5⟩ := hbad
    exact ⟨by omega, by omega, h3, h4, by rcases h5 with h | h; exact .inl (by omega); by_cases hz : p = 0; exact .inl hz; exact .inr ⟨by omega, h⟩⟩
  obtain ⟨p0, p1, hbody, hcan, hok⟩ := hgood
  have q1 : decide (PR < 0) = false := by simp; omega
  have q2 : decide (PR > 7) = false := by simp; omega
  have q3 : decide (7 < PR) = false := by simp; omega
  have H3 := Lib.hid hbody
  have H4 := Lib.hid hcan
  clear hbad hb0 hj0 hO hbody hcan
  rcases hok with rfl | ⟨hp, hok⟩
  · skip
    by_cases hm : most ≤ nn
    · rw [if_pos hm]
      have g5 : decide (nn ≥ most) = true := by simpa using hm
      have g6 : decide (most ≤ nn) = true := by simpa using hm
      clear hm
      go_enter Try.func74, Try.ntmps74
      go_wp2_with fail
      refine HBO.out.mono ?_
      rintro e w1 ⟨rfl, hB1⟩
      rw [H3.out]
      have hj1 := (hB1.block x (Array.getElem?_eq_some_iff.1 HJ0.out).1).trans HJ0.out
      clear j0 j1 j2 j3 j4 j5 j6 j7 j8 j9 j10
      obtain ⟨j0, j1, j2, j3, j4, j5, j6, j7, j8, j9, j10⟩ : w1.cell? ⟨x, 0, none⟩ = some (.int .i64 KD) ∧ w1.cell? ⟨x, 1, none⟩ = some (.int .i64 ID) ∧ w1.cell? ⟨x, 2, none⟩ = some (.int .i64 PR) ∧ w1.cell? ⟨x, 3, none⟩ = some (.int .i64 s) ∧ w1.cell? ⟨x, 4, none⟩ = some (.int .u64 NN) ∧ w1.cell? ⟨x, 5, none⟩ = some (.int .u64 f) ∧ w1.cell? ⟨x, 6, none⟩ = some (.int .u64 0) ∧ w1.cell? ⟨x, 7, none⟩ = some (.int .u64 d) ∧ w1.cell? ⟨x, 8, none⟩ = some (.int .u64 r) ∧ w1.cell? ⟨x, 9, none⟩ = some (.int .u64 m) ∧ w1.cell? ⟨x, 10, none⟩ = some (.slice A L.length cb) := by
        refine ⟨?_, ?_, ?_, ?_, ?_, ?_, ?_, ?_, ?_, ?_, ?_⟩ <;> simp [World.cell?, hj1]
      go_wp2_with fail
      refine (ref_can_any 0 s _).mono ?_
      rintro e w2 ⟨rfl, rfl⟩
      rw [H4.out]
      go_wp2_with fail
      go_ret
      exact ⟨rfl, below_step hB1 HB0.out⟩
    · rw [if_neg hm]
      have g5 : decide (nn ≥ most) = false := by simpa using hm
      have g6 : decide (most ≤ nn) = false := by simpa using hm
      clear hm
      go_enter Try.func74, Try.ntmps74
      go_wp2_with fail
      refine HBO.out.mono ?_
      rintro e w1 ⟨rfl, hB1⟩
      rw [H3.out]
      have hj1 := (hB1.block x (Array.getElem?_eq_some_iff.1 HJ0.out).1).trans HJ0.out
      clear j0 j1 j2 j3 j4 j5 j6 j7 j8 j9 j10
      obtain ⟨j0, j1, j2, j3, j4, j5, j6, j7, j8, j9, j10⟩ : w1.cell? ⟨x, 0, none⟩ = some (.int .i64 KD) ∧ w1.cell? ⟨x, 1, none⟩ = some (.int .i64 ID) ∧ w1.cell? ⟨x, 2, none⟩ = some (.int .i64 PR) ∧ w1.cell? ⟨x, 3, none⟩ = some (.int .i64 s) ∧ w1.cell? ⟨x, 4, none⟩ = some (.int .u64 NN) ∧ w1.cell? ⟨x, 5, none⟩ = some (.int .u64 f) ∧ w1.cell? ⟨x, 6, none⟩ = some (.int .u64 0) ∧ w1.cell? ⟨x, 7, none⟩ = some (.int .u64 d) ∧ w1.cell? ⟨x, 8, none⟩ = some (.int .u64 r) ∧ w1.cell? ⟨x, 9, none⟩ = some (.int .u64 m) ∧ w1.cell? ⟨x, 10, none⟩ = some (.slice A L.length cb) := by
        refine ⟨?_, ?_, ?_, ?_, ?_, ?_, ?_, ?_, ?_, ?_, ?_⟩ <;> simp [World.cell?, hj1]
      go_wp2_with fail
      refine (ref_can_any 0 s _).mono ?_
      rintro e w2 ⟨rfl, rfl⟩
      rw [H4.out]
      go_wp2_with fail
      go_ret
      exact ⟨rfl, below_step hB1 HB0.out⟩
  · skip
    have g1 : decide (p > 0) = true := by simpa using hp
    have g2 : decide (0 < p) = true := by simpa using hp
    have H6 := Lib.hid hok
    clear hok
    by_cases hm : most ≤ nn
    · rw [if_pos hm]
      have g5 : decide (nn ≥ most) = true := by simpa using hm
      have g6 : decide (most ≤ nn) = true := by simpa using hm
      clear hm
      go_enter Try.func74, Try.ntmps74
      go_wp2_with fail
      refine HBO.out.mono ?_
      rintro e w1 ⟨rfl, hB1⟩
      rw [H3.out]
      have hj1 := (hB1.block x (Array.getElem?_eq_some_iff.1 HJ0.out).1).trans HJ0.out
      clear j0 j1 j2 j3 j4 j5 j6 j7 j8 j9 j10
      obtain ⟨j0, j1, j2, j3, j4, j5, j6, j7, j8, j9, j10⟩ : w1.cell? ⟨x, 0, none⟩ = some (.int .i64 KD) ∧ w1.cell? ⟨x, 1, none⟩ = some (.int .i64 ID) ∧ w1.cell? ⟨x, 2, none⟩ = some (.int .i64 PR) ∧ w1.cell? ⟨x, 3, none⟩ = some (.int .i64 s) ∧ w1.cell? ⟨x, 4, none⟩ = some (.int .u64 NN) ∧ w1.cell? ⟨x, 5, none⟩ = some (.int .u64 f) ∧ w1.cell? ⟨x, 6, none⟩ = some (.int .u64 p) ∧ w1.cell? ⟨x, 7, none⟩ = some (.int .u64 d) ∧ w1.cell? ⟨x, 8, none⟩ = some (.int .u64 r) ∧ w1.cell? ⟨x, 9, none⟩ = some (.int .u64 m) ∧ w1.cell? ⟨x, 10, none⟩ = some (.slice A L.length cb) := by
        refine ⟨?_, ?_, ?_, ?_, ?_, ?_, ?_, ?_, ?_, ?_, ?_⟩ <;> simp [World.cell?, hj1]
      go_wp2_with fail
      refine (ref_can_any 0 s _).mono ?_
      rintro e w2 ⟨rfl, rfl⟩
      rw [H4.out]
      go_wp2_with fail
      refine (refOk_any f p d r m f0 pp0 d0 d1 _).mono ?_
      rintro e w3 ⟨rfl, rfl⟩
      rw [H6.out]
      go_wp2_with fail
      go_ret
      exact ⟨rfl, below_al (below_step hB1 HB0.out) _⟩
    · rw [if_neg hm]
      have g5 : decide (nn ≥ most) = false := by simpa using hm
      have g6 : decide (most ≤ nn) = false := by simpa using hm
      clear hm
      go_enter Try.func74, Try.ntmps74
      go_wp2_with fail
      refine HBO.out.mono ?_
      rintro e w1 ⟨rfl, hB1⟩
      rw [H3.out]
      have hj1 := (hB1.block x (Array.getElem?_eq_some_iff.1 HJ0.out).1).trans HJ0.out
      clear j0 j1 j2 j3 j4 j5 j6 j7 j8 j9 j10
      obtain ⟨j0, j1, j2, j3, j4, j5, j6, j7, j8, j9, j10⟩ : w1.cell? ⟨x, 0, none⟩ = some (.int .i64 KD) ∧ w1.cell? ⟨x, 1, none⟩ = some (.int .i64 ID) ∧ w1.cell? ⟨x, 2, none⟩ = some (.int .i64 PR) ∧ w1.cell? ⟨x, 3, none⟩ = some (.int .i64 s) ∧ w1.cell? ⟨x, 4, none⟩ = some (.int .u64 NN) ∧ w1.cell? ⟨x, 5, none⟩ = some (.int .u64 f) ∧ w1.cell? ⟨x, 6, none⟩ = some (.int .u64 p) ∧ w1.cell? ⟨x, 7, none⟩ = some (.int .u64 d) ∧ w1.cell? ⟨x, 8, none⟩ = some (.int .u64 r) ∧ w1.cell? ⟨x, 9, none⟩ = some (.int .u64 m) ∧ w1.cell? ⟨x, 10, none⟩ = some (.slice A L.length cb) := by
        refine ⟨?_, ?_, ?_, ?_, ?_, ?_, ?_, ?_, ?_, ?_, ?_⟩ <;> simp [World.cell?, hj1]
      go_wp2_with fail
      refine (ref_can_any 0 s _).mono ?_
      rintro e w2 ⟨rfl, rfl⟩
      rw [H4.out]
      go_wp2_with fail
      refine (refOk_any f p d r m f0 pp0 d0 d1 _).mono ?_
      rintro e w3 ⟨rfl, rfl⟩
      rw [H6.out]
      go_wp2_with fail
      go_ret
      exact ⟨rfl, below_al (below_step hB1 HB0.out) _⟩
end
end Go.Proofs.Ytpcbcnheogjofaa
