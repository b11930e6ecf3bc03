/- Law GridTells proved: for any job, any numbers the call returns true, under no condition.
   The frame below the walk was written by the kit's proof-skeleton.mjs. -/
import Derived.Test.YtpcbcnheogjofaaRows
import Derived.WalkKit
import Derived.ProofKit
import Derived.OpenShut
import Derived.ShutString
import Derived.ChangeOld
import Derived.Below
import Derived.Lib.SmallJoins
import Derived.Test.YtpcbcnheogjofaaRef12
import Derived.Test.YtpcbcnheogjofaaOpen
import Derived.Deep.LoopGhost
import Derived.BigQuiet
namespace Go.Proofs.Ytpcbcnheogjofaa.gridTells
open Go.ChangeShapes Go.WideShapes Go.ChangeAt Go.RowKit
open Go.ChangeMaps (open_string shut_string)
set_option linter.unusedVariables false

theorem own : ownKnob Try.prog.godebug = none := by kernel_rfl
theorem laidOut : laidOutB Try.prog = true := by kernel_rfl


open Go.Proofs.YtpcbcnheogjofaaW.PrintWords in
theorem reads_plain {w : World} {k : IntKind} {A : Option Addr} {n : Nat} {xs : List Int} (h : ReadsInt w k A n xs) : n = 0 ∨ ∃ b off, A = some ⟨b, off, none⟩ ∧ b < w.heap.size ∧ ∀ j, j < n → w.cell? ⟨b, off + j, none⟩ = some (.int k (xs.getD j 0)) := by
  rcases Nat.eq_zero_or_pos n with h0 | h0
  · exact .inl h0
  · obtain ⟨ad, rfl, hc⟩ := h.2.2 h0
    obtain ⟨b, off, spot⟩ := ad
    have hspot : spot = none := by simpa [Addr.add] using World.cell?_spot (hc 0 h0)
    subst hspot
    refine .inr ⟨b, off, rfl, ?_, fun j hj => by rw [← Go.WideShapes.add_plain]; exact hc j hj⟩
    have := hc 0 h0
    rw [Go.WideShapes.add_plain] at this
    exact World.block_lt_of_cell? w _ this
theorem reads_drN {w : World} {k : IntKind} {A : Option Addr} {n : Nat} {xs : List Int} (h : Go.Proofs.YtpcbcnheogjofaaW.PrintWords.ReadsInt w k A n xs) (m : Nat) : Go.Proofs.YtpcbcnheogjofaaW.PrintWords.ReadsInt (w.drewN m) k A n xs := h
theorem reads_dr {w : World} {k : IntKind} {A : Option Addr} {n : Nat} {xs : List Int} (h : Go.Proofs.YtpcbcnheogjofaaW.PrintWords.ReadsInt w k A n xs) : Go.Proofs.YtpcbcnheogjofaaW.PrintWords.ReadsInt w.drew k A n xs := h
theorem g_alloc_at {W : World} {o : Obj} {n : Nat} (h : n = W.heap.size) : (W.alloc o).heap[n]? = some o := by rw [h]; exact heap_alloc_new W o
theorem g_alloc_old {W : World} {o p : Obj} {n : Nat} (h : W.heap[n]? = some p) : (W.alloc o).heap[n]? = some p := (Below.heap_alloc W o n (Array.getElem?_eq_some_iff.1 h).1).trans h
def JobAt (W : World) (b : Nat) (f p d r m : Int) : Prop := W.heap[b]? = some (.cells #[.int .u64 f, .int .u64 p, .int .u64 d, .int .u64 r, .int .u64 m] 57 (0, 0))
theorem JobAt.cells {W : World} {b : Nat} {f p d r m : Int} (h : JobAt W b f p d r m) : W.cell? ⟨b, 0, none⟩ = some (.int .u64 f) ∧ W.cell? ⟨b, 1, none⟩ = some (.int .u64 p) ∧ W.cell? ⟨b, 2, none⟩ = some (.int .u64 d) ∧ W.cell? ⟨b, 3, none⟩ = some (.int .u64 r) ∧ W.cell? ⟨b, 4, none⟩ = some (.int .u64 m) := by
  unfold JobAt at h
  refine ⟨?_, ?_, ?_, ?_, ?_⟩ <;> simp [World.cell?, h]
theorem JobAt.below {W W' : World} {b : Nat} {f p d r m : Int} (h : JobAt W b f p d r m) (hb : Below W.heap.size W W') : JobAt W' b f p d r m := (hb.block b (Array.getElem?_eq_some_iff.1 h).1).trans h
theorem JobAt.drN {W : World} {b : Nat} {f p d r m : Int} (h : JobAt W b f p d r m) (n : Nat) : JobAt (W.drewN n) b f p d r m := h
theorem JobAt.dr {W : World} {b : Nat} {f p d r m : Int} (h : JobAt W b f p d r m) : JobAt W.drew b f p d r m := h
theorem JobAt.al {W : World} {b : Nat} {f p d r m : Int} (h : JobAt W b f p d r m) (o : Obj) : JobAt (W.alloc o) b f p d r m := g_alloc_old h
structure JInv (w X : World) (b b1 b2 : Nat) (f p d r m D R M : Int) : Prop where
  j : JobAt X b f p d r m
  k : JobAt X b1 f p D R M
  l : JobAt X b2 f p D R M
  bel : Below w.heap.size w X
theorem JInv.step {w X X' : World} {b b1 b2 : Nat} {f p d r m D R M : Int} (h : JInv w X b b1 b2 f p d r m D R M) (hb : Below X.heap.size X X') : JInv w X' b b1 b2 f p d r m D R M := ⟨h.j.below hb, h.k.below hb, h.l.below hb, below_step hb h.bel⟩
theorem JInv.dr {w X : World} {b b1 b2 : Nat} {f p d r m D R M : Int} (h : JInv w X b b1 b2 f p d r m D R M) : JInv w X.drew b b1 b2 f p d r m D R M := ⟨h.j, h.k, h.l, below_dr h.bel⟩
open Go.Proofs.YtpcbcnheogjofaaW.PrintWords in
structure RInv (w X : World) (b b1 b2 : Nat) (f p d r m D R M : Int) (A A' : Option Addr) (L : List Int) : Prop where
  i : JInv w X b b1 b2 f p d r m D R M
  ra : ReadsInt X .u64 A L.length L
  rb : ReadsInt X .u64 A' L.length L
theorem RInv.step {w X X' : World} {b b1 b2 : Nat} {f p d r m D R M : Int} {A A' : Option Addr} {L : List Int} (h : RInv w X b b1 b2 f p d r m D R M A A' L) (hb : Below X.heap.size X X') : RInv w X' b b1 b2 f p d r m D R M A A' L := ⟨h.i.step hb, Go.Proofs.YtpcbcnheogjofaaW.PrintWords.ReadsInt.below h.ra hb, Go.Proofs.YtpcbcnheogjofaaW.PrintWords.ReadsInt.below h.rb hb⟩
theorem RInv.dr {w X : World} {b b1 b2 : Nat} {f p d r m D R M : Int} {A A' : Option Addr} {L : List Int} (h : RInv w X b b1 b2 f p d r m D R M A A' L) : RInv w X.drew b b1 b2 f p d r m D R M A A' L := ⟨h.i.dr, h.ra, h.rb⟩
theorem jheld {w X : World} {b b1 b2 : Nat} {f p d r m D R M : Int} (h : JInv w X b b1 b2 f p d r m D R M) : X.cell? ⟨b, 0, none⟩ = some (.int .u64 f) ∧ X.cell? ⟨b, 1, none⟩ = some (.int .u64 p) ∧ X.cell? ⟨b, 2, none⟩ = some (.int .u64 d) ∧ X.cell? ⟨b, 3, none⟩ = some (.int .u64 r) ∧ X.cell? ⟨b, 4, none⟩ = some (.int .u64 m) ∧ JInv w X b b1 b2 f p d r m D R M := by
  obtain ⟨c0, c1, c2, c3, c4⟩ := h.j.cells
  exact ⟨c0, c1, c2, c3, c4, h⟩
theorem rheld {w X : World} {b b1 b2 : Nat} {f p d r m D R M : Int} {A A' : Option Addr} {L : List Int} (h : RInv w X b b1 b2 f p d r m D R M A A' L) : X.cell? ⟨b, 0, none⟩ = some (.int .u64 f) ∧ X.cell? ⟨b, 1, none⟩ = some (.int .u64 p) ∧ X.cell? ⟨b, 2, none⟩ = some (.int .u64 d) ∧ X.cell? ⟨b, 3, none⟩ = some (.int .u64 r) ∧ X.cell? ⟨b, 4, none⟩ = some (.int .u64 m) ∧ X.cell? ⟨b1, 0, none⟩ = some (.int .u64 f) ∧ X.cell? ⟨b1, 1, none⟩ = some (.int .u64 p) ∧ X.cell? ⟨b1, 2, none⟩ = some (.int .u64 D) ∧ X.cell? ⟨b1, 3, none⟩ = some (.int .u64 R) ∧ X.cell? ⟨b1, 4, none⟩ = some (.int .u64 M) ∧ X.cell? ⟨b2, 0, none⟩ = some (.int .u64 f) ∧ X.cell? ⟨b2, 1, none⟩ = some (.int .u64 p) ∧ X.cell? ⟨b2, 2, none⟩ = some (.int .u64 D) ∧ X.cell? ⟨b2, 3, none⟩ = some (.int .u64 R) ∧ X.cell? ⟨b2, 4, none⟩ = some (.int .u64 M) ∧ RInv w X b b1 b2 f p d r m D R M A A' L := by
  obtain ⟨c0, c1, c2, c3, c4⟩ := h.i.j.cells
  obtain ⟨d0, d1, d2, d3, d4⟩ := h.i.k.cells
  obtain ⟨e0, e1, e2, e3, e4⟩ := h.i.l.cells
  exact ⟨c0, c1, c2, c3, c4, d0, d1, d2, d3, d4, e0, e1, e2, e3, e4, h⟩
set_option maxRecDepth 100000 in
set_option maxHeartbeats 8000000 in

theorem walk (z0a z0b z0c z0d z0e : Int) (a1 : Int) (a2 : Int) (a3 : Int) (a4 : Int) (w : World) (w0 : (Lit.int .u64 z0a).wf = true ∧ (Lit.int .u64 z0b).wf = true ∧ (Lit.int .u64 z0c).wf = true ∧ (Lit.int .u64 z0d).wf = true ∧ (Lit.int .u64 z0e).wf = true) (w1 : (Lit.int .u64 a1).wf = true) (w2 : (Lit.int .u64 a2).wf = true) (w3 : (Lit.int .u64 a3).wf = true) (w4 : (Lit.int .i64 a4).wf = true) :
    Calls Try.prog 10 #[.agg #[.int .u64 z0a, .int .u64 z0b, .int .u64 z0c, .int .u64 z0d, .int .u64 z0e], .int .u64 a1, .int .u64 a2, .int .u64 a3, .int .i64 a4] w fun e w' => e = .returned (.bool true) ∧ Below w.heap.size w w' := by
  obtain ⟨q0, q1, q2, q3, q4⟩ := w0
  obtain ⟨f0, f1⟩ := u64_of_wf q0
  obtain ⟨p0, p1⟩ := u64_of_wf q1
  obtain ⟨d0, d1⟩ := u64_of_wf q2
  obtain ⟨i0, i1⟩ := u64_of_wf w1
  obtain ⟨j0, j1⟩ := u64_of_wf w2
  obtain ⟨n0, n1⟩ := u64_of_wf w3
  clear q0 q1 q2 q3 q4 w1 w2 w3 w4
  generalize z0a = f at *
  generalize z0b = p at *
  generalize z0c = d at *
  generalize z0d = r at *
  generalize z0e = m at *
  obtain ⟨X0, X1, X2, E0, hN, hX⟩ : ∃ X0 X1 X2 E0 : Int, (∀ w, Calls Try.prog 41 #[.int .u64 a1, .int .u64 a2] w fun e w' => e = .returned (.tuple #[.agg #[.int .u64 X0, .int .u64 X1, .int .u64 X2, .int .u64 0, .int .u64 0], .int .i64 E0]) ∧ Below w.heap.size w w') ∧ ((a2 = 0 ∧ X0 = 0 ∧ X1 = 0 ∧ X2 = 0 ∧ E0 = 1) ∨ (0 < a2 ∧ X0 = a1 ∧ X1 = a2 ∧ X2 = a1 ∧ E0 = 0)) := by
    rcases (show a2 = 0 ∨ 0 < a2 from by omega) with rfl | h
    · exact ⟨0, 0, 0, 1, fun w => GNew_zero a1 w, .inl ⟨rfl, rfl, rfl, rfl, rfl⟩⟩
    · exact ⟨a1, a2, a1, 0, fun w => GNew_pos a1 a2 h w, .inr ⟨h, rfl, rfl, rfl, rfl⟩⟩
  obtain ⟨D, R, M, g, hA, hR⟩ : ∃ (D R M : Int) (g : Bool), (∀ w, Calls Try.prog 43 #[.agg #[.int .u64 f, .int .u64 p, .int .u64 d, .int .u64 r, .int .u64 m], .int .u64 a3] w fun e w' => e = .returned (.tuple #[.agg #[.int .u64 f, .int .u64 p, .int .u64 D, .int .u64 R, .int .u64 M], .bool g]) ∧ Below w.heap.size w w') ∧ (∀ w, Calls Try.prog 45 #[.agg #[.int .u64 f, .int .u64 p, .int .u64 d, .int .u64 r, .int .u64 m], .int .u64 a3] w fun e w' => e = .returned (.tuple #[.agg #[.int .u64 f, .int .u64 p, .int .u64 D, .int .u64 R, .int .u64 M], .bool g]) ∧ Below w.heap.size w w') := by
    cases hok : okB f p d
    · exact ⟨d, r, m, false, fun w => GAfter_no f p d r m a3 f0 p0 d0 d1 hok w, fun w => refAfter_no f p d r m a3 f0 p0 d0 d1 hok w⟩
    · obtain ⟨x, hx⟩ : ∃ x, (a3 < d ∧ x = d) ∨ (d ≤ a3 ∧ x = a3) := by
        rcases Int.lt_or_le a3 d with h | h
        · exact ⟨d, .inl ⟨h, rfl⟩⟩
        · exact ⟨a3, .inr ⟨h, rfl⟩⟩
      exact ⟨_, _, _, _, fun w => GAfter_go f p d r m a3 x (gB f p x) hx f0 f1 p0 p1 d0 d1 n0 n1 hok rfl w, fun w => refAfter_go f p d r m a3 x (gB f p x) hx f0 f1 p0 p1 d0 d1 n0 n1 hok rfl w⟩
  obtain ⟨L, hL⟩ : ∃ L, ahL f p (ahM a4) a3 = L := ⟨_, rfl⟩
  have hL100 : L.length ≤ 100 := by
    have h1 := ahL_len f p (ahM a4) a3
    have h2 : ahM a4 ≤ 100 := by unfold ahM; omega
    rw [hL] at h1
    omega
  have hAh := fun w => Ahead_any f p d r m a3 a4 f0 f1 p0 p1 n0 n1 w
  have hRh := fun w => refAhead_any f p d r m a3 a4 f0 f1 p0 p1 n0 n1 w
  have hOk := fun w => (GOk_any f p d r m f0 p0 d0 d1 w).mono (fun e w' (h : e = .returned (.bool (okB f p d)) ∧ w' = w.alloc (.cells #[.int .u64 f, .int .u64 p, .int .u64 d, .int .u64 r, .int .u64 m] 57)) => (show e = .returned (.bool (okB f p d)) ∧ Below w.heap.size w w' from ⟨h.1, by rw [h.2]; exact below_al (Below.refl _ _) _⟩))
  have hRk := fun w => (refOk_any f p d r m f0 p0 d0 d1 w).mono (fun e w' (h : e = .returned (.bool (okB f p d)) ∧ w' = w.alloc (.cells #[.int .u64 f, .int .u64 p, .int .u64 d, .int .u64 r, .int .u64 m] 57)) => (show e = .returned (.bool (okB f p d)) ∧ Below w.heap.size w w' from ⟨h.1, by rw [h.2]; exact below_al (Below.refl _ _) _⟩))
  rw [hL] at hAh hRh
  generalize okB f p d = K at hOk hRk
  have HA := Lib.hid hA
  have HR := Lib.hid hR
  have HN := Lib.hid hN
  have HX := Lib.hid hX
  have HAH := Lib.hid hAh
  have HRH := Lib.hid hRh
  have HOK := Lib.hid hOk
  have HRK := Lib.hid hRk
  clear hA hR hN hX hAh hRh hOk hRk hL f0 f1 p0 p1 d0 d1 i0 i1 n0 n1
  obtain ⟨b, hb⟩ : ∃ b, w.heap.size = b := ⟨_, rfl⟩
  obtain ⟨W0, hW0⟩ : ∃ W0, w.alloc (.cells #[.int .u64 f, .int .u64 p, .int .u64 d, .int .u64 r, .int .u64 m] 57) = W0 := ⟨_, rfl⟩
  have hJ0 : JobAt W0 b f p d r m := by rw [← hW0, ← hb]; exact heap_alloc_new w _
  have hB0 : Below w.heap.size w W0 := by rw [← hW0]; exact below_al (Below.refl _ _) _
  go_enter Try.func10, Try.ntmps10
  go_wp2_with fail
  try rw [hW0]
  clear hW0
  refine (HN.out _).mono ?_
  rintro e w1 ⟨rfl, hB1⟩
  have hJ1 := hJ0.below hB1
  have hB2 := below_step hB1 hB0
  clear hJ0 hB0 hB1
  go_upto_if 27 with fail
  go_cut [] (fun wx => JobAt wx b f p d r m ∧ Below w.heap.size w wx)
  case first =>
    rcases HX.out with ⟨rfl, rfl, rfl, rfl, rfl⟩ | ⟨h, rfl, rfl, rfl, rfl⟩
    · go_wp2_with fail
      go_meet
      exact ⟨hJ1.al _, below_al hB2 _⟩
    · have hz : (X1 == 0) = false := by simp; omega
      go_wp2_with fail
      go_meet
      exact ⟨hJ1.al _, below_al hB2 _⟩
  case rest =>
  obtain ⟨hJ, hB⟩ := hcut

  obtain ⟨c0, c1, c2, c3, c4⟩ := hJ.cells
  go_wp2_with fail
  refine (HA.out _).mono ?_
  rintro e w2 ⟨rfl, hB1⟩
  have hJ1 := hJ.below hB1
  have hB2 := below_step hB1 hB
  clear hJ hB hB1 c0 c1 c2 c3 c4
  obtain ⟨c0, c1, c2, c3, c4⟩ := hJ1.cells
  go_upto_region 8 with fail
  obtain ⟨W1, hW1⟩ : ∃ W1, w2.alloc (.cells #[.int .u64 f, .int .u64 p, .int .u64 D, .int .u64 R, .int .u64 M] 57) = W1 := ⟨_, rfl⟩
  have hJ2 : JobAt W1 b f p d r m := by rw [← hW1]; exact hJ1.al _
  have hK2 : JobAt W1 w2.heap.size f p D R M := by rw [← hW1]; exact g_alloc_at rfl
  have hB3 : Below w.heap.size w W1 := by rw [← hW1]; exact below_al hB2 _
  rw [hW1]
  clear hW1 hJ1 hB2 c0 c1 c2 c3 c4
  generalize w2.heap.size = b1 at *
  obtain ⟨c0, c1, c2, c3, c4⟩ := hJ2.cells
  go_wp2_with fail
  refine (HR.out _).mono ?_
  rintro e w3 ⟨rfl, hB4⟩
  have hJ3 := hJ2.below hB4
  have hK3 := hK2.below hB4
  have hB5 := below_step hB4 hB3
  clear hJ2 hK2 hB3 hB4 c0 c1 c2 c3 c4
  go_upto_region 9 with fail
  obtain ⟨W2, hW2⟩ : ∃ W2, w3.alloc (.cells #[.int .u64 f, .int .u64 p, .int .u64 D, .int .u64 R, .int .u64 M] 57) = W2 := ⟨_, rfl⟩
  have hJ4 : JobAt W2 b f p d r m := by rw [← hW2]; exact hJ3.al _
  have hK4 : JobAt W2 b1 f p D R M := by rw [← hW2]; exact hK3.al _
  have hL4 : JobAt W2 w3.heap.size f p D R M := by rw [← hW2]; exact g_alloc_at rfl
  have hB6 : Below w.heap.size w W2 := by rw [← hW2]; exact below_al hB5 _
  rw [hW2]
  clear hW2 hJ3 hK3 hB5
  generalize w3.heap.size = b2 at *
  go_cut [17, 18] (fun v17 v18 wx => ∃ A c A' c', v17 = .slice A L.length c ∧ v18 = .slice A' L.length c' ∧ Go.Proofs.YtpcbcnheogjofaaW.PrintWords.ReadsInt wx .u64 A L.length L ∧ Go.Proofs.YtpcbcnheogjofaaW.PrintWords.ReadsInt wx .u64 A' L.length L ∧ JobAt wx b f p d r m ∧ JobAt wx b1 f p D R M ∧ JobAt wx b2 f p D R M ∧ Below w.heap.size w wx)
  case first =>
    obtain ⟨c0, c1, c2, c3, c4⟩ := hJ4.cells
    have hI : JInv w W2 b b1 b2 f p d r m D R M := ⟨hJ4, hK4, hL4, hB6⟩
    have hId := hI.dr
    clear hJ4 hK4 hL4 hB6
    go_region_held3 (fun X => X.cell? ⟨b, 0, none⟩ = some (.int .u64 f) ∧ X.cell? ⟨b, 1, none⟩ = some (.int .u64 p) ∧ X.cell? ⟨b, 2, none⟩ = some (.int .u64 d) ∧ X.cell? ⟨b, 3, none⟩ = some (.int .u64 r) ∧ X.cell? ⟨b, 4, none⟩ = some (.int .u64 m) ∧ JInv w X b b1 b2 f p d r m D R M) ((first | exact jheld (by assumption))) (first | (go_at_call 42; refine (HAH.out _).mono ?_; rintro e wA ⟨A1, cA1, rfl, hRA, hBA⟩; have hIA := JInv.step (by assumption) hBA; try (have hRB2 := Go.Proofs.YtpcbcnheogjofaaW.PrintWords.ReadsInt.below hRB hBA)) | (go_at_call 46; refine (HRH.out _).mono ?_; rintro e wB ⟨A2, cA2, rfl, hRB, hBB⟩; have hIB := JInv.step (by assumption) hBB; try (have hRA2 := Go.Proofs.YtpcbcnheogjofaaW.PrintWords.ReadsInt.below hRA hBB)))
    all_goals
      go_wp2_with fail
      go_meet
      exact ⟨_, _, _, _, rfl, rfl, by assumption, by assumption, JInv.j (by assumption), JInv.k (by assumption), JInv.l (by assumption), JInv.bel (by assumption)⟩
  case rest =>
  obtain ⟨A, cA, A', cA', rfl, rfl, hRA, hRB, hJ, hK, hM, hB⟩ := hcut
  clear hJ4 hK4 hL4 hB6
  go_upto_region 10 with fail
  go_cut [86] (fun v86 wx => v86 = .bool false ∧ Go.Proofs.YtpcbcnheogjofaaW.PrintWords.ReadsInt wx .u64 A L.length L ∧ Go.Proofs.YtpcbcnheogjofaaW.PrintWords.ReadsInt wx .u64 A' L.length L ∧ Below w.heap.size w wx)
  case first =>
    have hI : RInv w wc b b1 b2 f p d r m D R M A A' L := ⟨⟨hJ, hK, hM, hB⟩, hRA, hRB⟩
    have hId := hI.dr
    obtain ⟨c0, c1, c2, c3, c4⟩ := hJ.cells
    obtain ⟨k0, k1, k2, k3, k4⟩ := hK.cells
    obtain ⟨l0, l1, l2, l3, l4⟩ := hM.cells
    clear hJ hK hM hB hRA hRB
    go_region_held3 (fun X => X.cell? ⟨b, 0, none⟩ = some (.int .u64 f) ∧ X.cell? ⟨b, 1, none⟩ = some (.int .u64 p) ∧ X.cell? ⟨b, 2, none⟩ = some (.int .u64 d) ∧ X.cell? ⟨b, 3, none⟩ = some (.int .u64 r) ∧ X.cell? ⟨b, 4, none⟩ = some (.int .u64 m) ∧ X.cell? ⟨b1, 0, none⟩ = some (.int .u64 f) ∧ X.cell? ⟨b1, 1, none⟩ = some (.int .u64 p) ∧ X.cell? ⟨b1, 2, none⟩ = some (.int .u64 D) ∧ X.cell? ⟨b1, 3, none⟩ = some (.int .u64 R) ∧ X.cell? ⟨b1, 4, none⟩ = some (.int .u64 M) ∧ X.cell? ⟨b2, 0, none⟩ = some (.int .u64 f) ∧ X.cell? ⟨b2, 1, none⟩ = some (.int .u64 p) ∧ X.cell? ⟨b2, 2, none⟩ = some (.int .u64 D) ∧ X.cell? ⟨b2, 3, none⟩ = some (.int .u64 R) ∧ X.cell? ⟨b2, 4, none⟩ = some (.int .u64 M) ∧ RInv w X b b1 b2 f p d r m D R M A A' L) ((first | exact rheld (by assumption))) (first | (go_at_call 47; refine (HOK.out _).mono ?_; rintro e wA ⟨rfl, hBA⟩; have hIA := RInv.step (by assumption) hBA) | (go_at_call 48; refine (HRK.out _).mono ?_; rintro e wB ⟨rfl, hBB⟩; have hIB := RInv.step (by assumption) hBB))
    all_goals
      go_wp2_with fail
      go_meet
      exact ⟨rfl, RInv.ra (by assumption), RInv.rb (by assumption), JInv.bel (RInv.i (by assumption))⟩
  case rest =>
  obtain ⟨rfl, hA, hR, hb⟩ := hcut
  go_upto_region 12 with fail
  go_wp2_with fail
  go_loopg [19] L.length (fun g v19 wr => ∃ i : Nat, g = L.length - i ∧ i ≤ L.length ∧ v19 = .int .i64 i ∧ Go.Proofs.YtpcbcnheogjofaaW.PrintWords.ReadsInt wr .u64 A L.length L ∧ Go.Proofs.YtpcbcnheogjofaaW.PrintWords.ReadsInt wr .u64 A' L.length L ∧ Below w.heap.size w wr)
  case atStart => exact ⟨0, rfl, by omega, rfl, hA, hR, hb⟩
  case round =>
    clear hA hR hb
    obtain ⟨i, rfl, hin, rfl, hA, hR, hB⟩ := hrel
    by_cases hlt : i < L.length
    · rcases reads_plain hA with h0 | ⟨b1, off1, rfl, hb1, hc1⟩
      · omega
      rcases reads_plain hR with h0 | ⟨b2, off2, rfl, hb2, hc2⟩
      · omega
      have c1 := hc1 i hlt
      have c2 := hc2 i hlt
      clear hc1 hc2
      go_wp2_with fail
      go_big_quiet (fail)
      have hA2 := reads_drN hA nq
      have hR2 := reads_drN hR nq
      have hB2 := below_drN hB nq
      clear hA hR hB
      go_wp2_with fail
      go_roundg (L.length - (i + 1))
      case measure => omega
      case rel => exact ⟨i + 1, rfl, by omega, by go_num, hA2, hR2, hB2⟩
    · obtain rfl : i = L.length := by omega
      go_wp2_with fail
      refine (awake13 _).mono ?_
      rintro e w6 ⟨rfl, hb⟩
      go_wp2_with fail
      go_ret
      exact ⟨rfl, below_step hb hB⟩

set_option maxRecDepth 100000 in
theorem lifted (os : Os) (started : os.Started) (H : Type) (enc : TypeId × Value → H) :
    ReturnsInHanded {} Try.checked os 10 .any (Rows.gridTellsSpec.pre6 enc Try.prog Try.f10 Rows.gridTellsRow.domain false) (Rows.gridTellsSpec.post enc Try.prog Try.f10 false true false false) := by
  refine returnsInHanded_of_change (C := Try.checked) own started (by kernel_rfl) Try.func10
    (ChangeSpec.witness6 (enc := enc) (C := Try.checked) false ⟨#[], #[.agg #[.int .u64 0, .int .u64 0, .int .u64 0, .int .u64 0, .int .u64 0], .int .u64 0, .int .u64 0, .int .u64 0, .int .i64 0], []⟩ 8 (by kernel_rfl) (by kernel_rfl) (by kernel_rfl) (by kernel_rfl)) ?_
  intro W base args ds gs before hval0 hW hcnd _
  have hval : ∀ (j : Nat) t v, Try.f10.params[j]? = some t → args[j]? = some v → Value.okWide Try.prog W .any base t v := hval0
  have hW' := hW
  obtain ⟨p, q, hA0, hV, rfl, hfz, hnd⟩ := hW
  have hA : DataW.TrodAll enc Try.prog W 0 (fun _ => true) true Try.f10.params.toList args.toList ds p := hA0
  rw [Try.params10] at hA hval
  obtain ⟨v0, vs0, d0, ds0, p0, q0, hargs, rfl, rfl, h0, r0⟩ := trodAll_cons hA
  obtain ⟨v1, vs1, d1, ds1, p1, q1, rfl, rfl, rfl, h1, r1⟩ := trodAll_cons r0
  obtain ⟨v2, vs2, d2, ds2, p2, q2, rfl, rfl, rfl, h2, r2⟩ := trodAll_cons r1
  obtain ⟨v3, vs3, d3, ds3, p3, q3, rfl, rfl, rfl, h3, r3⟩ := trodAll_cons r2
  obtain ⟨v4, vs4, d4, ds4, p4, q4, rfl, rfl, rfl, h4, r4⟩ := trodAll_cons r3
  obtain ⟨rfl, rfl, rfl⟩ := trodAll_nil r4
  obtain rfl : args = #[v0, v1, v2, v3, v4] := by cases args; simp_all
  obtain ⟨rfl, rfl⟩ := trodVars_none hV
  have k0 := h0
  have lt0 : ∀ x ∈ p0, x.block < W.heap.size := by obtain ⟨m, hm⟩ := k0; exact DataW.trod_lt m _ _ _ hm
  obtain ⟨z0a, z0b, z0c, z0d, z0e, rfl, w0⟩ : ∃ z0a z0b z0c z0d z0e : Int, v0 = .agg #[.int .u64 z0a, .int .u64 z0b, .int .u64 z0c, .int .u64 z0d, .int .u64 z0e] ∧ (Lit.int .u64 z0a).wf = true ∧ (Lit.int .u64 z0b).wf = true ∧ (Lit.int .u64 z0c).wf = true ∧ (Lit.int .u64 z0d).wf = true ∧ (Lit.int .u64 z0e).wf = true := by
    obtain ⟨cs, rfl, hsz, hj⟩ := open_nums (fun _ => .u64) Try.underlying57 (by kernel_rfl) (by kernel_rfl) (by
      intro j f hj
      match j, hj with
      | 0, hj => simp at hj; subst hj; exact Try.underlying29
      | 1, hj => simp at hj; subst hj; exact Try.underlying29
      | 2, hj => simp at hj; subst hj; exact Try.underlying29
      | 3, hj => simp at hj; subst hj; exact Try.underlying29
      | 4, hj => simp at hj; subst hj; exact Try.underlying29
      | n + 5, hj => simp at hj) (hval 0 57 v0 rfl rfl) h0
    obtain ⟨c0, c1, c2, c3, c4, rfl⟩ := array5 hsz
    obtain ⟨z0a, e0, y0⟩ := hj 0 (by decide)
    simp at e0
    subst e0
    obtain ⟨z0b, e1, y1⟩ := hj 1 (by decide)
    simp at e1
    subst e1
    obtain ⟨z0c, e2, y2⟩ := hj 2 (by decide)
    simp at e2
    subst e2
    obtain ⟨z0d, e3, y3⟩ := hj 3 (by decide)
    simp at e3
    subst e3
    obtain ⟨z0e, e4, y4⟩ := hj 4 (by decide)
    simp at e4
    subst e4
    exact ⟨z0a, z0b, z0c, z0d, z0e, rfl, y0, y1, y2, y3, y4⟩
  obtain ⟨a1, rfl, rfl, rfl, w1⟩ := open_int Try.underlying29 (hval 1 29 v1 rfl rfl) h1
  obtain ⟨a2, rfl, rfl, rfl, w2⟩ := open_int Try.underlying29 (hval 2 29 v2 rfl rfl) h2
  obtain ⟨a3, rfl, rfl, rfl, w3⟩ := open_int Try.underlying29 (hval 3 29 v3 rfl rfl) h3
  obtain ⟨a4, rfl, rfl, rfl, w4⟩ := open_int Try.underlying3 (hval 4 3 v4 rfl rfl) h4
  clear hA0 hval0
  refine (walk z0a z0b z0c z0d z0e a1 a2 a3 a4 W w0 w1 w2 w3 w4).mono fun e W' ⟨he, bel⟩ => ?_
  subst he
  exact ⟨_, rfl, _, _, _, [], _, [], hW', trodAll_mk1 (shut_bool Try.underlying4 _), (trodAll_cons_mk (Below.trod laidOut (by kernel_rfl) (of_decide_eq_true (by kernel_rfl)) k0 bel lt0) (trodAll_cons_mk (shut_int Try.underlying29 w1) (trodAll_cons_mk (shut_int Try.underlying29 w2) (trodAll_cons_mk (shut_int Try.underlying29 w3) (trodAll_cons_mk (shut_int Try.underlying3 w4) trodAll_mk0))))), rfl, bel.frame _, fun h => by cases h⟩

theorem over : Rows.gridTellsRow.holds Try.pinned (OpenSpec.ofChange Rows.gridTellsSpec) :=
  OpenClaim.holds_of_wide 10 Try.f10 rfl rfl rfl rfl rfl rfl rfl ⟨rfl, rfl, rfl, rfl, rfl⟩ rfl rfl rfl rfl rfl (by kernel_rfl) Try.func10 (by kernel_rfl)
    (of_decide_eq_true (by kernel_rfl)) (by unfold Func.isWrapper; first | (rw [if_pos (by decide +kernel)]; kernel_rfl) | (rw [if_neg (by decide +kernel)]; exact ⟨rfl, rfl⟩))
    (fun os started H enc _ => lifted os started H enc)

theorem proved : Rows.GridTellsSaid := over
#print axioms proved
end Go.Proofs.Ytpcbcnheogjofaa.gridTells
