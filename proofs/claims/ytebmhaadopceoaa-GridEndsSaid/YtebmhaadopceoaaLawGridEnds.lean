/- Law GridEnds proved: for any two numbers the call returns true, under no condition.
   The frame below the walk was written by the kit's proof-skeleton.mjs. -/
import Derived.Test.YtebmhaadopceoaaRows
import Derived.WalkKit
import Derived.ProofKit
import Derived.OpenShut
import Derived.ShutString
import Derived.ChangeOld
import Derived.Below
import Derived.Test.YtebmhaadopceoaaGrid
import Derived.Deep.LoopGhost
namespace Go.Proofs.Ytebmhaadopceoaa.gridEnds
open Go.ChangeShapes Go.WideShapes Go.ChangeAt Go.RowKit
set_option linter.unusedVariables false      -- a walk need not use every 'w<i>' (that an integer argument fits its kind)

theorem own : ownKnob Try.prog.godebug = none := by kernel_rfl

theorem top_lit : top = 18446744073709551615 := by unfold top; rfl
theorem ends_at (f p : Int) (n : Nat) (f0 : 0 ≤ f) (p0 : 0 < p) (D : Int) (hD : D = f + p * n) (D1 : D ≤ top) : okB f p D = true ∧ nxI f p D = D + p ∧ missI f p D D = 0 ∧ f ≤ D := by
  have h0 : 0 ≤ p * (n : Int) := Int.mul_nonneg (by omega) (by omega)
  have h1 : D - f = p * n := by omega
  refine ⟨?_, ?_, ?_, by omega⟩
  · unfold okB
    rw [h1, Int.mul_emod_right]
    simp
    omega
  · unfold nxI
    rw [if_neg (by omega), h1, Int.mul_ediv_cancel_left _ (by omega), Int.mul_comm (n : Int) p]
    omega
  · unfold missI
    rw [if_pos (Or.inr (Int.le_refl _))]
theorem ends_quo (v p : Int) (n : Nat) (p0 : 0 < p) (h0 : p * n ≤ v) (h1 : v < p * n + p) : v / p = n := by
  rw [show v = (v - p * n) + p * n from by omega, Int.add_mul_ediv_left _ _ (by omega), Int.ediv_eq_zero_of_lt (by omega) (by omega)]
  omega
theorem ends_le (p : Int) (n : Nat) (p0 : 0 < p) (v : Int) (h : p * n ≤ v) : (n : Int) ≤ v := by
  have := Int.mul_le_mul_of_nonneg_right (show (1 : Int) ≤ p from by omega) (show (0 : Int) ≤ (n : Int) from by omega)
  omega
theorem g_alloc_at {W : World} {o : Obj} {n : Nat} (h : n = W.heap.size) : (W.alloc o).heap[n]? = some o := by rw [h]; exact heap_alloc_new W o
theorem g_alloc_old {W : World} {o p : Obj} {n : Nat} (h : W.heap[n]? = some p) : (W.alloc o).heap[n]? = some p := (Below.heap_alloc W o n (Array.getElem?_eq_some_iff.1 h).1).trans h
def JobAt (W : World) (b : Nat) (f p d r m : Int) : Prop := W.heap[b]? = some (.cells #[.int .u64 f, .int .u64 p, .int .u64 d, .int .u64 r, .int .u64 m] 38 (0, 0))
theorem JobAt.put {W : World} {b : Nat} {f p d r m : Int} (h : JobAt W b f p d r m) (f' p' d' r' m' : Int) : JobAt (((((W.setCell ⟨b, 0, none⟩ (.int .u64 f')).setCell ⟨b, 1, none⟩ (.int .u64 p')).setCell ⟨b, 2, none⟩ (.int .u64 d')).setCell ⟨b, 3, none⟩ (.int .u64 r')).setCell ⟨b, 4, none⟩ (.int .u64 m')) b f' p' d' r' m' := by
  unfold JobAt at *
  simp [World.setCell, Array.getElem?_modify, h]
theorem below_put {w W : World} {b : Nat} (h : Below w.heap.size w W) (hb : w.heap.size ≤ b) (v0 v1 v2 v3 v4 : Value) : Below w.heap.size w (((((W.setCell ⟨b, 0, none⟩ v0).setCell ⟨b, 1, none⟩ v1).setCell ⟨b, 2, none⟩ v2).setCell ⟨b, 3, none⟩ v3).setCell ⟨b, 4, none⟩ v4) := ((((h.setCell hb _).setCell hb _).setCell hb _).setCell hb _).setCell hb _
theorem JobAt.cells {W : World} {b : Nat} {f p d r m : Int} (h : JobAt W b f p d r m) : W.cell? ⟨b, 0, none⟩ = some (.int .u64 f) ∧ W.cell? ⟨b, 1, none⟩ = some (.int .u64 p) ∧ W.cell? ⟨b, 2, none⟩ = some (.int .u64 d) ∧ W.cell? ⟨b, 3, none⟩ = some (.int .u64 r) ∧ W.cell? ⟨b, 4, none⟩ = some (.int .u64 m) ∧ ∀ i, W.frozen? ⟨b, i, none⟩ = false := by
  unfold JobAt at h
  refine ⟨?_, ?_, ?_, ?_, ?_, fun i => ?_⟩ <;> simp [World.cell?, World.frozen?, h]
set_option maxRecDepth 100000 in
set_option maxHeartbeats 8000000 in

theorem walk (a0 : Int) (a1 : Int) (w0 : (Lit.int .u64 a0).wf = true) (w1 : (Lit.int .u64 a1).wf = true) (w : World) :
    Calls Try.prog 10 #[.int .u64 a0, .int .u64 a1] w fun e w' => e = .returned (.bool true) ∧ Below w.heap.size w w' := by
  clear w0 w1
  obtain ⟨v, hv, v0, v4⟩ : ∃ q, bits .and .u64 a0 4095 = q ∧ 0 ≤ q ∧ q ≤ 4095 := ⟨_, rfl, by rw [and_u64_4095]; omega, by rw [and_u64_4095]; omega⟩
  obtain ⟨u, hu, u0, u4⟩ : ∃ q, bits .and .u64 a1 255 = q ∧ 0 ≤ q ∧ q ≤ 255 := ⟨_, rfl, by rw [and_u64_255]; omega, by rw [and_u64_255]; omega⟩
  obtain ⟨p, hp, p1, p256⟩ : ∃ p : Int, u + 1 = p ∧ 1 ≤ p ∧ p ≤ 256 := ⟨_, rfl, by omega, by omega⟩
  obtain ⟨f, hf, f0, f1⟩ : ∃ f : Int, IntKind.u64.wrap (18446744073709551615 - v) = f ∧ f = 18446744073709551615 - v ∧ f ≤ 18446744073709551615 := ⟨18446744073709551615 - v, by rw [IntKind.wrap_u64]; omega, rfl, by omega⟩
  have HF := Lib.hid f0
  have fp : 0 ≤ f := by omega
  have hf2 : IntKind.u64.wrap (18446744073709551615 - f) = v := by rw [IntKind.wrap_u64]; omega
  clear f0
  go_enter Try.func10, Try.ntmps10
  go_wp2_with fail
  refine (GNew_pos f p (by omega) _).mono ?_
  rintro e w1 ⟨rfl, hB1⟩
  obtain ⟨j, hj⟩ : ∃ j, j = w1.heap.size := ⟨_, rfl⟩
  have hJ0 : JobAt (w1.alloc (.cells #[.int .u64 f, .int .u64 p, .int .u64 f, .int .u64 0, .int .u64 0] 38)) j f p f 0 0 := by
    unfold JobAt
    exact g_alloc_at hj
  have hB2 := below_al hB1 (.cells #[.int .u64 f, .int .u64 p, .int .u64 f, .int .u64 0, .int .u64 0] 38)
  have hjw : w.heap.size ≤ j := by rw [hj]; exact hB1.size
  go_wp2_with fail
  rw [← hj]
  clear hj hB1
  go_loopg [8, 9, 10] 6000 (fun g v8 v9 _ wr => ∃ (n : Nat) (ok : Bool) (D : Int), v8 = .int .u64 n ∧ v9 = .bool ok ∧ g = (if ok then 6000 - n else 0) ∧ (ok = true → n ≤ 4095 ∧ D = f + p * n ∧ D ≤ top ∧ JobAt wr j f p D n 0) ∧ (ok = false → (n : Int) = v / p + 1) ∧ Below w.heap.size w wr)
  case atStart => exact ⟨0, true, f, rfl, rfl, rfl, (fun _ => ⟨by omega, by simp, by rw [top_lit]; exact f1, hJ0⟩), (fun h => Bool.noConfusion h), hB2⟩
  case round =>
    clear hJ0 hB2
    obtain ⟨n, ok, D, rfl, rfl, rfl, ht, hfl, hB⟩ := hrel
    cases ok
    · have hn := hfl rfl
      clear ht hfl
      have q0 := quo_bd v p v0 (by omega)
      have q1 : IntKind.u64.wrap (v.tdiv p) = v / p := by rw [Int.tdiv_eq_ediv_of_nonneg v0, IntKind.wrap_u64]; omega
      have q2 : IntKind.u64.wrap (v / p + 1) = v / p + 1 := by rw [IntKind.wrap_u64]; omega
      have hpz : (p == 0) = false := by simp; omega
      rw [hn]
      clear hn q0
      go_wp2_with fail
      refine (awake13 _).mono ?_
      rintro e w2 ⟨rfl, hb⟩
      go_wp2_with fail
      go_ret
      exact ⟨rfl, below_step hb hB⟩
    · obtain ⟨hn, hD, D1, hJ⟩ := ht rfl
      clear ht hfl
      obtain ⟨o1, o2, o3, o4⟩ := ends_at f p n fp (by omega) D hD D1
      obtain ⟨c0, c1, c2, c3, c4, c5⟩ := hJ.cells
      have HD := Lib.hid hD
      have D0 : 0 ≤ D := by omega
      clear hD
      go_upto_region 11 with fail
      obtain ⟨W1, hW1⟩ : ∃ W1, wr.alloc (.cells #[.int .u64 f, .int .u64 p, .int .u64 D, .int .u64 n, .int .u64 0] 38) = W1 := ⟨_, rfl⟩
      have hJ1 : JobAt W1 j f p D n 0 := by rw [← hW1]; exact g_alloc_old hJ
      have hJ2 : JobAt W1 wr.heap.size f p D n 0 := by rw [← hW1]; exact g_alloc_at rfl
      have hB1 : Below w.heap.size w W1 := by rw [← hW1]; exact below_al hB _
      have hjd : j < wr.heap.size := (Array.getElem?_eq_some_iff.1 hJ).1
      rw [hW1]
      clear hW1 c0 c1 c2 c3 c4 c5 hJ hB
      generalize wr.heap.size = d at *
      obtain ⟨c0, c1, c2, c3, c4, c5⟩ := hJ1.cells
      go_wp2_with fail
      cases hg : gB f p D
      · have HG := Lib.hid (show top < D + p from by unfold gB at hg; rw [o2] at hg; simp at hg; exact hg (by omega))
        refine (GAfter_go f p D n 0 D D false (Or.inr ⟨Int.le_refl _, rfl⟩) fp (by rw [top_lit]; exact f1) (by omega) (by unfold top; omega) D0 D1 D0 D1 o1 hg _).mono ?_
        rintro e w2 ⟨rfl, hB2⟩
        have hJ3 : JobAt w2 j f p D n 0 := (hB2.block j (Array.getElem?_eq_some_iff.1 hJ1).1).trans hJ1
        have hJ4 : JobAt w2 d f p D n 0 := (hB2.block d (Array.getElem?_eq_some_iff.1 hJ2).1).trans hJ2
        have hB3 := below_step hB2 hB1
        clear c0 c1 c2 c3 c4 c5
        obtain ⟨c0, c1, c2, c3, c4, c5⟩ := hJ3.cells
        obtain ⟨d0, d1, d2, d3, d4, _⟩ := hJ4.cells
        have z0 := c5 0
        have z1 := c5 1
        have z2 := c5 2
        have z3 := c5 3
        have z4 := c5 4
        have hne : j ≠ d := by omega
        have hne' : d ≠ j := by omega
        have q0 : IntKind.u64.wrap 0 = 0 := by decide
        have q1 : IntKind.u64.wrap ((n : Int) + 1) = (n : Int) + 1 := by rw [IntKind.wrap_u64]; omega
        rw [o3]
        clear hJ1 hJ2 hJ4 hB2 hB1 c5 o3
        go_wp2_with fail
        go_roundg 0
        case measure => first | omega | (simp; omega)
        case rel => exact ⟨n + 1, false, 0, by go_num, rfl, rfl, (fun h => Bool.noConfusion h), (fun _ => by have := HD.out; have := HF.out; have := HG.out; have := top_lit; rw [ends_quo v p n (by omega) (by omega) (by omega)]; omega), below_put hB3 hjw _ _ _ _ _⟩
      · refine (GAfter_go f p D n 0 D D true (Or.inr ⟨Int.le_refl _, rfl⟩) fp (by rw [top_lit]; exact f1) (by omega) (by unfold top; omega) D0 D1 D0 D1 o1 hg _).mono ?_
        rintro e w2 ⟨rfl, hB2⟩
        have hJ3 : JobAt w2 j f p D n 0 := (hB2.block j (Array.getElem?_eq_some_iff.1 hJ1).1).trans hJ1
        have hJ4 : JobAt w2 d f p D n 0 := (hB2.block d (Array.getElem?_eq_some_iff.1 hJ2).1).trans hJ2
        have hB3 := below_step hB2 hB1
        clear c0 c1 c2 c3 c4 c5
        obtain ⟨c0, c1, c2, c3, c4, c5⟩ := hJ3.cells
        obtain ⟨d0, d1, d2, d3, d4, _⟩ := hJ4.cells
        have z0 := c5 0
        have z1 := c5 1
        have z2 := c5 2
        have z3 := c5 3
        have z4 := c5 4
        have hne : j ≠ d := by omega
        have hne' : d ≠ j := by omega
        have q0 : IntKind.u64.wrap 0 = 0 := by decide
        have q1 : IntKind.u64.wrap ((n : Int) + 1) = (n : Int) + 1 := by rw [IntKind.wrap_u64]; omega
        rw [o3]
        have hG : gN f p D = D + p := by unfold gN; rw [hg, if_pos rfl, o2]
        have hDp : D + p ≤ top := by unfold gB at hg; rw [o2] at hg; simp at hg; exact hg.2
        have q2 : IntKind.u64.wrap (D + p) = D + p := by unfold top at hDp; rw [IntKind.wrap_u64]; omega
        rw [hG]
        clear hJ1 hJ2 hJ4 hB2 hB1 c5 o3 hg hG
        have HE := Lib.hid (ends_le p (n + 1) (by omega) v (by have := HD.out; have := HF.out; unfold top at hDp; rw [Int.natCast_add, Int.mul_add]; omega))
        go_wp2_with fail
        go_roundg (6000 - (n + 1))
        case measure => first | omega | (simp; omega)
        case rel => exact ⟨n + 1, true, D + p, by go_num, rfl, rfl, (fun _ => ⟨by have := HE.out; omega, by rw [HD.out]; simp [Int.mul_add]; omega, hDp, hJ3.put _ _ _ _ _⟩), (fun h => Bool.noConfusion h), below_put hB3 hjw _ _ _ _ _⟩

set_option maxRecDepth 100000 in
theorem lifted (os : Os) (started : os.Started) (H : Type) (enc : TypeId × Value → H) :
    ReturnsInHanded {} Try.checked os 10 .any (Rows.gridEndsSpec.pre6 enc Try.prog Try.f10 Rows.gridEndsRow.domain false) (Rows.gridEndsSpec.post enc Try.prog Try.f10 false true false false) := by
  refine returnsInHanded_of_change (C := Try.checked) own started (by kernel_rfl) Try.func10
    (ChangeSpec.witness6 (enc := enc) (C := Try.checked) false ⟨#[], #[.int .u64 0, .int .u64 0], []⟩ 8 (by kernel_rfl) (by kernel_rfl) (by kernel_rfl) (by kernel_rfl)) ?_
  intro W base args ds gs before hval0 hW hcnd _
  have hval : ∀ (j : Nat) t v, Try.f10.params[j]? = some t → args[j]? = some v → Value.okWide Try.prog W .any base t v := hval0
  have hW' := hW
  obtain ⟨p, q, hA0, hV, rfl, hfz, hnd⟩ := hW
  have hA : DataW.TrodAll enc Try.prog W 0 (fun _ => true) true Try.f10.params.toList args.toList ds p := hA0
  rw [Try.params10] at hA hval
  obtain ⟨v0, vs0, d0, ds0, p0, q0, hargs, rfl, rfl, h0, r0⟩ := trodAll_cons hA
  obtain ⟨v1, vs1, d1, ds1, p1, q1, rfl, rfl, rfl, h1, r1⟩ := trodAll_cons r0
  obtain ⟨rfl, rfl, rfl⟩ := trodAll_nil r1
  obtain rfl : args = #[v0, v1] := by cases args; simp_all
  obtain ⟨rfl, rfl⟩ := trodVars_none hV
  obtain ⟨a0, rfl, rfl, rfl, w0⟩ := open_int Try.underlying22 (hval 0 22 v0 rfl rfl) h0
  obtain ⟨a1, rfl, rfl, rfl, w1⟩ := open_int Try.underlying22 (hval 1 22 v1 rfl rfl) h1
  clear hA0 hval0
  refine (walk a0 a1 w0 w1 W).mono fun e W' ⟨he, bel⟩ => ?_
  subst he
  exact ⟨_, rfl, _, _, _, [], _, [], hW', (trodAll_cons_mk (shut_bool Try.underlying4 _) trodAll_mk0), (trodAll_cons_mk (shut_int Try.underlying22 w0) (trodAll_cons_mk (shut_int Try.underlying22 w1) trodAll_mk0)), rfl, bel.frame _, fun h => by cases h⟩

theorem over : Rows.gridEndsRow.holds Try.pinned (OpenSpec.ofChange Rows.gridEndsSpec) :=
  OpenClaim.holds_of_wide 10 Try.f10 rfl rfl rfl rfl rfl rfl rfl ⟨rfl, rfl, rfl, rfl, rfl⟩ rfl rfl rfl rfl rfl (by kernel_rfl) Try.func10 (by kernel_rfl)
    (of_decide_eq_true (by kernel_rfl)) (by unfold Func.isWrapper; first | (rw [if_pos (by decide +kernel)]; kernel_rfl) | (rw [if_neg (by decide +kernel)]; exact ⟨rfl, rfl⟩))
    (fun os started H enc _ => lifted os started H enc)

theorem proved : Rows.GridEndsSaid :=
  over
#print axioms proved
end Go.Proofs.Ytebmhaadopceoaa.gridEnds
