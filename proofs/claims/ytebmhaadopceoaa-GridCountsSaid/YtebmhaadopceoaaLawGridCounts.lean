/- Law GridCounts proved: for any numbers and any row of latenesses the call returns true, under no condition.
   The frame below the walk was written by the kit's proof-skeleton.mjs. -/
import Derived.Test.YtebmhaadopceoaaRows
import Derived.WalkKit
import Derived.ProofKit
import Derived.OpenShut
import Derived.ShutString
import Derived.ChangeOld
import Derived.Below
import Derived.Test.YtebmhaadopceoaaGrid
import Derived.Deep.LoopGhost
import Derived.BigQuiet
namespace Go.Proofs.Ytebmhaadopceoaa.gridCounts
open Go.ChangeShapes Go.WideShapes Go.ChangeAt Go.RowKit
open Go.ChangeMaps (open_string shut_string)
set_option linter.unusedVariables false

theorem own : ownKnob Try.prog.godebug = none := by kernel_rfl
theorem laidOut : laidOutB Try.prog = true := by kernel_rfl

def IsRow (k : IntKind) (w : World) (a : Option Addr) (len cap : Nat) (zs : List Int) : Prop :=
  (a = none ∧ len = 0 ∧ cap = 0 ∧ zs = []) ∨
  ∃ x, a = some x ∧ len ≤ cap ∧ cap ≤ maxLen ∧ zs.length = cap ∧ (∀ i, i < zs.length → w.cell? (x.add i) = some (.int k (zs.getD i 0))) ∧ ∀ n ∈ zs, (Lit.int k n).wf = true

theorem top_lit : top = 18446744073709551615 := by unfold top; rfl
theorem on_grid (f p q D : Int) (p0 : 0 < p) (q0 : 0 ≤ q) (hD : D = f + p * q) : okB f p D = true ∧ (D - f) / p = q ∧ f ≤ D := by
  have h0 : 0 ≤ p * q := Int.mul_nonneg (by omega) (by omega)
  have h1 : D - f = p * q := by omega
  refine ⟨?_, by rw [h1, Int.mul_ediv_cancel_left _ (by omega)], by omega⟩
  unfold okB
  rw [h1, Int.mul_emod_right]
  simp
  omega
theorem next_on (f p q D y : Int) (p0 : 0 < p) (q0 : 0 ≤ q) (y0 : 0 ≤ y) (hD : D = f + p * q) (hT : D + y + p ≤ top) :
    ∃ s : Int, q ≤ s ∧ gB f p (D + y) = true ∧ gN f p (D + y) = f + p * (s + 1) ∧ D + y < f + p * (s + 1) ∧ f + p * (s + 1) ≤ D + y + p ∧ missI f p D (D + y) = s - q := by
  obtain ⟨_, hq, hf⟩ := on_grid f p q D p0 q0 hD
  obtain ⟨s0, s1, s2, s3, s4⟩ := quo_bd (D + y - f) p (by omega) p0
  have hqs : q ≤ (D + y - f) / p := by rw [← hq]; exact Int.ediv_le_ediv p0 (by omega)
  have hnx : nxI f p (D + y) = f + (D + y - f) / p * p + p := by unfold nxI; rw [if_neg (by omega)]
  have hpn : p ≠ 0 := by omega
  have hc : f + p * ((D + y - f) / p + 1) = f + (D + y - f) / p * p + p := by rw [Int.mul_add, Int.mul_one, Int.mul_comm p]; omega
  have hb : gB f p (D + y) = true := by unfold gB; rw [hnx]; simp [hpn]; omega
  refine ⟨(D + y - f) / p, hqs, hb, ?_, by omega, by omega, ?_⟩
  · unfold gN
    rw [hb, if_pos rfl, hnx, hc]
  · unfold missI
    split
    · rename_i h
      have hy : y = 0 := by omega
      subst hy
      rw [Int.add_zero, hq]
      omega
    · unfold cntI
      rw [if_neg (by omega), if_neg (by omega), hq]
      omega
theorem g_alloc_at {W : World} {o : Obj} {n : Nat} (h : n = W.heap.size) : (W.alloc o).heap[n]? = some o := by rw [h]; exact heap_alloc_new W o
theorem g_alloc_old {W : World} {o p : Obj} {n : Nat} (h : W.heap[n]? = some p) : (W.alloc o).heap[n]? = some p := (Below.heap_alloc W o n (Array.getElem?_eq_some_iff.1 h).1).trans h
def JobAt (W : World) (b : Nat) (f p d r m : Int) : Prop := W.heap[b]? = some (.cells #[.int .u64 f, .int .u64 p, .int .u64 d, .int .u64 r, .int .u64 m] 38 (0, 0))
theorem JobAt.put {W : World} {b : Nat} {f p d r m : Int} (h : JobAt W b f p d r m) (f' p' d' r' m' : Int) : JobAt (((((W.setCell ⟨b, 0, none⟩ (.int .u64 f')).setCell ⟨b, 1, none⟩ (.int .u64 p')).setCell ⟨b, 2, none⟩ (.int .u64 d')).setCell ⟨b, 3, none⟩ (.int .u64 r')).setCell ⟨b, 4, none⟩ (.int .u64 m')) b f' p' d' r' m' := by
  unfold JobAt at *
  simp [World.setCell, Array.getElem?_modify, h]
theorem below_put {w W : World} {b : Nat} (h : Below w.heap.size w W) (hb : w.heap.size ≤ b) (v0 v1 v2 v3 v4 : Value) : Below w.heap.size w (((((W.setCell ⟨b, 0, none⟩ v0).setCell ⟨b, 1, none⟩ v1).setCell ⟨b, 2, none⟩ v2).setCell ⟨b, 3, none⟩ v3).setCell ⟨b, 4, none⟩ v4) := ((((h.setCell hb _).setCell hb _).setCell hb _).setCell hb _).setCell hb _
theorem JobAt.cells {W : World} {b : Nat} {f p d r m : Int} (h : JobAt W b f p d r m) : W.cell? ⟨b, 0, none⟩ = some (.int .u64 f) ∧ W.cell? ⟨b, 1, none⟩ = some (.int .u64 p) ∧ W.cell? ⟨b, 2, none⟩ = some (.int .u64 d) ∧ W.cell? ⟨b, 3, none⟩ = some (.int .u64 r) ∧ W.cell? ⟨b, 4, none⟩ = some (.int .u64 m) ∧ ∀ i, W.frozen? ⟨b, i, none⟩ = false := by
  unfold JobAt at h
  refine ⟨?_, ?_, ?_, ?_, ?_, fun i => ?_⟩ <;> simp [World.cell?, World.frozen?, h]
theorem JobAt.below {W W' : World} {b : Nat} {f p d r m : Int} (h : JobAt W b f p d r m) (hb : Below W.heap.size W W') : JobAt W' b f p d r m := (hb.block b (Array.getElem?_eq_some_iff.1 h).1).trans h
theorem JobAt.drN {W : World} {b : Nat} {f p d r m : Int} (h : JobAt W b f p d r m) (n : Nat) : JobAt (W.drewN n) b f p d r m := h
set_option maxRecDepth 100000 in
set_option maxHeartbeats 8000000 in

theorem walk (a0 : Int) (a1 : Int) (a2 : Option Addr) (len2 cap2 : Nat) (z2 : List Int) (w : World) (w0 : (Lit.int .u64 a0).wf = true) (w1 : (Lit.int .u64 a1).wf = true) (w2 : IsRow .u64 w a2 len2 cap2 z2) :
    Calls Try.prog 11 #[.int .u64 a0, .int .u64 a1, .slice a2 len2 cap2] w fun e w' => e = .returned (.bool true) ∧ Below w.heap.size w w' := by
  clear w0 w1
  have HW := Lib.hid (row_cases w2)
  clear w2
  obtain ⟨f, hf, f0, f1⟩ : ∃ q, bits .and .u64 a0 1048575 = q ∧ 0 ≤ q ∧ q ≤ 1048575 := ⟨_, rfl, by rw [and_u64_20]; omega, by rw [and_u64_20]; omega⟩
  obtain ⟨u, hu, u0, u4⟩ : ∃ q, bits .and .u64 a1 4095 = q ∧ 0 ≤ q ∧ q ≤ 4095 := ⟨_, rfl, by rw [and_u64_4095]; omega, by rw [and_u64_4095]; omega⟩
  obtain ⟨p, hp, p1, p256⟩ : ∃ p : Int, u + 1 = p ∧ 1 ≤ p ∧ p ≤ 4096 := ⟨_, rfl, by omega, by omega⟩
  have TL := Lib.hid top_lit
  go_enter Try.func11, Try.ntmps11
  go_wp2_with fail
  refine (GNew_pos f p (by omega) _).mono ?_
  rintro e w1 ⟨rfl, hB1⟩
  obtain ⟨j, hj⟩ : ∃ j, j = w1.heap.size := ⟨_, rfl⟩
  have hJ0 : JobAt (w1.alloc (.cells #[.int .u64 f, .int .u64 p, .int .u64 f, .int .u64 0, .int .u64 0] 38)) j f p f 0 0 := by
    unfold JobAt
    exact g_alloc_at hj
  have hB2 := below_al hB1 (.cells #[.int .u64 f, .int .u64 p, .int .u64 f, .int .u64 0, .int .u64 0] 38)
  have hjw : w.heap.size ≤ j := by rw [hj]; exact hB1.size
  go_wp2_with fail
  rw [← hj]
  clear hj hB1
  go_loopg [9, 10, 11, 12] 30 (fun g v9 _ _ _ wr => ∃ (k : Nat) (D q r m : Int), g = 30 - k ∧ k ≤ 30 ∧ k ≤ len2 ∧ v9 = .int .i64 k ∧ 0 ≤ q ∧ 0 ≤ m ∧ 0 ≤ r ∧ r + m = q ∧ D = f + p * q ∧ D ≤ 1048575 + 70000 * k ∧ JobAt wr j f p D r m ∧ Below w.heap.size w wr)
  case atStart => exact ⟨0, f, 0, 0, 0, rfl, by omega, by omega, rfl, by omega, by omega, by omega, by omega, by simp, by simp; omega, hJ0, hB2⟩
  case round =>
    clear hJ0 hB2
    obtain ⟨k, D, q, r, m, rfl, hk, hkl, rfl, q0, m0, r0, hrm, hD, hDb, hJ, hB⟩ := hrel
    by_cases hlt : k < len2 ∧ k < 30
    · obtain ⟨hlen, h30⟩ := hlt
      rcases HW.out with h0 | ⟨b, off, rfl, hl, hlm, hbw, hc, hwz⟩
      · omega
      have hcell := cell_keeps hB hbw (hc k (by omega))
      generalize z2.getD k 0 = x at hcell
      obtain ⟨y, hy, y0, y1⟩ : ∃ s, bits .and .u64 x 65535 = s ∧ 0 ≤ s ∧ s ≤ 65535 := ⟨_, rfl, by rw [and_u64_65535]; omega, by rw [and_u64_65535]; omega⟩
      obtain ⟨s, s0, s1, s2, s3, s4, s5⟩ := next_on f p q D y (by omega) q0 y0 hD (by rw [TL.out]; omega)
      obtain ⟨g1, g2, g3⟩ := on_grid f p q D (by omega) q0 hD
      obtain ⟨E, hE⟩ : ∃ E, f + p * (s + 1) = E := ⟨_, rfl⟩
      rw [hE] at s2 s3 s4
      obtain ⟨g4, g5, g6⟩ := on_grid f p (s + 1) E (by omega) (by omega) hE.symm
      have HE := Lib.hid hE
      have HD := Lib.hid hD
      obtain ⟨N, hN⟩ : ∃ N, D + y = N := ⟨_, rfl⟩
      rw [hN] at s1 s2 s3 s4 s5
      obtain ⟨c0, c1, c2, c3, c4, c5⟩ := hJ.cells
      have t1 : IntKind.u64.wrap (D + y) = N := by rw [IntKind.wrap_u64]; omega
      clear hE hD hc hwz
      go_wp2_with fail
      go_quiet (fail)
      have hJq := hJ.drN nq
      have hBq := below_drN hB nq
      generalize hwq : wr.drewN nq = wq at *
      have HWQ := Lib.hid hwq
      clear hwq hJ hB hcell c0 c1 c2 c3 c4 c5
      obtain ⟨c0, c1, c2, c3, c4, c5⟩ := hJq.cells
      have ftop : f ≤ top := by rw [TL.out]; omega
      have ptop : p ≤ top := by rw [TL.out]; omega
      have Dtop : D ≤ top := by rw [TL.out]; omega
      have Ntop : N ≤ top := by rw [TL.out]; omega
      obtain ⟨m', hm', m0', mm⟩ : ∃ m', m + (s - q) = m' ∧ 0 ≤ m' ∧ m ≤ m' := ⟨_, rfl, by omega, by omega⟩
      have sb : s ≤ E := by
        have h0 := HE.out
        have h1 := Int.mul_le_mul_of_nonneg_right (show (1 : Int) ≤ p from by omega) (show (0 : Int) ≤ s + 1 from by omega)
        omega
      have spE : p ≤ E := by
        have h0 := HE.out
        rw [Int.mul_add] at h0
        have := Int.mul_nonneg (show (0 : Int) ≤ p from by omega) (show (0 : Int) ≤ s from by omega)
        omega
      have w1' : IntKind.u64.wrap (r + 1) = r + 1 := by rw [IntKind.wrap_u64]; omega
      have w2' : IntKind.u64.wrap (m + (s - q)) = m' := by rw [IntKind.wrap_u64]; omega
      have hsm : r + 1 + m' = s + 1 := by omega
      have HS := Lib.hid hsm
      have HM := Lib.hid hm'
      go_wp2_with fail
      refine (GAfter_go f p D r m N N true (Or.inr ⟨by omega, rfl⟩) f0 ftop (by omega) ptop (by omega) Dtop (by omega) Ntop g1 s1 _).mono ?_
      rintro e w2 ⟨rfl, hB2⟩
      rw [show (if true = true then gN f p N else D) = E from by rw [if_pos rfl, s2], w1', s5, w2']
      have hJ2 := hJq.below hB2
      have hB3 := below_step hB2 hBq
      clear hJq hB2 hBq c0 c1 c2 c3 c4 c5 s1 s2 s5 g1 g2 w2' hm' hsm HWQ
      go_upto_region 10 with fail
      obtain ⟨W1, hW1⟩ : ∃ W1, w2.alloc (.cells #[.int .u64 f, .int .u64 p, .int .u64 E, .int .u64 (r + 1), .int .u64 m'] 38) = W1 := ⟨_, rfl⟩
      have hJ3 : JobAt W1 j f p D r m := by rw [← hW1]; exact g_alloc_old hJ2
      have hJ4 : JobAt W1 w2.heap.size f p E (r + 1) m' := by rw [← hW1]; exact g_alloc_at rfl
      have hB4 : Below w.heap.size w W1 := by rw [← hW1]; exact below_al hB3 _
      have hjd : j < w2.heap.size := (Array.getElem?_eq_some_iff.1 hJ2).1
      rw [hW1]
      clear hW1 hJ2 hB3
      generalize w2.heap.size = d at *
      obtain ⟨c0, c1, c2, c3, c4, c5⟩ := hJ4.cells
      go_wp2_with fail
      refine (GOk_any f p E (r + 1) m' f0 (by omega) (by omega) (by rw [TL.out]; omega) _).mono ?_
      rintro e w3 ⟨rfl, rfl⟩
      rw [g4]
      obtain ⟨W2, hW2⟩ : ∃ W2, W1.alloc (.cells #[.int .u64 f, .int .u64 p, .int .u64 E, .int .u64 (r + 1), .int .u64 m'] 38) = W2 := ⟨_, rfl⟩
      have hJ5 : JobAt W2 j f p D r m := by rw [← hW2]; exact g_alloc_old hJ3
      have hJ6 : JobAt W2 d f p E (r + 1) m' := by rw [← hW2]; exact g_alloc_old hJ4
      have hB5 : Below w.heap.size w W2 := by rw [← hW2]; exact below_al hB4 _
      rw [hW2]
      clear hW2 hJ3 hJ4 hB4 c0 c1 c2 c3 c4 c5
      obtain ⟨c0, c1, c2, c3, c4, c5⟩ := hJ5.cells
      obtain ⟨d0, d1, d2, d3, d4, d5⟩ := hJ6.cells
      have z0 := c5 0
      have z1 := c5 1
      have z2 := c5 2
      have z3 := c5 3
      have z4 := c5 4
      have hne : j ≠ d := by omega
      have hne' : d ≠ j := by omega
      have pz : (p == 0) = false := by simp; omega
      have x1 : decide (E ≤ N) = false := by simp; omega
      have x2 : IntKind.u64.wrap (E - p) = E - p := by rw [IntKind.wrap_u64]; omega
      have x3 : decide (E - p > N) = false := by simp; omega
      have x4 : decide (m' < m) = false := by simp; omega
      have x5 : IntKind.u64.wrap (r + 1 + m') = s + 1 := by rw [HS.out, IntKind.wrap_u64]; omega
      have x6 : IntKind.u64.wrap (E - f) = E - f := by rw [IntKind.wrap_u64]; omega
      have x7 : IntKind.u64.wrap ((E - f).tdiv p) = s + 1 := by rw [Int.tdiv_eq_ediv_of_nonneg (by omega), g5, IntKind.wrap_u64]; omega
      have n1 : ¬ (E ≤ N) := by omega
      have n2 : ¬ (N < E - p) := by omega
      have n3 : ¬ (m' < m) := by omega
      clear g4 g5 c5 d5
      go_wp2_with fail
      go_quiet (fail)
      have hJ7 := hJ5.drN nq
      have hB7 := below_drN hB5 nq
      have HL := Lib.hid (show E ≤ 1048575 + 70000 * ((k + 1 : Nat) : Int) from by omega)
      go_wp2_with fail
      go_roundg (30 - (k + 1))
      case measure => omega
      case rel => exact ⟨k + 1, E, s + 1, r + 1, m', rfl, by omega, by omega, by go_num, by omega, m0', by omega, HS.out, HE.out.symm, HL.out, hJ7.put _ _ _ _ _, below_put hB7 hjw _ _ _ _ _⟩
    · by_cases hlen : k < len2
      · have h30 : ¬ k < 30 := fun h => hlt ⟨hlen, h⟩
        go_wp2_with fail
        refine (awake13 _).mono ?_
        rintro e w2 ⟨rfl, hb⟩
        go_wp2_with fail
        go_ret
        exact ⟨rfl, below_step hb hB⟩
      · go_wp2_with fail
        refine (awake13 _).mono ?_
        rintro e w2 ⟨rfl, hb⟩
        go_wp2_with fail
        go_ret
        exact ⟨rfl, below_step hb hB⟩

set_option maxRecDepth 100000 in
theorem lifted (os : Os) (started : os.Started) (H : Type) (enc : TypeId × Value → H) :
    ReturnsInHanded {} Try.checked os 11 .any (Rows.gridCountsSpec.pre6 enc Try.prog Try.f11 Rows.gridCountsRow.domain false) (Rows.gridCountsSpec.post enc Try.prog Try.f11 false true false false) := by
  refine returnsInHanded_of_change (C := Try.checked) own started (by kernel_rfl) Try.func11
    (ChangeSpec.witness6 (enc := enc) (C := Try.checked) false ⟨#[], #[.int .u64 0, .int .u64 0, .slice none 0 0], []⟩ 8 (by kernel_rfl) (by kernel_rfl) (by kernel_rfl) (by kernel_rfl)) ?_
  intro W base args ds gs before hval0 hW hcnd _
  have hval : ∀ (j : Nat) t v, Try.f11.params[j]? = some t → args[j]? = some v → Value.okWide Try.prog W .any base t v := hval0
  have hW' := hW
  obtain ⟨p, q, hA0, hV, rfl, hfz, hnd⟩ := hW
  have hA : DataW.TrodAll enc Try.prog W 0 (fun _ => true) true Try.f11.params.toList args.toList ds p := hA0
  rw [Try.params11] at hA hval
  obtain ⟨v0, vs0, d0, ds0, p0, q0, hargs, rfl, rfl, h0, r0⟩ := trodAll_cons hA
  obtain ⟨v1, vs1, d1, ds1, p1, q1, rfl, rfl, rfl, h1, r1⟩ := trodAll_cons r0
  obtain ⟨v2, vs2, d2, ds2, p2, q2, rfl, rfl, rfl, h2, r2⟩ := trodAll_cons r1
  obtain ⟨rfl, rfl, rfl⟩ := trodAll_nil r2
  obtain rfl : args = #[v0, v1, v2] := by cases args; simp_all
  obtain ⟨rfl, rfl⟩ := trodVars_none hV
  obtain ⟨a0, rfl, rfl, rfl, w0⟩ := open_int Try.underlying22 (hval 0 22 v0 rfl rfl) h0
  obtain ⟨a1, rfl, rfl, rfl, w1⟩ := open_int Try.underlying22 (hval 1 22 v1 rfl rfl) h1
  obtain ⟨a2, len2, cap2, rfl⟩ := okWide_slice Try.underlying45 (hval 2 45 v2 rfl rfl)
  have k2 := h2
  have lt2 : ∀ x ∈ p2, x.block < W.heap.size := by obtain ⟨m, hm⟩ := k2; exact DataW.trod_lt m _ _ _ hm
  obtain ⟨z2, w2⟩ : ∃ zs, IsRow .u64 W a2 len2 cap2 zs := by
    obtain ⟨fuel, hf⟩ := h2
    rcases open_ints Try.underlying45 Try.underlying22 (by kernel_rfl) hf with ⟨hcs, _⟩ | ⟨x, l, c, zs, hcs, _, hl, hm, hz, _, hcell, hwz⟩
    · simp [Value.cells] at hcs
      obtain ⟨rfl, rfl, rfl⟩ := hcs
      exact ⟨[], .inl ⟨rfl, rfl, rfl, rfl⟩⟩
    · simp [Value.cells] at hcs
      obtain ⟨rfl, rfl, rfl⟩ := hcs
      exact ⟨zs, .inr ⟨_, rfl, hl, hm, by simpa using hz, hcell, hwz⟩⟩
  clear hA0 hval0
  refine (walk a0 a1 a2 len2 cap2 z2 W w0 w1 w2).mono fun e W' ⟨he, bel⟩ => ?_
  subst he
  exact ⟨_, rfl, _, _, _, [], _, [], hW', trodAll_mk1 (shut_bool Try.underlying4 _), (trodAll_cons_mk (shut_int Try.underlying22 w0) (trodAll_cons_mk (shut_int Try.underlying22 w1) (trodAll_cons_mk (Below.trod laidOut (by kernel_rfl) (of_decide_eq_true (by kernel_rfl)) k2 bel lt2) trodAll_mk0))), rfl, bel.frame _, fun h => by cases h⟩

theorem over : Rows.gridCountsRow.holds Try.pinned (OpenSpec.ofChange Rows.gridCountsSpec) :=
  OpenClaim.holds_of_wide 11 Try.f11 rfl rfl rfl rfl rfl rfl rfl ⟨rfl, rfl, rfl, rfl, rfl⟩ rfl rfl rfl rfl rfl (by kernel_rfl) Try.func11 (by kernel_rfl)
    (of_decide_eq_true (by kernel_rfl)) (by unfold Func.isWrapper; first | (rw [if_pos (by decide +kernel)]; kernel_rfl) | (rw [if_neg (by decide +kernel)]; exact ⟨rfl, rfl⟩))
    (fun os started H enc _ => lifted os started H enc)

theorem proved : Rows.GridCountsSaid := over
#print axioms proved
end Go.Proofs.Ytebmhaadopceoaa.gridCounts
