/- Law TableAgain proved: for any numbers and any row of latenesses the call returns true, under no condition.
   The frame below the walk was written by the kit's proof-skeleton.mjs. -/
import Derived.Test.YtpcbcnheogjofaaRows
import Derived.WalkKit
import Derived.ProofKit
import Derived.OpenShut
import Derived.ShutString
import Derived.ChangeOld
import Derived.Below
import Derived.Test.YtpcbcnheogjofaaTable6
import Derived.Deep.LoopGhost
import Derived.BigQuiet
namespace Go.Proofs.Ytpcbcnheogjofaa.tableAgain
open Go.ChangeShapes Go.WideShapes Go.ChangeAt Go.RowKit
open Go.ChangeMaps (open_string shut_string)
set_option linter.unusedVariables false

theorem own : ownKnob Try.prog.godebug = none := by kernel_rfl
theorem laidOut : laidOutB Try.prog = true := by kernel_rfl

def IsRow (k : IntKind) (w : World) (a : Option Addr) (len cap : Nat) (zs : List Int) : Prop :=
  (a = none ∧ len = 0 ∧ cap = 0 ∧ zs = []) ∨
  ∃ x, a = some x ∧ len ≤ cap ∧ cap ≤ maxLen ∧ zs.length = cap ∧ (∀ i, i < zs.length → w.cell? (x.add i) = some (.int k (zs.getD i 0))) ∧ ∀ n ∈ zs, (Lit.int k n).wf = true

theorem top_lit : top = 18446744073709551615 := by unfold top; rfl
theorem on_grid (f p q D : Int) (p0 : 0 < p) (q0 : 0 ≤ q) (hD : D = f + p * q) : okB f p D = true ∧ (D - f) / p = q ∧ f ≤ D := by
  have h0 : 0 ≤ p * q := Int.mul_nonneg (by omega) (by omega)
  have h1 : D - f = p * q := by omega
  refine ⟨?_, by rw [h1, Int.mul_ediv_cancel_left _ (by omega)], by omega⟩
  unfold okB
  rw [h1, Int.mul_emod_right]
  simp
  omega
theorem next_on (f p q D y : Int) (p0 : 0 < p) (q0 : 0 ≤ q) (y0 : 0 ≤ y) (hD : D = f + p * q) (hT : D + y + p ≤ top) :
    ∃ s : Int, q ≤ s ∧ gB f p (D + y) = true ∧ gN f p (D + y) = f + p * (s + 1) ∧ D + y < f + p * (s + 1) ∧ f + p * (s + 1) ≤ D + y + p ∧ missI f p D (D + y) = s - q := by
  obtain ⟨_, hq, hf⟩ := on_grid f p q D p0 q0 hD
  obtain ⟨s0, s1, s2, s3, s4⟩ := quo_bd (D + y - f) p (by omega) p0
  have hqs : q ≤ (D + y - f) / p := by rw [← hq]; exact Int.ediv_le_ediv p0 (by omega)
  have hnx : nxI f p (D + y) = f + (D + y - f) / p * p + p := by unfold nxI; rw [if_neg (by omega)]
  have hpn : p ≠ 0 := by omega
  have hc : f + p * ((D + y - f) / p + 1) = f + (D + y - f) / p * p + p := by rw [Int.mul_add, Int.mul_one, Int.mul_comm p]; omega
  have hb : gB f p (D + y) = true := by unfold gB; rw [hnx]; simp [hpn]; omega
  refine ⟨(D + y - f) / p, hqs, hb, ?_, by omega, by omega, ?_⟩
  · unfold gN
    rw [hb, if_pos rfl, hnx, hc]
  · unfold missI
    split
    · rename_i h
      have hy : y = 0 := by omega
      subst hy
      rw [Int.add_zero, hq]
      omega
    · unfold cntI
      rw [if_neg (by omega), if_neg (by omega), hq]
      omega
set_option maxRecDepth 100000 in
set_option maxHeartbeats 8000000 in

theorem walk (a0 : Int) (a1 : Int) (a2 : Option Addr) (len2 cap2 : Nat) (z2 : List Int) (w : World) (w0 : (Lit.int .u64 a0).wf = true) (w1 : (Lit.int .u64 a1).wf = true) (w2 : IsRow .u64 w a2 len2 cap2 z2) :
    Calls Try.prog 16 #[.int .u64 a0, .int .u64 a1, .slice a2 len2 cap2] w fun e w' => e = .returned (.bool true) ∧ Below w.heap.size w w' := by
  clear w0 w1
  have HW := Lib.hid (row_cases w2)
  clear w2
  obtain ⟨f, hf, f0, f1⟩ : ∃ q, bits .and .u64 a0 65535 = q ∧ 0 ≤ q ∧ q ≤ 65535 := ⟨_, rfl, by rw [and_u64_65535]; omega, by rw [and_u64_65535]; omega⟩
  obtain ⟨u, hu, u0, u4⟩ : ∃ q, bits .and .u64 a1 255 = q ∧ 0 ≤ q ∧ q ≤ 255 := ⟨_, rfl, by rw [and_u64_255]; omega, by rw [and_u64_255]; omega⟩
  obtain ⟨p, hp, p1, p256⟩ : ∃ p : Int, u + 1 = p ∧ 1 ≤ p ∧ p ≤ 256 := ⟨_, rfl, by omega, by omega⟩
  have TL := Lib.hid top_lit
  have ftop : f ≤ top := by rw [TL.out]; omega
  have ptop : p ≤ top := by rw [TL.out]; omega
  have HZ := Lib.hid (show ∀ x y : Int, (0 : Int) ≤ (fun _ _ => 0 : Int → Int → Int) x y ∧ (fun _ _ => 0 : Int → Int → Int) x y ≤ 1000000 from fun _ _ => ⟨Int.le_refl 0, by show (0 : Int) ≤ 1000000; decide⟩)
  have HFT := Lib.hid ftop
  have HPT := Lib.hid ptop
  have HOKF := Lib.hid (show okB f p f = true from (on_grid f p 0 f (by omega) (by decide) (by simp)).1)
  clear ftop ptop
  go_enter Try.func16, Try.ntmps16
  go_wp2_with fail
  refine (TNew_in 2 (by decide) (by decide) _).mono ?_
  rintro e w1 ⟨t, a, b, g, mb, base, rfl, h1, hbs, ht, ha, hb, hg, hmb, hB⟩
  rw [show List.replicate (2 : Int).toNat (0 : Int) = [0, 0] from rfl] at h1
  have HO := Lib.hid (show ∀ x, (own2 b g x ∨ x = mb ∨ x = t ∨ some x = (Value.slice none 0 0).ownBlock) → w.heap.size ≤ x from fun x hx => by
    rcases hx with (h | h) | h | h | h
    · omega
    · omega
    · omega
    · omega
    · cases h)
  have HO2 := Lib.hid (own2_ge hb hg)
  have hbase : w.heap.size ≤ base := by have := h1.lt; omega
  have H1 := Lib.hid h1
  clear h1 ha hb hg hmb ht
  go_wp2_with fail
  refine (TMake_ok H1.out hbs (by decide) (by decide) (by decide) (fun j hj => by omega) (by decide) 2 1 f p f 0 0 (by decide) (by decide) (by decide) (by decide) f0 HFT.out (by omega) f0 HFT.out (.inr ⟨by omega, HOKF.out⟩) HZ.out).mono ?_
  rintro e w2 ⟨qb, cap, rfl, h2, hF2⟩
  rw [show ([0, 0] : List Int).set 0 (nextI (([0, 0] : List Int).getD 0 0) 1) = [9, 0] from by decide] at h2
  rw [show ((0 : Nat) : Int) + 1 = 1 from rfl] at h2 ⊢
  have hB2 := hF2.below hB HO.out
  obtain ⟨C1, hC1⟩ : ∃ C1, updC (fun _ _ => 0) 1 2 ((fun _ _ => 0 : Int → Int → Int) 1 2 + 1) = C1 := ⟨_, rfl⟩
  rw [hC1] at h2
  have hqw : w.heap.size ≤ qb := Nat.le_trans hbase h2.q_ge.1
  have HO1 := Lib.hid (show ∀ x, own1 qb x → w.heap.size ≤ x from fun x hx => by unfold own1 at hx; omega)
  obtain ⟨R0, hR0⟩ : ∃ R0, ([] : List Value) ++ rowL 1 2 f f p 0 0 = R0 := ⟨_, rfl⟩
  have hRl : R0.length = 13 := by rw [← hR0]; rfl
  have hRt : TaskR R0 0 (.int .i64 1) (.int .i64 2) (.int .i64 0) (.int .u64 f) (.int .u64 0) (.int .u64 0) (.int .u64 0) := by rw [← hR0]; exact ⟨rfl, rfl, rfl, rfl, rfl, rfl, rfl⟩
  have hRj : JobR R0 0 f p f 0 0 := by rw [← hR0]; exact ⟨rfl, rfl, rfl, rfl, rfl⟩
  rw [hR0] at h2
  have h2' : TbAt w2 t a b g mb [9, 0] 10 (.slice (some ⟨qb, 0, none⟩) 1 cap) 1 R0 C1 base := ⟨h2.hdr, h2.ar.le (by decide), h2.rows, h2.map, h2.lt, h2.ne⟩
  clear hbs hB hF2 hC1 h2 hR0
  go_wp2_with fail
  go_loopg [11, 12, 13, 14, 15, 16, 17] 20 (fun gg v11 v12 _ _ _ _ _ wr => ∃ (k : Nat) (D q m : Int) (R : List Value), gg = 20 - k ∧ k ≤ 20 ∧ k ≤ len2 ∧ v12 = .int .i64 k ∧ v11 = .int .u64 D ∧ 0 ≤ q ∧ 0 ≤ m ∧ (k : Int) + m = q ∧ D = f + p * q ∧ D ≤ 65535 + 5000 * k ∧ R.length = 13 ∧ TaskR R 0 (.int .i64 1) (.int .i64 2) (.int .i64 0) (.int .u64 D) (.int .u64 0) (.int .u64 0) (.int .u64 0) ∧ JobR R 0 f p D k m ∧ TbAt wr t a b g mb [9, 0] (10 + k) (.slice (some ⟨qb, 0, none⟩) 1 cap) 1 R C1 base ∧ Below w.heap.size w wr)
  case atStart => exact ⟨0, f, 0, 0, R0, rfl, by omega, by omega, rfl, rfl, by omega, by omega, by simp, by simp, by simp; omega, hRl, hRt, hRj, by simpa using h2', hB2⟩
  case round =>
    clear hRl hRt hRj h2' hB2
    obtain ⟨k, D, q, m, R, rfl, hk, hkl, rfl, rfl, q0, m0, hrm, hD, hDb, hRl, hRt, hRj, hT, hB⟩ := hrel
    by_cases hlt : k < 20 ∧ k < len2
    · obtain ⟨h20, hlen⟩ := hlt
      rcases HW.out with h0 | ⟨c, off, rfl, hl, hlm, hbw, hc, hwz⟩
      · omega
      have hcell := cell_keeps hB hbw (hc k (by omega))
      generalize z2.getD k 0 = x at hcell
      obtain ⟨y, hy, y0, y1⟩ : ∃ s, bits .and .u64 x 4095 = s ∧ 0 ≤ s ∧ s ≤ 4095 := ⟨_, rfl, by rw [and_u64_4095]; omega, by rw [and_u64_4095]; omega⟩
      obtain ⟨s, s0, s1, s2, s3, s4, s5⟩ := next_on f p q D y (by omega) q0 y0 hD (by rw [TL.out]; omega)
      obtain ⟨g1, g2, g3⟩ := on_grid f p q D (by omega) q0 hD
      obtain ⟨E, hE⟩ : ∃ E, f + p * (s + 1) = E := ⟨_, rfl⟩
      rw [hE] at s2 s3 s4
      obtain ⟨g4, g5, g6⟩ := on_grid f p (s + 1) E (by omega) (by omega) hE.symm
      obtain ⟨N, hN⟩ : ∃ N, D + y = N := ⟨_, rfl⟩
      rw [hN] at s1 s2 s3 s4 s5
      have t1 : IntKind.u64.wrap (D + y) = N := by rw [IntKind.wrap_u64]; omega
      obtain ⟨m', hm', m0', mm⟩ : ∃ m', m + (s - q) = m' ∧ 0 ≤ m' ∧ m ≤ m' := ⟨_, rfl, by omega, by omega⟩
      have sb : s ≤ E := by
        have h1 := Int.mul_le_mul_of_nonneg_right (show (1 : Int) ≤ p from by omega) (show (0 : Int) ≤ s + 1 from by omega)
        omega
      have spE : p ≤ E := by
        have h0 := hE
        rw [Int.mul_add] at h0
        have := Int.mul_nonneg (show (0 : Int) ≤ p from by omega) (show (0 : Int) ≤ s from by omega)
        omega
      have w1' : IntKind.u64.wrap ((k : Int) + 1) = (k : Int) + 1 := by rw [IntKind.wrap_u64]; omega
      have w2' : IntKind.u64.wrap (m + (s - q)) = m' := by rw [IntKind.wrap_u64]; omega
      have hsm : (k : Int) + 1 + m' = s + 1 := by omega
      have hGA : ∀ w, Calls Try.prog 43 #[.agg #[.int .u64 f, .int .u64 p, .int .u64 D, .int .u64 k, .int .u64 m], .int .u64 N] w fun e w' => e = .returned (.tuple #[.agg #[.int .u64 f, .int .u64 p, .int .u64 E, .int .u64 ((k : Int) + 1), .int .u64 m'], .bool true]) ∧ Below w.heap.size w w' := by
        intro w
        have h := GAfter_go f p D k m N N true (Or.inr ⟨by omega, rfl⟩) f0 HFT.out (by omega) HPT.out (by omega) (by rw [TL.out]; omega) (by omega) (by rw [TL.out]; omega) g1 s1 w
        rw [if_pos rfl, s2, w1', s5, w2'] at h
        exact h
      have d1 : decide (E ≤ N) = false := by simp; omega
      have d2 : IntKind.u64.wrap (E - p) = E - p := by rw [IntKind.wrap_u64]; omega
      have d3 : decide (E - p > N) = false := by simp; omega
      have d4 : decide (N < E - p) = false := by simp; omega
      have d5 : IntKind.u64.wrap ((k : Int) + 1 + m') = s + 1 := by rw [hsm, IntKind.wrap_u64]; omega
      have d6 : IntKind.u64.wrap (E - f) = E - f := by rw [IntKind.wrap_u64]; omega
      have d7 : (E - f).tdiv p = s + 1 := by rw [Int.tdiv_eq_ediv_of_nonneg (by omega)]; exact g5
      have d8 : IntKind.u64.wrap (s + 1) = s + 1 := by rw [IntKind.wrap_u64]; omega
      have d9 : (p == 0) = false := by simp; omega
      have HG := Lib.hid hGA
      have HE := Lib.hid hE
      have HSM := Lib.hid hsm
      have HRL := Lib.hid hRl
      have HRT := Lib.hid hRt
      have HRJ := Lib.hid hRj
      have HDB := Lib.hid (show E ≤ 65535 + 5000 * ((k + 1 : Nat) : Int) from by omega)
      have HT := Lib.hid hT
      clear hD hc hwz hE g1 g2 g3 g4 g5 g6 s1 s2 s5 w2' hm' hsm hGA hRl hRt hRj hT hrm
      go_wp2_with fail
      refine (TAgain_in HT.out 1 N 0 rfl (by decide) (by decide) f p D k m E ((k : Int) + 1) m' true d9 HRJ.out HG.out).mono ?_
      rintro e w3 ⟨rfl, hT3, hF3⟩
      rw [if_pos rfl]
      have hB3 := hF3.below hB HO1.out
      have HR3l := Lib.hid (show (setJob R 0 f p E ((k : Int) + 1) m').length = 13 from by rw [len_setJob]; exact HRL.out)
      have HR3t := Lib.hid (task_setJob HRT.out f p E ((k : Int) + 1) m')
      have HR3j := Lib.hid (job_setJob R HRL.out f p E ((k : Int) + 1) m')
      generalize setJob R 0 f p E ((k : Int) + 1) m' = R3 at *
      have HT3 := Lib.hid hT3
      clear hB hF3 hT3 hcell
      go_wp2_with fail
      refine (TGet_in HT3.out (by omega) 0 (by decide) (by decide) (by decide) 1 2 0 D 0 0 0 f p E ((k : Int) + 1) m' (by omega) HR3t.out HR3j.out).mono ?_
      rintro e w4 ⟨rfl, hT4, hF4⟩
      rw [show ([9, 0] : List Int).getD 0 0 % 8 = 1 from by decide]
      have hB4 := hF4.below hB3 HO2.out
      clear hB3 hF4
      go_upto_region 15 with fail
      obtain ⟨W5, hW5⟩ : ∃ W5, w4.alloc (.cells #[.int .i64 1, .int .i64 2, .int .i64 1, .int .u64 D, .int .u64 0, .int .u64 ((k : Int) + 1), .int .u64 m'] 98) = W5 := ⟨_, rfl⟩
      have hT5 : TbAt W5 t a b g mb [9, 0] (10 + k + 1) (.slice (some ⟨qb, 0, none⟩) 1 cap) 1 R3 C1 base := by rw [← hW5]; exact hT4.al _
      have hB5 : Below w.heap.size w W5 := by rw [← hW5]; exact below_al hB4 _
      have hx5 : W5.heap[w4.heap.size]? = some (.cells #[.int .i64 1, .int .i64 2, .int .i64 1, .int .u64 D, .int .u64 0, .int .u64 ((k : Int) + 1), .int .u64 m'] 98 (0, 0)) := by rw [← hW5]; exact heap_alloc_new w4 _
      rw [hW5]
      clear hW5 hT4 hB4
      generalize w4.heap.size = xb at *
      have x3 : W5.cell? ⟨xb, 3, none⟩ = some (.int .u64 D) := by simp [World.cell?, hx5]
      have x5 : W5.cell? ⟨xb, 5, none⟩ = some (.int .u64 ((k : Int) + 1)) := by simp [World.cell?, hx5]
      have x6 : W5.cell? ⟨xb, 6, none⟩ = some (.int .u64 m') := by simp [World.cell?, hx5]
      have HT5 := Lib.hid hT5
      clear hx5 hT5
      go_big_quiet (fail)
      have hT6 := HT5.out.drN nq
      have hB6 := below_drN hB5 nq
      generalize World.drewN _ nq = W6 at *
      have HT6 := Lib.hid hT6
      clear hB5 x3 x5 x6 hT6
      go_wp2_with fail
      refine (TSet_in HT6.out 1 0 rfl (by decide) (by decide) D E HR3t.out.2.2.2.1).mono ?_
      rintro e w7 ⟨rfl, rfl⟩
      have hT7 := HT6.out.rset (0 * 13 + 3) (.int .u64 E)
      have hB7 := hB6.setCell (p := (⟨qb, 0 * 13 + 3, none⟩ : Addr)) (by show w.heap.size ≤ qb; omega) (.int .u64 E)
      have HT7 := Lib.hid hT7
      clear hT7 hB6
      go_wp2_with fail
      go_roundg (20 - (k + 1))
      case measure => omega
      case rel => exact ⟨k + 1, E, s + 1, m', R3.set (0 * 13 + 3) (.int .u64 E), rfl, by omega, by omega, by go_num, rfl, by omega, by omega, by have := HSM.out; omega, HE.out.symm, HDB.out, by rw [List.length_set]; exact HR3l.out, task_set3 HR3l.out HR3t.out _, by have := job_set3 HR3j.out (.int .u64 E); simpa using this, by have := HT7.out; rw [show (10 : Int) + ((k + 1 : Nat) : Int) = 10 + k + 1 from by omega]; exact this, hB7⟩
    · have HT := Lib.hid hT
      clear hT hRt hRj hRl hD hrm
      have hend : ∀ (Q : Prop), ((¬ k < len2 → Q) ∧ (k < len2 → ¬ k < 20 → Q)) → Q := by
        intro Q hQ
        by_cases h : k < len2
        · exact hQ.2 h (fun h2 => hlt ⟨h2, h⟩)
        · exact hQ.1 h
      refine hend _ ⟨fun hlen => ?_, fun hlen h20 => ?_⟩
      all_goals
        go_wp2_with fail
        refine (TAgain_out HT.out 2 5 (.inr (by decide)) (by decide)).mono ?_
        rintro e w2 ⟨rfl, rfl⟩
        go_wp2_with fail
        refine (awake17 _).mono ?_
        rintro e w3 ⟨rfl, hb⟩
        go_wp2_with fail
        go_ret
        exact ⟨rfl, below_step hb hB⟩

set_option maxRecDepth 100000 in
theorem lifted (os : Os) (started : os.Started) (H : Type) (enc : TypeId × Value → H) :
    ReturnsInHanded {} Try.checked os 16 .any (Rows.tableAgainSpec.pre6 enc Try.prog Try.f16 Rows.tableAgainRow.domain false) (Rows.tableAgainSpec.post enc Try.prog Try.f16 false true false false) := by
  refine returnsInHanded_of_change (C := Try.checked) own started (by kernel_rfl) Try.func16
    (ChangeSpec.witness6 (enc := enc) (C := Try.checked) false ⟨#[], #[.int .u64 0, .int .u64 0, .slice none 0 0], []⟩ 8 (by kernel_rfl) (by kernel_rfl) (by kernel_rfl) (by kernel_rfl)) ?_
  intro W base args ds gs before hval0 hW hcnd _
  have hval : ∀ (j : Nat) t v, Try.f16.params[j]? = some t → args[j]? = some v → Value.okWide Try.prog W .any base t v := hval0
  have hW' := hW
  obtain ⟨p, q, hA0, hV, rfl, hfz, hnd⟩ := hW
  have hA : DataW.TrodAll enc Try.prog W 0 (fun _ => true) true Try.f16.params.toList args.toList ds p := hA0
  rw [Try.params16] at hA hval
  obtain ⟨v0, vs0, d0, ds0, p0, q0, hargs, rfl, rfl, h0, r0⟩ := trodAll_cons hA
  obtain ⟨v1, vs1, d1, ds1, p1, q1, rfl, rfl, rfl, h1, r1⟩ := trodAll_cons r0
  obtain ⟨v2, vs2, d2, ds2, p2, q2, rfl, rfl, rfl, h2, r2⟩ := trodAll_cons r1
  obtain ⟨rfl, rfl, rfl⟩ := trodAll_nil r2
  obtain rfl : args = #[v0, v1, v2] := by cases args; simp_all
  obtain ⟨rfl, rfl⟩ := trodVars_none hV
  obtain ⟨a0, rfl, rfl, rfl, w0⟩ := open_int Try.underlying29 (hval 0 29 v0 rfl rfl) h0
  obtain ⟨a1, rfl, rfl, rfl, w1⟩ := open_int Try.underlying29 (hval 1 29 v1 rfl rfl) h1
  obtain ⟨a2, len2, cap2, rfl⟩ := okWide_slice Try.underlying27 (hval 2 27 v2 rfl rfl)
  have k2 := h2
  have lt2 : ∀ x ∈ p2, x.block < W.heap.size := by obtain ⟨m, hm⟩ := k2; exact DataW.trod_lt m _ _ _ hm
  obtain ⟨z2, w2⟩ : ∃ zs, IsRow .u64 W a2 len2 cap2 zs := by
    obtain ⟨fuel, hf⟩ := h2
    rcases open_ints Try.underlying27 Try.underlying29 (by kernel_rfl) hf with ⟨hcs, _⟩ | ⟨x, l, c, zs, hcs, _, hl, hm, hz, _, hcell, hwz⟩
    · simp [Value.cells] at hcs
      obtain ⟨rfl, rfl, rfl⟩ := hcs
      exact ⟨[], .inl ⟨rfl, rfl, rfl, rfl⟩⟩
    · simp [Value.cells] at hcs
      obtain ⟨rfl, rfl, rfl⟩ := hcs
      exact ⟨zs, .inr ⟨_, rfl, hl, hm, by simpa using hz, hcell, hwz⟩⟩
  clear hA0 hval0
  refine (walk a0 a1 a2 len2 cap2 z2 W w0 w1 w2).mono fun e W' ⟨he, bel⟩ => ?_
  subst he
  exact ⟨_, rfl, _, _, _, [], _, [], hW', trodAll_mk1 (shut_bool Try.underlying4 _), (trodAll_cons_mk (shut_int Try.underlying29 w0) (trodAll_cons_mk (shut_int Try.underlying29 w1) (trodAll_cons_mk (Below.trod laidOut (by kernel_rfl) (of_decide_eq_true (by kernel_rfl)) k2 bel lt2) trodAll_mk0))), rfl, bel.frame _, fun h => by cases h⟩

theorem over : Rows.tableAgainRow.holds Try.pinned (OpenSpec.ofChange Rows.tableAgainSpec) :=
  OpenClaim.holds_of_wide 16 Try.f16 rfl rfl rfl rfl rfl rfl rfl ⟨rfl, rfl, rfl, rfl, rfl⟩ rfl rfl rfl rfl rfl (by kernel_rfl) Try.func16 (by kernel_rfl)
    (of_decide_eq_true (by kernel_rfl)) (by unfold Func.isWrapper; first | (rw [if_pos (by decide +kernel)]; kernel_rfl) | (rw [if_neg (by decide +kernel)]; exact ⟨rfl, rfl⟩))
    (fun os started H enc _ => lifted os started H enc)

theorem proved : Rows.TableAgainSaid := over
#print axioms proved
end Go.Proofs.Ytpcbcnheogjofaa.tableAgain
