/- Contracts and plain laws that the proof of TopPairs goes by, under no condition. -/
import Derived.Test.YtcfhkbcllijnkaaGreatZTopPairsbl
import Derived.Test.YtcfhkbcllijnkaaGreatZTopPairsbf
set_option linter.unusedVariables false
set_option linter.unusedSimpArgs false
set_option maxRecDepth 100000
set_option maxHeartbeats 40000000
namespace Go.Proofs.YtcfhkbcllijnkaaGreat
open Go.RowKit Go.Maps Go.Shelf Go.Proofs.YtcfhkbcllijnkaaGreatW.PrintWords
section
variable {W W' : World} {A : CA} {S S' : CS} {N N' : Nat}
theorem zeroU64 (w : World) : (zeroValue 22).run Tryz.prog w = .ok (.int .u64 0) w := by kernel_rfl
theorem Wh_Cancel0 {wp m1 m2 m3 : Nat} {now : Int} (h : WhAt W wp m1 m2 m3 now) (id : Int) (hid : In64 id) : Calls Tryz.prog 101 #[.pointer (some ⟨wp, 0, none⟩), .int .i64 id] W fun e w' => e = .returned (.bool false) ∧ Below W.heap.size W w' := by
 obtain ⟨ck, h2⟩ := h.b
 have c2 : W.cell? ⟨wp, 2, none⟩ = some (.map (some m2)) := by rw [cell_of_heap h.hdr]; rfl
 have lk : (Instr.lookup 147 (.map (some m2)) (.int .i64 id) true).run Tryz.prog W = .ok (.tuple #[.int .u64 0, .bool false]) W := look0b (P := Tryz.prog) keyedInt Tryz.underlying147 h2 (key_int id hid) (zeroU64 _)
 clear h h2
 go_enter Tryz.func101, Tryz.ntmps101
 go_wp2_with fail
 go_ret
 exact ⟨rfl, Below.refl _ _⟩
theorem D_leave0 {dp pm nm : Nat} (h : DagAt W dp pm nm false) (id : Int) (hid : In64 id) : Calls Tryz.prog 153 #[.pointer (some ⟨dp, 0, none⟩), .int .i64 id] W fun e w' => e = .returned (.tuple #[]) ∧ Below W.heap.size W w' := by
 obtain ⟨b1, ck, hm, -⟩ := h.pairs
 obtain ⟨b2, ck2, hn⟩ := h.num
 have hd := h.hdr
 rw [if_neg (by decide)] at hm hn
 obtain ⟨X, hX⟩ : ∃ X, W.alloc (.cells #[.int .i64 id] 3) = X := ⟨_, rfl⟩
 have hXb : Below W.heap.size W X := by rw [← hX]; exact below_al (Below.refl _ _) _
 have x0 : X.heap[W.heap.size]? = some (.cells #[.int .i64 id] 3 (0, 0)) := by rw [← hX]; exact heap_alloc_new W _
 have c0 : X.cell? ⟨dp, 0, none⟩ = some (.map (some pm)) := cell_goes hXb (cell_of_heap hd)
 have HD := Lib.hid (fun f => Del_0 pm f ck X ((hXb.block _ (heap_lt hm)).trans hm))
 have H := Lib.hid (And.intro hd (And.intro hn (And.intro hXb x0)))
 clear hd hm hn hXb x0 h
 go_enter Tryz.func153, Tryz.ntmps153
 go_wp2_with fail
 refine (HD.out _).mono ?_
 rintro e w2 ⟨rfl, hB2⟩
 obtain ⟨hd, hn, hXb, x0⟩ := H.out
 have hWb : Below W.heap.size W w2 := below_step hB2 hXb
 have d1 : w2.drew.cell? ⟨dp, 1, none⟩ = some (.map (some nm)) := cell_goes (below_dr hWb) (show W.cell? ⟨dp, 1, none⟩ = _ by simp [World.cell?, hd])
 have d1' : w2.cell? ⟨dp, 1, none⟩ = some (.map (some nm)) := d1
 have d2 : w2.drew.cell? ⟨W.heap.size, 0, none⟩ = some (.int .i64 id) := cell_goes (below_dr hB2) (cell_of_heap x0)
 have d2' : w2.cell? ⟨W.heap.size, 0, none⟩ = some (.int .i64 id) := d2
 have hnd : w2.drew.heap[nm]? = some (.map #[] ck2) := (hWb.block _ (heap_lt hn)).trans hn
 have hdel := fun ty => del0 (P := Tryz.prog) keyedInt Tryz.underlying136 hnd (key_int id hid) ty
 have HE := Lib.hid (below_dr hWb)
 clear hd hn hXb x0 hWb hnd hB2
 go_wp2_with fail
 go_upto_region 2 with fail
 go_region
 all_goals
  go_wp2_with fail
  go_end0
  exact ⟨rfl, HE.out⟩
theorem D_Kill0 {dp pm nm : Nat} (h : DagAt W dp pm nm false) (id : Int) (hid : In64 id) : Calls Tryz.prog 103 #[.pointer (some ⟨dp, 0, none⟩), .int .i64 id] W fun e w' => e = .returned (.slice none 0 0) ∧ Below W.heap.size W w' := by
 have hmm : ∀ w, (Instr.makeMap 237 none).run Tryz.prog w = .ok (.map (some w.heap.size)) (w.alloc (.map #[] 0)) := fun _ => by rfl
 obtain ⟨W1, hW1⟩ : ∃ W1, W.alloc (.cells #[.int .i64 id] 3) = W1 := ⟨_, rfl⟩
 have hb1 : Below W.heap.size W W1 := by rw [← hW1]; exact below_al (Below.refl _ _) _
 have hs1 : W1.heap.size = W.heap.size + 1 := by rw [← hW1]; simp
 have x1 : W1.heap[W.heap.size]? = some (.cells #[.int .i64 id] 3 (0, 0)) := by rw [← hW1]; exact heap_alloc_new W _
 obtain ⟨W2, hW2⟩ : ∃ W2, W1.alloc (.map #[] 0) = W2 := ⟨_, rfl⟩
 have hb2 : Below W1.heap.size W1 W2 := by rw [← hW2]; exact below_al (Below.refl _ _) _
 have x2 : W2.heap[W1.heap.size]? = some (.map #[] 0) := by rw [← hW2]; exact heap_alloc_new W1 _
 have hup := upd0 (P := Tryz.prog) keyedInt Tryz.underlying237 x2 (key_int id hid) (.bool true)
 obtain ⟨W3, hW3⟩ : ∃ W3, World.setBlk W2 W1.heap.size (.map #[{ key := .int .i64 id, val := .bool true, born := 0 }] (0 + 1)) = W3 := ⟨_, rfl⟩
 rw [hW3] at hup
 have f3 : Fr (fun j => j = W1.heap.size) W2 W3 := by rw [← hW3]; exact Fr.of_setBlk _ _ _ rfl
 have x3 : W3.heap[W1.heap.size]? = some (.map #[{ key := .int .i64 id, val := .bool true, born := 0 }] (0 + 1)) := by rw [← hW3]; exact setBlk_get _ _ _ _ x2
 have hb3 : Below W.heap.size W W3 := by
  have h12 := below_step hb2 hb1
  refine ⟨f3.os.trans h12.os, f3.tape.trans h12.tape, f3.output.trans h12.output, Nat.le_trans h12.size f3.size, fun j hj => ?_⟩
  rw [f3.block j (Nat.lt_of_lt_of_le hj h12.size) (by omega)]
  exact h12.block j hj
 have y1 : W3.heap[W.heap.size]? = some (.cells #[.int .i64 id] 3 (0, 0)) := (f3.block _ (by have := heap_lt x1; have := hb2.size; omega) (by omega)).trans ((hb2.block _ (heap_lt x1)).trans x1)
 have t0 : W3.cell? ⟨W.heap.size, 0, none⟩ = some (.int .i64 id) := by rw [cell_of_heap y1]; rfl
 have h3 := h.below hb3
 have HB := Lib.hid (D_Behind0 h3 id)
 have HL := Lib.hid (fun w (hb : Below W3.heap.size W3 w) => D_leave0 (h3.below hb) id hid)
 have H := Lib.hid (And.intro hb3 (And.intro x3 h3))
 have HW := Lib.hid (And.intro hW1 (And.intro hW2 hs1))
 clear hb1 x1 hb2 x2 f3 x3 hb3 y1 h3 h hW1 hW2 hs1 hW3
 go_enter Tryz.func103, Tryz.ntmps103
 go_upto_region 2 with fail
 rw [HW.out.1]
 go_wp2_with fail
 rw [HW.out.2.1, hup]
 go_wp2_with fail
 refine wp_loop_rounds 2 ?_
 rw [rounds_succ]
 go_wp2_with fail
 refine HB.out.mono ?_
 rintro e w4 ⟨rfl, hb4⟩
 have HB4 := Lib.hid hb4
 have HLv := Lib.hid (HL.out w4 hb4)
 clear hb4
 go_wp2_with fail
 refine wp_loop_rounds 1 ?_
 rw [rounds_succ]
 go_wp2_with fail
 refine HLv.out.mono ?_
 rintro e w5 ⟨rfl, hb5⟩
 have hb35 : Below W3.heap.size W3 w5 := below_step hb5 HB4.out
 have x5 := (hb35.block _ (heap_lt H.out.2.1)).trans H.out.2.1
 have hdel := fun ty => del1 (P := Tryz.prog) keyedInt Tryz.underlying237 x5 (key_int id hid) rfl ty
 have HX5 := Lib.hid (And.intro hb35 x5)
 clear hb5 hb35 x5
 go_wp2_with fail
 rw [rounds_succ]
 go_wp2_with fail
 obtain ⟨W6, hW6⟩ : ∃ W6, World.setBlk w5 W1.heap.size (.map #[] (0 + 1)) = W6 := ⟨_, rfl⟩
 obtain ⟨W7, hW7⟩ : ∃ W7, W6.alloc (.cells #[.map (some W1.heap.size)] 237) = W7 := ⟨_, rfl⟩
 have HK : RowKit.Hid (∀ w, w = W6 → Calls Tryz.prog 155 #[.map (some W1.heap.size)] w fun e w' => e = .returned (.func (.func 214) #[] #[.pointer (some ⟨W6.heap.size, 0, none⟩)]) ∧ w' = W7) := Lib.hid (by
  rintro w rfl
  rw [← hW7]
  exact Keys_any _ _)
 have HS : RowKit.Hid (Below W.heap.size W W7 ∧ Calls Tryz.prog 154 #[.func (.func 214) #[] #[.pointer (some ⟨W6.heap.size, 0, none⟩)]] W7 fun e w' => e = .returned (.slice none 0 0) ∧ Below W7.heap.size W7 w') := Lib.hid (by
  have hx5 := HX5.out.2
  have x6 : W6.heap[W1.heap.size]? = some (.map #[] (0 + 1)) := by rw [← hW6]; exact setBlk_get _ _ _ _ hx5
  have f6 : Fr (fun j => j = W1.heap.size) w5 W6 := by rw [← hW6]; exact Fr.of_setBlk _ _ _ rfl
  have hb7 : Below W6.heap.size W6 W7 := by rw [← hW7]; exact below_al (Below.refl _ _) _
  have x7 := (hb7.block _ (heap_lt x6)).trans x6
  have c7 : W7.cell? ⟨W6.heap.size, 0, none⟩ = some (.map (some W1.heap.size)) := by
   have : W7.heap[W6.heap.size]? = some (.cells #[.map (some W1.heap.size)] 237 (0, 0)) := by rw [← hW7]; exact heap_alloc_new W6 _
   rw [cell_of_heap this]; rfl
  have h5 : Below W.heap.size W w5 := below_step HX5.out.1 H.out.1
  have h6 : Below W.heap.size W W6 := by
   refine ⟨f6.os.trans h5.os, f6.tape.trans h5.tape, f6.output.trans h5.output, Nat.le_trans h5.size f6.size, fun j hj => ?_⟩
   rw [f6.block j (Nat.lt_of_lt_of_le hj h5.size) (by have := HW.out.2.2; omega)]
   exact h5.block j hj
  exact ⟨below_step hb7 h6, Sorted_0 c7 x7⟩)
 have HW6 := Lib.hid (show World.setBlk w5 W1.heap.size (.map #[] 1) = W6 from hW6)
 clear hW6 hW7 hdel
 rw [HW6.out]
 refine (HK.out _ rfl).mono ?_
 rintro e w7 ⟨rfl, rfl⟩
 go_wp2_with fail
 refine HS.out.2.mono ?_
 rintro e w8 ⟨rfl, hb8⟩
 have HB8 := Lib.hid (below_step hb8 HS.out.1)
 have HC := Lib.hid (ClipInt (SlV.nil w8 3 1))
 clear hb8
 go_wp2_with fail
 refine HC.out.mono ?_
 rintro e w' ⟨v', rfl, hv, ho, rfl⟩
 have hv' : v' = .slice none 0 0 := by
  rcases hv.form with ⟨h, -⟩ | ⟨b, off, cap, h, -⟩
  · exact h
  · rw [h] at ho
    cases ho
 subst hv'
 clear hv ho
 go_wp2_with fail
 go_ret
 exact ⟨rfl, HB8.out⟩
def CM.cancel (c : CM) (k : Nat) (x : Int × Tk) : CM := { c with rows := c.rows.set k (6, x.2), q := c.q.take ((k : Int) + 1), o := c.o - 1, evs := c.evs ++ [⟨7, -1, (k : Int) + 1, 0, c.tick⟩] }
theorem C_cancel (h : CoreAt W A S N) (hN : N ≤ 300000000) (hq : (S.q.q A.q.k).Ok) (k : Nat) (x : Int × Tk) (hx : S.t.rows[k]? = some x) (hx1 : x.1 = 1 ∨ x.1 = 2) (ho : 0 < S.o) : Calls Tryz.prog 57 #[.pointer (some ⟨A.cb, 0, none⟩), .int .i64 ((k : Int) + 1)] W fun e w' => e = .returned (.tuple #[]) ∧ ∃ S', CStep W A S w' S' (N + 10) ∧ S'.cm A = (S.cm A).cancel k x := by
 have hk200 : k < 200 := by
  have h1 := (List.getElem?_eq_some_iff.1 hx).1
  have := h.t.len.2
  omega
 have hid : In64 ((k : Int) + 1) := WalkArith.wf_i64 (by omega)
 have hbn := h.bnd
 have HU := Lib.hid (T_Turn h.t (by omega) k x hx 6 (by omega) (by omega) (by rcases hx1 with e | e <;> rw [e] <;> decide))
 obtain ⟨-, -, -, -, -, -, -, c7, -⟩ := h.cells
 have H := Lib.hid (And.intro h (And.intro hx (And.intro ho (And.intro hbn (And.intro hq hid)))))
 clear h hx ho hbn hq hid hx1
 go_enter Tryz.func57, Tryz.ntmps57
 go_wp2_with fail
 refine HU.out.mono ?_
 rintro e w3 ⟨rfl, t3, ht3, hp3, hr3, hb3⟩
 obtain ⟨h, hx, ho, hbn, hq, hid⟩ := H.out
 have k3 := h.setT (N' := N + 3) ht3 hp3 (by omega) (by omega)
 obtain ⟨S3, hS3⟩ : ∃ S3 : CS, { S with t := t3 } = S3 := ⟨_, rfl⟩
 rw [hS3] at k3
 have ho3 : S3.o = S.o := by rw [← hS3]
 have hq3 : (S3.q.q A.q.k).Ok := by rw [← hS3]; exact hq
 obtain ⟨-, -, -, -, c4, -⟩ := k3.at_.cells
 have HW := Lib.hid (Wh_Cancel0 k3.at_.w ((k : Int) + 1) hid)
 have H3 := Lib.hid (And.intro k3 (And.intro hS3 (And.intro hr3 (And.intro ho3 hq3))))
 clear ht3 hp3 hr3 hb3 k3 hS3 ho3 hq3 h hx ho hbn hq hid
 go_wp2_with fail
 refine HW.out.mono ?_
 rintro e w4 ⟨rfl, hb4⟩
 have k4 := H3.out.1.trans (CStep.below H3.out.1.at_ hb4)
 obtain ⟨-, -, -, c3, -⟩ := k4.at_.cells
 have HQ := Lib.hid (Q_Take k4.at_.q H3.out.2.2.2.2 ((k : Int) + 1))
 have H4 := Lib.hid k4
 clear hb4 k4
 go_wp2_with fail
 refine HQ.out.mono ?_
 rintro e w5 ⟨rfl, q5, hq5, hqe5⟩
 have k5 := H4.out.trans (H4.out.at_.setQ hq5)
 obtain ⟨S5, hS5⟩ : ∃ S5 : CS, { S3 with q := q5 } = S5 := ⟨_, rfl⟩
 rw [hS5] at k5
 have ho5 : S5.o = S.o := by rw [← hS5]; exact H3.out.2.2.2.1
 have hbn5 := k5.at_.bnd
 have HG := Lib.hid (Give_hit k5.at_.cr (by omega) (by rw [ho5]; exact H.out.2.2.1))
 obtain ⟨-, -, -, -, -, -, c6, -⟩ := k5.at_.cells
 have H5 := Lib.hid (And.intro k5 (And.intro hS5 (And.intro ho5 (And.intro hbn5 hqe5))))
 clear hq5 hqe5 k5 hS5 ho5 hbn5
 go_wp2_with fail
 refine HG.out.mono ?_
 rintro e w6 ⟨rfl, hc6, hf6⟩
 obtain ⟨k5, hS5, ho5, hbn5, hqe5⟩ := H5.out
 have k6 := k5.trans (k5.at_.setCr (N' := N + 6) hc6 hf6 (by omega) (by omega))
 obtain ⟨S6, hS6⟩ : ∃ S6 : CS, { S5 with o := S5.o - 1, m := S5.m, K := S5.K + 3 } = S6 := ⟨_, rfl⟩
 rw [hS6] at k6
 have HTl := Lib.hid (C_tell k6.at_ (by omega) 7 (-1) ((k : Int) + 1) 0)
 have H6 := Lib.hid (And.intro k6 hS6)
 clear hc6 hf6 k5 hS5 ho5 hbn5 hqe5 k6 hS6
 go_wp2_with fail
 refine HTl.out.mono ?_
 rintro e w7 ⟨rfl, v7, k7⟩
 have HE : RowKit.Hid (∃ S', CStep W A S w7 S' (N + 10) ∧ S'.cm A = (S.cm A).cancel k x) := Lib.hid (by
  refine ⟨_, (H6.out.1.trans k7).up (by omega), ?_⟩
  rw [← H6.out.2, ← H5.out.2.1, ← H3.out.2.1]
  unfold CS.cm CM.cancel
  dsimp only
  rw [H3.out.2.2.1, if_neg (by omega), H5.out.2.2.2.2, ← H3.out.2.1])
 clear k7
 go_wp2_with fail
 go_end0
 exact ⟨rfl, HE.out⟩
theorem C_kill0 (h : CoreAt W A S N) (hd : S.d = false) (id : Int) (hid : In64 id) : Calls Tryz.prog 58 #[.pointer (some ⟨A.cb, 0, none⟩), .int .i64 id] W fun e w' => e = .returned (.slice none 0 0) ∧ Below W.heap.size W w' := by
 have hdag := h.d
 rw [hd] at hdag
 have HK := Lib.hid (D_Kill0 hdag id hid)
 obtain ⟨-, -, -, -, -, c5, -⟩ := h.cells
 clear h hdag hd
 go_enter Tryz.func58, Tryz.ntmps58
 go_wp2_with fail
 refine HK.out.mono ?_
 rintro e w3 ⟨rfl, hb3⟩
 have HB := Lib.hid hb3
 clear hb3
 go_wp2_with fail
 refine wp_loop_rounds 1 ?_
 rw [rounds_succ]
 go_wp2_with fail
 go_ret
 exact ⟨rfl, HB.out⟩
theorem C_Cancel (h : CoreAt W A S N) (hN : N ≤ 290000000) (hq : (S.q.q A.q.k).Ok) (hd : S.d = false) (k : Nat) (x : Int × Tk) (hx : S.t.rows[k]? = some x) (hx0 : 1 ≤ x.1) (hx6 : x.1 ≤ 6) (ho : x.1 = 2 → 0 < S.o) (hx1 : x.1 ≠ 1) : Calls Tryz.prog 23 #[.pointer (some ⟨A.cb, 0, none⟩), .int .i64 ((k : Int) + 1)] W fun e w' => e = .returned (.int .i64 (if x.1 = 2 then 0 else 8)) ∧ ∃ S', CStep W A S w' S' (N + 20) ∧ S'.cm A = if x.1 = 2 then (S.cm A).cancel k x else S.cm A := by
 have hk200 : k < 200 := by
  have h1 := (List.getElem?_eq_some_iff.1 hx).1
  have := h.t.len.2
  omega
 have hid : In64 ((k : Int) + 1) := WalkArith.wf_i64 (by omega)
 have HS := Lib.hid (C_Status h (by omega) k x hx)
 by_cases h2 : x.1 = 2
 ·
  have H := Lib.hid (And.intro hx (And.intro (ho h2) (And.intro hq (And.intro hd (And.intro h2 hid)))))
  rw [h2] at HS
  clear h hx ho hq hd hx0 hx6 hx1 hid
  rw [if_pos h2, if_pos h2]
  clear h2
  go_enter Tryz.func23, Tryz.ntmps23
  go_wp2_with fail
  refine HS.out.mono ?_
  rintro e w1 ⟨rfl, k1⟩
  have HC := Lib.hid (C_cancel k1.at_ (by omega) H.out.2.2.1 k x H.out.1 (.inr H.out.2.2.2.2.1) H.out.2.1)
  have H1 := Lib.hid k1
  clear k1
  go_wp2_with fail
  refine HC.out.mono ?_
  rintro e w2 ⟨rfl, S2, k2, hm2⟩
  have HK := Lib.hid (C_kill0 k2.at_ ((congrArg CM.d hm2).trans H.out.2.2.2.1) ((k : Int) + 1) H.out.2.2.2.2.2)
  have H2 := Lib.hid (And.intro (H1.out.trans k2) hm2)
  clear k2 hm2
  go_wp2_with fail
  refine HK.out.mono ?_
  rintro e w3 ⟨rfl, hb3⟩
  have HE : RowKit.Hid (∃ S', CStep W A S w3 S' (N + 20) ∧ S'.cm A = (S.cm A).cancel k x) := Lib.hid ⟨S2, (H2.out.1.trans (CStep.below H2.out.1.at_ hb3)).up (by omega), H2.out.2⟩
  clear hb3
  go_wp2_with fail
  go_ret
  exact ⟨rfl, HE.out⟩
 ·
  rw [if_neg h2, if_neg h2]
  have hxs : x.1 = 3 ∨ x.1 = 4 ∨ x.1 = 5 ∨ x.1 = 6 := by omega
  obtain ⟨st, hst⟩ : ∃ s, x.1 = s := ⟨_, rfl⟩
  rw [hst] at HS hxs
  clear h hx ho hq hd hx0 hx6 hx1 hid h2 hst
  rcases hxs with rfl | rfl | rfl | rfl
  all_goals
   go_enter Tryz.func23, Tryz.ntmps23
   go_wp2_with fail
   refine HS.out.mono ?_
   rintro e w1 ⟨rfl, k1⟩
   have HE := Lib.hid k1
   clear k1
   go_wp2_with fail
   go_ret
   exact ⟨rfl, _, HE.out.up (by omega), rfl⟩
end
end Go.Proofs.YtcfhkbcllijnkaaGreat
