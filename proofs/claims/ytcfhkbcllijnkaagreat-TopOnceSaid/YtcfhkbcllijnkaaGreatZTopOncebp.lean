/- Parts of the proof of TopOnce, under no condition. -/
import Derived.Test.YtcfhkbcllijnkaaGreatZTopOncebo
set_option linter.unusedVariables false
set_option linter.unusedSimpArgs false
set_option maxRecDepth 100000
set_option maxHeartbeats 0
namespace Go.Proofs.YtcfhkbcllijnkaaGreat
open Go.RowKit Go.Maps Go.Shelf Go.Proofs.YtcfhkbcllijnkaaGreatW.PrintWords
section
variable {W : World}
theorem zkl (m : Nat) (h1 : 1 ≤ m) (h8 : m ≤ 8) (W : World) : (Instr.makeSlice 85 (.int .i64 (m : Int)) (.int .i64 (m : Int))).run Tryz.prog W = .ok (.slice (some ⟨W.heap.size, 0, none⟩) m m) (W.alloc (.cells (wkC (List.replicate m wk0)).toArray 123)) := by
 rcases (show m = 1 ∨ m = 2 ∨ m = 3 ∨ m = 4 ∨ m = 5 ∨ m = 6 ∨ m = 7 ∨ m = 8 by omega) with rfl | rfl | rfl | rfl | rfl | rfl | rfl | rfl <;> kernel_rfl
theorem zzi (T k C : Nat) (h1 : 1 ≤ T) (h8 : T ≤ 8) (hk : k ≤ 16) (c1 : 1 ≤ C) (c64 : C ≤ 64) (W : World) : Calls Tryz.prog 32 #[.agg #[.int .i64 T, .int .i64 k, .int .i64 C]] W fun e w' => ∃ M s, e = .returned (.tuple #[.pointer (some ⟨M.mp, 0, none⟩), .int .i64 0]) ∧ zaz w' M s 0 ∧ s.c.cm M.c = CM.new T k ∧ s.ws = List.replicate T wk0 ∧ s.did = [0, 0, 0, 0, 0, 0, 0] ∧ s.pk = 0 ∧ M.c.q.lp.length = T ∧ M.c.q.k = k ∧ M.c.C = C ∧ (∀ j, zdp M s j → W.heap.size ≤ j) ∧ Below W.heap.size W w' := by
 obtain ⟨W1, hW1⟩ := yye (W.alloc (.cells #[.int .i64 T, .int .i64 k, .int .i64 C] 83))
 have hb1 : Below W.heap.size W W1 := by rw [← hW1]; exact zab yyr _
 have x1 : W1.heap[W.heap.size]? = some (.cells #[.int .i64 T, .int .i64 k, .int .i64 C] 83 (0, 0)) := by rw [← hW1]; exact heap_alloc_new W _
 have e0 : W1.cell? ⟨W.heap.size, 0, none⟩ = some (.int .i64 T) := by rw [zaa x1]; rfl
 have e1 : W1.cell? ⟨W.heap.size, 1, none⟩ = some (.int .i64 k) := by rw [zaa x1]; rfl
 have e2 : W1.cell? ⟨W.heap.size, 2, none⟩ = some (.int .i64 C) := by rw [zaa x1]; rfl
 have HC := yyh (zzh T k C h1 h8 hk c1 c64 W1)
 have hmk := zkl T h1 h8
 obtain ⟨F, hF⟩ : ∃ F, (wkC (List.replicate T wk0)).toArray = F := ⟨_, rfl⟩
 rw [hF] at hmk
 have HF := yyh hF
 have H1 := yyh (yyi hb1 x1)
 clear hF hb1 x1
 go_enter Tryz.func32, Tryz.ntmps32
 go_wp2_with fail
 refine HC.out.mono ?_
 rintro e w1 ⟨A, S, rfl, hc, hcm, hl, hk', hC, hown, hb⟩
 have y1 := (hb.block _ (zac H1.out.2)).trans H1.out.2
 have f0 : w1.cell? ⟨W.heap.size, 0, none⟩ = some (.int .i64 T) := by rw [zaa y1]; rfl
 have H2 := yyh (yyi hc (yyi hcm (yyi hl (yyi hk' (yyi hC (yyi hown hb))))))
 clear y1 hc hcm hl hk' hC hown hb e0 e1 e2 hW1
 go_wp2_with fail
 go_ret2
 obtain ⟨hc, hcm, hl, hk', hC, hown, hb⟩ := H2.out
 have hb2 : Below w1.heap.size w1 ((w1.alloc (.cells F 123)).alloc (.cells (zhg ⟨A, w1.heap.size + 1, w1.heap.size⟩ ⟨S, List.replicate T wk0, [0, 0, 0, 0, 0, 0, 0], 0⟩).toArray 88)) := zab (zab yyr _) _
 have hsz : W.heap.size ≤ w1.heap.size := (zad hb H1.out.1).size
 have hmc : (zhg ⟨A, w1.heap.size + 1, w1.heap.size⟩ ⟨S, List.replicate T wk0, [0, 0, 0, 0, 0, 0, 0], 0⟩).toArray = #[.pointer (some ⟨A.cb, 0, none⟩), .slice (some ⟨w1.heap.size, 0, none⟩) T T, .int .i64 0, .int .i64 0, .int .i64 0, .int .i64 0, .int .i64 0, .int .i64 0, .int .i64 0, .int .i64 0] := by
  simp [zhg]
 rw [hmc] at hb2
 refine ⟨⟨A, w1.heap.size + 1, w1.heap.size⟩, ⟨S, List.replicate T wk0, [0, 0, 0, 0, 0, 0, 0], 0⟩, rfl, ⟨hc.below hb2, ?_, ?_, ?_, rfl, fun e => ?_, fun e => ?_⟩, hcm, rfl, rfl, rfl, hl, hk', hC, ?_, zad hb2 (zad hb H1.out.1)⟩
 · rw [hmc]; exact zax (by simp)
 · rw [HF.out]; exact zan (heap_alloc_new w1 _)
 · rw [List.length_replicate]; exact hl.symm
 · exact absurd (hc.lt e) (by show ¬ w1.heap.size + 1 < w1.heap.size; omega)
 · exact absurd (hc.lt e) (by show ¬ w1.heap.size < w1.heap.size; omega)
 ·
  rintro j (hj | rfl | rfl)
  · have := hown j hj; have := H1.out.1.size; omega
  · show W.heap.size ≤ w1.heap.size + 1; omega
  · exact hsz
end
def stZ : Array Value := #[.int .u64 0, .int .u64 0, .bool false, .int .i64 0, .slice none 0 0, .slice none 0 0, .slice none 0 0, .slice none 0 0, .slice none 0 0]
def StZ (W1 : World) (b : Nat) (w : World) : Prop := w.heap[b]? = some (.cells stZ 46 (0, 0)) ∧ W1.heap.size ≤ b
section
variable {W1 W w w' : World} {A : CA} {S S' : CS} {N N' i : Nat} {tv sv hv : Value}
theorem StZ.kept {b : Nat} (h : StZ W1 b w) (hk : StK W1 w w') : StZ W1 b w' := ⟨hk _ _ h.2 h.1, h.2⟩
theorem StZ.cells {b : Nat} (h : StZ W1 b w) : w.cell? ⟨b, 0, none⟩ = some (.int .u64 0) ∧ w.cell? ⟨b, 1, none⟩ = some (.int .u64 0) ∧ w.cell? ⟨b, 2, none⟩ = some (.bool false) ∧ w.cell? ⟨b, 3, none⟩ = some (.int .i64 0) ∧ w.cell? ⟨b, 4, none⟩ = some (.slice none 0 0) ∧ w.cell? ⟨b, 5, none⟩ = some (.slice none 0 0) ∧ w.cell? ⟨b, 6, none⟩ = some (.slice none 0 0) ∧ w.cell? ⟨b, 7, none⟩ = some (.slice none 0 0) ∧ w.cell? ⟨b, 8, none⟩ = some (.slice none 0 0) ∧ ∀ i, w.frozen? ⟨b, i, none⟩ = false := by
 refine ⟨?_, ?_, ?_, ?_, ?_, ?_, ?_, ?_, ?_, fun i => za5 h.1⟩ <;> (rw [zaa h.1]; rfl)
theorem StZ.tvNew {b : Nat} (h : StZ W1 b w) {v : Value} (hn : ∀ c, v.ownBlock = some c → w.heap.size ≤ c) : v.ownBlock ≠ some b := fun e => by
 have h1 := zac h.1
 have h2 := hn b e
 omega
theorem StP.alZ (h : StP W1 A S N tv sv hv i w) : StZ W1 w.heap.size (w.alloc (.cells stZ 46)) := ⟨heap_alloc_new w _, h.size⟩
theorem StP.six (h : StP W1 A S N tv sv hv 6 w) : True := trivial
theorem StP.tvNe (h : StP W1 A S N tv sv hv i w) (hi : 3 ≤ i) : tv.ownBlock ≠ some w.heap.size := fun e => by
 obtain ⟨lo, -, h2⟩ := h.t hi
 rcases h2 with ⟨-, rfl⟩ | ⟨c, rfl, -, h3, -⟩
 · cases e
 · injection e with e
   have e' : c = w.heap.size := e
   omega
theorem StR.sts {v3 : Value} (h : StR W1 A S N v3 w) : StS A S w := by
 obtain ⟨yb, tv, sv, hv, -, -, hp, -⟩ := h
 exact hp.sts
theorem StR.last {a1 a2 a3 : Option Addr} {n2 c2 n3 c3 : Nat} (h : StP W1 A S N (.slice a1 S.t.rows.length S.t.rows.length) (.slice a2 n2 c2) (.slice a3 n3 c3) 6 w) : StR W1 A S N (.pointer (some ⟨w.heap.size, 0, none⟩)) (w.alloc (.cells #[.int .u64 0, .int .u64 S.tick, .bool S.closed, .int .i64 ((A.C : Int) - S.o), .slice a1 S.t.rows.length S.t.rows.length, .slice a2 n2 c2, .slice none 0 0, .slice a3 n3 c3, .slice none 0 0] 46)) :=
 ⟨_, _, _, _, rfl, heap_alloc_new w _, h.al _, h.size, ⟨_, rfl⟩, ⟨_, _, _, rfl⟩, ⟨_, _, _, rfl⟩, h.tvNe (by omega)⟩
theorem StR.first {b : Nat} {a1 a2 a3 : Option Addr} {n2 c2 n3 c3 : Nat} (h0 : zal W1 A S N) (h : StP W1 A S N (.slice a1 S.t.rows.length S.t.rows.length) (.slice a2 n2 c2) (.slice a3 n3 c3) 6 w) (hz : StZ W1 b w) (ht : (Value.slice a1 S.t.rows.length S.t.rows.length).ownBlock ≠ some b) : StR W1 A S N (.pointer (some ⟨b, 0, none⟩)) (((((((((w.setCell ⟨b, 0, none⟩ (.int .u64 0)).setCell ⟨b, 1, none⟩ (.int .u64 S.tick)).setCell ⟨b, 2, none⟩ (.bool S.closed)).setCell ⟨b, 3, none⟩ (.int .i64 ((A.C : Int) - S.o))).setCell ⟨b, 4, none⟩ (.slice a1 S.t.rows.length S.t.rows.length)).setCell ⟨b, 5, none⟩ (.slice a2 n2 c2)).setCell ⟨b, 6, none⟩ (.slice none 0 0)).setCell ⟨b, 7, none⟩ (.slice a3 n3 c3)).setCell ⟨b, 8, none⟩ (.slice none 0 0)) :=
 ⟨b, _, _, _, rfl, zkj hz.1 _ _ _ _ _ _ _ _ _, h.box h0 (zp0 _ _ _ _ _ _ _ _ _ _ _) hz.2 hz.1 (by decide) ht, hz.2, ⟨_, rfl⟩, ⟨_, _, _, rfl⟩, ⟨_, _, _, rfl⟩, ht⟩
def zn3 (w : World) (lv : Value) (i : Nat) (own : List (List En)) : Prop := ∃ vs : List Value, SlV w 42 1 lv i vs ∧ ∀ (j : Nat) (v : Value), vs[j]? = some v → zay w v (own.getD j [])
def StO (W : World) (A : CA) (S : CS) (N : Nat) (tv sv lv hv : Value) (w' : World) : Prop := StP W A S N tv sv hv 6 w' ∧ zn3 w' lv A.q.lp.length (S.q.q A.q.k).own ∧ ∀ c, lv.ownBlock = some c → W.heap.size ≤ c
def StL (W1 : World) (A : CA) (S : CS) (N : Nat) (yb Bc : Nat) (tv sv hv : Value) (i : Nat) (w : World) : Prop := ∃ lv vs, w.heap[yb]? = some (.cells (stC S.tick S.closed ((A.C : Int) - S.o) tv sv lv hv) 46 (0, 0)) ∧ StP W1 A S N tv sv hv 6 w ∧ w.ownsRow Bc 42 1 lv i vs ∧ (∀ (j : Nat) (v : Value), vs[j]? = some v → zay w v ((S.q.q A.q.k).own.getD j [])) ∧ Bc ≤ w.heap.size
structure StE (W1 : World) (A : CA) (S : CS) (N : Nat) (yb Bc : Nat) (tv sv hv : Value) (lv lv' : Value) (i : Nat) (w9 : World) : Prop where
 c : w9.cell? ⟨yb, 6, none⟩ = some lv
 z : w9.frozen? ⟨yb, 6, none⟩ = false
 nx : StL W1 A S N yb Bc tv sv hv (i + 1) (w9.setCell ⟨yb, 6, none⟩ lv')
theorem StL.next {w7 w8 w9 : World} {yb Bc : Nat} {lv lv' v7 : Value} {vs : List Value} (h0 : zal W1 A S N) (hge : W1.heap.size ≤ Bc) (hgy : W1.heap.size ≤ yb) (htb : ∀ c, tv.ownBlock = some c → c < Bc) (hty : tv.ownBlock ≠ some yb) (hy : w.heap[yb]? = some (.cells (stC S.tick S.closed ((A.C : Int) - S.o) tv sv lv hv) 46 (0, 0))) (hp : StP W1 A S N tv sv hv 6 w) (hvs : ∀ (j : Nat) (v : Value), vs[j]? = some v → zay w v ((S.q.q A.q.k).own.getD j [])) (hvl : vs.length = i) (hBc : Bc ≤ w.heap.size) (hrow : w.ownsRow Bc 42 1 lv i vs)
 (hb7 : Below w.heap.size w w7) (hE7 : zay w7 v7 ((S.q.q A.q.k).own.getD i [])) (hw8 : w8 = w7.alloc (.cells #[v7] 42)) (hown : w9.ownsRow Bc 42 1 lv' (i + 1) (vs ++ [v7])) (hg : w8.grownBy w9 lv.ownBlock) : StE W1 A S N yb Bc tv sv hv lv lv' i w9 := by
 have hb78 : Below w7.heap.size w7 w8 := by rw [hw8]; exact zab yyr _
 have hb8 : Below w.heap.size w w8 := zad hb78 hb7
 have hy8 := (hb8.block _ (zac hy)).trans hy
 have hrow8 := zb3 hrow hb8
 have hp8 := hp.below hb8
 have hsz := hb8.size
 have hny : some yb ≠ lv.ownBlock := fun e => by
  obtain ⟨cur, h1⟩ := zba hrow8 e.symm
  rw [hy8] at h1
  injection h1 with h1
  injection h1 with _ h1 _
  exact absurd h1 (by decide)
 have hy9 := (hg.block _ (zac hy8) hny).trans hy8
 have f9 : Fr (fun j => lv.ownBlock = some j) w8 w9 := ⟨hg.os, hg.tape, hg.output, hg.size, fun k hk hn => hg.block k hk (fun e => hn e.symm)⟩
 have ent : ∀ {v : Value} {l : List En}, zay w8 v l → zay w9 v l := fun he => zay.fr he f9 (fun c hc e => by
  obtain ⟨cu, h1⟩ := SlV.type he hc
  obtain ⟨cv, h2⟩ := zba hrow8 e
  rw [h1] at h2
  injection h2 with h2
  injection h2 with _ h2 _
  exact absurd h2 (by decide))
 have hp9 : StP W1 A S N tv sv hv 6 w9 := by
  rcases hrow8.2 with ⟨hlv, -⟩ | ⟨g, cap, cur, hlv, hbg, hgh, -⟩
  · rw [hlv] at f9
    exact hp8.below ⟨f9.os, f9.tape, f9.output, f9.size, fun k hk => f9.block k hk (fun e => by cases e)⟩
  · have e : lv.ownBlock = some g := by rw [hlv]; rfl
    refine hp8.box h0 (b := g) (f9.mono (fun j hj => by rw [e] at hj; injection hj with hj; exact hj.symm)) (by omega) hgh (by decide) (fun h => by have := htb g h; omega)
 have hset := zai (o := 6) hy9 lv'
 have f10 : Fr (fun j => j = yb) w9 (w9.setCell ⟨yb, 6, none⟩ lv') := Fr.set (S := fun j => j = yb) (Fr.refl _ _) (p := ⟨yb, 6, none⟩) rfl _
 refine ⟨by rw [zaa hy9]; rfl, za5 hy9, lv', vs ++ [v7], hset, hp9.box h0 f10 hgy hy9 (by decide) hty, ?_, ?_, ?_⟩
 ·
  refine zcv hown f10 (fun c hc e => ?_)
  obtain ⟨cur, h1⟩ := zba hown hc
  have e' : c = yb := e
  rw [e', hy9] at h1
  injection h1 with h1
  injection h1 with _ h1 _
  exact absurd h1 (by decide)
 ·
  intro j v hj
  have key : zay w8 v ((S.q.q A.q.k).own.getD j []) := by
   rcases zhe hj with hj | ⟨rfl, rfl⟩
   · exact zay.below (hvs j v hj) hb8
   · rw [hvl]
     exact zay.below hE7 hb78
  exact zay.fr (ent key) f10 (fun c hc e => by
   obtain ⟨cu, h1⟩ := SlV.type (ent key) hc
   have e' : c = yb := e
   rw [e', hy9] at h1
   injection h1 with h1
   injection h1 with _ h1 _
   exact absurd h1 (by decide))
 · rw [World.size_setCell]
   have := hg.size
   omega
theorem StP.base (h0 : zal W A S N) (hb : Below W.heap.size W W1) (h : StP W1 A S N tv sv hv i w) : StP W A S N tv sv hv i w := by
 obtain ⟨S', k, hm, hr, hq⟩ := h.core
 have hs := hb.size
 exact ⟨⟨S', (zag.below h0 hb).trans k, hm, hr, hq⟩, fun hi => by obtain ⟨lo, h1, h2⟩ := h.t hi; exact ⟨lo, by omega, h2⟩, fun hi => ⟨(h.s hi).1, fun c hc => by have := (h.s hi).2 c hc; omega⟩, fun hi => ⟨(h.h hi).1, fun c hc => by have := (h.h hi).2 c hc; omega⟩⟩
theorem zn3.box {lv : Value} {b : Nat} (h : zn3 w lv i ((S.q.q A.q.k).own)) (f : Fr (fun j => j = b) w w') {c : Array Value} (hb : w.heap[b]? = some (.cells c 46 (0, 0))) : zn3 w' lv i ((S.q.q A.q.k).own) := by
 obtain ⟨vs, h1, h2⟩ := h
 refine ⟨vs, SlV.fr h1 f (fun c hc e => ?_), fun j v hj => zay.fr (h2 j v hj) f (fun c hc e => ?_)⟩
 ·
  obtain ⟨cu, h3⟩ := SlV.type h1 hc
  have e' : c = b := e
  rw [e', hb] at h3
  injection h3 with h3
  injection h3 with _ h3 _
  exact absurd h3 (by decide)
 ·
  obtain ⟨cu, h3⟩ := SlV.type (h2 j v hj) hc
  have e' : c = b := e
  rw [e', hb] at h3
  injection h3 with h3
  injection h3 with _ h3 _
  exact absurd h3 (by decide)
theorem zwa : (Tryz.prog.info? 42).map (fun i => (i.zero, i.size, i.bytes)) = some (some (.slice none 0 0), 1, 24) := by kernel_rfl
theorem zl1 (h : zal W A S N) (hN : N ≤ 300000000) (hq : (S.q.q A.q.k).Ok) : Calls Tryz.prog 17 #[.pointer (some ⟨A.cb, 0, none⟩)] W fun e w' => ∃ tv sv lv hv, e = .returned (.agg (stC S.tick S.closed ((A.C : Int) - S.o) tv sv lv hv)) ∧ StO W A S N tv sv lv hv w' := by
 obtain ⟨W1, hW1⟩ := yye (W.alloc (.cells #[.int .u64 0, .int .u64 0, .bool false, .int .i64 0, .slice none 0 0, .slice none 0 0, .slice none 0 0, .slice none 0 0, .slice none 0 0] 46))
 have hb1 : Below W.heap.size W W1 := by rw [← hW1]; exact zab yyr _
 have x1 : W1.heap[W.heap.size]? = some (.cells stZ 46 (0, 0)) := by rw [← hW1]; exact heap_alloc_new W _
 have h1 := h.below hb1
 have hP : StP W1 A S N .nilFunc .nilFunc .nilFunc 0 W1.drew := ⟨⟨S, (zag.below h1 (zaf yyr)).up (by omega), rfl, ⟨rfl, rfl, rfl⟩, rfl⟩, fun h => by omega, fun h => by omega, fun h => by omega⟩
 have hNB : (zaq S.q.bs).length ≤ NB := by
  have h2 : (zaj (zaq S.q.bs)).length ≤ (S.q.q A.q.k).all.length := by
   unfold QM.all
   rw [List.length_append]
   exact Nat.le_add_left _ _
  rw [zam] at h2
  exact Nat.le_trans h2 hq.len
 have HP := yyh hP
 have H0 := yyh h
 have HS := yyh hP.sts
 have H := yyh (yyi h1 (yyi hNB (yyi hN (yyi hb1 (yyi x1 hq)))))
 clear h hb1 x1 h1 hP hNB hq
 go_enter Tryz.func17, Tryz.ntmps17
 go_upto_region 1 with fail
 clear hW1
 go_cut [3] (fun v3 w => StR W1 A S N v3 w)
 case first =>
  skip
  -- REGION 1 BEGIN
  refine wp_region_held_drew (S := StS A S) (by kernel_rfl) HS.out (fun hH => ?_)
  refine tq 0 ?_ rfl ?_ ?_
  rotate_left
  · (rintro w ⟨_, _, _, _, _, _⟩; go_simp; try with_reducible rfl)
  try simp only [Act.put, pA, pB, pC]
  refine tq 1 ?_ rfl ?_ ?_
  rotate_left
  · (rintro w ⟨_, _, _, _, _, _⟩; go_simp; try with_reducible rfl)
  try simp only [Act.put, pA, pB, pC]
  refine tq 2 ?_ rfl ?_ ?_
  rotate_left
  · (rintro w ⟨_, _, _, _, _, _⟩; go_simp; try with_reducible rfl)
  try simp only [Act.put, pA, pB, pC]
  refine tq 3 ?_ rfl ?_ ?_
  rotate_left
  · (rintro w ⟨_, _, _, _, _, _⟩; go_simp; try with_reducible rfl)
  try simp only [Act.put, pA, pB, pC]
  refine tq 5 ?_ rfl ?_ ?_
  rotate_left
  · (rintro w ⟨_, _, _, _, _, _⟩; go_simp; try with_reducible rfl)
  try simp only [Act.put, pA, pB, pC]
  refine tq 6 ?_ rfl ?_ ?_
  rotate_left
  · (rintro w ⟨_, _, _, _, _, _⟩; go_simp; try with_reducible rfl)
  try simp only [Act.put, pA, pB, pC]
  refine tq 7 ?_ rfl ?_ ?_
  rotate_left
  · (rintro w ⟨_, _, _, _, _, _⟩; go_simp; try with_reducible rfl)
  try simp only [Act.put, pA, pB, pC]
  refine tq 8 ?_ rfl ?_ ?_
  rotate_left
  · (rintro w ⟨_, _, _, _, _, _⟩; go_simp; try with_reducible rfl)
  try simp only [Act.put, pA, pB, pC]
  refine tq 9 ?_ rfl ?_ ?_
  rotate_left
  · (rintro w ⟨_, _, _, _, _, _⟩; go_simp; try with_reducible rfl)
  try simp only [Act.put, pA, pB, pC]
  refine tq 10 ?_ rfl ?_ ?_
  rotate_left
  · (rintro w ⟨_, _, _, _, _, _⟩; go_simp; try with_reducible rfl)
  try simp only [Act.put, pA, pB, pC]
  refine tq 11 ?_ rfl ?_ ?_
  rotate_left
  · (rintro w ⟨_, _, _, _, _, _⟩; go_simp; try with_reducible rfl)
  try simp only [Act.put, pA, pB, pC]
  refine tq 12 ?_ rfl ?_ ?_
  rotate_left
  · (rintro w ⟨_, _, _, _, _, _⟩; go_simp; try with_reducible rfl)
  try simp only [Act.put, pA, pB, pC]
  refine tq 13 ?_ rfl ?_ ?_
  rotate_left
  · (rintro w ⟨_, _, _, _, _, _⟩; go_simp; try with_reducible rfl)
  try simp only [Act.put, pA, pB, pC]
  refine tq 14 ?_ rfl ?_ ?_
  rotate_left
  · (rintro w ⟨_, _, _, _, _, _⟩; go_simp; try with_reducible rfl)
  try simp only [Act.put, pA, pB, pC]
  refine tq 15 ?_ rfl ?_ ?_
  rotate_left
  · (rintro w ⟨_, _, _, _, _, _⟩; go_simp; try with_reducible rfl)
  try simp only [Act.put, pA, pB, pC]
  refine tq 16 ?_ rfl ?_ ?_
  rotate_left
  · (rintro w ⟨_, _, _, _, _, _⟩; go_simp; try with_reducible rfl)
  try simp only [Act.put, pA, pB, pC]
  refine tq 18 ?_ rfl ?_ ?_
  rotate_left
  · (rintro w ⟨_, _, _, _, _, _⟩; go_simp; try with_reducible rfl)
  try simp only [Act.put, pA, pB, pC]
  refine tq 19 ?_ rfl ?_ ?_
  rotate_left
  · (rintro w ⟨_, _, _, _, _, _⟩; go_simp; try with_reducible rfl)
  try simp only [Act.put, pA, pB, pC]
  refine tq 20 ?_ rfl ?_ ?_
  rotate_left
  · (rintro w ⟨_, _, _, _, _, _⟩; go_simp; try with_reducible rfl)
  try simp only [Act.put, pA, pB, pC]
  refine tq 21 ?_ rfl ?_ ?_
  rotate_left
  · (rintro w ⟨_, _, _, _, _, _⟩; go_simp; try with_reducible rfl)
  try simp only [Act.put, pA, pB, pC]
  refine tq 23 ?_ rfl ?_ ?_
  rotate_left
  · (rintro w ⟨_, _, _, _, _, _⟩; go_simp; try with_reducible rfl)
  try simp only [Act.put, pA, pB, pC]
  refine tq 24 ?_ rfl ?_ ?_
  rotate_left
  · (rintro w ⟨_, _, _, _, _, _⟩; go_simp; try with_reducible rfl)
  try simp only [Act.put, pA, pB, pC]
  refine tq 25 ?_ rfl ?_ ?_
  rotate_left
  · (rintro w ⟨_, _, _, _, _, _⟩; go_simp; try with_reducible rfl)
  try simp only [Act.put, pA, pB, pC]
  refine tq 26 ?_ rfl ?_ ?_
  rotate_left
  · (rintro w ⟨_, _, _, _, _, _⟩; go_simp; try with_reducible rfl)
  try simp only [Act.put, pA, pB, pC]
  refine tq 28 ?_ rfl ?_ ?_
  rotate_left
  · (rintro w ⟨_, _, _, _, _, _⟩; go_simp; try with_reducible rfl)
  try simp only [Act.put, pA, pB, pC]
  refine tq 29 ?_ rfl ?_ ?_
  rotate_left
  · (rintro w ⟨_, _, _, _, _, _⟩; go_simp; try with_reducible rfl)
  try simp only [Act.put, pA, pB, pC]
  refine tq 30 ?_ rfl ?_ ?_
  rotate_left
  · (rintro w ⟨_, _, _, _, _, _⟩; go_simp; try with_reducible rfl)
  try simp only [Act.put, pA, pB, pC]
  refine tq 31 ?_ rfl ?_ ?_
  rotate_left
  · (rintro w ⟨_, _, _, _, _, _⟩; go_simp; try with_reducible rfl)
  try simp only [Act.put, pA, pB, pC]
  refine tq 33 ?_ rfl ?_ ?_
  rotate_left
  · (rintro w ⟨_, _, _, _, _, _⟩; go_simp; try with_reducible rfl)
  try simp only [Act.put, pA, pB, pC]
  refine tq 34 ?_ rfl ?_ ?_
  rotate_left
  · (rintro w ⟨_, _, _, _, _, _⟩; go_simp; try with_reducible rfl)
  try simp only [Act.put, pA, pB, pC]
  refine tq 35 ?_ rfl ?_ ?_
  rotate_left
  · (rintro w ⟨_, _, _, _, _, _⟩; go_simp; try with_reducible rfl)
  try simp only [Act.put, pA, pB, pC]
  refine tq 36 ?_ rfl ?_ ?_
  rotate_left
  · (rintro w ⟨_, _, _, _, _, _⟩; go_simp; try with_reducible rfl)
  try simp only [Act.put, pA, pB, pC]
  refine wpAnyH_ready (rs := [4, 39]) (by kernel_rfl) (by simp) ?_
  refine AllReadyH.cons rfl (fun K hK => ?_) ?_
  ·
   (go_simp; go_at_call 41; refine (ztn HP.out).mono ?_; rintro e w9 ⟨rfl, hp, hk⟩; (first | have HY := yyh (HY.out.kept hk) | skip); have HP := yyh hp; clear hp hk)
   refine hK.out _ _ ?_ (fun hH => ?_)
   · (try dsimp only); (exact HP.out.sts)
   clear hK K
   refine wpAnyH_ready (rs := [17, 39]) (by kernel_rfl) (by simp) ?_
   refine AllReadyH.cons rfl (fun K hK => ?_) ?_
   ·
    (go_simp; go_at_call 47; refine (zlx H.out.1 H.out.2.2.1 HP.out).mono ?_; rintro e w9 ⟨rfl, hp, hk⟩; (first | have HY := yyh (HY.out.kept hk) | skip); have HP := yyh hp; clear hp hk)
    refine hK.out _ _ ?_ (fun hH => ?_)
    · (try dsimp only); (exact HP.out.sts)
    clear hK K
    refine wpAnyH_ready (rs := [22, 39]) (by kernel_rfl) (by simp) ?_
    refine AllReadyH.cons rfl (fun K hK => ?_) ?_
    ·
     (go_simp; go_at_call 48; refine (zmz H.out.1 H.out.2.2.1 HP.out).mono ?_; rintro e w9 ⟨tv, rfl, ⟨a5, rfl⟩, hnw, hp, hk⟩; (first | have HTY := yyh (HY.out.tvNew hnw) | skip); (first | have HY := yyh (HY.out.kept hk) | skip); have HP := yyh hp; clear hp hk)
     refine hK.out _ _ ?_ (fun hH => ?_)
     · (try dsimp only); (exact HP.out.sts)
     clear hK K
     refine wpAnyH_ready (rs := [27, 39]) (by kernel_rfl) (by simp) ?_
     refine AllReadyH.cons rfl (fun K hK => ?_) ?_
     ·
      (go_simp; go_at_call 49; refine (zfk HP.out).mono ?_; rintro e w9 ⟨sv, rfl, ⟨a6, n6, c6, rfl⟩, hp, hk⟩; (first | have HY := yyh (HY.out.kept hk) | skip); have HP := yyh hp; clear hp hk)
      refine hK.out _ _ ?_ (fun hH => ?_)
      · (try dsimp only); (exact HP.out.sts)
      clear hK K
      refine wpAnyH_ready (rs := [32, 39]) (by kernel_rfl) (by simp) ?_
      refine AllReadyH.cons rfl (fun K hK => ?_) ?_
      ·
       (go_simp; go_at_call 50; refine (zdn H.out.2.1 HP.out).mono ?_; rintro e w9 ⟨hv, rfl, ⟨a7, n7, c7, rfl⟩, hp, hk⟩; (first | have HY := yyh (HY.out.kept hk) | skip); have HP := yyh hp; clear hp hk)
       refine hK.out _ _ ?_ (fun hH => ?_)
       · (try dsimp only); (exact HP.out.sts)
       clear hK K
       refine wpAnyH_ready (rs := [37, 39]) (by kernel_rfl) (by simp) ?_
       refine AllReadyH.cons rfl (fun K hK => ?_) ?_
       ·
        (go_simp; go_at_call 51; refine (zd1 HP.out).mono ?_; rintro e w9 ⟨rfl, hp, hk⟩; (first | have HY := yyh (HY.out.kept hk) | skip); have HP := yyh hp; clear hp hk)
        refine hK.out _ _ ?_ (fun hH => ?_)
        · (try dsimp only); (exact HP.out.sts)
        clear hK K
        refine tq 38 ?_ rfl ?_ ?_
        rotate_left
        · (rintro w ⟨_, _, _, _, _, _⟩; go_simp; try with_reducible rfl)
        try simp only [Act.put, pA, pB, pC]
        refine rd 39 (by kernel_rfl) rfl (fun K hK => ?_)
        ·
         (go_simp; first | (have hi := StP.six HP.out; clear hi) | ((first | have HY := yyh (show StZ W1 W1.heap.size (W1.drew.alloc (.cells stZ 46)) from HP.out.alZ) | have HY := yyh HP.out.alZ); (first | have HTY := yyh (HP.out.tvNe (by omega)) | skip); have HP := yyh (HP.out.al (.cells stZ 46))))
         refine hK.out _ _ ?_ (fun hH => ?_)
         · (try dsimp only); (first | (have hi := StP.six HP.out; exact (HP.out.al _).sts) | exact HP.out.sts)
         clear hK K
         refine rd 40 (by kernel_rfl) rfl (fun K hK => ?_)
         ·
          ((first | (obtain ⟨y0, y1, y2, y3, y4, y5, y6, y7, y8, z0⟩ := HY.out.cells) | skip); go_simp)
          refine hK.out _ _ ?_ (fun hH => ?_)
          · (try dsimp only); (first | (have hy := HY.out; exact (StR.first H.out.1 HP.out hy HTY.out).sts) | exact (StR.last HP.out).sts)
          clear hK K
          refine wpAnyH_done (by kernel_rfl) ?_ _
          go_wp2_with fail
          go_meet
          first | (have hy := HY.out; exact StR.first H.out.1 HP.out hy HTY.out) | exact StR.last HP.out
       refine AllReadyH.cons rfl (fun K hK => ?_) ?_
       ·
        (go_simp; first | (have hi := StP.six HP.out; clear hi) | ((first | have HY := yyh (show StZ W1 W1.heap.size (W1.drew.alloc (.cells stZ 46)) from HP.out.alZ) | have HY := yyh HP.out.alZ); (first | have HTY := yyh (HP.out.tvNe (by omega)) | skip); have HP := yyh (HP.out.al (.cells stZ 46))))
        refine hK.out _ _ ?_ (fun hH => ?_)
        · (try dsimp only); (first | (have hi := StP.six HP.out; exact (HP.out.al _).sts) | exact HP.out.sts)
        clear hK K
        refine rd 37 (by kernel_rfl) rfl (fun K hK => ?_)
        ·
         (go_simp; go_at_call 51; refine (zd1 HP.out).mono ?_; rintro e w9 ⟨rfl, hp, hk⟩; (first | have HY := yyh (HY.out.kept hk) | skip); have HP := yyh hp; clear hp hk)
         refine hK.out _ _ ?_ (fun hH => ?_)
         · (try dsimp only); (exact HP.out.sts)
         clear hK K
         refine tq 38 ?_ rfl ?_ ?_
         rotate_left
         · (rintro w ⟨_, _, _, _, _, _⟩; go_simp; try with_reducible rfl)
         try simp only [Act.put, pA, pB, pC]
         refine rd 40 (by kernel_rfl) rfl (fun K hK => ?_)
         ·
          ((first | (obtain ⟨y0, y1, y2, y3, y4, y5, y6, y7, y8, z0⟩ := HY.out.cells) | skip); go_simp)
          refine hK.out _ _ ?_ (fun hH => ?_)
          · (try dsimp only); (first | (have hy := HY.out; exact (StR.first H.out.1 HP.out hy HTY.out).sts) | exact (StR.last HP.out).sts)
          clear hK K
          refine wpAnyH_done (by kernel_rfl) ?_ _
          go_wp2_with fail
          go_meet
          first | (have hy := HY.out; exact StR.first H.out.1 HP.out hy HTY.out) | exact StR.last HP.out
       exact AllReadyH.nil
      refine AllReadyH.cons rfl (fun K hK => ?_) ?_
      ·
       (go_simp; first | (have hi := StP.six HP.out; clear hi) | ((first | have HY := yyh (show StZ W1 W1.heap.size (W1.drew.alloc (.cells stZ 46)) from HP.out.alZ) | have HY := yyh HP.out.alZ); (first | have HTY := yyh (HP.out.tvNe (by omega)) | skip); have HP := yyh (HP.out.al (.cells stZ 46))))
       refine hK.out _ _ ?_ (fun hH => ?_)
       · (try dsimp only); (first | (have hi := StP.six HP.out; exact (HP.out.al _).sts) | exact HP.out.sts)
       clear hK K
       refine rd 32 (by kernel_rfl) rfl (fun K hK => ?_)
       ·
        (go_simp; go_at_call 50; refine (zdn H.out.2.1 HP.out).mono ?_; rintro e w9 ⟨hv, rfl, ⟨a7, n7, c7, rfl⟩, hp, hk⟩; (first | have HY := yyh (HY.out.kept hk) | skip); have HP := yyh hp; clear hp hk)
        refine hK.out _ _ ?_ (fun hH => ?_)
        · (try dsimp only); (exact HP.out.sts)
        clear hK K
        refine rd 37 (by kernel_rfl) rfl (fun K hK => ?_)
        ·
         (go_simp; go_at_call 51; refine (zd1 HP.out).mono ?_; rintro e w9 ⟨rfl, hp, hk⟩; (first | have HY := yyh (HY.out.kept hk) | skip); have HP := yyh hp; clear hp hk)
         refine hK.out _ _ ?_ (fun hH => ?_)
         · (try dsimp only); (exact HP.out.sts)
         clear hK K
         refine tq 38 ?_ rfl ?_ ?_
         rotate_left
         · (rintro w ⟨_, _, _, _, _, _⟩; go_simp; try with_reducible rfl)
         try simp only [Act.put, pA, pB, pC]
         refine rd 40 (by kernel_rfl) rfl (fun K hK => ?_)
         ·
          ((first | (obtain ⟨y0, y1, y2, y3, y4, y5, y6, y7, y8, z0⟩ := HY.out.cells) | skip); go_simp)
          refine hK.out _ _ ?_ (fun hH => ?_)
          · (try dsimp only); (first | (have hy := HY.out; exact (StR.first H.out.1 HP.out hy HTY.out).sts) | exact (StR.last HP.out).sts)
          clear hK K
          refine wpAnyH_done (by kernel_rfl) ?_ _
          go_wp2_with fail
          go_meet
          first | (have hy := HY.out; exact StR.first H.out.1 HP.out hy HTY.out) | exact StR.last HP.out
      exact AllReadyH.nil
     refine AllReadyH.cons rfl (fun K hK => ?_) ?_
     ·
      (go_simp; first | (have hi := StP.six HP.out; clear hi) | ((first | have HY := yyh (show StZ W1 W1.heap.size (W1.drew.alloc (.cells stZ 46)) from HP.out.alZ) | have HY := yyh HP.out.alZ); (first | have HTY := yyh (HP.out.tvNe (by omega)) | skip); have HP := yyh (HP.out.al (.cells stZ 46))))
      refine hK.out _ _ ?_ (fun hH => ?_)
      · (try dsimp only); (first | (have hi := StP.six HP.out; exact (HP.out.al _).sts) | exact HP.out.sts)
      clear hK K
      refine rd 27 (by kernel_rfl) rfl (fun K hK => ?_)
      ·
       (go_simp; go_at_call 49; refine (zfk HP.out).mono ?_; rintro e w9 ⟨sv, rfl, ⟨a6, n6, c6, rfl⟩, hp, hk⟩; (first | have HY := yyh (HY.out.kept hk) | skip); have HP := yyh hp; clear hp hk)
       refine hK.out _ _ ?_ (fun hH => ?_)
       · (try dsimp only); (exact HP.out.sts)
       clear hK K
       refine rd 32 (by kernel_rfl) rfl (fun K hK => ?_)
       ·
        (go_simp; go_at_call 50; refine (zdn H.out.2.1 HP.out).mono ?_; rintro e w9 ⟨hv, rfl, ⟨a7, n7, c7, rfl⟩, hp, hk⟩; (first | have HY := yyh (HY.out.kept hk) | skip); have HP := yyh hp; clear hp hk)
        refine hK.out _ _ ?_ (fun hH => ?_)
        · (try dsimp only); (exact HP.out.sts)
        clear hK K
        refine rd 37 (by kernel_rfl) rfl (fun K hK => ?_)
        ·
         (go_simp; go_at_call 51; refine (zd1 HP.out).mono ?_; rintro e w9 ⟨rfl, hp, hk⟩; (first | have HY := yyh (HY.out.kept hk) | skip); have HP := yyh hp; clear hp hk)
         refine hK.out _ _ ?_ (fun hH => ?_)
         · (try dsimp only); (exact HP.out.sts)
         clear hK K
         refine tq 38 ?_ rfl ?_ ?_
         rotate_left
         · (rintro w ⟨_, _, _, _, _, _⟩; go_simp; try with_reducible rfl)
         try simp only [Act.put, pA, pB, pC]
         refine rd 40 (by kernel_rfl) rfl (fun K hK => ?_)
         ·
          ((first | (obtain ⟨y0, y1, y2, y3, y4, y5, y6, y7, y8, z0⟩ := HY.out.cells) | skip); go_simp)
          refine hK.out _ _ ?_ (fun hH => ?_)
          · (try dsimp only); (first | (have hy := HY.out; exact (StR.first H.out.1 HP.out hy HTY.out).sts) | exact (StR.last HP.out).sts)
          clear hK K
          refine wpAnyH_done (by kernel_rfl) ?_ _
          go_wp2_with fail
          go_meet
          first | (have hy := HY.out; exact StR.first H.out.1 HP.out hy HTY.out) | exact StR.last HP.out
     exact AllReadyH.nil
    refine AllReadyH.cons rfl (fun K hK => ?_) ?_
    ·
     (go_simp; first | (have hi := StP.six HP.out; clear hi) | ((first | have HY := yyh (show StZ W1 W1.heap.size (W1.drew.alloc (.cells stZ 46)) from HP.out.alZ) | have HY := yyh HP.out.alZ); (first | have HTY := yyh (HP.out.tvNe (by omega)) | skip); have HP := yyh (HP.out.al (.cells stZ 46))))
     refine hK.out _ _ ?_ (fun hH => ?_)
     · (try dsimp only); (first | (have hi := StP.six HP.out; exact (HP.out.al _).sts) | exact HP.out.sts)
     clear hK K
     refine rd 22 (by kernel_rfl) rfl (fun K hK => ?_)
     ·
      (go_simp; go_at_call 48; refine (zmz H.out.1 H.out.2.2.1 HP.out).mono ?_; rintro e w9 ⟨tv, rfl, ⟨a5, rfl⟩, hnw, hp, hk⟩; (first | have HTY := yyh (HY.out.tvNew hnw) | skip); (first | have HY := yyh (HY.out.kept hk) | skip); have HP := yyh hp; clear hp hk)
      refine hK.out _ _ ?_ (fun hH => ?_)
      · (try dsimp only); (exact HP.out.sts)
      clear hK K
      refine rd 27 (by kernel_rfl) rfl (fun K hK => ?_)
      ·
       (go_simp; go_at_call 49; refine (zfk HP.out).mono ?_; rintro e w9 ⟨sv, rfl, ⟨a6, n6, c6, rfl⟩, hp, hk⟩; (first | have HY := yyh (HY.out.kept hk) | skip); have HP := yyh hp; clear hp hk)
       refine hK.out _ _ ?_ (fun hH => ?_)
       · (try dsimp only); (exact HP.out.sts)
       clear hK K
       refine rd 32 (by kernel_rfl) rfl (fun K hK => ?_)
       ·
        (go_simp; go_at_call 50; refine (zdn H.out.2.1 HP.out).mono ?_; rintro e w9 ⟨hv, rfl, ⟨a7, n7, c7, rfl⟩, hp, hk⟩; (first | have HY := yyh (HY.out.kept hk) | skip); have HP := yyh hp; clear hp hk)
        refine hK.out _ _ ?_ (fun hH => ?_)
        · (try dsimp only); (exact HP.out.sts)
        clear hK K
        refine rd 37 (by kernel_rfl) rfl (fun K hK => ?_)
        ·
         (go_simp; go_at_call 51; refine (zd1 HP.out).mono ?_; rintro e w9 ⟨rfl, hp, hk⟩; (first | have HY := yyh (HY.out.kept hk) | skip); have HP := yyh hp; clear hp hk)
         refine hK.out _ _ ?_ (fun hH => ?_)
         · (try dsimp only); (exact HP.out.sts)
         clear hK K
         refine tq 38 ?_ rfl ?_ ?_
         rotate_left
         · (rintro w ⟨_, _, _, _, _, _⟩; go_simp; try with_reducible rfl)
         try simp only [Act.put, pA, pB, pC]
         refine rd 40 (by kernel_rfl) rfl (fun K hK => ?_)
         ·
          ((first | (obtain ⟨y0, y1, y2, y3, y4, y5, y6, y7, y8, z0⟩ := HY.out.cells) | skip); go_simp)
          refine hK.out _ _ ?_ (fun hH => ?_)
          · (try dsimp only); (first | (have hy := HY.out; exact (StR.first H.out.1 HP.out hy HTY.out).sts) | exact (StR.last HP.out).sts)
          clear hK K
          refine wpAnyH_done (by kernel_rfl) ?_ _
          go_wp2_with fail
          go_meet
          first | (have hy := HY.out; exact StR.first H.out.1 HP.out hy HTY.out) | exact StR.last HP.out
    exact AllReadyH.nil
   refine AllReadyH.cons rfl (fun K hK => ?_) ?_
   ·
    (go_simp; first | (have hi := StP.six HP.out; clear hi) | ((first | have HY := yyh (show StZ W1 W1.heap.size (W1.drew.alloc (.cells stZ 46)) from HP.out.alZ) | have HY := yyh HP.out.alZ); (first | have HTY := yyh (HP.out.tvNe (by omega)) | skip); have HP := yyh (HP.out.al (.cells stZ 46))))
    refine hK.out _ _ ?_ (fun hH => ?_)
    · (try dsimp only); (first | (have hi := StP.six HP.out; exact (HP.out.al _).sts) | exact HP.out.sts)
    clear hK K
    refine rd 17 (by kernel_rfl) rfl (fun K hK => ?_)
    ·
     (go_simp; go_at_call 47; refine (zlx H.out.1 H.out.2.2.1 HP.out).mono ?_; rintro e w9 ⟨rfl, hp, hk⟩; (first | have HY := yyh (HY.out.kept hk) | skip); have HP := yyh hp; clear hp hk)
     refine hK.out _ _ ?_ (fun hH => ?_)
     · (try dsimp only); (exact HP.out.sts)
     clear hK K
     refine rd 22 (by kernel_rfl) rfl (fun K hK => ?_)
     ·
      (go_simp; go_at_call 48; refine (zmz H.out.1 H.out.2.2.1 HP.out).mono ?_; rintro e w9 ⟨tv, rfl, ⟨a5, rfl⟩, hnw, hp, hk⟩; (first | have HTY := yyh (HY.out.tvNew hnw) | skip); (first | have HY := yyh (HY.out.kept hk) | skip); have HP := yyh hp; clear hp hk)
      refine hK.out _ _ ?_ (fun hH => ?_)
      · (try dsimp only); (exact HP.out.sts)
      clear hK K
      refine rd 27 (by kernel_rfl) rfl (fun K hK => ?_)
      ·
       (go_simp; go_at_call 49; refine (zfk HP.out).mono ?_; rintro e w9 ⟨sv, rfl, ⟨a6, n6, c6, rfl⟩, hp, hk⟩; (first | have HY := yyh (HY.out.kept hk) | skip); have HP := yyh hp; clear hp hk)
       refine hK.out _ _ ?_ (fun hH => ?_)
       · (try dsimp only); (exact HP.out.sts)
       clear hK K
       refine rd 32 (by kernel_rfl) rfl (fun K hK => ?_)
       ·
        (go_simp; go_at_call 50; refine (zdn H.out.2.1 HP.out).mono ?_; rintro e w9 ⟨hv, rfl, ⟨a7, n7, c7, rfl⟩, hp, hk⟩; (first | have HY := yyh (HY.out.kept hk) | skip); have HP := yyh hp; clear hp hk)
        refine hK.out _ _ ?_ (fun hH => ?_)
        · (try dsimp only); (exact HP.out.sts)
        clear hK K
        refine rd 37 (by kernel_rfl) rfl (fun K hK => ?_)
        ·
         (go_simp; go_at_call 51; refine (zd1 HP.out).mono ?_; rintro e w9 ⟨rfl, hp, hk⟩; (first | have HY := yyh (HY.out.kept hk) | skip); have HP := yyh hp; clear hp hk)
         refine hK.out _ _ ?_ (fun hH => ?_)
         · (try dsimp only); (exact HP.out.sts)
         clear hK K
         refine tq 38 ?_ rfl ?_ ?_
         rotate_left
         · (rintro w ⟨_, _, _, _, _, _⟩; go_simp; try with_reducible rfl)
         try simp only [Act.put, pA, pB, pC]
         refine rd 40 (by kernel_rfl) rfl (fun K hK => ?_)
         ·
          ((first | (obtain ⟨y0, y1, y2, y3, y4, y5, y6, y7, y8, z0⟩ := HY.out.cells) | skip); go_simp)
          refine hK.out _ _ ?_ (fun hH => ?_)
          · (try dsimp only); (first | (have hy := HY.out; exact (StR.first H.out.1 HP.out hy HTY.out).sts) | exact (StR.last HP.out).sts)
          clear hK K
          refine wpAnyH_done (by kernel_rfl) ?_ _
          go_wp2_with fail
          go_meet
          first | (have hy := HY.out; exact StR.first H.out.1 HP.out hy HTY.out) | exact StR.last HP.out
   exact AllReadyH.nil
  refine AllReadyH.cons rfl (fun K hK => ?_) ?_
  ·
   (go_simp; first | (have hi := StP.six HP.out; clear hi) | ((first | have HY := yyh (show StZ W1 W1.heap.size (W1.drew.alloc (.cells stZ 46)) from HP.out.alZ) | have HY := yyh HP.out.alZ); (first | have HTY := yyh (HP.out.tvNe (by omega)) | skip); have HP := yyh (HP.out.al (.cells stZ 46))))
   refine hK.out _ _ ?_ (fun hH => ?_)
   · (try dsimp only); (first | (have hi := StP.six HP.out; exact (HP.out.al _).sts) | exact HP.out.sts)
   clear hK K
   refine rd 4 (by kernel_rfl) rfl (fun K hK => ?_)
   ·
    (go_simp; go_at_call 41; refine (ztn HP.out).mono ?_; rintro e w9 ⟨rfl, hp, hk⟩; (first | have HY := yyh (HY.out.kept hk) | skip); have HP := yyh hp; clear hp hk)
    refine hK.out _ _ ?_ (fun hH => ?_)
    · (try dsimp only); (exact HP.out.sts)
    clear hK K
    refine rd 17 (by kernel_rfl) rfl (fun K hK => ?_)
    ·
     (go_simp; go_at_call 47; refine (zlx H.out.1 H.out.2.2.1 HP.out).mono ?_; rintro e w9 ⟨rfl, hp, hk⟩; (first | have HY := yyh (HY.out.kept hk) | skip); have HP := yyh hp; clear hp hk)
     refine hK.out _ _ ?_ (fun hH => ?_)
     · (try dsimp only); (exact HP.out.sts)
     clear hK K
     refine rd 22 (by kernel_rfl) rfl (fun K hK => ?_)
     ·
      (go_simp; go_at_call 48; refine (zmz H.out.1 H.out.2.2.1 HP.out).mono ?_; rintro e w9 ⟨tv, rfl, ⟨a5, rfl⟩, hnw, hp, hk⟩; (first | have HTY := yyh (HY.out.tvNew hnw) | skip); (first | have HY := yyh (HY.out.kept hk) | skip); have HP := yyh hp; clear hp hk)
      refine hK.out _ _ ?_ (fun hH => ?_)
      · (try dsimp only); (exact HP.out.sts)
      clear hK K
      refine rd 27 (by kernel_rfl) rfl (fun K hK => ?_)
      ·
       (go_simp; go_at_call 49; refine (zfk HP.out).mono ?_; rintro e w9 ⟨sv, rfl, ⟨a6, n6, c6, rfl⟩, hp, hk⟩; (first | have HY := yyh (HY.out.kept hk) | skip); have HP := yyh hp; clear hp hk)
       refine hK.out _ _ ?_ (fun hH => ?_)
       · (try dsimp only); (exact HP.out.sts)
       clear hK K
       refine rd 32 (by kernel_rfl) rfl (fun K hK => ?_)
       ·
        (go_simp; go_at_call 50; refine (zdn H.out.2.1 HP.out).mono ?_; rintro e w9 ⟨hv, rfl, ⟨a7, n7, c7, rfl⟩, hp, hk⟩; (first | have HY := yyh (HY.out.kept hk) | skip); have HP := yyh hp; clear hp hk)
        refine hK.out _ _ ?_ (fun hH => ?_)
        · (try dsimp only); (exact HP.out.sts)
        clear hK K
        refine rd 37 (by kernel_rfl) rfl (fun K hK => ?_)
        ·
         (go_simp; go_at_call 51; refine (zd1 HP.out).mono ?_; rintro e w9 ⟨rfl, hp, hk⟩; (first | have HY := yyh (HY.out.kept hk) | skip); have HP := yyh hp; clear hp hk)
         refine hK.out _ _ ?_ (fun hH => ?_)
         · (try dsimp only); (exact HP.out.sts)
         clear hK K
         refine tq 38 ?_ rfl ?_ ?_
         rotate_left
         · (rintro w ⟨_, _, _, _, _, _⟩; go_simp; try with_reducible rfl)
         try simp only [Act.put, pA, pB, pC]
         refine rd 40 (by kernel_rfl) rfl (fun K hK => ?_)
         ·
          ((first | (obtain ⟨y0, y1, y2, y3, y4, y5, y6, y7, y8, z0⟩ := HY.out.cells) | skip); go_simp)
          refine hK.out _ _ ?_ (fun hH => ?_)
          · (try dsimp only); (first | (have hy := HY.out; exact (StR.first H.out.1 HP.out hy HTY.out).sts) | exact (StR.last HP.out).sts)
          clear hK K
          refine wpAnyH_done (by kernel_rfl) ?_ _
          go_wp2_with fail
          go_meet
          first | (have hy := HY.out; exact StR.first H.out.1 HP.out hy HTY.out) | exact StR.last HP.out
  exact AllReadyH.nil
  -- REGION 1 END
 case rest =>
  obtain ⟨yb, tv, sv, hv, rfl, hy, hp, hge, ⟨a5, rfl⟩, ⟨a6, n6, c6, rfl⟩, ⟨a7, n7, c7, rfl⟩, hty⟩ := hcut
  obtain ⟨T, hT⟩ := yye (A.q.lp.length)
  obtain ⟨Bc, hBc⟩ := yye (wc.heap.size)
  obtain ⟨tv, htv⟩ := yye (Value.slice a5 S.t.rows.length S.t.rows.length)
  obtain ⟨sv, hsv⟩ := yye (Value.slice a6 n6 c6)
  obtain ⟨hv, hhv⟩ := yye (Value.slice a7 n7 c7)
  rw [htv, hsv, hhv] at hy hp
  rw [htv] at hty
  have htb : ∀ c, tv.ownBlock = some c → c < Bc := fun c hc => by
   obtain ⟨lo, -, h2⟩ := hp.t (by omega)
   rcases h2 with ⟨-, rfl⟩ | ⟨d, rfl, -, h3, -⟩
   · cases hc
   · injection hc with hc
     have hc : d = c := hc
     omega
  have c0 : wc.cell? ⟨A.cb, 0, none⟩ = some (.int .i64 T) := by
   obtain ⟨S', k, -⟩ := hp.core
   rw [k.at_.cells.1, hT]
  have hL0 : StL W1 A S N yb Bc tv sv hv 0 wc := ⟨_, [], hy, hp, World.ownsRow_nil _ _ _ _, fun j v hj => by (cases hj), by omega⟩
  have HL0 := yyh hL0
  have HT := yyh (yyi hT (yyi htv (yyi hsv hhv)))
  have hT8 : T ≤ 8 := by rw [← hT]; exact H.out.1.q.num.2.1
  have hgB : W1.heap.size ≤ Bc := by have := hp.size; omega
  have HGE := yyh (yyi hgB (yyi hge (yyi htb hty)))
  obtain ⟨i0, hi0, hz0, hz1, hz2⟩ := info_parts zwa
  clear hL0 hy hp hT hge hty htb hgB htv hsv hhv hBc
  go_wp2_with fail
  go_loopg [4, 49] T (fun gg _ s49 wr => ∃ i : Nat, i ≤ T ∧ gg = T - i ∧ s49 = .int .i64 i ∧ Aside (StL W1 A S N yb Bc tv sv hv i wr))
  case atStart => exact ⟨0, Nat.zero_le _, by omega, rfl, HL0.out⟩
  case round =>
   clear c0
   obtain ⟨i, hi, rfl, rfl, D⟩ := hrel
   obtain ⟨lv, vs, hy, hp, hrow, hvs, hBc⟩ := D.out
   clear D
   obtain ⟨al, capl, rfl, -⟩ := SlV.clip (SlV.of_owns hrow)
   have hvl : vs.length = i := by have := hrow.1; omega
   by_cases hlt : i < T
   ·
    have hltz : (i : Int) < (T : Int) := by omega
    obtain ⟨Wd, hWd⟩ := yye (wr.drew)
    have hbd : Below wr.heap.size wr Wd := by rw [← hWd]; exact zaf yyr
    have hpd := hp.below hbd
    have hyd := (hbd.block _ (zac hy)).trans hy
    have hrowd := zb3 hrow hbd
    have hvsd : ∀ (j : Nat) (v : Value), vs[j]? = some v → zay Wd v ((S.q.q A.q.k).own.getD j []) := fun j v hj => zay.below (hvs j v hj) hbd
    have c6d : Wd.cell? ⟨yb, 6, none⟩ = some (.slice al i capl) := by rw [zaa hyd]; rfl
    have q3 : Wd.cell? ⟨A.cb, 3, none⟩ = some (.pointer (some ⟨A.q.qp, 0, none⟩)) := hpd.sts.1
    have HLc := yyh (by
     obtain ⟨S', k, hm, hr, hq⟩ := hpd.core
     have hln : (S'.q.q A.q.k).all.length ≤ 1000 := by
      have := H.out.2.2.2.2.2.len
      rw [hq]
      unfold NB at this
      omega
     have := zve k.at_.q hln i (by rw [HT.out.1]; exact hlt)
     rw [hq] at this
     exact this)
    have HD := yyh (yyi hpd (yyi hyd (yyi hrowd (yyi hvsd (yyi hvl (Nat.le_trans hBc hbd.size))))))
    clear hy hp hrow hvs hBc hbd hpd hyd hrowd hvsd hvl
    go_upto_region 5 with fail
    -- REGION 5 BEGIN
    refine wp_region_held_drew (S := fun _ => True) (by kernel_rfl) trivial (fun hH => ?_)
    refine tq 0 ?_ rfl ?_ ?_
    rotate_left
    · (intro w hSw; go_simp; try with_reducible rfl)
    try simp only [Act.put, pA, pB, pC]
    refine tq 2 ?_ rfl ?_ ?_
    rotate_left
    · (intro w hSw; go_simp; try with_reducible rfl)
    try simp only [Act.put, pA, pB, pC]
    refine tq 3 ?_ rfl ?_ ?_
    rotate_left
    · (intro w hSw; go_simp; try with_reducible rfl)
    try simp only [Act.put, pA, pB, pC]
    refine tq 4 ?_ rfl ?_ ?_
    rotate_left
    · (intro w hSw; go_simp; try with_reducible rfl)
    try simp only [Act.put, pA, pB, pC]
    refine tq 6 ?_ rfl ?_ ?_
    rotate_left
    · (intro w hSw; go_simp; try with_reducible rfl)
    try simp only [Act.put, pA, pB, pC]
    refine wpAnyH_ready (rs := [1, 5]) (by kernel_rfl) (by simp) ?_
    refine AllReadyH.cons rfl (fun K hK => ?_) ?_
    ·
     (go_simp)
     refine hK.out _ _ ?_ (fun hH => ?_)
     · (try dsimp only); (all_goals trivial)
     clear hK K
     refine rd 5 (by kernel_rfl) rfl (fun K hK => ?_)
     ·
      (go_simp)
      refine hK.out _ _ ?_ (fun hH => ?_)
      · (try dsimp only); (all_goals trivial)
      clear hK K
      refine rd 7 (by kernel_rfl) rfl (fun K hK => ?_)
      ·
       (go_simp; go_at_call 52; refine HLc.out.mono ?_; rintro e w7 ⟨v7, rfl, hE7, hn7, hb7⟩; obtain ⟨a8, n8, k8, rfl⟩ : ∃ a n c, v7 = .slice a n c := (by obtain ⟨a, c, h, -⟩ := SlV.clip hE7; exact ⟨a, _, c, h⟩); have hy7 := (hb7.block _ (zac HD.out.2.1)).trans HD.out.2.1; have l7 : w7.cell? ⟨yb, 6, none⟩ = some (.slice al i capl) := (by rw [zaa hy7]; rfl); have l8 : (w7.alloc (.cells #[.slice a8 n8 k8] 42)).cell? ⟨yb, 6, none⟩ = some (.slice al i capl) := zae (zab yyr _) l7; have HROW := yyh (zb3 HD.out.2.2.1 (zab hb7 (.cells #[.slice a8 n8 k8] 42))); have HNW := yyh (cell_one_new w7 (.slice a8 n8 k8) 42); have HZ := yyh (yyi hE7 hb7); clear hE7 hn7 hb7 hy7)
       refine hK.out _ _ ?_ (fun hH => ?_)
       · (try dsimp only); (all_goals trivial)
       clear hK K
       refine rd 8 (by kernel_rfl) rfl (fun K hK => ?_)
       ·
        (go_simp)
        refine hK.out _ _ ?_ (fun hH => ?_)
        · (try dsimp only); (all_goals trivial)
        clear hK K
        refine rd 9 (by kernel_rfl) rfl (fun K hK => ?_)
        ·
         (refine step_append_lies _ rfl (.tmp 53) (.tmp 60) 43 rfl Bc 42 i0 (.slice none 0 0) 1 24 Tryz.underlying43 hi0 hz0 hz1 hz2 rfl (by decide) _ i vs (by simp [Act.eval, Act.put]) HROW.out ⟨w7.heap.size, 0, none⟩ 1 1 [.slice a8 n8 k8] (by simp [Act.eval, Act.put]) rfl HNW.out (fun u hu => by simp at hu; subst hu; rfl) (by decide) (by unfold maxLen; omega) (by omega) (by have h1 := HD.out.2.2.2.2.2; have h2 := HZ.out.2.size; simp; omega) _ rfl ?_; intro g4 k4 w9 hown9 hg9 hat9 hlt9; have hE9 := StL.next H.out.1 HGE.out.1 HGE.out.2.1 HGE.out.2.2.1 HGE.out.2.2.2 HD.out.2.1 HD.out.1 HD.out.2.2.2.1 HD.out.2.2.2.2.1 HD.out.2.2.2.2.2 HD.out.2.2.1 HZ.out.2 HZ.out.1 rfl hown9 hg9; have HN9 := yyh hE9; have hh9 := hE9.c; have hf9 := hE9.z; clear hown9 hg9 hat9 hlt9 hE9)
         refine hK.out _ _ ?_ (fun hH => ?_)
         · (try dsimp only); (all_goals trivial)
         clear hK K
         refine tq 10 ?_ rfl ?_ ?_
         rotate_left
         · (intro w hSw; go_simp; try with_reducible rfl)
         try simp only [Act.put, pA, pB, pC]
         refine rd 11 (by kernel_rfl) rfl (fun K hK => ?_)
         ·
          (go_simp)
          refine hK.out _ _ ?_ (fun hH => ?_)
          · (try dsimp only); (all_goals trivial)
          clear hK K
          refine wpAnyH_done (by kernel_rfl) ?_ _
          go_wp2_with fail
          go_roundg (T - (i + 1))
          case measure => omega
          case rel => exact ⟨i + 1, by omega, rfl, by go_num, HN9.out.nx⟩
    refine AllReadyH.cons rfl (fun K hK => ?_) ?_
    ·
     (go_simp)
     refine hK.out _ _ ?_ (fun hH => ?_)
     · (try dsimp only); (all_goals trivial)
     clear hK K
     refine wpAnyH_ready (rs := [1, 7]) (by kernel_rfl) (by simp) ?_
     refine AllReadyH.cons rfl (fun K hK => ?_) ?_
     ·
      (go_simp)
      refine hK.out _ _ ?_ (fun hH => ?_)
      · (try dsimp only); (all_goals trivial)
      clear hK K
      refine rd 7 (by kernel_rfl) rfl (fun K hK => ?_)
      ·
       (go_simp; go_at_call 52; refine HLc.out.mono ?_; rintro e w7 ⟨v7, rfl, hE7, hn7, hb7⟩; obtain ⟨a8, n8, k8, rfl⟩ : ∃ a n c, v7 = .slice a n c := (by obtain ⟨a, c, h, -⟩ := SlV.clip hE7; exact ⟨a, _, c, h⟩); have hy7 := (hb7.block _ (zac HD.out.2.1)).trans HD.out.2.1; have l7 : w7.cell? ⟨yb, 6, none⟩ = some (.slice al i capl) := (by rw [zaa hy7]; rfl); have l8 : (w7.alloc (.cells #[.slice a8 n8 k8] 42)).cell? ⟨yb, 6, none⟩ = some (.slice al i capl) := zae (zab yyr _) l7; have HROW := yyh (zb3 HD.out.2.2.1 (zab hb7 (.cells #[.slice a8 n8 k8] 42))); have HNW := yyh (cell_one_new w7 (.slice a8 n8 k8) 42); have HZ := yyh (yyi hE7 hb7); clear hE7 hn7 hb7 hy7)
       refine hK.out _ _ ?_ (fun hH => ?_)
       · (try dsimp only); (all_goals trivial)
       clear hK K
       refine rd 8 (by kernel_rfl) rfl (fun K hK => ?_)
       ·
        (go_simp)
        refine hK.out _ _ ?_ (fun hH => ?_)
        · (try dsimp only); (all_goals trivial)
        clear hK K
        refine rd 9 (by kernel_rfl) rfl (fun K hK => ?_)
        ·
         (refine step_append_lies _ rfl (.tmp 53) (.tmp 60) 43 rfl Bc 42 i0 (.slice none 0 0) 1 24 Tryz.underlying43 hi0 hz0 hz1 hz2 rfl (by decide) _ i vs (by simp [Act.eval, Act.put]) HROW.out ⟨w7.heap.size, 0, none⟩ 1 1 [.slice a8 n8 k8] (by simp [Act.eval, Act.put]) rfl HNW.out (fun u hu => by simp at hu; subst hu; rfl) (by decide) (by unfold maxLen; omega) (by omega) (by have h1 := HD.out.2.2.2.2.2; have h2 := HZ.out.2.size; simp; omega) _ rfl ?_; intro g4 k4 w9 hown9 hg9 hat9 hlt9; have hE9 := StL.next H.out.1 HGE.out.1 HGE.out.2.1 HGE.out.2.2.1 HGE.out.2.2.2 HD.out.2.1 HD.out.1 HD.out.2.2.2.1 HD.out.2.2.2.2.1 HD.out.2.2.2.2.2 HD.out.2.2.1 HZ.out.2 HZ.out.1 rfl hown9 hg9; have HN9 := yyh hE9; have hh9 := hE9.c; have hf9 := hE9.z; clear hown9 hg9 hat9 hlt9 hE9)
         refine hK.out _ _ ?_ (fun hH => ?_)
         · (try dsimp only); (all_goals trivial)
         clear hK K
         refine tq 10 ?_ rfl ?_ ?_
         rotate_left
         · (intro w hSw; go_simp; try with_reducible rfl)
         try simp only [Act.put, pA, pB, pC]
         refine rd 11 (by kernel_rfl) rfl (fun K hK => ?_)
         ·
          (go_simp)
          refine hK.out _ _ ?_ (fun hH => ?_)
          · (try dsimp only); (all_goals trivial)
          clear hK K
          refine wpAnyH_done (by kernel_rfl) ?_ _
          go_wp2_with fail
          go_roundg (T - (i + 1))
          case measure => omega
          case rel => exact ⟨i + 1, by omega, rfl, by go_num, HN9.out.nx⟩
     refine AllReadyH.cons rfl (fun K hK => ?_) ?_
     ·
      (go_simp; go_at_call 52; refine HLc.out.mono ?_; rintro e w7 ⟨v7, rfl, hE7, hn7, hb7⟩; obtain ⟨a8, n8, k8, rfl⟩ : ∃ a n c, v7 = .slice a n c := (by obtain ⟨a, c, h, -⟩ := SlV.clip hE7; exact ⟨a, _, c, h⟩); have hy7 := (hb7.block _ (zac HD.out.2.1)).trans HD.out.2.1; have l7 : w7.cell? ⟨yb, 6, none⟩ = some (.slice al i capl) := (by rw [zaa hy7]; rfl); have l8 : (w7.alloc (.cells #[.slice a8 n8 k8] 42)).cell? ⟨yb, 6, none⟩ = some (.slice al i capl) := zae (zab yyr _) l7; have HROW := yyh (zb3 HD.out.2.2.1 (zab hb7 (.cells #[.slice a8 n8 k8] 42))); have HNW := yyh (cell_one_new w7 (.slice a8 n8 k8) 42); have HZ := yyh (yyi hE7 hb7); clear hE7 hn7 hb7 hy7)
      refine hK.out _ _ ?_ (fun hH => ?_)
      · (try dsimp only); (all_goals trivial)
      clear hK K
      refine wpAnyH_ready (rs := [1, 8]) (by kernel_rfl) (by simp) ?_
      refine AllReadyH.cons rfl (fun K hK => ?_) ?_
      ·
       (go_simp)
       refine hK.out _ _ ?_ (fun hH => ?_)
       · (try dsimp only); (all_goals trivial)
       clear hK K
       refine rd 8 (by kernel_rfl) rfl (fun K hK => ?_)
       ·
        (go_simp)
        refine hK.out _ _ ?_ (fun hH => ?_)
        · (try dsimp only); (all_goals trivial)
        clear hK K
        refine rd 9 (by kernel_rfl) rfl (fun K hK => ?_)
        ·
         (refine step_append_lies _ rfl (.tmp 53) (.tmp 60) 43 rfl Bc 42 i0 (.slice none 0 0) 1 24 Tryz.underlying43 hi0 hz0 hz1 hz2 rfl (by decide) _ i vs (by simp [Act.eval, Act.put]) HROW.out ⟨w7.heap.size, 0, none⟩ 1 1 [.slice a8 n8 k8] (by simp [Act.eval, Act.put]) rfl HNW.out (fun u hu => by simp at hu; subst hu; rfl) (by decide) (by unfold maxLen; omega) (by omega) (by have h1 := HD.out.2.2.2.2.2; have h2 := HZ.out.2.size; simp; omega) _ rfl ?_; intro g4 k4 w9 hown9 hg9 hat9 hlt9; have hE9 := StL.next H.out.1 HGE.out.1 HGE.out.2.1 HGE.out.2.2.1 HGE.out.2.2.2 HD.out.2.1 HD.out.1 HD.out.2.2.2.1 HD.out.2.2.2.2.1 HD.out.2.2.2.2.2 HD.out.2.2.1 HZ.out.2 HZ.out.1 rfl hown9 hg9; have HN9 := yyh hE9; have hh9 := hE9.c; have hf9 := hE9.z; clear hown9 hg9 hat9 hlt9 hE9)
         refine hK.out _ _ ?_ (fun hH => ?_)
         · (try dsimp only); (all_goals trivial)
         clear hK K
         refine tq 10 ?_ rfl ?_ ?_
         rotate_left
         · (intro w hSw; go_simp; try with_reducible rfl)
         try simp only [Act.put, pA, pB, pC]
         refine rd 11 (by kernel_rfl) rfl (fun K hK => ?_)
         ·
          (go_simp)
          refine hK.out _ _ ?_ (fun hH => ?_)
          · (try dsimp only); (all_goals trivial)
          clear hK K
          refine wpAnyH_done (by kernel_rfl) ?_ _
          go_wp2_with fail
          go_roundg (T - (i + 1))
          case measure => omega
          case rel => exact ⟨i + 1, by omega, rfl, by go_num, HN9.out.nx⟩
      refine AllReadyH.cons rfl (fun K hK => ?_) ?_
      ·
       (go_simp)
       refine hK.out _ _ ?_ (fun hH => ?_)
       · (try dsimp only); (all_goals trivial)
       clear hK K
       refine rd 1 (by kernel_rfl) rfl (fun K hK => ?_)
       ·
        (go_simp)
        refine hK.out _ _ ?_ (fun hH => ?_)
        · (try dsimp only); (all_goals trivial)
        clear hK K
        refine rd 9 (by kernel_rfl) rfl (fun K hK => ?_)
        ·
         (refine step_append_lies _ rfl (.tmp 53) (.tmp 60) 43 rfl Bc 42 i0 (.slice none 0 0) 1 24 Tryz.underlying43 hi0 hz0 hz1 hz2 rfl (by decide) _ i vs (by simp [Act.eval, Act.put]) HROW.out ⟨w7.heap.size, 0, none⟩ 1 1 [.slice a8 n8 k8] (by simp [Act.eval, Act.put]) rfl HNW.out (fun u hu => by simp at hu; subst hu; rfl) (by decide) (by unfold maxLen; omega) (by omega) (by have h1 := HD.out.2.2.2.2.2; have h2 := HZ.out.2.size; simp; omega) _ rfl ?_; intro g4 k4 w9 hown9 hg9 hat9 hlt9; have hE9 := StL.next H.out.1 HGE.out.1 HGE.out.2.1 HGE.out.2.2.1 HGE.out.2.2.2 HD.out.2.1 HD.out.1 HD.out.2.2.2.1 HD.out.2.2.2.2.1 HD.out.2.2.2.2.2 HD.out.2.2.1 HZ.out.2 HZ.out.1 rfl hown9 hg9; have HN9 := yyh hE9; have hh9 := hE9.c; have hf9 := hE9.z; clear hown9 hg9 hat9 hlt9 hE9)
         refine hK.out _ _ ?_ (fun hH => ?_)
         · (try dsimp only); (all_goals trivial)
         clear hK K
         refine tq 10 ?_ rfl ?_ ?_
         rotate_left
         · (intro w hSw; go_simp; try with_reducible rfl)
         try simp only [Act.put, pA, pB, pC]
         refine rd 11 (by kernel_rfl) rfl (fun K hK => ?_)
         ·
          (go_simp)
          refine hK.out _ _ ?_ (fun hH => ?_)
          · (try dsimp only); (all_goals trivial)
          clear hK K
          refine wpAnyH_done (by kernel_rfl) ?_ _
          go_wp2_with fail
          go_roundg (T - (i + 1))
          case measure => omega
          case rel => exact ⟨i + 1, by omega, rfl, by go_num, HN9.out.nx⟩
      exact AllReadyH.nil
     exact AllReadyH.nil
    exact AllReadyH.nil
    -- REGION 5 END
   ·
    have hltz : ¬ (i : Int) < (T : Int) := by omega
    obtain rfl : i = T := by omega
    have c6d : wr.cell? ⟨yb, 6, none⟩ = some (.slice al i capl) := by rw [zaa hy]; rfl
    have z6 : wr.frozen? ⟨yb, 6, none⟩ = false := za5 hy
    have HC := yyh (zuf (SlV.of_owns hrow))
    have HNW := yyh (show ∀ c, (Value.slice al i capl).ownBlock = some c → Bc ≤ c from fun c hc => (hrow.lt c hc).1)
    have HD := yyh (yyi hy (yyi hp hvs))
    clear hy hp hrow hvs hBc hvl
    go_wp2_with fail
    refine HC.out.mono ?_
    rintro e w' ⟨lv', rfl, hlv', hbo, rfl⟩
    obtain ⟨a9, c9, rfl, -⟩ := hlv'.clip
    have HN9 := yyh (show ∀ c, (Value.slice a9 i c9).ownBlock = some c → W.heap.size ≤ c from fun c hc => by
     have h1 := HNW.out c (hbo ▸ hc)
     have h2 := HGE.out.1
     have h3 := H.out.2.2.2.1.size
     omega)
    clear hbo
    obtain ⟨hy, hp, hvs⟩ := HD.out
    have hy10 := zai (o := 6) hy (.slice a9 i c9)
    have f10 : Fr (fun j => j = yb) w' (w'.setCell ⟨yb, 6, none⟩ (.slice a9 i c9)) := Fr.set (S := fun j => j = yb) (Fr.refl _ _) (p := ⟨yb, 6, none⟩) rfl _
    have hL : zn3 w' (.slice a9 i c9) i (S.q.q A.q.k).own := ⟨vs, hlv', hvs⟩
    have hL10 := hL.box f10 hy
    have hp10 := hp.box H.out.1 f10 HGE.out.2.1 hy (by decide) HGE.out.2.2.2
    obtain ⟨w10, hw10⟩ := yye (w'.setCell ⟨yb, 6, none⟩ (.slice a9 i c9))
    rw [hw10] at hy10 hL10 hp10
    have hy10 : w10.heap[yb]? = some (.cells #[.int .u64 0, .int .u64 S.tick, .bool S.closed, .int .i64 ((A.C : Int) - S.o), tv, sv, .slice a9 i c9, hv, .slice none 0 0] 46 (0, 0)) := hy10
    have b0 : w10.cell? ⟨yb, 0, none⟩ = some (.int .u64 0) := by rw [zaa hy10]; rfl
    have b1 : w10.cell? ⟨yb, 1, none⟩ = some (.int .u64 S.tick) := by rw [zaa hy10]; rfl
    have b2 : w10.cell? ⟨yb, 2, none⟩ = some (.bool S.closed) := by rw [zaa hy10]; rfl
    have b3 : w10.cell? ⟨yb, 3, none⟩ = some (.int .i64 ((A.C : Int) - S.o)) := by rw [zaa hy10]; rfl
    have b4 : w10.cell? ⟨yb, 4, none⟩ = some (.slice a5 S.t.rows.length S.t.rows.length) := by rw [zaa hy10, HT.out.2.1]; rfl
    have b5 : w10.cell? ⟨yb, 5, none⟩ = some (.slice a6 n6 c6) := by rw [zaa hy10, HT.out.2.2.1]; rfl
    have b6 : w10.cell? ⟨yb, 6, none⟩ = some (.slice a9 i c9) := by rw [zaa hy10]; rfl
    have b7 : w10.cell? ⟨yb, 7, none⟩ = some (.slice a7 n7 c7) := by rw [zaa hy10, HT.out.2.2.2]; rfl
    have b8 : w10.cell? ⟨yb, 8, none⟩ = some (.slice none 0 0) := by rw [zaa hy10]; rfl
    have hx10 : w10.heap[W.heap.size]? = some (.cells #[.int .u64 0, .int .u64 0, .bool false, .int .i64 0, .slice none 0 0, .slice none 0 0, .slice none 0 0, .slice none 0 0, .slice none 0 0] 46 (0, 0)) := by
     obtain ⟨S', k, -⟩ := hp10.core
     exact zag.kept H.out.1 k (fun e => by have := H0.out.lt e; omega) H.out.2.2.2.2.1
    obtain ⟨y0, y1, y2, y3, y4, y5, y6, y7, y8, zz⟩ := (show StZ W W.heap.size w10 from ⟨hx10, yyn⟩).cells
    have hs9 := zkj hx10 (.int .u64 0) (.int .u64 S.tick) (.bool S.closed) (.int .i64 ((A.C : Int) - S.o)) (.slice a5 S.t.rows.length S.t.rows.length) (.slice a6 n6 c6) (.slice a9 i c9) (.slice a7 n7 c7) (.slice none 0 0)
    have f11 := zp0 w10 W.heap.size (.int .u64 0) (.int .u64 S.tick) (.bool S.closed) (.int .i64 ((A.C : Int) - S.o)) (.slice a5 S.t.rows.length S.t.rows.length) (.slice a6 n6 c6) (.slice a9 i c9) (.slice a7 n7 c7) (.slice none 0 0)
    have hpW := hp10.base H0.out H.out.2.2.2.1
    have htW : tv.ownBlock ≠ some W.heap.size := fun e => by
     obtain ⟨lo, h1, h2⟩ := hp10.t (by omega)
     have h3 := zac H.out.2.2.2.2.1
     rcases h2 with ⟨-, rfl⟩ | ⟨d, rfl, h4, -⟩
     · cases e
     · injection e with e
       have e : d = W.heap.size := e
       omega
    have hpF := hpW.box H0.out f11 yyn hx10 (by decide) htW
    have hLF := hL10.box f11 hx10
    obtain ⟨w11, hw11⟩ : ∃ w11, (((((((((w10.setCell ⟨W.heap.size, 0, none⟩ (.int .u64 0)).setCell ⟨W.heap.size, 1, none⟩ (.int .u64 S.tick)).setCell ⟨W.heap.size, 2, none⟩ (.bool S.closed)).setCell ⟨W.heap.size, 3, none⟩ (.int .i64 ((A.C : Int) - S.o))).setCell ⟨W.heap.size, 4, none⟩ (.slice a5 S.t.rows.length S.t.rows.length)).setCell ⟨W.heap.size, 5, none⟩ (.slice a6 n6 c6)).setCell ⟨W.heap.size, 6, none⟩ (.slice a9 i c9)).setCell ⟨W.heap.size, 7, none⟩ (.slice a7 n7 c7)).setCell ⟨W.heap.size, 8, none⟩ (.slice none 0 0)) = w11 := ⟨_, rfl⟩
    rw [hw11] at hs9 hpF hLF
    have e0 : w11.cell? ⟨W.heap.size, 0, none⟩ = some (.int .u64 0) := by rw [zaa hs9]; rfl
    have e1 : w11.cell? ⟨W.heap.size, 1, none⟩ = some (.int .u64 S.tick) := by rw [zaa hs9]; rfl
    have e2 : w11.cell? ⟨W.heap.size, 2, none⟩ = some (.bool S.closed) := by rw [zaa hs9]; rfl
    have e3 : w11.cell? ⟨W.heap.size, 3, none⟩ = some (.int .i64 ((A.C : Int) - S.o)) := by rw [zaa hs9]; rfl
    have e4 : w11.cell? ⟨W.heap.size, 4, none⟩ = some (.slice a5 S.t.rows.length S.t.rows.length) := by rw [zaa hs9]; rfl
    have e5 : w11.cell? ⟨W.heap.size, 5, none⟩ = some (.slice a6 n6 c6) := by rw [zaa hs9]; rfl
    have e6 : w11.cell? ⟨W.heap.size, 6, none⟩ = some (.slice a9 i c9) := by rw [zaa hs9]; rfl
    have e7 : w11.cell? ⟨W.heap.size, 7, none⟩ = some (.slice a7 n7 c7) := by rw [zaa hs9]; rfl
    have e8 : w11.cell? ⟨W.heap.size, 8, none⟩ = some (.slice none 0 0) := by rw [zaa hs9]; rfl
    have HW := yyh hw11
    have HF := yyh (yyi hpF hLF)
    clear hy hp hvs hy10 f10 hL hL10 hp10 hx10 hs9 f11 hpW htW hpF hLF hlv' hw11
    go_wp2_with fail
    rw [HW.out]
    refine bodyPost_ret (v := .agg #[.int .u64 0, .int .u64 S.tick, .bool S.closed, .int .i64 ((A.C : Int) - S.o), .slice a5 S.t.rows.length S.t.rows.length, .slice a6 n6 c6, .slice a9 i c9, .slice a7 n7 c7, .slice none 0 0]) (by simp [results, Tryz.results17, go_sem, e0, e1, e2, e3, e4, e5, e6, e7, e8]) rfl ?_
    refine ⟨tv, sv, .slice a9 i c9, hv, ?_, HF.out.1, ?_⟩
    · rw [← HT.out.2.1, ← HT.out.2.2.1, ← HT.out.2.2.2]
      rfl
    · rw [HT.out.1]
      exact ⟨HF.out.2, HN9.out⟩
end
section
variable {W W' : World} {M : MA} {s s' : MS} {N N' : Nat}
theorem za7.core (h : zaz W M s N) {S' : CS} (k : zag W M.c s.c W' S' N') : za7 W M s W' { s with c := S' } N' :=
 zkk k (Fr.refl _ _) (Fr.refl _ _) yyr (h.core k) rfl
theorem zcc.slice {W : World} {lo n : Nat} {v : Value} {xs : List Value} (h : zcc W lo v n xs) : ∃ a m c, v = .slice a m c := by
 rcases h with h | ⟨c, rfl, h1, h2, h3⟩
 · exact ⟨_, _, _, h.2⟩
 · exact ⟨_, _, _, rfl⟩
def zk1 (own : List (List En)) (i : Nat) : Nat := ((own.take i).map List.length).sum
theorem zqb (own : List (List En)) (i : Nat) : zk1 own (i + 1) = zk1 own i + (own.getD i []).length := by
 unfold zk1
 by_cases h : i < own.length
 · rw [List.take_add_one, yyg h, yyd, yyg h]
   simp only [Option.toList_some, List.map_append, List.sum_append, List.map_cons, List.map_nil, List.sum_cons, List.sum_nil, Nat.add_zero, Option.getD_some]
 · rw [List.take_add_one, List.getElem?_eq_none (by omega), yyd, List.getElem?_eq_none (by omega)]
   simp
def zkm (A : CA) (s : MS) : Bool := ((((zbc (s.c.q.q A.q.k).slots).length + (s.c.q.q A.q.k).sh.length + zk1 (s.c.q.q A.q.k).own A.q.lp.length : Nat) : Int) == 0) && zed s
theorem zwb (h : zaz W M s N) (hN : N ≤ 300000000) (hq : (s.c.q.q M.c.q.k).Ok) (hT1 : 1 ≤ s.ws.length) (hl : s.ws.length ≤ 64) (hsum : ∀ i, i ≤ M.c.q.lp.length → (zbc (s.c.q.q M.c.q.k).slots).length + (s.c.q.q M.c.q.k).sh.length + zk1 (s.c.q.q M.c.q.k).own i ≤ 1000) : Calls Tryz.prog 19 #[.pointer (some ⟨M.mp, 0, none⟩)] W fun e w' => e = .returned (.bool (zkm M.c s)) ∧ ∃ S', za7 W M s w' { s with c := S' } (N + 1260) ∧ S'.cm M.c = s.c.cm M.c := by
 obtain ⟨c0, -⟩ := h.pkS rfl
 have HS := yyh (zl1 h.c hN hq)
 have H := yyh h
 have HL := yyh (yyi hT1 (yyi hl hsum))
 obtain ⟨qb, hqb⟩ : ∃ q, zkm M.c s = q := ⟨_, rfl⟩
 rw [hqb]
 have HQB := yyh hqb
 clear h hq hT1 hl hsum hqb
 go_enter Tryz.func19, Tryz.ntmps19
 go_wp2_with fail
 refine HS.out.mono ?_
 rintro e w1 ⟨tv, sv, lv, hv, rfl, hp, hloc, -⟩
 unfold stC
 obtain ⟨S1, k1, hcm, -, -⟩ := hp.core
 have hs := (hp.s (by omega)).1
 have hh := (hp.h (by omega)).1
 obtain ⟨lo', -, ht'⟩ := hp.t (by omega)
 obtain ⟨ta, tn, tc, rfl⟩ := ht'.slice
 clear ht'
 obtain ⟨sa, sc, rfl, -⟩ := SlV.clip hs
 obtain ⟨ha, hc, rfl, -⟩ := SlV.clip hh
 clear hs hh hp
 obtain ⟨vs, hvl, hve⟩ := hloc
 have HT : 1 ≤ M.c.q.lp.length := by rw [← H.out.len]; exact HL.out.1
 have hvn := hvl.1
 rcases SlV.form hvl with ⟨-, h0, -⟩ | ⟨lb, lo, lc, rfl, h1, h2, h3, h4⟩
 · omega
 obtain ⟨a, hA⟩ : ∃ a, (zbc (s.c.q.q M.c.q.k).slots).length = a := ⟨_, rfl⟩
 obtain ⟨b, hB⟩ : ∃ b, (s.c.q.q M.c.q.k).sh.length = b := ⟨_, rfl⟩
 obtain ⟨T, hT⟩ := yye (M.c.q.lp.length)
 obtain ⟨own, hO⟩ : ∃ o, (s.c.q.q M.c.q.k).own = o := ⟨_, rfl⟩
 rw [hA, hB, hT]
 have HLB : ∀ i, i ≤ T → a + b + zk1 own i ≤ 1000 := by have := HL.out.2.2; rw [hA, hB, hT, hO] at this; exact this
 rw [hO] at hve
 rw [hT] at h1 hvn HT
 obtain ⟨st, hst⟩ : ∃ st, (Value.agg #[.int .u64 0, .int .u64 s.c.tick, .bool s.c.closed, .int .i64 ((M.c.C : Int) - s.c.o), .slice ta tn tc, .slice sa a sc, .slice (some ⟨lb, lo, none⟩) T lc, .slice ha b hc, .slice none 0 0]) = st := ⟨_, rfl⟩
 have HN := yyh (yyi hA (yyi hB (yyi hT hO)))
 have HK := yyh (yyi k1 hcm)
 clear hA hB hT hO hvl k1 hcm hst st
 obtain ⟨W2, hW2⟩ := yye (w1.alloc (.cells #[.int .u64 0, .int .u64 s.c.tick, .bool s.c.closed, .int .i64 ((M.c.C : Int) - s.c.o), .slice ta tn tc, .slice sa a sc, .slice (some ⟨lb, lo, none⟩) T lc, .slice ha b hc, .slice none 0 0] 46))
 have hbW : Below w1.heap.size w1 W2 := by rw [← hW2]; exact zab yyr _
 have xw : W2.heap[w1.heap.size]? = some (.cells #[.int .u64 0, .int .u64 s.c.tick, .bool s.c.closed, .int .i64 ((M.c.C : Int) - s.c.o), .slice ta tn tc, .slice sa a sc, .slice (some ⟨lb, lo, none⟩) T lc, .slice ha b hc, .slice none 0 0] 46 (0, 0)) := by rw [← hW2]; exact heap_alloc_new w1 _
 have f5 : W2.cell? ⟨w1.heap.size, 5, none⟩ = some (.slice sa a sc) := by rw [zaa xw]; rfl
 have f6 : W2.cell? ⟨w1.heap.size, 6, none⟩ = some (.slice (some ⟨lb, lo, none⟩) T lc) := by rw [zaa xw]; rfl
 have f7 : W2.cell? ⟨w1.heap.size, 7, none⟩ = some (.slice ha b hc) := by rw [zaa xw]; rfl
 have HC : Aside (∀ (j : Nat) (x : Value), vs[j]? = some x → W2.cell? ⟨lb, lo + j, none⟩ = some x) := fun j x hx => zae hbW (h4 j x hx)
 have HE : Aside (∀ (j : Nat) (v : Value), vs[j]? = some v → zay w1 v (own.getD j [])) := hve
 have hLB : Aside (∀ i, i ≤ T → a + b + zk1 own i ≤ 1000) := HLB
 have HW2 := yyh hW2
 have HBW := yyh hbW
 have hab : a + b ≤ 1000 := by have := HLB 0 (by omega); omega
 have hTm : (T : Int) ≤ 64 := by have := HL.out.2.1; rw [H.out.len, HN.out.2.2.1] at this; omega
 clear hW2 xw h4 hve HLB hbW c0
 go_upto_region 2 with fail
 rw [HW2.out]
 go_wp2_with fail
 go_loopg [4, 6, 22] T (fun gg s4 _ s22 wr => ∃ i : Nat, i ≤ T ∧ gg = T - i ∧ s22 = .int .i64 i ∧ s4 = .int .i64 ((a + b + zk1 own i : Nat) : Int) ∧ wr = W2)
 case atStart => exact ⟨0, Nat.zero_le _, by omega, rfl, by simp [zk1], rfl⟩
 case round =>
  obtain ⟨i, hi, rfl, rfl, rfl, rfl⟩ := hrel
  by_cases hlt : i < T
  ·
   have hltz : (i : Int) < (T : Int) := by omega
   obtain ⟨v, hv⟩ : ∃ v, vs[i]? = some v := ⟨_, yyg (by omega)⟩
   have hc0 := HC.out i v hv
   obtain ⟨ea, ec, rfl, -⟩ := SlV.clip (HE.out i v hv)
   have hsu := zqb own i
   obtain ⟨n, hn⟩ : ∃ n, (own.getD i []).length = n := ⟨_, rfl⟩
   obtain ⟨m, hm⟩ := yye (a + b + zk1 own i)
   have hm1 := hLB.out (i + 1) (by omega)
   have hnx : a + b + zk1 own (i + 1) = m + n := by omega
   rw [hn] at hc0
   rw [hm]
   have hmn : m + n ≤ 1000 := by omega
   have HX := yyh hnx
   clear hsu hn hm hm1 hnx hv
   go_wp2_with fail
   go_roundg (T - (i + 1))
   case measure => omega
   case rel => exact ⟨i + 1, by omega, rfl, by simp, by rw [HX.out]; simp, rfl⟩
  ·
   have hltz : ¬ (i : Int) < (T : Int) := by omega
   have hiT : i = T := by omega
   obtain ⟨m, hm⟩ := yye (a + b + zk1 own i)
   have hq : qb = (((m : Int) == 0) && zed s) := by
    rw [← HQB.out, ← hm, hiT]
    unfold zkm
    rw [HN.out.1, HN.out.2.1, HN.out.2.2.1, HN.out.2.2.2]
   rw [hm]
   have hM := za7.core H.out (HK.out.1.trans (zag.below HK.out.1.at_ HBW.out))
   obtain ⟨q, hqq⟩ := yye (zed s)
   have HI := yyh (zp9 hM.at_ HL.out.2.1)
   rw [show zed { s with c := S1 } = q from hqq] at HI
   rw [hqq] at hq
   have HM := yyh hM
   have HQ := yyh hq
   clear hM hq hqq hm f5 f6 f7 HC HE hLB hiT
   by_cases hz : m = 0
   ·
    have hb : ((m : Int) == 0) = true := by rw [beq_iff_eq]; omega
    rw [hb] at HQ
    have HQ' := yyh HQ.out
    clear hz HQ
    go_wp2_with fail
    refine HI.out.mono ?_
    rintro e w5 ⟨rfl, hb5⟩
    have HB5 := yyh hb5
    clear hb5
    go_wp2_with fail
    refine bodyPost_ret (v := .bool q) (by simp [results, Tryz.results19, go_sem]) rfl ?_
    exact ⟨by rw [HQ'.out, Bool.true_and], S1, HM.out.trans (za7.below HM.out.at_ HB5.out), HK.out.2⟩
   ·
    have hb : ((m : Int) == 0) = false := by rw [beq_eq_false_iff_ne]; omega
    rw [hb] at HQ
    have HQ' := yyh HQ.out
    clear HQ
    go_wp2_with fail
    refine bodyPost_ret (v := .bool false) (by simp [results, Tryz.results19, go_sem]) rfl ?_
    exact ⟨by rw [HQ'.out, Bool.false_and], S1, HM.out, HK.out.2⟩
end
section
variable {W W' : World} {M : MA} {s s' : MS} {N N' : Nat}
theorem zfl {w w' : World} {base : Nat} {e : TypeId} {k : Nat} {v : Value} {n : Nat} {xs : List Value} (h : w.ownsRow base e k v n xs) (hk : ∀ c o, v.ownBlock = some c → w.heap[c]? = some o → w'.heap[c]? = some o) : w'.ownsRow base e k v n xs := by
 obtain ⟨h1, h2⟩ := h
 rcases h2 with ⟨rfl, h⟩ | ⟨g, cap, cur, rfl, h3, h4, h5⟩
 · exact ⟨h1, .inl ⟨rfl, h⟩⟩
 · exact ⟨h1, .inr ⟨g, cap, cur, rfl, h3, hk g _ rfl h4, h5⟩⟩
theorem zhh {w : World} {base : Nat} {e : TypeId} {k : Nat} {v : Value} {n : Nat} {xs : List Value} (h : w.ownsRow base e k v n xs) {c : Nat} (hc : v.ownBlock = some c) : ∃ cur, w.heap[c]? = some (.cells cur e (0, 0)) := by
 obtain ⟨h1, h2⟩ := h
 rcases h2 with ⟨rfl, h⟩ | ⟨g, cap, cur, rfl, h3, h4, h5⟩
 · cases hc
 · cases hc; exact ⟨_, h4⟩
theorem za7.grown {w w' : World} (h : zaz w M s N) {v : Value} {n : Nat} {xs : List Value} {base : Nat} (ho : w.ownsRow base 3 1 v n xs) (hn : ∀ c, v.ownBlock = some c → ¬ zdp M s c) (hg : w.grownBy w' v.ownBlock) : zaz w' M s N := by
 have hc : zal w' M.c s.c N := by
  cases hv : v.ownBlock with
  | none =>
   rw [hv] at hg
   exact h.c.below ⟨hg.os, hg.tape, hg.output, hg.size, fun j hj => hg.block j hj (by simp)⟩
  | some c =>
   rw [hv] at hg
   obtain ⟨cur, hb⟩ := zhh ho hv
   exact h.c.other ⟨hg.os, hg.tape, hg.output, hg.size, fun j hj hne => hg.block j hj (fun e => hne (Option.some.inj e))⟩ hb (by decide) (fun e => hn c hv (.inl e))
 exact ⟨hc, (hg.block _ (zac h.m) (fun e => hn _ e.symm (.inr (.inl rfl)))).trans h.m, (hg.block _ (zac h.l) (fun e => hn _ e.symm (.inr (.inr rfl)))).trans h.l, h.len, h.did, h.nm, h.nl⟩
structure ztq (W : World) (M : MA) (s : MS) (B : Nat → Nat) (P : Nat → MS → Prop) (i : Nat) (v : Value) (xs : List Value) (si : MS) (w : World) : Prop where
 own : w.ownsRow W.heap.size 3 1 v i xs
 ne : ∀ c, v.ownBlock = some c → ¬ zdp M si c
 st : za7 W M s w si (B i)
 p : P i si
 sz : W.heap.size ≤ w.heap.size
theorem ztq.pick {B : Nat → Nat} {P : Nat → MS → Prop} {i : Nat} {v : Value} {xs : List Value} {si s4 : MS} {w w4 : World} (h : ztq W M s B P i v xs si w) (k : za7 w M si w4 s4 (B (i + 1))) : w4.ownsRow W.heap.size 3 1 v i xs ∧ (∀ c, v.ownBlock = some c → ¬ zdp M s4 c) ∧ za7 W M s w4 s4 (B (i + 1)) ∧ W.heap.size ≤ w4.heap.size :=
 ⟨zfl h.own (fun c o hc ho => (k.kept (h.ne c hc) ho).1), fun c hc => by
  obtain ⟨cur, hb⟩ := zhh h.own hc
  exact (k.kept (h.ne c hc) hb).2, h.st.trans k, Nat.le_trans h.sz k.fr.size⟩
theorem ztq.next {B : Nat → Nat} {P : Nat → MS → Prop} {i : Nat} {v v' : Value} {xs ys : List Value} {s4 : MS} {w4 w5 w6 : World} (h : w4.ownsRow W.heap.size 3 1 v i xs ∧ (∀ c, v.ownBlock = some c → ¬ zdp M s4 c) ∧ za7 W M s w4 s4 (B (i + 1)) ∧ W.heap.size ≤ w4.heap.size) (hp : P (i + 1) s4) (hb : Below w4.heap.size w4 w5) (hg : w5.grownBy w6 v.ownBlock) (ho : w6.ownsRow W.heap.size 3 1 v' (i + 1) ys) (hv : ∀ c, v'.ownBlock = some c → some c = v.ownBlock ∨ w5.heap.size ≤ c) : ztq W M s B P (i + 1) v' ys s4 w6 := by
 obtain ⟨h1, h2, h3, h4⟩ := h
 have h5 := h3.trans (za7.below h3.at_ hb)
 have o5 : w5.ownsRow W.heap.size 3 1 v i xs := zfl h1 (fun c o hc ho => (hb.block c (zac ho)).trans ho)
 have hm := za7.grown h5.at_ o5 h2 hg
 refine ⟨ho, fun c hc => ?_, ⟨hm, ⟨hg.os.trans h5.fr.os, hg.tape.trans h5.fr.tape, hg.output.trans h5.fr.output, Nat.le_trans h5.fr.size hg.size, fun j hj hn => ?_⟩, h5.own, h5.wr⟩, hp, Nat.le_trans h4 (Nat.le_trans hb.size hg.size)⟩
 ·
  rcases hv c hc with e | e
  · exact h2 c e.symm
  · intro hj
    have := zl0 h5.at_ hj
    omega
 ·
  rw [hg.block j (Nat.lt_of_lt_of_le hj h5.fr.size) (fun e => ?_)]
  · exact h5.fr.block j hj hn
  · have := (h1.lt j e.symm).1
    omega
theorem zwc (h : zaz W M s N) (T : Nat) (hT : s.ws.length = T) (hT1 : T ≤ 64) (dr : Int) (B : Nat → Nat) (hB : B 0 = N) (P : Nat → MS → Prop) (hP : P 0 s) (HP : ∀ i V si, i < T → zaz V M si (B i) → P i si → Calls Tryz.prog 24 #[.pointer (some ⟨M.mp, 0, none⟩), .int .u64 i, .int .u64 dr] V fun e V' => (∃ kd : Int, e = .returned (.int .i64 kd)) ∧ ∃ s', za7 V M si V' s' (B (i + 1)) ∧ P (i + 1) s') : Calls Tryz.prog 39 #[.pointer (some ⟨M.mp, 0, none⟩), .int .u64 dr] W fun e w' => ∃ v s', e = .returned v ∧ za7 W M s w' s' (B T) ∧ P T s' := by
 obtain ⟨c0, c1⟩ := h.pkS hT
 have H0 : ztq W M s B P 0 (.slice none 0 0) [] s W := ⟨World.ownsRow_nil _ _ _ _, fun c hc => (by cases hc), (by rw [hB]; exact za7.refl h), hP, yyn⟩
 have HPP := yyh HP
 have HS0 := yyh H0
 obtain ⟨i0, hi0, hz0, hz1, hz2⟩ := info_parts zfp
 clear h hT hB hP HP H0 c0
 go_enter Tryz.func39, Tryz.ntmps39
 go_wp2_with fail
 go_loopg [5, 6, 12] T (fun gg s5 _ s12 wr => ∃ (i : Nat) (xs : List Value) (si : MS), i ≤ T ∧ gg = T - i ∧ s12 = .int .i64 i ∧ Aside (ztq W M s B P i s5 xs si wr))
 case atStart => exact ⟨0, [], s, Nat.zero_le _, by omega, rfl, HS0.out⟩
 case round =>
  obtain ⟨i, xs, si, hi, rfl, rfl, hR⟩ := hrel
  obtain ⟨a5, k5, rfl, -⟩ := SlV.clip (SlV.of_owns hR.out.own)
  by_cases hlt : i < T
  ·
   have hltz : (i : Int) < (T : Int) := by omega
   have HPi := yyh (HPP.out i wr si hlt hR.out.st.at_ hR.out.p)
   have HR := yyh hR.out
   have hiu : wrap64 (i : Int) = i := by unfold wrap64; omega
   clear hR
   go_wp2_with (first | (go_at_call 24; refine HPi.out.mono ?_; rintro e w4 ⟨⟨kd, rfl⟩, s4, k4, p4⟩; have H4 := yyh (yyi (HR.out.pick k4) p4); have hO4 := yyh ((HR.out.pick k4).1.alloc (.cells #[.int .i64 kd] 3)); have hG4 := yyh (Nat.le_trans (HR.out.pick k4).2.2.2 (zab yyr (.cells #[.int .i64 kd] 3) : Below w4.heap.size w4 _).size); clear k4 p4) | (at_builtin; go_loud (refine wpList_append_own_at _ rfl (.tmp 15) (.tmp 21) 33 rfl W.heap.size 3 i0 zue 1 8 Tryz.underlying33 hi0 hz0 hz1 hz2 rfl (by decide) (.slice a5 i k5) i xs rfl hO4.out ⟨w4.heap.size, 0, none⟩ 1 1 [.int .i64 kd] rfl rfl (cell_one_new _ _ _) (fun u hu => by simp at hu; subst hu; rfl) (by unfold maxLen; omega) (by omega) hG4.out ?_; intro v' w6 hown6 hg6 hnil6 hblk6; have H6 := yyh (yyi hown6 (yyi hg6 hblk6)); clear hown6 hg6 hnil6 hblk6)))
   go_roundg (T - (i + 1))
   case measure => omega
   case rel => exact ⟨i + 1, _, s4, by omega, rfl, by go_num, (show Aside (ztq W M s B P (i + 1) v' (xs ++ [.int .i64 kd]) s4 w6) from ztq.next H4.out.1 H4.out.2 (zab yyr _) H6.out.2.1 H6.out.1 (fun c hc => by
    rcases H6.out.2.2 with e | e
    · exact .inl (by rw [← hc, e])
    · rw [hc] at e
      exact .inr (Nat.le_of_eq (Option.some.inj e).symm)))⟩
  ·
   obtain rfl : i = T := by omega
   have hltz : ¬ (i : Int) < (i : Int) := by omega
   have HC := yyh (zfo (SlV.of_owns hR.out.own))
   have HR := yyh hR.out
   clear hR
   go_wp2_with fail
   refine HC.out.mono ?_
   rintro e w5 ⟨v5, rfl, -, -, rfl⟩
   go_wp2_with fail
   go_ret
   exact ⟨v5, si, rfl, HR.out.st, HR.out.p⟩
end
section
variable {W W' : World} {M : MA} {s s' : MS} {N N' : Nat}
theorem za7.up (h : za7 W M s W' s' N) (hN : N ≤ N') : za7 W M s W' s' N' := ⟨⟨h.at_.c.up hN, h.at_.m, h.at_.l, h.at_.len, h.at_.did, h.at_.nm, h.at_.nl⟩, h.fr, h.own, h.wr⟩
theorem zyh (h : zaz W M s N) (lim : Nat) (hlim : lim ≤ 100000) (dr : Int) (K : Nat) (hK : K ≤ lim) (B : Nat → Nat) (hB : B 0 = N) (R : Nat → MS → Prop) (hR : R 0 s)
 (HQ : ∀ j V sj, j ≤ K → zaz V M sj (B j) → R j sj → Calls Tryz.prog 19 #[.pointer (some ⟨M.mp, 0, none⟩)] V fun e V' => e = .returned (.bool (decide (j = K))) ∧ ∃ S', za7 V M sj V' { sj with c := S' } (B j + 1260) ∧ R j { sj with c := S' })
 (HR : ∀ j V sj, j < K → zaz V M sj (B j + 1260) → R j sj → Calls Tryz.prog 39 #[.pointer (some ⟨M.mp, 0, none⟩), .int .u64 dr] V fun e V' => ∃ v s', e = .returned v ∧ za7 V M sj V' s' (B (j + 1)) ∧ R (j + 1) s')
 (HQ2 : ∀ V sj, zaz V M sj (B K + 1260) → R K sj → Calls Tryz.prog 19 #[.pointer (some ⟨M.mp, 0, none⟩)] V fun e V' => e = .returned (.bool true) ∧ ∃ S', za7 V M sj V' { sj with c := S' } (B K + 2520) ∧ R K { sj with c := S' }) : Calls Tryz.prog 13 #[.pointer (some ⟨M.mp, 0, none⟩), .int .i64 lim, .int .u64 dr] W fun e w' => e = .returned (.tuple #[.int .i64 K, .bool true]) ∧ ∃ s', za7 W M s w' s' (B K + 2520) ∧ R K s' := by
 have HHQ := yyh HQ
 have HHR := yyh HR
 have HHQ2 := yyh HQ2
 have HS0 := yyh (yyi (hB ▸ za7.refl h : za7 W M s W s (B 0)) hR)
 clear h hB hR HQ HR HQ2
 go_enter Tryz.func13, Tryz.ntmps13
 go_wp2_with fail
 go_loopg [8] K (fun gg s8 wr => ∃ (j : Nat) (sj : MS), j ≤ K ∧ gg = K - j ∧ s8 = .int .i64 j ∧ Aside (za7 W M s wr sj (B j) ∧ R j sj))
 case atStart => exact ⟨0, s, Nat.zero_le _, by omega, rfl, HS0.out⟩
 case round =>
  obtain ⟨j, sj, hj, rfl, rfl, hR⟩ := hrel
  have hmin : min (lim : Int) 100000 = lim := by omega
  by_cases hlt : j < K
  ·
   have hjl : (j : Int) < (lim : Int) := by omega
   have hdec : decide (j = K) = false := by rw [decide_eq_false_iff_not]; omega
   have HQ := yyh (HHQ.out j wr sj hj hR.out.1.at_ hR.out.2)
   rw [hdec] at HQ
   have HR := yyh hR.out
   clear hR hdec
   go_wp2_with fail
   refine HQ.out.mono ?_
   rintro e w1 ⟨rfl, S1, k1, r1⟩
   have HC := yyh (HHR.out j w1 _ hlt k1.at_ r1)
   have H1 := yyh (HR.out.1.trans k1)
   clear k1 r1
   go_wp2_with fail
   refine HC.out.mono ?_
   rintro e w2 ⟨v2, s2, rfl, k2, r2⟩
   have H2 := yyh (yyi (H1.out.trans k2) r2)
   clear k2 r2
   go_wp2_with fail
   go_roundg (K - (j + 1))
   case measure => omega
   case rel => exact ⟨j + 1, s2, by omega, rfl, by go_num, (show Aside _ from H2.out)⟩
  ·
   obtain rfl : j = K := by omega
   have HQ := yyh (HHQ.out j wr sj hj hR.out.1.at_ hR.out.2)
   rw [decide_eq_true (rfl : j = j)] at HQ
   have HR := yyh hR.out
   clear hR hlt
   by_cases hl : j < lim
   ·
    have hjl : (j : Int) < (lim : Int) := by omega
    go_wp2_with fail
    refine HQ.out.mono ?_
    rintro e w1 ⟨rfl, S1, k1, r1⟩
    have HQ2 := yyh (HHQ2.out w1 _ k1.at_ r1)
    have H1 := yyh (HR.out.1.trans k1)
    clear k1 r1
    go_wp2_with fail
    refine HQ2.out.mono ?_
    rintro e w2 ⟨rfl, S2, k2, r2⟩
    have H2 := yyh (yyi (H1.out.trans k2) r2)
    clear k2 r2
    go_wp2_with fail
    go_ret2
    exact ⟨rfl, _, H2.out.1, H2.out.2⟩
   ·
    have hjl : ¬ (j : Int) < (lim : Int) := by omega
    go_wp2_with fail
    refine HQ.out.mono ?_
    rintro e w1 ⟨rfl, S1, k1, r1⟩
    have H1 := yyh (yyi (HR.out.1.trans k1) r1)
    clear k1 r1
    go_wp2_with fail
    go_ret2
    exact ⟨rfl, _, H1.out.1.up (by omega), H1.out.2⟩
end
end Go.Proofs.YtcfhkbcllijnkaaGreat
namespace Go.Proofs.YtcfhkbcllijnkaaGreat
open Go.RowKit
structure MM where
 c : CM
 ws : List Wk
def MS.mm (M : MA) (s : MS) : MM := ⟨s.c.cm M.c, s.ws⟩
def zb8 (c : CM) (id : Int) : Option (Int × Tk) := c.rows[(id - 1).toNat]?
def CM.finish (c : CM) (t k : Nat) (x : Int × Tk) : CM :=
 if c.d then match c.rows[1]? with
  | some y => (c.fin t k x).wake t y.2
  | none => c.fin t k x
 else c.fin t k x
def CM.wstep (c : CM) (t : Nat) (d : Int) (w : Wk) : CM × Wk × Nat :=
 if w.ph = 0 then
  if c.q.fullAt t then ({ c with q := c.q.settle t }, w, 1)
  else match c.look t d with
   | none => (c, w, 0)
   | some en => ({ c with evs := c.evs ++ [⟨10, t, en.id, en.key, c.tick⟩] }, ⟨1, en, w.pc, w.bad⟩, 2)
 else if w.ph = 1 then match zb8 c w.e.id with
  | none => (c, w, 0)
  | some x => if x.1 == 2 && x.2.ke == w.e.key then (c.claim t (w.e.id - 1).toNat x w.e.key, ⟨2, w.e, 0, false⟩, 3) else (c, wk0, 4)
 else match zb8 c w.e.id with
  | none => (c, w, 0)
  | some x => match x.2.L[w.pc.toNat]? with
   | none => (c.finish t (w.e.id - 1).toNat x, wk0, 6)
   | some o => (c.sub t o.2.1 [], { w with pc := w.pc + 1, bad := false }, 5)
def MM.step (m : MM) (t : Nat) (d : Int) : MM := match m.ws[t]? with
 | none => m
 | some w => ⟨(m.c.wstep t d w).1, m.ws.set t (m.c.wstep t d w).2.1⟩
def MM.rndN (m : MM) (d : Int) : Nat → MM
 | 0 => m
 | i + 1 => (m.rndN d i).step i d
def MM.rnd (m : MM) (T : Nat) (d : Int) : MM := m.rndN d T
def MM.rest (m : MM) (T : Nat) (d : Int) : Nat → MM
 | 0 => m
 | j + 1 => (m.rest T d j).rnd T d
def MM.quiet (m : MM) : Bool := m.c.q.all.isEmpty && m.ws.all fun w => w.ph == 0
theorem zl2 {q : QM} {t : Nat} {d : Int} {e : En} (h : q.relaxed t d = some e) : e ∈ q.all := by
 have own : ∀ j e, (q.own.getD j []).head? = some e → e ∈ q.all := fun j e he => by
  unfold QM.all
  refine List.mem_append_left _ (List.mem_append_right _ ?_)
  rw [yyd] at he
  cases hj : q.own[j]? with
  | none => rw [hj] at he; cases he
  | some l =>
   rw [hj] at he
   exact List.mem_flatten.2 ⟨l, List.mem_of_getElem? hj, List.mem_of_mem_head? he⟩
 unfold QM.relaxed at h
 have hsh : ∀ e, zgb q.sh q.k d = some e → e ∈ q.all := fun e he => by
  unfold QM.all
  refine List.mem_append_right _ ?_
  unfold zgb zfc at he
  exact List.mem_of_mem_take (List.mem_of_getElem? he)
 have hrd : ∀ e, q.round t = some e → e ∈ q.all := fun e he => by
  unfold QM.round at he
  split at he
  ·
   rename_i x hx
   cases he
   obtain ⟨j, -, hj⟩ := List.exists_of_findSome?_eq_some hx
   exact own _ _ hj
  · unfold QM.all
    refine List.mem_append_left _ (List.mem_append_left _ ?_)
    exact (za2 _).mem_iff.1 (List.mem_of_mem_head? he)
 cases ha : (q.own.getD t []).head? with
 | none =>
  rw [ha] at h
  cases hb : zgb q.sh q.k d with
  | none => rw [hb] at h; exact hrd _ h
  | some y => rw [hb] at h; cases h; exact hsh _ hb
 | some x =>
  rw [ha] at h
  cases hb : zgb q.sh q.k d with
  | none => rw [hb] at h; cases h; exact own _ _ ha
  | some y =>
   rw [hb] at h
   unfold zr5 at h
   dsimp only at h
   split at h
   · cases h; exact hsh _ hb
   · cases h; exact own _ _ ha
theorem zkn {q : QM} {t : Nat} {d : Int} (h : q.relaxed t d = none) : q.all = [] := by
 unfold QM.relaxed at h
 cases ha : (q.own.getD t []).head? with
 | some x =>
  rw [ha] at h
  cases hb : zgb q.sh q.k d with
  | none => rw [hb] at h; cases h
  | some y => rw [hb] at h; unfold zr5 at h; dsimp only at h; split at h <;> cases h
 | none =>
  rw [ha] at h
  cases hb : zgb q.sh q.k d with
  | some y => rw [hb] at h; cases h
  | none =>
   rw [hb] at h
   have h : q.round t = none := h
   have hsh : q.sh = [] := by
    unfold zgb at hb
    rw [List.getElem?_eq_none_iff] at hb
    have hl : (zfc q.sh q.k).length = min (min q.k q.sh.length + 1) q.sh.length := by unfold zfc; simp
    cases hs : q.sh with
    | nil => rfl
    | cons x l =>
     have hp : 0 < (zfc q.sh q.k).length := by rw [hl, hs]; simp only [List.length_cons]; omega
     have h1 := Int.emod_lt_of_pos d (b := ((zfc q.sh q.k).length : Int)) (by omega)
     have h2 := Int.emod_nonneg d (b := ((zfc q.sh q.k).length : Int)) (by omega)
     omega
   unfold QM.round at h
   split at h
   · cases h
   ·
    rename_i hn
    have hslot : zbc q.slots = [] := by
     have h1 : zaj (zbc q.slots) = [] := by
      cases hs : zaj (zbc q.slots) with
      | nil => rfl
      | cons x l => rw [hs] at h; cases h
     have h2 := zam (zbc q.slots)
     rw [h1] at h2
     exact List.length_eq_zero_iff.1 h2.symm
    have hown : q.own.flatten = [] := by
     rw [List.flatten_eq_nil_iff]
     intro l hl
     obtain ⟨j, hj⟩ := List.mem_iff_getElem?.1 hl
     have hjl : j < q.own.length := (yyk.1 hj).1
     rw [List.findSome?_eq_none_iff] at hn
     obtain ⟨i, hi, hij⟩ : ∃ i, i < q.own.length ∧ (t + 1 + i) % q.own.length = j := by
      have hm := Nat.mod_lt (t + 1) (show 0 < q.own.length by omega)
      rcases Nat.lt_or_ge j ((t + 1) % q.own.length) with hlt | hge
      · refine ⟨j + q.own.length - (t + 1) % q.own.length, by omega, ?_⟩
        rw [Nat.add_mod, Nat.mod_eq_of_lt (a := j + q.own.length - (t + 1) % q.own.length) (by omega), show (t + 1) % q.own.length + (j + q.own.length - (t + 1) % q.own.length) = j + q.own.length by omega, Nat.add_mod_right, Nat.mod_eq_of_lt hjl]
      · refine ⟨j - (t + 1) % q.own.length, by omega, ?_⟩
        rw [Nat.add_mod, Nat.mod_eq_of_lt (a := j - (t + 1) % q.own.length) (by omega), show (t + 1) % q.own.length + (j - (t + 1) % q.own.length) = j by omega, Nat.mod_eq_of_lt hjl]
     have h1 := hn i (List.mem_range.2 hi)
     unfold QM.look at h1
     rw [hij, yyd, hj] at h1
     cases l with
     | nil => rfl
     | cons x l => cases h1
    unfold QM.all
    rw [hslot, hown, hsh]
    rfl
theorem zm1 {c : CM} {t : Nat} {d : Int} {e : En} (h : c.look t d = some e) : e ∈ c.q.all := by
 unfold CM.look at h
 split at h
 · cases h
 ·
  rename_i r hr
  have hm := zl2 hr
  cases h
  unfold zfv
  split
  ·
   have hne : zaj c.q.all ≠ [] := fun e0 => by
    have h2 := zam c.q.all
    rw [e0] at h2
    rw [List.length_eq_zero_iff.1 h2.symm] at hm
    cases hm
   cases hs : zaj c.q.all with
   | nil => exact absurd hs hne
   | cons x l => exact (za2 _).mem_iff.1 (by rw [hs]; exact List.mem_cons_self)
  · exact hm
theorem zqc {c : CM} {t : Nat} {d : Int} (h : c.look t d = none) : c.q.all = [] := by
 unfold CM.look at h
 split at h
 · rename_i hr; exact zkn hr
 · cases h
theorem zn4 {q : QM} {t : Nat} (h : q.fullAt t = true) : ∃ e, q.slots[t]? = some (some e) := by
 unfold QM.fullAt at h
 split at h
 · exact ⟨_, by assumption⟩
 · cases h
theorem zko {q : QM} {t : Nat} (h : q.fullAt t = true) (ho : q.own.length = q.slots.length) : (zbc (q.settle t).slots).length + 1 = (zbc q.slots).length := by
 obtain ⟨e, he⟩ := zn4 h
 have ht := (yyk.1 he).1
 obtain ⟨l, hl⟩ : ∃ l, q.own[t]? = some l := ⟨_, yyg (by omega)⟩
 have p1 := (zfg _ _ _ he).length_eq
 have p2 := (zff q.slots t none ht).length_eq
 rw [List.length_append] at p1 p2
 unfold QM.settle
 rw [he, hl]
 dsimp only
 split
 ·
  show (zbc (q.slots.set t none)).length + 1 = _
  rw [p1, p2]
  simp only [Option.toList_none, Option.toList_some, List.length_nil, List.length_cons]
  omega
 ·
  show (zbc (q.slots.set t none)).length + 1 = _
  rw [p1, p2]
  simp only [Option.toList_none, Option.toList_some, List.length_nil, List.length_cons]
  omega
theorem zjf (id : Int) (l : List (Option En)) : (zbc (l.map (woO id))).length ≤ (zbc l).length := by
 have h1 : ∀ (o : Option En) (l : List (Option En)), zbc (o :: l) = o.toList ++ zbc l := fun o l => by cases o <;> rfl
 induction l with
 | nil => exact yyn
 | cons o l ih =>
  rw [List.map_cons, h1, h1, List.length_append, List.length_append]
  have h2 : (woO id o).toList.length ≤ o.toList.length := by
   unfold woO
   split
   · exact Nat.zero_le _
   · exact yyn
  omega
theorem ztr {id : Int} {l : List En} (hn : (l.map (·.id)).Nodup) (h : zc8 id l = true) : (wo id l).length + 1 = l.length := by
 induction l with
 | nil => cases h
 | cons x l ih =>
  rw [List.map_cons, List.nodup_cons] at hn
  unfold wo
  rw [List.filter_cons]
  by_cases hx : x.id = id
  ·
   have hb : (x.id == id) = true := beq_iff_eq.2 hx
   rw [hb]
   have hno : (l.any fun y => y.id == id) = false := by
    rw [List.any_eq_false]
    intro y hy hyi
    have hyi : y.id = id := by simpa using hyi
    exact hn.1 (hx.trans hyi.symm ▸ List.mem_map_of_mem hy)
   have := zcw hno
   unfold wo at this
   show (l.filter _).length + 1 = _
   rw [this]
   rfl
  ·
   have hb : (x.id == id) = false := beq_eq_false_iff_ne.2 hx
   rw [hb]
   have hh : zc8 id l = true := by
    unfold zc8 at *
    rw [List.any_cons, hb] at h
    exact h
   have := ih hn.2 hh
   unfold wo at this
   show (x :: l.filter _).length + 1 = _
   rw [List.length_cons, this]
   rfl
theorem zts {id : Int} {l : List En} {e : En} : e ∈ wo id l ↔ e ∈ l ∧ e.id ≠ id := by
 unfold wo
 rw [List.mem_filter]
 simp
theorem zjg {id : Int} {l : List En} : zc8 id l = true ↔ ∃ e ∈ l, e.id = id := by
 unfold zc8
 rw [List.any_eq_true]
 simp
theorem zc7 {α : Type} (f : α → Nat) {l : List α} {t : Nat} {w : α} (h : l[t]? = some w) (v : α) : ((l.set t v).map f).sum + f w = (l.map f).sum + f v := by
 induction l generalizing t with
 | nil => simp at h
 | cons x l ih =>
  cases t with
  | zero =>
   have h : x = w := by simpa using h
   subst h
   simp only [List.set_cons_zero, List.map_cons, List.sum_cons]
   omega
  | succ t =>
   have := ih (t := t) (by simpa using h)
   simp only [List.set_cons_succ, List.map_cons, List.sum_cons]
   omega
theorem zqd {α : Type} (f g : α → Nat) (n : Nat) {l : List α} (h : ∀ w ∈ l, f w ≤ g w + n) : (l.map f).sum ≤ (l.map g).sum + n * l.length := by
 induction l with
 | nil => exact Nat.zero_le _
 | cons x l ih =>
  have h1 := h x List.mem_cons_self
  have h2 := ih fun w hw => h w (List.mem_cons_of_mem _ hw)
  simp only [List.map_cons, List.sum_cons, List.length_cons]
  rw [Nat.mul_add]
  omega
theorem zyi {α : Type} (f : α → Nat) {l : List α} {t : Nat} {w : α} (h : l[t]? = some w) : f w ≤ (l.map f).sum := by
 have := zc7 f h w
 induction l generalizing t with
 | nil => simp at h
 | cons x l ih =>
  simp only [List.map_cons, List.sum_cons]
  cases t with
  | zero =>
   have h : x = w := by simpa using h
   subst h
   omega
  | succ t =>
   have h' : l[t]? = some w := by simpa using h
   have := ih (t := t) h' (zc7 f h' w)
   omega
def zjh (w : Wk) : Nat := if w.ph = 2 then 1 else 0
def MM.runs (m : MM) : Nat := (m.ws.map zjh).sum
def fW (c : CM) (w : Wk) : Nat := if w.ph = 0 then 1 else if w.ph = 1 then (match zb8 c w.e.id with | some x => if x.1 = 2 then 0 else 2 | none => 2) else 2
def MM.phi (m : MM) : Nat := 19 * m.c.q.all.length + (zbc m.c.q.slots).length + (m.ws.map (fW m.c)).sum
theorem zyj (c : CM) (w : Wk) : fW c w ≤ 2 := by
 unfold fW
 split
 · omega
 ·
  split
  · split
    · split <;> omega
    · omega
  · omega
theorem zhi {c : CM} {k : Nat} (hk : k < c.rows.length) (x : Int × Tk) (c' : CM) (h : c'.rows = c.rows.set k x) (id : Int) : zb8 c' id = if (id - 1).toNat = k then some x else zb8 c id := by
 unfold zb8
 rw [h, List.getElem?_set]
 by_cases e : (id - 1).toNat = k
 · rw [if_pos e.symm, if_pos e, if_pos hk]
 · rw [if_neg (fun h => e h.symm), if_neg e]
theorem zkp (c : CM) (t : Nat) (d : Int) (w : Wk) : (c.wstep t d w).1.closed = c.closed := by
 unfold CM.wstep CM.finish
 repeat' split
 all_goals rfl
theorem zl3 (m : MM) (t : Nat) (d : Int) : (m.step t d).c.closed = m.c.closed := by
 unfold MM.step
 split
 · rfl
 · exact zkp _ _ _ _
structure J (al : Int → Prop) (T k : Nat) (m : MM) : Prop where
 sl : m.c.q.slots.length = T
 ow : m.c.q.own.length = T
 k : m.c.q.k = k
 wl : m.ws.length = T
 ok : m.c.q.Ok
 qr : ∀ e ∈ m.c.q.all, 1 ≤ e.id ∧ ∃ y, zb8 m.c e.id = some (2, y) ∧ y.ke = e.key
 rq : ∀ (i : Nat) y, m.c.rows[i]? = some (2, y) → zc8 ((i : Int) + 1) m.c.q.all = true
 ro : ∀ (i : Nat) x, m.c.rows[i]? = some x → (x.1 = 2 ∨ x.1 = 3 ∨ al x.1) ∧ x.2.L = []
 wk : ∀ (t : Nat) w, m.ws[t]? = some w → w.ph = 0 ∨ (w.ph = 1 ∧ 1 ≤ w.e.id ∧ ∃ x, zb8 m.c w.e.id = some x ∧ (x.1 = 2 → x.2.ke = w.e.key)) ∨ (w.ph = 2 ∧ 1 ≤ w.e.id ∧ (∃ y, zb8 m.c w.e.id = some (3, y)) ∧ w.pc = 0 ∧ w.bad = false)
 inj : ∀ (t t' : Nat) w w', m.ws[t]? = some w → m.ws[t']? = some w' → w.ph = 2 → w'.ph = 2 → w.e.id = w'.e.id → t = t'
 cr : ∀ (i : Nat) y, m.c.rows[i]? = some (3, y) → ∃ (t : Nat) (w : Wk), m.ws[t]? = some w ∧ w.ph = 2 ∧ w.e.id = (i : Int) + 1
 o : m.c.o = ((m.c.q.all.length + m.runs : Nat) : Int)
 d : m.c.d = false
 al : al 4 ∧ ¬ al 2 ∧ ¬ al 3
end Go.Proofs.YtcfhkbcllijnkaaGreat
