/- Parts of the proof of TopOnce, under no condition. -/
import Derived.Test.YtcfhkbcllijnkaaGreatZTopOncebm
import Derived.Test.YtcfhkbcllijnkaaGreatZTopOncebl
import Derived.Test.YtcfhkbcllijnkaaGreatZTopOncebk
set_option linter.unusedVariables false
set_option linter.unusedSimpArgs false
set_option maxRecDepth 100000
set_option maxHeartbeats 0
namespace Go.Proofs.YtcfhkbcllijnkaaGreat
open Go.RowKit Go.Maps Go.Shelf Go.Proofs.YtcfhkbcllijnkaaGreatW.PrintWords
structure Ev where
 kind : Int
 T : Int
 id : Int
 key : Int
 tick : Int
def evC (e : Ev) : List Value := [.int .i64 e.kind, .int .i64 e.T, .int .i64 e.id, .int .u64 e.key, .int .u64 e.tick, .int .u64 0]
def zb9 (l : List Ev) : List Value := l.flatMap evC
theorem zlt (l : List Ev) (e : Ev) : zb9 (l ++ [e]) = zb9 l ++ evC e := by simp [zb9]
structure CA where
 cb : Nat
 q : QA
 wp : Nat
 m1 : Nat
 m2 : Nat
 m3 : Nat
 dp : Nat
 pm : Nat
 nm : Nat
 cc : Nat
 cm : Nat
 cg : Nat
 t : TA
 C : Nat
structure CS where
 q : QS
 d : Bool
 o : Int
 m : Int
 K : Int
 t : TS
 tick : Int
 closed : Bool
 evv : Value
 evs : List Ev
def zlu (A : CA) (S : CS) : Array Value := #[.int .i64 A.q.lp.length, .int .i64 A.q.k, .int .i64 A.C, .pointer (some ⟨A.q.qp, 0, none⟩), .pointer (some ⟨A.wp, 0, none⟩), .pointer (some ⟨A.dp, 0, none⟩), .pointer (some ⟨A.cc, 0, none⟩), .pointer (some ⟨A.t.t, 0, none⟩), .int .u64 S.tick, .bool S.closed, .slice none 0 0, S.evv]
def PT.hdr (cb : Nat) (c : Array Value) : PT where
 At := fun W => W.heap[cb]? = some (.cells c 100 (0, 0))
 os := OS.one (fun j => j = cb)
 sub := fun j h => h
 lt := fun {W j} h hj => by
  have e : j = cb := hj
  rw [e]
  exact zac h
 noE := fun {W} h => NoE.of fun j hj => by
  have e : j = cb := hj
  rw [e]
  exact ⟨_, h, zbe⟩
 keep := fun h f _ hd => (f.block _ (zac h) (hd _ rfl)).trans h
def PT.evs (v : Value) (l : List Ev) : PT := ⟨fun W => W.ownsRow 0 71 6 v l.length (zb9 l), OS.one (fun j => v.ownBlock = some j), fun j h => h, fun h hj => by obtain ⟨cur, hc⟩ := zba h hj; exact zac hc, fun h => NoE.of fun j hj => by obtain ⟨cur, hc⟩ := zba h hj; exact ⟨_, hc, zbe⟩, fun h f _ hd => zcv h f (fun c hc => hd c hc)⟩
def zbu (A : CA) (S : CS) : List PT := [PT.hdr A.cb (zlu A S), PT.queue A.q S.q, PT.wheel A.wp A.m1 A.m2 A.m3 0, PT.dag A.dp A.pm A.nm S.d, PT.cred A.cc A.cm A.cg A.C S.o S.m S.K, PT.tab A.t S.t, PT.evs S.evv S.evs]
def cOS (A : CA) (S : CS) : OS := znw (zbu A S)
structure zal (W : World) (A : CA) (S : CS) (N : Nat) : Prop where
 ps : PTs W (zbu A S)
 bnd : S.K ≤ N ∧ S.t.B ≤ N ∧ S.evs.length ≤ N ∧ 0 ≤ S.tick ∧ S.tick ≤ N
structure CM where
 q : QM
 d : Bool
 o : Int
 rows : List (Int × Tk)
 tick : Int
 closed : Bool
 evs : List Ev
def CS.cm (A : CA) (S : CS) : CM := ⟨S.q.q A.q.k, S.d, S.o, S.t.rows, S.tick, S.closed, S.evs⟩
structure zag (W : World) (A : CA) (S : CS) (W' : World) (S' : CS) (N' : Nat) : Prop where
 at_ : zal W' A S' N'
 ps : zb2 W (cOS A S) W' (cOS A S')
section
variable {W W' W2 : World} {A : CA} {S S' S2 : CS} {N N' N2 : Nat}
theorem zal.up (h : zal W A S N) (hN : N ≤ N') : zal W A S N' := ⟨h.ps, by obtain ⟨a, b, c, d, e⟩ := h.bnd; omega⟩
theorem zal.below (h : zal W A S N) (hb : Below W.heap.size W W') : zal W' A S N := ⟨h.ps.below hb, h.bnd⟩
theorem zag.refl (h : zal W A S N) : zag W A S W S N := ⟨h, zb2.refl _ _⟩
theorem zag.below (h : zal W A S N) (hb : Below W.heap.size W W') : zag W A S W' S N := ⟨h.below hb, zb2.below _ hb⟩
theorem zag.trans (h : zag W A S W' S' N') (k : zag W' A S' W2 S2 N2) : zag W A S W2 S2 N2 := ⟨k.at_, h.ps.trans k.ps⟩
theorem zag.up (h : zag W A S W' S' N) (hN : N ≤ N') : zag W A S W' S' N' := ⟨h.at_.up hN, h.ps⟩
theorem zal.hdr (h : zal W A S N) : W.heap[A.cb]? = some (.cells (zlu A S) 100 (0, 0)) := h.ps.at_ (PT.hdr A.cb (zlu A S)) (by simp [zbu])
theorem zal.q (h : zal W A S N) : QAt W A.q S.q := h.ps.at_ (PT.queue A.q S.q) (by simp [zbu])
theorem zal.w (h : zal W A S N) : zk0 W A.wp A.m1 A.m2 A.m3 0 := h.ps.at_ (PT.wheel A.wp A.m1 A.m2 A.m3 0) (by simp [zbu])
theorem zal.d (h : zal W A S N) : zcm W A.dp A.pm A.nm S.d := h.ps.at_ (PT.dag A.dp A.pm A.nm S.d) (by simp [zbu])
theorem zal.cr (h : zal W A S N) : zet W A.cc A.cm A.cg A.C S.o S.m S.K := h.ps.at_ (PT.cred A.cc A.cm A.cg A.C S.o S.m S.K) (by simp [zbu])
theorem zal.t (h : zal W A S N) : zbx W A.t S.t := h.ps.at_ (PT.tab A.t S.t) (by simp [zbu])
theorem zal.ev (h : zal W A S N) : W.ownsRow 0 71 6 S.evv S.evs.length (zb9 S.evs) := h.ps.at_ (PT.evs S.evv S.evs) (by simp [zbu])
theorem zal.cells (h : zal W A S N) : W.cell? ⟨A.cb, 0, none⟩ = some (.int .i64 A.q.lp.length) ∧ W.cell? ⟨A.cb, 1, none⟩ = some (.int .i64 A.q.k) ∧ W.cell? ⟨A.cb, 2, none⟩ = some (.int .i64 A.C) ∧ W.cell? ⟨A.cb, 3, none⟩ = some (.pointer (some ⟨A.q.qp, 0, none⟩)) ∧ W.cell? ⟨A.cb, 4, none⟩ = some (.pointer (some ⟨A.wp, 0, none⟩)) ∧ W.cell? ⟨A.cb, 5, none⟩ = some (.pointer (some ⟨A.dp, 0, none⟩)) ∧ W.cell? ⟨A.cb, 6, none⟩ = some (.pointer (some ⟨A.cc, 0, none⟩)) ∧ W.cell? ⟨A.cb, 7, none⟩ = some (.pointer (some ⟨A.t.t, 0, none⟩)) ∧ W.cell? ⟨A.cb, 8, none⟩ = some (.int .u64 S.tick) ∧ W.cell? ⟨A.cb, 9, none⟩ = some (.bool S.closed) ∧ W.cell? ⟨A.cb, 10, none⟩ = some (.slice none 0 0) ∧ W.cell? ⟨A.cb, 11, none⟩ = some S.evv := by
 have e := h.hdr
 unfold zlu at e
 refine ⟨?_, ?_, ?_, ?_, ?_, ?_, ?_, ?_, ?_, ?_, ?_, ?_⟩ <;> simp [World.cell?, e]
theorem zal.one (h : zal W A S N) {i : Nat} {c c' : PT} (hi : (zbu A S)[i]? = some c) (hS : zbu A S' = (zbu A S).set i c') (ha : c'.At W') (hs : zb2 W c.os W' c'.os) (hb : S'.K ≤ N' ∧ S'.t.B ≤ N' ∧ S'.evs.length ≤ N' ∧ 0 ≤ S'.tick ∧ S'.tick ≤ N') : zag W A S W' S' N' := by
 obtain ⟨k1, k2⟩ := h.ps.step hi ha hs
 rw [← hS] at k1 k2
 exact ⟨⟨k1, hb⟩, k2⟩
theorem zal.setQ {s' : QS} (h : zal W A S N) (hs : zbp W A.q S.q W' s') : zag W A S W' { S with q := s' } N :=
 h.one (i := 1) (c := PT.queue A.q S.q) (c' := PT.queue A.q s') rfl rfl hs.at_ hs.ps h.bnd
theorem zal.setT {t' : TS} (h : zal W A S N) (ht : zbx W' A.t t') (hs : zb2 W (tOS A.t S.t) W' (tOS A.t t')) (hb : t'.B ≤ N') (hN : N ≤ N') : zag W A S W' { S with t := t' } N' :=
 h.one (i := 5) (c := PT.tab A.t S.t) (c' := PT.tab A.t t') rfl rfl ht hs (by obtain ⟨a, b, c, d, e⟩ := h.bnd; exact ⟨by show S.K ≤ N'; omega, hb, by show S.evs.length ≤ N'; omega, d, by show S.tick ≤ N'; omega⟩)
theorem zal.setCr {o' m' K' : Int} (h : zal W A S N) (hc : zet W' A.cc A.cm A.cg A.C o' m' K') (hf : Fr (zb5 A.cm A.cg) W W') (hK : K' ≤ N') (hN : N ≤ N') : zag W A S W' { S with o := o', m := m', K := K' } N' :=
 h.one (i := 4) (c := PT.cred A.cc A.cm A.cg A.C S.o S.m S.K) (c' := PT.cred A.cc A.cm A.cg A.C o' m' K') rfl rfl hc (zv3 (o' := fun _ => False) hf) (by obtain ⟨a, b, c, d, e⟩ := h.bnd; exact ⟨hK, by show S.t.B ≤ N'; omega, by show S.evs.length ≤ N'; omega, d, by show S.tick ≤ N'; omega⟩)
theorem zal.setD {d' : Bool} (h : zal W A S N) (hd : zcm W' A.dp A.pm A.nm d') (hf : Fr (zdg A.dp A.pm A.nm) W W') : zag W A S W' { S with d := d' } N :=
 h.one (i := 3) (c := PT.dag A.dp A.pm A.nm S.d) (c' := PT.dag A.dp A.pm A.nm d') rfl rfl hd (zb2.one hf (fun j hj => .inl hj)) h.bnd
theorem zal.setH {tick' : Int} {cl' : Bool} (h : zal W A S N) (hh : W'.heap[A.cb]? = some (.cells (zlu A { S with tick := tick', closed := cl' }) 100 (0, 0))) (hf : Fr (fun j => j = A.cb) W W') (h0 : 0 ≤ tick') (h1 : tick' ≤ N') (hN : N ≤ N') : zag W A S W' { S with tick := tick', closed := cl' } N' :=
 h.one (i := 0) (c := PT.hdr A.cb (zlu A S)) (c' := PT.hdr A.cb (zlu A { S with tick := tick', closed := cl' })) rfl rfl hh (zb2.one hf (fun j hj => .inl hj)) (by obtain ⟨a, b, c, d, e⟩ := h.bnd; exact ⟨by show S.K ≤ N'; omega, by show S.t.B ≤ N'; omega, by show S.evs.length ≤ N'; omega, h0, h1⟩)
theorem zal.setTick (h : zal W A S N) (v : Int) (h0 : 0 ≤ v) (h1 : v ≤ N') (hN : N ≤ N') : zag W A S (W.setCell ⟨A.cb, 8, none⟩ (.int .u64 v)) { S with tick := v } N' :=
 h.setH (cl' := S.closed) (by rw [zai h.hdr]; rfl) (Fr.set (S := fun j => j = A.cb) (Fr.refl _ _) (p := ⟨A.cb, 8, none⟩) rfl _) h0 h1 hN
theorem zal.setClosed (h : zal W A S N) (b : Bool) : zag W A S (W.setCell ⟨A.cb, 9, none⟩ (.bool b)) { S with closed := b } N :=
 h.setH (tick' := S.tick) (cl' := b) (by rw [zai h.hdr]; rfl) (Fr.set (S := fun j => j = A.cb) (Fr.refl _ _) (p := ⟨A.cb, 9, none⟩) rfl _) h.bnd.2.2.2.1 h.bnd.2.2.2.2 yyn
theorem zal.setEv {w1 w2 : World} {v' : Value} {e : Ev} (h : zal W A S N) (hb : Below W.heap.size W w1) (hown : w2.ownsRow 0 71 6 v' (S.evs.length + 1) (zb9 S.evs ++ evC e)) (hg : w1.grownBy w2 S.evv.ownBlock) (hv : v'.ownBlock = S.evv.ownBlock ∨ v'.ownBlock = some w1.heap.size) : w2.cell? ⟨A.cb, 11, none⟩ = some S.evv ∧ w2.frozen? ⟨A.cb, 11, none⟩ = false ∧ zag W A S (w2.setCell ⟨A.cb, 11, none⟩ v') { S with evv := v', evs := S.evs ++ [e] } (N + 1) := by
 have h1 := h.below hb
 -- the row
 have f2 : Fr (fun j => S.evv.ownBlock = some j) w1 w2 := ⟨hg.os, hg.tape, hg.output, hg.size, fun k hk hn => hg.block k hk (fun e => hn e.symm)⟩
 have hlen : (S.evs ++ [e]).length = S.evs.length + 1 := by simp
 have hEv : (PT.evs v' (S.evs ++ [e])).At w2 := by
  show w2.ownsRow 0 _ 6 v' (S.evs ++ [e]).length (zb9 (S.evs ++ [e]))
  rw [hlen, zlt]
  exact hown
 have hst : zb2 w1 (PT.evs S.evv S.evs).os w2 (PT.evs v' (S.evs ++ [e])).os := zb2.one f2 (fun j hj => by
  rcases hv with hv | hv
  · exact .inl (hv.symm.trans hj)
  ·
   have hj : v'.ownBlock = some j := hj
   rw [hv] at hj
   injection hj with hj
   exact .inr (by omega))
 obtain ⟨k1, k2⟩ := h1.ps.step (i := 6) (c := PT.evs S.evv S.evs) (c' := PT.evs v' (S.evs ++ [e])) rfl hEv hst
 have hh2 : w2.heap[A.cb]? = some (.cells (zlu A S) 100 (0, 0)) := k1.at_ (PT.hdr A.cb (zlu A S)) (by simp [zbu])
 have hc : w2.cell? ⟨A.cb, 11, none⟩ = some S.evv := by simp [World.cell?, hh2, zlu]
 obtain ⟨j1, j2⟩ := k1.step (W' := w2.setCell ⟨A.cb, 11, none⟩ v') (i := 0) (c := PT.hdr A.cb (zlu A S)) (c' := PT.hdr A.cb (zlu A { S with evv := v', evs := S.evs ++ [e] })) rfl (by
  show (w2.setCell ⟨A.cb, 11, none⟩ v').heap[A.cb]? = _
  rw [zai hh2]
  rfl) (zb2.one (Fr.set (S := fun j => j = A.cb) (Fr.refl _ _) (p := ⟨A.cb, 11, none⟩) rfl _) (fun j hj => .inl hj))
 obtain ⟨b1, b2, b3, b4, b5⟩ := h.bnd
 refine ⟨hc, za5 hh2, ⟨⟨j1, by show S.K ≤ ((N + 1 : Nat) : Int); omega, by show S.t.B ≤ ((N + 1 : Nat) : Int); omega, by show (S.evs ++ [e]).length ≤ N + 1; omega, b4, by show S.tick ≤ ((N + 1 : Nat) : Int); omega⟩, ?_⟩⟩
 exact (zb2.below _ hb).trans (k2.trans j2)
end
theorem zjb (e : Ev) : ∀ u ∈ evC e, u.oneCell' = true := by
 intro u hu
 simp [evC] at hu
 rcases hu with rfl | rfl | rfl | rfl | rfl | rfl <;> rfl
theorem zx5 {w : World} {b : Nat} {e : Ev} (h : w.heap[b]? = some (.cells (evC e).toArray 71 (0, 0))) : ∀ j v, (evC e)[j]? = some v → w.cell? ((⟨b, 0, none⟩ : Addr).add j) = some v := by
 intro j v hv
 rw [show (⟨b, 0, none⟩ : Addr).add j = ⟨b, 0 + j, none⟩ from by simp [Addr.add]; intro h; exact h.symm, Nat.zero_add, zaa h]
 simpa using hv
section
variable {W W' : World} {A : CA} {S : CS} {N : Nat}
theorem zhf (h : zal W A S N) (hN : N ≤ 500000000) (kind T id key : Int) : Calls Tryz.prog 72 #[.pointer (some ⟨A.cb, 0, none⟩), .agg #[.int .i64 kind, .int .i64 T, .int .i64 id, .int .u64 key, .int .u64 0, .int .u64 0]] W fun e w' => e = .returned (.tuple #[]) ∧ ∃ v', zag W A S w' { S with evv := v', evs := S.evs ++ [⟨kind, T, id, key, S.tick⟩] } (N + 1) := by
 obtain ⟨W1, hW1⟩ := yye (W.alloc (.cells #[.int .i64 kind, .int .i64 T, .int .i64 id, .int .u64 key, .int .u64 0, .int .u64 0] 71))
 have hb1 : Below W.heap.size W W1 := by rw [← hW1]; exact zab yyr _
 have x1 : W1.heap[W.heap.size]? = some (.cells #[.int .i64 kind, .int .i64 T, .int .i64 id, .int .u64 key, .int .u64 0, .int .u64 0] 71 (0, 0)) := by rw [← hW1]; exact heap_alloc_new W _
 have h1 := h.below hb1
 obtain ⟨-, -, -, -, c4, -, -, -, c8, -, -, c11⟩ := h1.cells
 have HNow := yyh (fun n => zdr (ztj ((h1.below (zjl yyr n)).w)))
 have y4 : W1.cell? ⟨W.heap.size, 4, none⟩ = some (.int .u64 0) := by simp [World.cell?, x1]
 have y5 : W1.cell? ⟨W.heap.size, 5, none⟩ = some (.int .u64 0) := by simp [World.cell?, x1]
 have z4 : W1.frozen? ⟨W.heap.size, 4, none⟩ = false := za5 x1
 have z5 : W1.frozen? ⟨W.heap.size, 5, none⟩ = false := za5 x1
 have y4d : W1.drew.cell? ⟨W.heap.size, 4, none⟩ = some (.int .u64 0) := y4
 have y5d : W1.drew.cell? ⟨W.heap.size, 5, none⟩ = some (.int .u64 0) := y5
 have z4d : W1.drew.frozen? ⟨W.heap.size, 4, none⟩ = false := z4
 have z5d : W1.drew.frozen? ⟨W.heap.size, 5, none⟩ = false := z5
 have hend : ((W1.setCell ⟨W.heap.size, 4, none⟩ (.int .u64 S.tick)).setCell ⟨W.heap.size, 5, none⟩ (.int .u64 0)).heap[W.heap.size]? = some (.cells (evC ⟨kind, T, id, key, S.tick⟩).toArray 71 (0, 0)) := by
  rw [zai (zai x1 _)]
  rfl
 have HE := yyh hend
 clear hend
 have H := yyh (yyi h (yyi hb1 x1))
 clear h hb1 x1 h1
 go_enter Tryz.func72, Tryz.ntmps72
 go_upto_region 1 with fail
 go_cut [] (fun w => w.heap[W.heap.size]? = some (.cells (evC ⟨kind, T, id, key, S.tick⟩).toArray 71 (0, 0)) ∧ Below W.heap.size W w)
 case first =>
  refine wp_region_still_tail 10 (by kernel_rfl) (by kernel_rfl) ?_
  simp only [List.take_succ_cons, List.take_zero, List.drop_succ_cons, List.drop_zero]
  iterate 8 still_step
  still_call (HNow.out _)
  still_step
  refine wpStill_nil ?_
  change wpList _ _ _ _ _ W1.drew
  go_wp2_with fail
  go_meet
  exact ⟨HE.out, zaf (zak (zak H.out.2.1 _ _ _ yyn) _ _ _ yyn)⟩
 case rest =>
  clear y4 y5 z4 z5 y4d y5d z4d z5d c4 c8 c11 hW1 HE HNow
  obtain ⟨hx, hB⟩ := hcut
  have hc := H.out.1.below hB
  obtain ⟨Wd, hWd⟩ := yye (wc.drew)
  have hBd : Below W.heap.size W Wd := by rw [← hWd]; exact zaf hB
  have hd := H.out.1.below hBd
  have hxd : Wd.heap[W.heap.size]? = some (.cells (evC ⟨kind, T, id, key, S.tick⟩).toArray 71 (0, 0)) := by rw [← hWd]; exact hx
  obtain ⟨a, cap, hav, -⟩ := SlV.clip (SlV.of_owns hd.ev)
  obtain ⟨n, hn⟩ := yye (S.evs.length)
  have hbA : Below W.heap.size W (Wd.alloc (.cells #[.int .i64 kind, .int .i64 T, .int .i64 id, .int .u64 key, .int .u64 S.tick, .int .u64 0] 71)) := zab hBd _
  have hA := H.out.1.below hbA
  have c0 : Wd.cell? ⟨A.cb, 11, none⟩ = some (.slice a n cap) := by rw [hd.cells.2.2.2.2.2.2.2.2.2.2.2, hav, hn]
  have c1 : (Wd.alloc (.cells #[.int .i64 kind, .int .i64 T, .int .i64 id, .int .u64 key, .int .u64 S.tick, .int .u64 0] 71)).cell? ⟨A.cb, 11, none⟩ = some (.slice a n cap) := by rw [hA.cells.2.2.2.2.2.2.2.2.2.2.2, hav, hn]
  have b0 : Wd.cell? ⟨W.heap.size, 0, none⟩ = some (.int .i64 kind) := by rw [zaa hxd]; rfl
  have b1 : Wd.cell? ⟨W.heap.size, 1, none⟩ = some (.int .i64 T) := by rw [zaa hxd]; rfl
  have b2 : Wd.cell? ⟨W.heap.size, 2, none⟩ = some (.int .i64 id) := by rw [zaa hxd]; rfl
  have b3 : Wd.cell? ⟨W.heap.size, 3, none⟩ = some (.int .u64 key) := by rw [zaa hxd]; rfl
  have b4 : Wd.cell? ⟨W.heap.size, 4, none⟩ = some (.int .u64 S.tick) := by rw [zaa hxd]; rfl
  have b5 : Wd.cell? ⟨W.heap.size, 5, none⟩ = some (.int .u64 0) := by rw [zaa hxd]; rfl
  have hevd := hA.ev
  rw [hav, hn] at hevd
  have HROW := yyh hevd
  have HNEWS := yyh (zx5 (e := ⟨kind, T, id, key, S.tick⟩) (heap_alloc_new Wd _))
  have HN := yyh (yyi hn (yyi hav hbA))
  have hnN : n ≤ N := by rw [← hn]; exact H.out.1.bnd.2.2.1
  obtain ⟨i0, hi0, hz0, hz1, hz2⟩ := info_parts zs0
  clear hx hB hc hBd hd hxd hav hn hbA hA hevd
  go_upto_region 2 with fail
  -- REGION 2 BEGIN
  refine wp_region_held_drew (S := fun _ => True) (by kernel_rfl) trivial (fun hH => ?_)
  refine tq 0 ?_ rfl ?_ ?_
  rotate_left
  · (intro w hSw; go_simp; try with_reducible rfl)
  try simp only [Act.put, pA, pB, pC]
  refine tq 1 ?_ rfl ?_ ?_
  rotate_left
  · (intro w hSw; go_simp; try with_reducible rfl)
  try simp only [Act.put, pA, pB, pC]
  refine tq 2 ?_ rfl ?_ ?_
  rotate_left
  · (intro w hSw; go_simp; try with_reducible rfl)
  try simp only [Act.put, pA, pB, pC]
  refine tq 3 ?_ rfl ?_ ?_
  rotate_left
  · (intro w hSw; go_simp; try with_reducible rfl)
  try simp only [Act.put, pA, pB, pC]
  refine wpAnyH_ready (rs := [4, 5]) (by kernel_rfl) (by simp) ?_
  refine AllReadyH.cons rfl (fun K hK => ?_) ?_
  ·
   (go_simp)
   refine hK.out _ _ ?_ (fun hH => ?_)
   · (try dsimp only); (all_goals trivial)
   clear hK K
   refine rd 5 (by kernel_rfl) rfl (fun K hK => ?_)
   ·
    (go_simp)
    refine hK.out _ _ ?_ (fun hH => ?_)
    · (try dsimp only); (all_goals trivial)
    clear hK K
    refine rd 6 (by kernel_rfl) rfl (fun K hK => ?_)
    ·
     (go_simp)
     refine hK.out _ _ ?_ (fun hH => ?_)
     · (try dsimp only); (all_goals trivial)
     clear hK K
     refine rd 7 (by kernel_rfl) rfl (fun K hK => ?_)
     ·
      (refine step_append_lies _ rfl (.tmp 19) (.tmp 21) 60 rfl 0 71 i0 zEv 6 48 Tryz.underlying60 hi0 hz0 hz1 hz2 rfl (by decide) _ n (zb9 S.evs) (by simp [Act.eval, Act.put]) HROW.out ⟨Wd.heap.size, 0, none⟩ 1 1 (evC ⟨kind, T, id, key, S.tick⟩) (by simp [Act.eval, Act.put]) rfl HNEWS.out (zjb _) (by decide) (by unfold maxLen; omega) (by omega) (Nat.zero_le _) _ rfl ?_; intro g4 k4 w9 hown9 hg9 hat9 hlt9; have hE9 := H.out.1.setEv (e := ⟨kind, T, id, key, S.tick⟩) HN.out.2.2 (by rw [HN.out.1]; exact hown9) (by rw [HN.out.2.1, HN.out.1]; exact hg9) (by rw [HN.out.2.1, HN.out.1]; exact hat9.elim (fun e => .inl e.symm) (fun e => .inr (by rw [e]; rfl))); obtain ⟨hh9, hf9, hst9⟩ := hE9; rw [HN.out.2.1, HN.out.1] at hh9; have HN9 := yyh hst9; clear hown9 hg9 hat9 hst9)
      refine hK.out _ _ ?_ (fun hH => ?_)
      · (try dsimp only); (all_goals trivial)
      clear hK K
      refine tq 8 ?_ rfl ?_ ?_
      rotate_left
      · (intro w hSw; go_simp; try with_reducible rfl)
      try simp only [Act.put, pA, pB, pC]
      refine tq 9 ?_ rfl ?_ ?_
      rotate_left
      · (intro w hSw; go_simp; try with_reducible rfl)
      try simp only [Act.put, pA, pB, pC]
      refine rd 10 (by kernel_rfl) rfl (fun K hK => ?_)
      ·
       (go_simp)
       refine hK.out _ _ ?_ (fun hH => ?_)
       · (try dsimp only); (all_goals trivial)
       clear hK K
       refine wpAnyH_done (by kernel_rfl) ?_ _
       go_wp2_with fail
       go_end0
       exact ⟨rfl, _, HN9.out⟩
  refine AllReadyH.cons rfl (fun K hK => ?_) ?_
  ·
   (go_simp)
   refine hK.out _ _ ?_ (fun hH => ?_)
   · (try dsimp only); (all_goals trivial)
   clear hK K
   refine wpAnyH_ready (rs := [4, 6]) (by kernel_rfl) (by simp) ?_
   refine AllReadyH.cons rfl (fun K hK => ?_) ?_
   ·
    (go_simp)
    refine hK.out _ _ ?_ (fun hH => ?_)
    · (try dsimp only); (all_goals trivial)
    clear hK K
    refine rd 6 (by kernel_rfl) rfl (fun K hK => ?_)
    ·
     (go_simp)
     refine hK.out _ _ ?_ (fun hH => ?_)
     · (try dsimp only); (all_goals trivial)
     clear hK K
     refine rd 7 (by kernel_rfl) rfl (fun K hK => ?_)
     ·
      (refine step_append_lies _ rfl (.tmp 19) (.tmp 21) 60 rfl 0 71 i0 zEv 6 48 Tryz.underlying60 hi0 hz0 hz1 hz2 rfl (by decide) _ n (zb9 S.evs) (by simp [Act.eval, Act.put]) HROW.out ⟨Wd.heap.size, 0, none⟩ 1 1 (evC ⟨kind, T, id, key, S.tick⟩) (by simp [Act.eval, Act.put]) rfl HNEWS.out (zjb _) (by decide) (by unfold maxLen; omega) (by omega) (Nat.zero_le _) _ rfl ?_; intro g4 k4 w9 hown9 hg9 hat9 hlt9; have hE9 := H.out.1.setEv (e := ⟨kind, T, id, key, S.tick⟩) HN.out.2.2 (by rw [HN.out.1]; exact hown9) (by rw [HN.out.2.1, HN.out.1]; exact hg9) (by rw [HN.out.2.1, HN.out.1]; exact hat9.elim (fun e => .inl e.symm) (fun e => .inr (by rw [e]; rfl))); obtain ⟨hh9, hf9, hst9⟩ := hE9; rw [HN.out.2.1, HN.out.1] at hh9; have HN9 := yyh hst9; clear hown9 hg9 hat9 hst9)
      refine hK.out _ _ ?_ (fun hH => ?_)
      · (try dsimp only); (all_goals trivial)
      clear hK K
      refine tq 8 ?_ rfl ?_ ?_
      rotate_left
      · (intro w hSw; go_simp; try with_reducible rfl)
      try simp only [Act.put, pA, pB, pC]
      refine tq 9 ?_ rfl ?_ ?_
      rotate_left
      · (intro w hSw; go_simp; try with_reducible rfl)
      try simp only [Act.put, pA, pB, pC]
      refine rd 10 (by kernel_rfl) rfl (fun K hK => ?_)
      ·
       (go_simp)
       refine hK.out _ _ ?_ (fun hH => ?_)
       · (try dsimp only); (all_goals trivial)
       clear hK K
       refine wpAnyH_done (by kernel_rfl) ?_ _
       go_wp2_with fail
       go_end0
       exact ⟨rfl, _, HN9.out⟩
   refine AllReadyH.cons rfl (fun K hK => ?_) ?_
   ·
    (go_simp)
    refine hK.out _ _ ?_ (fun hH => ?_)
    · (try dsimp only); (all_goals trivial)
    clear hK K
    refine rd 4 (by kernel_rfl) rfl (fun K hK => ?_)
    ·
     (go_simp)
     refine hK.out _ _ ?_ (fun hH => ?_)
     · (try dsimp only); (all_goals trivial)
     clear hK K
     refine rd 7 (by kernel_rfl) rfl (fun K hK => ?_)
     ·
      (refine step_append_lies _ rfl (.tmp 19) (.tmp 21) 60 rfl 0 71 i0 zEv 6 48 Tryz.underlying60 hi0 hz0 hz1 hz2 rfl (by decide) _ n (zb9 S.evs) (by simp [Act.eval, Act.put]) HROW.out ⟨Wd.heap.size, 0, none⟩ 1 1 (evC ⟨kind, T, id, key, S.tick⟩) (by simp [Act.eval, Act.put]) rfl HNEWS.out (zjb _) (by decide) (by unfold maxLen; omega) (by omega) (Nat.zero_le _) _ rfl ?_; intro g4 k4 w9 hown9 hg9 hat9 hlt9; have hE9 := H.out.1.setEv (e := ⟨kind, T, id, key, S.tick⟩) HN.out.2.2 (by rw [HN.out.1]; exact hown9) (by rw [HN.out.2.1, HN.out.1]; exact hg9) (by rw [HN.out.2.1, HN.out.1]; exact hat9.elim (fun e => .inl e.symm) (fun e => .inr (by rw [e]; rfl))); obtain ⟨hh9, hf9, hst9⟩ := hE9; rw [HN.out.2.1, HN.out.1] at hh9; have HN9 := yyh hst9; clear hown9 hg9 hat9 hst9)
      refine hK.out _ _ ?_ (fun hH => ?_)
      · (try dsimp only); (all_goals trivial)
      clear hK K
      refine tq 8 ?_ rfl ?_ ?_
      rotate_left
      · (intro w hSw; go_simp; try with_reducible rfl)
      try simp only [Act.put, pA, pB, pC]
      refine tq 9 ?_ rfl ?_ ?_
      rotate_left
      · (intro w hSw; go_simp; try with_reducible rfl)
      try simp only [Act.put, pA, pB, pC]
      refine rd 10 (by kernel_rfl) rfl (fun K hK => ?_)
      ·
       (go_simp)
       refine hK.out _ _ ?_ (fun hH => ?_)
       · (try dsimp only); (all_goals trivial)
       clear hK K
       refine wpAnyH_done (by kernel_rfl) ?_ _
       go_wp2_with fail
       go_end0
       exact ⟨rfl, _, HN9.out⟩
   exact AllReadyH.nil
  exact AllReadyH.nil
  -- REGION 2 END
end
section
variable {W W' : World} {A : CA} {S : CS} {N : Nat}
theorem zjc (h : zal W A S N) (t : Nat) (ht : t < A.q.lp.length) : Calls Tryz.prog 66 #[.pointer (some ⟨A.cb, 0, none⟩), .int .i64 t] W fun e w' => e = .returned (.bool true) ∧ W = w' := by
 obtain ⟨c0, -⟩ := h.cells
 have h1 : (0 : Int) ≤ (t : Int) := by omega
 have h2 : (t : Int) < (A.q.lp.length : Int) := by omega
 obtain ⟨T, hT⟩ := yye (A.q.lp.length)
 rw [hT] at c0 h2
 clear h hT ht
 go_enter Tryz.func66, Tryz.ntmps66
 go_wp2_with fail
 go_ret
 exact ⟨by simp, rfl⟩
theorem zmx (h : zal W A S N) : Calls Tryz.prog 104 #[.pointer (some ⟨A.cb, 0, none⟩)] W fun e w' => e = .returned (.agg #[.int .i64 A.q.lp.length, .int .i64 A.q.k, .int .i64 A.C]) ∧ Below W.heap.size W w' := by
 obtain ⟨T, hT⟩ := yye (A.q.lp.length)
 have hb1 : Below W.heap.size W (W.alloc (.cells #[.int .i64 0, .int .i64 0, .int .i64 0] 83)) := zab yyr _
 obtain ⟨c0, c1, c2, -⟩ := (h.below hb1).cells
 have hb2 : Below W.heap.size W (W.alloc (.cells #[.int .i64 T, .int .i64 A.q.k, .int .i64 A.C] 83)) := zab yyr _
 have HB := yyh hb2
 rw [hT] at c0 ⊢
 clear h hT hb1 hb2
 go_enter Tryz.func104, Tryz.ntmps104
 go_wp2_with fail
 refine bodyPost_ret (v := .agg #[.int .i64 T, .int .i64 A.q.k, .int .i64 A.C]) (by simp [results, Tryz.results104, go_sem]) rfl ?_
 exact ⟨rfl, HB.out⟩
theorem zmy (h : zal W A S N) (hq : (S.q.q A.q.k).Ok) (t : Nat) (ht : t < A.q.lp.length) : Calls Tryz.prog 105 #[.pointer (some ⟨A.cb, 0, none⟩), .int .i64 t] W fun e w' => e = .returned (.bool ((S.q.q A.q.k).fullAt t)) ∧ ∃ s', zag W A S w' { S with q := s' } N ∧ s'.q A.q.k = (S.q.q A.q.k).settle t := by
 obtain ⟨-, -, -, c3, -⟩ := h.cells
 have HS := yyh (zmr h.q hq t ht)
 have H := yyh h
 clear h hq
 go_enter Tryz.func105, Tryz.ntmps105
 go_wp2_with fail
 refine HS.out.mono ?_
 rintro e w1 ⟨rfl, s', hs, hq⟩
 have HE := yyh (yyi hs hq)
 clear hs hq
 go_wp2_with fail
 go_ret
 exact ⟨rfl, s', H.out.setQ HE.out.1, HE.out.2⟩
theorem zgk (h : zal W A S N) (hN : N ≤ 500000000) (k : Nat) (x : Int × Tk) (hx : S.t.rows[k]? = some x) : Calls Tryz.prog 22 #[.pointer (some ⟨A.cb, 0, none⟩), .int .i64 ((k : Int) + 1)] W fun e w' => e = .returned (.int .i64 x.1) ∧ zag W A S w' { S with t := { S.t with B := S.t.B + 1 } } (N + 1) := by
 obtain ⟨-, -, -, -, -, -, -, c7, -⟩ := h.cells
 have hB := h.bnd.2.1
 have HG := yyh (zv0 h.t (by omega) k x hx)
 have H := yyh h
 have HBd := yyh hB
 clear h hx hB
 go_enter Tryz.func22, Tryz.ntmps22
 go_wp2_with fail
 refine HG.out.mono ?_
 rintro e w1 ⟨rfl, ht, hp⟩
 unfold tkV
 have HE := yyh (H.out.setT (N' := N + 1) ht hp (by have := HBd.out; show S.t.B + 1 ≤ _; omega) (by omega))
 clear ht hp
 go_wp2_with fail
 go_ret
 exact ⟨rfl, HE.out.trans (zag.below HE.out.at_ (zab yyr _))⟩
theorem ztl (h : zal W A S N) (k : Nat) (x : Int × Tk) (hx : S.t.rows[k]? = some x) : Calls Tryz.prog 158 #[.pointer (some ⟨A.cb, 0, none⟩), .int .i64 ((k : Int) + 1)] W fun e w' => ∃ v', e = .returned v' ∧ zd4 w' v' x.2.L ∧ Below W.heap.size W w' := by
 obtain ⟨-, -, -, -, -, -, -, c7, -⟩ := h.cells
 have HG := yyh (zx3 h.t k x hx)
 clear h hx
 go_enter Tryz.func158, Tryz.ntmps158
 go_wp2_with fail
 refine HG.out.mono ?_
 rintro e w1 ⟨v', rfl, ho, hb⟩
 have HE := yyh (yyi ho hb)
 clear ho hb
 go_wp2_with fail
 go_ret
 exact ⟨_, rfl, HE.out⟩
end
def CM.made (c : CM) (st prio : Int) (L : List Op3) : CM := { c with o := c.o + 1, rows := c.rows ++ [(st, zja prio L)], evs := c.evs ++ [⟨1, -1, (c.rows.length : Int) + 1, 0, c.tick⟩] }
def zgc (W : World) (own : Nat → Prop) (v : Value) (L : List Op3) : Prop := zd4 W v L ∧ (L = [] ∨ ∀ c, v.ownBlock = some c → ¬ own c) ∧ L.length ≤ 16 ∧ bodyB L = true
def MkS (cb tt jb : Nat) (w : World) : Prop := w.cell? ⟨cb, 7, none⟩ = some (.pointer (some ⟨tt, 0, none⟩)) ∧ w.cell? ⟨jb, 0, none⟩ = some (.int .u64 0) ∧ w.cell? ⟨jb, 1, none⟩ = some (.int .u64 0) ∧ w.cell? ⟨jb, 2, none⟩ = some (.int .u64 0) ∧ w.cell? ⟨jb, 3, none⟩ = some (.int .u64 0) ∧ w.cell? ⟨jb, 4, none⟩ = some (.int .u64 0)
section
variable {W W' : World} {A : CA} {S S' : CS} {N N' : Nat}
theorem zag.kept (h : zal W A S N) (k : zag W A S W' S' N') {j : Nat} {o : Obj} (hj : ¬ (cOS A S).own j) (ho : W.heap[j]? = some o) : W'.heap[j]? = some o :=
 (k.ps.fr.block _ (zac ho) (fun e => hj (by obtain ⟨c, hc, hw⟩ := e; exact ⟨c, hc, c.sub _ hw⟩))).trans ho
theorem zal.lt (h : zal W A S N) {j : Nat} (hj : (cOS A S).own j) : j < W.heap.size := h.ps.lt hj
theorem zgc.step {v : Value} {L : List Op3} (h : zgc W (cOS A S).own v L) (hw : ∀ c, v.ownBlock = some c → c < W.heap.size) (k : zag W A S W' S' N') : zgc W' (cOS A S').own v L := by
 obtain ⟨h1, h2, h3, h4⟩ := h
 refine ⟨h1.frOr k.ps.fr ?_, ?_, h3, h4⟩
 · rcases h2 with h2 | h2
   · exact .inl h2
   · exact .inr (fun c hc e => h2 c hc (by obtain ⟨d, hd, hw⟩ := e; exact ⟨d, hd, d.sub _ hw⟩))
 ·
  rcases h2 with h2 | h2
  · exact .inl h2
  ·
   refine .inr (fun c hc e => ?_)
   rcases k.ps.own c e with e | e
   · exact h2 c hc e
   · have := hw c hc
     omega
theorem MkS.kept {jb : Nat} (h : MkS A.cb A.t.t jb W) (hj : ¬ (cOS A S).own jb) (k : zag W A S W' S' N') : MkS A.cb A.t.t jb W' := by
 have n : ¬ (cOS A S).wr jb := fun e => hj (by obtain ⟨c, hc, hw⟩ := e; exact ⟨c, hc, c.sub _ hw⟩)
 exact ⟨k.at_.cells.2.2.2.2.2.2.2.1, za6 k.ps.fr n h.2.1, za6 k.ps.fr n h.2.2.1, za6 k.ps.fr n h.2.2.2.1, za6 k.ps.fr n h.2.2.2.2.1, za6 k.ps.fr n h.2.2.2.2.2⟩
theorem ztm (h : zal W A S N) (hN : N ≤ 400000000) (ho : S.o < A.C) (hn : S.t.rows.length < 200) (prio st : Int) (p0 : 0 ≤ prio) (p7 : prio ≤ 7) (s0 : 1 ≤ st) (s6 : st ≤ 6) (hcan : canB 0 st = true) (v : Value) (L : List Op3) (hO : zgc W (cOS A S).own v L) (hv : ∀ c, v.ownBlock = some c → c < W.heap.size) : Calls Tryz.prog 36 #[.pointer (some ⟨A.cb, 0, none⟩), .int .i64 prio, v, zv2, .int .i64 st] W fun e w' => e = .returned (.tuple #[.int .i64 ((S.t.rows.length : Int) + 1), .int .i64 0]) ∧ ∃ S', zag W A S w' S' (N + 210) ∧ S'.cm A = (S.cm A).made st prio L := by
 obtain ⟨n, hn2⟩ := yye (S.t.rows.length)
 rw [hn2] at hn ⊢
 have HN2 := yyh hn2
 clear hn2
 obtain ⟨W1, hW1⟩ := yye (W.alloc (.cells #[.int .u64 0, .int .u64 0, .int .u64 0, .int .u64 0, .int .u64 0] 93))
 have hb1 : Below W.heap.size W W1 := by rw [← hW1]; exact zab yyr _
 have x1 : W1.heap[W.heap.size]? = some (.cells #[.int .u64 0, .int .u64 0, .int .u64 0, .int .u64 0, .int .u64 0] 93 (0, 0)) := by rw [← hW1]; exact heap_alloc_new W _
 have h1 := h.below hb1
 have hjn : ¬ (cOS A S).own W.heap.size := fun e => by have := h.lt e; omega
 obtain ⟨-, -, -, -, -, -, c6, -⟩ := h1.cells
 have hbn := h.bnd
 obtain ⟨m', hm'⟩ : ∃ m', (S.m < S.o + 1 ∧ m' = S.o + 1) ∨ (S.o + 1 ≤ S.m ∧ m' = S.m) := by
  rcases Int.lt_or_le S.m (S.o + 1) with hh | hh
  · exact ⟨_, .inl ⟨hh, rfl⟩⟩
  · exact ⟨_, .inr ⟨hh, rfl⟩⟩
 have HT := yyh (zrb h1.cr (by omega) ho hm')
 have hO1 := zgc.step hO hv (zag.below h hb1)
 have H := yyh (yyi h1 (yyi hbn (yyi hO1 (yyi hjn (yyi x1 (yyi (zag.below h hb1) (fun c hc => Nat.lt_of_lt_of_le (hv c hc) hb1.size)))))))
 have HP := yyh (yyi hn (yyi p0 (yyi p7 (yyi s0 (yyi s6 hcan)))))
 clear h hb1 h1 hbn hO hv hO1 hm' ho hjn x1 hn p0 p7 s0 s6 hcan
 unfold zv2
 go_enter Tryz.func36, Tryz.ntmps36
 go_wp2_with fail
 refine HT.out.mono ?_
 rintro e w1 ⟨rfl, hc, hf⟩
 obtain ⟨h1, hbn, hO1, hjn, x1, k0, hv1⟩ := H.out
 have k1 := h1.setCr (N' := N + 4) hc hf (by omega) (by omega)
 obtain ⟨S1, hS1⟩ : ∃ S1 : CS, { S with o := S.o + 1, m := m', K := S.K + 4 } = S1 := ⟨_, rfl⟩
 rw [hS1] at k1
 have hO2 := zgc.step hO1 hv1 k1
 have hjn1 : ¬ (cOS A S1).own W.heap.size := fun e => by
  rcases k1.ps.own _ e with e | e
  · exact hjn e
  · have := zac x1
    omega
 have x2 := zag.kept h1 k1 hjn x1
 have hB2 := k1.at_.bnd
 have ht : S1.t = S.t := by rw [← hS1]
 have hcd : zal w1.drew A S1 (N + 4) := k1.at_.below (zaf yyr)
 have hM := zx4 hcd.t (by omega) (by rw [ht, HN2.out]; exact HP.out.1) prio st HP.out.2.1 HP.out.2.2.1 HP.out.2.2.2.1 HP.out.2.2.2.2.1 HP.out.2.2.2.2.2 v L hO2.2.2.1 hO2.2.2.2 (hO2.1.below (zaf yyr)) (by
  rcases hO2.2.1 with e | e
  · exact .inl e
  · exact .inr (fun c hc ec => e c hc ⟨PT.tab A.t S1.t, by simp [zbu], .inl (zfj rfl rfl c ec)⟩))
 have hn2 := HN2.out
 have hnn : S1.t.rows.length = n := by rw [ht]; exact hn2
 rw [hnn] at hM
 unfold zv2 at hM
 have HM := yyh hM
 have hx0 : w1.drew.heap[W.heap.size]? = some (.cells #[.int .u64 0, .int .u64 0, .int .u64 0, .int .u64 0, .int .u64 0] 93 (0, 0)) := x2
 have hsx : MkS A.cb A.t.t W.heap.size w1.drew := by
  refine ⟨hcd.cells.2.2.2.2.2.2.2.1, ?_, ?_, ?_, ?_, ?_⟩ <;> (rw [zaa hx0]; rfl)
 have HSX := yyh hsx
 have HC1 := yyh (yyi hcd hjn1)
 have hn200 : n < 200 := HP.out.1
 have HK := yyh (yyi (k0.trans k1) (yyi hn2 (yyi hS1 hB2)))
 clear hc hf h1 hbn hO1 hjn x1 k0 hv1 k1 hO2 hjn1 x2 hB2 hM hsx hnn ht hS1 hcd hx0 hn2
 go_upto_region 3 with fail
 go_cut [20, 12, 13] (fun v20 v12 v13 w => v12 = .int .i64 ((n : Int) + 1) ∧ v13 = .int .i64 0 ∧ ∃ t', zag w1.drew A S1 w { S1 with t := t' } (N + 206) ∧ t'.rows = S1.t.rows ++ [(st, zja prio L)])
 case first =>
  skip
  -- REGION 3 BEGIN
  refine wp_region_held_drew (S := MkS A.cb A.t.t W.heap.size) (by kernel_rfl) HSX.out (fun hH => ?_)
  refine tq 0 ?_ rfl ?_ ?_
  rotate_left
  · (rintro w ⟨_, _, _, _, _, _⟩; go_simp; try with_reducible rfl)
  try simp only [Act.put, pA, pB, pC]
  refine tq 1 ?_ rfl ?_ ?_
  rotate_left
  · (rintro w ⟨_, _, _, _, _, _⟩; go_simp; try with_reducible rfl)
  try simp only [Act.put, pA, pB, pC]
  refine tq 2 ?_ rfl ?_ ?_
  rotate_left
  · (rintro w ⟨_, _, _, _, _, _⟩; go_simp; try with_reducible rfl)
  try simp only [Act.put, pA, pB, pC]
  refine tq 3 ?_ rfl ?_ ?_
  rotate_left
  · (rintro w ⟨_, _, _, _, _, _⟩; go_simp; try with_reducible rfl)
  try simp only [Act.put, pA, pB, pC]
  refine tq 4 ?_ rfl ?_ ?_
  rotate_left
  · (rintro w ⟨_, _, _, _, _, _⟩; go_simp; try with_reducible rfl)
  try simp only [Act.put, pA, pB, pC]
  refine tq 5 ?_ rfl ?_ ?_
  rotate_left
  · (rintro w ⟨_, _, _, _, _, _⟩; go_simp; try with_reducible rfl)
  try simp only [Act.put, pA, pB, pC]
  refine tq 6 ?_ rfl ?_ ?_
  rotate_left
  · (rintro w ⟨_, _, _, _, _, _⟩; go_simp; try with_reducible rfl)
  try simp only [Act.put, pA, pB, pC]
  refine tq 7 ?_ rfl ?_ ?_
  rotate_left
  · (rintro w ⟨_, _, _, _, _, _⟩; go_simp; try with_reducible rfl)
  try simp only [Act.put, pA, pB, pC]
  refine rd 8 (by kernel_rfl) rfl (fun K hK => ?_)
  ·
   (go_simp; go_at_call 71; refine HM.out.mono ?_; rintro e w5 ⟨rfl, t', ht5, hp5, hr5, hb5⟩; have k5 := HC1.out.1.setT (N' := N + 206) ht5 hp5 (by have := HK.out.2.2.2.2.1; omega) (by omega); have HX := yyh (yyi k5 hr5); clear ht5 hp5 hr5 hb5 k5)
   refine hK.out _ _ ?_ (fun hH => ?_)
   · (try dsimp only); (exact HSX.out.kept HC1.out.2 HX.out.1)
   clear hK K
   refine tq 9 ?_ rfl ?_ ?_
   rotate_left
   · (rintro w ⟨_, _, _, _, _, _⟩; go_simp; try with_reducible rfl)
   try simp only [Act.put, pA, pB, pC]
   refine tq 10 ?_ rfl ?_ ?_
   rotate_left
   · (rintro w ⟨_, _, _, _, _, _⟩; go_simp; try with_reducible rfl)
   try simp only [Act.put, pA, pB, pC]
   refine tq 11 ?_ rfl ?_ ?_
   rotate_left
   · (rintro w ⟨_, _, _, _, _, _⟩; go_simp; try with_reducible rfl)
   try simp only [Act.put, pA, pB, pC]
   refine rd 12 (by kernel_rfl) rfl (fun K hK => ?_)
   ·
    (go_simp)
    refine hK.out _ _ ?_ (fun hH => ?_)
    · (try dsimp only); (exact hH)
    clear hK K
    refine rd 13 (by kernel_rfl) rfl (fun K hK => ?_)
    ·
     (go_simp)
     refine hK.out _ _ ?_ (fun hH => ?_)
     · (try dsimp only); (exact hH)
     clear hK K
     refine wpAnyH_done (by kernel_rfl) ?_ _
     go_wp2_with fail
     go_meet
     exact ⟨rfl, rfl, t', HX.out⟩
  -- REGION 3 END
 case rest =>
  obtain ⟨rfl, rfl, t', k5, hr⟩ := hcut
  have hT := zhf k5.at_ (by omega) 1 (-1) ((n : Int) + 1) 0
  have HT2 := yyh hT
  have HK5 := yyh (yyi k5 hr)
  clear hT k5 hr
  go_wp2_with fail
  refine HT2.out.mono ?_
  rintro e w6 ⟨rfl, v', k6⟩
  have HK6 := yyh k6
  clear k6
  go_wp2_with fail
  refine bodyPost_ret (results_tmp2 rfl _ _ _) rfl ?_
  obtain ⟨k01, hn2, hS1, hB2⟩ := HK.out
  have kd : zag w1 A S1 w1.drew S1 (N + 4) := zag.below k01.at_ (zaf yyr)
  refine ⟨rfl, _, (((k01.trans kd).trans HK5.out.1).trans HK6.out).up (by omega), ?_⟩
  unfold CS.cm CM.made
  dsimp only
  rw [HK5.out.2, hn2, ← hS1]
end
def CM.rel (c : CM) (t k : Nat) (x : Int × Tk) : CM := { c with rows := c.rows.set k (x.1, { x.2 with ke := ze7 c.tick (zcq x.2.pr) }), evs := c.evs ++ [⟨2, t, (k : Int) + 1, ze7 c.tick (zcq x.2.pr), c.tick⟩], q := c.q.put t ⟨ze7 c.tick (zcq x.2.pr), (k : Int) + 1⟩ }
section
variable {W W' : World} {A : CA} {S S' : CS} {N N' : Nat}
theorem zki (h : zal W A S N) (hN : N ≤ 400000000) (hq : (S.q.q A.q.k).Ok) (t : Nat) (ht : t < A.q.lp.length) (k : Nat) (x : Int × Tk) (hx : S.t.rows[k]? = some x) : Calls Tryz.prog 38 #[.pointer (some ⟨A.cb, 0, none⟩), .int .i64 t, .int .i64 ((k : Int) + 1)] W fun e w' => e = .returned (.tuple #[]) ∧ ∃ S', zag W A S w' S' (N + 2) ∧ S'.cm A = (S.cm A).rel t k x := by
 obtain ⟨-, -, -, -, -, -, -, c7, -⟩ := h.cells
 have hB := h.bnd
 have HG := yyh (zv0 h.t (by omega) k x hx)
 obtain ⟨key, hkey⟩ := yye (ze7 S.tick (zcq x.2.pr))
 have HK := yyh (fun w => by
  have := zt0 S.tick x.2.pr hB.2.2.2.1 (by unfold top; omega) w
  rw [hkey] at this
  exact zdr this)
 have H := yyh (yyi h (yyi hB (yyi hq (yyi ht (yyi hx hkey)))))
 clear h hx hB hq ht hkey
 go_enter Tryz.func38, Tryz.ntmps38
 go_wp2_with fail
 refine HG.out.mono ?_
 rintro e w1 ⟨rfl, ht1, hp1⟩
 obtain ⟨h, hB, hq, htt, hx, hkey⟩ := H.out
 have k1 := h.setT (N' := N + 1) ht1 hp1 (by show S.t.B + 1 ≤ _; omega) (by omega)
 obtain ⟨S1, hS1⟩ : ∃ S1 : CS, { S with t := { S.t with B := S.t.B + 1 } } = S1 := ⟨_, rfl⟩
 rw [hS1] at k1
 unfold tkV
 obtain ⟨W1, hW1⟩ := yye (w1.alloc (.cells #[.int .i64 ((k : Int) + 1), .int .i64 x.2.pr, .int .i64 x.1, .int .u64 x.2.du, .int .u64 x.2.ke, .int .u64 x.2.ru, .int .u64 0] 49))
 have hb1 : Below w1.heap.size w1 W1 := by rw [← hW1]; exact zab yyr _
 have x1 : W1.heap[w1.heap.size]? = some (.cells #[.int .i64 ((k : Int) + 1), .int .i64 x.2.pr, .int .i64 x.1, .int .u64 x.2.du, .int .u64 x.2.ke, .int .u64 x.2.ru, .int .u64 0] 49 (0, 0)) := by rw [← hW1]; exact heap_alloc_new w1 _
 have hA1 := k1.at_.below hb1
 have d8 : W1.cell? ⟨A.cb, 8, none⟩ = some (.int .u64 S.tick) := by rw [hA1.cells.2.2.2.2.2.2.2.2.1, ← hS1]
 have p1 : W1.cell? ⟨w1.heap.size, 1, none⟩ = some (.int .i64 x.2.pr) := by simp [World.cell?, x1]
 have hAd := k1.at_.below (zaf hb1)
 have d7 : W1.drew.cell? ⟨A.cb, 7, none⟩ = some (.pointer (some ⟨A.t.t, 0, none⟩)) := hAd.cells.2.2.2.2.2.2.2.1
 have hr1 : S1.t.rows = S.t.rows := by rw [← hS1]
 have HKey := yyh (zzb hAd.t k x (by rw [hr1]; exact hx) key)
 have H1 := yyh (yyi k1 (yyi (zag.below k1.at_ (zaf hb1)) (yyi hS1 (yyi hr1 (yyi htt (yyi hq hB))))))
 clear ht1 hp1 hb1 x1 hA1 hAd h hB hq htt hx hkey k1 hS1 hr1
 have HW1 := yyh hW1
 clear hW1
 go_upto_region 1 with fail
 rw [HW1.out]
 refine wp_region_still_tail 7 (by kernel_rfl) (by kernel_rfl) ?_
 simp only [List.take_succ_cons, List.take_zero, List.drop_succ_cons, List.drop_zero]
 iterate 6 still_step
 still_call (HK.out _)
 refine wpStill_nil ?_
 change wpList _ _ _ _ _ W1.drew
 go_wp2_with fail
 refine HKey.out.mono ?_
 rintro e w2 ⟨rfl, t', ht2, hp2, hr2, hb2⟩
 obtain ⟨k1, kd, hS1, hr1, htt, hq, hB⟩ := H1.out
 have hb3 := k1.at_.bnd
 have k2 := kd.at_.setT (N' := N + 1) ht2 hp2 (by rw [hb2]; omega) yyn
 have hT := zhf k2.at_ (by omega) 2 t ((k : Int) + 1) key
 have HT := yyh hT
 have H2 := yyh (yyi ((k1.trans kd).trans k2) hr2)
 clear ht2 hp2 hr2 hb2 k1 kd hS1 hr1 htt hq hB hb3 k2 hT
 go_wp2_with fail
 refine HT.out.mono ?_
 rintro e w3 ⟨rfl, v', k3⟩
 have hc3 := k3.at_.cells.2.2.2.1
 have hq3 : ({ S1 with t := t', evv := v', evs := S1.evs ++ [⟨2, t, (k : Int) + 1, key, S1.tick⟩] } : CS).q = S.q := by rw [← H1.out.2.2.1]
 have hP := zy0 k3.at_.q (by
  show (S1.q.q A.q.k).Ok
  rw [← H1.out.2.2.1]
  exact H1.out.2.2.2.2.2.1) t H1.out.2.2.2.2.1 ⟨key, (k : Int) + 1⟩
 unfold enV at hP
 have HP := yyh hP
 have H3 := yyh k3
 clear k3 hP hq3
 go_wp2_with fail
 refine HP.out.mono ?_
 rintro e w4 ⟨rfl, s', hs4, hq4⟩
 have H4 := yyh (yyi hs4 hq4)
 clear hs4 hq4
 go_wp2_with fail
 go_end0
 obtain ⟨h, hB, hq, htt, hx, hkey⟩ := H.out
 refine ⟨rfl, _, ((H2.out.1.trans H3.out).trans (H3.out.at_.setQ H4.out.1)).up (by omega), ?_⟩
 have e1 := H4.out.2
 have hS1 := H1.out.2.2.1
 unfold CS.cm CM.rel
 dsimp only
 rw [H2.out.2, H1.out.2.2.2.1, e1, hkey]
 rw [← hS1]
end
def zjd (W : World) (own : Nat → Prop) (rows : List (Int × Tk)) (pv : Value) (pl : List Nat) : Prop :=
 (pv = .slice none 0 0 ∧ pl = []) ∨ ∃ q cap p x, pv = .slice (some ⟨q, 0, none⟩) 1 cap ∧ cap ≤ maxLen ∧ pl = [p] ∧ W.cell? ⟨q, 0, none⟩ = some (.int .i64 ((p : Int) + 1)) ∧ rows[p]? = some x ∧ ¬ own q
section
variable {W W' : World} {A : CA} {S S' : CS} {N N' : Nat}
theorem zx6 (h : zal W A S N) (hN : N ≤ 500000000) (k : Nat) (x : Int × Tk) (hx : S.t.rows[k]? = some x) {b : Nat} (hb : W.cell? ⟨b, 0, none⟩ = some (.pointer (some ⟨A.cb, 0, none⟩))) : Calls Tryz.prog 69 #[.int .i64 ((k : Int) + 1), .pointer (some ⟨b, 0, none⟩)] W fun e w' => e = .returned (.bool false) ∧ zag W A S w' { S with t := { S.t with B := S.t.B + 1 } } (N + 1) := by
 have hs := (h.t.st k x hx).2.1
 have g : (x.1 == 0) = false := by rw [beq_eq_false_iff_ne]; omega
 have HS := yyh (zgk h hN k x hx)
 clear h hx hs
 go_enter Tryz.func69, Tryz.ntmps69
 go_wp2_with fail
 refine HS.out.mono ?_
 rintro e w1 ⟨rfl, hk⟩
 have HE := yyh hk
 clear hk
 go_wp2_with fail
 go_ret
 exact ⟨by simp [g], HE.out⟩
theorem zx7 (h : zal W A S N) (hN : N ≤ 500000000) {pv : Value} {pl : List Nat} (hp : zjd W (cOS A S).own S.t.rows pv pl) {b : Nat} (hb : W.cell? ⟨b, 0, none⟩ = some (.pointer (some ⟨A.cb, 0, none⟩))) (hbo : ¬ (cOS A S).own b) : Calls Tryz.prog 68 #[pv, .func (.func 69) #[] #[.pointer (some ⟨b, 0, none⟩)]] W fun e w' => e = .returned (.bool false) ∧ ∃ S', zag W A S w' S' (N + 1) ∧ S'.cm A = S.cm A := by
 rcases hp with ⟨rfl, rfl⟩ | ⟨q, cap, p, x, rfl, hcap, rfl, hq, hx, hqo⟩
 · refine (zil _).mono ?_
   rintro e w' ⟨rfl, rfl⟩
   exact ⟨rfl, S, (zag.refl h).up (by omega), rfl⟩
 ·
  refine (zjs q 1 cap (by omega) hcap (fun _ => .int .i64 ((p : Int) + 1)) (fun i X => (i = 0 ∧ X = W) ∨ (i = 1 ∧ ∃ S', zag W A S X S' (N + 1) ∧ S'.cm A = S.cm A)) (fun _ _ => False) ?_ 69 #[.pointer (some ⟨b, 0, none⟩)] (enters_of Tryz.func69 (by kernel_rfl) rfl) (.inl ⟨rfl, rfl⟩) ?_).mono ?_
  ·
   rintro i X hX k hk
   obtain rfl : k = 0 := by omega
   rcases hX with ⟨-, rfl⟩ | ⟨-, S', k1, -⟩
   · exact hq
   · exact za6 k1.ps.fr (fun e => hqo (by obtain ⟨c, hc, hw⟩ := e; exact ⟨c, hc, c.sub _ hw⟩)) hq
  ·
   rintro X i hX hi
   obtain rfl : i = 0 := by omega
   rcases hX with ⟨-, rfl⟩ | ⟨h1, -⟩
   · refine (zx6 h hN p x hx hb).mono ?_
     rintro e w' ⟨rfl, hk⟩
     exact ⟨false, rfl, fun h => by (cases h), fun _ => .inr ⟨rfl, _, hk, rfl⟩⟩
   · omega
  ·
   rintro e w' (⟨rfl, hY⟩ | ⟨i, hi, -, hf⟩)
   · rcases hY with ⟨h1, -⟩ | ⟨-, hY⟩
     · omega
     · exact ⟨rfl, hY⟩
   · exact hf.elim
theorem zx8 (h : zal W A S N) (hN : N ≤ 400000000) (hcl : S.closed = false) (t : Nat) (ht : t < A.q.lp.length) (prio : Int) (p0 : 0 ≤ prio) (p7 : prio ≤ 7) {v : Value} {L : List Op3} (hO : zd4 W v L) (hL : L.length ≤ 16) (hb : bodyB L = true) {pv : Value} {pl : List Nat} (hp : zjd W (cOS A S).own S.t.rows pv pl) : Calls Tryz.prog 34 #[.pointer (some ⟨A.cb, 0, none⟩), .int .i64 t, .int .i64 prio, v, pv, .bool true] W fun e w' => e = .returned (.int .i64 (if S.t.rows.length < 200 then 0 else 65)) ∧ ∃ S', zag W A S w' S' (N + 1) ∧ S'.cm A = S.cm A := by
 obtain ⟨R, hR⟩ : ∃ R : Int, (if S.t.rows.length < 200 then 0 else 65) = R := ⟨_, rfl⟩
 rw [hR]
 obtain ⟨n, hn⟩ := yye (S.t.rows.length)
 rw [hn] at hR
 obtain ⟨Av, cb, rfl, hOA⟩ := hO.form
 obtain ⟨W1, hW1⟩ := yye (W.alloc (.cells #[.pointer (some ⟨A.cb, 0, none⟩)] 27))
 have hb1 : Below W.heap.size W W1 := by rw [← hW1]; exact zab yyr _
 have x1 : W1.heap[W.heap.size]? = some (.cells #[.pointer (some ⟨A.cb, 0, none⟩)] 27 (0, 0)) := by rw [← hW1]; exact heap_alloc_new W _
 have h1 := h.below hb1
 obtain ⟨-, -, -, -, -, -, -, c7, -, c9, -⟩ := h1.cells
 have b0 : W1.cell? ⟨W.heap.size, 0, none⟩ = some (.pointer (some ⟨A.cb, 0, none⟩)) := zaa x1
 rw [hcl] at c9
 have HT := yyh (zjc h1 t ht)
 have HBo := yyh (zh6 Av cb L (by omega) (hOA.below hb1))
 rw [hb] at HBo
 have gp0 : decide (prio < 0) = false := by rw [decide_eq_false_iff_not]; omega
 have gp7 : decide (prio > 7) = false := by rw [decide_eq_false_iff_not]; omega
 have gp7' : decide (7 < prio) = false := by rw [decide_eq_false_iff_not]; omega
 have hjn : ¬ (cOS A S).own W.heap.size := fun e => by have := h.lt e; omega
 have hp1 : zjd W1 (cOS A S).own S.t.rows pv pl := by
  rcases hp with hp | ⟨q, cap, p, x, h1, h2, h3, h4, h5, h6⟩
  · exact .inl hp
  · exact .inr ⟨q, cap, p, x, h1, h2, h3, zae hb1 h4, h5, h6⟩
 have hn2 := h.t.len.2
 have H := yyh (yyi h (yyi hb1 (yyi h1 (yyi x1 (yyi hjn (yyi hp1 (yyi hn (yyi hR hn2))))))))
 clear h hb1 h1 x1 hjn hp hp1 hn hR hcl ht p0 p7 hO hL hb hOA hn2
 go_enter Tryz.func34, Tryz.ntmps34
 go_wp2_with fail
 refine HT.out.mono ?_
 rintro e w2 ⟨rfl, rfl⟩
 go_wp2_with fail
 refine HBo.out.mono ?_
 rintro e w2 ⟨rfl, hb2⟩
 obtain ⟨h, hb1, h1, x1, hjn, hp1, hn, hR, hn2⟩ := H.out
 have hp2 : zjd w2 (cOS A S).own S.t.rows pv pl := by
  rcases hp1 with hp | ⟨q, cap, p, x, h1, h2, h3, h4, h5, h6⟩
  · exact .inl hp
  · exact .inr ⟨q, cap, p, x, h1, h2, h3, zae hb2 h4, h5, h6⟩
 have h2 := h1.below hb2
 have hx2 := (hb2.block _ (zac x1)).trans x1
 have HC := yyh (zx7 h2 (by omega) hp2 (zaa hx2) hjn)
 have H2 := yyh (yyi h2 (yyi hx2 (zad hb2 hb1)))
 clear h hb1 h1 x1 hjn hp1 hn hR hn2 hp2 h2 hx2 hb2
 go_wp2_with fail
 refine HC.out.mono ?_
 rintro e w3 ⟨rfl, S3, k3, hm3⟩
 obtain ⟨h, hb1, h1, x1, hjn, hp1, hn, hR, hn2⟩ := H.out
 have hb3 : w3.cell? ⟨W.heap.size, 0, none⟩ = some (.pointer (some ⟨A.cb, 0, none⟩)) := zaa (zag.kept H2.out.1 k3 hjn H2.out.2.1)
 have c7' := k3.at_.cells.2.2.2.2.2.2.2.1
 have hrows : S3.t.rows = S.t.rows := congrArg CM.rows hm3
 have HL := yyh (by
  have := zzd k3.at_.t
  rw [hrows, hn] at this
  exact this)
 have H3 := yyh (yyi k3 hm3)
 have hn3 : n ≤ 200 := by rw [← hn]; exact hn2
 obtain ⟨bn, hbn⟩ := yye (decide ((n : Int) ≥ 200))
 have hbn' : decide (200 ≤ (n : Int)) = bn := hbn
 have hRb : R = if bn then 65 else 0 := by
  rw [← hR, ← hbn]
  by_cases hh : n < 200
  · rw [if_pos hh, if_neg (by simp; omega)]
  · rw [if_neg hh, if_pos (by simp; omega)]
 have HRb := yyh hRb
 clear h hb1 h1 x1 hjn hp1 hn hR hn2 k3 hm3 hrows hRb
 go_wp2_with fail
 refine HL.out.mono ?_
 rintro e w4 ⟨rfl, rfl⟩
 cases bn with
 | true =>
  go_wp2_with fail
  go_ret
  rw [HRb.out]
  exact ⟨rfl, S3, (zag.below H.out.1 H2.out.2.2).trans H3.out.1, H3.out.2⟩
 | false =>
  go_wp2_with fail
  go_ret
  rw [HRb.out]
  exact ⟨rfl, S3, (zag.below H.out.1 H2.out.2.2).trans H3.out.1, H3.out.2⟩
end
def CM.sub (c : CM) (t : Nat) (prio : Int) (L : List Op3) : CM := (c.made 2 prio L).rel t c.rows.length (2, zja prio L)
section
variable {W W' : World} {A : CA} {S S' : CS} {N N' : Nat}
theorem zx9 : canB 0 2 = true := by decide
theorem zya : canB 0 1 = true := by decide
theorem zyb (h : zal W A S N) (hN : N ≤ 400000000) (hcl : S.closed = false) (t : Nat) (ht : t < A.q.lp.length) (prio : Int) (p0 : 0 ≤ prio) (p7 : prio ≤ 7) {v : Value} {L : List Op3} (hO : zgc W (cOS A S).own v L) : Calls Tryz.prog 34 #[.pointer (some ⟨A.cb, 0, none⟩), .int .i64 t, .int .i64 prio, v, .slice none 0 0, .bool true] W fun e w' => e = .returned (.int .i64 (if S.t.rows.length < 200 then 0 else 65)) ∧ ∃ S', zag W A S w' S' (N + 1) ∧ S'.cm A = S.cm A :=
 zx8 h hN hcl t ht prio p0 p7 hO.1 hO.2.2.1 hO.2.2.2 (pl := []) (.inl ⟨rfl, rfl⟩)
theorem zje (h : zal W A S N) (hN : N ≤ 300000000) (hcl : S.closed = false) (t : Nat) (ht : t < A.q.lp.length) (prio : Int) (p0 : 0 ≤ prio) (p7 : prio ≤ 7) {v : Value} {L : List Op3} (hO : zgc W (cOS A S).own v L) (hv : ∀ c, v.ownBlock = some c → c < W.heap.size) (hn : S.t.rows.length < 200) (ho : S.o < A.C) (hq : (S.q.q A.q.k).Ok) : Calls Tryz.prog 12 #[.pointer (some ⟨A.cb, 0, none⟩), .int .i64 t, .int .i64 prio, v, .slice none 0 0] W fun e w' => e = .returned (.tuple #[.int .i64 ((S.t.rows.length : Int) + 1), .int .i64 0]) ∧ ∃ S', zag W A S w' S' (N + 220) ∧ S'.cm A = (S.cm A).sub t prio L := by
 have hM := zyb h (by omega) hcl t ht prio p0 p7 hO
 rw [if_pos hn] at hM
 have HM := yyh hM
 obtain ⟨n, hnn⟩ := yye (S.t.rows.length)
 rw [hnn] at hn ⊢
 have H := yyh (yyi h (yyi ho (yyi hN (yyi hO (yyi hv (yyi hn (yyi hq (yyi ht (yyi hnn (yyi p0 p7))))))))))
 clear h hO hM hcl hn ho hv hq ht hnn p0 p7
 go_enter Tryz.func12, Tryz.ntmps12
 go_wp2_with fail
 refine HM.out.mono ?_
 rintro e w1 ⟨rfl, S1, k1, hm1⟩
 obtain ⟨h, ho, hN, hO, hv, hn, hq, ht, hnn, p0, p7⟩ := H.out
 have ho1 : S1.o < A.C := by
  have e1 : S1.o = S.o := congrArg CM.o hm1
  omega
 have hr1 : S1.t.rows = S.t.rows := congrArg CM.rows hm1
 have hF := ztm k1.at_ (by omega) ho1 (by rw [hr1, hnn]; exact hn) prio 2 p0 p7 (by omega) (by omega) zx9 v L (hO.step hv k1) (fun c hc => Nat.lt_of_lt_of_le (hv c hc) k1.ps.fr.size)
 rw [hr1, hnn] at hF
 have HF := yyh hF
 have H1 := yyh (yyi k1 hm1)
 clear k1 hm1 ho1 hF h ho hO hv hn hq ht hnn p0 p7 hr1
 go_wp2_with fail
 refine wp_loop_rounds 1 ?_
 rw [rounds_succ]
 go_wp2_with fail
 change Calls _ _ #[_, _, _, zv2, _] _ _
 refine HF.out.mono ?_
 rintro e w2 ⟨rfl, S2, k2, hm2⟩
 obtain ⟨h, ho, hN, hO, hv, hn, hq, ht, hnn, p0, p7⟩ := H.out
 have hm12 : S2.cm A = (S.cm A).made 2 prio L := by rw [hm2, H1.out.2]
 have hq2 : S2.q.q A.q.k = S.q.q A.q.k := congrArg CM.q hm12
 have hr2 : S2.t.rows = S.t.rows ++ [(2, zja prio L)] := congrArg CM.rows hm12
 have hx2 : S2.t.rows[n]? = some (2, zja prio L) := by
  rw [hr2, List.getElem?_append_right (by omega), hnn]
  simp
 have hR := zki k2.at_ (by omega) (by rw [hq2]; exact hq) t ht n _ hx2
 have HR := yyh hR
 have H2 := yyh (yyi (H1.out.1.trans k2) (yyi hm12 hnn))
 clear k2 hm2 hm12 hq2 hr2 hx2 hR h ho hO hv hn hq ht hnn p0 p7
 go_wp2_with fail
 refine HR.out.mono ?_
 rintro e w3 ⟨rfl, S3, k3, hm3⟩
 have H3 := yyh (yyi (H2.out.1.trans k3) hm3)
 clear k3 hm3
 go_wp2_with fail
 refine bodyPost_ret (results_tmp2 rfl _ _ _) rfl ?_
 refine ⟨rfl, S3, H3.out.1.up (by omega), ?_⟩
 rw [H3.out.2, H2.out.2.1]
 unfold CM.sub
 have : (S.cm A).rows.length = n := H2.out.2.2
 rw [this]
end
section
variable {W W' : World} {A : CA} {S S' : CS} {N N' : Nat}
theorem zpt (h : zal W A S N) (hN : N ≤ 300000000) (hcl : S.closed = false) (t : Nat) (ht : t < A.q.lp.length) (prio : Int) (p0 : 0 ≤ prio) (p7 : prio ≤ 7) {x0 : Tk} (hrows : S.t.rows = [(2, x0)]) (hd : S.d = false) (ho : S.o < A.C) {q cap : Nat} (hcap : cap ≤ maxLen) (hqc : W.cell? ⟨q, 0, none⟩ = some (.int .i64 1)) (hqo : ¬ (cOS A S).own q) : Calls Tryz.prog 12 #[.pointer (some ⟨A.cb, 0, none⟩), .int .i64 t, .int .i64 prio, .slice none 0 0, .slice (some ⟨q, 0, none⟩) 1 cap] W fun e w' => e = .returned (.tuple #[.int .i64 2, .int .i64 0]) ∧ ∃ S', zag W A S w' S' (N + 220) ∧ S'.cm A = { (S.cm A).made 1 prio [] with d := true } := by
 have hcm : (cap : Int) ≤ 9223372036854775807 := by unfold maxLen at hcap; omega
 have hO : zgc W (cOS A S).own (.slice none 0 0) [] := ⟨.inl ⟨rfl, rfl⟩, .inl rfl, by simp, by decide⟩
 have hM := zx8 h (by omega) hcl t ht prio p0 p7 hO.1 (by simp) (by decide) (pl := [0]) (pv := .slice (some ⟨q, 0, none⟩) 1 cap) (.inr ⟨q, cap, 0, (2, x0), rfl, hcap, rfl, by simpa using hqc, by rw [hrows]; rfl, hqo⟩)
 rw [if_pos (by rw [hrows]; simp)] at hM
 have HM := yyh hM
 have H := yyh (yyi h (yyi ho (yyi hN (yyi hO (yyi hrows (yyi hd (yyi hqc (yyi hqo (yyi p0 p7)))))))))
 obtain ⟨i0, hi0, hz0, hz1, hz2⟩ := info_parts zfp
 clear h hO hM hcl ho hrows hd hqc hqo p0 p7 ht
 go_enter Tryz.func12, Tryz.ntmps12
 go_wp2_with fail
 refine HM.out.mono ?_
 rintro e w1 ⟨rfl, S1, k1, hm1⟩
 obtain ⟨h, ho, hN, hO, hrows, hd, hqc, hqo, p0, p7⟩ := H.out
 have hr1 : S1.t.rows = [(2, x0)] := (congrArg CM.rows hm1).trans hrows
 have hq1 : w1.cell? ⟨q, 0, none⟩ = some (.int .i64 1) := za6 k1.ps.fr (fun e => hqo (by obtain ⟨c, hc, hw⟩ := e; exact ⟨c, hc, c.sub _ hw⟩)) hqc
 have hS := zgk k1.at_ (by omega) 0 (2, x0) (by rw [hr1]; rfl)
 have HS := yyh (show Calls Tryz.prog 22 #[.pointer (some ⟨A.cb, 0, none⟩), .int .i64 1] w1 fun e w' => e = .returned (.int .i64 2) ∧ zag w1 A S1 w' { S1 with t := { S1.t with B := S1.t.B + 1 } } (N + 1 + 1) from hS)
 have H1 := yyh (yyi k1 hm1)
 clear k1 hm1 hr1 hS h ho hO hrows hd hqc hqo p0 p7
 go_wp2_with fail
 refine wp_loop_rounds 2 ?_
 rw [rounds_succ]
 go_wp2_with fail
 refine HS.out.mono ?_
 rintro e w2 ⟨rfl, k2⟩
 have H2 := yyh (yyi (H1.out.1.trans k2) (show ({ S1 with t := { S1.t with B := S1.t.B + 1 } } : CS).cm A = S.cm A from H1.out.2))
 clear k2
 have HGE := yyh (show w2.heap.size ≤ (w2.alloc (.cells #[.int .i64 1] 3)).heap.size from by simp)
 go_wp2_with (at_builtin; refine wpList_append_own_at _ rfl (.tmp 37) (.tmp 39) 33 rfl w2.heap.size 3 i0 zue 1 8 Tryz.underlying33 hi0 hz0 hz1 hz2 rfl (by decide) (.slice none 0 0) 0 [] rfl (World.ownsRow_nil _ _ _ _) ⟨w2.heap.size, 0, none⟩ 1 1 [.int .i64 1] rfl rfl (cell_one_new _ _ _) (fun u hu => by simp at hu; subst hu; rfl) (by unfold maxLen; omega) (by omega) HGE.out ?_; intro v' w3 hown3 hg3 hnil3 hblk3; obtain ⟨a3, cap3, rfl, -⟩ := SlV.clip (SlV.of_owns hown3); have H3 := yyh (yyi hown3 (yyi hg3 hblk3)); clear hown3 hg3 hnil3 hblk3)
 rcases H3.out.1.2 with ⟨-, hz⟩ | ⟨g, cp, cur, hge, hbg, hgh, hle, hmx, hsz, hF⟩
 · omega
 injection hge with hge1 hge2 hge3
 subst hge1 hge3
 have hg0 : w3.cell? ⟨g, 0, none⟩ = some (.int .i64 1) := by
  rw [zaa hgh]
  have : (cur.toList.take ((0 + 1) * 1))[0]? = some (.int .i64 1) := by rw [hF]; rfl
  rw [List.getElem?_take, if_pos (by omega), Array.getElem?_toList] at this
  exact this
 have hb23 : Below w2.heap.size w2 w3 := by
  have h4 : Below w2.heap.size w2 (w2.alloc (.cells #[.int .i64 1] 3)) := zab yyr _
  have h5 : Below (w2.alloc (.cells #[.int .i64 1] 3)).heap.size (w2.alloc (.cells #[.int .i64 1] 3)) w3 := ⟨H3.out.2.1.os, H3.out.2.1.tape, H3.out.2.1.output, H3.out.2.1.size, fun k hk => H3.out.2.1.block k hk (fun e => by cases e)⟩
  exact zad h5 h4
 obtain ⟨h, ho, hN, hO, hrows, hd, hqc, hqo, p0, p7⟩ := H.out
 obtain ⟨S2, hS2⟩ : ∃ S2 : CS, { S1 with t := { S1.t with B := S1.t.B + 1 } } = S2 := ⟨_, rfl⟩
 obtain ⟨k2, hm2⟩ := H2.out
 rw [hS2] at k2 hm2
 have k3 := k2.trans (zag.below k2.at_ hb23)
 have hgo : ¬ (cOS A S2).own g := fun e => by have := k2.at_.lt e; omega
 have ho3 : S2.o < A.C := by
  have e1 : S2.o = S.o := congrArg CM.o hm2
  omega
 have hr3 : S2.t.rows = [(2, x0)] := (congrArg CM.rows hm2).trans hrows
 have hM := ztm k3.at_ (by omega) ho3 (by rw [hr3]; simp) prio 1 p0 p7 (by omega) (by omega) zya (.slice none 0 0) [] ⟨.inl ⟨rfl, rfl⟩, .inl rfl, by simp, by decide⟩ (fun c hc => by cases hc)
 rw [hr3] at hM
 have HMk := yyh (show Calls Tryz.prog 36 #[.pointer (some ⟨A.cb, 0, none⟩), .int .i64 prio, .slice none 0 0, zv2, .int .i64 1] w3 fun e w' => e = .returned (.tuple #[.int .i64 2, .int .i64 0]) ∧ ∃ S', zag w3 A S2 w' S' (N + 1 + 1 + 210) ∧ S'.cm A = (S2.cm A).made 1 prio [] from hM)
 have H4 := yyh (yyi k3 (yyi hm2 (yyi hgo (yyi hg0 (yyi hd hmx)))))
 clear hgh hle hsz hF hbg hge2 hb23 h ho hO hrows hd hqc hqo p0 p7 hS2 k2 hm2 k3 hgo ho3 hr3 hM hg0 hmx H2 H3
 rw [rounds_succ]
 go_wp2_with fail
 change Calls _ _ #[_, _, _, zv2, _] _ _
 refine HMk.out.mono ?_
 rintro e w4 ⟨rfl, S4, k4, hm4⟩
 obtain ⟨k3, hm2, hgo, hg0, hd, hmx⟩ := H4.out
 have hg4 : w4.cell? ⟨g, 0, none⟩ = some (.int .i64 1) := za6 k4.ps.fr (fun e => hgo (by obtain ⟨c, hc, hw⟩ := e; exact ⟨c, hc, c.sub _ hw⟩)) hg0
 have hd4 : S4.d = false := by
  have e1 : S4.d = S2.d := congrArg CM.d hm4
  have e2 : S2.d = S.d := congrArg CM.d hm2
  rw [e1, e2, hd]
 have hD := k4.at_.d
 rw [hd4] at hD
 have HA := yyh (zx0 hD hmx hg4)
 obtain ⟨-, -, -, -, -, c5, -⟩ := k4.at_.cells
 have H5 := yyh (yyi (k3.trans k4) (hm4.trans (by rw [hm2])))
 clear k3 hm2 hgo hg0 hd hmx k4 hm4 hg4 hd4 hD
 go_wp2_with fail
 refine HA.out.mono ?_
 rintro e w5 ⟨rfl, hD5, hF5⟩
 have H6 := yyh (H5.out.1.trans (H5.out.1.at_.setD hD5 hF5))
 clear hD5 hF5
 go_wp2_with fail
 refine bodyPost_ret (results_tmp2 rfl _ _ _) rfl ?_
 refine ⟨rfl, _, H6.out.up (by omega), ?_⟩
 have e := H5.out.2
 show (⟨S4.q.q A.q.k, true, S4.o, S4.t.rows, S4.tick, S4.closed, S4.evs⟩ : CM) = _
 rw [← e]
 rfl
end
def zfv (l r : En) (t : Int) : En := if l.key ≤ t then l else r
theorem zn0 (l r : En) (t : Int) (w : World) : Calls Tryz.prog 217 #[enV l, enV r, .int .u64 t] w fun e w' => e = .returned (enV (zfv l r t)) ∧ Below w.heap.size w w' := by
 unfold zfv
 by_cases h : l.key ≤ t
 · rw [if_pos h]
   exact zm9 _ _ _ _ _ h w
 · rw [if_neg h]
   exact zof _ _ _ _ _ (by omega) w
def CM.look (c : CM) (t : Nat) (d : Int) : Option En :=
 match c.q.relaxed t d with
 | none => none
 | some r => some (zfv (zpm (zaj c.q.all).head?) r c.tick)
def LkS (cb b10 b8 : Nat) (l r : En) (tick : Int) (w : World) : Prop := w.cell? ⟨b10, 0, none⟩ = some (.int .u64 l.key) ∧ w.cell? ⟨b10, 1, none⟩ = some (.int .i64 l.id) ∧ w.cell? ⟨b8, 0, none⟩ = some (.int .u64 r.key) ∧ w.cell? ⟨b8, 1, none⟩ = some (.int .i64 r.id) ∧ w.cell? ⟨cb, 8, none⟩ = some (.int .u64 tick)
section
variable {W W' : World} {A : CA} {S S' : CS} {N N' : Nat}
theorem LkS.below {cb b10 b8 : Nat} {l r : En} {tick : Int} {w w' : World} (h : LkS cb b10 b8 l r tick w) (hb : Below w.heap.size w w') : LkS cb b10 b8 l r tick w' := ⟨zae hb h.1, zae hb h.2.1, zae hb h.2.2.1, zae hb h.2.2.2.1, zae hb h.2.2.2.2⟩
theorem LkS.al {cb b10 b8 : Nat} {l r : En} {tick : Int} {w : World} (h : LkS cb b10 b8 l r tick w) (o : Obj) : LkS cb b10 b8 l r tick (w.alloc o) := h.below (zab yyr _)
theorem LkS.set {cb b10 b8 b i : Nat} {l r : En} {tick : Int} {w : World} {u : Value} (h : LkS cb b10 b8 l r tick w) (h1 : b10 ≠ b) (h2 : b8 ≠ b) (h3 : cb ≠ b) : LkS cb b10 b8 l r tick (w.setCell ⟨b, i, none⟩ u) := by
 have f : Fr (fun k => k = b) w (w.setCell ⟨b, i, none⟩ u) := Fr.set (S := fun k => k = b) (Fr.refl _ _) (p := ⟨b, i, none⟩) rfl _
 exact ⟨za6 f h1 h.1, za6 f h1 h.2.1, za6 f h2 h.2.2.1, za6 f h2 h.2.2.2.1, za6 f h3 h.2.2.2.2⟩
theorem LkS.lt {cb b10 b8 : Nat} {l r : En} {tick : Int} {w : World} (h : LkS cb b10 b8 l r tick w) : b10 < w.heap.size ∧ b8 < w.heap.size ∧ cb < w.heap.size := ⟨World.block_lt_of_cell? w _ h.1, World.block_lt_of_cell? w _ h.2.2.1, World.block_lt_of_cell? w _ h.2.2.2.2⟩
theorem zay.block_lt {W : World} {v : Value} {l : List En} (h : zay W v l) {c : Nat} (hc : v.ownBlock = some c) : c < W.heap.size := SlV.lt h hc
theorem QAt.frNew {Z : Nat → Prop} {w5 w6 : World} {A : QA} {s : QS} (h0 : QAt W A s) (h : QAt w5 A s) (f : Fr Z w5 w6) (hZ : ∀ j, Z j → W.heap.size ≤ j ∧ ¬ zcx A s j) : QAt w6 A s := by
 have n : ∀ j, zcx A s j → ¬ Z j := fun j hj hz => (hZ j hz).2 hj
 have bk : ∀ {b : Bk}, zf9 W b → zf9 w5 b → zf9 w6 b := fun {b} h0 h1 => ⟨zay.fr h1.1 f (fun c hc hz => by
  have h1 := zay.block_lt h0.1 hc
  have h2 := (hZ c hz).1
  omega), h1.2⟩
 obtain ⟨cur, e, hc⟩ := h.own
 refine ⟨(f.block _ (zac h.hdr) (n _ (.inl rfl))).trans h.hdr, ⟨cur, (f.block _ (zac e) (n _ (by simp [zcx]))).trans e, hc⟩, h.num, h.sl.fr f (n _ (by simp [zcx])) (n _ (by simp [zcx])), h.sln, h.lsn, fun t p x hp hx => ?_, ?_, h.lpd, h.rows, h.shd⟩
 ·
  have h1 := List.mem_of_getElem? hp
  have h2 := List.mem_of_getElem? hx
  have k := h.lsm t p x hp hx
  have k0 := h0.lsm t p x hp hx
  exact ⟨(f.block _ (zac k.hdr) (n _ (by simp [zcx, h1]))).trans k.hdr, zcv k.own f (fun c hc => n _ (by
   unfold zcx
   exact .inr (.inr (.inr (.inr (.inr (.inr (.inr ⟨x, h2, hc⟩)))))))), fun b hb => ⟨bk (k0.ins b hb).1 (k.ins b hb).1, (k.ins b hb).2⟩⟩
 · obtain ⟨ver, v0, v1, eh⟩ := h.sh.hdr
   exact ⟨⟨ver, v0, v1, (f.block _ (zac eh) (n _ (by simp [zcx]))).trans eh⟩, ⟨SlV.fr h.sh.bks.1 f (fun c hc => n _ (by simp [zcx, hc])), fun b hb => bk (h0.sh.bks.2 b hb) (h.sh.bks.2 b hb)⟩, h.sh.ne⟩
theorem zag.newer {Z : Nat → Prop} {w5 w6 : World} (h : zal W A S N) (k : zag W A S w5 S' N') (hq : S'.q = S.q) (f : Fr Z w5 w6) (hZ : ∀ j, Z j → W.heap.size ≤ j ∧ ¬ (cOS A S').own j) : zag W A S w6 S' N' := by
 have n : ∀ {i : Nat} {c : PT}, (zbu A S')[i]? = some c → ∀ j, c.os.own j → ¬ Z j := fun {i c} hi j hj hz => (hZ j hz).2 ⟨c, List.mem_of_getElem? hi, hj⟩
 have hat := k.at_
 refine ⟨⟨⟨fun c hc => ?_, hat.ps.dis⟩, hat.bnd⟩, ⟨⟨f.os.trans k.ps.fr.os, f.tape.trans k.ps.fr.tape, f.output.trans k.ps.fr.output, Nat.le_trans k.ps.fr.size f.size, fun j hj hn => ?_⟩, k.ps.wr, k.ps.own⟩⟩
 ·
  have hq0 : QAt W A.q S'.q := by rw [hq]; exact h.q
  simp only [zbu, List.mem_cons, List.not_mem_nil, or_false] at hc
  rcases hc with rfl | rfl | rfl | rfl | rfl | rfl | rfl
  · exact (f.block _ (zac hat.hdr) (n (i := 0) rfl _ rfl)).trans hat.hdr
  · exact QAt.frNew hq0 hat.q f (fun j hz => ⟨(hZ j hz).1, fun e => (hZ j hz).2 ⟨PT.queue A.q S'.q, by simp [zbu], e⟩⟩)
  · exact hat.w.frE f (n (i := 2) rfl)
  · exact hat.d.frE f (n (i := 3) rfl)
  · exact hat.cr.frE f (n (i := 4) rfl)
  · exact hat.t.frE f (n (i := 5) rfl)
  · exact zcv hat.ev f (fun c hc => n (i := 6) rfl c hc)
 · have h1 := k.ps.fr.block j hj hn
   have hj5 := Nat.lt_of_lt_of_le hj k.ps.fr.size
   exact (f.block j hj5 (fun hz => by have := (hZ j hz).1; omega)).trans h1
theorem zlv (h : zal W A S N) (hq : (S.q.q A.q.k).Ok) (t : Nat) (ht : t < A.q.lp.length) (d : Int) (d0 : 0 ≤ d) (d1 : d ≤ top) (hl : (S.cm A).look t d = none) : Calls Tryz.prog 156 #[.pointer (some ⟨A.cb, 0, none⟩), .int .i64 t, .int .u64 d] W fun e w' => e = .returned (.tuple #[.agg #[.int .u64 0, .int .i64 0], .bool false]) ∧ Below W.heap.size W w' := by
 have hr : (S.q.q A.q.k).relaxed t d = none := by
  unfold CM.look at hl
  cases hh : (S.q.q A.q.k).relaxed t d with
  | none => rfl
  | some r =>
   rw [show (S.cm A).q.relaxed t d = some r from hh] at hl
   cases hl
 obtain ⟨W1, hW1⟩ := yye (W.alloc (.cells #[.int .u64 0, .int .i64 0] 63))
 have hb1 : Below W.heap.size W W1 := by rw [← hW1]; exact zab yyr _
 have x1 : W1.heap[W.heap.size]? = some (.cells #[.int .u64 0, .int .i64 0] 63 (0, 0)) := by rw [← hW1]; exact heap_alloc_new W _
 have h1 := h.below hb1
 obtain ⟨-, -, -, c3, -⟩ := h1.cells
 have hR := zkh h1.q hq t ht d d0 d1
 rw [hr] at hR
 unfold ziy at hR
 have HR := yyh (show Calls Tryz.prog 215 #[.pointer (some ⟨A.q.qp, 0, none⟩), .int .i64 t, .int .u64 d] W1 fun e w' => e = .returned (.tuple #[.agg #[.int .u64 0, .int .i64 0], .bool false]) ∧ Below W1.heap.size W1 w' from hR)
 have H := yyh (yyi hb1 x1)
 clear h h1 hR hq hl hr x1 hb1
 go_enter Tryz.func156, Tryz.ntmps156
 go_wp2_with fail
 refine HR.out.mono ?_
 rintro e w1 ⟨rfl, hb2⟩
 have hx2 : w1.heap[W.heap.size]? = some (.cells #[.int .u64 0, .int .i64 0] 63 (0, 0)) := (hb2.block _ (zac H.out.2)).trans H.out.2
 have hba : Below w1.heap.size w1 (w1.alloc (.cells #[.int .u64 0, .int .i64 0] 63)) := zab yyr _
 have hx3 := (hba.block _ (zac hx2)).trans hx2
 obtain ⟨y0, y1, z0, z1⟩ := zao hx3
 have s0 : (w1.alloc (.cells #[.int .u64 0, .int .i64 0] 63)).setCell ⟨W.heap.size, 0, none⟩ (.int .u64 0) = w1.alloc (.cells #[.int .u64 0, .int .i64 0] 63) := zde hx3 (by simp)
 have s1 : (w1.alloc (.cells #[.int .u64 0, .int .i64 0] 63)).setCell ⟨W.heap.size, 1, none⟩ (.int .i64 0) = w1.alloc (.cells #[.int .u64 0, .int .i64 0] 63) := zde hx3 (by simp)
 have HB := yyh (zad hba (zad hb2 H.out.1))
 clear hb2 hx2 hx3 hba
 go_wp2_with fail
 refine bodyPost_ret (v := .tuple #[.agg #[.int .u64 0, .int .i64 0], .bool false]) (by simp [results, Tryz.results156, go_sem, y0, y1]) rfl ?_
 exact ⟨rfl, HB.out⟩
theorem zyc (h : zal W A S N) (hN : N ≤ 400000000) (hq : (S.q.q A.q.k).Ok) (t : Nat) (ht : t < A.q.lp.length) (d : Int) (d0 : 0 ≤ d) (d1 : d ≤ top) (en : En) (hl : (S.cm A).look t d = some en) (hne : (S.q.q A.q.k).all ≠ []) : Calls Tryz.prog 156 #[.pointer (some ⟨A.cb, 0, none⟩), .int .i64 t, .int .u64 d] W fun e w' => e = .returned (.tuple #[.agg #[.int .u64 en.key, .int .i64 en.id], .bool true]) ∧ ∃ S', zag W A S w' S' (N + 1) ∧ S'.cm A = { S.cm A with evs := S.evs ++ [⟨10, t, en.id, en.key, S.tick⟩] } := by
 obtain ⟨r, hr, hc⟩ : ∃ r, (S.q.q A.q.k).relaxed t d = some r ∧ zfv (zpm (zaj (S.q.q A.q.k).all).head?) r S.tick = en := by
  unfold CM.look at hl
  cases hh : (S.q.q A.q.k).relaxed t d with
  | none =>
   rw [show (S.cm A).q.relaxed t d = none from hh] at hl
   cases hl
  | some r =>
   rw [show (S.cm A).q.relaxed t d = some r from hh] at hl
   exact ⟨r, rfl, by injection hl⟩
 obtain ⟨l, hll⟩ : ∃ l, (zaj (S.q.q A.q.k).all).head? = some l := by
  cases hh : zaj (S.q.q A.q.k).all with
  | nil =>
   have := congrArg List.length hh
   rw [zam] at this
   exact absurd (List.eq_nil_of_length_eq_zero this) hne
  | cons a m => exact ⟨a, rfl⟩
 rw [hll] at hc
 have hc : zfv l r S.tick = en := hc
 obtain ⟨W1, hW1⟩ := yye (W.alloc (.cells #[.int .u64 0, .int .i64 0] 63))
 have hb1 : Below W.heap.size W W1 := by rw [← hW1]; exact zab yyr _
 have x1 : W1.heap[W.heap.size]? = some (.cells #[.int .u64 0, .int .i64 0] 63 (0, 0)) := by rw [← hW1]; exact heap_alloc_new W _
 have h1 := h.below hb1
 obtain ⟨-, -, -, c3, -⟩ := h1.cells
 have hR := zkh h1.q hq t ht d d0 d1
 rw [hr] at hR
 have HR := yyh (show Calls Tryz.prog 215 #[.pointer (some ⟨A.q.qp, 0, none⟩), .int .i64 t, .int .u64 d] W1 fun e w' => e = .returned (.tuple #[.agg #[.int .u64 r.key, .int .i64 r.id], .bool true]) ∧ Below W1.heap.size W1 w' from hR)
 have HC := yyh (fun w => by
  have := zn0 l r S.tick w
  rw [hc] at this
  exact (show Calls Tryz.prog 217 #[.agg #[.int .u64 l.key, .int .i64 l.id], .agg #[.int .u64 r.key, .int .i64 r.id], .int .u64 S.tick] w fun e w' => e = .returned (.agg #[.int .u64 en.key, .int .i64 en.id]) ∧ Below w.heap.size w w' from this))
 have H := yyh (yyi h (yyi hb1 (yyi x1 (yyi hq (yyi hll h1)))))
 clear h h1 hR hq hl hr x1 hb1 hll hc hne
 go_enter Tryz.func156, Tryz.ntmps156
 go_wp2_with fail
 refine HR.out.mono ?_
 rintro e w1 ⟨rfl, hb2⟩
 obtain ⟨h, hb1, x1, hq, hll, h1⟩ := H.out
 have hba : Below w1.heap.size w1 (w1.alloc (.cells #[.int .u64 r.key, .int .i64 r.id] 63)) := zab yyr _
 have h2 := h1.below (zad hba hb2)
 obtain ⟨-, -, -, c3', -⟩ := h2.cells
 have hL := zvf h2.q hq
 rw [hll] at hL
 have HL := yyh (show Calls Tryz.prog 216 #[.pointer (some ⟨A.q.qp, 0, none⟩)] (w1.alloc (.cells #[.int .u64 r.key, .int .i64 r.id] 63)) fun e w' => e = .returned (.tuple #[.agg #[.int .u64 l.key, .int .i64 l.id], .bool true]) ∧ Below (w1.alloc (.cells #[.int .u64 r.key, .int .i64 r.id] 63)).heap.size (w1.alloc (.cells #[.int .u64 r.key, .int .i64 r.id] 63)) w' from hL)
 have H2 := yyh (yyi (zad hba hb2) (heap_alloc_new w1 (.cells #[.int .u64 r.key, .int .i64 r.id] 63)))
 clear h hb1 x1 hq hll h1 hb2 hba h2 hL
 go_wp2_with fail
 refine HL.out.mono ?_
 rintro e w2 ⟨rfl, hb3⟩
 obtain ⟨h, hb1, x1, hq, hll, h1⟩ := H.out
 obtain ⟨W3, hW3⟩ := yye (w2.alloc (.cells #[.int .u64 l.key, .int .i64 l.id] 63))
 have hb4 : Below w2.heap.size w2 W3 := by rw [← hW3]; exact zab yyr _
 have x3 : W3.heap[w2.heap.size]? = some (.cells #[.int .u64 l.key, .int .i64 l.id] 63 (0, 0)) := by rw [← hW3]; exact heap_alloc_new w2 _
 have x8 := ((zad hb4 hb3).block _ (zac H2.out.2)).trans H2.out.2
 have hb13 : Below W1.heap.size W1 W3 := zad (zad hb4 hb3) H2.out.1
 have hb5 : Below W.heap.size W W3 := zad hb13 hb1
 have hS3 : LkS A.cb w2.heap.size w1.heap.size l r S.tick W3.drew := ⟨(zao x3).1, (zao x3).2.1, (zao x8).1, (zao x8).2.1, (h.below (zaf hb5)).cells.2.2.2.2.2.2.2.2.1⟩
 have HS := yyh hS3
 have xw : W3.heap[W.heap.size]? = some (.cells #[.int .u64 0, .int .i64 0] 63 (0, 0)) := (hb13.block _ (zac x1)).trans x1
 have HW3 := yyh hW3
 have H3 := yyh (yyi h (yyi hb5 xw))
 clear h hb1 x1 hq hll h1 hb3 hW3 hb4 x3 x8 hb13 hb5 hS3 xw
 go_upto_region 5 with fail
 rw [HW3.out]
 go_cut [12] (fun v12 w => ∃ yb, v12 = .pointer (some ⟨yb, 0, none⟩) ∧ w.heap[yb]? = some (.cells #[.int .u64 en.key, .int .i64 en.id] 63 (0, 0)) ∧ Below W3.heap.size W3 w ∧ W3.heap.size ≤ yb)
 case first =>
  skip
  -- REGION 5 BEGIN
  refine wp_region_held_drew (S := LkS A.cb w2.heap.size w1.heap.size l r S.tick) (by kernel_rfl) HS.out (fun hH => ?_)
  refine tq 0 ?_ rfl ?_ ?_
  rotate_left
  · (rintro w ⟨_, _, _, _, _⟩; go_simp; try with_reducible rfl)
  try simp only [Act.put, pA, pB, pC]
  refine tq 1 ?_ rfl ?_ ?_
  rotate_left
  · (rintro w ⟨_, _, _, _, _⟩; go_simp; try with_reducible rfl)
  try simp only [Act.put, pA, pB, pC]
  refine tq 2 ?_ rfl ?_ ?_
  rotate_left
  · (rintro w ⟨_, _, _, _, _⟩; go_simp; try with_reducible rfl)
  try simp only [Act.put, pA, pB, pC]
  refine tq 3 ?_ rfl ?_ ?_
  rotate_left
  · (rintro w ⟨_, _, _, _, _⟩; go_simp; try with_reducible rfl)
  try simp only [Act.put, pA, pB, pC]
  refine tq 4 ?_ rfl ?_ ?_
  rotate_left
  · (rintro w ⟨_, _, _, _, _⟩; go_simp; try with_reducible rfl)
  try simp only [Act.put, pA, pB, pC]
  refine tq 5 ?_ rfl ?_ ?_
  rotate_left
  · (rintro w ⟨_, _, _, _, _⟩; go_simp; try with_reducible rfl)
  try simp only [Act.put, pA, pB, pC]
  refine wpAnyH_ready (rs := [6, 7]) (by kernel_rfl) (by simp) ?_
  refine AllReadyH.cons rfl (fun K hK => ?_) ?_
  ·
   (go_simp; go_at_call 217; first | (refine (HC.out W3.drew).mono ?_; rintro e w6 ⟨rfl, hB6⟩; have HB6 := yyh hB6; have HQ6 := yyh (HS.out.below hB6); clear hB6) | (refine (HC.out (W3.drew.alloc (.cells #[.int .u64 0, .int .i64 0] 63))).mono ?_; rintro e w6 ⟨rfl, hB6⟩; have HB6 := yyh hB6; have HQ6 := yyh ((HS.out.al _).below hB6); have hY6 := (hB6.block W3.heap.size (by simp)).trans (heap_alloc_new W3 (.cells #[.int .u64 0, .int .i64 0] 63)); obtain ⟨y60, y61, y62, y63⟩ := zao hY6; have HY6 := yyh hY6; clear hB6 hY6))
   refine hK.out _ _ ?_ (fun hH => ?_)
   · (try dsimp only); (exact HQ6.out)
   clear hK K
   refine rd 7 (by kernel_rfl) rfl (fun K hK => ?_)
   ·
    (go_simp)
    refine hK.out _ _ ?_ (fun hH => ?_)
    · (try dsimp only); (exact hH.al _)
    clear hK K
    refine rd 8 (by kernel_rfl) rfl (fun K hK => ?_)
    ·
     (go_simp)
     refine hK.out _ _ ?_ (fun hH => ?_)
     · (try dsimp only); (first | exact HQ6.out.al _ | (have hl := HS.out.lt; change _ < W3.heap.size ∧ _ < W3.heap.size ∧ _ < W3.heap.size at hl; exact (HQ6.out.set (by omega) (by omega) (by omega)).set (by omega) (by omega) (by omega)))
     clear hK K
     refine wpAnyH_done (by kernel_rfl) ?_ _
     go_wp2_with fail
     go_meet
     first | exact ⟨w6.heap.size, rfl, heap_alloc_new w6 _, zab (zad HB6.out (zaf yyr)) _, HB6.out.size⟩ | exact ⟨W3.heap.size, rfl, zcb HY6.out, zak (zak (zad HB6.out (zab (zaf yyr) _)) _ _ _ yyn) _ _ _ yyn, yyn⟩
  refine AllReadyH.cons rfl (fun K hK => ?_) ?_
  ·
   (go_simp)
   refine hK.out _ _ ?_ (fun hH => ?_)
   · (try dsimp only); (exact hH.al _)
   clear hK K
   refine rd 6 (by kernel_rfl) rfl (fun K hK => ?_)
   ·
    (go_simp; go_at_call 217; first | (refine (HC.out W3.drew).mono ?_; rintro e w6 ⟨rfl, hB6⟩; have HB6 := yyh hB6; have HQ6 := yyh (HS.out.below hB6); clear hB6) | (refine (HC.out (W3.drew.alloc (.cells #[.int .u64 0, .int .i64 0] 63))).mono ?_; rintro e w6 ⟨rfl, hB6⟩; have HB6 := yyh hB6; have HQ6 := yyh ((HS.out.al _).below hB6); have hY6 := (hB6.block W3.heap.size (by simp)).trans (heap_alloc_new W3 (.cells #[.int .u64 0, .int .i64 0] 63)); obtain ⟨y60, y61, y62, y63⟩ := zao hY6; have HY6 := yyh hY6; clear hB6 hY6))
    refine hK.out _ _ ?_ (fun hH => ?_)
    · (try dsimp only); (exact HQ6.out)
    clear hK K
    refine rd 8 (by kernel_rfl) rfl (fun K hK => ?_)
    ·
     (go_simp)
     refine hK.out _ _ ?_ (fun hH => ?_)
     · (try dsimp only); (first | exact HQ6.out.al _ | (have hl := HS.out.lt; change _ < W3.heap.size ∧ _ < W3.heap.size ∧ _ < W3.heap.size at hl; exact (HQ6.out.set (by omega) (by omega) (by omega)).set (by omega) (by omega) (by omega)))
     clear hK K
     refine wpAnyH_done (by kernel_rfl) ?_ _
     go_wp2_with fail
     go_meet
     first | exact ⟨w6.heap.size, rfl, heap_alloc_new w6 _, zab (zad HB6.out (zaf yyr)) _, HB6.out.size⟩ | exact ⟨W3.heap.size, rfl, zcb HY6.out, zak (zak (zad HB6.out (zab (zaf yyr) _)) _ _ _ yyn) _ _ _ yyn, yyn⟩
  exact AllReadyH.nil
  -- REGION 5 END
 case rest =>
  obtain ⟨yb, rfl, hy, hbc, hge⟩ := hcut
  obtain ⟨h, hb5, xw⟩ := H3.out
  have hBc : Below W.heap.size W wc := zad hbc hb5
  obtain ⟨y0, y1, -, -⟩ := zao hy
  have hc := h.below hBc
  have hT := zhf hc (by omega) 10 t en.id en.key
  have HT := yyh hT
  have hyo : ¬ (cOS A S).own yb := fun e => by have := h.lt e; have := hb5.size; omega
  have hwo : ¬ (cOS A S).own W.heap.size := fun e => by have := h.lt e; omega
  have hwn : W.heap.size ≠ yb := by have := zac xw; omega
  have H4 := yyh (yyi hc (yyi hy (yyi ((hbc.block _ (zac xw)).trans xw) (yyi hyo (yyi hwo (yyi (zag.below h hBc) hwn))))))
  clear hy hbc hge h hb5 xw hBc hc hT hyo hwo hwn
  go_wp2_with fail
  refine HT.out.mono ?_
  rintro e w5 ⟨rfl, v', k5⟩
  obtain ⟨hc, hy, hw, hyo, hwo, k0, hwn⟩ := H4.out
  have hy5 := zag.kept hc k5 hyo hy
  have hw5 := zag.kept hc k5 hwo hw
  obtain ⟨a0, a1, -, -⟩ := zao hy5
  obtain ⟨b0, b1, z0, z1⟩ := zao hw5
  have hs0 := zai (o := 0) hw5 (.int .u64 en.key)
  have hs1 := zai (o := 1) hs0 (.int .i64 en.id)
  have e0 : ((w5.setCell ⟨W.heap.size, 0, none⟩ (.int .u64 en.key)).setCell ⟨W.heap.size, 1, none⟩ (.int .i64 en.id)).cell? ⟨W.heap.size, 0, none⟩ = some (.int .u64 en.key) := by rw [zaa hs1]; rfl
  have e1 : ((w5.setCell ⟨W.heap.size, 0, none⟩ (.int .u64 en.key)).setCell ⟨W.heap.size, 1, none⟩ (.int .i64 en.id)).cell? ⟨W.heap.size, 1, none⟩ = some (.int .i64 en.id) := by rw [zaa hs1]; rfl
  have hfin : Fr (fun j => j = W.heap.size) w5 ((w5.setCell ⟨W.heap.size, 0, none⟩ (.int .u64 en.key)).setCell ⟨W.heap.size, 1, none⟩ (.int .i64 en.id)) := Fr.set (S := fun j => j = W.heap.size) (Fr.set (S := fun j => j = W.heap.size) (Fr.refl _ _) (p := ⟨W.heap.size, 0, none⟩) rfl _) (p := ⟨W.heap.size, 1, none⟩) rfl _
  have hwo5 : ¬ (cOS A { S with evv := v', evs := S.evs ++ [⟨10, t, en.id, en.key, S.tick⟩] }).own W.heap.size := fun e => by
   rcases k5.ps.own _ e with e | e
   · exact hwo e
   · have := zac hw
     omega
  have HF := yyh (zag.newer H3.out.1 (k0.trans k5) rfl hfin (fun j hj => by have hj : j = W.heap.size := hj; rw [hj]; exact ⟨yyn, hwo5⟩))
  clear hc hy hw hyo hwo k0 hwn k5 hy5 hw5 hs0 hs1 hfin hwo5
  go_wp2_with fail
  refine bodyPost_ret (v := .tuple #[.agg #[.int .u64 en.key, .int .i64 en.id], .bool true]) (by simp [results, Tryz.results156, go_sem, e0, e1]) rfl ?_
  exact ⟨rfl, _, HF.out, rfl⟩
end
def CM.claim (c : CM) (t k : Nat) (x : Int × Tk) (key : Int) : CM := { c with rows := c.rows.set k (3, x.2), q := c.q.take ((k : Int) + 1), evs := c.evs ++ [⟨3, t, (k : Int) + 1, key, c.tick⟩], tick := c.tick + 1 }
def tkC (k : Nat) (x : Int × Tk) : Array Value := #[.int .i64 ((k : Int) + 1), .int .i64 x.2.pr, .int .i64 x.1, .int .u64 x.2.du, .int .u64 x.2.ke, .int .u64 x.2.ru, .int .u64 0]
theorem zpu {w : World} {b : Nat} {z0 z1 z2 z3 z4 z5 z6 : Value} {t : TypeId} (h : w.heap[b]? = some (.cells #[z0, z1, z2, z3, z4, z5, z6] t (0, 0))) (a0 a1 a2 a3 a4 a5 a6 : Value) : (((((((w.setCell ⟨b, 0, none⟩ a0).setCell ⟨b, 1, none⟩ a1).setCell ⟨b, 2, none⟩ a2).setCell ⟨b, 3, none⟩ a3).setCell ⟨b, 4, none⟩ a4).setCell ⟨b, 5, none⟩ a5).setCell ⟨b, 6, none⟩ a6).heap[b]? = some (.cells #[a0, a1, a2, a3, a4, a5, a6] t (0, 0)) := by
 rw [zai (zai (zai (zai (zai (zai (zai h _) _) _) _) _) _) _]
 simp
theorem zlw (w : World) (b : Nat) (a0 a1 a2 a3 a4 a5 a6 : Value) : Fr (fun j => j = b) w (((((((w.setCell ⟨b, 0, none⟩ a0).setCell ⟨b, 1, none⟩ a1).setCell ⟨b, 2, none⟩ a2).setCell ⟨b, 3, none⟩ a3).setCell ⟨b, 4, none⟩ a4).setCell ⟨b, 5, none⟩ a5).setCell ⟨b, 6, none⟩ a6) := by
 have s : ∀ {w' : World} (h : Fr (fun j => j = b) w w') (i : Nat) (v : Value), Fr (fun j => j = b) w (w'.setCell ⟨b, i, none⟩ v) := fun h i v => Fr.set (S := fun j => j = b) h (p := ⟨b, i, none⟩) rfl v
 exact s (s (s (s (s (s (s (Fr.refl _ _) 0 _) 1 _) 2 _) 3 _) 4 _) 5 _) 6 _
def ClS (cb tt b : Nat) (e : En) (w : World) : Prop := w.cell? ⟨cb, 7, none⟩ = some (.pointer (some ⟨tt, 0, none⟩)) ∧ w.cell? ⟨b, 0, none⟩ = some (.int .u64 e.key) ∧ w.cell? ⟨b, 1, none⟩ = some (.int .i64 e.id)
theorem ClS.below {cb tt b : Nat} {e : En} {w w' : World} (h : ClS cb tt b e w) (hb : Below w.heap.size w w') : ClS cb tt b e w' := ⟨zae hb h.1, zae hb h.2.1, zae hb h.2.2⟩
theorem ClS.al {cb tt b : Nat} {e : En} {w : World} (h : ClS cb tt b e w) (o : Obj) : ClS cb tt b e (w.alloc o) := h.below (zab yyr _)
section
variable {W W' : World} {A : CA} {S S' : CS} {N N' : Nat}
theorem ClS.step {b : Nat} {e : En} (h : ClS A.cb A.t.t b e W) (hb : ¬ (cOS A S).own b) (k : zag W A S W' S' N') : ClS A.cb A.t.t b e W' := by
 have n : ¬ (cOS A S).wr b := fun e => hb (by obtain ⟨c, hc, hw⟩ := e; exact ⟨c, hc, c.sub _ hw⟩)
 exact ⟨k.at_.cells.2.2.2.2.2.2.2.1, za6 k.ps.fr n h.2.1, za6 k.ps.fr n h.2.2⟩
theorem ClS.fr {Z : Nat → Prop} {cb tt b : Nat} {e : En} {w w' : World} (h : ClS cb tt b e w) (f : Fr Z w w') (h1 : ¬ Z cb) (h2 : ¬ Z b) : ClS cb tt b e w' := ⟨za6 f h1 h.1, za6 f h2 h.2.1, za6 f h2 h.2.2⟩
def ClR (W1 : World) (A : CA) (S : CS) (N : Nat) (k : Nat) (x : Int × Tk) (v7 v8 : Value) (w : World) : Prop := ∃ yb, v7 = .pointer (some ⟨yb, 0, none⟩) ∧ v8 = .bool true ∧ w.heap[yb]? = some (.cells (tkC k x) 49 (0, 0)) ∧ zag W1 A S w { S with t := { S.t with B := S.t.B + 1 } } (N + 1) ∧ W1.heap.size ≤ yb
theorem zzg (h : zal W A S N) {w : World} (hb : Below W.heap.size W w) (hN : N ≤ 400000000) (k : Nat) (x : Int × Tk) (hx : S.t.rows[k]? = some x) : Calls Tryz.prog 56 #[.pointer (some ⟨A.t.t, 0, none⟩), .int .i64 ((k : Int) + 1)] w fun e w' => e = .returned (.tuple #[.agg (tkC k x), .bool true]) ∧ zag w A S w' { S with t := { S.t with B := S.t.B + 1 } } (N + 1) := by
 have hc := h.below hb
 have hbn := h.bnd
 refine (zv0 hc.t (by omega) k x hx).mono ?_
 rintro e w' ⟨rfl, ht, hp⟩
 exact ⟨rfl, hc.setT (N' := N + 1) ht hp (by show S.t.B + 1 ≤ _; omega) (by omega)⟩
theorem ClR.last (h : zal W A S N) {w : World} {k : Nat} {x : Int × Tk} (kk : zag W A S w { S with t := { S.t with B := S.t.B + 1 } } (N + 1)) : ClR W A S N k x (.pointer (some ⟨w.heap.size, 0, none⟩)) (.bool true) (w.alloc (.cells (tkC k x) 49)) :=
 ⟨_, rfl, rfl, heap_alloc_new w _, kk.trans (zag.below kk.at_ (zab yyr _)), kk.ps.fr.size⟩
theorem ClR.first {w0 w : World} {b : Nat} {k : Nat} {x : Int × Tk} (h : zal W A S N) (hb : Below W.heap.size W w0) (kk : zag w0 A S w { S with t := { S.t with B := S.t.B + 1 } } (N + 1)) (hge : W.heap.size ≤ b) (hlt : b < w0.heap.size) (hbo : ¬ (cOS A S).own b) {z0 z1 z2 z3 z4 z5 z6 : Value} (hz : w.heap[b]? = some (.cells #[z0, z1, z2, z3, z4, z5, z6] 49 (0, 0))) : ClR W A S N k x (.pointer (some ⟨b, 0, none⟩)) (.bool true) (((((((w.setCell ⟨b, 0, none⟩ (.int .i64 ((k : Int) + 1))).setCell ⟨b, 1, none⟩ (.int .i64 x.2.pr)).setCell ⟨b, 2, none⟩ (.int .i64 x.1)).setCell ⟨b, 3, none⟩ (.int .u64 x.2.du)).setCell ⟨b, 4, none⟩ (.int .u64 x.2.ke)).setCell ⟨b, 5, none⟩ (.int .u64 x.2.ru)).setCell ⟨b, 6, none⟩ (.int .u64 0)) := by
 have k0 : zag W A S w { S with t := { S.t with B := S.t.B + 1 } } (N + 1) := (zag.below h hb).trans kk
 refine ⟨b, rfl, rfl, zpu hz _ _ _ _ _ _ _, zag.newer h k0 rfl (zlw _ _ _ _ _ _ _ _ _) (fun j hj => ?_), hge⟩
 have hj : j = b := hj
 rw [hj]
 refine ⟨hge, fun e => ?_⟩
 rcases kk.ps.own _ e with e | e
 · exact hbo e
 · omega
theorem zv4 (h : zal W A S N) (hN : N ≤ 300000000) (hq : (S.q.q A.q.k).Ok) (t : Nat) (ht : t < A.q.lp.length) (k : Nat) (x : Int × Tk) (hx : S.t.rows[k]? = some x) (key : Int) (hit : Bool) (hhit : hit = (x.1 == 2 && x.2.ke == key)) : Calls Tryz.prog 157 #[.pointer (some ⟨A.cb, 0, none⟩), .int .i64 t, .agg #[.int .u64 key, .int .i64 ((k : Int) + 1)]] W fun e w' => e = .returned (.int .i64 (if hit then 0 else 8)) ∧ ∃ S', zag W A S w' S' (N + 5) ∧ S'.cm A = if hit then (S.cm A).claim t k x key else S.cm A := by
 obtain ⟨W1, hW1⟩ := yye (W.alloc (.cells #[.int .u64 key, .int .i64 ((k : Int) + 1)] 63))
 have hb1 : Below W.heap.size W W1 := by rw [← hW1]; exact zab yyr _
 have x1 : W1.heap[W.heap.size]? = some (.cells #[.int .u64 key, .int .i64 ((k : Int) + 1)] 63 (0, 0)) := by rw [← hW1]; exact heap_alloc_new W _
 have h1 := h.below hb1
 have hd1 := h1.below (zaf yyr)
 have hbo : ¬ (cOS A S).own W.heap.size := fun e => by have := h.lt e; omega
 have hso : ¬ (cOS A S).own W1.heap.size := fun e => by have := h1.lt e; omega
 have hcbn : A.cb ≠ W1.heap.size := by have := zac h1.hdr; omega
 have hwn : W.heap.size ≠ W1.heap.size := by have := zac x1; omega
 have hS : ClS A.cb A.t.t W.heap.size ⟨key, (k : Int) + 1⟩ W1.drew := ⟨hd1.cells.2.2.2.2.2.2.2.1, (zao x1).1, (zao x1).2.1⟩
 have HS := yyh hS
 have HG := yyh (fun (w : World) (hb : Below W1.heap.size W1 w) => zzg h1 hb (by omega) k x hx)
 have H := yyh (yyi h (yyi hb1 (yyi x1 (yyi h1 (yyi hq (yyi hx (yyi hbo (yyi hso (yyi hcbn (yyi hwn ht))))))))))
 have HH := yyh hhit
 clear h hb1 x1 h1 hd1 hq hx hbo hso hcbn hwn hS hhit ht
 go_enter Tryz.func157, Tryz.ntmps157
 go_upto_region 1 with fail
 clear hW1
 go_cut [9, 7, 8] (fun v9 v7 v8 w => ClR W1 A S N k x v7 v8 w)
 case first =>
  unfold tkC at HG
  skip
  -- REGION 1 BEGIN
  refine wp_region_held_drew (S := ClS A.cb A.t.t W.heap.size ⟨key, (k : Int) + 1⟩) (by kernel_rfl) HS.out (fun hH => ?_)
  refine tq 0 ?_ rfl ?_ ?_
  rotate_left
  · (rintro w ⟨_, _, _⟩; go_simp; try with_reducible rfl)
  try simp only [Act.put, pA, pB, pC]
  refine tq 1 ?_ rfl ?_ ?_
  rotate_left
  · (rintro w ⟨_, _, _⟩; go_simp; try with_reducible rfl)
  try simp only [Act.put, pA, pB, pC]
  refine tq 2 ?_ rfl ?_ ?_
  rotate_left
  · (rintro w ⟨_, _, _⟩; go_simp; try with_reducible rfl)
  try simp only [Act.put, pA, pB, pC]
  refine tq 3 ?_ rfl ?_ ?_
  rotate_left
  · (rintro w ⟨_, _, _⟩; go_simp; try with_reducible rfl)
  try simp only [Act.put, pA, pB, pC]
  refine tq 4 ?_ rfl ?_ ?_
  rotate_left
  · (rintro w ⟨_, _, _⟩; go_simp; try with_reducible rfl)
  try simp only [Act.put, pA, pB, pC]
  refine tq 5 ?_ rfl ?_ ?_
  rotate_left
  · (rintro w ⟨_, _, _⟩; go_simp; try with_reducible rfl)
  try simp only [Act.put, pA, pB, pC]
  refine wpAnyH_ready (rs := [6, 10]) (by kernel_rfl) (by simp) ?_
  refine AllReadyH.cons rfl (fun K hK => ?_) ?_
  ·
   (go_simp; go_at_call 56; first | (refine (HG.out W1.drew (zaf yyr)).mono ?_; rintro e w6 ⟨rfl, hk6⟩; have HK6 := yyh hk6; have HQ6 := yyh (HS.out.step H.out.2.2.2.2.2.2.1 hk6); clear hk6) | (refine (HG.out (W1.drew.alloc (.cells #[.int .i64 0, .int .i64 0, .int .i64 0, .int .u64 0, .int .u64 0, .int .u64 0, .int .u64 0] 49)) (zab (zaf yyr) _)).mono ?_; rintro e w6 ⟨rfl, hk6⟩; have HK6 := yyh hk6; have HQ6 := yyh ((HS.out.al _).step H.out.2.2.2.2.2.2.1 hk6); have hY6 : w6.heap[W1.heap.size]? = some (.cells #[.int .i64 0, .int .i64 0, .int .i64 0, .int .u64 0, .int .u64 0, .int .u64 0, .int .u64 0] 49 (0, 0)) := zag.kept (H.out.2.2.2.1.below (zab (zaf yyr) _)) hk6 H.out.2.2.2.2.2.2.2.1 (heap_alloc_new W1 _); have y0 : w6.cell? ⟨W1.heap.size, 0, none⟩ = some (.int .i64 0) := zaa hY6; have y1 : w6.cell? ⟨W1.heap.size, 1, none⟩ = some (.int .i64 0) := zaa hY6; have y2 : w6.cell? ⟨W1.heap.size, 2, none⟩ = some (.int .i64 0) := zaa hY6; have y3 : w6.cell? ⟨W1.heap.size, 3, none⟩ = some (.int .u64 0) := zaa hY6; have y4 : w6.cell? ⟨W1.heap.size, 4, none⟩ = some (.int .u64 0) := zaa hY6; have y5 : w6.cell? ⟨W1.heap.size, 5, none⟩ = some (.int .u64 0) := zaa hY6; have y6 : w6.cell? ⟨W1.heap.size, 6, none⟩ = some (.int .u64 0) := zaa hY6; have z0 : ∀ i, w6.frozen? ⟨W1.heap.size, i, none⟩ = false := fun i => za5 hY6; have HY6 := yyh hY6; clear hk6 hY6))
   refine hK.out _ _ ?_ (fun hH => ?_)
   · (try dsimp only); (exact HQ6.out)
   clear hK K
   refine tq 7 ?_ rfl ?_ ?_
   rotate_left
   · (rintro w ⟨_, _, _⟩; go_simp; try with_reducible rfl)
   try simp only [Act.put, pA, pB, pC]
   refine tq 8 ?_ rfl ?_ ?_
   rotate_left
   · (rintro w ⟨_, _, _⟩; go_simp; try with_reducible rfl)
   try simp only [Act.put, pA, pB, pC]
   refine tq 9 ?_ rfl ?_ ?_
   rotate_left
   · (rintro w ⟨_, _, _⟩; go_simp; try with_reducible rfl)
   try simp only [Act.put, pA, pB, pC]
   refine rd 10 (by kernel_rfl) rfl (fun K hK => ?_)
   ·
    (go_simp)
    refine hK.out _ _ ?_ (fun hH => ?_)
    · (try dsimp only); (exact hH.al _)
    clear hK K
    refine rd 11 (by kernel_rfl) rfl (fun K hK => ?_)
    ·
     (go_simp)
     refine hK.out _ _ ?_ (fun hH => ?_)
     · (try dsimp only); (first | (have hy := HY6.out; exact HQ6.out.fr (zlw _ _ _ _ _ _ _ _ _) H.out.2.2.2.2.2.2.2.2.1 H.out.2.2.2.2.2.2.2.2.2.1) | exact HQ6.out.al _)
     clear hK K
     refine rd 12 (by kernel_rfl) rfl (fun K hK => ?_)
     ·
      (go_simp)
      refine hK.out _ _ ?_ (fun hH => ?_)
      · (try dsimp only); (exact hH)
      clear hK K
      refine wpAnyH_done (by kernel_rfl) ?_ _
      go_wp2_with fail
      go_meet
      first | (have hy := HY6.out; exact ClR.first H.out.2.2.2.1 (zab (zaf yyr) _) HK6.out yyn (by simp) H.out.2.2.2.2.2.2.2.1 hy) | exact ClR.last H.out.2.2.2.1 ((zag.below H.out.2.2.2.1 (zaf yyr)).trans HK6.out)
  refine AllReadyH.cons rfl (fun K hK => ?_) ?_
  ·
   (go_simp)
   refine hK.out _ _ ?_ (fun hH => ?_)
   · (try dsimp only); (exact hH.al _)
   clear hK K
   refine rd 6 (by kernel_rfl) rfl (fun K hK => ?_)
   ·
    (go_simp; go_at_call 56; first | (refine (HG.out W1.drew (zaf yyr)).mono ?_; rintro e w6 ⟨rfl, hk6⟩; have HK6 := yyh hk6; have HQ6 := yyh (HS.out.step H.out.2.2.2.2.2.2.1 hk6); clear hk6) | (refine (HG.out (W1.drew.alloc (.cells #[.int .i64 0, .int .i64 0, .int .i64 0, .int .u64 0, .int .u64 0, .int .u64 0, .int .u64 0] 49)) (zab (zaf yyr) _)).mono ?_; rintro e w6 ⟨rfl, hk6⟩; have HK6 := yyh hk6; have HQ6 := yyh ((HS.out.al _).step H.out.2.2.2.2.2.2.1 hk6); have hY6 : w6.heap[W1.heap.size]? = some (.cells #[.int .i64 0, .int .i64 0, .int .i64 0, .int .u64 0, .int .u64 0, .int .u64 0, .int .u64 0] 49 (0, 0)) := zag.kept (H.out.2.2.2.1.below (zab (zaf yyr) _)) hk6 H.out.2.2.2.2.2.2.2.1 (heap_alloc_new W1 _); have y0 : w6.cell? ⟨W1.heap.size, 0, none⟩ = some (.int .i64 0) := zaa hY6; have y1 : w6.cell? ⟨W1.heap.size, 1, none⟩ = some (.int .i64 0) := zaa hY6; have y2 : w6.cell? ⟨W1.heap.size, 2, none⟩ = some (.int .i64 0) := zaa hY6; have y3 : w6.cell? ⟨W1.heap.size, 3, none⟩ = some (.int .u64 0) := zaa hY6; have y4 : w6.cell? ⟨W1.heap.size, 4, none⟩ = some (.int .u64 0) := zaa hY6; have y5 : w6.cell? ⟨W1.heap.size, 5, none⟩ = some (.int .u64 0) := zaa hY6; have y6 : w6.cell? ⟨W1.heap.size, 6, none⟩ = some (.int .u64 0) := zaa hY6; have z0 : ∀ i, w6.frozen? ⟨W1.heap.size, i, none⟩ = false := fun i => za5 hY6; have HY6 := yyh hY6; clear hk6 hY6))
    refine hK.out _ _ ?_ (fun hH => ?_)
    · (try dsimp only); (exact HQ6.out)
    clear hK K
    refine tq 7 ?_ rfl ?_ ?_
    rotate_left
    · (rintro w ⟨_, _, _⟩; go_simp; try with_reducible rfl)
    try simp only [Act.put, pA, pB, pC]
    refine tq 8 ?_ rfl ?_ ?_
    rotate_left
    · (rintro w ⟨_, _, _⟩; go_simp; try with_reducible rfl)
    try simp only [Act.put, pA, pB, pC]
    refine tq 9 ?_ rfl ?_ ?_
    rotate_left
    · (rintro w ⟨_, _, _⟩; go_simp; try with_reducible rfl)
    try simp only [Act.put, pA, pB, pC]
    refine rd 11 (by kernel_rfl) rfl (fun K hK => ?_)
    ·
     (go_simp)
     refine hK.out _ _ ?_ (fun hH => ?_)
     · (try dsimp only); (first | (have hy := HY6.out; exact HQ6.out.fr (zlw _ _ _ _ _ _ _ _ _) H.out.2.2.2.2.2.2.2.2.1 H.out.2.2.2.2.2.2.2.2.2.1) | exact HQ6.out.al _)
     clear hK K
     refine rd 12 (by kernel_rfl) rfl (fun K hK => ?_)
     ·
      (go_simp)
      refine hK.out _ _ ?_ (fun hH => ?_)
      · (try dsimp only); (exact hH)
      clear hK K
      refine wpAnyH_done (by kernel_rfl) ?_ _
      go_wp2_with fail
      go_meet
      first | (have hy := HY6.out; exact ClR.first H.out.2.2.2.1 (zab (zaf yyr) _) HK6.out yyn (by simp) H.out.2.2.2.2.2.2.2.1 hy) | exact ClR.last H.out.2.2.2.1 ((zag.below H.out.2.2.2.1 (zaf yyr)).trans HK6.out)
  exact AllReadyH.nil
  -- REGION 1 END
 case rest =>
  obtain ⟨yb, rfl, rfl, hy, k1, hge⟩ := hcut
  obtain ⟨S1, hS1⟩ : ∃ S1 : CS, { S with t := { S.t with B := S.t.B + 1 } } = S1 := ⟨_, rfl⟩
  rw [hS1] at k1
  obtain ⟨h, hb1, x1, h1, hq, hx, hbo, hso, hcbn, hwn, ht⟩ := H.out
  have hbc := zag.kept h1 k1 hbo x1
  obtain ⟨b0, b1, -, -⟩ := zao hbc
  have t2 : wc.cell? ⟨yb, 2, none⟩ = some (.int .i64 x.1) := by rw [zaa hy]; rfl
  have t4 : wc.cell? ⟨yb, 4, none⟩ = some (.int .u64 x.2.ke) := by rw [zaa hy]; rfl
  have HT := yyh (zjc k1.at_ t ht)
  have hr1 : S1.t.rows = S.t.rows := by rw [← hS1]
  have hbo1 : ¬ (cOS A S1).own W.heap.size := fun e => by
   rcases k1.ps.own _ e with e | e
   · exact hbo e
   · have := zac x1
     omega
  have H1 := yyh (yyi (zag.below h hb1 |>.trans k1) (yyi hS1 (yyi hr1 (yyi hbc (yyi hbo1 hy)))))
  cases hit with
  | false =>
   have hm1 : S1.cm A = S.cm A := by rw [← hS1]; rfl
   have HM := yyh hm1
   clear hm1
   by_cases h2 : x.1 = 2
   ·
    have g1 : (x.1 != 2) = false := by simp [h2]
    have g2 : (x.2.ke != key) = true := by
     have := HH.out
     simp [h2] at this
     simpa using this
    clear h hb1 x1 h1 hq hx hbo hso hcbn hwn ht k1 hbc hr1 hbo1 hS1 hy hge h2
    go_wp2_with fail
    refine HT.out.mono ?_
    rintro e w' ⟨rfl, rfl⟩
    go_wp2_with fail
    go_ret
    exact ⟨rfl, S1, H1.out.1.up (by omega), HM.out⟩
   ·
    have g1 : (x.1 != 2) = true := by simpa using h2
    clear h hb1 x1 h1 hq hx hbo hso hcbn hwn ht k1 hbc hr1 hbo1 hS1 hy hge h2
    go_wp2_with fail
    refine HT.out.mono ?_
    rintro e w' ⟨rfl, rfl⟩
    go_wp2_with fail
    go_ret
    exact ⟨rfl, S1, H1.out.1.up (by omega), HM.out⟩
  | true =>
   have hh := HH.out
   simp only [Bool.true_eq, Bool.and_eq_true, beq_iff_eq] at hh
   obtain ⟨h2, h3⟩ := hh
   have g1 : (x.1 != 2) = false := by simp [h2]
   have g2 : (x.2.ke != key) = false := by simp [h3]
   have hcd := k1.at_.below (zaf yyr)
   have d7 : wc.drew.cell? ⟨A.cb, 7, none⟩ = some (.pointer (some ⟨A.t.t, 0, none⟩)) := hcd.cells.2.2.2.2.2.2.2.1
   have d7' : wc.cell? ⟨A.cb, 7, none⟩ = some (.pointer (some ⟨A.t.t, 0, none⟩)) := d7
   have d1 : wc.drew.cell? ⟨W.heap.size, 1, none⟩ = some (.int .i64 ((k : Int) + 1)) := b1
   have hbn := hcd.bnd
   have HU := yyh (zmw hcd.t (by omega) k x (by rw [hr1]; exact hx) 3 (by omega) (by omega) (by rw [h2]; decide))
   have H2 := yyh (yyi hcd hbn)
   have HX := yyh (yyi h2 h3)
   clear h hb1 x1 h1 hq hx hbo hso hcbn hwn ht k1 hbc hr1 hbo1 hS1 hy hge h2 h3 hcd hbn
   go_wp2_with fail
   refine HT.out.mono ?_
   rintro e w' ⟨rfl, rfl⟩
   go_upto_region 6 with fail
   refine wp_region_still_tail 6 (by kernel_rfl) (by kernel_rfl) ?_
   simp only [List.take_succ_cons, List.take_zero, List.drop_succ_cons, List.drop_zero]
   iterate 6 still_step
   refine wpStill_nil ?_
   change wpList _ _ _ _ _ wc.drew
   go_wp2_with fail
   refine HU.out.mono ?_
   rintro e w2 ⟨rfl, t', ht2, hp2, hr2, hb2⟩
   obtain ⟨hcd, hbn⟩ := H2.out
   have k2 := hcd.setT (N' := N + 3) ht2 hp2 (by omega) (by omega)
   obtain ⟨S2, hS2⟩ : ∃ S2 : CS, { S1 with t := t' } = S2 := ⟨_, rfl⟩
   rw [hS2] at k2
   have k02 := (H1.out.1.trans (zag.below H1.out.1.at_ (zaf yyr))).trans k2
   have hbo2 : ¬ (cOS A S2).own W.heap.size := fun e => by
    rcases k2.ps.own _ e with e | e
    · exact H1.out.2.2.2.2.1 e
    · have := zac H1.out.2.2.2.1
      have e' : wc.drew.heap.size = wc.heap.size := rfl
      omega
   have hbx2 : w2.heap[W.heap.size]? = some (.cells #[.int .u64 key, .int .i64 ((k : Int) + 1)] 63 (0, 0)) := zag.kept hcd k2 H1.out.2.2.2.2.1 H1.out.2.2.2.1
   have hd2 := k2.at_.below (zaf yyr)
   have f3 : w2.drew.cell? ⟨A.cb, 3, none⟩ = some (.pointer (some ⟨A.q.qp, 0, none⟩)) := hd2.cells.2.2.2.1
   have f3' : w2.cell? ⟨A.cb, 3, none⟩ = some (.pointer (some ⟨A.q.qp, 0, none⟩)) := f3
   have f1 : w2.drew.cell? ⟨W.heap.size, 1, none⟩ = some (.int .i64 ((k : Int) + 1)) := (zao hbx2).2.1
   have f1' : w2.cell? ⟨W.heap.size, 1, none⟩ = some (.int .i64 ((k : Int) + 1)) := f1
   have hq2 : S2.q = S.q := by rw [← hS2, ← H1.out.2.1]
   have HQ := yyh (zxy hd2.q (by rw [hq2]; exact H.out.2.2.2.2.1) ((k : Int) + 1))
   have H3 := yyh (yyi k02 (yyi hd2 (yyi hbx2 (yyi hbo2 (yyi hS2 (yyi hr2 hq2))))))
   clear ht2 hp2 hr2 hb2 hcd hbn k2 hS2 k02 hbo2 hbx2 hd2 hq2
   go_upto_region 7 with fail
   refine wp_region_still_tail 6 (by kernel_rfl) (by kernel_rfl) ?_
   simp only [List.take_succ_cons, List.take_zero, List.drop_succ_cons, List.drop_zero]
   iterate 6 still_step
   refine wpStill_nil ?_
   change wpList _ _ _ _ _ w2.drew
   go_wp2_with fail
   refine HQ.out.mono ?_
   rintro e w3 ⟨rfl, s3, hs3, hq3⟩
   obtain ⟨k02, hd2, hbx2, hbo2, hS2, hr2, hq2⟩ := H3.out
   have k3 := hd2.setQ hs3
   obtain ⟨S3, hS3⟩ : ∃ S3 : CS, { S2 with q := s3 } = S3 := ⟨_, rfl⟩
   rw [hS3] at k3
   have k03 := (k02.trans (zag.below k02.at_ (zaf yyr))).trans k3
   have hbx3 : w3.heap[W.heap.size]? = some (.cells #[.int .u64 key, .int .i64 ((k : Int) + 1)] 63 (0, 0)) := zag.kept hd2 k3 hbo2 hbx2
   obtain ⟨a0, a1, -, -⟩ := zao hbx3
   have HTl := yyh (zhf k03.at_ (by omega) 3 t ((k : Int) + 1) key)
   have H4 := yyh (yyi k03 (yyi hS3 hq3))
   clear hs3 hq3 k02 hd2 hbx2 hbo2 hS2 hr2 hq2 k3 hS3 k03 hbx3
   go_wp2_with fail
   refine HTl.out.mono ?_
   rintro e w5 ⟨rfl, v5, k5⟩
   obtain ⟨k03, hS3, hq3⟩ := H4.out
   have htick : S3.tick = S.tick := by rw [← hS3, ← H3.out.2.2.2.2.1, ← H1.out.2.1]
   have hbt := H.out.1.bnd
   have e8 : w5.cell? ⟨A.cb, 8, none⟩ = some (.int .u64 S.tick) := by
    rw [k5.at_.cells.2.2.2.2.2.2.2.2.1]
    show some (Value.int .u64 S3.tick) = _
    rw [htick]
   have z8 : w5.frozen? ⟨A.cb, 8, none⟩ = false := za5 k5.at_.hdr
   have gw : (S.tick + 1) % 18446744073709551616 = S.tick + 1 := by omega
   have k6 := k5.at_.setTick (N' := N + 5) (S.tick + 1) (by omega) (by omega) (by omega)
   have H5 := yyh (yyi (k03.trans k5) (yyi k6 htick))
   clear k03 hS3 hq3 htick hbt k5 k6
   go_wp2_with fail
   go_ret
   refine ⟨rfl, _, H5.out.1.trans H5.out.2.1, ?_⟩
   obtain ⟨k02, hd2, hbx2, hbo2, hS2, hr2, hq2⟩ := H3.out
   have e1 := H4.out.2.2
   have htick := H5.out.2.2
   have hS3 := H4.out.2.1
   unfold CS.cm CM.claim
   dsimp only
   rw [htick]
   rw [← hS3]
   dsimp only
   rw [e1, hq2, ← hS2]
   dsimp only
   rw [hr2, H1.out.2.2.1, ← H1.out.2.1]
   rfl
end
def CM.fin (c : CM) (t k : Nat) (x : Int × Tk) : CM := { c with rows := c.rows.set k (4, x.2.ran), o := c.o - 1, evs := c.evs ++ [⟨4, t, (k : Int) + 1, 0, c.tick⟩] }
def CM.wake (c : CM) (t : Nat) (y : Tk) : CM := ({ c with d := false, rows := c.rows.set 1 (2, y) } : CM).rel t 1 (2, y)
section
variable {W W' : World} {A : CA} {S S' : CS} {N N' : Nat}
theorem zpv (h : zal W A S N) (t : Int) (k : Nat) (x : Int × Tk) (hx : S.t.rows[k]? = some x) (ok : Bool) : Calls Tryz.prog 219 #[.pointer (some ⟨A.cb, 0, none⟩), .int .i64 t, .int .i64 ((k : Int) + 1), .bool ok] W fun e w' => e = .returned (.bool false) ∧ Below W.heap.size W w' := by
 obtain ⟨-, -, -, -, -, -, -, c7, -⟩ := h.cells
 have HJ := yyh (zzc h.t k x hx)
 clear h hx
 go_enter Tryz.func219, Tryz.ntmps219
 go_wp2_with fail
 refine HJ.out.mono ?_
 rintro e w1 ⟨rfl, hb⟩
 have HB := yyh hb
 clear hb
 go_wp2_with fail
 go_ret
 exact ⟨rfl, zab HB.out _⟩
theorem zpw (h : zal W A S N) (hN : N ≤ 300000000) (t : Nat) (ht : t < A.q.lp.length) (k : Nat) (x : Tk) (hx : S.t.rows[k]? = some (3, x)) (ho : 0 < S.o) (hd : S.d = false) : Calls Tryz.prog 159 #[.pointer (some ⟨A.cb, 0, none⟩), .int .i64 t, .int .i64 ((k : Int) + 1), .bool true] W fun e w' => e = .returned (.int .i64 0) ∧ ∃ S', zag W A S w' S' (N + 10) ∧ S'.cm A = (S.cm A).fin t k (3, x) := by
 have HS := yyh (zgk h (by omega) k _ hx)
 have H := yyh (yyi h (yyi hx (yyi ho (yyi hd ht))))
 clear h hx ho hd ht
 go_enter Tryz.func159, Tryz.ntmps159
 go_wp2_with fail
 refine HS.out.mono ?_
 rintro e w1 ⟨rfl, k1⟩
 obtain ⟨h, hx, ho, hd, ht⟩ := H.out
 have HT := yyh (zjc k1.at_ t ht)
 have HA := yyh (zpv k1.at_ t k (3, x) hx true)
 have H1 := yyh k1
 clear k1 h hx ho hd ht
 go_wp2_with fail
 refine HT.out.mono ?_
 rintro e w' ⟨rfl, rfl⟩
 go_wp2_with fail
 refine HA.out.mono ?_
 rintro e w2 ⟨rfl, hb2⟩
 have k2 := H1.out.trans (zag.below H1.out.at_ hb2)
 obtain ⟨S2, hS2⟩ : ∃ S2 : CS, { S with t := { S.t with B := S.t.B + 1 } } = S2 := ⟨_, rfl⟩
 rw [hS2] at k2
 have hr2 : S2.t.rows = S.t.rows := by rw [← hS2]
 have hbn := k2.at_.bnd
 obtain ⟨-, -, -, -, -, -, -, c7, -⟩ := k2.at_.cells
 have HU := yyh (zmw k2.at_.t (by omega) k (3, x) (by rw [hr2]; exact H.out.2.1) 4 (by omega) (by omega) (show canB 3 4 = true by decide))
 have H2 := yyh (yyi k2 (yyi hS2 (yyi hr2 hbn)))
 clear k2 hS2 hr2 hbn hb2
 go_wp2_with fail
 refine HU.out.mono ?_
 rintro e w3 ⟨rfl, t3, ht3, hp3, hr3, hb3⟩
 obtain ⟨k2, hS2, hr2, hbn⟩ := H2.out
 have k3 := k2.trans (k2.at_.setT (N' := N + 3) ht3 hp3 (by omega) (by omega))
 obtain ⟨S3, hS3⟩ : ∃ S3 : CS, { S2 with t := t3 } = S3 := ⟨_, rfl⟩
 rw [hS3] at k3
 have ho3 : S3.o = S.o := by rw [← hS3, ← hS2]
 have hbn3 := k3.at_.bnd
 have hcr := zmb k3.at_.cr (by omega) (by rw [ho3]; exact H.out.2.2.1)
 have HG := yyh hcr
 obtain ⟨-, -, -, -, -, -, c6, -⟩ := k3.at_.cells
 have H3 := yyh (yyi k3 (yyi hS3 (yyi hr3 (yyi ho3 hbn3))))
 clear ht3 hp3 hr3 hb3 k2 hS2 hr2 hbn k3 hS3 ho3 hbn3 hcr
 go_wp2_with fail
 refine HG.out.mono ?_
 rintro e w4 ⟨rfl, hc4, hf4⟩
 obtain ⟨k3, hS3, hr3, ho3, hbn3⟩ := H3.out
 have k4 := k3.trans (k3.at_.setCr (N' := N + 6) hc4 hf4 (by omega) (by omega))
 obtain ⟨S4, hS4⟩ : ∃ S4 : CS, { S3 with o := S3.o - 1, m := S3.m, K := S3.K + 3 } = S4 := ⟨_, rfl⟩
 rw [hS4] at k4
 have HTl := yyh (zhf k4.at_ (by omega) 4 t ((k : Int) + 1) 0)
 have H4 := yyh (yyi k4 hS4)
 clear hc4 hf4 k3 hS3 hr3 ho3 hbn3 k4 hS4
 go_wp2_with fail
 refine HTl.out.mono ?_
 rintro e w5 ⟨rfl, v5, k5⟩
 obtain ⟨k4, hS4⟩ := H4.out
 have k05 := k4.trans k5
 obtain ⟨S5, hS5⟩ : ∃ S5 : CS, { S4 with evv := v5, evs := S4.evs ++ [⟨4, t, (k : Int) + 1, 0, S4.tick⟩] } = S5 := ⟨_, rfl⟩
 rw [hS5] at k05
 have hd5 : S5.d = false := by rw [← hS5, ← hS4, ← H3.out.2.1, ← H2.out.2.1]; exact H.out.2.2.2.1
 obtain ⟨-, -, -, -, -, c5, -⟩ := k05.at_.cells
 have hdag := k05.at_.d
 rw [hd5] at hdag
 have HD := yyh (zvw hdag ((k : Int) + 1))
 have hcm : S5.cm A = (S.cm A).fin t k (3, x) := by
  have e3 := H3.out.2.1
  have e2 := H2.out.2.1
  have er := H3.out.2.2.1
  rw [← hS5, ← hS4, ← e3, ← e2]
  unfold CS.cm CM.fin
  dsimp only
  rw [er, if_pos (.inl trivial), H2.out.2.2.1]
 have H5 := yyh (yyi k05 hcm)
 clear k4 hS4 k5 k05 hS5 hd5 hdag hcm
 go_wp2_with fail
 refine HD.out.mono ?_
 rintro e w6 ⟨rfl, hb6⟩
 have H6 := yyh (H5.out.1.trans (zag.below H5.out.1.at_ hb6))
 clear hb6
 go_wp2_with fail
 refine wp_loop_rounds 1 ?_
 rw [rounds_succ]
 go_wp2_with fail
 go_ret
 exact ⟨rfl, _, H6.out.up (by omega), H5.out.2⟩
theorem zpx (h : zal W A S N) (hN : N ≤ 300000000) (t : Nat) (ht : t < A.q.lp.length) (x y : Tk) (hx : S.t.rows[0]? = some (3, x)) (hy : S.t.rows[1]? = some (1, y)) (ho : 0 < S.o) (hd : S.d = true) (hq : (S.q.q A.q.k).Ok) : Calls Tryz.prog 159 #[.pointer (some ⟨A.cb, 0, none⟩), .int .i64 t, .int .i64 1, .bool true] W fun e w' => e = .returned (.int .i64 0) ∧ ∃ S', zag W A S w' S' (N + 20) ∧ S'.cm A = ((S.cm A).fin t 0 (3, x)).wake t y := by
 have HS := yyh (show Calls Tryz.prog 22 #[.pointer (some ⟨A.cb, 0, none⟩), .int .i64 1] W fun e w' => e = .returned (.int .i64 3) ∧ zag W A S w' { S with t := { S.t with B := S.t.B + 1 } } (N + 1) from zgk h (by omega) 0 _ hx)
 have H := yyh (yyi h (yyi hx (yyi ho (yyi hd (yyi ht (yyi hy hq))))))
 clear h hx ho hd ht hy hq
 go_enter Tryz.func159, Tryz.ntmps159
 go_wp2_with fail
 refine HS.out.mono ?_
 rintro e w1 ⟨rfl, k1⟩
 obtain ⟨h, hx, ho, hd, ht, hy, hq⟩ := H.out
 have HT := yyh (zjc k1.at_ t ht)
 have HA := yyh (show Calls Tryz.prog 219 #[.pointer (some ⟨A.cb, 0, none⟩), .int .i64 t, .int .i64 1, .bool true] w1 fun e w' => e = .returned (.bool false) ∧ Below w1.heap.size w1 w' from zpv k1.at_ t 0 (3, x) hx true)
 have H1 := yyh k1
 clear k1 h hx ho hd ht hy hq
 go_wp2_with fail
 refine HT.out.mono ?_
 rintro e w' ⟨rfl, rfl⟩
 go_wp2_with fail
 refine HA.out.mono ?_
 rintro e w2 ⟨rfl, hb2⟩
 have k2 := H1.out.trans (zag.below H1.out.at_ hb2)
 obtain ⟨S2, hS2⟩ : ∃ S2 : CS, { S with t := { S.t with B := S.t.B + 1 } } = S2 := ⟨_, rfl⟩
 rw [hS2] at k2
 have hr2 : S2.t.rows = S.t.rows := by rw [← hS2]
 have hbn := k2.at_.bnd
 obtain ⟨-, -, -, -, -, -, -, c7, -⟩ := k2.at_.cells
 have hU := (zmw k2.at_.t (by omega) 0 (3, x) (by rw [hr2]; exact H.out.2.1) 4 (by omega) (by omega) (show canB 3 4 = true by decide))
 have HU := yyh (show Calls Tryz.prog 100 #[.pointer (some ⟨A.t.t, 0, none⟩), .int .i64 1, .int .i64 4] w2 fun e w' => e = .returned (.int .i64 0) ∧ ∃ S', zbx w' A.t S' ∧ zb2 w2 (tOS A.t S2.t) w' (tOS A.t S') ∧ S'.rows = S2.t.rows.set 0 (4, x.ran) ∧ S'.B = S2.t.B + 2 from by simpa using hU)
 clear hU
 have H2 := yyh (yyi k2 (yyi hS2 (yyi hr2 hbn)))
 clear k2 hS2 hr2 hbn hb2
 go_wp2_with fail
 refine HU.out.mono ?_
 rintro e w3 ⟨rfl, t3, ht3, hp3, hr3, hb3⟩
 obtain ⟨k2, hS2, hr2, hbn⟩ := H2.out
 have k3 := k2.trans (k2.at_.setT (N' := N + 3) ht3 hp3 (by omega) (by omega))
 obtain ⟨S3, hS3⟩ : ∃ S3 : CS, { S2 with t := t3 } = S3 := ⟨_, rfl⟩
 rw [hS3] at k3
 have ho3 : S3.o = S.o := by rw [← hS3, ← hS2]
 have hbn3 := k3.at_.bnd
 have hcr := zmb k3.at_.cr (by omega) (by rw [ho3]; exact H.out.2.2.1)
 have HG := yyh hcr
 obtain ⟨-, -, -, -, -, -, c6, -⟩ := k3.at_.cells
 have H3 := yyh (yyi k3 (yyi hS3 (yyi hr3 (yyi ho3 hbn3))))
 clear ht3 hp3 hr3 hb3 k2 hS2 hr2 hbn k3 hS3 ho3 hbn3 hcr
 go_wp2_with fail
 refine HG.out.mono ?_
 rintro e w4 ⟨rfl, hc4, hf4⟩
 obtain ⟨k3, hS3, hr3, ho3, hbn3⟩ := H3.out
 have k4 := k3.trans (k3.at_.setCr (N' := N + 6) hc4 hf4 (by omega) (by omega))
 obtain ⟨S4, hS4⟩ : ∃ S4 : CS, { S3 with o := S3.o - 1, m := S3.m, K := S3.K + 3 } = S4 := ⟨_, rfl⟩
 rw [hS4] at k4
 have HTl := yyh (zhf k4.at_ (by omega) 4 t 1 0)
 have H4 := yyh (yyi k4 hS4)
 clear hc4 hf4 k3 hS3 hr3 ho3 hbn3 k4 hS4
 go_wp2_with fail
 refine HTl.out.mono ?_
 rintro e w5 ⟨rfl, v5, k5⟩
 obtain ⟨k4, hS4⟩ := H4.out
 have k05 := k4.trans k5
 obtain ⟨S5, hS5⟩ : ∃ S5 : CS, { S4 with evv := v5, evs := S4.evs ++ [⟨4, t, 1, 0, S4.tick⟩] } = S5 := ⟨_, rfl⟩
 rw [hS5] at k05
 have hd5 : S5.d = true := by rw [← hS5, ← hS4, ← H3.out.2.1, ← H2.out.2.1]; exact H.out.2.2.2.1
 obtain ⟨-, -, -, -, -, c5, -⟩ := k05.at_.cells
 have hdag := k05.at_.d
 rw [hd5] at hdag
 have HD := yyh (zvx hdag)
 have hcm : S5.cm A = (S.cm A).fin t 0 (3, x) := by
  have e3 := H3.out.2.1
  have e2 := H2.out.2.1
  have er := H3.out.2.2.1
  rw [← hS5, ← hS4, ← e3, ← e2]
  unfold CS.cm CM.fin
  dsimp only
  rw [er, H2.out.2.2.1]
  rfl
 have H5 := yyh (yyi k05 (yyi hcm hd5))
 clear k4 hS4 k5 k05 hS5 hd5 hdag hcm
 go_wp2_with fail
 refine HD.out.mono ?_
 rintro e w6 ⟨v6, rfl, hv6, ho6, hD6, hf6⟩
 rcases hv6.form with ⟨-, hz, -⟩ | ⟨q6, off6, cap6, rfl, hle6, hmx6, hql6, hqc6⟩
 · omega
 have q0 : w6.cell? ⟨q6, off6, none⟩ = some (.int .i64 2) := hqc6 0 _ rfl
 have hcap6 : (cap6 : Int) ≤ 9223372036854775807 := by unfold maxLen at hmx6; omega
 have k6 := H5.out.1.trans (H5.out.1.at_.setD hD6 hf6)
 obtain ⟨S6, hS6⟩ : ∃ S6 : CS, { S5 with d := false } = S6 := ⟨_, rfl⟩
 rw [hS6] at k6
 have hm6 : S6.cm A = { (S.cm A).fin t 0 (3, x) with d := false } := by rw [← hS6, ← H5.out.2.1]; rfl
 have hr6 : S6.t.rows = S.t.rows.set 0 (4, x.ran) := congrArg CM.rows hm6
 have hy6 : S6.t.rows[1]? = some (1, y) := by
  rw [hr6, List.getElem?_set_ne (by omega)]
  exact H.out.2.2.2.2.2.1
 obtain ⟨-, -, -, -, -, -, -, c7', -⟩ := k6.at_.cells
 have hbn6 := k6.at_.bnd
 have hU := zmw k6.at_.t (by omega) 1 (1, y) hy6 2 (by omega) (by omega) (show canB 1 2 = true by decide)
 have HU6 := yyh (show Calls Tryz.prog 100 #[.pointer (some ⟨A.t.t, 0, none⟩), .int .i64 2, .int .i64 2] w6 fun e w' => e = .returned (.int .i64 0) ∧ ∃ S', zbx w' A.t S' ∧ zb2 w6 (tOS A.t S6.t) w' (tOS A.t S') ∧ S'.rows = S6.t.rows.set 1 (2, y) ∧ S'.B = S6.t.B + 2 from by simpa using hU)
 have H6 := yyh (yyi k6 (yyi hm6 (yyi hy6 hbn6)))
 clear hv6 ho6 hD6 hf6 hle6 hmx6 hql6 hqc6 k6 hS6 hm6 hr6 hy6 hbn6 hU
 go_wp2_with fail
 refine wp_loop_rounds 2 ?_
 rw [rounds_succ]
 go_wp2_with fail
 refine HU6.out.mono ?_
 rintro e w7 ⟨rfl, t7, ht7, hp7, hr7, hb7⟩
 obtain ⟨k6, hm6, hy6, hbn6⟩ := H6.out
 have k7 := k6.trans (k6.at_.setT (N' := N + 10) ht7 hp7 (by omega) (by omega))
 obtain ⟨S7, hS7⟩ : ∃ S7 : CS, { S6 with t := t7 } = S7 := ⟨_, rfl⟩
 rw [hS7] at k7
 have hm7 : S7.cm A = { (S.cm A).fin t 0 (3, x) with d := false, rows := ((S.cm A).fin t 0 (3, x)).rows.set 1 (2, y) } := by
  have hr6 : S6.t.rows = ((S.cm A).fin t 0 (3, x)).rows := congrArg CM.rows hm6
  have e : S7.cm A = { S6.cm A with rows := S6.t.rows.set 1 (2, y) } := by
   rw [← hS7]
   unfold CS.cm
   dsimp only
   rw [hr7]
  rw [e, hm6, hr6]
 have hq7 : S7.q.q A.q.k = S.q.q A.q.k := congrArg CM.q hm7
 have hr7' : S7.t.rows = ((S.cm A).fin t 0 (3, x)).rows.set 1 (2, y) := congrArg CM.rows hm7
 have hlen : 1 < ((S.cm A).fin t 0 (3, x)).rows.length := by
  show 1 < (S.t.rows.set 0 _).length
  rw [List.length_set]
  exact (yyk.1 H.out.2.2.2.2.2.1).1
 have hR := zki k7.at_ (by omega) (by rw [hq7]; exact H.out.2.2.2.2.2.2) t H.out.2.2.2.2.1 1 (2, y) (by rw [hr7']; exact zea hlen)
 have HR := yyh (show Calls Tryz.prog 38 #[.pointer (some ⟨A.cb, 0, none⟩), .int .i64 t, .int .i64 2] w7 fun e w' => e = .returned (.tuple #[]) ∧ ∃ S', zag w7 A S7 w' S' (N + 10 + 2) ∧ S'.cm A = (S7.cm A).rel t 1 (2, y) from hR)
 have H7 := yyh (yyi k7 hm7)
 clear ht7 hp7 hr7 hb7 k6 hm6 hy6 hbn6 k7 hS7 hm7 hq7 hr7' hlen hR
 go_wp2_with fail
 refine HR.out.mono ?_
 rintro e w8 ⟨rfl, S8, k8, hm8⟩
 have H8 := yyh (yyi (H7.out.1.trans k8) hm8)
 clear k8 hm8
 go_wp2_with fail
 rw [rounds_succ]
 go_wp2_with fail
 go_ret
 refine ⟨rfl, S8, H8.out.1.up (by omega), ?_⟩
 rw [H8.out.2, H7.out.2]
 rfl
end
end Go.Proofs.YtcfhkbcllijnkaaGreat
