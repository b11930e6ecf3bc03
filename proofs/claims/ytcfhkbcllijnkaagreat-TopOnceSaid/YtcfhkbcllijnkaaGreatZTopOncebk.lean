/- Parts of the proof of TopOnce, under no condition. -/
import Derived.Test.YtcfhkbcllijnkaaGreatZTopOncebj
import Derived.Test.YtcfhkbcllijnkaaGreatZTopOnceas
set_option linter.unusedVariables false
set_option linter.unusedSimpArgs false
set_option maxRecDepth 100000
set_option maxHeartbeats 0
namespace Go.Proofs.YtcfhkbcllijnkaaGreat
open Go.RowKit Go.Maps Go.Proofs.YtcfhkbcllijnkaaGreatW.PrintWords
theorem zfu : Keyed Tryz.prog 235 := Keyed.of_law (deep_law_laid zdt (m := 2) (by decide) (of_decide_eq_true (by kernel_rfl)) (by kernel_rfl) (by kernel_rfl))
theorem zr8 : Go.WideMaps.ArrKey Tryz.prog 235 3 2 := ⟨by kernel_rfl, by kernel_rfl, by kernel_rfl, by kernel_rfl⟩
theorem zg9 (a b : Int) (ha : zbl a) (hb : zbl b) : ∃ l, keyOf Tryz.prog 235 (pk a b) = some l :=
 ⟨_, Go.WideMaps.keyOf_pair zr8 Tryz.underlying3 ⟨_, rfl⟩ ha hb⟩
theorem ztd (w : World) : (zeroValue 72).run Tryz.prog w = .ok .nilFunc w := by kernel_rfl
def zPl : Value := .agg #[.int .i64 0, .int .i64 0]
theorem zxu : (Tryz.prog.info? 235).map (fun i => (i.zero, i.size, i.bytes)) = some (some zPl, 2, 16) := by kernel_rfl
theorem zgj {n : Nat} (h : n ≤ 1000) : zbl (n : Int) := WalkArith.wf_i64 (by omega)
def plC (k t : Nat) : List Value := [.int .i64 (k : Int), .int .i64 (t : Int)]
def ze0 (k t : Nat) : Obj := .cells #[.int .i64 (k : Int), .int .i64 (t : Int)] 235
structure zlo (w : World) (ov bv mb base n : Nat) (v : Value) (F : List Value) (f : Int → Int → Option Value) : Prop where
 o : w.heap[ov]? = some (.cells #[v] 230 (0, 0))
 b : w.heap[bv]? = some (.cells #[.map (some mb)] 231 (0, 0))
 row : w.ownsRow base 235 2 v n F
 map : zdo w mb f
 ge : base ≤ ov ∧ base ≤ bv ∧ base ≤ mb ∧ base ≤ w.heap.size
section
variable {w w' : World} {ov bv mb base n : Nat} {v : Value} {F : List Value} {f : Int → Int → Option Value}
theorem zlo.keep (h : zlo w ov bv mb base n v F f) (hs : w.heap.size ≤ w'.heap.size) (hk : ∀ j o, base ≤ j → w.heap[j]? = some o → (∀ cur t, o = .cells cur t (0, 0) → t = 230 ∨ t = 231 ∨ t = 235) → w'.heap[j]? = some o) : zlo w' ov bv mb base n v F f := by
 obtain ⟨g1, g2, g3, g4⟩ := h.ge
 obtain ⟨es, clock, h1, h2⟩ := h.map
 refine ⟨hk _ _ g1 h.o (fun cur t e => by injection e with _ e _; exact .inl e.symm), hk _ _ g2 h.b (fun cur t e => by injection e with _ e _; exact .inr (.inl e.symm)), ⟨h.row.1, ?_⟩, ⟨es, clock, hk _ _ g3 h1 (fun cur t e => by cases e), h2⟩, g1, g2, g3, by omega⟩
 rcases h.row.2 with h2 | ⟨g, cap, cur, rfl, h3, hg, rest⟩
 · exact .inl h2
 · exact .inr ⟨g, cap, cur, rfl, h3, hk _ _ h3 hg (fun cu t e => by injection e with _ e _; exact .inr (.inr e.symm)), rest⟩
theorem zlo.below (h : zlo w ov bv mb base n v F f) (hb : Below w.heap.size w w') : zlo w' ov bv mb base n v F f := h.keep hb.size fun j o hj ho _ => (hb.block j (zac ho)).trans ho
def zh8 (w w' : World) : Prop := ∀ (j : Nat) (c : Array Value) (t : TypeId), w.heap[j]? = some (.cells c t (0, 0)) → t ≠ 230 → t ≠ 235 → w'.heap[j]? = some (.cells c t (0, 0))
structure zxv (w w1 : World) (ov bv mb base n : Nat) (v' : Value) (F : List Value) (f : Int → Int → Option Value) (k t : Nat) (fv : Value) : Prop where
 fz : w1.frozen? ⟨ov, 0, none⟩ = false
 c0 : ∃ u, w1.cell? ⟨ov, 0, none⟩ = some u
 cb : (w1.setCell ⟨ov, 0, none⟩ v').cell? ⟨bv, 0, none⟩ = some (.map (some mb))
 k0 : (w1.setCell ⟨ov, 0, none⟩ v').cell? ⟨w.heap.size, 0, none⟩ = some (.int .i64 (k : Int))
 k1 : (w1.setCell ⟨ov, 0, none⟩ v').cell? ⟨w.heap.size, 1, none⟩ = some (.int .i64 (t : Int))
 upd : ∃ es clock, (Instr.mapUpdate 231 (.map (some mb)) (.agg #[.int .i64 (k : Int), .int .i64 (t : Int)]) fv).run Tryz.prog (w1.setCell ⟨ov, 0, none⟩ v') = .ok () (World.setBlk (w1.setCell ⟨ov, 0, none⟩ v') mb (.map es clock)) ∧ zlo (World.setBlk (w1.setCell ⟨ov, 0, none⟩ v') mb (.map es clock)) ov bv mb base (n + 1) v' (F ++ plC k t) (zds f k t fv) ∧ Below base w (World.setBlk (w1.setCell ⟨ov, 0, none⟩ v') mb (.map es clock)) ∧ zh8 w (World.setBlk (w1.setCell ⟨ov, 0, none⟩ v') mb (.map es clock))
theorem zlo.put (h : zlo w ov bv mb base n v F f) (k t : Nat) (hk : k ≤ 1000) (ht : t ≤ 1000) (fv : Value) {w1 : World} {v' : Value} (hown : w1.ownsRow base 235 2 v' (n + 1) (F ++ plC k t)) (hg : ((w.alloc (ze0 k t)).alloc (ze0 k t)).grownBy w1 v.ownBlock) : zxv w w1 ov bv mb base n v' F f k t fv := by
 obtain ⟨W2, hW2⟩ : ∃ W2, (w.alloc (ze0 k t)).alloc (ze0 k t) = W2 := ⟨_, rfl⟩
 rw [hW2] at hg
 have hb2 : Below w.heap.size w W2 := by rw [← hW2]; exact zab (zab yyr _) _
 have hbox : W2.heap[w.heap.size]? = some (ze0 k t) := by rw [← hW2]; exact zan (heap_alloc_new w _)
 have h2 := h.below hb2
 have hrow : ∀ c, v.ownBlock = some c → ∃ cur, W2.heap[c]? = some (.cells cur 235 (0, 0)) := fun c hc => zba h2.row hc
 have hne : ∀ {j : Nat} {o : Obj}, W2.heap[j]? = some o → (∀ cur, o ≠ .cells cur 235 (0, 0)) → some j ≠ v.ownBlock := fun {j o} hj hn e => by
  obtain ⟨cur, h1⟩ := hrow j e.symm
  rw [hj] at h1
  injection h1 with h1
  exact hn cur h1
 have hno : ∀ {c : Array Value} {u : TypeId}, u ≠ 235 → ∀ cur, Obj.cells c u (0, 0) ≠ .cells cur 235 (0, 0) := fun hu cur e => by injection e with _ e _; exact hu e
 have o1 := (hg.block ov (zac h2.o) (hne h2.o (hno (by decide)))).trans h2.o
 have b1 := (hg.block bv (zac h2.b) (hne h2.b (hno (by decide)))).trans h2.b
 obtain ⟨es, clock, m2, hE⟩ := h2.map
 have m1 := (hg.block mb (zac m2) (hne m2 (fun cur e => by cases e))).trans m2
 have bne : some w.heap.size ≠ v.ownBlock := fun e => by
  obtain ⟨cur, hc⟩ := zba h.row e.symm
  exact absurd (zac hc) (by omega)
 have x1 := (hg.block w.heap.size (zac hbox) bne).trans hbox
 obtain ⟨g1, g2, g3, g4⟩ := h.ge
 have hbo : bv ≠ ov := fun e => by rw [e, o1] at b1; injection b1 with b1; injection b1 with _ b1 _; exact absurd b1 (by decide)
 have hmo : mb ≠ ov := fun e => by rw [e, o1] at m1; cases m1
 have hmb : bv ≠ mb := fun e => by rw [e, m1] at b1; cases b1
 have hxo : w.heap.size ≠ ov := by have := zac h.o; omega
 have o3 : (w1.setCell ⟨ov, 0, none⟩ v').heap[ov]? = some (.cells #[v'] 230 (0, 0)) := by rw [zai o1]; rfl
 have b3 := za1 (o := 0) b1 hbo v'
 have m3 := za1 (o := 0) m1 hmo v'
 have x3 := za1 (o := 0) x1 hxo v'
 have s1 : w.heap.size ≤ w1.heap.size := Nat.le_trans hb2.size hg.size
 have M3 : zdo (w1.setCell ⟨ov, 0, none⟩ v') mb f := ⟨es, clock, m3, hE⟩
 obtain ⟨es', clock', hu, hE'⟩ := M3.update zfu zg9 Tryz.underlying231 (k : Int) (t : Int) (zgj hk) (zgj ht) fv
 refine ⟨by simp [World.frozen?, o1], ⟨_, zaa o1⟩, zaa b3, (zao x3).1, (zao x3).2.1, es', clock', hu, ⟨?_, ?_, ⟨hown.1, ?_⟩, ⟨es', clock', zbs _ _ _ _ m3, hE'⟩, g1, g2, g3, ?_⟩, ?_, ?_⟩
 · rw [zar _ _ _ _ (fun e => hmo e.symm)]; exact o3
 · rw [zar _ _ _ _ hmb]; exact b3
 ·
  rcases hown.2 with h4 | ⟨g, cap, cur, rfl, h3, hgg, rest⟩
  · exact .inl h4
  ·
   refine .inr ⟨g, cap, cur, rfl, h3, ?_, rest⟩
   have n1 : g ≠ ov := fun e => by rw [e, o1] at hgg; injection hgg with hgg; injection hgg with _ hgg _; exact absurd hgg (by decide)
   have n2 : g ≠ mb := fun e => by rw [e, m1] at hgg; cases hgg
   rw [zar _ _ _ _ n2]
   exact za1 hgg n1 _
 · rw [zbj, World.size_setCell]; omega
 ·
  have hvg : ∀ c, v.ownBlock = some c → base ≤ c := fun c hc => by
   rcases h.row.2 with ⟨rfl, _⟩ | ⟨g', cap', cur, rfl, hb, hg, _⟩
   · cases hc
   · injection hc with hc
     rw [← hc]
     exact hb
  have hW := hb2
  refine ⟨hg.os.trans hb2.os, hg.tape.trans hb2.tape, hg.output.trans hb2.output, by rw [zbj, World.size_setCell]; omega, fun j hj => ?_⟩
  rw [zar _ _ _ _ (by omega)]
  have e1 : (w1.setCell ⟨ov, 0, none⟩ v').heap[j]? = w1.heap[j]? := Below.heap_setCell w1 ⟨ov, 0, none⟩ v' j (by show j ≠ ov; omega)
  rw [e1, hg.block j (by have := hb2.size; omega) (fun e => by have := hvg j e.symm; omega)]
  exact hb2.block j (by omega)
 ·
  intro j c u hj u1 u2
  have hj2 := (hb2.block j (zac hj)).trans hj
  have j1 := (hg.block j (zac hj2) (hne hj2 (hno u2))).trans hj2
  have n1 : j ≠ ov := fun e => by rw [e, o1] at j1; injection j1 with j1; injection j1 with _ j1 _; exact u1 j1.symm
  have n2 : j ≠ mb := fun e => by rw [e, m1] at j1; cases j1
  rw [zar _ _ _ _ n2]
  exact za1 j1 n1 _
end
theorem zvk {w : World} {ov bv mb base n : Nat} {v : Value} {F : List Value} {f : Int → Int → Option Value} (h : zlo w ov bv mb base n v F f) (hn : n ≤ 100) (k t : Nat) (hk : k ≤ 1000) (ht : t ≤ 1000) (g : Nat) (b1 b2 : Array Value) : Calls Tryz.prog 205 #[.agg #[.int .i64 (k : Int), .int .i64 (t : Int)], .func (.func g) b1 b2, .pointer (some ⟨ov, 0, none⟩), .pointer (some ⟨bv, 0, none⟩)] w fun e w' => e = .returned (.tuple #[]) ∧ ∃ v', zlo w' ov bv mb base (n + 1) v' (F ++ plC k t) (zds f k t (.func (.func g) b1 b2)) ∧ Below base w w' ∧ zh8 w w' := by
 obtain ⟨i0, hi0, hz0, hz1, hz2⟩ := info_parts zxu
 have hb2 : Below w.heap.size w ((w.alloc (ze0 k t)).alloc (ze0 k t)) := zab (zab yyr _) _
 have h2 := h.below hb2
 have c0 : ((w.alloc (.cells #[.int .i64 (k : Int), .int .i64 (t : Int)] 235)).alloc (.cells #[.int .i64 (k : Int), .int .i64 (t : Int)] 235)).cell? ⟨ov, 0, none⟩ = some v := zaa h2.o
 have c0' : (w.alloc (.cells #[.int .i64 (k : Int), .int .i64 (t : Int)] 235)).cell? ⟨ov, 0, none⟩ = some v := zaa (h.below (zab yyr (ze0 k t))).o
 have HNEWS := yyh (show ∀ j u, (plC k t)[j]? = some u → ((w.alloc (ze0 k t)).alloc (ze0 k t)).cell? ((⟨w.heap.size + 1, 0, none⟩ : Addr).add j) = some u from fun j u hu => by
  have hx : ((w.alloc (ze0 k t)).alloc (ze0 k t)).heap[w.heap.size + 1]? = some (ze0 k t) := zax (by simp)
  rw [show (⟨w.heap.size + 1, 0, none⟩ : Addr).add j = ⟨w.heap.size + 1, 0 + j, none⟩ from by simp [Addr.add]; intro h; exact h.symm, Nat.zero_add, zaa hx]
  simpa [plC] using hu)
 have HONE := yyh (show ∀ u ∈ plC k t, u.oneCell' = true from fun u hu => by simp [plC] at hu; rcases hu with rfl | rfl <;> rfl)
 have H := yyh h
 have HROW := yyh h2.row
 have HGE := yyh (show base ≤ ((w.alloc (ze0 k t)).alloc (ze0 k t)).heap.size from Nat.le_trans h.ge.2.2.2 hb2.size)
 clear h h2 hb2
 go_enter Tryz.func205, Tryz.ntmps205
 go_wp2_with (at_builtin; refine wpList_append_own_at _ rfl (.tmp 6) (.tmp 8) 230 rfl base 235 i0 zPl 2 16 Tryz.underlying230 hi0 hz0 hz1 hz2 rfl (by decide) v n F rfl HROW.out ⟨w.heap.size + 1, 0, none⟩ 1 1 (plC k t) rfl rfl HNEWS.out HONE.out (by unfold maxLen; omega) (by omega) HGE.out ?_; intro v' w1 hown1 hg1 hnil1 hblk1; obtain ⟨a1, cap1, rfl, -⟩ := SlV.clip (SlV.of_owns hown1); obtain ⟨fz, ⟨u0, cu0⟩, cb, ck0, ck1, es, clock, hupd, hend⟩ := H.out.put k t hk ht (.func (.func g) b1 b2) hown1 hg1; have HEND := yyh hend; clear hown1 hg1 hnil1 hblk1 hend)
 go_end0
 exact ⟨rfl, _, HEND.out.1, HEND.out.2⟩
section
variable {W W' : World} {A : QA} {s : QS}
def QM.aW (q : QM) (id : Int) (t : Nat) : QM := if q.hasW id t then q.tW id t else q
def QM.aH (q : QM) (id : Int) : QM := if zc8 id q.sh then q.tH id else q
theorem QM.aW_eq (q : QM) (id : Int) (t : Nat) {l : List En} (h : q.own[t]? = some l) : q.aW id t = { q with own := q.own.set t (wo id l) } := by
 have hg : q.own.getD t [] = l := by rw [yyd, h]; rfl
 unfold QM.aW QM.hasW QM.tW
 rw [hg]
 cases hh : zc8 id l with
 | true => rfl
 | false =>
  rw [if_neg (by simp), zcw (by unfold zc8 at hh; exact hh), zfe h]
theorem QM.aH_eq (q : QM) (id : Int) : q.aH id = { q with sh := wo id q.sh } := by
 unfold QM.aH QM.tH
 cases hh : zc8 id q.sh with
 | true => rfl
 | false => rw [if_neg (by simp), zcw (by unfold zc8 at hh; exact hh)]
theorem zte {q : QM} (hq : q.Ok) {l m : List En} (hp : q.all.Perm (l ++ m)) : (l.map (·.id)).Nodup := by
 have := zcl hp hq.ids
 rw [List.map_append, List.nodup_append] at this
 exact this.1
theorem zy3 (h : QAt W A s) (hq : (s.q A.k).Ok) (t p : Nat) (hp : A.lp[t]? = some p) (id : Int) : Calls Tryz.prog 207 #[.pointer (some ⟨p, 0, none⟩), .int .i64 id] W fun e w' => e = .returned (.bool ((s.q A.k).hasW id t)) ∧ ∃ s', zbp W A s w' s' ∧ s'.q A.k = (s.q A.k).aW id t := by
 have ht : t < A.lp.length := (yyk.1 hp).1
 obtain ⟨p', x, y, hp', hx, hy, hL⟩ := h.thread ht
 rw [hp] at hp'
 injection hp' with hp'
 rw [← hp'] at hL
 have ho := QS.own_at (k := A.k) hx
 have hz := QS.sizes (k := A.k) hy hx
 have hN := hq.len
 have hpm : (s.q A.k).all.Perm (zaj (zaq x.2) ++ (zbc (s.q A.k).slots ++ (((s.q A.k).own.take t ++ (s.q A.k).own.drop (t + 1)).flatten ++ (s.q A.k).sh))) := by
  unfold QM.all
  refine (((zi3 _ _ _ ho).append_left _).append_right _).trans ?_
  rw [List.append_assoc, List.append_assoc]
  exact List.perm_append_comm_assoc _ _ _
 have hnd : ((zaq x.2).map (·.id)).Nodup := zcl (za2 _) (zte hq hpm)
 have hll := zez hL
 have hlo := zpi hq hx
 refine (zyu id hL (by omega) (by omega) hnd).mono ?_
 rintro e w' ⟨rfl, v', bs', hL', hP, hl', hv', hF⟩
 have hst := h.setLs hp hx hL' hF (.inl hv')
 refine ⟨?_, _, hst, ?_⟩
 ·
  unfold QM.hasW
  rw [yyd, ho]
  show _ = Ending.returned (.bool (zc8 id (zaj (zaq x.2))))
  rw [zc6 (za2 _)]
  rfl
 ·
  rw [QM.aW_eq _ _ _ ho]
  show QM.mk _ _ ((s.ls.set t (v', bs')).map _) _ = QM.mk _ _ ((s.ls.map _).set t _) _
  rw [List.map_set]
  have : zaj (zaq bs') = wo id (zaj (zaq x.2)) := by rw [← zpo, zbw hP]
  dsimp only
  rw [this]
  rfl
theorem zy4 (h : QAt W A s) (hq : (s.q A.k).Ok) (id : Int) : Calls Tryz.prog 208 #[.pointer (some ⟨A.hp, 0, none⟩), .int .i64 id] W fun e w' => e = .returned (.bool (zc8 id (s.q A.k).sh)) ∧ ∃ s', zbp W A s w' s' ∧ s'.q A.k = (s.q A.k).aH id := by
 have hpm : (s.q A.k).all.Perm (zaj (zaq s.bs) ++ (zbc (s.q A.k).slots ++ (s.q A.k).own.flatten)) := by
  unfold QM.all
  exact List.perm_append_comm
 have hnd : ((zaq s.bs).map (·.id)).Nodup := zcl (za2 _) (zte hq hpm)
 have hN : (zaq s.bs).length ≤ NB := by
  have := hpm.length_eq
  rw [List.length_append, zam] at this
  have := hq.len
  omega
 refine (zyz id h.sh hN hnd).mono ?_
 rintro e w' ⟨rfl, v', bs', hS, hP, hv, hF⟩
 have hst := h.setSh hS hF hv
 refine ⟨?_, _, hst, ?_⟩
 · show _ = Ending.returned (.bool (zc8 id (zaj (zaq s.bs))))
   rw [zc6 (za2 _)]
   rfl
 ·
  rw [QM.aH_eq]
  show QM.mk _ _ _ (zaj (zaq bs')) = QM.mk _ _ _ (wo id (zaj (zaq s.bs)))
  rw [← zpo, zbw hP]
  rfl
end
def plL (i j z : Nat) : List (Nat × Nat) := (List.range i).map (fun t => (1, t)) ++ (List.range j).map (fun t => (2, t)) ++ (List.range z).map (fun t => (3, t))
def plF (l : List (Nat × Nat)) : List Value := l.flatMap fun p => plC p.1 p.2
theorem zi8 (l : List (Nat × Nat)) (k t : Nat) : plF (l ++ [(k, t)]) = plF l ++ plC k t := by simp [plF]
theorem zvl (i j z : Nat) : (plL i j z).length = i + j + z := by simp [plL]; omega
theorem zy5 (i : Nat) : plL (i + 1) 0 0 = plL i 0 0 ++ [(1, i)] := by simp [plL, List.range_succ]
theorem zy6 (i j : Nat) : plL i (j + 1) 0 = plL i j 0 ++ [(2, j)] := by simp [plL, List.range_succ]
theorem zy7 (i j : Nat) : plL i j 1 = plL i j 0 ++ [(3, 0)] := by simp [plL, List.range_succ]
structure DrL (W : World) (A : QA) (i j z : Nat) (w : World) : Prop where
 q : w.heap[W.heap.size]? = some (.cells #[.pointer (some ⟨A.qp, 0, none⟩)] 94 (0, 0))
 at_ : ∃ v f, zlo w (W.heap.size + 1) (W.heap.size + 1 + 1) (W.heap.size + 1 + 1 + 1) W.heap.size (i + j + z) v (plF (plL i j z)) f ∧
  (∀ t, t < i → ∃ tb, f 1 (t : Int) = some (.func (.func 206) #[] #[.pointer (some ⟨W.heap.size, 0, none⟩), .pointer (some ⟨tb, 0, none⟩)]) ∧ w.heap[tb]? = some (.cells #[.int .i64 (t : Int)] 3 (0, 0)) ∧ W.heap.size ≤ tb) ∧
  (∀ t p, t < j → A.lp[t]? = some p → f 2 (t : Int) = some (.func (.func 207) #[.pointer (some ⟨p, 0, none⟩)] #[])) ∧
  (0 < z → f 3 0 = some (.func (.func 208) #[.pointer (some ⟨A.hp, 0, none⟩)] #[]))
 bel : Below W.heap.size W w
theorem zde {w : World} {b i : Nat} {c : Array Value} {t : TypeId} {fr : Nat × Nat} (h : w.heap[b]? = some (.cells c t fr)) {v : Value} (hv : c[i]? = some v) : w.setCell ⟨b, i, none⟩ v = w := by
 have e : (w.setCell ⟨b, i, none⟩ v).heap = w.heap := by
  apply Array.ext_getElem?
  intro j
  by_cases hj : j = b
  ·
   subst hj
   rw [zai h, h]
   congr 2
   apply Array.ext_getElem?
   intro k
   rw [Array.getElem?_setIfInBounds]
   by_cases hk : i = k
   · subst hk
     rw [if_pos rfl, if_pos (yya.1 hv).1, hv]
   · rw [if_neg hk]
  · exact Below.heap_setCell w ⟨b, i, none⟩ v j hj
 show { w with heap := (w.setCell ⟨b, i, none⟩ v).heap } = w
 rw [e]
section
variable {W w w' : World} {A : QA} {i j z : Nat}
theorem zha (f : Int → Int → Option Value) (x y : Int) (v : Value) : zds f x y v x y = some v := by simp [zds]
theorem zhb (f : Int → Int → Option Value) (x y a b : Int) (v : Value) (h : ¬ (a = x ∧ b = y)) : zds f x y v a b = f a b := by simp [zds, h]
theorem DrL.dr (h : DrL W A i j z w) : DrL W A i j z w.drew := ⟨h.q, by obtain ⟨v, f, hD, hr⟩ := h.at_; exact ⟨v, f, hD.below (zaf yyr), hr⟩, zaf h.bel⟩
theorem DrL.start : DrL W A 0 0 0 ((((W.alloc (.cells #[.pointer (some ⟨A.qp, 0, none⟩)] 94)).alloc (.cells #[.slice none 0 0] 230)).alloc (.cells #[.map (some (W.heap.size + 1 + 1 + 1))] 231)).alloc (.map #[] 0)) := by
 have hb : Below W.heap.size W ((((W.alloc (.cells #[.pointer (some ⟨A.qp, 0, none⟩)] 94)).alloc (.cells #[.slice none 0 0] 230)).alloc (.cells #[.map (some (W.heap.size + 1 + 1 + 1))] 231)).alloc (.map #[] 0)) := zab (zab (zab (zab yyr _) _) _) _
 refine ⟨zan (zan (zan (heap_alloc_new W _))), ⟨.slice none 0 0, _, ⟨zan (zan (zax (by simp))), zan (zax (by simp)), World.ownsRow_nil _ _ _ _, ⟨_, _, zax (by simp), zca.empty⟩, by omega, by omega, by omega, hb.size⟩, fun t ht => absurd ht (Nat.not_lt_zero _), fun t p ht => absurd ht (Nat.not_lt_zero _), fun hz => absurd hz (Nat.lt_irrefl _)⟩, hb⟩
theorem DrL.next {f : Int → Int → Option Value} {w2 : World} (h : DrL W A i j z w) (hb : Below w.heap.size w w2) (hB : Below W.heap.size w2 w') (hK : zh8 w2 w') (f1 : ∀ t, t < i → ∃ tb, f 1 (t : Int) = some (.func (.func 206) #[] #[.pointer (some ⟨W.heap.size, 0, none⟩), .pointer (some ⟨tb, 0, none⟩)]) ∧ w.heap[tb]? = some (.cells #[.int .i64 (t : Int)] 3 (0, 0)) ∧ W.heap.size ≤ tb) :
 w'.heap[W.heap.size]? = some (.cells #[.pointer (some ⟨A.qp, 0, none⟩)] 94 (0, 0)) ∧ Below W.heap.size W w' ∧ ∀ t, t < i → ∃ tb, f 1 (t : Int) = some (.func (.func 206) #[] #[.pointer (some ⟨W.heap.size, 0, none⟩), .pointer (some ⟨tb, 0, none⟩)]) ∧ w'.heap[tb]? = some (.cells #[.int .i64 (t : Int)] 3 (0, 0)) ∧ W.heap.size ≤ tb := by
 refine ⟨hK _ _ _ ((hb.block _ (zac h.q)).trans h.q) (by decide) (by decide), ?_, fun t ht => ?_⟩
 · have h2 := zad hb h.bel
   exact ⟨hB.os.trans h2.os, hB.tape.trans h2.tape, hB.output.trans h2.output, Nat.le_trans h2.size hB.size, fun k hk => (hB.block k hk).trans (h2.block k hk)⟩
 · obtain ⟨tb, e1, e2, e3⟩ := f1 t ht
   exact ⟨tb, e1, hK _ _ _ ((hb.block _ (zac e2)).trans e2) (by decide) (by decide), e3⟩
theorem DrL.next1 {v' : Value} {f : Int → Int → Option Value} {w2 : World} (h : DrL W A i 0 0 w) (hw2 : w2 = w.alloc (.cells #[.int .i64 (i : Int)] 3))
 (f1 : ∀ t, t < i → ∃ tb, f 1 (t : Int) = some (.func (.func 206) #[] #[.pointer (some ⟨W.heap.size, 0, none⟩), .pointer (some ⟨tb, 0, none⟩)]) ∧ w.heap[tb]? = some (.cells #[.int .i64 (t : Int)] 3 (0, 0)) ∧ W.heap.size ≤ tb)
 (hD : zlo w' (W.heap.size + 1) (W.heap.size + 1 + 1) (W.heap.size + 1 + 1 + 1) W.heap.size (i + 0 + 0 + 1) v' (plF (plL i 0 0) ++ plC 1 i) (zds f 1 (i : Int) (.func (.func 206) #[] #[.pointer (some ⟨W.heap.size, 0, none⟩), .pointer (some ⟨w.heap.size, 0, none⟩)])))
 (hB : Below W.heap.size w2 w') (hK : zh8 w2 w') : DrL W A (i + 1) 0 0 w' := by
 have hb : Below w.heap.size w w2 := by rw [hw2]; exact zab yyr _
 obtain ⟨a1, a2, a3⟩ := h.next hb hB hK f1
 rw [← zi8, ← zy5] at hD
 refine ⟨a1, ⟨v', _, hD, fun t ht => ?_, fun t p ht => absurd ht (Nat.not_lt_zero _), fun hz => absurd hz (Nat.lt_irrefl _)⟩, a2⟩
 ·
  by_cases e : t = i
  ·
   subst e
   refine ⟨w.heap.size, zha _ _ _ _, hK _ _ _ ?_ (by decide) (by decide), h.bel.size⟩
   rw [hw2]
   exact heap_alloc_new w _
  · rw [zhb _ _ _ _ _ _ (by omega)]
    exact a3 t (by omega)
theorem DrL.next2 {v' : Value} {f : Int → Int → Option Value} {p : Nat} (h : DrL W A i j 0 w) (hp : A.lp[j]? = some p)
 (f1 : ∀ t, t < i → ∃ tb, f 1 (t : Int) = some (.func (.func 206) #[] #[.pointer (some ⟨W.heap.size, 0, none⟩), .pointer (some ⟨tb, 0, none⟩)]) ∧ w.heap[tb]? = some (.cells #[.int .i64 (t : Int)] 3 (0, 0)) ∧ W.heap.size ≤ tb)
 (f2 : ∀ t p, t < j → A.lp[t]? = some p → f 2 (t : Int) = some (.func (.func 207) #[.pointer (some ⟨p, 0, none⟩)] #[]))
 (hD : zlo w' (W.heap.size + 1) (W.heap.size + 1 + 1) (W.heap.size + 1 + 1 + 1) W.heap.size (i + j + 0 + 1) v' (plF (plL i j 0) ++ plC 2 j) (zds f 2 (j : Int) (.func (.func 207) #[.pointer (some ⟨p, 0, none⟩)] #[])))
 (hB : Below W.heap.size w w') (hK : zh8 w w') : DrL W A i (j + 1) 0 w' := by
 obtain ⟨a1, a2, a3⟩ := h.next yyr hB hK f1
 rw [← zi8, ← zy6] at hD
 refine ⟨a1, ⟨v', _, hD, fun t ht => ?_, fun t p' ht hp' => ?_, fun hz => absurd hz (Nat.lt_irrefl _)⟩, a2⟩
 · rw [zhb _ _ _ _ _ _ (by omega)]
   exact a3 t ht
 ·
  by_cases e : t = j
  ·
   subst e
   rw [hp] at hp'
   injection hp' with hp'
   rw [← hp']
   exact zha _ _ _ _
  · rw [zhb _ _ _ _ _ _ (by omega)]
    exact f2 t p' (by omega) hp'
theorem DrL.next3 {v' : Value} {f : Int → Int → Option Value} (h : DrL W A i j 0 w)
 (f1 : ∀ t, t < i → ∃ tb, f 1 (t : Int) = some (.func (.func 206) #[] #[.pointer (some ⟨W.heap.size, 0, none⟩), .pointer (some ⟨tb, 0, none⟩)]) ∧ w.heap[tb]? = some (.cells #[.int .i64 (t : Int)] 3 (0, 0)) ∧ W.heap.size ≤ tb)
 (f2 : ∀ t p, t < j → A.lp[t]? = some p → f 2 (t : Int) = some (.func (.func 207) #[.pointer (some ⟨p, 0, none⟩)] #[]))
 (hD : zlo w' (W.heap.size + 1) (W.heap.size + 1 + 1) (W.heap.size + 1 + 1 + 1) W.heap.size (i + j + 0 + 1) v' (plF (plL i j 0) ++ plC 3 0) (zds f 3 0 (.func (.func 208) #[.pointer (some ⟨A.hp, 0, none⟩)] #[])))
 (hB : Below W.heap.size w w') (hK : zh8 w w') : DrL W A i j 1 w' := by
 obtain ⟨a1, a2, a3⟩ := h.next yyr hB hK f1
 rw [← zi8, ← zy7] at hD
 refine ⟨a1, ⟨v', _, hD, fun t ht => ?_, fun t p' ht hp' => ?_, fun hz => zha _ _ _ _⟩, a2⟩
 · rw [zhb _ _ _ _ _ _ (by omega)]
   exact a3 t ht
 · rw [zhb _ _ _ _ _ _ (by omega)]
   exact f2 t p' ht hp'
end
theorem zvm {W : World} {A : QA} {s : QS} (h : QAt W A s) : Calls Tryz.prog 149 #[.pointer (some ⟨A.qp, 0, none⟩)] W fun e w' => ∃ v, e = .returned (.tuple #[v, .map (some (W.heap.size + 1 + 1 + 1))]) ∧ w'.heap[W.heap.size + 1]? = some (.cells #[v] 230 (0, 0)) ∧ DrL W A A.lp.length A.lp.length 1 w' := by
 have hmm : ∀ w, (Instr.makeMap 231 none).run Tryz.prog w = .ok (.map (some w.heap.size)) (w.alloc (.map #[] 0)) := fun _ => by rfl
 obtain ⟨T, hT⟩ := yye (A.lp.length)
 have hnum := h.num
 rw [hT] at hnum
 have hoc : (A.oc : Int) ≤ 9223372036854775807 := by have := hnum.2.2.2.1; unfold maxLen at this; omega
 have eg := enters_of Tryz.func205 (by kernel_rfl) rfl
 have H := yyh h
 have HT := yyh hT
 have hst := DrL.start (W := W) (A := A)
 have hq0 := h.below hst.bel
 obtain ⟨q0, q1, q2, q3⟩ := hq0.cells
 rw [hT] at q2
 have HST := yyh hst
 clear h hst hq0 hT
 go_enter Tryz.func149, Tryz.ntmps149
 go_wp2_with fail
 go_loopg [5, 15] T (fun gg _ s15 wr => ∃ i : Nat, i ≤ T ∧ gg = T - i ∧ s15 = .int .i64 i ∧ Aside (DrL W A i 0 0 wr))
 case atStart => exact ⟨0, Nat.zero_le _, by omega, rfl, HST.out⟩
 case round =>
  obtain ⟨i, hi, rfl, rfl, D⟩ := hrel
  by_cases hlt : i < T
  ·
   have hltz : (i : Int) < (T : Int) := by omega
   have qq := zaa (i := 0) D.out.q
   obtain ⟨v, f, hD, f1, f2, f3⟩ := D.out.at_
   have HD := yyh (yyi hD f1)
   clear hD f1 f2 f3
   go_wp2_with fail
   refine (zvk (HD.out.1.below (zab yyr _)) (by omega) 1 i (by omega) (by omega) 206 #[] #[.pointer (some ⟨W.heap.size, 0, none⟩), .pointer (some ⟨wr.heap.size, 0, none⟩)]).mono ?_
   rintro e w' ⟨rfl, v', hD', hB', hK'⟩
   have HN := yyh (D.out.next1 rfl HD.out.2 hD' hB' hK')
   clear hD' hB' hK'
   go_wp2_with fail
   go_roundg (T - (i + 1))
   case measure => omega
   case rel => exact ⟨i + 1, by omega, rfl, by go_num, HN.out⟩
  ·
   have hltz : ¬ (i : Int) < (T : Int) := by omega
   obtain rfl : i = T := by omega
   have qq := zaa (i := 0) D.out.q
   have hq1 := H.out.below D.out.bel
   obtain ⟨q0', q1', q2', q3'⟩ := hq1.cells
   rw [HT.out] at q2'
   clear hq1
   go_wp2_with fail
   go_loopg [6, 7, 29] i (fun gg _ _ s29 wr => ∃ j : Nat, j ≤ i ∧ gg = i - j ∧ s29 = .int .i64 j ∧ Aside (DrL W A i j 0 wr))
   case atStart => exact ⟨0, Nat.zero_le _, by omega, rfl, D.out⟩
   case round =>
    clear qq q0' q1' q2' q3' D
    obtain ⟨j, hj, rfl, rfl, D⟩ := hrel
    have qq := zaa (i := 0) D.out.q
    obtain ⟨v, f, hD, f1, f2, f3⟩ := D.out.at_
    have HD := yyh (yyi hD (yyi f1 f2))
    clear hD f1 f2 f3
    have hq1 := H.out.below D.out.bel
    obtain ⟨q0', q1', q2', q3'⟩ := hq1.cells
    rw [HT.out] at q2'
    by_cases hlt : j < i
    ·
     have hltz : (j : Int) < (i : Int) := by omega
     obtain ⟨p, hp⟩ : ∃ p, A.lp[j]? = some p := ⟨_, yyg (by rw [HT.out]; exact hlt)⟩
     have oc := hq1.ocell hp
     have HP := yyh hp
     clear hq1 hp
     go_wp2_with fail
     refine (zvk HD.out.1 (by omega) 2 j (by omega) (by omega) 207 #[.pointer (some ⟨p, 0, none⟩)] #[]).mono ?_
     rintro e w' ⟨rfl, v', hD', hB', hK'⟩
     have HN := yyh (D.out.next2 HP.out HD.out.2.1 HD.out.2.2 hD' hB' hK')
     clear hD' hB' hK'
     go_wp2_with fail
     go_roundg (i - (j + 1))
     case measure => omega
     case rel => exact ⟨j + 1, by omega, rfl, by go_num, HN.out⟩
    ·
     have hltz : ¬ (j : Int) < (i : Int) := by omega
     obtain rfl : j = i := by omega
     clear hq1
     go_wp2_with fail
     refine (zvk HD.out.1 (by omega) 3 0 (by omega) (by omega) 208 #[.pointer (some ⟨A.hp, 0, none⟩)] #[]).mono ?_
     rintro e w' ⟨rfl, v', hD', hB', hK'⟩
     have HN := yyh (D.out.next3 HD.out.2.1 HD.out.2.2 hD' hB' hK')
     obtain ⟨a1, cap1, rfl, -⟩ := SlV.clip (SlV.of_owns hD'.row)
     have d0 : w'.drew.cell? ⟨W.heap.size + 1, 0, none⟩ = some (.slice a1 (j + j + 0 + 1) cap1) := zaa hD'.o
     have d1 : w'.drew.cell? ⟨W.heap.size + 1 + 1, 0, none⟩ = some (.map (some (W.heap.size + 1 + 1 + 1))) := zaa hD'.b
     have z0 : w'.drew.frozen? ⟨W.heap.size + 1, 0, none⟩ = false := za5 hD'.o
     have z1 : w'.drew.frozen? ⟨W.heap.size + 1 + 1, 0, none⟩ = false := za5 hD'.b
     have s0 : w'.drew.setCell ⟨W.heap.size + 1, 0, none⟩ (.slice a1 (j + j + 0 + 1) cap1) = w'.drew := zde (w := w'.drew) hD'.o (by simp)
     have s1 : w'.drew.setCell ⟨W.heap.size + 1 + 1, 0, none⟩ (.map (some (W.heap.size + 1 + 1 + 1))) = w'.drew := zde (w := w'.drew) hD'.b (by simp)
     have HO := yyh hD'.o
     clear hD' hB' hK'
     dsimp only
     go_upto_region 14 with fail
     go_region
     all_goals
      go_wp2_with fail
      refine bodyPost_ret (v := .tuple #[.slice a1 (j + j + 0 + 1) cap1, .map (some (W.heap.size + 1 + 1 + 1))]) (by simp [results, Tryz.results149, go_sem, d0, d1]) rfl ?_
      have hT := HT.out
      subst hT
      exact ⟨_, rfl, HO.out, HN.out.dr⟩
theorem zxw {W : World} {bv ib mb : Nat} {f : Int → Int → Option Value} {k t id : Int} {g : Nat} {lb : Array Value} (hM : zdo W mb f) (hk : zbl k) (ht : zbl t) (hf : f k t = some (.func (.func g) #[] lb)) (hb : W.cell? ⟨bv, 0, none⟩ = some (.map (some mb))) (hi : W.cell? ⟨ib, 0, none⟩ = some (.int .i64 id)) (eg : ∀ args w, (callFunc g args).run Tryz.prog w = .ok (.enter g args) w) {Q : Ending → World → Prop}
 (hc : Calls Tryz.prog g (#[.int .i64 id] ++ lb) ((W.alloc (.cells #[.int .i64 k, .int .i64 t] 235)).drew) fun e w' => ∃ r, e = .returned (.bool r) ∧ Q (.returned (.bool r)) w') : Calls Tryz.prog 151 #[.agg #[.int .i64 k, .int .i64 t], .pointer (some ⟨bv, 0, none⟩), .pointer (some ⟨ib, 0, none⟩)] W Q := by
 obtain ⟨W1, hW1⟩ := yye (W.alloc (.cells #[.int .i64 k, .int .i64 t] 235))
 rw [hW1] at hc
 have hb1 : Below W.heap.size W W1 := by rw [← hW1]; exact zab yyr _
 have hM1 : zdo W1 mb f := by
  obtain ⟨es, clock, h1, h2⟩ := hM
  exact ⟨es, clock, (hb1.block mb (zac h1)).trans h1, h2⟩
 have hx : W1.heap[W.heap.size]? = some (.cells #[.int .i64 k, .int .i64 t] 235 (0, 0)) := by rw [← hW1]; exact heap_alloc_new W _
 have hl : ∀ w : World, w.heap = W1.heap → (Instr.lookup 231 (.map (some mb)) (.agg #[.int .i64 k, .int .i64 t]) false).run Tryz.prog w = .ok (.func (.func g) #[] lb) w := fun w hw => by
  have := (show zdo w mb f from by obtain ⟨es, clock, h1, h2⟩ := hM1; exact ⟨es, clock, by rw [hw]; exact h1, h2⟩).lookup zfu zg9 Tryz.underlying231 .nilFunc (ztd _) k t hk ht
  rw [hf] at this
  exact this
 have hl0 := hl W1 rfl
 have hl1 := hl W1.drew rfl
 have l0 := zae hb1 hb
 have l1 := zae hb1 hi
 obtain ⟨x0, x1, -, -⟩ := zao hx
 have HC := yyh hc
 clear hM hM1 hf hc hb1 hb hi hx hl
 go_enter Tryz.func151, Tryz.ntmps151
 go_upto_region 1 with fail
 clear hW1
 refine wp_region_still_tail 4 (by kernel_rfl) (by kernel_rfl) ?_
 simp only [List.take_succ_cons, List.take_zero, List.drop_succ_cons, List.drop_zero]
 iterate 4 still_step
 refine wpStill_nil ?_
 change wpList _ _ _ _ _ W1.drew
 go_wp2_with fail
 go_at_fn g
 refine HC.out.mono ?_
 rintro e w' ⟨r, rfl, hr⟩
 have HR := yyh hr
 clear hr
 go_wp2_with fail
 exact HR.out
theorem ztf {W : World} {bv ib mb : Nat} {f : Int → Int → Option Value} {k t id : Int} {g : Nat} {x : Value} (hM : zdo W mb f) (hk : zbl k) (ht : zbl t) (hf : f k t = some (.func (.func g) #[x] #[])) (hb : W.cell? ⟨bv, 0, none⟩ = some (.map (some mb))) (hi : W.cell? ⟨ib, 0, none⟩ = some (.int .i64 id)) (eg : ∀ args w, (callFunc g args).run Tryz.prog w = .ok (.enter g args) w) {Q : Ending → World → Prop}
 (hc : Calls Tryz.prog g #[x, .int .i64 id] ((W.alloc (.cells #[.int .i64 k, .int .i64 t] 235)).drew) fun e w' => ∃ r, e = .returned (.bool r) ∧ Q (.returned (.bool r)) w') : Calls Tryz.prog 151 #[.agg #[.int .i64 k, .int .i64 t], .pointer (some ⟨bv, 0, none⟩), .pointer (some ⟨ib, 0, none⟩)] W Q := by
 obtain ⟨W1, hW1⟩ := yye (W.alloc (.cells #[.int .i64 k, .int .i64 t] 235))
 rw [hW1] at hc
 have hb1 : Below W.heap.size W W1 := by rw [← hW1]; exact zab yyr _
 have hM1 : zdo W1 mb f := by
  obtain ⟨es, clock, h1, h2⟩ := hM
  exact ⟨es, clock, (hb1.block mb (zac h1)).trans h1, h2⟩
 have hx : W1.heap[W.heap.size]? = some (.cells #[.int .i64 k, .int .i64 t] 235 (0, 0)) := by rw [← hW1]; exact heap_alloc_new W _
 have hl : ∀ w : World, w.heap = W1.heap → (Instr.lookup 231 (.map (some mb)) (.agg #[.int .i64 k, .int .i64 t]) false).run Tryz.prog w = .ok (.func (.func g) #[x] #[]) w := fun w hw => by
  have := (show zdo w mb f from by obtain ⟨es, clock, h1, h2⟩ := hM1; exact ⟨es, clock, by rw [hw]; exact h1, h2⟩).lookup zfu zg9 Tryz.underlying231 .nilFunc (ztd _) k t hk ht
  rw [hf] at this
  exact this
 have hl0 := hl W1 rfl
 have hl1 := hl W1.drew rfl
 have l0 := zae hb1 hb
 have l1 := zae hb1 hi
 obtain ⟨x0, x1, -, -⟩ := zao hx
 have HC := yyh hc
 clear hM hM1 hf hc hb1 hb hi hx hl
 go_enter Tryz.func151, Tryz.ntmps151
 go_upto_region 1 with fail
 clear hW1
 refine wp_region_still_tail 4 (by kernel_rfl) (by kernel_rfl) ?_
 simp only [List.take_succ_cons, List.take_zero, List.drop_succ_cons, List.drop_zero]
 iterate 4 still_step
 refine wpStill_nil ?_
 change wpList _ _ _ _ _ W1.drew
 go_wp2_with fail
 go_at_fn g
 refine HC.out.mono ?_
 rintro e w' ⟨r, rfl, hr⟩
 have HR := yyh hr
 clear hr
 go_wp2_with fail
 exact HR.out
theorem zxx {l : List (Nat × Nat)} {i : Nat} {p : Nat × Nat} (h : l[i]? = some p) : (plF l)[i * 2]? = some (.int .i64 (p.1 : Int)) ∧ (plF l)[i * 2 + 1]? = some (.int .i64 (p.2 : Int)) := by
 induction l generalizing i with
 | nil => cases h
 | cons x l ih =>
  have e : plF (x :: l) = plC x.1 x.2 ++ plF l := rfl
  rw [e]
  cases i with
  | zero =>
   simp at h
   subst h
   exact ⟨rfl, rfl⟩
  | succ i =>
   have := ih (i := i) (by simpa using h)
   rw [List.getElem?_append_right (by simp [plC]; omega), List.getElem?_append_right (by simp [plC]; omega)]
   have e1 : (i + 1) * 2 - (plC x.1 x.2).length = i * 2 := by simp [plC]; omega
   have e2 : (i + 1) * 2 + 1 - (plC x.1 x.2).length = i * 2 + 1 := by simp [plC]; omega
   rw [e1, e2]
   exact this
theorem zvn {T i : Nat} (h : i < T) : (plL T T 1)[i]? = some (1, i) := by
 unfold plL
 rw [List.getElem?_append_left (by simp; omega), List.getElem?_append_left (by simpa using h)]
 simp [h]
theorem zvo {T j : Nat} (h : j < T) : (plL T T 1)[T + j]? = some (2, j) := by
 unfold plL
 rw [List.getElem?_append_left (by simp; omega), List.getElem?_append_right (by simp)]
 simp [h]
theorem zvp {T : Nat} : (plL T T 1)[T + T]? = some (3, 0) := by
 unfold plL
 rw [List.getElem?_append_right (by simp)]
 simp
theorem zr9 {T i : Nat} (h : i < T + T + 1) : i < T ∨ (∃ j, j < T ∧ i = T + j) ∨ i = T + T := by
 rcases Nat.lt_or_ge i T with h1 | h1
 · exact .inl h1
 · rcases Nat.lt_or_ge i (T + T) with h2 | h2
   · exact .inr (.inl ⟨i - T, by omega, by omega⟩)
   · exact .inr (.inr (by omega))
def zlp (q : QM) (id : Int) (T i : Nat) : Bool := if i < T then q.hasS id i else if i < T + T then q.hasW id (i - T) else zc8 id q.sh
theorem ztg {q : QM} {id : Int} {T i : Nat} (h : i < T) : zlp q id T i = q.hasS id i := if_pos h
theorem zth {q : QM} {id : Int} {T j : Nat} (h : j < T) : zlp q id T (T + j) = q.hasW id j := by
 unfold zlp
 rw [if_neg (by omega), if_pos (by omega)]
 congr 1
 omega
theorem zti {q : QM} {id : Int} {T : Nat} : zlp q id T (T + T) = zc8 id q.sh := by
 unfold zlp
 rw [if_neg (by omega), if_neg (by omega)]
theorem zsa {q : QM} (hq : q.Ok) {id : Int} {t : Nat} (h : q.hasS id t = true) : q.has id = true ∧ q.take id = q.tS id t := by
 unfold QM.hasS at h
 rw [yyd] at h
 cases he : q.slots[t]? with
 | none => rw [he] at h; cases h
 | some o =>
  rw [he] at h
  cases o with
  | none => cases h
  | some e => exact zr7 hq he h
theorem zvq {q : QM} (hq : q.Ok) {id : Int} {t : Nat} (h : q.hasW id t = true) : q.has id = true ∧ q.take id = q.tW id t := by
 unfold QM.hasW at h
 rw [yyd] at h
 cases he : q.own[t]? with
 | none => rw [he] at h; cases h
 | some l => rw [he] at h; exact zvh hq he h
def TkP (W3 : World) (A : QA) (s : QS) (id : Int) (i : Nat) (X : World) : Prop := ∃ s', zbp W3 A s X s' ∧ s'.q A.k = s.q A.k ∧ ∀ j, j < i → zlp (s.q A.k) id A.lp.length j = false
def TkR (W3 : World) (A : QA) (s : QS) (id : Int) (X : World) : Prop := (s.q A.k).has id = true ∧ ∃ s', zbp W3 A s X s' ∧ s'.q A.k = (s.q A.k).take id
section
variable {W W3 X : World} {A : QA} {s s' : QS} {id : Int} {i : Nat}
theorem zbp.static {j : Nat} {o : Obj} (h : QAt W A s) (hb : Below W.heap.size W W3) (k : zbp W3 A s X s') (hj : W.heap.size ≤ j) (ho : W3.heap[j]? = some o) : X.heap[j]? = some o ∧ ¬ zcx A s' j := by
 have n : ¬ zcx A s j := fun e => by have := h.lt e; omega
 exact ⟨k.heap n ho, fun e => by
  rcases k.own j e with e | e
  · exact n e
  · have := zac ho
    omega⟩
theorem TkP.next {q1 : QS} {w' : World} {r : Bool} {f1 : QM} (hq : (s.q A.k).Ok) (h : TkP W3 A s id i X) (hs : zbp W3 A s X s') (hsq : s'.q A.k = s.q A.k) (hk : zbp X A s' w' q1) (hr : zlp (s.q A.k) id A.lp.length i = r) (hit : r = true → (s.q A.k).has id = true ∧ (s.q A.k).take id = f1) (h1 : q1.q A.k = if r then f1 else s.q A.k) : (r = true → TkR W3 A s id w') ∧ (r = false → TkP W3 A s id (i + 1) w') := by
 refine ⟨fun e => ?_, fun e => ?_⟩
 · subst e
   obtain ⟨a, b⟩ := hit rfl
   exact ⟨a, q1, hs.trans hk, by rw [h1, b]; rfl⟩
 ·
  subst e
  obtain ⟨-, -, -, hf⟩ := h
  refine ⟨q1, hs.trans hk, h1, fun j hj => ?_⟩
  rcases Nat.lt_or_ge j i with h2 | h2
  · exact hf j h2
  · have : j = i := by omega
    rw [this]
    exact hr
end
theorem zxy {W : World} {A : QA} {s : QS} (h : QAt W A s) (hq : (s.q A.k).Ok) (id : Int) : Calls Tryz.prog 102 #[.pointer (some ⟨A.qp, 0, none⟩), .int .i64 id] W fun e w' => e = .returned (.bool ((s.q A.k).has id)) ∧ ∃ s', zbp W A s w' s' ∧ s'.q A.k = (s.q A.k).take id := by
 obtain ⟨W1, hW1⟩ := yye (W.alloc (.cells #[.int .i64 id] 3))
 have hb1 : Below W.heap.size W W1 := by rw [← hW1]; exact zab yyr _
 have hx : W1.heap[W.heap.size]? = some (.cells #[.int .i64 id] 3 (0, 0)) := by rw [← hW1]; exact heap_alloc_new W _
 have HD := yyh (zvm (h.below hb1))
 have H := yyh (yyi h (yyi hq (yyi hb1 hx)))
 clear h hq hb1 hx
 go_enter Tryz.func102, Tryz.ntmps102
 go_wp2_with fail
 refine HD.out.mono ?_
 rintro e w2 ⟨v, rfl, hv, hD⟩
 obtain ⟨h, hq, hb1, hx⟩ := H.out
 obtain ⟨hqb, ⟨v', f, hA, f1, f2, f3⟩, hb2⟩ := hD
 have hvv : v' = v := by
  have := hA.o
  rw [hv] at this
  injection this with this
  injection this with this
  simpa using this.symm
 subst hvv
 have hnum := h.num
 rcases hA.row.2 with ⟨-, hz⟩ | ⟨b, cap, cur, rfl, hbg, hrow, hle, hmx, hsz, hF⟩
 · omega
 obtain ⟨W3, hW3⟩ := yye (w2.alloc (.cells #[.map (some (W1.heap.size + 1 + 1 + 1))] 231))
 have hb3 : Below w2.heap.size w2 W3 := by rw [← hW3]; exact zab yyr _
 have hbv : W3.heap[w2.heap.size]? = some (.cells #[.map (some (W1.heap.size + 1 + 1 + 1))] 231 (0, 0)) := by rw [← hW3]; exact heap_alloc_new w2 _
 have hb12 : Below W.heap.size W w2 := zad hb2 hb1
 have hb13 : Below W.heap.size W W3 := zad hb3 hb12
 have s1 := hb1.size
 have s2 := hb2.size
 have hup : ∀ {j : Nat} {o : Obj}, w2.heap[j]? = some o → W3.heap[j]? = some o := fun ho => (hb3.block _ (zac ho)).trans ho
 have hC : Calls Tryz.prog 150 #[.slice (some ⟨b, 0, none⟩) (A.lp.length + A.lp.length + 1) cap, .func (.func 151) #[] #[.pointer (some ⟨w2.heap.size, 0, none⟩), .pointer (some ⟨W.heap.size, 0, none⟩)]] W3 fun e w' => e = .returned (.bool ((s.q A.k).has id)) ∧ ∃ s', zbp W A s w' s' ∧ s'.q A.k = (s.q A.k).take id := by
  have hst0 : zbp W A s W3 s := zbp.below h hb13
  refine (zny b (A.lp.length + A.lp.length + 1) cap (by omega) hmx (fun k j => if j = 0 then .int .i64 (((plL A.lp.length A.lp.length 1).getD k (0, 0)).1 : Int) else .int .i64 (((plL A.lp.length A.lp.length 1).getD k (0, 0)).2 : Int)) (TkP W3 A s id) (fun _ => TkR W3 A s id) ?_ 151 #[.pointer (some ⟨w2.heap.size, 0, none⟩), .pointer (some ⟨W.heap.size, 0, none⟩)] (enters_of Tryz.func151 (by kernel_rfl) rfl) ⟨s, zbp.refl hst0.at_, rfl, fun j hj => absurd hj (Nat.not_lt_zero _)⟩ ?_).mono ?_
  ·
   rintro i X ⟨s', hs, -, -⟩ k j hk hj
   have hX := (hs.static h hb13 (by omega) (hup hrow)).1
   obtain ⟨p, hp⟩ : ∃ p, (plL A.lp.length A.lp.length 1)[k]? = some p := ⟨_, yyg (by rw [zvl]; exact hk)⟩
   have hpf := zxx hp
   rw [← hF] at hpf
   rw [zaa hX, yyd, hp]
   obtain ⟨e0, e1⟩ := hpf
   rw [List.getElem?_take, if_pos (by omega)] at e0 e1
   rw [Array.getElem?_toList] at e0 e1
   have hj2 : j = 0 ∨ j = 1 := by omega
   rcases hj2 with rfl | rfl
   · exact e0
   · exact e1
  ·
   intro X i hP hi
   have hP2 := hP
   obtain ⟨s', hs, hsq, hfa⟩ := hP2
   have hM : zdo X (W1.heap.size + 1 + 1 + 1) f := by
    obtain ⟨es, clock, m1, m2⟩ := hA.map
    exact ⟨es, clock, (hs.static h hb13 (by omega) (hup m1)).1, m2⟩
   have cb := zaa (i := 0) (hs.static h hb13 (by omega) hbv).1
   have ci := zaa (i := 0) (hs.static h hb13 (by omega) (hup ((hb2.block _ (zac hx)).trans hx))).1
   have cq := hs.static h hb13 (by omega) (hup hqb)
   rcases zr9 hi with hi | ⟨j, hj, rfl⟩ | rfl
   ·
    have hd : (plL A.lp.length A.lp.length 1).getD i (0, 0) = (1, i) := by rw [yyd, zvn hi]; rfl
    obtain ⟨tb, e1, e2, e3⟩ := f1 i hi
    have ct := hs.static h hb13 (by omega) (hup e2)
    rw [hd]
    have hbx : Below X.heap.size X (X.alloc (.cells #[.int .i64 ((1 : Nat) : Int), .int .i64 (i : Int)] 235)).drew := zaf (zab yyr _)
    have hat := hs.at_.below hbx
    refine zxw hM (by unfold zbl; decide) (zgj (by omega)) e1 cb ci (enters_of Tryz.func206 (by kernel_rfl) rfl) ?_
    refine (zy2 hat i hi W1.heap.size tb ⟨zae hbx (zaa cq.1), hat.cells.2.1, zae hbx (zaa ct.1)⟩ cq.2 ct.2 id).mono ?_
    rintro e w' ⟨rfl, q1, hk, hq1⟩
    refine ⟨_, rfl, _, rfl, TkP.next (f1 := (s.q A.k).tS id i) hq hP hs hsq ((zbp.below hs.at_ hbx).trans hk) ?_ ?_ ?_⟩
    · rw [hsq, ztg hi]
    · intro hr
      rw [hsq] at hr
      exact zsa hq hr
    · rw [hq1, hsq]
      rfl
   ·
    have hd : (plL A.lp.length A.lp.length 1).getD (A.lp.length + j) (0, 0) = (2, j) := by rw [yyd, zvo hj]; rfl
    obtain ⟨p, hp⟩ : ∃ p, A.lp[j]? = some p := ⟨_, yyg hj⟩
    rw [hd]
    have hbx : Below X.heap.size X (X.alloc (.cells #[.int .i64 ((2 : Nat) : Int), .int .i64 (j : Int)] 235)).drew := zaf (zab yyr _)
    have hat := hs.at_.below hbx
    refine ztf hM (by unfold zbl; decide) (zgj (by omega)) (f2 j p hj hp) cb ci (enters_of Tryz.func207 (by kernel_rfl) rfl) ?_
    refine (zy3 hat (by rw [hsq]; exact hq) j p hp id).mono ?_
    rintro e w' ⟨rfl, q1, hk, hq1⟩
    refine ⟨_, rfl, _, rfl, TkP.next (f1 := (s.q A.k).tW id j) hq hP hs hsq ((zbp.below hs.at_ hbx).trans hk) ?_ ?_ ?_⟩
    · rw [hsq, zth hj]
    · intro hr
      rw [hsq] at hr
      exact zvq hq hr
    · rw [hq1, hsq]
      rfl
   ·
    have hd : (plL A.lp.length A.lp.length 1).getD (A.lp.length + A.lp.length) (0, 0) = (3, 0) := by rw [yyd, zvp]; rfl
    rw [hd]
    have hbx : Below X.heap.size X (X.alloc (.cells #[.int .i64 ((3 : Nat) : Int), .int .i64 ((0 : Nat) : Int)] 235)).drew := zaf (zab yyr _)
    have hat := hs.at_.below hbx
    refine ztf hM (by unfold zbl; decide) (by unfold zbl; decide) (f3 (by omega)) cb ci (enters_of Tryz.func208 (by kernel_rfl) rfl) ?_
    refine (zy4 hat (by rw [hsq]; exact hq) id).mono ?_
    rintro e w' ⟨rfl, q1, hk, hq1⟩
    refine ⟨_, rfl, _, rfl, TkP.next (f1 := (s.q A.k).tH id) hq hP hs hsq ((zbp.below hs.at_ hbx).trans hk) ?_ ?_ ?_⟩
    · rw [hsq, zti]
    · intro hr
      rw [hsq] at hr
      exact zxs hq hr
    · rw [hq1, hsq]
      rfl
  ·
   rintro e w' (⟨rfl, s', hs, hsq, hfa⟩ | ⟨i, hi, rfl, hh, s', hs, hsq⟩)
   ·
    have hn : (s.q A.k).has id = false := by
     refine zxt (fun t ht => ?_) (fun t ht => ?_) ?_
     · have ht' : t < A.lp.length := by rw [← h.sln]; simpa [QS.q] using ht
       rw [← ztg ht']
       exact hfa t (by omega)
     · have ht' : t < A.lp.length := by rw [← h.lsn]; simpa [QS.q] using ht
       rw [← zth ht']
       exact hfa _ (by omega)
     · rw [← zti]
       exact hfa _ (by omega)
    exact ⟨by rw [hn], s', hst0.trans hs, by rw [hsq, zr6 hn]⟩
   · exact ⟨by rw [hh], s', hst0.trans hs, hsq⟩
 have HC := yyh hC
 clear hC h hq hb1 hx hqb hA f1 f2 f3 hb2 hv hnum hrow hle hmx hsz hF hb3 hbv hb12 hb13 s1 s2 hup hbg
 go_wp2_with fail
 refine HC.out.mono ?_
 rintro e w' ⟨rfl, hR⟩
 have HR := yyh hR
 clear hR
 go_wp2_with fail
 go_ret
 exact ⟨rfl, HR.out⟩
def lpF (lp : List Nat) : List Value := lp.map fun p => .pointer (some ⟨p, 0, none⟩)
theorem zxz : (Tryz.prog.info? 173).map (fun i => (i.zero, i.size, i.bytes)) = some (some (.pointer none), 1, 8) := by kernel_rfl
structure QNw (W : World) (T k : Nat) (qb sp sg hp : Nat) (lp : List Nat) (v : Value) (w : World) : Prop where
 hdr : w.heap[qb]? = some (.cells #[.int .i64 (k : Int), .pointer (some ⟨sp, 0, none⟩), v, .pointer (some ⟨hp, 0, none⟩)] 169 (0, 0))
 row : w.ownsRow W.heap.size 173 1 v lp.length (lpF lp)
 ls : ∀ p ∈ lp, w.heap[p]? = some (.cells #[.slice none 0 0] 220 (0, 0)) ∧ W.heap.size ≤ p
 nd : lp.Nodup
 sl : zey w sp sg (List.replicate T zxr)
 sh : w.heap[hp]? = some (.cells #[.int .u64 0, .slice none 0 0] 288 (0, 0))
 ge : W.heap.size ≤ qb ∧ W.heap.size ≤ sp ∧ W.heap.size ≤ sg ∧ W.heap.size ≤ hp
 bel : Below W.heap.size W w
section
variable {W w w2 w7 : World} {T k qb sp sg hp : Nat} {lp : List Nat} {v v' : Value}
theorem QNw.below (h : QNw W T k qb sp sg hp lp v w) (hb : Below w.heap.size w w2) : QNw W T k qb sp sg hp lp v w2 :=
 ⟨(hb.block _ (zac h.hdr)).trans h.hdr, zb3 h.row hb, fun p hp => ⟨(hb.block _ (zac (h.ls p hp).1)).trans (h.ls p hp).1, (h.ls p hp).2⟩, h.nd, h.sl.below hb, (hb.block _ (zac h.sh)).trans h.sh, h.ge, zad hb h.bel⟩
theorem zlq (p : Nat) : ∀ u ∈ lpF [p], u.oneCell' = true := fun u hu => by simp [lpF] at hu; subst hu; rfl
structure QN7 (W w7 : World) (T k qb sp sg hp : Nat) (lp : List Nat) (v v' : Value) : Prop where
 c : w7.cell? ⟨qb, 2, none⟩ = some v
 z : w7.frozen? ⟨qb, 2, none⟩ = false
 nx : QNw W T k qb sp sg hp lp v' (w7.setCell ⟨qb, 2, none⟩ v')
theorem QNw.next (h : QNw W T k qb sp sg hp lp v w) (hw2 : w2 = (w.alloc (.cells #[.slice none 0 0] 220)).alloc (.cells #[.pointer (some ⟨w.heap.size, 0, none⟩)] 173)) (hown : w7.ownsRow W.heap.size 173 1 v' (lp.length + 1) (lpF lp ++ lpF [w.heap.size])) (hg : w2.grownBy w7 v.ownBlock) : QN7 W w7 T k qb sp sg hp (lp ++ [w.heap.size]) v v' := by
 have hb2 : Below w.heap.size w w2 := by rw [hw2]; exact zab (zab yyr _) _
 have h2 := h.below hb2
 have hnew : w2.heap[w.heap.size]? = some (.cells #[.slice none 0 0] 220 (0, 0)) := by rw [hw2]; exact zan (heap_alloc_new w _)
 have hne : ∀ {j : Nat} {c : Array Value} {u : TypeId}, w2.heap[j]? = some (.cells c u (0, 0)) → u ≠ 173 → some j ≠ v.ownBlock := fun {j c u} hj hn e => by
  obtain ⟨cur, h1⟩ := zba h2.row e.symm
  rw [hj] at h1
  injection h1 with h1
  injection h1 with _ h1 _
  exact hn h1
 have hup : ∀ {j : Nat} {c : Array Value} {u : TypeId}, w2.heap[j]? = some (.cells c u (0, 0)) → u ≠ 173 → w7.heap[j]? = some (.cells c u (0, 0)) := fun hj hn => (hg.block _ (zac hj) (hne hj hn)).trans hj
 have hq7 := hup h2.hdr (by decide)
 have hset : ∀ {j : Nat} {c : Array Value} {u : TypeId}, w7.heap[j]? = some (.cells c u (0, 0)) → u ≠ 169 → (w7.setCell ⟨qb, 2, none⟩ v').heap[j]? = some (.cells c u (0, 0)) := fun {j c u} hj hn => za1 hj (fun e => by
  rw [e, hq7] at hj
  injection hj with hj
  injection hj with _ hj _
  exact hn hj.symm) v'
 have hF : Fr (fun j => j = qb) w7 (w7.setCell ⟨qb, 2, none⟩ v') := Fr.set (S := fun j => j = qb) (Fr.refl _ _) (p := ⟨qb, 2, none⟩) rfl _
 refine ⟨by simp [World.cell?, hq7], za5 hq7, ⟨?_, ?_, ?_, ?_, ?_, ?_, h.ge, ?_⟩⟩
 · rw [zai hq7]
   rfl
 ·
  have e : (lp ++ [w.heap.size]).length = lp.length + 1 := by simp
  have e2 : lpF (lp ++ [w.heap.size]) = lpF lp ++ lpF [w.heap.size] := by simp [lpF]
  rw [e, e2]
  refine zcv hown hF (fun c hc ec => ?_)
  obtain ⟨cur, h1⟩ := zba hown hc
  have ec' : c = qb := ec
  rw [ec', hq7] at h1
  injection h1 with h1
  injection h1 with _ h1 _
  exact absurd h1 (by decide)
 ·
  intro p hp
  rcases List.mem_append.1 hp with hp | hp
  · exact ⟨hset (hup (h2.ls p hp).1 (by decide)) (by decide), (h.ls p hp).2⟩
  · have hp' : p = w.heap.size := by simpa using hp
    rw [hp']
    exact ⟨hset (hup hnew (by decide)) (by decide), h.bel.size⟩
 ·
  rw [List.nodup_append]
  refine ⟨h.nd, by simp, fun a ha b hb e => ?_⟩
  have hb' : b = w.heap.size := by simpa using hb
  have := zac (h.ls a ha).1
  omega
 · exact ⟨hset (hup h2.sl.hdr (by decide)) (by decide), hset (hup h2.sl.row (by decide)) (by decide), h2.sl.len, h2.sl.vers⟩
 · exact hset (hup h2.sh (by decide)) (by decide)
 ·
  have s2 := h2.bel
  refine ⟨hg.os.trans s2.os, hg.tape.trans s2.tape, hg.output.trans s2.output, by rw [World.size_setCell]; exact Nat.le_trans s2.size hg.size, fun j hj => ?_⟩
  have := h.ge.1
  rw [Below.heap_setCell w7 ⟨qb, 2, none⟩ v' j (by show j ≠ qb; omega), hg.block j (by have := s2.size; omega) (fun e => ?_)]
  · exact s2.block j hj
  ·
   rcases h.row.2 with ⟨hv, -⟩ | ⟨g, cap, cur, hv, hbg, -⟩
   · rw [hv] at e
     cases e
   ·
    rw [hv] at e
    injection e with e
    have e' : j = g := e
    omega
theorem QNw.queue (h : QNw W T k qb sp sg hp lp v w) (hl : lp.length = T) (h1 : 1 ≤ T) (h8 : T ≤ 8) (hk : k ≤ 16) : ∃ A s, A.qp = qb ∧ QAt w A s ∧ s.q A.k = ⟨k, List.replicate T none, List.replicate T [], []⟩ ∧ A.k = k ∧ A.lp.length = T ∧ ∀ j, zcx A s j → W.heap.size ≤ j := by
 rcases h.row.2 with ⟨-, hz⟩ | ⟨ob, oc, cur, rfl, hbg, hrow, hle, hmx, hsz, hF⟩
 · omega
 refine ⟨⟨qb, sp, sg, ob, oc, hp, lp, k⟩, ⟨List.replicate T zxr, List.replicate T (.slice none 0 0, []), .slice none 0 0, []⟩, rfl, ⟨h.hdr, ⟨cur, hrow, fun t p hp => ?_⟩, ⟨by rw [hl]; exact h1, by rw [hl]; exact h8, hle, hmx, hk⟩, h.sl, by simp [hl], by simp [hl], fun t p x hp hx => ?_, ?_, h.nd, ?_, ?_⟩, ?_, rfl, hl, ?_⟩
 ·
  have e : (lpF lp)[t]? = some (.pointer (some ⟨p, 0, none⟩)) := by
   have hp' : lp[t]? = some p := hp
   simp [lpF, hp']
  rw [← hF, List.getElem?_take] at e
  split at e
  · rw [Array.getElem?_toList] at e
    exact e
  · cases e
 ·
  have hx' : x = (.slice none 0 0, []) := List.eq_of_mem_replicate (List.mem_of_getElem? hx)
  rw [hx']
  have hp' : lp[t]? = some p := hp
  exact ⟨(h.ls p (List.mem_of_getElem? hp')).1, World.ownsRow_nil _ _ _ _, fun b hb => absurd hb (by simp)⟩
 · exact ⟨⟨0, by omega, by unfold top; omega, h.sh⟩, ⟨SlV.nil _ _ _, fun b hb => absurd hb (by simp)⟩, fun b hb => absurd hb (by simp)⟩
 ·
  intro t t' x x' c hx hx' hc
  have e : x = (.slice none 0 0, []) := List.eq_of_mem_replicate (List.mem_of_getElem? hx)
  rw [e] at hc
  cases hc
 ·
  intro x hx c hc
  have e : x = (.slice none 0 0, []) := List.eq_of_mem_replicate hx
  rw [e] at hc
  cases hc
 · show QM.mk k _ _ _ = _
   simp only [List.map_replicate]
   rfl
 ·
  obtain ⟨g1, g2, g3, g4⟩ := h.ge
  intro j hj
  rcases hj with rfl | rfl | rfl | rfl | hj | rfl | hj | ⟨x, hx, hj⟩
  · exact g1
  · exact g2
  · exact g3
  · exact hbg
  · exact (h.ls j hj).2
  · exact g4
  · cases hj
  · have e : x = (.slice none 0 0, []) := List.eq_of_mem_replicate hx
    rw [e] at hj
    cases hj
end
theorem zy8 (T k : Nat) (h1 : 1 ≤ T) (h8 : T ≤ 8) (hk : k ≤ 16) (W : World) : Calls Tryz.prog 110 #[.int .i64 T, .int .i64 k] W fun e w' => ∃ A s, e = .returned (.tuple #[.pointer (some ⟨A.qp, 0, none⟩), .int .i64 0]) ∧ QAt w' A s ∧ s.q A.k = ⟨k, List.replicate T none, List.replicate T [], []⟩ ∧ A.k = k ∧ A.lp.length = T ∧ (∀ j, zcx A s j → W.heap.size ≤ j) ∧ Below W.heap.size W w' := by
 have g1 : decide ((k : Int) < 0) = false := by rw [decide_eq_false_iff_not]; omega
 have g2 : decide ((k : Int) > 16) = false := by rw [decide_eq_false_iff_not]; omega
 have g2' : decide ((16 : Int) < (k : Int)) = false := by rw [decide_eq_false_iff_not]; omega
 have HS := yyh (zr2 T h1 h8 W)
 have HK := yyh (yyi h1 (yyi h8 hk))
 obtain ⟨i0, hi0, hz0, hz1, hz2⟩ := info_parts zxz
 clear h1 h8 hk
 go_enter Tryz.func110, Tryz.ntmps110
 go_wp2_with fail
 refine HS.out.mono ?_
 rintro e w1 ⟨sp, sg, rfl, hsl, gsp, gsg, hB1⟩
 have H1 := yyh (yyi hsl (yyi gsp (yyi gsg hB1)))
 clear hsl gsp gsg hB1
 go_wp2_with fail
 refine (zz3 _).mono ?_
 rintro e w2 ⟨rfl, hw2⟩
 have H2 := yyh hw2
 clear hw2
 have hw3 : QNw W T k w2.heap.size sp sg w1.heap.size [] (.slice none 0 0) (w2.alloc (.cells #[.int .i64 (k : Int), .pointer (some ⟨sp, 0, none⟩), .slice none 0 0, .pointer (some ⟨w1.heap.size, 0, none⟩)] 169)) := by
  obtain ⟨hsl, gsp, gsg, hB1⟩ := H1.out
  have hb2 : Below w1.heap.size w1 w2 := by rw [H2.out]; exact zab yyr _
  have hb3 : Below w2.heap.size w2 (w2.alloc (.cells #[.int .i64 (k : Int), .pointer (some ⟨sp, 0, none⟩), .slice none 0 0, .pointer (some ⟨w1.heap.size, 0, none⟩)] 169)) := zab yyr _
  have hsh : w2.heap[w1.heap.size]? = some (.cells #[.int .u64 0, .slice none 0 0] 288 (0, 0)) := by rw [H2.out]; exact heap_alloc_new w1 _
  have s1 := hB1.size
  have s2 := hb2.size
  exact ⟨heap_alloc_new w2 _, World.ownsRow_nil _ _ _ _, fun p hp => absurd hp (by simp), List.nodup_nil, (hsl.below hb2).below hb3, (hb3.block _ (zac hsh)).trans hsh, ⟨by omega, gsp, gsg, s1⟩, zad hb3 (zad hb2 hB1)⟩
 have HW3 := yyh hw3
 clear hw3
 go_wp2_with fail
 go_loopg [30] T (fun gg s30 wr => ∃ i : Nat, i ≤ T ∧ gg = T - i ∧ s30 = .int .i64 i ∧ Aside (∃ lp v, QNw W T k w2.heap.size sp sg w1.heap.size lp v wr ∧ lp.length = i))
 case atStart => exact ⟨0, Nat.zero_le _, by omega, rfl, [], _, HW3.out, rfl⟩
 case round =>
  obtain ⟨i, hi, rfl, rfl, D⟩ := hrel
  obtain ⟨lp, v, hD, hlp⟩ := D.out
  clear D
  by_cases hlt : i < T
  ·
   have hltz : (i : Int) < (T : Int) := by omega
   obtain ⟨Wd, hWd⟩ := yye (wr.drew)
   have hDd : QNw W T k w2.heap.size sp sg w1.heap.size lp v Wd := by rw [← hWd]; exact hD.below (zaf yyr)
   obtain ⟨a, cap, rfl, -⟩ := SlV.clip (SlV.of_owns hDd.row)
   have q1 := hDd.below (zab yyr (.cells #[.slice none 0 0] 220))
   have q2 := q1.below (zab yyr (.cells #[.pointer (some ⟨Wd.heap.size, 0, none⟩)] 173))
   have c0 : Wd.cell? ⟨w2.heap.size, 2, none⟩ = some (.slice a lp.length cap) := by simp [World.cell?, hDd.hdr]
   have c1 : (Wd.alloc (.cells #[.slice none 0 0] 220)).cell? ⟨w2.heap.size, 2, none⟩ = some (.slice a lp.length cap) := by simp [World.cell?, q1.hdr]
   have c2 : ((Wd.alloc (.cells #[.slice none 0 0] 220)).alloc (.cells #[.pointer (some ⟨Wd.heap.size, 0, none⟩)] 173)).cell? ⟨w2.heap.size, 2, none⟩ = some (.slice a lp.length cap) := by simp [World.cell?, q2.hdr]
   have HROW := yyh q2.row
   have hnw := cell_one_new (Wd.alloc (.cells #[.slice none 0 0] 220)) (.pointer (some ⟨Wd.heap.size, 0, none⟩)) 173
   rw [show (Wd.alloc (.cells #[.slice none 0 0] 220)).heap.size = Wd.heap.size + 1 from by simp] at hnw
   have HNEWS := yyh hnw
   clear hnw
   have HGE := yyh q2.bel.size
   have HD := yyh (yyi hDd hlp)
   clear hD hDd q1 q2 hlp
   have hT8 := HK.out.2.1
   go_upto_region 7 with fail
   -- REGION 7 BEGIN
   refine wp_region_held_drew (S := fun _ => True) (by kernel_rfl) trivial (fun hH => ?_)
   refine tq 0 ?_ rfl ?_ ?_
   rotate_left
   · (intro w hSw; go_simp; try with_reducible rfl)
   try simp only [Act.put, pA, pB, pC]
   refine tq 1 ?_ rfl ?_ ?_
   rotate_left
   · (intro w hSw; go_simp; try with_reducible rfl)
   try simp only [Act.put, pA, pB, pC]
   refine tq 2 ?_ rfl ?_ ?_
   rotate_left
   · (intro w hSw; go_simp; try with_reducible rfl)
   try simp only [Act.put, pA, pB, pC]
   refine tq 3 ?_ rfl ?_ ?_
   rotate_left
   · (intro w hSw; go_simp; try with_reducible rfl)
   try simp only [Act.put, pA, pB, pC]
   refine wpAnyH_ready (rs := [4, 5]) (by kernel_rfl) (by simp) ?_
   refine AllReadyH.cons rfl (fun K hK => ?_) ?_
   ·
    (go_simp)
    refine hK.out _ _ ?_ (fun hH => ?_)
    · (try dsimp only); (all_goals trivial)
    clear hK K
    refine rd 5 (by kernel_rfl) rfl (fun K hK => ?_)
    ·
     (go_simp; go_at_call 163; refine (zzp _).mono ?_; rintro e w5 ⟨rfl, rfl⟩)
     refine hK.out _ _ ?_ (fun hH => ?_)
     · (try dsimp only); (all_goals trivial)
     clear hK K
     refine rd 6 (by kernel_rfl) rfl (fun K hK => ?_)
     ·
      (go_simp)
      refine hK.out _ _ ?_ (fun hH => ?_)
      · (try dsimp only); (all_goals trivial)
      clear hK K
      refine rd 7 (by kernel_rfl) rfl (fun K hK => ?_)
      ·
       (refine step_append_lies _ rfl (.tmp 36) (.tmp 38) 166 rfl W.heap.size 173 i0 (.pointer none) 1 8 Tryz.underlying166 hi0 hz0 hz1 hz2 rfl (by decide) _ lp.length (lpF lp) (by simp [Act.eval, Act.put]) HROW.out ⟨Wd.heap.size + 1, 0, none⟩ 1 1 (lpF [Wd.heap.size]) (by simp [Act.eval, Act.put]) rfl HNEWS.out (zlq _) (by decide) (by have := HD.out.2; unfold maxLen; omega) (by have := HD.out.2; omega) HGE.out _ rfl ?_; intro g4 k4 w9 hown9 hg9 hat9 hlt9; have hN9 := HD.out.1.next rfl hown9 hg9; have HN9 := yyh hN9; have hh9 := hN9.c; have hf9 := hN9.z; clear hown9 hg9 hat9 hN9)
       refine hK.out _ _ ?_ (fun hH => ?_)
       · (try dsimp only); (all_goals trivial)
       clear hK K
       refine tq 8 ?_ rfl ?_ ?_
       rotate_left
       · (intro w hSw; go_simp; try with_reducible rfl)
       try simp only [Act.put, pA, pB, pC]
       refine tq 9 ?_ rfl ?_ ?_
       rotate_left
       · (intro w hSw; go_simp; try with_reducible rfl)
       try simp only [Act.put, pA, pB, pC]
       refine rd 10 (by kernel_rfl) rfl (fun K hK => ?_)
       ·
        (go_simp)
        refine hK.out _ _ ?_ (fun hH => ?_)
        · (try dsimp only); (all_goals trivial)
        clear hK K
        refine wpAnyH_done (by kernel_rfl) ?_ _
        go_wp2_with fail
        have hlp := HD.out.2
        go_roundg (T - (i + 1))
        case measure => omega
        case rel => exact ⟨i + 1, by omega, rfl, by go_num, _, _, HN9.out.nx, by simp; omega⟩
   refine AllReadyH.cons rfl (fun K hK => ?_) ?_
   ·
    (go_simp; go_at_call 163; refine (zzp _).mono ?_; rintro e w5 ⟨rfl, rfl⟩)
    refine hK.out _ _ ?_ (fun hH => ?_)
    · (try dsimp only); (all_goals trivial)
    clear hK K
    refine wpAnyH_ready (rs := [4, 6]) (by kernel_rfl) (by simp) ?_
    refine AllReadyH.cons rfl (fun K hK => ?_) ?_
    ·
     (go_simp)
     refine hK.out _ _ ?_ (fun hH => ?_)
     · (try dsimp only); (all_goals trivial)
     clear hK K
     refine rd 6 (by kernel_rfl) rfl (fun K hK => ?_)
     ·
      (go_simp)
      refine hK.out _ _ ?_ (fun hH => ?_)
      · (try dsimp only); (all_goals trivial)
      clear hK K
      refine rd 7 (by kernel_rfl) rfl (fun K hK => ?_)
      ·
       (refine step_append_lies _ rfl (.tmp 36) (.tmp 38) 166 rfl W.heap.size 173 i0 (.pointer none) 1 8 Tryz.underlying166 hi0 hz0 hz1 hz2 rfl (by decide) _ lp.length (lpF lp) (by simp [Act.eval, Act.put]) HROW.out ⟨Wd.heap.size + 1, 0, none⟩ 1 1 (lpF [Wd.heap.size]) (by simp [Act.eval, Act.put]) rfl HNEWS.out (zlq _) (by decide) (by have := HD.out.2; unfold maxLen; omega) (by have := HD.out.2; omega) HGE.out _ rfl ?_; intro g4 k4 w9 hown9 hg9 hat9 hlt9; have hN9 := HD.out.1.next rfl hown9 hg9; have HN9 := yyh hN9; have hh9 := hN9.c; have hf9 := hN9.z; clear hown9 hg9 hat9 hN9)
       refine hK.out _ _ ?_ (fun hH => ?_)
       · (try dsimp only); (all_goals trivial)
       clear hK K
       refine tq 8 ?_ rfl ?_ ?_
       rotate_left
       · (intro w hSw; go_simp; try with_reducible rfl)
       try simp only [Act.put, pA, pB, pC]
       refine tq 9 ?_ rfl ?_ ?_
       rotate_left
       · (intro w hSw; go_simp; try with_reducible rfl)
       try simp only [Act.put, pA, pB, pC]
       refine rd 10 (by kernel_rfl) rfl (fun K hK => ?_)
       ·
        (go_simp)
        refine hK.out _ _ ?_ (fun hH => ?_)
        · (try dsimp only); (all_goals trivial)
        clear hK K
        refine wpAnyH_done (by kernel_rfl) ?_ _
        go_wp2_with fail
        have hlp := HD.out.2
        go_roundg (T - (i + 1))
        case measure => omega
        case rel => exact ⟨i + 1, by omega, rfl, by go_num, _, _, HN9.out.nx, by simp; omega⟩
    refine AllReadyH.cons rfl (fun K hK => ?_) ?_
    ·
     (go_simp)
     refine hK.out _ _ ?_ (fun hH => ?_)
     · (try dsimp only); (all_goals trivial)
     clear hK K
     refine rd 4 (by kernel_rfl) rfl (fun K hK => ?_)
     ·
      (go_simp)
      refine hK.out _ _ ?_ (fun hH => ?_)
      · (try dsimp only); (all_goals trivial)
      clear hK K
      refine rd 7 (by kernel_rfl) rfl (fun K hK => ?_)
      ·
       (refine step_append_lies _ rfl (.tmp 36) (.tmp 38) 166 rfl W.heap.size 173 i0 (.pointer none) 1 8 Tryz.underlying166 hi0 hz0 hz1 hz2 rfl (by decide) _ lp.length (lpF lp) (by simp [Act.eval, Act.put]) HROW.out ⟨Wd.heap.size + 1, 0, none⟩ 1 1 (lpF [Wd.heap.size]) (by simp [Act.eval, Act.put]) rfl HNEWS.out (zlq _) (by decide) (by have := HD.out.2; unfold maxLen; omega) (by have := HD.out.2; omega) HGE.out _ rfl ?_; intro g4 k4 w9 hown9 hg9 hat9 hlt9; have hN9 := HD.out.1.next rfl hown9 hg9; have HN9 := yyh hN9; have hh9 := hN9.c; have hf9 := hN9.z; clear hown9 hg9 hat9 hN9)
       refine hK.out _ _ ?_ (fun hH => ?_)
       · (try dsimp only); (all_goals trivial)
       clear hK K
       refine tq 8 ?_ rfl ?_ ?_
       rotate_left
       · (intro w hSw; go_simp; try with_reducible rfl)
       try simp only [Act.put, pA, pB, pC]
       refine tq 9 ?_ rfl ?_ ?_
       rotate_left
       · (intro w hSw; go_simp; try with_reducible rfl)
       try simp only [Act.put, pA, pB, pC]
       refine rd 10 (by kernel_rfl) rfl (fun K hK => ?_)
       ·
        (go_simp)
        refine hK.out _ _ ?_ (fun hH => ?_)
        · (try dsimp only); (all_goals trivial)
        clear hK K
        refine wpAnyH_done (by kernel_rfl) ?_ _
        go_wp2_with fail
        have hlp := HD.out.2
        go_roundg (T - (i + 1))
        case measure => omega
        case rel => exact ⟨i + 1, by omega, rfl, by go_num, _, _, HN9.out.nx, by simp; omega⟩
    exact AllReadyH.nil
   exact AllReadyH.nil
   -- REGION 7 END
  ·
   have hltz : ¬ (i : Int) < (T : Int) := by omega
   obtain rfl : i = T := by omega
   have HD := yyh (yyi hD hlp)
   clear hD hlp
   go_wp2_with fail
   go_ret2
   obtain ⟨A, s, e0, e1, e2, e3, e4, e5⟩ := HD.out.1.queue HD.out.2 HK.out.1 HK.out.2.1 HK.out.2.2
   have e0' := congrArg (fun q => Ending.returned (.tuple #[.pointer (some ⟨q, 0, none⟩), .int .i64 0])) e0
   first | exact ⟨A, s, e0'.symm, e1, e2, e3, e4, e5, HD.out.1.bel⟩ | exact ⟨A, e0'.symm, s, e1, e2, e3, e4, e5, HD.out.1.bel⟩
end Go.Proofs.YtcfhkbcllijnkaaGreat
