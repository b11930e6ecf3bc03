/- Parts of the proof of TopOnce, under no condition. -/
import Derived.Test.YtcfhkbcllijnkaaGreatZTopOncebh
import Derived.Deep.RegionHeldLaw
set_option linter.unusedVariables false
set_option linter.unusedSimpArgs false
set_option maxRecDepth 100000
set_option maxHeartbeats 0
namespace Go.Proofs.YtcfhkbcllijnkaaGreat
open Go.RowKit
theorem zyw (a q : Int) (v : Value) (xb : Nat) (X : World) (hv : ∃ a n k, v = .slice a n k) (h : X.cell? ⟨xb, 0, none⟩ = some (.int .i64 q)) : Calls Tryz.prog 230 #[.agg #[.int .i64 a, v], .pointer (some ⟨xb, 0, none⟩)] X fun e w' => e = .returned (.bool (a == q)) ∧ Below X.heap.size X w' := by
 obtain ⟨sa, n, k, rfl⟩ := hv
 have hl2 : xb < X.heap.size := World.block_lt_of_cell? X _ h
 have hne : ¬ xb = X.heap.size := by omega
 have hba : Below X.heap.size X (X.alloc (.cells #[.int .i64 a, .slice sa n k] 222)) := zab yyr _
 have HB := yyh hba
 clear hba
 go_enter Tryz.func230, Tryz.ntmps230
 go_wp2_with fail
 go_ret
 exact ⟨rfl, HB.out⟩
theorem zyx (a q : Int) (v : Value) (xb : Nat) (X : World) (hv : ∃ a n k, v = .slice a n k) (h : X.cell? ⟨xb, 0, none⟩ = some (.int .i64 q)) : Calls Tryz.prog 234 #[.agg #[.int .i64 a, v], .pointer (some ⟨xb, 0, none⟩)] X fun e w' => e = .returned (.bool (decide (a < q))) ∧ Below X.heap.size X w' := by
 obtain ⟨sa, n, k, rfl⟩ := hv
 have hl2 : xb < X.heap.size := World.block_lt_of_cell? X _ h
 have hne : ¬ xb = X.heap.size := by omega
 have hba : Below X.heap.size X (X.alloc (.cells #[.int .i64 a, .slice sa n k] 222)) := zab yyr _
 have HB := yyh hba
 clear hba
 go_enter Tryz.func234, Tryz.ntmps234
 go_wp2_with fail
 go_ret
 exact ⟨rfl, HB.out⟩
def lvP (bs : List Bk) (q : Int) (i : Nat) : Bool := (lvl (bs.getD i default).L.length : Int) == q
def lvQ (bs : List Bk) (q : Int) (i : Nat) : Bool := decide ((lvl (bs.getD i default).L.length : Int) < q)
theorem zpb {bs : List Bk} {i : Nat} {b : Bk} (h : bs[i]? = some b) : bs.getD i default = b := by rw [yyd, h]; rfl
theorem zxp {X : World} {v : Value} {bs : List Bk} (hE : zch X v bs) (hbs : bs.length ≤ 1000) (xb : Nat) (q : Int) (h : X.cell? ⟨xb, 0, none⟩ = some (.int .i64 q)) : Calls Tryz.prog 231 #[v, .func (.func 230) #[] #[.pointer (some ⟨xb, 0, none⟩)]] X fun e w' => (∃ r, e = .returned (.int .i64 r) ∧ zhp (lvP bs q) bs.length r) ∧ Below X.heap.size X w' :=
 zs8 hE hbs _ 230 #[.pointer (some ⟨xb, 0, none⟩)] (enters_of Tryz.func230 (by kernel_rfl) rfl) (fun Y i b hY hb => by
  unfold lvP
  rw [zpb hb]
  exact zyw _ q b.v xb Y ⟨_, _, _, rfl⟩ (zae hY h))
theorem zyy {X : World} {v : Value} {bs : List Bk} (hE : zch X v bs) (hbs : bs.length ≤ 1000) (xb : Nat) (q : Int) (h : X.cell? ⟨xb, 0, none⟩ = some (.int .i64 q)) : Calls Tryz.prog 231 #[v, .func (.func 234) #[] #[.pointer (some ⟨xb, 0, none⟩)]] X fun e w' => (∃ r, e = .returned (.int .i64 r) ∧ zhp (lvQ bs q) bs.length r) ∧ Below X.heap.size X w' :=
 zs8 hE hbs _ 234 #[.pointer (some ⟨xb, 0, none⟩)] (enters_of Tryz.func234 (by kernel_rfl) rfl) (fun Y i b hY hb => by
  unfold lvQ
  rw [zpb hb]
  exact zyx _ q b.v xb Y ⟨_, _, _, rfl⟩ (zae hY h))
theorem zfd {W w1 w3 : World} (h : Below W.heap.size W w1) (f : Fr (fun k => W.heap.size ≤ k) w1 w3) : Below W.heap.size W w3 :=
 ⟨f.os.trans h.os, f.tape.trans h.tape, f.output.trans h.output, Nat.le_trans h.size f.size, fun k hk => (f.block k (Nat.lt_of_lt_of_le hk h.size) (by omega)).trans (h.block k hk)⟩
structure AI (W : World) (l : List En) (bs : List Bk) (xb base : Nat) (vb : Value) (X : Bk) (bs' : List Bk) (w : World) : Prop where
 own : zbt w base vb bs'
 ins : ∀ b ∈ bs', zf9 w b ∧ b.L ≠ []
 xin : zf9 w X
 xne : X.L ≠ []
 xh : w.heap[xb]? = some (.cells (bkC X).toArray 222 (0, 0))
 perm : (X.L ++ zaq bs').Perm (l ++ zaq bs)
 bel : Below W.heap.size W w
 lo : W.heap.size ≤ xb ∧ xb < base
 hi : base ≤ w.heap.size
section
variable {W : World} {l : List En} {bs bs' : List Bk} {xb base : Nat} {vb : Value} {X : Bk} {w w' : World}
theorem AI.below (h : AI W l bs xb base vb X bs' w) (hb : Below w.heap.size w w') : AI W l bs xb base vb X bs' w' :=
 ⟨zb3 h.own hb, fun b hm => ⟨(h.ins b hm).1.below hb, (h.ins b hm).2⟩, h.xin.below hb, h.xne, (hb.block _ (zac h.xh)).trans h.xh, h.perm, zad hb h.bel, h.lo, Nat.le_trans h.hi hb.size⟩
theorem AI.bks (h : AI W l bs xb base vb X bs' w) : zch w vb bs' := ⟨SlV.of_owns h.own, fun b hm => (h.ins b hm).1⟩
theorem AI.ne (h : AI W l bs xb base vb X bs' w) : ∀ c, vb.ownBlock = some c → c ≠ xb := fun c hc => by
 have := (World.ownsRow.lt h.own c hc).1
 have := h.lo
 omega
theorem AI.len (h : AI W l bs xb base vb X bs' w) : bs'.length ≤ (l ++ zaq bs).length ∧ X.L.length + (zaq bs').length = (l ++ zaq bs).length := by
 have h1 := zck (bs := bs') (fun b hb => (h.ins b hb).2)
 have h2 := h.perm.length_eq
 rw [List.length_append] at h2
 omega
theorem AI.step {i : Nat} {b : Bk} {a3 : Option Addr} {k3 : Nat} {w1 : World} (h : AI W l bs xb base vb X bs' w) (hb : bs'[i]? = some b) (hB : Below w.heap.size w w1) (hE : zay w1 (.slice a3 (b.L.length + X.L.length) k3) (zaj (b.L ++ X.L))) {w2 : World} (h2 : (w1.setCell ⟨xb, 0, none⟩ (.int .i64 (lvl (b.L.length + X.L.length)))).setCell ⟨xb, 1, none⟩ (.slice a3 (b.L.length + X.L.length) k3) = w2) : zbt w2 base vb bs' ∧ ∀ v3 w3, zbt w3 base v3 (bs'.take i ++ bs'.drop (i + 1)) → Fr (fun k => vb.ownBlock = some k) w2 w3 → AI W l bs xb base v3 ⟨zaj (b.L ++ X.L), a3, k3⟩ (bs'.take i ++ bs'.drop (i + 1)) w3 := by
 have g := h.below hB
 have hF : Fr (fun k => k = xb) w1 w2 := by
  rw [← h2]
  exact (Fr.set (S := fun k => k = xb) (Fr.refl _ _) (p := ⟨xb, 0, none⟩) rfl _).trans (Fr.set (S := fun k => k = xb) (Fr.refl _ _) (p := ⟨xb, 1, none⟩) rfl _)
 have hno : zj5 w1 (fun k => k = xb) := fun k hk => ⟨(bkC X).toArray, 222, by have hk' : k = xb := hk; rw [hk']; exact g.xh, by decide⟩
 have hl : (zaj (b.L ++ X.L)).length = b.L.length + X.L.length := by rw [zam, List.length_append]
 have hxh2 : w2.heap[xb]? = some (.cells (bkC ⟨zaj (b.L ++ X.L), a3, k3⟩).toArray 222 (0, 0)) := by
  rw [← h2, zai (zai g.xh _)]
  show _ = some (Obj.cells #[.int .i64 (lvl (zaj (b.L ++ X.L)).length), .slice a3 (zaj (b.L ++ X.L)).length k3] _ _)
  rw [hl]
  rfl
 have hown2 : zbt w2 base vb bs' := zcv g.own hF g.ne
 refine ⟨hown2, fun v3 w3 h3 hF3 => ?_⟩
 have hmem : ∀ c ∈ bs'.take i ++ bs'.drop (i + 1), c ∈ bs' := fun c hc => by
  rcases List.mem_append.1 hc with hc | hc
  · exact List.mem_of_mem_take hc
  · exact List.mem_of_mem_drop hc
 have hno3 : zj5 w2 (fun k => vb.ownBlock = some k) := fun k hk => by
  obtain ⟨cur, hc⟩ := zba hown2 hk
  exact ⟨cur, _, hc, by decide⟩
 have hx3 : w3.heap[xb]? = some (.cells (bkC ⟨zaj (b.L ++ X.L), a3, k3⟩).toArray 222 (0, 0)) := (hF3.block _ (zac hxh2) (fun e => g.ne xb e rfl)).trans hxh2
 refine ⟨h3, fun c hc => ⟨(((g.ins c (hmem c hc)).1.frT hF hno).frT hF3 hno3), (g.ins c (hmem c hc)).2⟩, ⟨zay.frT (zay.frT (v := .slice a3 (zaj (b.L ++ X.L)).length k3) (by rw [hl]; exact hE) hF hno) hF3 hno3, zbb _⟩, ?_, hx3, ?_, ?_, g.lo, Nat.le_trans g.hi (Nat.le_trans hF.size hF3.size)⟩
 ·
  intro e
  have e' : zaj (b.L ++ X.L) = [] := e
  have := congrArg List.length e'
  rw [hl] at this
  have h0 : X.L.length = 0 := by have h5 : ([] : List En).length = 0 := rfl; omega
  exact h.xne (List.eq_nil_of_length_eq_zero h0)
 ·
  have hp := h.perm
  have hs : zaq bs' = zaq (bs'.take i) ++ b.L ++ zaq (bs'.drop (i + 1)) := by
   conv => lhs; rw [zfq hb]
   rw [zav, zav]
   simp [zaq]
  rw [hs] at hp
  rw [zav]
  refine List.Perm.trans ?_ hp
  show (zaj (b.L ++ X.L) ++ (zaq (bs'.take i) ++ zaq (bs'.drop (i + 1)))).Perm _
  refine ((za2 _).append_right _).trans ?_
  refine (List.perm_append_comm.append_right _).trans ?_
  rw [List.append_assoc, List.append_assoc]
  refine List.Perm.append_left _ ?_
  rw [← List.append_assoc]
  exact (List.perm_append_comm.append_right _).trans (by rw [List.append_assoc])
 ·
  have hF13 : Fr (fun k => W.heap.size ≤ k) w1 w3 := (hF.mono (fun k hk => by have hk' : k = xb := hk; rw [hk']; exact g.lo.1)).trans (hF3.mono (fun k hk => by
   have h1 := (World.ownsRow.lt g.own k hk).1
   have h2 := g.lo
   omega))
  exact zfd g.bel hF13
end
section
variable (W : World) (p : Nat) (v : Value) (ver : Int) (l : List En) (bs : List Bk) (xb base : Nat) (vb : Value) (X : Bk) (bs' : List Bk)
structure Q0 (w : World) : Prop where
 ai : AI W l bs xb base vb X bs' w
 hp : w.heap[p]? = some (.cells #[.int .u64 ver, v] 288 (0, 0))
 pl : p < W.heap.size
structure Q1 (q : Nat) (w : World) : Prop extends Q0 W p v ver l bs xb base vb X bs' w where
 hq : w.heap[q]? = some (.cells (bkC X).toArray 222 (0, 0))
 nq : vb.ownBlock ≠ some q
structure Q2 (i : Nat) (v10 : Value) (w : World) : Prop where
 own : zbt w base v10 (bs'.take i ++ [X] ++ bs'.drop i)
 ins : ∀ b ∈ bs'.take i ++ [X] ++ bs'.drop i, zf9 w b ∧ b.L ≠ []
 hp : w.heap[p]? = some (.cells #[.int .u64 ver, v] 288 (0, 0))
 xh : w.heap[xb]? = some (.cells (bkC X).toArray 222 (0, 0))
 perm : (zaq (bs'.take i ++ [X] ++ bs'.drop i)).Perm (l ++ zaq bs)
 bel : Below W.heap.size W w
 px : p ≠ xb
def zxq (w' : World) : Prop := ∃ v' bs2, zg5 w' p v' bs2 ∧ (zaq bs2).Perm (l ++ zaq bs) ∧ (v' = v ∨ ∀ c, v'.ownBlock = some c → W.heap.size ≤ c) ∧ Fr (fun k => k = p) W w'
variable {W p v ver l bs xb base vb X bs'} {w w' : World}
theorem Q0.below (h : Q0 W p v ver l bs xb base vb X bs' w) (hb : Below w.heap.size w w') : Q0 W p v ver l bs xb base vb X bs' w' := ⟨h.ai.below hb, (hb.block _ (zac h.hp)).trans h.hp, h.pl⟩
theorem Q0.al (h : Q0 W p v ver l bs xb base vb X bs' w) (nx : Nat) (hx : X.L.length = nx) : Q1 W p v ver l bs xb base vb X bs' w.heap.size (w.alloc (.cells #[.int .i64 (lvl nx), .slice X.a nx X.k] 222)) := by
 subst hx
 exact ⟨h.below (zab yyr _), heap_alloc_new w _, fun e => by have := (World.ownsRow.lt h.ai.own _ e).2; omega⟩
theorem zdy {w : World} {xb : Nat} {X : Bk} {nx : Nat} (h : w.heap[xb]? = some (.cells (bkC X).toArray 222 (0, 0))) (hx : X.L.length = nx) : w.cell? ⟨xb, 0, none⟩ = some (.int .i64 (lvl nx)) ∧ w.cell? ⟨xb, 1, none⟩ = some (.slice X.a nx X.k) := by
 subst hx
 obtain ⟨a, b, -, -⟩ := zao (x := .int .i64 (lvl X.L.length)) (y := .slice X.a X.L.length X.k) h
 exact ⟨a, b⟩
theorem zf2 {l m : List Bk} (h : l.map (·.L) = m.map (·.L)) : zaq l = zaq m := by
 have e : ∀ l : List Bk, zaq l = (l.map (·.L)).flatten := fun l => by simp [zaq, List.flatMap_def]
 rw [e, e, h]
theorem Q1.ins {q : Nat} (h : Q1 W p v ver l bs xb base vb X bs' q w) (hl : bs'.length ≤ 1000) (i : Nat) (hi : i ≤ bs'.length) : Calls Tryz.prog 236 #[vb, .int .i64 i, .slice (some ⟨q, 0, none⟩) 1 1] w fun e w' => ∃ v10, e = .returned v10 ∧ Q2 W p v ver l bs xb base X bs' i v10 w' := by
 refine (zry h.ai.own h.ai.hi h.hq h.nq hl i hi).mono ?_
 rintro e w' ⟨v10, rfl, ho, hF⟩
 have hno : zj5 w (fun k => vb.ownBlock = some k) := fun k hk => by
  obtain ⟨cur, hc⟩ := zba h.ai.own hk
  exact ⟨cur, _, hc, by decide⟩
 have hlo := h.ai.lo
 have hge : ∀ k, vb.ownBlock = some k → base ≤ k := fun k hk => (World.ownsRow.lt h.ai.own k hk).1
 refine ⟨v10, rfl, ho, fun b hb => ?_, (hF.block _ (zac h.hp) (fun e => by have := hge _ e; have := h.pl; omega)).trans h.hp, (hF.block _ (zac h.ai.xh) (fun e => by have := hge _ e; omega)).trans h.ai.xh, ?_, ?_, by have := h.pl; omega⟩
 ·
  simp only [List.mem_append, List.mem_singleton] at hb
  rcases hb with (hb | rfl) | hb
  · exact ⟨(h.ai.ins b (List.mem_of_mem_take hb)).1.frT hF hno, (h.ai.ins b (List.mem_of_mem_take hb)).2⟩
  · exact ⟨h.ai.xin.frT hF hno, h.ai.xne⟩
  · exact ⟨(h.ai.ins b (List.mem_of_mem_drop hb)).1.frT hF hno, (h.ai.ins b (List.mem_of_mem_drop hb)).2⟩
 ·
  refine List.Perm.trans ?_ h.ai.perm
  rw [zav, zav]
  have e : zaq bs' = zaq (bs'.take i) ++ zaq (bs'.drop i) := by rw [← zav, List.take_append_drop]
  rw [e, ← List.append_assoc]
  refine List.Perm.append_right _ ?_
  have e1 : zaq [X] = X.L := by simp [zaq]
  rw [e1]
  exact List.perm_append_comm
 · exact zfd h.ai.bel (hF.mono (fun k hk => by have := hge k hk; omega))
theorem Q2.swap {i : Nat} {v10 : Value} (h : Q2 W p v ver l bs xb base X bs' i v10 w) (hv0 : 0 ≤ ver) (hvt : ver ≤ top) (hN : (l ++ zaq bs).length ≤ 64) : Calls Tryz.prog 235 #[.pointer (some ⟨p, 0, none⟩), .int .u64 ver, v10] w fun e w' => e = .returned (.bool true) ∧ zxq W p v l bs w' ∧ w'.heap[xb]? = some (.cells (bkC X).toArray 222 (0, 0)) := by
 have hb : zch w v10 (bs'.take i ++ [X] ++ bs'.drop i) := ⟨SlV.of_owns h.own, fun b hb => (h.ins b hb).1⟩
 refine (zxl hv0 hvt h.hp hb (fun b hb => (h.ins b hb).2) (by rw [h.perm.length_eq]; omega)).mono ?_
 rintro e w' ⟨rfl, v', bs2, hS, hm, hge, hF⟩
 refine ⟨rfl, ⟨v', bs2, hS, ?_, .inr (fun c hc => Nat.le_trans h.bel.size (hge c hc)), (Fr.of_below h.bel).trans hF⟩, (hF.block _ (zac h.xh) (fun e => h.px (by have e' : xb = p := e; exact e'.symm))).trans h.xh⟩
 rw [zf2 hm]
 exact h.perm
end
theorem zz6 {W : World} {p : Nat} {v v1 : Value} {bs : List Bk} {l : List En} (h : zg5 W p v bs) (hE : zay W v1 l) (hN : l.length + (zaq bs).length ≤ NB) : Calls Tryz.prog 176 #[.pointer (some ⟨p, 0, none⟩), v1] W fun e w' => e = .returned (.tuple #[]) ∧ ∃ v' bs', zg5 w' p v' bs' ∧ (zaq bs').Perm (l ++ zaq bs) ∧ (v' = v ∨ ∀ c, v'.ownBlock = some c → W.heap.size ≤ c) ∧ Fr (fun k => k = p) W w' := by
 obtain ⟨ver, hv0, hvt, hhdr⟩ := h.hdr
 obtain ⟨c0, c1, f0, f1⟩ := zao hhdr
 obtain ⟨a1, k1, rfl, hk1, hkm1, hna1, -⟩ := SlV.clip hE
 have hOf := BOf (by unfold NB at *; omega) hE
 unfold bkV at hOf
 obtain ⟨n, hn⟩ := yye (l.length)
 rw [hn] at hOf
 have HH := yyh (yyi h (yyi hn hN))
 have HOF := yyh hOf
 have hNN : (l ++ zaq bs).length ≤ 64 := by rw [List.length_append]; exact hN
 rw [hn]
 have hpl := zac hhdr
 have HHD := yyh hhdr
 clear hE hN hOf hn hhdr hna1
 by_cases h0 : n = 0
 ·
  subst h0
  have hl : l = [] := List.eq_nil_of_length_eq_zero HH.out.2.1
  subst hl
  go_enter Tryz.func176, Tryz.ntmps176
  go_wp2_with fail
  refine bodyPost_ret (results_none rfl _ _ _) rfl ?_
  exact ⟨rfl, v, bs, HH.out.1, List.Perm.refl _, .inl rfl, Fr.refl _ _⟩
 ·
  have gn : ((n : Int) == 0) = false := by rw [beq_eq_false_iff_ne]; omega
  go_enter Tryz.func176, Tryz.ntmps176
  go_wp2_with fail
  refine HOF.out.mono ?_
  rintro e w1 ⟨v2, rfl, hE2, hge2, hB1⟩
  obtain ⟨a2, k2, rfl, -, -, -, -⟩ := SlV.clip hE2
  have hsl : (zaj l).length = n := by rw [zam]; exact HH.out.2.1
  have hX : zf9 w1 ⟨zaj l, a2, k2⟩ := ⟨hE2, zbb l⟩
  rw [hsl]
  obtain ⟨W2, hW2⟩ := yye (w1.alloc (.cells #[.int .i64 (lvl n), .slice a2 n k2] 222))
  obtain ⟨xb, hxb⟩ := yye (w1.heap.size)
  have hB2 : Below w1.heap.size w1 W2 := by rw [← hW2]; exact zab yyr _
  have hx2 : W2.heap[xb]? = some (.cells (bkC ⟨zaj l, a2, k2⟩).toArray 222 (0, 0)) := by
   rw [← hW2, ← hxb]
   show _ = some (Obj.cells #[.int .i64 (lvl (zaj l).length), .slice a2 (zaj l).length k2] _ _)
   rw [hsl]
   exact heap_alloc_new w1 _
  have hBB : Below W.heap.size W W2 := zad hB2 hB1
  have hCl := zlb (W := W2) (by have := zck HH.out.1.ne; have := HH.out.2.2; unfold NB at this; omega) (HH.out.1.bks.below hBB).1 (zc5 bs)
  have hAI : ∀ v3 w3, zbt w3 W2.heap.size v3 bs → Below W2.heap.size W2 w3 → AI W l bs xb W2.heap.size v3 ⟨zaj l, a2, k2⟩ bs w3 := fun v3 w3 ho hb => by
   refine ⟨ho, fun b hb' => ⟨((HH.out.1.bks.2 b hb').below hBB).below hb, HH.out.1.ne b hb'⟩, (hX.below hB2).below hb, fun e => ?_, (hb.block _ (zac hx2)).trans hx2, (za2 l).append_right _, zad hb hBB, ⟨?_, zac hx2⟩, hb.size⟩
   · have e' : zaj l = [] := e
     rw [e'] at hsl
     exact h0 hsl.symm
   · rw [← hxb]; exact hB1.size
  have hpc : W2.cell? ⟨p, 1, none⟩ = some v := zae hBB c1
  have hq1 : W2.cell? ⟨xb, 0, none⟩ = some (.int .i64 (lvl n)) := by have := zaa (i := 0) hx2; rw [show (bkC ⟨zaj l, a2, k2⟩).toArray[0]? = some (.int .i64 (lvl (zaj l).length)) from rfl, hsl] at this; exact this
  have HAI := yyh hAI
  have HCl := yyh hCl
  have HB := yyh (yyi hBB hx2)
  have hxw1 : p < w1.heap.size := Nat.lt_of_lt_of_le hpl hB1.size
  clear hAI hCl hX hE2 hge2 hB1 hB2 hBB hx2
  go_wp2_with fail
  refine HCl.out.mono ?_
  rintro e w3 ⟨v3, rfl, ho3, hb3⟩
  have hA := HAI.out v3 w3 ho3 hb3
  have hbl : ∀ (bs' : List Bk) (vb : Value) (X : Bk) (w : World), AI W l bs xb W2.heap.size vb X bs' w → bs'.length ≤ 1000 := fun bs' vb X w h => by have := h.len; omega
  have hq3 := zae hb3 hq1
  have HI := yyh (zxp hA.bks (hbl _ _ _ _ hA) xb _ hq3)
  have HA := yyh hA
  clear hA ho3 hb3 hq3 hW2
  go_wp2_with fail
  refine HI.out.mono ?_
  rintro e w4 ⟨⟨r, rfl, hr⟩, hB4⟩
  have HR := yyh (yyi (HA.out.below hB4) hr)
  clear hr hB4
  generalize hbase : W2.heap.size = base at *
  go_wp2_with fail
  go_loopg [5, 7] bs.length (fun gg v5 v7 wr => ∃ (X : Bk) (bs' : List Bk) (r : Int), v7 = .int .i64 r ∧ gg = bs'.length ∧ Aside (AI W l bs xb base v5 X bs' wr ∧ zhp (lvP bs' (lvl X.L.length)) bs'.length r))
  case atStart => exact ⟨⟨zaj l, a2, k2⟩, bs, r, rfl, rfl, (show Aside _ from ⟨HR.out.1, by show zhp (lvP bs (lvl (zaj l).length)) _ _; rw [hsl]; exact HR.out.2⟩)⟩
  case round =>
   obtain ⟨X, bs', r', rfl, rfl, A⟩ := hrel
   obtain ⟨hA, hr⟩ := A.out
   clear A
   by_cases hr0 : 0 ≤ r'
   ·
    obtain ⟨i, hi, rfl, -⟩ : ∃ i : Nat, i < bs'.length ∧ r' = i ∧ True := by
     rcases hr with ⟨rfl, -⟩ | ⟨i, hi, e, -⟩
     · omega
     · exact ⟨i, hi, e, trivial⟩
    obtain ⟨b, hb⟩ : ∃ b, bs'[i]? = some b := ⟨_, yyg hi⟩
    obtain ⟨g, cap, rfl, hle, hmx, -, -⟩ := zco hA.own (by omega)
    have hAd := hA.below (zaf yyr)
    have hcz : (cap : Int) ≤ 9223372036854775807 := by unfold maxLen at hmx; omega
    have hml := hA.len
    have hbm := List.mem_of_getElem? hb
    have hbl2 := zfr hbm
    have hM := zs3 (p := (lvl b.L.length : Int)) (q := (lvl X.L.length : Int)) (by unfold NB; omega) (hAd.ins b hbm).1.1 hAd.xin.1
    unfold bkV at hM
    obtain ⟨d0, d1⟩ := hA.bks.at i b hb
    change wr.cell? _ = some (.slice b.a b.L.length b.k) at d1
    obtain ⟨x0, x1, f5, f6⟩ := zao (x := .int .i64 (lvl X.L.length)) (y := .slice X.a X.L.length X.k) hA.xh
    have hbl1 := hbl _ _ _ _ hA
    obtain ⟨m, hm⟩ := yye (bs'.length)
    obtain ⟨nb, hnb⟩ := yye (b.L.length)
    obtain ⟨nx, hnx⟩ := yye (X.L.length)
    have hMM : Calls Tryz.prog 232 #[.agg #[.int .i64 (lvl nb), .slice b.a nb b.k], .agg #[.int .i64 (lvl nx), .slice X.a nx X.k]] wr.drew fun e w' => ∃ a3 k3, e = .returned (.agg #[.int .i64 (lvl (nb + nx)), .slice a3 (nb + nx) k3]) ∧ zay w' (.slice a3 (b.L.length + X.L.length) k3) (zaj (b.L ++ X.L)) ∧ Below wr.drew.heap.size wr.drew w' := by
     rw [← hnb, ← hnx]
     refine hM.mono ?_
     rintro e w' ⟨v', rfl, hE', -, hB'⟩
     obtain ⟨a3, k3, rfl, -⟩ := SlV.clip hE'
     rw [zam, List.length_append] at hE' ⊢
     exact ⟨a3, k3, rfl, hE', hB'⟩
    have HM := yyh hMM
    have HS := yyh (yyi hAd (yyi hb (yyi hm (yyi hnb (yyi hnx hi)))))
    rw [hnb] at d0 d1
    rw [hnx] at x0 x1
    rw [hm] at hi hle hbl1 ⊢
    rw [Nat.zero_add] at d0 d1
    change wr.drew.cell? _ = _ at d0 d1 x0 x1
    have hi2 : (i : Int) < (m : Int) := by omega
    have hge0 : decide ((i : Int) < 0) = false := by simp
    have hwi : IntKind.i64.wrap ((i : Int) + 1) = (i : Int) + 1 := by rw [IntKind.wrap_i64]; omega
    have hge1 : decide ((i : Int) ≥ 0) = true := by simp
    clear hA hAd hM hMM hb hm hnb hnx hbm hml hbl2 hr hr0
    go_upto_region 7 with fail
    refine wp_region_still_tail 5 (by kernel_rfl) (by kernel_rfl) ?_
    simp only [List.take_succ_cons, List.take_zero, List.drop_succ_cons, List.drop_zero]
    iterate 5 still_step
    refine wpStill_nil ?_
    change wpList _ _ _ _ _ wr.drew
    go_wp2_with fail
    refine HM.out.mono ?_
    rintro e w5 ⟨a3, k3, rfl, hE5, hB5⟩
    have hA5 := HS.out.1.below hB5
    obtain ⟨y0, y1, f7, f8⟩ := zao (x := .int .i64 (lvl X.L.length)) (y := .slice X.a X.L.length X.k) hA5.xh
    rw [HS.out.2.2.2.2.1] at y0 y1
    obtain ⟨W6, hW6⟩ : ∃ W6, (w5.setCell ⟨xb, 0, none⟩ (.int .i64 (lvl (nb + nx)))).setCell ⟨xb, 1, none⟩ (.slice a3 (nb + nx) k3) = W6 := ⟨_, rfl⟩
    have hst := AI.step HS.out.1 HS.out.2.1 hB5 hE5 (w2 := W6) (by rw [HS.out.2.2.2.1, HS.out.2.2.2.2.1]; exact hW6)
    have hD := ziv hst.1 (by rw [HS.out.2.2.1]; exact hbl1) i (by rw [HS.out.2.2.1]; exact hi)
    rw [HS.out.2.2.1] at hD
    have HD := yyh (yyi hst.2 hD)
    clear hst hD hA5 hE5 hB5
    go_wp2_with fail
    refine HD.out.2.mono ?_
    rintro e w7 ⟨v7, rfl, ho7, hF7, -⟩
    have hA7 := HD.out.1 v7 w7 ho7 hF7
    have HI7 := yyh (zxp hA7.bks (hbl _ _ _ _ hA7) xb _ (zaa (i := 0) hA7.xh))
    have HA7 := yyh hA7
    clear hA7 ho7 hF7
    go_wp2_with fail
    refine HI7.out.mono ?_
    rintro e w8 ⟨⟨r8, rfl, hr8⟩, hB8⟩
    have HR8 := yyh (yyi (HA7.out.below hB8) hr8)
    clear hr8 hB8
    go_wp2_with fail
    have hl7 : (bs'.take i ++ bs'.drop (i + 1)).length + 1 = m := by
     have := HS.out.2.2.1
     simp
     omega
    go_roundg (bs'.take i ++ bs'.drop (i + 1)).length
    case measure => have := HS.out.2.2.1; omega
    case rel => exact ⟨⟨zaj (b.L ++ X.L), a3, k3⟩, bs'.take i ++ bs'.drop (i + 1), r8, rfl, rfl, (show Aside _ from ⟨HR8.out.1, HR8.out.2⟩)⟩
   ·
    have hg : decide (r' ≥ 0) = false := by rw [decide_eq_false_iff_not]; omega
    have hI := zyy hA.bks (hbl _ _ _ _ hA) xb _ (zaa (i := 0) hA.xh)
    have HI := yyh hI
    have HA9 := yyh hA
    obtain ⟨au, ku, rfl, -⟩ := SlV.clip hA.bks.1
    clear hI hA hr
    go_wp2_with fail
    refine HI.out.mono ?_
    rintro e w9 ⟨⟨r9, rfl, hr9⟩, hB9⟩
    have HR9 := yyh (yyi (HA9.out.below hB9) hr9)
    clear hr9 hB9
    have hlb := hbl _ _ _ _ HR9.out.1
    go_upto_if 44 with fail
    go_cut [8] (fun v8 w => ∃ i : Nat, i ≤ bs'.length ∧ v8 = .int .i64 i ∧ w = w9)
    case first =>
     by_cases h9 : r9 < 0
     · go_wp2_with fail
       go_meet
       exact ⟨bs'.length, yyn, rfl, rfl⟩
     ·
      obtain ⟨i, hi, rfl, -⟩ : ∃ i : Nat, i < bs'.length ∧ r9 = i ∧ True := by
       rcases HR9.out.2 with ⟨e, -⟩ | ⟨i, hi, e, -⟩
       · omega
       · exact ⟨i, hi, e, trivial⟩
      go_wp2_with fail
      go_meet
      exact ⟨i, by omega, rfl, rfl⟩
    case rest =>
     obtain ⟨i, hi, rfl, rfl⟩ := hcut
     obtain ⟨nx, hnx⟩ := yye (X.L.length)
     have hQ0 : Q0 W p v ver l bs xb base (.slice au bs'.length ku) X bs' wc.drew := ⟨HR9.out.1.below (zaf yyr), (HR9.out.1.bel.block _ hpl).trans HHD.out, hpl⟩
     obtain ⟨x0, x1⟩ := zdy hQ0.ai.xh hnx
     have HQ0 := yyh hQ0
     obtain ⟨m, hm⟩ := yye (bs'.length)
     have hQI : ∀ (q : Nat) (w : World), Q1 W p v ver l bs xb base (.slice au bs'.length ku) X bs' q w → Calls Tryz.prog 236 #[.slice au m ku, .int .i64 i, .slice (some ⟨q, 0, none⟩) 1 1] w fun e w' => ∃ v10, e = .returned v10 ∧ Q2 W p v ver l bs xb base X bs' i v10 w' := fun q w h => by
      rw [← hm]
      exact h.ins hlb i hi
     have HQI := yyh hQI
     rw [hm]
     have hp0 : wc.drew.cell? ⟨p, 0, none⟩ = some (.int .u64 ver) := zaa hQ0.hp
     have HX := yyh hnx
     have HV := yyh (yyi hv0 hvt)
     clear hQ0 hm hi hnx hQI hv0 hvt
     go_upto_region 12 with fail
     -- REGION 12 BEGIN
     refine wp_region_held_drew (S := fun w => w.cell? ⟨xb, 0, none⟩ = some (.int .i64 (lvl nx)) ∧ w.cell? ⟨xb, 1, none⟩ = some (.slice X.a nx X.k)) (by kernel_rfl) ⟨x0, x1⟩ (fun hH => ?_)
     refine tq 0 ?_ rfl ?_ ?_
     rotate_left
     · (rintro w ⟨_, _⟩; go_simp; try with_reducible rfl)
     try simp only [Act.put, pA, pB, pC]
     refine tq 1 ?_ rfl ?_ ?_
     rotate_left
     · (rintro w ⟨_, _⟩; go_simp; try with_reducible rfl)
     try simp only [Act.put, pA, pB, pC]
     refine tq 2 ?_ rfl ?_ ?_
     rotate_left
     · (rintro w ⟨_, _⟩; go_simp; try with_reducible rfl)
     try simp only [Act.put, pA, pB, pC]
     refine tq 3 ?_ rfl ?_ ?_
     rotate_left
     · (rintro w ⟨_, _⟩; go_simp; try with_reducible rfl)
     try simp only [Act.put, pA, pB, pC]
     refine tq 4 ?_ rfl ?_ ?_
     rotate_left
     · (rintro w ⟨_, _⟩; go_simp; try with_reducible rfl)
     try simp only [Act.put, pA, pB, pC]
     refine tq 6 ?_ rfl ?_ ?_
     rotate_left
     · (rintro w ⟨_, _⟩; go_simp; try with_reducible rfl)
     try simp only [Act.put, pA, pB, pC]
     refine tq 7 ?_ rfl ?_ ?_
     rotate_left
     · (rintro w ⟨_, _⟩; go_simp; try with_reducible rfl)
     try simp only [Act.put, pA, pB, pC]
     refine tq 8 ?_ rfl ?_ ?_
     rotate_left
     · (rintro w ⟨_, _⟩; go_simp; try with_reducible rfl)
     try simp only [Act.put, pA, pB, pC]
     refine wpAnyH_ready (rs := [5, 9]) (by kernel_rfl) (by simp) ?_
     refine AllReadyH.cons rfl (fun K hK => ?_) ?_
     ·
      ((first | (have hp0 := zaa (i := 0) HB.out.hp) | (have hp0 : (wc.alloc (.cells #[.int .i64 (lvl nx), .slice X.a nx X.k] 222)).cell? ⟨p, 0, none⟩ = some (.int .u64 ver) := zaa (i := 0) HA.out.hp) | (have hp0 := zaa (i := 0) HQ0.out.hp)); go_simp)
      refine hK.out _ _ ?_ (fun hH => ?_)
      · (try dsimp only); (exact hH)
      clear hK K
      refine rd 9 (by kernel_rfl) rfl (fun K hK => ?_)
      ·
       (go_simp; have HA := yyh (HQ0.out.al nx HX.out))
       refine hK.out _ _ ?_ (fun hH => ?_)
       · (try dsimp only); (exact zdy HA.out.ai.xh HX.out)
       clear hK K
       refine rd 10 (by kernel_rfl) rfl (fun K hK => ?_)
       ·
        (go_simp; go_at_call 236; refine (HQI.out _ _ HA.out).mono ?_; rintro e w10 ⟨v10, rfl, hQ2⟩; have HB := yyh hQ2; clear hQ2)
        refine hK.out _ _ ?_ (fun hH => ?_)
        · (try dsimp only); (exact zdy HB.out.xh HX.out)
        clear hK K
        refine rd 11 (by kernel_rfl) rfl (fun K hK => ?_)
        ·
         (go_simp; go_at_call 235; refine (HB.out.swap HV.out.1 HV.out.2 hNN).mono ?_; rintro e w11 ⟨rfl, hEnd, hxe⟩; have HC := yyh (yyi hEnd hxe); clear hEnd hxe)
         refine hK.out _ _ ?_ (fun hH => ?_)
         · (try dsimp only); (exact zdy HC.out.2 HX.out)
         clear hK K
         refine wpAnyH_done (by kernel_rfl) ?_ _
         go_wp2_with fail
         go_end0
         obtain ⟨v', bs2, e1, e2, e3, e4⟩ := HC.out.1
         exact ⟨rfl, v', bs2, e1, e2, e3, e4⟩
     refine AllReadyH.cons rfl (fun K hK => ?_) ?_
     ·
      (go_simp; have HA := yyh (HQ0.out.al nx HX.out))
      refine hK.out _ _ ?_ (fun hH => ?_)
      · (try dsimp only); (exact zdy HA.out.ai.xh HX.out)
      clear hK K
      refine wpAnyH_ready (rs := [5, 10]) (by kernel_rfl) (by simp) ?_
      refine AllReadyH.cons rfl (fun K hK => ?_) ?_
      ·
       ((first | (have hp0 := zaa (i := 0) HB.out.hp) | (have hp0 : (wc.alloc (.cells #[.int .i64 (lvl nx), .slice X.a nx X.k] 222)).cell? ⟨p, 0, none⟩ = some (.int .u64 ver) := zaa (i := 0) HA.out.hp) | (have hp0 := zaa (i := 0) HQ0.out.hp)); go_simp)
       refine hK.out _ _ ?_ (fun hH => ?_)
       · (try dsimp only); (exact hH)
       clear hK K
       refine rd 10 (by kernel_rfl) rfl (fun K hK => ?_)
       ·
        (go_simp; go_at_call 236; refine (HQI.out _ _ HA.out).mono ?_; rintro e w10 ⟨v10, rfl, hQ2⟩; have HB := yyh hQ2; clear hQ2)
        refine hK.out _ _ ?_ (fun hH => ?_)
        · (try dsimp only); (exact zdy HB.out.xh HX.out)
        clear hK K
        refine rd 11 (by kernel_rfl) rfl (fun K hK => ?_)
        ·
         (go_simp; go_at_call 235; refine (HB.out.swap HV.out.1 HV.out.2 hNN).mono ?_; rintro e w11 ⟨rfl, hEnd, hxe⟩; have HC := yyh (yyi hEnd hxe); clear hEnd hxe)
         refine hK.out _ _ ?_ (fun hH => ?_)
         · (try dsimp only); (exact zdy HC.out.2 HX.out)
         clear hK K
         refine wpAnyH_done (by kernel_rfl) ?_ _
         go_wp2_with fail
         go_end0
         obtain ⟨v', bs2, e1, e2, e3, e4⟩ := HC.out.1
         exact ⟨rfl, v', bs2, e1, e2, e3, e4⟩
      refine AllReadyH.cons rfl (fun K hK => ?_) ?_
      ·
       (go_simp; go_at_call 236; refine (HQI.out _ _ HA.out).mono ?_; rintro e w10 ⟨v10, rfl, hQ2⟩; have HB := yyh hQ2; clear hQ2)
       refine hK.out _ _ ?_ (fun hH => ?_)
       · (try dsimp only); (exact zdy HB.out.xh HX.out)
       clear hK K
       refine rd 5 (by kernel_rfl) rfl (fun K hK => ?_)
       ·
        ((first | (have hp0 := zaa (i := 0) HB.out.hp) | (have hp0 : (wc.alloc (.cells #[.int .i64 (lvl nx), .slice X.a nx X.k] 222)).cell? ⟨p, 0, none⟩ = some (.int .u64 ver) := zaa (i := 0) HA.out.hp) | (have hp0 := zaa (i := 0) HQ0.out.hp)); go_simp)
        refine hK.out _ _ ?_ (fun hH => ?_)
        · (try dsimp only); (exact hH)
        clear hK K
        refine rd 11 (by kernel_rfl) rfl (fun K hK => ?_)
        ·
         (go_simp; go_at_call 235; refine (HB.out.swap HV.out.1 HV.out.2 hNN).mono ?_; rintro e w11 ⟨rfl, hEnd, hxe⟩; have HC := yyh (yyi hEnd hxe); clear hEnd hxe)
         refine hK.out _ _ ?_ (fun hH => ?_)
         · (try dsimp only); (exact zdy HC.out.2 HX.out)
         clear hK K
         refine wpAnyH_done (by kernel_rfl) ?_ _
         go_wp2_with fail
         go_end0
         obtain ⟨v', bs2, e1, e2, e3, e4⟩ := HC.out.1
         exact ⟨rfl, v', bs2, e1, e2, e3, e4⟩
      exact AllReadyH.nil
     exact AllReadyH.nil
     -- REGION 12 END
section
variable (W : World) (p : Nat) (v : Value) (ver : Int) (bs : List Bk) (base g n k i : Nat)
structure DS (bs' : List Bk) (v3 : Value) (w : World) : Prop where
 own : zbt w base v3 bs'
 ins : ∀ b ∈ bs', zf9 w b
 hp : w.heap[p]? = some (.cells #[.int .u64 ver, v] 288 (0, 0))
 bel : Below W.heap.size W w
 lo : p < W.heap.size ∧ W.heap.size ≤ base
variable {W p v ver bs base g n k i} {w w' : World} {bs' : List Bk} {v3 : Value}
theorem DS.below (h : DS W p v ver base bs' v3 w) (hb : Below w.heap.size w w') : DS W p v ver base bs' v3 w' := ⟨zb3 h.own hb, fun b hm => (h.ins b hm).below hb, (hb.block _ (zac h.hp)).trans h.hp, zad hb h.bel, h.lo⟩
theorem DS.bks (h : DS W p v ver base bs' v3 w) : zch w v3 bs' := ⟨SlV.of_owns h.own, h.ins⟩
theorem DS.set (h : DS W p v ver base bs' (.slice (some ⟨g, 0, none⟩) n k) w) (hn : bs'.length = n) (hi : i < n) {L : List En} {a3 : Option Addr} {m k3 : Nat} (hL : L.length = m) (hE : zay w (.slice a3 m k3) L) (hs : zbh L) : (∃ u, w.cell? ⟨g, i * 2, none⟩ = some u) ∧ (∃ u, w.cell? ⟨g, i * 2 + 1, none⟩ = some u) ∧ w.frozen? ⟨g, i * 2, none⟩ = false ∧ w.frozen? ⟨g, i * 2 + 1, none⟩ = false ∧ DS W p v ver base (bs'.take i ++ [⟨L, a3, k3⟩] ++ bs'.drop (i + 1)) (.slice (some ⟨g, 0, none⟩) n k) ((w.setCell ⟨g, i * 2, none⟩ (.int .i64 (lvl m))).setCell ⟨g, i * 2 + 1, none⟩ (.slice a3 m k3)) := by
 subst hL
 have how := h.own
 unfold zbt at how
 rw [hn] at how
 have hle := (zlk how).1
 have hg := (World.ownsRow.lt how g rfl).1
 obtain ⟨hc, hf⟩ := zeh how
 have hset := ziw how (i * 2) (bkC ⟨L, a3, k3⟩) (by show i * 2 + 2 ≤ n * 2; omega)
 have e0 : w.setCells g (i * 2) (bkC ⟨L, a3, k3⟩) = (w.setCell ⟨g, i * 2, none⟩ (.int .i64 (lvl L.length))).setCell ⟨g, i * 2 + 1, none⟩ (.slice a3 L.length k3) := rfl
 rw [e0] at hset
 obtain ⟨ho, hF⟩ := hset
 have hb2 : (bkC ⟨L, a3, k3⟩).length = 2 := rfl
 rw [hb2, show i * 2 + 2 = (i + 1) * 2 from by omega, zcf, zcj, zgh, ← za9, ← za9] at ho
 obtain ⟨cur, hcur⟩ := zba how (c := g) rfl
 have hno : zj5 w (fun k => k = g) := fun k hk => ⟨cur, 222, by have hk' : k = g := hk; rw [hk']; exact hcur, by decide⟩
 refine ⟨Option.isSome_iff_exists.1 (hc (i * 2) (by omega)), Option.isSome_iff_exists.1 (hc (i * 2 + 1) (by omega)), hf _, hf _, ?_, fun b hb => ?_, (hF.block _ (zac h.hp) (fun e => by have e' : p = g := e; have := h.lo; omega)).trans h.hp, zfd h.bel (hF.mono (fun k hk => by have e' : k = g := hk; have := h.lo; omega)), h.lo⟩
 · unfold zbt
   rw [show (bs'.take i ++ [(⟨L, a3, k3⟩ : Bk)] ++ bs'.drop (i + 1)).length = n from by simp; omega]
   exact ho
 ·
  simp only [List.mem_append, List.mem_singleton] at hb
  rcases hb with (hb | rfl) | hb
  · exact (h.ins b (List.mem_of_mem_take hb)).frT hF hno
  · exact ⟨zay.frT hE hF hno, hs⟩
  · exact (h.ins b (List.mem_of_mem_drop hb)).frT hF hno
theorem DS.del {w3 : World} {v4 : Value} {bs2 : List Bk} (h : DS W p v ver base bs' v3 w) (ho : zbt w3 base v4 bs2) (hF : Fr (fun k => v3.ownBlock = some k) w w3) (hm : ∀ b ∈ bs2, b ∈ bs') : DS W p v ver base bs2 v4 w3 := by
 have hno : zj5 w (fun k => v3.ownBlock = some k) := fun k hk => by
  obtain ⟨cur, hc⟩ := zba h.own hk
  exact ⟨cur, _, hc, by decide⟩
 have hge : ∀ k, v3.ownBlock = some k → base ≤ k := fun k hk => (World.ownsRow.lt h.own k hk).1
 exact ⟨ho, fun b hb => (h.ins b (hm b hb)).frT hF hno, (hF.block _ (zac h.hp) (fun e => by have := hge _ e; have := h.lo; omega)).trans h.hp, zfd h.bel (hF.mono (fun k hk => by have := hge k hk; have := h.lo; omega)), h.lo⟩
def zvc (W : World) (p : Nat) (v : Value) (bs : List Bk) (id : Int) (w' : World) : Prop := ∃ v' bs2, zg5 w' p v' bs2 ∧ (zaq bs2).Perm (wo id (zaq bs)) ∧ (v' = v ∨ ∀ c, v'.ownBlock = some c → W.heap.size ≤ c) ∧ Fr (fun k => k = p) W w'
theorem DS.swap {id : Int} (h : DS W p v ver base bs' v3 w) (hv0 : 0 ≤ ver) (hvt : ver ≤ top) (hne : ∀ b ∈ bs', b.L ≠ []) (hp : (zaq bs').Perm (wo id (zaq bs))) (hN : (zaq bs).length ≤ NB) : Calls Tryz.prog 235 #[.pointer (some ⟨p, 0, none⟩), .int .u64 ver, v3] w fun e w' => e = .returned (.bool true) ∧ zvc W p v bs id w' := by
 refine (zxl hv0 hvt h.hp h.bks hne (by
  rw [hp.length_eq]
  have h1 : (wo id (zaq bs)).length ≤ (zaq bs).length := List.length_filter_le _ _
  unfold NB at hN
  omega)).mono ?_
 rintro e w' ⟨rfl, v', bs2, hS, hm, hge, hF⟩
 refine ⟨rfl, v', bs2, hS, ?_, .inr (fun c hc => Nat.le_trans h.bel.size (hge c hc)), (Fr.of_below h.bel).trans hF⟩
 rw [zf2 hm]
 exact hp
end
theorem zyz {W : World} {p : Nat} {v : Value} {bs : List Bk} (id : Int) (h : zg5 W p v bs) (hN : (zaq bs).length ≤ NB) (hnd : ((zaq bs).map (·.id)).Nodup) : Calls Tryz.prog 208 #[.pointer (some ⟨p, 0, none⟩), .int .i64 id] W fun e w' => e = .returned (.bool ((zaq bs).any fun x => x.id == id)) ∧ zvc W p v bs id w' := by
 obtain ⟨ver, hv0, hvt, hhdr⟩ := h.hdr
 obtain ⟨a, k, rfl, hk, hkm, hna⟩ := zix h.bks
 have hle := zck h.ne
 obtain ⟨n, hnn⟩ := yye (bs.length)
 obtain ⟨W2, hW2⟩ : ∃ W2, (W.alloc (.cells #[.int .i64 id] 3)).alloc (.cells #[.func (.func 254) #[] #[.pointer (some ⟨W.heap.size, 0, none⟩)]] 327) = W2 := ⟨_, rfl⟩
 have hst : (store ⟨W.heap.size + 1, 0, none⟩ (.func (.func 254) #[] #[.pointer (some ⟨W.heap.size, 0, none⟩)])).run Tryz.prog ((W.alloc (.cells #[.int .i64 id] 3)).alloc (.cells #[.nilFunc] 327)) = .ok () W2 := by rw [← hW2]; exact zmk W _ _ _
 have hB2 : Below W.heap.size W W2 := by rw [← hW2]; exact zab (zab yyr _) _
 have k0 : W2.heap[W.heap.size]? = some (.cells #[.int .i64 id] 3 (0, 0)) := by rw [← hW2]; exact zan (heap_alloc_new W _)
 have k1 : W2.heap[W.heap.size + 1]? = some (.cells #[.func (.func 254) #[] #[.pointer (some ⟨W.heap.size, 0, none⟩)]] 327 (0, 0)) := by rw [← hW2]; exact zax (by simp)
 have c0 : W2.cell? ⟨W.heap.size, 0, none⟩ = some (.int .i64 id) := zaa k0
 have c1 : W2.cell? ⟨W.heap.size + 1, 0, none⟩ = some (.func (.func 254) #[] #[.pointer (some ⟨W.heap.size, 0, none⟩)]) := zaa k1
 have hpl := zac hhdr
 have hh2 := (hB2.block _ hpl).trans hhdr
 obtain ⟨e0, e1, g0, g1⟩ := zao hh2
 have hL2 := h.below hB2
 have hI := zz2 (by unfold NB at hN; omega) (by unfold NB at hN; omega) hL2.bks (W.heap.size + 1) W.heap.size id c0 c1
 have H := yyh (yyi h (yyi hN (yyi hnd (yyi hv0 hvt))))
 have HB2 := yyh (yyi hB2 (yyi hh2 c0))
 have HNN := yyh hnn
 have hn19 : n ≤ 64 := by unfold NB at hN; omega
 rw [hnn] at hI hk hna e1
 have HI := yyh hI
 have HNA := yyh hna
 clear h hB2 k0 k1 hL2 hI hN hnd hnn hna hhdr hh2 hle hv0 hvt
 go_enter Tryz.func208, Tryz.ntmps208
 go_upto_region 2 with fail
 clear hW2 hst
 go_wp2_with fail
 refine HI.out.mono ?_
 rintro e w2 ⟨⟨r, rfl, hr⟩, hB⟩
 obtain ⟨h, hN, hnd, hv0, hvt⟩ := H.out
 have hBW := zad hB HB2.out.1
 rcases hr with ⟨rfl, hnone⟩ | ⟨i, hi, rfl, hyes, -⟩
 ·
  have hany : ((zaq bs).any fun x => x.id == id) = false := by
   rw [zgd, List.any_eq_false]
   intro b hb
   obtain ⟨j, hj, rfl⟩ := List.getElem_of_mem hb
   have := hnone j (by rw [← HNN.out]; exact hj)
   dsimp only at this
   rw [yyd, yyg hj] at this
   simpa using this
  have HE := yyh (yyi hany (yyi (h.below hBW) hBW))
  clear h hN hnd hBW hnone hany hB hv0 hvt
  go_wp2_with fail
  go_ret
  obtain ⟨hany, hS, hBB⟩ := HE.out
  exact ⟨by rw [hany]; rfl, _, bs, hS, by rw [zcw hany], .inl rfl, Fr.of_below hBB⟩
 ·
  have hib : i < bs.length := by rw [HNN.out]; exact hi
  obtain ⟨A1, hA1⟩ : ∃ b, bs[i]? = some b := ⟨_, yyg hib⟩
  have hyes : (A1.L.any fun x => x.id == id) = true := by
   dsimp only at hyes
   rw [yyd, hA1] at hyes
   exact hyes
  have hA1in := List.mem_of_getElem? hA1
  have hany : ((zaq bs).any fun x => x.id == id) = true := by rw [zgd, List.any_eq_true]; exact ⟨A1, hA1in, hyes⟩
  have hAl : A1.L.length ≤ NB := Nat.le_trans (zfr hA1in) hN
  have hwoP := zo3 hA1 hnd hyes
  have hS2 := h.below hBW
  have hC := zlb (W := w2) (by have := HNN.out; omega) hS2.bks.1 (zc5 bs)
  have hh2 := (hB.block _ (zac HB2.out.2.1)).trans HB2.out.2.1
  obtain ⟨y0, y1, -, -⟩ := zao hh2
  have hDS : ∀ v3 w3, zbt w3 w2.heap.size v3 bs → Below w2.heap.size w2 w3 → DS W p (.slice a bs.length k) ver w2.heap.size bs v3 w3 := fun v3 w3 ho hb => ⟨ho, fun b hm => (hS2.bks.2 b hm).below hb, (hb.block _ (zac hh2)).trans hh2, zad hb hBW, hpl, hBW.size⟩
  have hid2 := zae hB HB2.out.2.2
  rw [HNN.out] at hC y1
  have HC := yyh hC
  have HDS := yyh hDS
  have HX := yyh (yyi hany (yyi hA1 (yyi hAl (yyi hwoP (yyi hyes hid2)))))
  clear h hN hnd hany hA1 hAl hwoP hyes hid2 hC hDS hB hBW hS2 hh2 hA1in hib
  go_wp2_with fail
  refine HC.out.mono ?_
  rintro e w3 ⟨v3, rfl, ho3, hB3⟩
  have ho3' : zbt w3 w2.heap.size v3 bs := by unfold zbt; rw [HNN.out]; exact ho3
  have hD3 := HDS.out v3 w3 ho3' hB3
  obtain ⟨hany, hA1, hAl, hwoP, hyes, hid2⟩ := HX.out
  obtain ⟨g, k3, rfl, hle3, hkm3, -, -⟩ := zco ho3 (by omega)
  have hkz : (k3 : Int) ≤ 9223372036854775807 := by unfold maxLen at hkm3; omega
  have hA1in := List.mem_of_getElem? hA1
  have hid3 := zae hB3 hid2
  obtain ⟨ca0, ca1⟩ := hD3.bks.at i A1 hA1
  change w3.cell? _ = some (.slice A1.a A1.L.length A1.k) at ca1
  rw [Nat.zero_add] at ca0 ca1
  have hsh := zo0 (W := w3) (v := A1.v) (l := A1.L) (q := lvl A1.L.length) hAl (hD3.ins A1 hA1in).1 (fun x => x == id) 256 #[.pointer (some ⟨W.heap.size, 0, none⟩)] (enters_of Tryz.func256 (by kernel_rfl) rfl) (fun X x hX => zxh x W.heap.size id X (zae hX hid3))
  obtain ⟨m, hm⟩ : ∃ m, (wo id A1.L).length = m := ⟨_, rfl⟩
  obtain ⟨n1, hn1⟩ := yye (A1.L.length)
  have hsm : (zaj (wo id A1.L)).length = m := by rw [zam]; exact hm
  have hSH : Calls Tryz.prog 252 #[.agg #[.int .i64 (lvl n1), .slice A1.a n1 A1.k], .func (.func 256) #[] #[.pointer (some ⟨W.heap.size, 0, none⟩)]] w3 fun e w' => ∃ a3 k3, e = .returned (.agg #[.int .i64 (lvl m), .slice a3 m k3]) ∧ zay w' (.slice a3 m k3) (zaj (wo id A1.L)) ∧ Below w3.heap.size w3 w' := by
   rw [← hn1]
   refine hsh.mono ?_
   rintro e w' ⟨v', rfl, hE, -, hBs⟩
   obtain ⟨a3, k3, rfl, -⟩ := SlV.clip hE
   change zay w' (.slice a3 (zaj (wo id A1.L)).length k3) (zaj (wo id A1.L)) at hE
   rw [hsm] at hE
   refine ⟨a3, k3, ?_, hE, hBs⟩
   rw [show (A1.L.filter fun e => !(e.id == id)).length = m from hm, show (zaj (A1.L.filter fun e => !(e.id == id))).length = m from hsm]
   rfl
  have HSH := yyh hSH
  have HD3 := yyh hD3
  have HM := yyh (yyi hm hsm)
  have hin2 : (i : Int) < (n : Int) := by omega
  have hge0 : decide ((i : Int) < 0) = false := by simp
  rw [hn1] at ca0 ca1
  clear ho3 ho3' hD3 hB3 hany hA1 hAl hwoP hyes hid2 hA1in hid3 hsh hm hn1 hsm hSH
  go_wp2_with fail
  refine HSH.out.mono ?_
  rintro e w4 ⟨a4, k4, rfl, hE4, hB4⟩
  have hset := (HD3.out.below hB4).set HNN.out hi HM.out.2 hE4 (zbb _)
  obtain ⟨⟨uu0, z0⟩, ⟨uu1, z1⟩, z2, z3, hD5⟩ := hset
  obtain ⟨W5, hW5⟩ : ∃ W5, (w4.setCell ⟨g, i * 2, none⟩ (.int .i64 (lvl m))).setCell ⟨g, i * 2 + 1, none⟩ (.slice a4 m k4) = W5 := ⟨_, rfl⟩
  rw [hW5] at hD5
  obtain ⟨bs5, hbs5⟩ := yye (bs.take i ++ [(⟨zaj (wo id A1.L), a4, k4⟩ : Bk)] ++ bs.drop (i + 1))
  rw [hbs5] at hD5
  obtain ⟨hany, hA1, hAl, hwoP, hyes, hid2⟩ := HX.out
  have hli : (bs.take i).length = i := by rw [List.length_take, HNN.out]; omega
  have hx5 : bs5[i]? = some ⟨zaj (wo id A1.L), a4, k4⟩ := by
   rw [← hbs5, List.append_assoc, List.getElem?_append_right (by rw [hli]; exact yyn), hli]
   simp
  have hlen5 : bs5.length = n := by rw [← hbs5]; have := HNN.out; simp; omega
  obtain ⟨-, cx1⟩ := hD5.bks.at i _ hx5
  change W5.cell? _ = some (.slice a4 (zaj (wo id A1.L)).length k4) at cx1
  rw [HM.out.2, Nat.zero_add] at cx1
  have hP5 : (zaq bs5).Perm (wo id (zaq bs)) := by
   rw [hwoP, ← hbs5, zav, zav]
   refine List.Perm.append_right _ (List.Perm.append_left _ ?_)
   simp [zaq]
   exact za2 _
  obtain ⟨hS, hN, hnd, hv0, hvt⟩ := H.out
  by_cases hm0 : m = 0
  ·
   subst hm0
   have hw0 : wo id A1.L = [] := List.eq_nil_of_length_eq_zero HM.out.1
   have hDel := ziv hD5.own (by omega) i (by omega)
   have hsub : ∀ b ∈ bs5.take i ++ bs5.drop (i + 1), b ∈ bs5 := fun b hb => by
    rcases List.mem_append.1 hb with hb | hb
    · exact List.mem_of_mem_take hb
    · exact List.mem_of_mem_drop hb
   have hcut2 : bs5.take i ++ bs5.drop (i + 1) = bs.take i ++ bs.drop (i + 1) := by
    rw [← hbs5]
    congr 1
    · rw [List.append_assoc, List.take_append_of_le_length (by rw [hli]; exact yyn), List.take_of_length_le (by rw [hli]; exact yyn)]
    · have e1 : (bs.take i ++ [(⟨zaj (wo id A1.L), a4, k4⟩ : Bk)]).length = i + 1 := by rw [List.length_append, hli]; rfl
      rw [List.drop_append, e1, List.drop_of_length_le (by rw [e1]; exact yyn), Nat.sub_self]
      simp
   rw [hcut2] at hDel
   rw [hcut2] at hsub
   have hfin : ∀ v6 w6, zbt w6 w2.heap.size v6 (bs.take i ++ bs.drop (i + 1)) → Fr (fun c => (Value.slice (some ⟨g, 0, none⟩) n k3).ownBlock = some c) W5 w6 → (w6.cell? ⟨p, 0, none⟩ = some (.int .u64 ver) ∧ Calls Tryz.prog 235 #[.pointer (some ⟨p, 0, none⟩), .int .u64 ver, v6] w6 fun e w' => e = .returned (.bool true) ∧ zvc W p (.slice a bs.length k) bs id w') := fun v6 w6 ho hF => by
    have hD6 := hD5.del ho hF hsub
    refine ⟨zaa hD6.hp, hD6.swap hv0 hvt (fun b hb => ?_) ?_ hN⟩
    · rcases List.mem_append.1 hb with hb | hb
      · exact hS.ne b (List.mem_of_mem_take hb)
      · exact hS.ne b (List.mem_of_mem_drop hb)
    · rw [hwoP, hw0, List.append_nil, zav]
   have HDL := yyh hDel
   have HF := yyh hfin
   have HA := yyh hany
   have hwi : IntKind.i64.wrap ((i : Int) + 1) = (i : Int) + 1 := by rw [IntKind.wrap_i64]; omega
   clear hany hA1 hAl hwoP hyes hid2 hx5 hlen5 hP5 hS hN hnd hv0 hvt hw0 hDel hcut2 hsub hfin hD5 hbs5 hE4 hB4 hli
   go_wp2_with fail
   refine HDL.out.mono ?_
   rintro e w6 ⟨v6, rfl, ho6, hF6, -⟩
   obtain ⟨q0, hsw⟩ := HF.out v6 w6 ho6 hF6
   obtain ⟨a6, k6, rfl, -⟩ := SlV.clip (SlV.of_owns ho6)
   obtain ⟨q5, hq5⟩ : ∃ q, (bs.take i ++ bs.drop (i + 1)).length = q := ⟨_, rfl⟩
   rw [hq5] at hsw ⊢
   have HSW := yyh hsw
   clear hsw ho6 hF6 hq5
   go_wp2_with fail
   refine HSW.out.mono ?_
   rintro e w7 ⟨rfl, hE⟩
   have HE := yyh hE
   clear hE
   go_wp2_with fail
   go_ret
   exact ⟨by rw [HA.out]; rfl, HE.out⟩
  ·
   have gm : ((m : Int) == 0) = false := by rw [beq_eq_false_iff_ne]; omega
   have hsw := hD5.swap hv0 hvt (fun b hb => by
    rw [← hbs5] at hb
    simp only [List.mem_append, List.mem_singleton] at hb
    rcases hb with (hb | rfl) | hb
    · exact hS.ne b (List.mem_of_mem_take hb)
    ·
     intro e
     have e' := congrArg List.length e
     rw [HM.out.2] at e'
     exact hm0 e'
    · exact hS.ne b (List.mem_of_mem_drop hb)) hP5 hN
   have q0 : W5.cell? ⟨p, 0, none⟩ = some (.int .u64 ver) := zaa hD5.hp
   have HSW := yyh hsw
   have HA := yyh hany
   clear hany hA1 hAl hwoP hyes hid2 hx5 hlen5 hP5 hS hN hnd hv0 hvt hsw hD5 hbs5 hE4 hB4 hli
   go_wp2_with fail
   refine HSW.out.mono ?_
   rintro e w7 ⟨rfl, hE⟩
   have HE := yyh hE
   clear hE
   go_wp2_with fail
   go_ret
   exact ⟨by rw [HA.out]; rfl, HE.out⟩
structure Slt where
 e : En
 full : Bool
 ver : Int
def zrz (s : Slt) : List Value := [.int .u64 s.e.key, .int .i64 s.e.id, .bool s.full, .int .u64 s.ver]
def zfs (l : List Slt) : List Value := l.flatMap zrz
def zxr : Slt := ⟨⟨0, 0⟩, false, 0⟩
theorem zc0 (s : Slt) (l : List Slt) : zfs (s :: l) = zrz s ++ zfs l := rfl
theorem zkb (l : List Slt) : (zfs l).length = l.length * 4 := by
 induction l with
 | nil => rfl
 | cons e l ih => rw [zc0, List.length_append, ih, List.length_cons]; show 4 + _ = _; omega
theorem zr0 (l : List Slt) (t : Nat) (s : Slt) (h : l[t]? = some s) : (zfs l)[t * 4]? = some (.int .u64 s.e.key) ∧ (zfs l)[t * 4 + 1]? = some (.int .i64 s.e.id) ∧ (zfs l)[t * 4 + 2]? = some (.bool s.full) ∧ (zfs l)[t * 4 + 3]? = some (.int .u64 s.ver) := by
 induction l generalizing t with
 | nil => cases h
 | cons e l ih =>
  cases t with
  | zero =>
   obtain rfl : e = s := by simpa using h
   exact ⟨rfl, rfl, rfl, rfl⟩
  | succ t =>
   have := ih t (by simpa using h)
   rw [zc0]
   have e4 : (zrz e).length = 4 := rfl
   rw [show (t + 1) * 4 = 4 + t * 4 from by omega, List.getElem?_append_right (by rw [e4]; omega), List.getElem?_append_right (by rw [e4]; omega), List.getElem?_append_right (by rw [e4]; omega), List.getElem?_append_right (by rw [e4]; omega), e4]
   rw [show 4 + t * 4 - 4 = t * 4 from by omega, show 4 + t * 4 + 1 - 4 = t * 4 + 1 from by omega, show 4 + t * 4 + 2 - 4 = t * 4 + 2 from by omega, show 4 + t * 4 + 3 - 4 = t * 4 + 3 from by omega]
   exact this
theorem zpc (l : List Slt) (t : Nat) (s : Slt) (h : t < l.length) : (zfs l).take (t * 4) ++ zrz s ++ (zfs l).drop (t * 4 + 4) = zfs (l.set t s) := by
 induction l generalizing t with
 | nil => cases h
 | cons e l ih =>
  have e4 : (zrz e).length = 4 := rfl
  cases t with
  | zero =>
   rw [zc0, List.set_cons_zero, zc0, Nat.zero_mul, List.take_zero, Nat.zero_add, List.drop_left' e4]
   rfl
  | succ t =>
   rw [List.set_cons_succ, zc0, zc0, ← ih t (by simpa using h)]
   rw [List.take_append, List.drop_append, e4, show (t + 1) * 4 - 4 = t * 4 from by omega, show (t + 1) * 4 + 4 - 4 = t * 4 + 4 from by omega, List.take_of_length_le (by rw [e4]; omega), List.drop_of_length_le (l := zrz e) (by rw [e4]; omega)]
   simp
theorem zhu {W : World} {g : Nat} {t : TypeId} {F : List Value} (h : W.heap[g]? = some (.cells F.toArray t (0, 0))) (off : Nat) (vs : List Value) (hl : off + vs.length ≤ F.length) : (W.setCells g off vs).heap[g]? = some (.cells (F.take off ++ vs ++ F.drop (off + vs.length)).toArray t (0, 0)) ∧ Fr (fun k => k = g) W (W.setCells g off vs) ∧ (W.setCells g off vs).heap.size = W.heap.size := by
 obtain ⟨cur', e1, e2, e3, e4, e5, e6, e7⟩ := zcd g t vs off W F.toArray h (by simpa using hl)
 refine ⟨?_, e6, e7⟩
 have hto : (F.take off).length = off := by rw [List.length_take]; omega
 have hL : cur'.toList = F.take off ++ vs ++ F.drop (off + vs.length) := by
  apply List.ext_getElem?
  intro j
  rw [Array.getElem?_toList, List.append_assoc]
  by_cases h1 : j < off
  · rw [e3 j h1, List.getElem?_append_left (by omega), List.getElem?_take, if_pos h1]
    simp
  ·
   rw [List.getElem?_append_right (by omega), hto]
   by_cases h2 : j < off + vs.length
   · have := e4 (j - off) (by omega)
     rw [show off + (j - off) = j from by omega] at this
     rw [this, List.getElem?_append_left (by omega)]
   · rw [e5 j (by omega), List.getElem?_append_right (by omega), List.getElem?_drop]
     rw [show off + vs.length + (j - off - vs.length) = j from by omega]
     simp
 rw [e1, ← hL]
structure zey (W : World) (p g : Nat) (ss : List Slt) : Prop where
 hdr : W.heap[p]? = some (.cells #[.slice (some ⟨g, 0, none⟩) ss.length ss.length] 211 (0, 0))
 row : W.heap[g]? = some (.cells (zfs ss).toArray 213 (0, 0))
 len : 1 ≤ ss.length ∧ ss.length ≤ 8
 vers : ∀ s ∈ ss, 0 ≤ s.ver ∧ s.ver ≤ top
section
variable {W W' : World} {p g : Nat} {ss : List Slt}
theorem zey.below (h : zey W p g ss) (hb : Below W.heap.size W W') : zey W' p g ss := ⟨(hb.block _ (zac h.hdr)).trans h.hdr, (hb.block _ (zac h.row)).trans h.row, h.len, h.vers⟩
theorem zey.fr {S : Nat → Prop} (h : zey W p g ss) (f : Fr S W W') (hp : ¬ S p) (hg : ¬ S g) : zey W' p g ss := ⟨(f.block _ (zac h.hdr) hp).trans h.hdr, (f.block _ (zac h.row) hg).trans h.row, h.len, h.vers⟩
theorem zey.ne (h : zey W p g ss) : p ≠ g := fun e => by
 have h1 := h.hdr
 rw [e, h.row] at h1
 injection h1 with h1
 injection h1 with _ h1
 cases h1
theorem zey.hcell (h : zey W p g ss) : W.cell? ⟨p, 0, none⟩ = some (.slice (some ⟨g, 0, none⟩) ss.length ss.length) := zaa h.hdr
theorem zey.cells (h : zey W p g ss) {t : Nat} {s : Slt} (ht : ss[t]? = some s) : W.cell? ⟨g, t * 4, none⟩ = some (.int .u64 s.e.key) ∧ W.cell? ⟨g, t * 4 + 1, none⟩ = some (.int .i64 s.e.id) ∧ W.cell? ⟨g, t * 4 + 2, none⟩ = some (.bool s.full) ∧ W.cell? ⟨g, t * 4 + 3, none⟩ = some (.int .u64 s.ver) := by
 obtain ⟨a, b, c, d⟩ := zr0 ss t s ht
 exact ⟨by rw [zaa h.row]; simpa using a, by rw [zaa h.row]; simpa using b, by rw [zaa h.row]; simpa using c, by rw [zaa h.row]; simpa using d⟩
theorem zey.free (h : zey W p g ss) (i : Nat) : W.frozen? ⟨g, i, none⟩ = false := za5 h.row
theorem zey.set (h : zey W p g ss) {t : Nat} (ht : t < ss.length) (s : Slt) (hv : 0 ≤ s.ver ∧ s.ver ≤ top) : zey ((((W.setCell ⟨g, t * 4, none⟩ (.int .u64 s.e.key)).setCell ⟨g, t * 4 + 1, none⟩ (.int .i64 s.e.id)).setCell ⟨g, t * 4 + 2, none⟩ (.bool s.full)).setCell ⟨g, t * 4 + 3, none⟩ (.int .u64 s.ver)) p g (ss.set t s) ∧ Fr (fun k => k = g) W ((((W.setCell ⟨g, t * 4, none⟩ (.int .u64 s.e.key)).setCell ⟨g, t * 4 + 1, none⟩ (.int .i64 s.e.id)).setCell ⟨g, t * 4 + 2, none⟩ (.bool s.full)).setCell ⟨g, t * 4 + 3, none⟩ (.int .u64 s.ver)) := by
 obtain ⟨h1, h2, h3⟩ := zhu h.row (t * 4) (zrz s) (by rw [zkb]; show t * 4 + 4 ≤ _; omega)
 have e0 : W.setCells g (t * 4) (zrz s) = (((W.setCell ⟨g, t * 4, none⟩ (.int .u64 s.e.key)).setCell ⟨g, t * 4 + 1, none⟩ (.int .i64 s.e.id)).setCell ⟨g, t * 4 + 2, none⟩ (.bool s.full)).setCell ⟨g, t * 4 + 3, none⟩ (.int .u64 s.ver) := rfl
 rw [e0] at h1 h2
 have e4 : (zrz s).length = 4 := rfl
 rw [e4, zpc _ _ _ ht] at h1
 refine ⟨⟨?_, h1, by rw [List.length_set]; exact h.len, fun x hx => ?_⟩, h2⟩
 · rw [List.length_set]
   exact (h2.block _ (zac h.hdr) h.ne).trans h.hdr
 · rcases List.mem_or_eq_of_mem_set hx with hx | rfl
   · exact h.vers x hx
   · exact hv
theorem zlm (h : zey W p g ss) (t : Nat) (ht : t < ss.length) : Calls Tryz.prog 178 #[.pointer (some ⟨p, 0, none⟩), .int .i64 t] W fun e w' => e = .returned (.pointer (some ⟨g, t * 4, none⟩)) ∧ W = w' := by
 have c0 := h.hcell
 have hl := h.len
 clear h
 generalize ss.length = n at *
 have h1 : decide ((t : Int) < 0) = false := by simp
 have h2 : decide ((t : Int) ≥ (n : Int)) = false := by rw [decide_eq_false_iff_not]; omega
 have h3 : (t : Int) < (n : Int) := by omega
 go_enter Tryz.func178, Tryz.ntmps178
 go_wp2_with fail
 go_ret
 exact ⟨by simp, rfl⟩
def vnx (v : Int) : Int := IntKind.u64.wrap (v + 1)
theorem zta (v : Int) : 0 ≤ vnx v ∧ vnx v ≤ top := by unfold vnx top; rw [IntKind.wrap_u64]; omega
theorem zr1 (h : zey W p g ss) (t : Nat) (s : Slt) (hs : ss[t]? = some s) (hf : s.full = false) (e : En) : Calls Tryz.prog 130 #[.pointer (some ⟨p, 0, none⟩), .int .i64 t, enV e] W fun r w' => r = .returned (.int .i64 0) ∧ zey w' p g (ss.set t ⟨e, true, vnx s.ver⟩) ∧ Fr (fun k => k = g) W w' := by
 have ht : t < ss.length := (yyk.1 hs).1
 obtain ⟨W1, hW1⟩ := yye (W.alloc (.cells #[.int .u64 e.key, .int .i64 e.id] 63))
 have hB1 : Below W.heap.size W W1 := by rw [← hW1]; exact zab yyr _
 obtain ⟨xb, hxb⟩ := yye (W.heap.size)
 have hx1 : W1.heap[xb]? = some (.cells #[.int .u64 e.key, .int .i64 e.id] 63 (0, 0)) := by rw [← hW1, ← hxb]; exact heap_alloc_new W _
 have h1 := h.below hB1
 have HA := yyh (zlm h1 t ht)
 have h1d := h1.below (zaf yyr)
 obtain ⟨c0, c1, c2, c3⟩ := h1.cells hs
 obtain ⟨d0, d1, d2, d3⟩ := h1d.cells hs
 have x1d : W1.drew.heap[xb]? = some (.cells #[.int .u64 e.key, .int .i64 e.id] 63 (0, 0)) := hx1
 obtain ⟨x0, x1, -, -⟩ := zao x1d
 obtain ⟨x2, x3, -, -⟩ := zao hx1
 have f0 := h1.free
 have HS := yyh (yyi h1d (yyi ht hB1))
 rw [hf] at c2 d2
 unfold enV
 clear h h1 h1d hB1 hx1 x1d
 go_enter Tryz.func130, Tryz.ntmps130
 go_wp2_with fail
 refine HA.out.mono ?_
 rintro e1 w1 ⟨rfl, rfl⟩
 go_upto_region 6 with fail
 refine wp_region_still_tail 8 (by kernel_rfl) (by kernel_rfl) ?_
 simp only [List.take_succ_cons, List.take_zero, List.drop_succ_cons, List.drop_zero]
 iterate 8 still_step
 refine wpStill_nil ?_
 change wpList _ _ _ _ _ W1.drew
 have f0 : ∀ (i : Nat), W1.drew.frozen? ⟨g, i, none⟩ = false := HS.out.1.free
 go_wp2_with fail
 go_ret
 obtain ⟨h1d, ht, hB1⟩ := HS.out
 obtain ⟨k1, k2⟩ := h1d.set ht ⟨e, true, vnx s.ver⟩ (zta _)
 exact ⟨rfl, k1, (Fr.of_below hB1).trans ((Fr.refl _ W1).dr.trans k2)⟩
end
theorem Fr.low {S : Nat → Prop} {W W' : World} (f : Fr (fun k => S k ∨ W.heap.size ≤ k) W W') : Fr S W W' := ⟨f.os, f.tape, f.output, f.size, fun k hk hn => f.block k hk (fun e => by rcases e with e | e; exact hn e; omega)⟩
section
variable {W W' : World} {p g : Nat} {ss : List Slt}
theorem zmo (h : zey W p g ss) (t : Nat) (s : Slt) (hs : ss[t]? = some s) : Calls Tryz.prog 172 #[.pointer (some ⟨p, 0, none⟩), .int .i64 t] W fun r w' => r = .returned (.tuple #[enV s.e, .int .u64 s.ver, .bool s.full]) ∧ Below W.heap.size W w' := by
 have ht : t < ss.length := (yyk.1 hs).1
 obtain ⟨W1, hW1⟩ := yye (W.alloc (.cells #[.int .u64 0, .int .i64 0] 63))
 have hB1 : Below W.heap.size W W1 := by rw [← hW1]; exact zab yyr _
 obtain ⟨xb, hxb⟩ := yye (W.heap.size)
 have hx1 : W1.heap[xb]? = some (.cells #[.int .u64 0, .int .i64 0] 63 (0, 0)) := by rw [← hW1, ← hxb]; exact heap_alloc_new W _
 have h1 := h.below hB1
 have HA := yyh (zlm h1 t ht)
 have h1d := h1.below (zaf yyr)
 obtain ⟨d0, d1, d2, d3⟩ := h1d.cells hs
 have x1d : W1.drew.heap[xb]? = some (.cells #[.int .u64 0, .int .i64 0] 63 (0, 0)) := hx1
 obtain ⟨x0, x1, x2, x3⟩ := zao x1d
 obtain ⟨y0, y1, y2, y3⟩ := zao hx1
 obtain ⟨b0, b1, b2, b3⟩ := h1.cells hs
 have HS := yyh (yyi hB1 hxb)
 have hgx : ¬ g = xb := by have := zac h.row; omega
 have hxg : ¬ xb = g := fun e => hgx e.symm
 clear h h1 h1d hB1 hx1 x1d
 go_enter Tryz.func172, Tryz.ntmps172
 go_wp2_with fail
 refine HA.out.mono ?_
 rintro e1 w1 ⟨rfl, rfl⟩
 go_upto_region 4 with fail
 go_region
 all_goals
  go_wp2_with fail
  refine bodyPost_ret (v := .tuple #[.agg #[.int .u64 s.e.key, .int .i64 s.e.id], .int .u64 s.ver, .bool s.full]) (by simp [results, Tryz.results172, go_sem, x0, x1, y0, y1]) rfl ?_
  obtain ⟨hB1, hxb⟩ := HS.out
  exact ⟨rfl, zaf (zak (zak hB1 _ _ _ (by omega)) _ _ _ (by omega))⟩
theorem znu (m : Nat) (h1 : 1 ≤ m) (h8 : m ≤ 8) (W : World) : (Instr.makeSlice 209 (.int .i64 (m : Int)) (.int .i64 (m : Int))).run Tryz.prog W = .ok (.slice (some ⟨W.heap.size, 0, none⟩) m m) (W.alloc (.cells (zfs (List.replicate m zxr)).toArray 213)) := by
 rcases (show m = 1 ∨ m = 2 ∨ m = 3 ∨ m = 4 ∨ m = 5 ∨ m = 6 ∨ m = 7 ∨ m = 8 from by omega) with rfl | rfl | rfl | rfl | rfl | rfl | rfl | rfl <;> kernel_rfl
theorem zr2 (T : Nat) (h1 : 1 ≤ T) (h8 : T ≤ 8) (W : World) : Calls Tryz.prog 161 #[.int .i64 T] W fun e w' => ∃ p g, e = .returned (.tuple #[.pointer (some ⟨p, 0, none⟩), .int .i64 0]) ∧ zey w' p g (List.replicate T zxr) ∧ W.heap.size ≤ p ∧ W.heap.size ≤ g ∧ Below W.heap.size W w' := by
 have g1 : decide ((T : Int) < 1) = false := by rw [decide_eq_false_iff_not]; omega
 have g2 : decide ((T : Int) > 8) = false := by rw [decide_eq_false_iff_not]; omega
 have hmk := znu T h1 h8
 obtain ⟨F, hF⟩ : ∃ F, (zfs (List.replicate T zxr)).toArray = F := ⟨_, rfl⟩
 rw [hF] at hmk
 have HF := yyh hF
 clear hF
 go_enter Tryz.func161, Tryz.ntmps161
 go_wp2_with fail
 go_ret2
 refine ⟨W.heap.size + 1, W.heap.size, rfl, ⟨?_, ?_, by rw [List.length_replicate]; omega, fun s hs => ?_⟩, ?_, ?_, zab (zab yyr _) _⟩
 · rw [List.length_replicate]
   exact zax (by simp)
 · rw [HF.out]
   exact zan (heap_alloc_new W _)
 · rw [List.eq_of_mem_replicate hs]
   exact ⟨by decide, by unfold top; decide⟩
 · simp
 · simp
theorem znv (h : zey W p g ss) (t : Nat) (s : Slt) (hs : ss[t]? = some s) : Calls Tryz.prog 226 #[.pointer (some ⟨g, t * 4, none⟩)] W fun r w' => r = .returned (enV s.e) ∧ zey w' p g (ss.set t ⟨⟨0, 0⟩, false, vnx s.ver⟩) ∧ Fr (fun k => k = g) W w' := by
 have ht : t < ss.length := (yyk.1 hs).1
 obtain ⟨W2, hW2⟩ : ∃ W2, (W.alloc (.cells #[.int .u64 0, .int .i64 0] 63)).alloc (.cells #[.int .u64 s.e.key, .int .i64 s.e.id] 63) = W2 := ⟨_, rfl⟩
 have hB2 : Below W.heap.size W W2 := by rw [← hW2]; exact zab (zab yyr _) _
 have h2 := h.below hB2
 obtain ⟨k1, k2⟩ := h2.set ht ⟨⟨0, 0⟩, false, vnx s.ver⟩ (zta _)
 have hB1 : Below W.heap.size W (W.alloc (.cells #[.int .u64 0, .int .i64 0] 63)) := zab yyr _
 obtain ⟨b0, b1, b2, b3⟩ := (h.below hB1).cells hs
 obtain ⟨d0, d1, d2, d3⟩ := h2.cells hs
 have f0 := h2.free
 have hgl := zac h.row
 obtain ⟨xb, hxb⟩ := yye (W.heap.size)
 have hr : W2.heap[xb]? = some (.cells #[.int .u64 0, .int .i64 0] 63 (0, 0)) := by rw [← hW2, ← hxb]; exact zan (heap_alloc_new W _)
 have he : W2.heap[xb + 1]? = some (.cells #[.int .u64 s.e.key, .int .i64 s.e.id] 63 (0, 0)) := by rw [← hW2]; exact zax (by simp [← hxb])
 have hpl := zac h.hdr
 have HS := yyh (yyi k1 (yyi k2 (yyi hB2 (yyi hxb hgl))))
 have HR := yyh (yyi hr he)
 clear h h2 hB2 hB1 k1 k2 hr he
 go_enter Tryz.func226, Tryz.ntmps226
 go_upto_region 2 with fail
 clear hW2
 go_upto_region 3 with fail
 obtain ⟨W3, hW3⟩ : ∃ W3, (((W2.setCell ⟨g, t * 4, none⟩ (.int .u64 0)).setCell ⟨g, t * 4 + 1, none⟩ (.int .i64 0)).setCell ⟨g, t * 4 + 2, none⟩ (.bool false)).setCell ⟨g, t * 4 + 3, none⟩ (.int .u64 (IntKind.u64.wrap (s.ver + 1))) = W3 := ⟨_, rfl⟩
 rw [hW3]
 have hk := HS.out
 have hk1 : zey W3 p g (ss.set t ⟨⟨0, 0⟩, false, vnx s.ver⟩) := by rw [← hW3]; exact hk.1
 have hk2 : Fr (fun k => k = g) W2 W3 := by rw [← hW3]; exact hk.2.1
 obtain ⟨-, -, hB2, hxb', hgl'⟩ := hk
 have hr3 := (hk2.block _ (zac HR.out.1) (fun e => by have e' : xb = g := e; omega)).trans HR.out.1
 have he3 := (hk2.block _ (zac HR.out.2) (fun e => by have e' : xb + 1 = g := e; omega)).trans HR.out.2
 obtain ⟨x0, x1, x2, x3⟩ := zao hr3
 obtain ⟨y0, y1, y2, y3⟩ := zao he3
 have HK := yyh (yyi hk1 (yyi hk2 (yyi hB2 (yyi hxb' hgl'))))
 clear hW3 hk1 hk2 hB2 hr3 he3 d0 d1 d2 d3 b0 b1 b2 b3 f0 hxb hxb'
 go_wp2_with fail
 refine bodyPost_ret (v := .agg #[.int .u64 s.e.key, .int .i64 s.e.id]) (by simp [results, Tryz.results226, go_sem, x0, x1, y0, y1]) rfl ?_
 obtain ⟨hk1, hk2, hB2, hxb', hgl'⟩ := HK.out
 have hF : Fr (fun k => k = xb) W3 ((W3.setCell ⟨xb, 0, none⟩ (.int .u64 s.e.key)).setCell ⟨xb, 1, none⟩ (.int .i64 s.e.id)) := (Fr.set (S := fun k => k = xb) (Fr.refl _ _) (p := ⟨xb, 0, none⟩) rfl _).trans (Fr.set (S := fun k => k = xb) (Fr.refl _ _) (p := ⟨xb, 1, none⟩) rfl _)
 refine ⟨rfl, hk1.fr hF (fun e => by have e' : p = xb := e; omega) (fun e => by have e' : g = xb := e; omega), Fr.low ?_⟩
 exact ((Fr.of_below hB2).trans (hk2.mono (fun k hk => .inl hk))).trans (hF.mono (fun k hk => .inr (by have e' : k = xb := hk; omega)))
end
section
variable {W W' : World} {p g : Nat} {ss : List Slt}
theorem zkc (h : zey W p g ss) (t : Nat) (s : Slt) (hs : ss[t]? = some s) (hf : s.full = true) : Calls Tryz.prog 173 #[.pointer (some ⟨p, 0, none⟩), .int .i64 t, .int .u64 s.ver] W fun r w' => r = .returned (.tuple #[enV s.e, .bool true]) ∧ zey w' p g (ss.set t ⟨⟨0, 0⟩, false, vnx s.ver⟩) ∧ Fr (fun k => k = g) W w' := by
 have ht : t < ss.length := (yyk.1 hs).1
 obtain ⟨W1, hW1⟩ := yye (W.alloc (.cells #[.int .u64 0, .int .i64 0] 63))
 have hB1 : Below W.heap.size W W1 := by rw [← hW1]; exact zab yyr _
 obtain ⟨xb, hxb⟩ := yye (W.heap.size)
 have hx1 : W1.heap[xb]? = some (.cells #[.int .u64 0, .int .i64 0] 63 (0, 0)) := by rw [← hW1, ← hxb]; exact heap_alloc_new W _
 have h1 := h.below hB1
 have HA := yyh (zlm h1 t ht)
 have HE := yyh (znv h1 t s hs)
 obtain ⟨b0, b1, b2, b3⟩ := h1.cells hs
 rw [hf] at b2
 have hgl := zac h.row
 have hpl := zac h.hdr
 have HS := yyh (yyi hB1 (yyi hxb (yyi hx1 (yyi hgl hpl))))
 have e0 : (s.ver != s.ver) = false := by simp
 clear h h1 hB1 hx1
 go_enter Tryz.func173, Tryz.ntmps173
 go_wp2_with fail
 refine HA.out.mono ?_
 rintro e1 w1 ⟨rfl, rfl⟩
 go_wp2_with fail
 refine HE.out.mono ?_
 rintro e2 w2 ⟨rfl, hS2, hF2⟩
 obtain ⟨hB1, hxb', hx1, hgl', hpl'⟩ := HS.out
 have hx2 := (hF2.block _ (zac hx1) (fun e => by have e' : xb = g := e; omega)).trans hx1
 obtain ⟨x0, x1, x2, x3⟩ := zao hx2
 have HK := yyh (yyi hS2 (yyi hF2 hB1))
 clear hS2 hF2 hB1 hx1 hx2 hxb'
 unfold enV
 go_wp2_with fail
 refine bodyPost_ret (v := .tuple #[.agg #[.int .u64 s.e.key, .int .i64 s.e.id], .bool true]) (by simp [results, Tryz.results173, go_sem, x0, x1]) rfl ?_
 obtain ⟨hS2, hF2, hB1⟩ := HK.out
 have hF : Fr (fun k => k = xb) w2 ((w2.setCell ⟨xb, 0, none⟩ (.int .u64 s.e.key)).setCell ⟨xb, 1, none⟩ (.int .i64 s.e.id)) := (Fr.set (S := fun k => k = xb) (Fr.refl _ _) (p := ⟨xb, 0, none⟩) rfl _).trans (Fr.set (S := fun k => k = xb) (Fr.refl _ _) (p := ⟨xb, 1, none⟩) rfl _)
 refine ⟨rfl, hS2.fr hF (fun e => by have e' : p = xb := e; omega) (fun e => by have e' : g = xb := e; omega), Fr.low ?_⟩
 exact ((Fr.of_below hB1).trans (hF2.mono (fun k hk => .inl hk))).trans (hF.mono (fun k hk => .inr (by have e' : k = xb := hk; omega)))
def slE (l : List Slt) : List En := (l.filter (·.full)).map (·.e)
theorem zr3 (l : List Slt) (i : Nat) (s : Slt) (h : l[i]? = some s) : slE (l.take (i + 1)) = slE (l.take i) ++ if s.full then [s.e] else [] := by
 unfold slE
 rw [List.take_add_one, h, List.filter_append, List.map_append]
 congr 1
 cases hf : s.full <;> simp [hf]
theorem zpd (l : List Slt) : (slE l).length ≤ l.length := by
 unfold slE
 rw [List.length_map]
 exact List.length_filter_le _ _
theorem zmp (h : zey W p g ss) : Calls Tryz.prog 91 #[.pointer (some ⟨p, 0, none⟩)] W fun r w' => ∃ v', r = .returned v' ∧ zay w' v' (slE ss) ∧ (∀ c, v'.ownBlock = some c → W.heap.size ≤ c) ∧ Below W.heap.size W w' := by
 have c0 := h.hcell
 obtain ⟨n, hn⟩ := yye (ss.length)
 rw [hn] at c0
 have HN := yyh hn
 have H := yyh h
 have hn8 : n ≤ 8 := by rw [← hn]; exact h.len.2
 clear h hn
 go_enter Tryz.func91, Tryz.ntmps91
 go_wp2_with fail
 go_loopg [3, 11] n (fun gg v3 v11 wr => ∃ i : Nat, i ≤ n ∧ gg = n - i ∧ v11 = .int .i64 i ∧ Aside (zb0 wr W.heap.size v3 (slE (ss.take i)) ∧ Below W.heap.size W wr))
 case atStart => exact ⟨0, by omega, by omega, rfl, (show Aside _ from ⟨zb0.nil _ _, yyr⟩)⟩
 case round =>
  obtain ⟨i, hi, rfl, rfl, A⟩ := hrel
  obtain ⟨hO, hB⟩ := A.out
  clear A
  by_cases hlt : i < n
  ·
   obtain ⟨s, hs⟩ : ∃ s, ss[i]? = some s := ⟨_, yyg (by rw [HN.out]; exact hlt)⟩
   obtain ⟨d0, d1, d2, d3⟩ := (H.out.below hB).cells hs
   have hT := zr3 ss i s hs
   have hl := zpd (ss.take i)
   rw [List.length_take] at hl
   have hll : (slE (ss.take i)).length ≤ 8 := by omega
   have HT := yyh hT
   have HOB := yyh (yyi hO (yyi hB hll))
   clear hT hO hB hl hll
   have hin : (i : Int) < (n : Int) := by omega
   cases hf : s.full with
   | false =>
    rw [hf] at d2
    go_wp2_with fail
    go_roundg (n - (i + 1))
    case measure => omega
    case rel =>
     have hb : Below wr.heap.size wr _ := zab (Below.refl wr.heap.size wr) (.cells #[.int .u64 s.e.key, .int .i64 s.e.id, .bool false, .int .u64 s.ver] 213)
     exact ⟨i + 1, by omega, rfl, by go_num, (show Aside _ from ⟨by rw [HT.out, hf]; simpa using zb0.below HOB.out.1 hb, zad hb HOB.out.2.1⟩)⟩
   | true =>
    rw [hf] at d2
    have hb2 : Below wr.heap.size wr ((wr.alloc (.cells #[.int .u64 s.e.key, .int .i64 s.e.id, .bool true, .int .u64 s.ver] 213)).alloc (.cells #[.int .u64 s.e.key, .int .i64 s.e.id] 63)) := zab (zab yyr _) _
    have HO3 := yyh (zb0.below HOB.out.1 hb2)
    have HB3 := yyh (yyi hb2 (zad hb2 HOB.out.2.1))
    have HONE := yyh (zay.one (wr.alloc (.cells #[.int .u64 s.e.key, .int .i64 s.e.id, .bool true, .int .u64 s.ver] 213)) s.e (wr.heap.size + 1) (by simp))
    clear hb2
    go_wp2_with (at_builtin; go_loud (refine za3 rfl (.tmp 17) (.tmp 20) rfl W.heap.size _ _ rfl HO3.out _ [s.e] rfl HONE.out (by have := HOB.out.2.2; simp; omega) HB3.out.2.size ?_; intro v4 w4 hO4 hg4; have hB4 := zbn HB3.out.2 HO3.out.ge hg4; have HX := yyh (yyi hO4 hB4); clear hO4 hB4 hg4))
    go_roundg (n - (i + 1))
    case measure => omega
    case rel => exact ⟨i + 1, by omega, rfl, by go_num, (show Aside _ from ⟨by rw [HT.out, hf]; simpa using HX.out.1, HX.out.2⟩)⟩
  ·
   obtain rfl : i = n := by omega
   rw [show ss.take i = ss from List.take_of_length_le (by rw [HN.out]; exact yyn)] at hO
   have HC := yyh (zh0 hO.es)
   have HG := yyh (yyi hO.ge hB)
   clear hO hB
   go_wp2_with fail
   refine HC.out.mono ?_
   rintro e w5 ⟨v5, rfl, hE5, hv5, rfl⟩
   have HE := yyh (yyi hE5 hv5)
   clear hE5 hv5
   go_wp2_with fail
   go_ret
   exact ⟨v5, rfl, HE.out.1, fun c hc => HG.out.1 c (by rw [← HE.out.2]; exact hc), HG.out.2⟩
end
def zpe (l : List En) : Value := .tuple #[enV (l.headD ⟨0, 0⟩), .int .i64 0, .bool (!l.isEmpty)]
theorem zcb {w : World} {xb : Nat} {a b u v : Value} {t : TypeId} (h : w.heap[xb]? = some (.cells #[a, b] t (0, 0))) : ((w.setCell ⟨xb, 0, none⟩ u).setCell ⟨xb, 1, none⟩ v).heap[xb]? = some (.cells #[u, v] t (0, 0)) := by
 rw [zai (zai h u) v]
 rfl
theorem ztb {W : World} {q : Nat} {v : Value} {l : List En} (hq : W.cell? ⟨q, 0, none⟩ = some v) (hE : zay W v l) : Calls Tryz.prog 261 #[.slice (some ⟨q, 0, none⟩) 1 1] W fun r w' => r = .returned (zpe l) ∧ Below W.heap.size W w' := by
 obtain ⟨W1, hW1⟩ := yye (W.alloc (.cells #[.int .u64 0, .int .i64 0] 63))
 have hB1 : Below W.heap.size W W1 := by rw [← hW1]; exact zab yyr _
 obtain ⟨xb, hxb⟩ := yye (W.heap.size)
 have hx1 : W1.heap[xb]? = some (.cells #[.int .u64 0, .int .i64 0] 63 (0, 0)) := by rw [← hW1, ← hxb]; exact heap_alloc_new W _
 obtain ⟨x0, x1, x2, x3⟩ := zao hx1
 have q1 := zae hB1 hq
 have hE1 := zay.below hE hB1
 have hz : Below W.heap.size W W1 ∧ W.heap.size = xb := ⟨hB1, hxb⟩
 have HS := yyh hz
 have HX := yyh hx1
 cases l with
 | nil =>
  obtain ⟨a, k, rfl, -, -, -, -⟩ := SlV.clip hE1
  clear hE hE1 hB1 hx1 hz hq
  go_enter Tryz.func261, Tryz.ntmps261
  change W1.cell? _ = some (.slice a 0 k) at q1
  go_wp2_with fail
  refine wp_loop_rounds 2 ?_
  rw [rounds_succ]
  go_upto_region 4 with fail
  go_region
  go_wp2_with fail
  rw [rounds_succ]
  go_wp2_with fail
  refine bodyPost_ret (v := .tuple #[.agg #[.int .u64 0, .int .i64 0], .int .i64 0, .bool false]) (by simp [results, Tryz.results261, go_sem, x0, x1]) rfl ?_
  obtain ⟨hB1, hxb⟩ := HS.out
  exact ⟨rfl, zaf (zak (zak hB1 _ _ _ (by omega)) _ _ _ (by omega))⟩
 | cons e l =>
  obtain ⟨b, off, cap, rfl, -, hcm, -, y0, y1, -⟩ := zay.head hE1
  have hcz : (cap : Int) ≤ 9223372036854775807 := by unfold maxLen at hcm; omega
  have g1 : decide (((l.length + 1 : Nat) : Int) > 0) = true := by rw [decide_eq_true_eq]; omega
  have g2 : (0 : Int) < ((l.length + 1 : Nat) : Int) := by omega
  obtain ⟨n, hn⟩ := yye (l.length + 1)
  rw [hn] at g1 g2
  change W1.cell? _ = some (.slice (some ⟨b, off, none⟩) (l.length + 1) cap) at q1
  rw [hn] at q1
  have hpos : 0 < n := by omega
  have hpos2 : decide (0 < n) = true := by rw [decide_eq_true_eq]; exact hpos
  have e0 : W1.drew.cell? ⟨xb, 0, none⟩ = some (.int .u64 0) := x0
  have e1 : W1.drew.cell? ⟨xb, 1, none⟩ = some (.int .i64 0) := x1
  have e2 : W1.drew.frozen? ⟨xb, 0, none⟩ = false := x2
  have e3 : W1.drew.frozen? ⟨xb, 1, none⟩ = false := x3
  have z0 : W1.drew.cell? ⟨b, off, none⟩ = some (.int .u64 e.key) := y0
  have z1 : W1.drew.cell? ⟨b, off + 1, none⟩ = some (.int .i64 e.id) := y1
  clear hE hE1 hB1 hx1 hz hq hn
  go_enter Tryz.func261, Tryz.ntmps261
  go_wp2_with fail
  refine wp_loop_rounds 2 ?_
  rw [rounds_succ]
  go_upto_region 4 with fail
  go_region
  go_wp2_with fail
  rw [rounds_succ]
  go_wp2_with fail
  obtain ⟨u0, u1, -, -⟩ := zao (zcb (u := .int .u64 e.key) (v := .int .i64 e.id) (zcb (u := .int .u64 e.key) (v := .int .i64 e.id) HX.out))
  refine bodyPost_ret (v := .tuple #[.agg #[.int .u64 e.key, .int .i64 e.id], .int .i64 0, .bool true]) (by simp [results, Tryz.results261, go_sem, u0, u1]) rfl ?_
  obtain ⟨hB1, hxb⟩ := HS.out
  exact ⟨rfl, zaf (zak (zak (zak (zak hB1 _ _ _ (by omega)) _ _ _ (by omega)) _ _ _ (by omega)) _ _ _ (by omega))⟩
structure QA where
 qp : Nat
 sp : Nat
 sg : Nat
 ob : Nat
 oc : Nat
 hp : Nat
 lp : List Nat
 k : Nat
structure QS where
 ss : List Slt
 ls : List (Value × List Bk)
 sv : Value
 bs : List Bk
structure QM where
 k : Nat
 slots : List (Option En)
 own : List (List En)
 sh : List En
def zeo (x : Slt) : Option En := if x.full then some x.e else none
def QS.q (s : QS) (k : Nat) : QM := ⟨k, s.ss.map zeo, s.ls.map (fun x => zaj (zaq x.2)), zaj (zaq s.bs)⟩
def zbc (l : List (Option En)) : List En := l.filterMap id
theorem zkd (l : List Slt) : slE l = zbc (l.map zeo) := by
 unfold slE zbc zeo
 induction l with
 | nil => rfl
 | cons x l ih =>
  rw [List.filter_cons, List.map_cons, List.filterMap_cons]
  cases hf : x.full <;> simp [hf, ih]
def QM.all (q : QM) : List En := zbc q.slots ++ q.own.flatten ++ q.sh
structure QM.Ok (q : QM) : Prop where
 len : q.all.length ≤ NB
 ids : (q.all.map (·.id)).Nodup
 k16 : q.k ≤ 16
 own : ∀ l ∈ q.own, zbh l
 sh : zbh q.sh
 low : ∀ l ∈ q.own, l.length ≤ 16
def zcx (A : QA) (s : QS) (j : Nat) : Prop := j = A.qp ∨ j = A.sp ∨ j = A.sg ∨ j = A.ob ∨ j ∈ A.lp ∨ j = A.hp ∨ s.sv.ownBlock = some j ∨ ∃ x ∈ s.ls, x.1.ownBlock = some j
structure QAt (W : World) (A : QA) (s : QS) : Prop where
 hdr : W.heap[A.qp]? = some (.cells #[.int .i64 A.k, .pointer (some ⟨A.sp, 0, none⟩), .slice (some ⟨A.ob, 0, none⟩) A.lp.length A.oc, .pointer (some ⟨A.hp, 0, none⟩)] 169 (0, 0))
 own : ∃ cur, W.heap[A.ob]? = some (.cells cur 173 (0, 0)) ∧ ∀ (t p : Nat), A.lp[t]? = some p → cur[t]? = some (.pointer (some ⟨p, 0, none⟩))
 num : 1 ≤ A.lp.length ∧ A.lp.length ≤ 8 ∧ A.lp.length ≤ A.oc ∧ A.oc ≤ maxLen ∧ A.k ≤ 16
 sl : zey W A.sp A.sg s.ss
 sln : s.ss.length = A.lp.length
 lsn : s.ls.length = A.lp.length
 lsm : ∀ (t p : Nat) (x : Value × List Bk), A.lp[t]? = some p → s.ls[t]? = some x → zbi W p 0 x.1 x.2
 sh : zg5 W A.hp s.sv s.bs
 lpd : A.lp.Nodup
 rows : ∀ (t t' : Nat) (x x' : Value × List Bk) (c : Nat), s.ls[t]? = some x → s.ls[t']? = some x' → x.1.ownBlock = some c → x'.1.ownBlock = some c → t = t'
 shd : ∀ x ∈ s.ls, ∀ c, x.1.ownBlock = some c → s.sv.ownBlock ≠ some c
def zmq (W : World) (j : Nat) (t : TypeId) : Prop := ∃ cur, W.heap[j]? = some (.cells cur t (0, 0))
theorem zmq.ne {W : World} {i j : Nat} {t u : TypeId} (h : zmq W i t) (k : zmq W j u) (n : t ≠ u) : i ≠ j := fun e => by
 obtain ⟨a, h⟩ := h
 obtain ⟨b, k⟩ := k
 rw [e, k] at h
 injection h with h
 injection h with h1 h2
 exact n h2.symm
section
variable {W W' : World} {A : QA} {s : QS}
theorem QAt.tq (h : QAt W A s) : zmq W A.qp 169 := ⟨_, h.hdr⟩
theorem QAt.to (h : QAt W A s) : zmq W A.ob 173 := ⟨_, h.own.choose_spec.1⟩
theorem QAt.tsp (h : QAt W A s) : zmq W A.sp 211 := ⟨_, h.sl.hdr⟩
theorem QAt.tsg (h : QAt W A s) : zmq W A.sg 213 := ⟨_, h.sl.row⟩
theorem QAt.thp (h : QAt W A s) : zmq W A.hp 288 := by
 obtain ⟨ver, -, -, e⟩ := h.sh.hdr
 exact ⟨_, e⟩
theorem QAt.tsv (h : QAt W A s) {c : Nat} (hc : s.sv.ownBlock = some c) : zmq W c 222 := SlV.type h.sh.bks.1 hc
theorem QAt.tlp (h : QAt W A s) {p : Nat} (hp : p ∈ A.lp) : zmq W p 220 := by
 obtain ⟨t, ht, rfl⟩ := List.getElem_of_mem hp
 obtain ⟨x, hx⟩ : ∃ x, s.ls[t]? = some x := ⟨_, yyg (by rw [h.lsn]; exact ht)⟩
 exact ⟨_, (h.lsm t _ _ (yyg ht) hx).hdr⟩
theorem QAt.trow (h : QAt W A s) {x : Value × List Bk} (hx : x ∈ s.ls) {c : Nat} (hc : x.1.ownBlock = some c) : zmq W c 222 := by
 obtain ⟨t, ht, rfl⟩ := List.getElem_of_mem hx
 obtain ⟨p, hp⟩ : ∃ p, A.lp[t]? = some p := ⟨_, yyg (by rw [← h.lsn]; exact ht)⟩
 exact zba (h.lsm t _ _ hp (yyg ht)).own hc
theorem QAt.noEn (h : QAt W A s) : zj5 W (zcx A s) := by
 intro j hj
 rcases hj with rfl | rfl | rfl | rfl | hj | rfl | hj | ⟨x, hx, hj⟩
 · obtain ⟨c, e⟩ := h.tq; exact ⟨c, _, e, by decide⟩
 · obtain ⟨c, e⟩ := h.tsp; exact ⟨c, _, e, by decide⟩
 · obtain ⟨c, e⟩ := h.tsg; exact ⟨c, _, e, by decide⟩
 · obtain ⟨c, e⟩ := h.to; exact ⟨c, _, e, by decide⟩
 · obtain ⟨c, e⟩ := h.tlp hj; exact ⟨c, _, e, by decide⟩
 · obtain ⟨c, e⟩ := h.thp; exact ⟨c, _, e, by decide⟩
 · obtain ⟨c, e⟩ := h.tsv hj; exact ⟨c, _, e, by decide⟩
 · obtain ⟨c, e⟩ := h.trow hx hj; exact ⟨c, _, e, by decide⟩
theorem zbi.frO {S : Nat → Prop} {p base : Nat} {v : Value} {bs : List Bk} (h : zbi W p base v bs) (f : Fr S W W') (hn : zj5 W S) (hp : ¬ S p) (hv : ∀ c, v.ownBlock = some c → ¬ S c) : zbi W' p base v bs :=
 ⟨(f.block _ (zac h.hdr) hp).trans h.hdr, zcv h.own f hv, fun b hb => ⟨(h.ins b hb).1.frT f hn, (h.ins b hb).2⟩⟩
theorem zg5.frO {S : Nat → Prop} {p : Nat} {v : Value} {bs : List Bk} (h : zg5 W p v bs) (f : Fr S W W') (hn : zj5 W S) (hp : ¬ S p) (hv : ∀ c, v.ownBlock = some c → ¬ S c) : zg5 W' p v bs := by
 obtain ⟨ver, v0, v1, e⟩ := h.hdr
 exact ⟨⟨ver, v0, v1, (f.block _ (zac e) hp).trans e⟩, ⟨SlV.fr h.bks.1 f hv, fun b hb => (h.bks.2 b hb).frT f hn⟩, h.ne⟩
theorem QAt.fr {S : Nat → Prop} (h : QAt W A s) (f : Fr S W W') (hn : zj5 W S) (hS : ∀ j, S j → ¬ zcx A s j) : QAt W' A s := by
 have n : ∀ j, zcx A s j → ¬ S j := fun j hj hs => hS j hs hj
 obtain ⟨cur, e, hc⟩ := h.own
 refine ⟨(f.block _ (zac h.hdr) (n _ (.inl rfl))).trans h.hdr, ⟨cur, (f.block _ (zac e) (n _ (by simp [zcx]))).trans e, hc⟩, h.num, h.sl.fr f (n _ (by simp [zcx])) (n _ (by simp [zcx])), h.sln, h.lsn, fun t p x hp hx => ?_, ?_, h.lpd, h.rows, h.shd⟩
 ·
  have h1 := List.mem_of_getElem? hp
  have h2 := List.mem_of_getElem? hx
  exact (h.lsm t p x hp hx).frO f hn (n _ (by simp [zcx, h1])) (fun c hc => n _ (by
   unfold zcx
   exact .inr (.inr (.inr (.inr (.inr (.inr (.inr ⟨x, h2, hc⟩))))))))
 · exact h.sh.frO f hn (n _ (by simp [zcx])) (fun c hc => n _ (by simp [zcx, hc]))
theorem QAt.below (h : QAt W A s) (hb : Below W.heap.size W W') : QAt W' A s := h.fr (Fr.of_below (S := fun _ => False) hb) (fun _ h => h.elim) (fun _ h => h.elim)
theorem QAt.lt (h : QAt W A s) {j : Nat} (hj : zcx A s j) : j < W.heap.size := by
 obtain ⟨c, t, e, -⟩ := h.noEn j hj
 exact zac e
structure zbp (W : World) (A : QA) (s : QS) (W' : World) (s' : QS) : Prop where
 at_ : QAt W' A s'
 fr : Fr (zcx A s) W W'
 own : ∀ j, zcx A s' j → zcx A s j ∨ W.heap.size ≤ j
theorem zbp.refl (h : QAt W A s) : zbp W A s W s := ⟨h, Fr.refl _ _, fun j hj => .inl hj⟩
theorem zbp.below (h : QAt W A s) (hb : Below W.heap.size W W') : zbp W A s W' s := ⟨h.below hb, Fr.of_below hb, fun j hj => .inl hj⟩
theorem zbp.trans {W2 : World} {s' s2 : QS} (h : zbp W A s W' s') (k : zbp W' A s' W2 s2) : zbp W A s W2 s2 := by
 refine ⟨k.at_, ?_, fun j hj => ?_⟩
 ·
  refine ⟨k.fr.os.trans h.fr.os, k.fr.tape.trans h.fr.tape, k.fr.output.trans h.fr.output, Nat.le_trans h.fr.size k.fr.size, fun j hj hn => ?_⟩
  refine (k.fr.block j (Nat.lt_of_lt_of_le hj h.fr.size) (fun e => ?_)).trans (h.fr.block j hj hn)
  rcases h.own j e with e | e
  · exact hn e
  · omega
 ·
  rcases k.own j hj with e | e
  · exact h.own j e
  · have := h.fr.size
    exact .inr (by omega)
theorem QAt.setSl {ss' : List Slt} (h : QAt W A s) (hS : zey W' A.sp A.sg ss') (f : Fr (fun k => k = A.sg) W W') (hl : ss'.length = s.ss.length) : zbp W A s W' { s with ss := ss' } := by
 have hno : zj5 W (fun k => k = A.sg) := fun k hk => by
  obtain ⟨c, e⟩ := h.tsg
  have hk' : k = A.sg := hk
  exact ⟨c, _, by rw [hk']; exact e, by decide⟩
 have n : ∀ {j : Nat} {t : TypeId}, zmq W j t → t ≠ 213 → ¬ (fun k => k = A.sg) j := fun hj hne e => hj.ne h.tsg hne e
 obtain ⟨cur, e, hc⟩ := h.own
 refine ⟨⟨(f.block _ (zac h.hdr) (n h.tq (by decide))).trans h.hdr, ⟨cur, (f.block _ (zac e) (n h.to (by decide))).trans e, hc⟩, h.num, hS, hl.trans h.sln, h.lsn, fun t p x hp hx => ?_, ?_, h.lpd, h.rows, h.shd⟩, f.mono (fun k hk => by have hk' : k = A.sg := hk; simp [zcx, hk']), fun j hj => .inl hj⟩
 · exact (h.lsm t p x hp hx).frO f hno (n (h.tlp (List.mem_of_getElem? hp)) (by decide)) (fun c hc => n (h.trow (List.mem_of_getElem? hx) hc) (by decide))
 · exact h.sh.frO f hno (n h.thp (by decide)) (fun c hc => n (h.tsv hc) (by decide))
theorem QAt.setSh {v' : Value} {bs' : List Bk} (h : QAt W A s) (hS : zg5 W' A.hp v' bs') (f : Fr (fun k => k = A.hp) W W') (hv : v' = s.sv ∨ ∀ c, v'.ownBlock = some c → W.heap.size ≤ c) : zbp W A s W' { s with sv := v', bs := bs' } := by
 have hno : zj5 W (fun k => k = A.hp) := fun k hk => by
  obtain ⟨c, e⟩ := h.thp
  have hk' : k = A.hp := hk
  exact ⟨c, _, by rw [hk']; exact e, by decide⟩
 have n : ∀ {j : Nat} {t : TypeId}, zmq W j t → t ≠ 288 → ¬ (fun k => k = A.hp) j := fun hj hne e => hj.ne h.thp hne e
 obtain ⟨cur, e, hc⟩ := h.own
 refine ⟨⟨(f.block _ (zac h.hdr) (n h.tq (by decide))).trans h.hdr, ⟨cur, (f.block _ (zac e) (n h.to (by decide))).trans e, hc⟩, h.num, h.sl.fr f (n h.tsp (by decide)) (n h.tsg (by decide)), h.sln, h.lsn, fun t p x hp hx => ?_, hS, h.lpd, h.rows, fun x hx c hc => ?_⟩, f.mono (fun k hk => by have hk' : k = A.hp := hk; simp [zcx, hk']), fun j hj => ?_⟩
 · exact (h.lsm t p x hp hx).frO f hno (n (h.tlp (List.mem_of_getElem? hp)) (by decide)) (fun c hc => n (h.trow (List.mem_of_getElem? hx) hc) (by decide))
 ·
  rcases hv with rfl | hv
  · exact h.shd x hx c hc
  ·
   intro e
   have h1 := hv c e
   obtain ⟨cu, e2⟩ := h.trow hx hc
   have := zac e2
   omega
 ·
  rcases hj with hj | hj | hj | hj | hj | hj | hj | hj
  · exact .inl (.inl hj)
  · exact .inl (.inr (.inl hj))
  · exact .inl (.inr (.inr (.inl hj)))
  · exact .inl (.inr (.inr (.inr (.inl hj))))
  · exact .inl (.inr (.inr (.inr (.inr (.inl hj)))))
  · exact .inl (.inr (.inr (.inr (.inr (.inr (.inl hj))))))
  · rcases hv with rfl | hv
    · exact .inl (.inr (.inr (.inr (.inr (.inr (.inr (.inl hj)))))))
    · exact .inr (hv j hj)
  · exact .inl (.inr (.inr (.inr (.inr (.inr (.inr (.inr hj)))))))
theorem QAt.setLs {t p : Nat} {x : Value × List Bk} {v' : Value} {bs' : List Bk} (h : QAt W A s) (hp : A.lp[t]? = some p) (hx : s.ls[t]? = some x) (hL : zbi W' p 0 v' bs') (f : Fr (zhr p x.1) W W') (hv : v'.ownBlock = x.1.ownBlock ∨ ∀ c, v'.ownBlock = some c → W.heap.size ≤ c) : zbp W A s W' { s with ls := s.ls.set t (v', bs') } := by
 have hpm := List.mem_of_getElem? hp
 have hxm := List.mem_of_getElem? hx
 have htl : t < s.ls.length := (yyk.1 hx).1
 have hno := (h.lsm t p x hp hx).noEn
 have n : ∀ {j : Nat} {u : TypeId}, zmq W j u → u ≠ 220 → u ≠ 222 → ¬ zhr p x.1 j := fun hj h1 h2 e => by
  rcases e with e | e
  · exact hj.ne (h.tlp hpm) h1 e
  · exact hj.ne (h.trow hxm e) h2 rfl
 obtain ⟨cur, e, hc⟩ := h.own
 have hmem : ∀ y ∈ s.ls.set t (v', bs'), (y ∈ s.ls) ∨ y = (v', bs') := fun y hy => List.mem_or_eq_of_mem_set hy
 refine ⟨⟨(f.block _ (zac h.hdr) (n h.tq (by decide) (by decide))).trans h.hdr, ⟨cur, (f.block _ (zac e) (n h.to (by decide) (by decide))).trans e, hc⟩, h.num, h.sl.fr f (n h.tsp (by decide) (by decide)) (n h.tsg (by decide) (by decide)), h.sln, by rw [List.length_set]; exact h.lsn, fun t' p' x' hp' hx' => ?_, ?_, h.lpd, ?_, ?_⟩, f.mono (fun k hk => ?_), fun j hj => ?_⟩
 ·
  rw [List.getElem?_set] at hx'
  by_cases htt : t = t'
  ·
   subst htt
   rw [if_pos rfl, if_pos htl] at hx'
   injection hx' with hx'
   rw [← hx']
   rw [hp] at hp'
   injection hp' with hp'
   rw [← hp']
   exact hL
  ·
   rw [if_neg htt] at hx'
   refine (h.lsm t' p' x' hp' hx').frO f hno (fun e => ?_) (fun c hc e => ?_)
   ·
    rcases e with e | e
    · have e' : p' = p := e
      rw [e', ← hp] at hp'
      exact htt ((List.getElem?_inj (by rw [← h.lsn]; exact htl) h.lpd).1 hp'.symm)
    · exact (h.tlp (List.mem_of_getElem? hp')).ne (h.trow hxm e) (by decide) rfl
   · rcases e with e | e
     · exact (h.trow (List.mem_of_getElem? hx') hc).ne (h.tlp hpm) (by decide) e
     · exact htt (h.rows t t' x x' c hx hx' e hc)
 ·
  refine h.sh.frO f hno (n h.thp (by decide) (by decide)) (fun c hc e => ?_)
  rcases e with e | e
  · exact (h.tsv hc).ne (h.tlp hpm) (by decide) e
  · exact h.shd x hxm c e hc
 ·
  intro t1 t2 y1 y2 c h1 h2 hc1 hc2
  rw [List.getElem?_set] at h1 h2
  have hold : ∀ {t' : Nat} {y : Value × List Bk}, s.ls[t']? = some y → y.1.ownBlock = some c → v'.ownBlock = some c → t = t' := fun hy hyc hvc => by
   rcases hv with hv | hv
   · exact h.rows t _ x _ c hx hy (hv.symm.trans hvc) hyc
   ·
    have h1 := hv c hvc
    obtain ⟨cu, e2⟩ := h.trow (List.mem_of_getElem? hy) hyc
    have := zac e2
    omega
  by_cases e1 : t = t1
  ·
   by_cases e2 : t = t2
   · omega
   ·
    rw [if_pos e1, if_pos (by omega)] at h1
    rw [if_neg e2] at h2
    injection h1 with h1
    rw [← h1] at hc1
    have := hold h2 hc2 hc1
    omega
  ·
   rw [if_neg e1] at h1
   by_cases e2 : t = t2
   ·
    rw [if_pos e2, if_pos (by omega)] at h2
    injection h2 with h2
    rw [← h2] at hc2
    have := hold h1 hc1 hc2
    omega
   · rw [if_neg e2] at h2
     exact h.rows t1 t2 y1 y2 c h1 h2 hc1 hc2
 ·
  intro y hy c hc
  rcases hmem y hy with hy | rfl
  · exact h.shd y hy c hc
  ·
   rcases hv with hv | hv
   · exact h.shd x hxm c (hv.symm.trans hc)
   ·
    intro e
    have h1 := hv c hc
    obtain ⟨cu, e2⟩ := h.tsv e
    have := zac e2
    omega
 ·
  rcases hk with hk | hk
  · have hk' : k = p := hk
    rw [hk']
    exact .inr (.inr (.inr (.inr (.inl hpm))))
  · exact .inr (.inr (.inr (.inr (.inr (.inr (.inr ⟨x, hxm, hk⟩))))))
 ·
  rcases hj with hj | hj | hj | hj | hj | hj | hj | ⟨y, hy, hj⟩
  · exact .inl (.inl hj)
  · exact .inl (.inr (.inl hj))
  · exact .inl (.inr (.inr (.inl hj)))
  · exact .inl (.inr (.inr (.inr (.inl hj))))
  · exact .inl (.inr (.inr (.inr (.inr (.inl hj)))))
  · exact .inl (.inr (.inr (.inr (.inr (.inr (.inl hj))))))
  · exact .inl (.inr (.inr (.inr (.inr (.inr (.inr (.inl hj)))))))
  ·
   rcases hmem y hy with hy | rfl
   · exact .inl (.inr (.inr (.inr (.inr (.inr (.inr (.inr ⟨y, hy, hj⟩)))))))
   · rcases hv with hv | hv
     · exact .inl (.inr (.inr (.inr (.inr (.inr (.inr (.inr ⟨x, hxm, hv.symm.trans hj⟩)))))))
     · exact .inr (hv j hj)
end
def NoE (W : World) (S : Nat → Prop) : Prop := ∀ k, S k → ∀ cur t, W.heap[k]? = some (.cells cur t (0, 0)) → t ≠ 63
theorem NoE.of {W : World} {S : Nat → Prop} (h : ∀ k, S k → ∃ o, W.heap[k]? = some o ∧ ∀ cur t, o = .cells cur t (0, 0) → t ≠ 63) : NoE W S := fun k hk cur t e => by
 obtain ⟨o, h1, h2⟩ := h k hk
 rw [h1] at e
 injection e with e
 exact h2 cur t e
theorem zbe {t : TypeId} {c : Array Value} (h1 : t ≠ 63 := by decide) : ∀ (cur : Array Value) (u : TypeId), Obj.cells c t (0, 0) = .cells cur u (0, 0) → u ≠ 63 := fun cur u e => by
 injection e with _ e _
 rw [← e]
 exact h1
theorem zf3 {es : Array MapEntry} {k : Nat} : ∀ (cur : Array Value) (u : TypeId), Obj.map es k = .cells cur u (0, 0) → u ≠ 63 := fun cur u e => by cases e
section
variable {W W' : World} {S : Nat → Prop}
theorem zay.frE {v : Value} {l : List En} (h : zay W v l) (f : Fr S W W') (hS : NoE W S) : zay W' v l :=
 zay.fr h f (fun c hc hs => by
  obtain ⟨cu, h3⟩ := SlV.type h hc
  exact hS c hs _ _ h3 rfl)
theorem zf9.frE {b : Bk} (h : zf9 W b) (f : Fr S W W') (hS : NoE W S) : zf9 W' b := ⟨zay.frE h.1 f hS, h.2⟩
theorem zbi.frE {p base : Nat} {v : Value} {bs : List Bk} (h : zbi W p base v bs) (f : Fr S W W') (hn : NoE W S) (hp : ¬ S p) (hv : ∀ c, v.ownBlock = some c → ¬ S c) : zbi W' p base v bs :=
 ⟨(f.block _ (zac h.hdr) hp).trans h.hdr, zcv h.own f hv, fun b hb => ⟨(h.ins b hb).1.frE f hn, (h.ins b hb).2⟩⟩
theorem zg5.frE {p : Nat} {v : Value} {bs : List Bk} (h : zg5 W p v bs) (f : Fr S W W') (hn : NoE W S) (hp : ¬ S p) (hv : ∀ c, v.ownBlock = some c → ¬ S c) : zg5 W' p v bs := by
 obtain ⟨ver, v0, v1, e⟩ := h.hdr
 exact ⟨⟨ver, v0, v1, (f.block _ (zac e) hp).trans e⟩, ⟨SlV.fr h.bks.1 f hv, fun b hb => (h.bks.2 b hb).frE f hn⟩, h.ne⟩
theorem QAt.frE {A : QA} {s : QS} (h : QAt W A s) (f : Fr S W W') (hn : NoE W S) (hS : ∀ j, zcx A s j → ¬ S j) : QAt W' A s := by
 have n := hS
 obtain ⟨cur, e, hc⟩ := h.own
 refine ⟨(f.block _ (zac h.hdr) (n _ (.inl rfl))).trans h.hdr, ⟨cur, (f.block _ (zac e) (n _ (by simp [zcx]))).trans e, hc⟩, h.num, h.sl.fr f (n _ (by simp [zcx])) (n _ (by simp [zcx])), h.sln, h.lsn, fun t p x hp hx => ?_, ?_, h.lpd, h.rows, h.shd⟩
 ·
  have h1 := List.mem_of_getElem? hp
  have h2 := List.mem_of_getElem? hx
  exact (h.lsm t p x hp hx).frE f hn (n _ (by simp [zcx, h1])) (fun c hc => n _ (by
   unfold zcx
   exact .inr (.inr (.inr (.inr (.inr (.inr (.inr ⟨x, h2, hc⟩))))))))
 · exact h.sh.frE f hn (n _ (by simp [zcx])) (fun c hc => n _ (by simp [zcx, hc]))
theorem QAt.noE {A : QA} {s : QS} (h : QAt W A s) : NoE W (zcx A s) := by
 refine NoE.of fun j hj => ?_
 rcases hj with rfl | rfl | rfl | rfl | hj | rfl | hj | ⟨x, hx, hj⟩
 · obtain ⟨c, e⟩ := h.tq; exact ⟨_, e, zbe⟩
 · obtain ⟨c, e⟩ := h.tsp; exact ⟨_, e, zbe⟩
 · obtain ⟨c, e⟩ := h.tsg; exact ⟨_, e, zbe⟩
 · obtain ⟨c, e⟩ := h.to; exact ⟨_, e, zbe⟩
 · obtain ⟨c, e⟩ := h.tlp hj; exact ⟨_, e, zbe⟩
 · obtain ⟨c, e⟩ := h.thp; exact ⟨_, e, zbe⟩
 · obtain ⟨c, e⟩ := h.tsv hj; exact ⟨_, e, zbe⟩
 · obtain ⟨c, e⟩ := h.trow hx hj; exact ⟨_, e, zbe⟩
end
structure OS where
 wr : Nat → Prop
 own : Nat → Prop
structure PT where
 At : World → Prop
 os : OS
 sub : ∀ j, os.wr j → os.own j
 lt : ∀ {W j}, At W → os.own j → j < W.heap.size
 noE : ∀ {W}, At W → NoE W os.wr
 keep : ∀ {W W' S}, At W → Fr S W W' → NoE W S → (∀ j, os.own j → ¬ S j) → At W'
structure PTs (W : World) (l : List PT) : Prop where
 at_ : ∀ c ∈ l, c.At W
 dis : l.Pairwise fun a b => ∀ j, a.os.own j → ¬ b.os.own j
def znw (l : List PT) : OS := ⟨fun j => ∃ c ∈ l, c.os.wr j, fun j => ∃ c ∈ l, c.os.own j⟩
structure zb2 (W : World) (o : OS) (W' : World) (o' : OS) : Prop where
 fr : Fr o.wr W W'
 wr : ∀ j, o'.wr j → o.wr j ∨ W.heap.size ≤ j
 own : ∀ j, o'.own j → o.own j ∨ W.heap.size ≤ j
theorem zb2.refl (W : World) (o : OS) : zb2 W o W o := ⟨Fr.refl _ _, fun j hj => .inl hj, fun j hj => .inl hj⟩
theorem zb2.below {W W' : World} (o : OS) (hb : Below W.heap.size W W') : zb2 W o W' o := ⟨Fr.of_below hb, fun j hj => .inl hj, fun j hj => .inl hj⟩
theorem zb2.trans {W W1 W2 : World} {o o1 o2 : OS} (h : zb2 W o W1 o1) (k : zb2 W1 o1 W2 o2) : zb2 W o W2 o2 := by
 have hs := h.fr.size
 refine ⟨⟨k.fr.os.trans h.fr.os, k.fr.tape.trans h.fr.tape, k.fr.output.trans h.fr.output, Nat.le_trans h.fr.size k.fr.size, fun j hj hn => ?_⟩, fun j hj => ?_, fun j hj => ?_⟩
 ·
  refine (k.fr.block j (Nat.lt_of_lt_of_le hj h.fr.size) (fun e => ?_)).trans (h.fr.block j hj hn)
  rcases h.wr j e with e | e
  · exact hn e
  · omega
 · rcases k.wr j hj with e | e
   · exact h.wr j e
   · exact .inr (by omega)
 · rcases k.own j hj with e | e
   · exact h.own j e
   · exact .inr (by omega)
def qOS (A : QA) (s : QS) : OS := ⟨zcx A s, zcx A s⟩
theorem zbp.ps {W W' : World} {A : QA} {s s' : QS} (h : zbp W A s W' s') : zb2 W (qOS A s) W' (qOS A s') := ⟨h.fr, h.own, h.own⟩
def PT.queue (A : QA) (s : QS) : PT := ⟨fun W => QAt W A s, qOS A s, fun j h => h, fun h hj => h.lt hj, fun h => h.noE, fun h f hn hd => h.frE f hn hd⟩
theorem PTs.noE {W : World} {l : List PT} (h : PTs W l) : NoE W (znw l).wr := fun k hk cur t e => by
 obtain ⟨c, hc, hk⟩ := hk
 exact c.noE (h.at_ c hc) k hk cur t e
theorem PTs.lt {W : World} {l : List PT} (h : PTs W l) {j : Nat} (hj : (znw l).own j) : j < W.heap.size := by
 obtain ⟨c, hc, hj⟩ := hj
 exact c.lt (h.at_ c hc) hj
theorem PTs.keep {W W' : World} {S : Nat → Prop} {l : List PT} (h : PTs W l) (f : Fr S W W') (hn : NoE W S) (hd : ∀ j, (znw l).own j → ¬ S j) : PTs W' l :=
 ⟨fun c hc => c.keep (h.at_ c hc) f hn (fun j hj => hd j ⟨c, hc, hj⟩), h.dis⟩
theorem PTs.below {W W' : World} {l : List PT} (h : PTs W l) (hb : Below W.heap.size W W') : PTs W' l := h.keep (Fr.of_below (S := fun _ => False) hb) (fun _ h => h.elim) (fun _ _ h => h)
theorem PTs.step {W W' : World} {l : List PT} {i : Nat} {c c' : PT} (h : PTs W l) (hi : l[i]? = some c) (ha : c'.At W') (hs : zb2 W c.os W' c'.os) : PTs W' (l.set i c') ∧ zb2 W (znw l) W' (znw (l.set i c')) := by
 have hil : i < l.length := (yyk.1 hi).1
 have hcm : c ∈ l := List.mem_of_getElem? hi
 have hp := List.pairwise_iff_getElem.1 h.dis
 have hdis : ∀ (k : Nat) (d : PT), l[k]? = some d → k ≠ i → ∀ j, d.os.own j → ¬ c.os.own j := fun k d hk hne j hj hcj => by
  obtain ⟨hkl, rfl⟩ := yyk.1 hk
  obtain ⟨_, rfl⟩ := yyk.1 hi
  rcases Nat.lt_or_gt_of_ne hne with hlt | hlt
  · exact hp k i hkl hil hlt j hj hcj
  · exact hp i k hil hkl hlt j hcj hj
 have hdis' : ∀ (k : Nat) (d : PT), l[k]? = some d → k ≠ i → ∀ j, d.os.own j → ¬ c'.os.own j := fun k d hk hne j hj hcj => by
  rcases hs.own j hcj with e | e
  · exact hdis k d hk hne j hj e
  · have := d.lt (h.at_ d (List.mem_of_getElem? hk)) hj
    omega
 refine ⟨⟨fun d hd => ?_, ?_⟩, ⟨hs.fr.mono (fun j hj => ⟨c, hcm, hj⟩), fun j hj => ?_, fun j hj => ?_⟩⟩
 ·
  obtain ⟨k, hk⟩ := List.mem_iff_getElem?.1 hd
  rw [List.getElem?_set] at hk
  by_cases e : i = k
  ·
   rw [if_pos e, if_pos (by omega)] at hk
   injection hk with hk
   rw [← hk]
   exact ha
  · rw [if_neg e] at hk
    exact d.keep (h.at_ d (List.mem_of_getElem? hk)) hs.fr (c.noE (h.at_ c hcm)) (fun j hj hw => hdis k d hk (fun x => e x.symm) j hj (c.sub j hw))
 ·
  rw [List.pairwise_iff_getElem]
  intro a b hal hbl hab j
  rw [List.length_set] at hal hbl
  rw [List.getElem_set, List.getElem_set]
  by_cases ea : i = a
  · rw [if_pos ea, if_neg (by omega)]
    exact fun h1 h2 => hdis' b _ (yyg hbl) (by omega) j h2 h1
  ·
   rw [if_neg ea]
   by_cases eb : i = b
   · rw [if_pos eb]
     exact hdis' a _ (yyg hal) (fun x => ea x.symm) j
   · rw [if_neg eb]
     exact hp a b hal hbl hab j
 ·
  obtain ⟨d, hd, hj⟩ := hj
  rcases List.mem_or_eq_of_mem_set hd with hd | rfl
  · exact .inl ⟨d, hd, hj⟩
  · rcases hs.wr j hj with e | e
    · exact .inl ⟨c, hcm, e⟩
    · exact .inr e
 ·
  obtain ⟨d, hd, hj⟩ := hj
  rcases List.mem_or_eq_of_mem_set hd with hd | rfl
  · exact .inl ⟨d, hd, hj⟩
  · rcases hs.own j hj with e | e
    · exact .inl ⟨c, hcm, e⟩
    · exact .inr e
def OS.one (o : Nat → Prop) : OS := ⟨o, o⟩
theorem zb2.one {W W' : World} {o o' : Nat → Prop} (f : Fr o W W') (h : ∀ j, o' j → o j ∨ W.heap.size ≤ j) : zb2 W (OS.one o) W' (OS.one o') := ⟨f, h, h⟩
def QM.settle (q : QM) (t : Nat) : QM :=
 match q.slots[t]?, q.own[t]? with
 | some (some e), some l =>
  if q.k < (zaj (e :: l)).length then ⟨q.k, q.slots.set t none, q.own.set t [], zaj (zaj (e :: l) ++ q.sh)⟩
  else ⟨q.k, q.slots.set t none, q.own.set t (zaj (e :: l)), q.sh⟩
 | _, _ => q
def QM.fullAt (q : QM) (t : Nat) : Bool := match q.slots[t]? with | some (some _) => true | _ => false
def QM.put (q : QM) (t : Nat) (e : En) : QM := { (q.settle t) with slots := (q.settle t).slots.set t (some e) }
theorem zf4 (e : En) (l : List En) : zaj (e :: zaj l) = zaj (e :: l) := zbw ((za2 l).cons e)
theorem zft (l m : List En) : zaj (l ++ zaj m) = zaj (l ++ m) := zbw ((za2 m).append_left l)
theorem zdk (l m : List En) : zaj (zaj l ++ m) = zaj (l ++ m) := zbw ((za2 l).append_right m)
theorem zfe {α : Type} {l : List α} {t : Nat} {o : α} (h : l[t]? = some o) : l.set t o = l := by
 apply List.ext_getElem?
 intro j
 rw [List.getElem?_set]
 by_cases hj : t = j
 · subst hj
   rw [if_pos rfl, if_pos (yyk.1 h).1, h]
 · rw [if_neg hj]
theorem zff (l : List (Option En)) (t : Nat) (o : Option En) (h : t < l.length) : (zbc (l.set t o)).Perm (o.toList ++ zbc (l.take t ++ l.drop (t + 1))) := by
 have e : l.set t o = l.take t ++ [o] ++ l.drop (t + 1) := by
  rw [List.set_eq_take_append_cons_drop, if_pos h]
  simp
 rw [e]
 unfold zbc
 rw [List.filterMap_append, List.filterMap_append, List.filterMap_append]
 have e1 : List.filterMap id [o] = o.toList := by cases o <;> rfl
 rw [e1, ← List.append_assoc]
 exact List.perm_append_comm.append_right _
theorem zfg (l : List (Option En)) (t : Nat) (o : Option En) (h : l[t]? = some o) : (zbc l).Perm (o.toList ++ zbc (l.take t ++ l.drop (t + 1))) := by
 have ht : t < l.length := (yyk.1 h).1
 have := zff l t o ht
 rwa [zfe h] at this
theorem zi2 (l : List (List En)) (t : Nat) (m : List En) (h : t < l.length) : ((l.set t m).flatten).Perm (m ++ (l.take t ++ l.drop (t + 1)).flatten) := by
 have e : l.set t m = l.take t ++ [m] ++ l.drop (t + 1) := by
  rw [List.set_eq_take_append_cons_drop, if_pos h]
  simp
 rw [e, List.flatten_append, List.flatten_append, List.flatten_append]
 have e1 : [m].flatten = m := by simp
 rw [e1, ← List.append_assoc]
 exact List.perm_append_comm.append_right _
theorem zi3 (l : List (List En)) (t : Nat) (m : List En) (h : l[t]? = some m) : (l.flatten).Perm (m ++ (l.take t ++ l.drop (t + 1)).flatten) := by
 have ht : t < l.length := (yyk.1 h).1
 have := zi2 l t m ht
 rwa [zfe h] at this
theorem zej {α : Type} {l : List α} {t : Nat} {a x : α} (h : x ∈ l.set t a) : x ∈ l ∨ x = a := List.mem_or_eq_of_mem_set h
theorem QM.sizes (q : QM) (t : Nat) (o : Option En) (l : List En) (ho : q.slots[t]? = some o) (hl : q.own[t]? = some l) : o.toList.length + l.length + q.sh.length ≤ q.all.length := by
 unfold QM.all
 have h1 := (zfg _ _ _ ho).length_eq
 have h2 := (zi3 _ _ _ hl).length_eq
 rw [List.length_append] at h1 h2
 rw [List.length_append, List.length_append]
 omega
theorem zdl (q : QM) (t : Nat) : (q.settle t).all.Perm q.all := by
 unfold QM.settle
 split
 ·
  rename_i e l he hl
  have ht1 : t < q.slots.length := (yyk.1 he).1
  have ht2 : t < q.own.length := (yyk.1 hl).1
  have p1 := zfg _ _ _ he
  have p2 := zff q.slots t none ht1
  have p3 := zi3 _ _ _ hl
  split
  ·
   have p4 := zi2 q.own t [] ht2
   unfold QM.all
   refine ((p2.append p4).append_right _).trans (List.Perm.trans ?_ (((p1.append p3).append_right q.sh).symm))
   generalize zbc (q.slots.take t ++ q.slots.drop (t + 1)) = S
   generalize (q.own.take t ++ q.own.drop (t + 1)).flatten = O
   have e0 : (none : Option En).toList ++ S = S := rfl
   have e1 : (some e).toList ++ S = e :: S := rfl
   rw [e0, e1, List.nil_append]
   refine ((za2 _).append_left _).trans ?_
   refine (((za2 (e :: l)).append_right _).append_left _).trans ?_
   show (S ++ O ++ (e :: l ++ q.sh)).Perm (e :: S ++ (l ++ O) ++ q.sh)
   rw [← List.append_assoc]
   refine List.Perm.append_right _ ?_
   refine (List.perm_append_comm).trans ?_
   show (e :: l ++ (S ++ O)).Perm (e :: S ++ (l ++ O))
   refine List.Perm.cons e ?_
   show (l ++ (S ++ O)).Perm (S ++ (l ++ O))
   rw [← List.append_assoc, ← List.append_assoc]
   exact List.perm_append_comm.append_right _
  ·
   have p4 := zi2 q.own t (zaj (e :: l)) ht2
   unfold QM.all
   refine ((p2.append p4).append_right _).trans (List.Perm.trans ?_ (((p1.append p3).append_right q.sh).symm))
   generalize zbc (q.slots.take t ++ q.slots.drop (t + 1)) = S
   generalize (q.own.take t ++ q.own.drop (t + 1)).flatten = O
   have e0 : (none : Option En).toList ++ S = S := rfl
   have e1 : (some e).toList ++ S = e :: S := rfl
   rw [e0, e1]
   refine List.Perm.append_right _ ?_
   refine (((za2 (e :: l)).append_right _).append_left _).trans ?_
   show (S ++ (e :: l ++ O)).Perm (e :: S ++ (l ++ O))
   rw [← List.append_assoc]
   refine (List.perm_append_comm.append_right _).trans ?_
   show ((e :: l ++ S) ++ O).Perm (e :: (S ++ (l ++ O)))
   rw [List.cons_append, List.cons_append]
   refine List.Perm.cons e ?_
   rw [← List.append_assoc]
   exact List.perm_append_comm.append_right _
 · exact List.Perm.refl _
theorem zi4 (q : QM) (t : Nat) : (q.settle t).k = q.k := by
 unfold QM.settle
 split
 · split <;> rfl
 · rfl
theorem zke {q : QM} (h : q.Ok) (t : Nat) : (q.settle t).Ok := by
 have hp := zdl q t
 refine ⟨by rw [hp.length_eq]; exact h.len, (hp.map _).nodup_iff.2 h.ids, by rw [zi4]; exact h.k16, ?_, ?_, ?_⟩
 ·
  unfold QM.settle
  split
  ·
   split
   ·
    intro l hl
    rcases zej hl with hl | rfl
    · exact h.own l hl
    · exact List.Pairwise.nil
   ·
    intro l hl
    rcases zej hl with hl | rfl
    · exact h.own l hl
    · exact zbb _
  · exact h.own
 ·
  unfold QM.settle
  split
  · split
    · exact zbb _
    · exact h.sh
  · exact h.sh
 ·
  unfold QM.settle
  split
  ·
   split
   ·
    intro l hl
    rcases zej hl with hl | rfl
    · exact h.low l hl
    · exact Nat.zero_le _
   ·
    rename_i hk
    intro l hl
    rcases zej hl with hl | rfl
    · exact h.low l hl
    · have := h.k16
      omega
  · exact h.low
theorem zg8 (q : QM) (t : Nat) (ht : t < q.slots.length) (ho : q.own.length = q.slots.length) : (q.settle t).slots[t]? = some none := by
 unfold QM.settle
 split
 · split <;> simp [ht]
 ·
  rename_i hn
  obtain ⟨o, hoo⟩ : ∃ o, q.slots[t]? = some o := ⟨_, yyg ht⟩
  obtain ⟨l, hl⟩ : ∃ l, q.own[t]? = some l := ⟨_, yyg (by omega)⟩
  cases o with
  | none => exact hoo
  | some e => exact absurd hl (hn e l hoo)
theorem zdz (q : QM) (t : Nat) : (q.settle t).slots.length = q.slots.length ∧ (q.settle t).own.length = q.own.length := by
 unfold QM.settle
 split
 · split <;> simp
 · exact ⟨rfl, rfl⟩
theorem zpf (q : QM) (t : Nat) (e : En) (ht : t < q.slots.length) (ho : q.own.length = q.slots.length) : (q.put t e).all.Perm (e :: q.all) := by
 have h0 := zg8 q t ht ho
 have hp := zdl q t
 have hl := zdz q t
 unfold QM.put QM.all
 unfold QM.all at hp
 generalize q.settle t = r at *
 have p1 := zff r.slots t (some e) (by rw [hl.1]; exact ht)
 have p2 := zfg _ _ _ h0
 have e1 : (some e).toList ++ zbc (r.slots.take t ++ r.slots.drop (t + 1)) = e :: zbc (r.slots.take t ++ r.slots.drop (t + 1)) := rfl
 have e2 : (none : Option En).toList ++ zbc (r.slots.take t ++ r.slots.drop (t + 1)) = zbc (r.slots.take t ++ r.slots.drop (t + 1)) := rfl
 rw [e1] at p1
 rw [e2] at p2
 refine List.Perm.trans ?_ (hp.cons e)
 show (zbc (r.slots.set t (some e)) ++ r.own.flatten ++ r.sh).Perm (e :: (zbc r.slots ++ r.own.flatten ++ r.sh))
 refine ((p1.append_right _).append_right _).trans ?_
 exact ((p2.symm.append_right _).append_right _).cons e
end Go.Proofs.YtcfhkbcllijnkaaGreat
