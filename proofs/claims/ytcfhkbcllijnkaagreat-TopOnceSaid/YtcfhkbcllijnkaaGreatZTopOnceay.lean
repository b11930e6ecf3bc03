/- Parts of the proof of TopOnce, under no condition. -/
import Derived.Test.YtcfhkbcllijnkaaGreatZTopOnceaw
import Derived.Lib.AppendZeros
import Derived.Test.YtcfhkbcllijnkaaGreatZTopOnceao
set_option linter.unusedVariables false
set_option linter.unusedSimpArgs false
set_option maxRecDepth 100000
set_option maxHeartbeats 0
namespace Go.Proofs.YtcfhkbcllijnkaaGreat
open Go.RowKit
theorem za6 {S : Nat → Prop} {w w' : World} (f : Fr S w w') {b i : Nat} (hb : ¬ S b) {u : Value} (h : w.cell? ⟨b, i, none⟩ = some u) : w'.cell? ⟨b, i, none⟩ = some u := by
 rw [← h]
 have := f.block b (World.block_lt_of_cell? w _ h) hb
 simp only [World.cell?, this]
theorem zrn : zEn.cells = #[.int .u64 0, .int .i64 0] := rfl
theorem zuz {W : World} (n : Nat) (h0 : 0 < n) (hn : n ≤ 1000) : Calls Tryz.prog 290 #[.slice none 0 0, .int .i64 n] W fun e w' => ∃ v', e = .returned v' ∧ zb0 w' W.heap.size v' [] ∧ Below W.heap.size W w' := by
 obtain ⟨i0, hi0, hz0, hz1, hz2⟩ := info_parts zjr
 have g1 : decide ((n : Int) < 0) = false := by simp
 have g2 : decide ((n : Int) > 0) = true := by simp; omega
 have hpos : (0 : Int) < n := by omega
 have hrun := Lib.run_append_nil_zeros (P := Tryz.prog) W 42 3 42 63 i0 zEn .i64 .i64 Tryz.underlying42 Tryz.underlying3 hi0 hz0 n h0 (by rw [hz1]; decide) (by omega) (by rw [hz2]; omega)
 have hge := grownCap_ge W n 0 63
 have hmx := grownCap_le_maxLen W n 0 63 (by unfold maxLen; omega)
 generalize hG : grownCap W n 0 63 = G at hrun hge hmx
 have hmz : (G : Int) ≤ 9223372036854775807 := by unfold maxLen at hmx; omega
 have hcell : (Builtin.zeroCells zEn.cells n ++ Builtin.zeroCells zEn.cells (G - n)).size = G * 2 := by
  rw [Array.size_append, size_zeroCells, size_zeroCells, zrn]
  simp
  omega
 generalize Builtin.zeroCells zEn.cells n ++ Builtin.zeroCells zEn.cells (G - n) = C at hrun hcell
 have HF := yyh (yyi hmx hcell)
 clear hmx hcell hG
 go_enter Tryz.func290, Tryz.ntmps290
 go_wp2_with (at_builtin; go_loud (refine Lib.wpList_append_run _ rfl (.tmp 20) (.tmp 21) 42 3 rfl (.slice none 0 0) (.int .i64 n) rfl rfl _ _ hrun ?_))
 go_ret
 refine ⟨_, rfl, ⟨rfl, .inr ⟨W.heap.size, G, C, rfl, yyn, ?_, Nat.zero_le _, HF.out.1, HF.out.2, by simp [zbf]⟩⟩, zab (zaf yyr) _⟩
 exact heap_alloc_new W.drew _
theorem zro {W : World} : Calls Tryz.prog 290 #[.slice none 0 0, .int .i64 0] W fun e w' => ∃ v', e = .returned v' ∧ zb0 w' W.heap.size v' [] ∧ Below W.heap.size W w' := by
 go_enter Tryz.func290, Tryz.ntmps290
 go_wp2_with fail
 go_ret
 exact ⟨_, rfl, zb0.nil _ _, yyr⟩
theorem zrp {W : World} (n : Nat) (hn : n ≤ 1000) : Calls Tryz.prog 290 #[.slice none 0 0, .int .i64 n] W fun e w' => ∃ v', e = .returned v' ∧ zb0 w' W.heap.size v' [] ∧ Below W.heap.size W w' := by
 rcases Nat.eq_zero_or_pos n with rfl | h
 · exact zro
 · exact zuz n h hn
theorem zu0 {W : World} {B : Nat} {v0 v1 : Value} {la lb : List En} (hc0 : W.cell? ⟨B, 0, none⟩ = some v0) (hc1 : W.cell? ⟨B, 1, none⟩ = some v1) (hl : la.length + lb.length ≤ 1000) (ha : zay W v0 la) (hb : zay W v1 lb) : Calls Tryz.prog 273 #[.slice (some ⟨B, 0, none⟩) 2 2] W fun e w' => ∃ v', e = .returned v' ∧ zb0 w' W.heap.size v' (la ++ lb) ∧ Below W.heap.size W w' := by
 obtain ⟨a0, k0, rfl, -, -, -, -⟩ := SlV.clip ha
 obtain ⟨a1, k1, rfl, -, -, -, -⟩ := SlV.clip hb
 have HA := yyh ha
 have HB := yyh hb
 obtain ⟨n0, hn0⟩ : ∃ n, la.length = n := ⟨_, rfl⟩
 obtain ⟨n1, hn1⟩ : ∃ n, lb.length = n := ⟨_, rfl⟩
 rw [hn0] at hc0
 rw [hn1] at hc1
 have HN := yyh (show la.length = n0 ∧ lb.length = n1 from ⟨hn0, hn1⟩)
 rw [hn0, hn1] at hl
 rw [hn0] at HA
 rw [hn1] at HB
 clear ha hb hn0 hn1
 have g1 : decide ((n0 : Int) + (n1 : Int) < 0) = false := by rw [decide_eq_false_iff_not]; omega
 have g2 : decide ((n0 : Int) < 0) = false := by simp
 have HG := yyh (zrp (W := W) (n0 + n1) hl)
 have hBlt := World.block_lt_of_cell? W _ hc0
 go_enter Tryz.func273, Tryz.ntmps273
 go_wp2_with fail
 refine wp_loop_rounds 3 ?_
 rw [rounds_succ]
 go_wp2_with fail
 rw [rounds_succ]
 go_wp2_with fail
 rw [rounds_succ]
 go_wp2_with fail
 refine HG.out.mono ?_
 rintro e w1 ⟨v, rfl, hO, hBl⟩
 have d0 : w1.cell? ⟨B, 0, none⟩ = some (.slice a0 n0 k0) := zae hBl hc0
 have d1 : w1.cell? ⟨B, 1, none⟩ = some (.slice a1 n1 k1) := zae hBl hc1
 have HO := yyh hO
 have HBL := yyh hBl
 have HA1 := yyh (zay.below HA.out hBl)
 have HB1 := yyh (zay.below HB.out hBl)
 have HLA := yyh (fun c hc => SlV.lt HA.out hc : ∀ c, (Value.slice a0 n0 k0).ownBlock = some c → c < W.heap.size)
 have HLB := yyh (fun c hc => SlV.lt HB.out hc : ∀ c, (Value.slice a1 n1 k1).ownBlock = some c → c < W.heap.size)
 clear hO hBl hc0 hc1
 go_wp2_with fail
 refine wp_loop_rounds 3 ?_
 rw [rounds_succ]
 go_wp2_with (at_builtin; go_loud (refine za3 rfl (.tmp 31) (.tmp 32) rfl W.heap.size _ [] rfl HO.out _ la rfl HA1.out (by have := HN.out; simp; omega) HBL.out.size ?_; intro v2 w2 hO2 hg2; have hB2 := zbn HBL.out HO.out.ge hg2; have e1 := (za6 (Fr.grown hg2) (b := B) (i := 1) (fun e => by have := HO.out.ge B e.symm; omega) d1); have HX := yyh (yyi hO2 (yyi hB2 (zay.grown (W := W) HB1.out HLB.out HO.out.ge hg2))); clear hO2 hB2 hg2))
 rw [rounds_succ]
 go_wp2_with (at_builtin; go_loud (refine za3 rfl (.tmp 31) (.tmp 32) rfl W.heap.size _ ([] ++ la) rfl HX.out.1 _ lb rfl HX.out.2.2 (by have := HN.out; simp; omega) HX.out.2.1.size ?_; intro v3 w3 hO3 hg3; have hB3 := zbn HX.out.2.1 HX.out.1.ge hg3; have HY := yyh (yyi hO3 hB3); clear hO3 hB3 hg3))
 rw [rounds_succ]
 go_wp2_with fail
 go_ret
 exact ⟨_, rfl, HY.out.1, HY.out.2⟩
theorem zb0.len {w : World} {base : Nat} {v : Value} {l : List En} (h : zb0 w base v l) : ∃ a cap, v = .slice a l.length cap ∧ zay w v l := by
 obtain ⟨a, cap, e, -⟩ := SlV.clip (zb0.es h)
 exact ⟨a, cap, e, zb0.es h⟩
theorem zao {w : World} {b : Nat} {x y : Value} {t : TypeId} (h : w.heap[b]? = some (.cells #[x, y] t (0, 0))) : w.cell? ⟨b, 0, none⟩ = some x ∧ w.cell? ⟨b, 1, none⟩ = some y ∧ w.frozen? ⟨b, 0, none⟩ = false ∧ w.frozen? ⟨b, 1, none⟩ = false :=
 ⟨zaa h, zaa h, by simp [World.frozen?, h], by simp [World.frozen?, h]⟩
theorem zs3 {W : World} {v0 v1 : Value} {la lb : List En} {p q : Int} (hl : la.length + lb.length ≤ NB) (ha : zay W v0 la) (hb : zay W v1 lb) : Calls Tryz.prog 232 #[.agg #[.int .i64 p, v0], .agg #[.int .i64 q, v1]] W fun e w' => ∃ v', e = .returned (bkV (la.length + lb.length) v') ∧ zay w' v' (zaj (la ++ lb)) ∧ (∀ c, v'.ownBlock = some c → W.heap.size ≤ c) ∧ Below W.heap.size W w' := by
 obtain ⟨a0, k0, rfl, -, -, -, -⟩ := SlV.clip ha
 obtain ⟨a1, k1, rfl, -, -, -, -⟩ := SlV.clip hb
 obtain ⟨n0, hn0⟩ : ∃ n, la.length = n := ⟨_, rfl⟩
 obtain ⟨n1, hn1⟩ : ∃ n, lb.length = n := ⟨_, rfl⟩
 have HL := yyh (show (la ++ lb).length = n0 + n1 ∧ la.length + lb.length ≤ NB from ⟨by simp [hn0, hn1], hl⟩)
 rw [hn0] at ha
 rw [hn1] at hb
 rw [hn0, hn1]
 obtain ⟨W3, hW3⟩ : ∃ W3, ((W.alloc (.cells #[.int .i64 p, .slice a0 n0 k0] 222)).alloc (.cells #[.int .i64 q, .slice a1 n1 k1] 222)).alloc (.cells #[.int .i64 0, .slice none 0 0] 222) = W3 := ⟨_, rfl⟩
 have hB3 : Below W.heap.size W W3 := by rw [← hW3]; exact zab (zab (zab yyr _) _) _
 have hs3 : W3.heap.size = W.heap.size + 3 := by rw [← hW3]; simp
 have k0' : W3.heap[W.heap.size]? = some (.cells #[.int .i64 p, .slice a0 n0 k0] 222 (0, 0)) := by rw [← hW3]; exact zan (zan (heap_alloc_new W _))
 have k1' : W3.heap[W.heap.size + 1]? = some (.cells #[.int .i64 q, .slice a1 n1 k1] 222 (0, 0)) := by rw [← hW3]; exact zan (zax (by simp))
 have k2' : W3.heap[W.heap.size + 1 + 1]? = some (.cells #[.int .i64 0, .slice none 0 0] 222 (0, 0)) := by rw [← hW3]; exact zax (by simp)
 obtain ⟨-, c1, -, -⟩ := zao k0'
 obtain ⟨-, c2, -, -⟩ := zao k1'
 have HK := yyh k2'
 have HA := yyh (zay.below (zay.below ha hB3) (zab yyr (.cells #[.slice a0 n0 k0, .slice a1 n1 k1] 42)))
 have HB := yyh (zay.below (zay.below hb hB3) (zab yyr (.cells #[.slice a0 n0 k0, .slice a1 n1 k1] 42)))
 have HB3 := yyh (yyi hB3 hs3)
 clear ha hb hn0 hn1 hl k0' k1' k2' hB3 hs3
 go_enter Tryz.func232, Tryz.ntmps232
 go_upto_region 1 with fail
 clear hW3
 go_wp2_with fail
 refine (zu0 (zda W3 _ _ 0) (zda W3 _ _ 1) (by have := HL.out.2; unfold NB at this; omega) HA.out HB.out).mono ?_
 rintro e w1 ⟨v, rfl, hO, hB1⟩
 obtain ⟨a2, k2, rfl, hE2⟩ := zb0.len hO
 rw [HL.out.1] at hE2 ⊢
 have HE2 := yyh hE2
 have HB1 := yyh hB1
 have hOf := BOf (W := w1) (v := .slice a2 (n0 + n1) k2) (l := la ++ lb) (by have := HL.out; simp at this ⊢; omega) HE2.out
 rw [HL.out.1] at hOf
 unfold bkV at hOf
 have HOF := yyh hOf
 clear hO hE2 hB1 hOf
 go_wp2_with fail
 refine HOF.out.mono ?_
 rintro e w2 ⟨v3, rfl, hE3, hge3, hB2⟩
 have hb2 : Below W3.heap.size W3 w2 := zad hB2 (zad HB1.out (zab yyr _))
 obtain ⟨x0, x1, f0, f1⟩ := zao ((hb2.block _ (zac HK.out)).trans HK.out)
 obtain ⟨a3, k3, rfl, -, -, -, -⟩ := SlV.clip hE3
 have hWw : Below W.heap.size W w2 := zad hb2 HB3.out.1
 have hge : ∀ c, (Value.slice a3 (zaj (la ++ lb)).length k3).ownBlock = some c → W.heap.size ≤ c ∧ c ≠ W.heap.size + 1 + 1 := fun c hc => by
  have h1 := hge3 c hc
  have h2 := HB1.out.size
  have h3 := HB3.out.2
  simp at h2
  omega
 have HX := yyh (yyi hE3 (yyi hge hWw))
 have hlen : (zaj (la ++ lb)).length = n0 + n1 := by rw [zam]; exact HL.out.1
 rw [hlen] at HX ⊢
 clear hE3 hge3 hB2 hb2 hWw hge hlen
 go_wp2_with fail
 refine bodyPost_ret (v := .agg #[.int .i64 (lvl (n0 + n1)), .slice a3 (n0 + n1) k3]) (by simp [results, Tryz.results232, go_sem, x0, x1]) rfl ?_
 obtain ⟨y1, y2, y3⟩ := HX.out
 refine ⟨_, rfl, ?_, fun c hc => (y2 c hc).1, ?_⟩
 · exact zay.put (zay.put y1 _ 0 _ (fun c hc => (y2 c hc).2)) _ 1 _ (fun c hc => (y2 c hc).2)
 · exact zak (zak y3 _ _ _ (by omega)) _ _ _ (by omega)
theorem BOk {W : World} {v : Value} {l : List En} (hl : l.length ≤ 1000) (h : zay W v l) (hs : zbh l) : Calls Tryz.prog 276 #[bkV l.length v] W fun e w' => e = .returned (.bool true) ∧ Below W.heap.size W w' := by
 obtain ⟨a, k, rfl, -, -, -, -⟩ := SlV.clip h
 have HE := yyh (zj3 (W := ((W.alloc (.cells #[.int .i64 (lvl l.length), .slice a l.length k] 222)).drew)) hl (zay.below h (zaf (zab yyr _))) hs)
 have HLV := yyh (zj2 l.length (by omega))
 have hlv := zj1 l.length
 unfold bkV
 generalize lvl l.length = q at *
 generalize l.length = n at *
 clear h hs
 have q0 : decide ((q : Int) ≥ 0) = true := by simp
 have q1 : decide ((q : Int) ≤ 62) = true := by rw [decide_eq_true_eq]; omega
 have q2 : decide ((0 : Int) ≤ (q : Int)) = true := by simp
 have q3 : ((q : Int) == (q : Int)) = true := by simp
 obtain ⟨W1, hW1⟩ := yye (W.alloc (.cells #[.int .i64 q, .slice a n k] 222))
 have hB1 : Below W.heap.size W W1 := by rw [← hW1]; exact zab yyr _
 have k0 : W1.heap[W.heap.size]? = some (.cells #[.int .i64 q, .slice a n k] 222 (0, 0)) := by rw [← hW1]; exact heap_alloc_new W _
 have k1 : W1.drew.heap[W.heap.size]? = some (.cells #[.int .i64 q, .slice a n k] 222 (0, 0)) := k0
 obtain ⟨c0, c1, -, -⟩ := zao k1
 rw [hW1] at HE
 have HB1 := yyh hB1
 clear hB1 k0 k1
 go_enter Tryz.func276, Tryz.ntmps276
 go_upto_region 1 with fail
 clear hW1
 refine wp_region_still_tail 20 (by kernel_rfl) (by kernel_rfl) ?_
 simp only [List.take_succ_cons, List.take_zero, List.drop_succ_cons, List.drop_zero]
 iterate 14 still_step
 still_call (zdr (HLV.out _))
 iterate 5 still_step
 refine wpStill_nil ?_
 change wpList _ _ _ _ _ W1.drew
 go_wp2_with fail
 refine HE.out.mono ?_
 rintro e w2 ⟨rfl, hB2⟩
 go_wp2_with fail
 go_ret
 exact ⟨rfl, zad hB2 (zaf HB1.out)⟩
structure Bk where
 L : List En
 a : Option Addr
 k : Nat
instance : Inhabited Bk := ⟨⟨[], none, 0⟩⟩
def Bk.v (b : Bk) : Value := .slice b.a b.L.length b.k
def bkC (b : Bk) : List Value := [.int .i64 (lvl b.L.length), b.v]
def zau (bs : List Bk) : List Value := bs.flatMap bkC
def zaq (bs : List Bk) : List En := bs.flatMap (·.L)
theorem za4 (l : List Bk) : (zau l).length = l.length * 2 := by
 induction l with
 | nil => rfl
 | cons e l ih => show (bkC e ++ zau l).length = _; rw [List.length_append, ih, List.length_cons]; show 2 + _ = _; omega
theorem zit (l : List Bk) (j i : Nat) (hi : i < 2) : (zau l)[j * 2 + i]? = l[j]?.bind fun e => (bkC e)[i]? := by
 induction l generalizing j with
 | nil => simp [zau]
 | cons e l ih =>
  cases j with
  | zero =>
   rcases (show i = 0 ∨ i = 1 from by omega) with rfl | rfl <;> rfl
  | succ j =>
   rw [show (zau (e :: l)) = .int .i64 (lvl e.L.length) :: e.v :: zau l from rfl, show (j + 1) * 2 + i = (j * 2 + i) + 1 + 1 from by omega, List.getElem?_cons_succ, List.getElem?_cons_succ, ih]
   rfl
def zf9 (W : World) (b : Bk) : Prop := zay W b.v b.L ∧ zbh b.L
def zch (W : World) (v : Value) (bs : List Bk) : Prop := SlV W 222 2 v bs.length (zau bs) ∧ ∀ b ∈ bs, zf9 W b
theorem zf9.below {W W' : World} {b : Bk} (h : zf9 W b) (hb : Below W.heap.size W W') : zf9 W' b := ⟨zay.below h.1 hb, h.2⟩
theorem zf9.val {W : World} {b : Bk} (h : zf9 W b) : ∃ a cap, b.v = .slice a b.L.length cap := ⟨_, _, rfl⟩
theorem zch.below {W W' : World} {v : Value} {bs : List Bk} (h : zch W v bs) (hb : Below W.heap.size W W') : zch W' v bs := ⟨SlV.below h.1 hb, fun b hm => (h.2 b hm).below hb⟩
theorem zch.at {W : World} {b off cap n : Nat} {l : List Bk} (h : zch W (.slice (some ⟨b, off, none⟩) n cap) l) (j : Nat) (e : Bk) (he : l[j]? = some e) : W.cell? ⟨b, off + j * 2, none⟩ = some (.int .i64 (lvl e.L.length)) ∧ W.cell? ⟨b, off + j * 2 + 1, none⟩ = some e.v := by
 rcases SlV.form h.1 with ⟨h0, _⟩ | ⟨b', off', cap', e1, h1, h2, h3, h4⟩
 · cases h0
 ·
  injection e1 with e1 e2 e3
  injection e1 with e1
  injection e1 with e1 e4
  subst e1 e4
  have k0 := zit l j 0 (by omega)
  have k1 := zit l j 1 (by omega)
  rw [he] at k0 k1
  exact ⟨h4 _ _ k0, h4 _ _ k1⟩
theorem zys (a : Option Addr) (n k m q : Nat) : (Value.slice a n k).ownBlock = (Value.slice a m q).ownBlock := by cases a <;> rfl
theorem zav (l m : List Bk) : zaq (l ++ m) = zaq l ++ zaq m := by simp [zaq]
theorem zd8 (l : List Bk) (i : Nat) (b : Bk) (h : l[i]? = some b) : zaq (l.take (i + 1)) = zaq (l.take i) ++ b.L := by
 rw [List.take_add_one, h, zav]
 simp [zaq]
theorem zdd (l : List Bk) (i : Nat) : (zaq (l.take i)).length ≤ (zaq l).length := by
 conv => rhs; rw [← List.take_append_drop i l, zav, List.length_append]
 omega
theorem zay.slice {W : World} {a : Option Addr} {k : Nat} {l : List En} (h : zay W (.slice a l.length k) l) (m : Nat) (hm : m ≤ l.length) : zay W (.slice a m k) (l.take m) := by
 unfold zay
 rw [List.length_take, Nat.min_eq_left hm, ← znh]
 rcases h.2 with ⟨e, h0⟩ | ⟨b, off, cap, cur, e, h1, h2, hb, h3⟩
 ·
  injection e with e1 e2 e3
  subst e1 e3
  obtain rfl : m = 0 := by omega
  exact ⟨by simp, .inl ⟨rfl, rfl⟩⟩
 ·
  injection e with e1 e2 e3
  subst e1 e3
  refine ⟨by rw [List.length_take, zcr]; omega, .inr ⟨b, off, k, cur, rfl, by omega, h2, hb, fun j hj => ?_⟩⟩
  rw [List.getElem?_take, if_pos hj]
  exact h3 j (by omega)
theorem zs4 {W : World} {v : Value} {bs : List Bk} (h : zch W v bs) (hl : (zaq bs).length ≤ NB) (hbs : bs.length ≤ 1000) (n : Nat) (hn : n ≤ 1000) : Calls Tryz.prog 192 #[v, .int .i64 n] W fun e w' => ∃ v', e = .returned v' ∧ zay w' v' ((zaj (zaq bs)).take n) ∧ (∀ c, v'.ownBlock = some c → W.heap.size ≤ c) ∧ Below W.heap.size W w' := by
 obtain ⟨a, k, rfl, hk, hkm, hna, -⟩ := SlV.clip h.1
 have hm : (k : Int) ≤ 9223372036854775807 := by unfold maxLen at hkm; omega
 have H := yyh h
 have HL := yyh hl
 obtain ⟨nb, hnb⟩ := yye (bs.length)
 have HNB := yyh hnb
 have HNA := yyh hna
 rw [hnb] at hbs hk
 rw [hnb]
 rw [hnb] at H
 clear h hl hnb hna hkm
 go_enter Tryz.func192, Tryz.ntmps192
 go_wp2_with fail
 go_loopg [5, 10] nb (fun gg v5 v10 wr => ∃ i : Nat, i ≤ nb ∧ gg = nb - i ∧ v10 = .int .i64 i ∧ Aside (zb0 wr W.heap.size v5 (zaq (bs.take i)) ∧ Below W.heap.size W wr))
 case atStart => exact ⟨0, by omega, rfl, rfl, (show Aside _ from ⟨by simpa [zaq] using zb0.nil W W.heap.size, yyr⟩)⟩
 case round =>
  obtain ⟨i, hi, rfl, rfl, A⟩ := hrel
  by_cases hlt : i < nb
  ·
   have hib : i < bs.length := by rw [HNB.out]; exact hlt
   obtain ⟨b, hb⟩ : ∃ b, bs[i]? = some b := ⟨_, yyg hib⟩
   have hx : a ≠ none := fun e => by have := HNA.out e; rw [HNB.out] at this; omega
   obtain ⟨x, rfl⟩ : ∃ x, a = some x := by cases a; exact absurd rfl hx; exact ⟨_, rfl⟩
   obtain ⟨hO, hB⟩ := A.out
   have hW := H.out.below hB
   obtain ⟨xb, xo, rfl⟩ : ∃ xb xo, x = ⟨xb, xo, none⟩ := by
    rcases SlV.form H.out.1 with ⟨e, _⟩ | ⟨b', o', c', e, _⟩
    · cases e
    · injection e with e1; injection e1 with e1; exact ⟨_, _, e1⟩
   obtain ⟨c0, c1⟩ := hW.at i b hb
   have hbi := hW.2 b (List.mem_of_getElem? hb)
   obtain ⟨ab, kb, hbv⟩ := hbi.val
   rw [hbv] at c1
   have hE := hbi.1
   rw [hbv] at hE
   have HE := yyh hE
   have HOB := yyh (yyi hO hB)
   have HBI := yyh (show zaq (bs.take (i + 1)) = zaq (bs.take i) ++ b.L from zd8 bs i b hb)
   generalize hbl : b.L.length = lb at c0 c1
   have HBL := yyh hbl
   clear A hO hB hW hbi hE hbl hbv hx
   have hBa : Below wr.heap.size wr (wr.alloc (.cells #[.int .i64 (lvl lb), .slice ab lb kb] 222)) := zab yyr _
   have HO1 := yyh (zb0.below HOB.out.1 hBa)
   have HE1 := yyh (zay.below HE.out hBa)
   have HB1 := yyh (zad hBa HOB.out.2)
   have hsum : (zaq (bs.take i)).length + b.L.length ≤ 1000 := by
    have h1 := zdd bs (i + 1)
    rw [HBI.out, List.length_append] at h1
    have h2 := HL.out
    unfold NB at h2
    omega
   have HSUM := yyh hsum
   rw [HBL.out] at HE1
   clear hBa hsum
   go_wp2_with (at_builtin; go_loud (refine za3 rfl (.tmp 14) (.tmp 16) rfl W.heap.size _ (zaq (bs.take i)) rfl HO1.out _ b.L rfl HE1.out (by have := HSUM.out; omega) HB1.out.size ?_; intro v2 w2 hO2 hg2; have hB2 := zbn HB1.out HO1.out.ge hg2; have HX := yyh (yyi hO2 hB2); clear hO2 hB2 hg2))
   go_roundg (nb - (i + 1))
   case measure => omega
   case rel => exact ⟨i + 1, by omega, rfl, by go_num, (show Aside _ from ⟨by rw [HBI.out]; exact HX.out.1, HX.out.2⟩)⟩
  ·
   obtain rfl : i = nb := by omega
   obtain ⟨hO, hB⟩ := A.out
   rw [show bs.take i = bs from List.take_of_length_le (by rw [HNB.out]; exact yyn)] at hO
   have HS := yyh (zrm (W := wr) (v := u5) (l := zaq bs) HL.out hO.es)
   obtain ⟨a5, k5, h5, -⟩ := zb0.len hO
   subst h5
   have HB := yyh hB
   have HSL := yyh (zam (zaq bs))
   clear A hO hB
   go_wp2_with fail
   refine HS.out.mono ?_
   rintro e w2 ⟨v2, rfl, hS2, hge2, hB2⟩
   obtain ⟨a2, k2, rfl, hk2, hkm2, hn2, -⟩ := SlV.clip hS2
   have hB2' := zad hB2 HB.out
   have hm2 : (k2 : Int) ≤ 9223372036854775807 := by unfold maxLen at hkm2; omega
   have hsl : zay w2 (.slice a2 (min n (zaj (zaq bs)).length) k2) ((zaj (zaq bs)).take (min n (zaj (zaq bs)).length)) := zay.slice hS2 _ (Nat.min_le_right _ _)
   have htk : (zaj (zaq bs)).take (min n (zaj (zaq bs)).length) = (zaj (zaq bs)).take n := by
    rcases Nat.le_total n (zaj (zaq bs)).length with h | h
    · rw [Nat.min_eq_left h]
    · rw [Nat.min_eq_right h, List.take_of_length_le yyn, List.take_of_length_le h]
   have hlen2 : ((zaj (zaq bs)).take n).length = min n (zaj (zaq bs)).length := List.length_take
   rw [htk] at hsl
   have HX := yyh (yyi hsl (yyi hB2' (fun c hc => Nat.le_trans HB.out.size (hge2 c hc) : ∀ c, (Value.slice a2 (zaj (zaq bs)).length k2).ownBlock = some c → W.heap.size ≤ c)))
   have HCL := yyh (fun (v : Value) (hv : zay w2 v ((zaj (zaq bs)).take n)) => zh0 (W := w2) hv)
   rw [hlen2] at HCL
   have HN2 := yyh hn2
   obtain ⟨ln, hln⟩ : ∃ ln, (zaj (zaq bs)).length = ln := ⟨_, rfl⟩
   have HSL2 := yyh hln.symm
   rw [hln] at HX HCL HSL hk2 HN2 ⊢
   clear hln
   clear hS2 hge2 hB2 hB2' hsl htk hlen2 hn2
   go_wp2_with fail
   rw [show (min (n : Int) (ln : Int)).toNat = min n ln from by omega]
   refine (HCL.out _ HX.out.1).mono ?_
   rintro e w3 ⟨v3, rfl, hS3, hb3, rfl⟩
   go_wp2_with fail
   go_ret
   refine ⟨_, rfl, ?_, fun c hc => HX.out.2.2 c ((zys a2 ln k2 (min n ln) k2).trans (hb3.symm.trans hc)), HX.out.2.1⟩
   unfold zay
   rw [List.length_take, ← HSL2.out]
   exact hS3
theorem zo0 {W : World} {v : Value} {l : List En} {q : Int} (hl : l.length ≤ NB) (h : zay W v l) (p : Int → Bool) (g : Nat) (lb : Array Value) (eg : ∀ args w, (callFunc g args).run Tryz.prog w = .ok (.enter g args) w)
 (hp : ∀ (X : World) (x : Int), Below W.heap.size W X → Calls Tryz.prog g (#[.int .i64 x] ++ lb) X fun e w' => e = .returned (.bool (p x)) ∧ Below X.heap.size X w') :
 Calls Tryz.prog 252 #[.agg #[.int .i64 q, v], .func (.func g) #[] lb] W fun e w' => ∃ v', e = .returned (bkV (l.filter fun e => !p e.id).length v') ∧ zay w' v' (zaj (l.filter fun e => !p e.id)) ∧ (∀ c, v'.ownBlock = some c → W.heap.size ≤ c) ∧ Below W.heap.size W w' := by
 obtain ⟨a, k, rfl, hk, hkm, hna, -⟩ := SlV.clip h
 have hm : (k : Int) ≤ 9223372036854775807 := by unfold maxLen at hkm; omega
 have he : ∀ w, (binOp .eql 72 (.func (.func g) #[] lb) .nilFunc).run Tryz.prog w = .ok (.bool false) w := fun _ => by kernel_rfl
 obtain ⟨n, hn⟩ := yye (l.length)
 obtain ⟨b, hb⟩ := yye (W.heap.size)
 obtain ⟨W2, hW2⟩ : ∃ W2, (W.alloc (.cells #[.int .i64 q, .slice a l.length k] 222)).alloc (.cells #[.int .i64 0, .slice none 0 0] 222) = W2 := ⟨_, rfl⟩
 have hB2 : Below W.heap.size W W2 := by rw [← hW2]; exact zab (zab yyr _) _
 have k0 : W2.heap[b]? = some (.cells #[.int .i64 q, .slice a l.length k] 222 (0, 0)) := by rw [← hW2, ← hb]; exact zan (heap_alloc_new W _)
 have k1 : W2.heap[b + 1]? = some (.cells #[.int .i64 0, .slice none 0 0] 222 (0, 0)) := by rw [← hW2, ← hb]; exact zax (by simp)
 obtain ⟨-, c1, -, -⟩ := zao k0
 have hs2 : W2.heap.size = b + 1 + 1 := by rw [← hW2, ← hb]; simp
 have HK := yyh k1
 have HE := yyh (zay.below h hB2)
 have HB2 := yyh (yyi hB2 hs2)
 have HP := yyh hp
 have HN := yyh hn
 have HBB := yyh hb
 rw [hn] at c1 hW2 hk HE ⊢
 rw [hn] at hl
 have HL := yyh hl
 have HNA := yyh hna
 clear h hB2 k0 k1 hs2 hp hn hna
 go_enter Tryz.func252, Tryz.ntmps252
 rw [hb]
 go_upto_region 1 with fail
 clear hW2 hb
 go_wp2_with fail
 go_loopg [5, 11] n (fun gg v5 v11 wr => ∃ i : Nat, i ≤ n ∧ gg = n - i ∧ v11 = .int .i64 i ∧ Aside (zb0 wr W2.heap.size v5 ((l.take i).filter fun e => !p e.id) ∧ Below W2.heap.size W2 wr))
 case atStart => exact ⟨0, by omega, by omega, rfl, (show Aside _ from ⟨by simpa using zb0.nil W2 W2.heap.size, yyr⟩)⟩
 case round =>
  obtain ⟨i, hi, rfl, rfl, A⟩ := hrel
  obtain ⟨hO, hB⟩ := A.out
  clear A
  by_cases hlt : i < n
  ·
   have hil : i < l.length := by rw [HN.out]; exact hlt
   obtain ⟨x, hx⟩ : ∃ x, l[i]? = some x := ⟨_, yyg hil⟩
   obtain ⟨xb, xo, rfl⟩ : ∃ xb xo, a = some ⟨xb, xo, none⟩ := by
    rcases SlV.form HE.out with ⟨e, _⟩ | ⟨b', o', c', e, _⟩
    · injection e with e1 e2
      have := HN.out
      omega
    · injection e with e1; exact ⟨_, _, e1⟩
   obtain ⟨d0, d1⟩ := zay.at (zay.below HE.out hB) i x hx
   have htake : (l.take (i + 1)).filter (fun e => !p e.id) = ((l.take i).filter fun e => !p e.id) ++ (if p x.id then [] else [x]) := by
    rw [List.take_add_one, hx, List.filter_append]
    cases hpx : p x.id <;> simp [hpx]
   have hcall := HP.out (wr.alloc (.cells #[.int .u64 x.key, .int .i64 x.id] 63)) x.id (zab (zad hB HB2.out.1) _)
   generalize hq : p x.id = qq at hcall htake
   have HT := yyh htake
   have HCL := yyh hcall
   have HOB := yyh (yyi hO hB)
   have hlen1 : ((l.take i).filter fun e => !p e.id).length ≤ n := Nat.le_trans (List.length_filter_le _ _) (by rw [List.length_take]; omega)
   have HL1 := yyh hlen1
   clear htake hcall hO hB hq hlen1
   cases qq with
   | true =>
    go_wp2_with (go_at_fn g; refine HCL.out.mono ?_; rintro e w' ⟨rfl, hb'⟩; have HB' := yyh hb'; clear hb')
    go_roundg (n - (i + 1))
    case measure => omega
    case rel =>
     have hb1 : Below wr.heap.size wr _ := zad HB'.out (zab yyr _)
     exact ⟨i + 1, by omega, rfl, by go_num, (show Aside _ from ⟨by rw [HT.out]; simpa using zb0.below HOB.out.1 hb1, zad hb1 HOB.out.2⟩)⟩
   | false =>
    have hcell : ∀ w3, Below (wr.alloc (.cells #[.int .u64 x.key, .int .i64 x.id] 63)).heap.size (wr.alloc (.cells #[.int .u64 x.key, .int .i64 x.id] 63)) w3 → w3.cell? ⟨wr.heap.size, 0, none⟩ = some (.int .u64 x.key) ∧ w3.cell? ⟨wr.heap.size, 1, none⟩ = some (.int .i64 x.id) := fun w3 h3 => ⟨zae h3 (zda wr _ _ 0), zae h3 (zda wr _ _ 1)⟩
    have HCE := yyh hcell
    clear hcell
    go_wp2_with (first
     | (go_at_fn g; refine HCL.out.mono ?_; rintro e w3 ⟨rfl, hb'⟩; obtain ⟨y0, y1⟩ := HCE.out _ hb'; have hb1 : Below wr.heap.size wr w3 := zad hb' (zab yyr _); have hb2 : Below wr.heap.size wr (w3.alloc (.cells #[.int .u64 x.key, .int .i64 x.id] 63)) := zab hb1 _; have HO3 := yyh (zb0.below HOB.out.1 hb2); have HB3 := yyh (yyi hb2 (zad hb2 HOB.out.2)); have HONE := yyh (zay.one w3 x _ rfl); clear hb' hb1 hb2)
     | (at_builtin; go_loud (refine za3 rfl (.tmp 24) (.tmp 26) rfl W2.heap.size _ _ rfl HO3.out _ [x] rfl HONE.out (by have := HL1.out; have := HL.out; unfold NB at this; simp; omega) HB3.out.2.size ?_; intro v4 w4 hO4 hg4; have hB4 := zbn HB3.out.2 HO3.out.ge hg4; have HX := yyh (yyi hO4 hB4); clear hO4 hB4 hg4)))
    go_roundg (n - (i + 1))
    case measure => omega
    case rel => exact ⟨i + 1, by omega, rfl, by go_num, (show Aside _ from ⟨by rw [HT.out]; simpa using HX.out.1, HX.out.2⟩)⟩
  ·
   obtain rfl : i = n := by omega
   rw [show l.take i = l from List.take_of_length_le (by rw [HN.out]; exact yyn)] at hO
   obtain ⟨m, hm2⟩ : ∃ m, (l.filter fun e => !p e.id).length = m := ⟨_, rfl⟩
   have hmn : m ≤ NB := by rw [← hm2]; exact Nat.le_trans (List.length_filter_le _ _) (by rw [HN.out]; exact HL.out)
   have hOf := BOf (W := wr) (v := u5) (l := l.filter fun e => !p e.id) (by rw [hm2]; exact hmn) hO.es
   obtain ⟨a5, k5, h5, -⟩ := zb0.len hO
   rw [hm2] at hOf h5
   subst h5
   unfold bkV at hOf
   have HOF := yyh hOf
   have HB := yyh hB
   have HM := yyh hm2
   clear hO hB hOf hm2 hmn
   go_wp2_with fail
   refine HOF.out.mono ?_
   rintro e w2 ⟨v3, rfl, hE3, hge3, hB3⟩
   have hb2 : Below W2.heap.size W2 w2 := zad hB3 HB.out
   obtain ⟨x0, x1, f0, f1⟩ := zao ((hb2.block _ (zac HK.out)).trans HK.out)
   obtain ⟨a3, k3, rfl, -, -, -, -⟩ := SlV.clip hE3
   have hWw : Below W.heap.size W w2 := zad hb2 HB2.out.1
   have hge : ∀ c, (Value.slice a3 (zaj (l.filter fun e => !p e.id)).length k3).ownBlock = some c → W.heap.size ≤ c ∧ c ≠ b + 1 := fun c hc => by
    have h1 := hge3 c hc
    have h2 := HB.out.size
    have h3 := HB2.out.2
    have h4 := HBB.out
    omega
   have HX := yyh (yyi hE3 (yyi hge hWw))
   have hlen : (zaj (l.filter fun e => !p e.id)).length = m := by rw [zam]; exact HM.out
   rw [hlen] at HX ⊢
   clear hE3 hge3 hB3 hb2 hWw hge hlen
   go_wp2_with fail
   refine bodyPost_ret (v := .agg #[.int .i64 (lvl m), .slice a3 m k3]) (by simp [results, Tryz.results252, go_sem, x0, x1]) rfl ?_
   obtain ⟨y1, y2, y3⟩ := HX.out
   have hbb := HBB.out
   refine ⟨.slice a3 m k3, by rw [HM.out]; rfl, ?_, fun c hc => hbb ▸ (y2 c hc).1, ?_⟩
   · exact zay.put (zay.put y1 _ 0 _ (fun c hc => (y2 c hc).2)) _ 1 _ (fun c hc => (y2 c hc).2)
   · rw [← hbb]
     exact zak (zak y3 _ _ _ (by omega)) _ _ _ (by omega)
end Go.Proofs.YtcfhkbcllijnkaaGreat
namespace Go.Proofs.YtcfhkbcllijnkaaGreat
open Go.RowKit Go.Sort
theorem zew (l : List Bk) : (flatK bkC 2 l.toArray).toList = zau l := by
 apply List.ext_getElem?
 intro t
 rcases Nat.lt_or_ge t (l.length * 2) with h | h
 ·
  have e : t = t / 2 * 2 + t % 2 := by omega
  have hd : t / 2 < l.length := by omega
  rw [show (zau l)[t]? = (zau l)[t / 2 * 2 + t % 2]? from by rw [← e], zit l (t / 2) (t % 2) (by omega)]
  have hs : t < (flatK bkC 2 l.toArray).size := by simpa using h
  rw [Array.getElem?_toList, Array.getElem?_eq_getElem hs, ← getElem!_pos (flatK bkC 2 l.toArray) t hs, get_flatK bkC 2 l.toArray t (by simpa using h)]
  rw [yyg hd]
  have h2 : (l.toArray)[t / 2]! = l[t / 2] := by simp [hd]
  rw [h2]
  have hm : t % 2 < (bkC l[t / 2]).length := by show t % 2 < 2; omega
  simp only [Option.bind_some]
  rw [getElem!_pos (bkC l[t / 2]) (t % 2) hm, yyg hm]
 · rw [List.getElem?_eq_none (show (zau l).length ≤ t from by rw [za4]; exact h), List.getElem?_eq_none (by rw [Array.length_toList, size_flatK]; simpa using h)]
theorem zno {W : World} {g off : Nat} {cur : Array Value} {t : TypeId} {l : List Bk} (hg : W.heap[g]? = some (.cells cur t (0, 0))) (hc : ∀ j, j < l.length * 2 → cur[off + j]? = (zau l)[j]?) : HoldsK bkC 2 W g off l.toArray := by
 intro j hj
 have hj2 : j < l.length * 2 := by simpa using hj
 constructor
 · have h := hc j hj2
   rw [← zew l, Array.getElem?_toList, Array.getElem?_eq_getElem hj, ← getElem!_pos _ j hj] at h
   simp [World.cell?, hg, h]
 · simp [World.frozen?, hg]
theorem zd3 {W : World} {g off : Nat} {cur : Array Value} {t : TypeId} (hg : W.heap[g]? = some (.cells cur t (0, 0))) (m : Nat) (d : Array Bk) (os : Array Obj) : (sortWorldK bkC 2 W g off m d os).heap[g]? = some (.cells (putCells id off (flatK bkC 2 d) cur) t (0, 0)) := by
 unfold sortWorldK putRowK putRow
 show ((mapBlock (Sort.ahead W m) g _).heap ++ os)[g]? = _
 have hlt : g < (mapBlock (Sort.ahead W m) g (putCells id off (flatK bkC 2 d))).heap.size := by
  show g < (W.heap.modify g _).size
  rw [Array.size_modify]
  exact zac hg
 rw [Array.getElem?_append_left hlt]
 show (W.heap.modify g _)[g]? = _
 rw [Array.getElem?_modify, if_pos rfl, hg]
 rfl
theorem ziu {W : World} {g off : Nat} (m : Nat) (d : Array Bk) (os : Array Obj) : Fr (fun k => k = g) W (sortWorldK bkC 2 W g off m d os) := by
 refine ⟨rfl, rfl, rfl, ?_, fun k hk hn => ?_⟩
 · show W.heap.size ≤ ((W.heap.modify g _) ++ os).size
   rw [Array.size_append, Array.size_modify]
   omega
 · show ((W.heap.modify g _) ++ os)[k]? = _
   rw [Array.getElem?_append_left (by rw [Array.size_modify]; exact hk), Array.getElem?_modify, if_neg (fun e => hn e.symm)]
theorem zlj {W : World} {b off cap : Nat} {l m : List Bk} (h : SlV W 222 2 (.slice (some ⟨b, off, none⟩) l.length cap) l.length (zau l)) (hm : m.length = l.length) (n : Nat) (os : Array Obj) : SlV (sortWorldK bkC 2 W b off n m.toArray os) 222 2 (.slice (some ⟨b, off, none⟩) l.length cap) l.length (zau m) := by
 refine ⟨by rw [za4, hm], ?_⟩
 rcases h.2 with ⟨h1, _⟩ | ⟨b', off', cap', cur, e1, h1, h2, hg, h3⟩
 · cases h1
 ·
  injection e1 with e1 e2 e3
  injection e1 with e1
  injection e1 with e1 e4
  subst e1 e3 e4
  refine .inr ⟨b, off, cap, putCells id off (flatK bkC 2 m.toArray) cur, rfl, h1, h2, zd3 hg n m.toArray os, fun j hj => ?_⟩
  have hb : off + j < cur.size := by
   have := h3 j hj
   rw [yyg (show j < (zau l).length from by rw [za4]; exact hj)] at this
   exact (yya.1 this).1
  rw [zev (flatK bkC 2 m.toArray) off cur j (by rw [size_flatK]; simpa [hm] using hj) hb, zew]
theorem zj4 {W : World} {base b off cap : Nat} {cur : Array Value} {l m : List Bk} (hg : W.heap[b]? = some (.cells cur 222 (0, 0))) (h : W.ownsRow base 222 2 (.slice (some ⟨b, off, none⟩) l.length cap) l.length (zau l)) (hm : m.length = l.length) (n : Nat) (os : Array Obj) : (sortWorldK bkC 2 W b off n m.toArray os).ownsRow base 222 2 (.slice (some ⟨b, off, none⟩) l.length cap) l.length (zau m) := by
 refine ⟨by rw [za4, hm], ?_⟩
 rcases h.2 with ⟨h1, _⟩ | ⟨g', cap', cur', e1, hb, hg', hle, hmx, hsz, hF⟩
 · cases h1
 ·
  injection e1 with e1 e2 e3
  injection e1 with e1
  injection e1 with e1 e4
  subst e1 e3 e4
  rw [hg] at hg'
  injection hg' with hg'
  injection hg' with hg' _ _
  subst hg'
  refine .inr ⟨b, cap, putCells id 0 (flatK bkC 2 m.toArray) cur, rfl, hb, zd3 hg n m.toArray os, hle, hmx, by rw [zin, hsz], ?_⟩
  have hle2 : l.length * 2 ≤ cur.size := by rw [hsz]; exact Nat.mul_le_mul_right 2 hle
  apply List.ext_getElem?
  intro j
  rw [List.getElem?_take]
  split
  ·
   rename_i hj
   rw [Array.getElem?_toList]
   have := zev (flatK bkC 2 m.toArray) 0 cur j (by simp; omega) (by omega)
   rw [Nat.zero_add] at this
   rw [this, zew]
  · rename_i hj
    rw [List.getElem?_eq_none (by rw [za4, hm]; omega)]
def cfB (a b : Bk) : Int := (lvl b.L.length : Int) - (lvl a.L.length : Int)
theorem zzw : SWO (ltOf cfB) where
 irrefl x := by simp [ltOf, cfB]
 trans x y z h k := by
  have h : cfB x y < 0 := of_decide_eq_true h
  have k : cfB y z < 0 := of_decide_eq_true k
  refine decide_eq_true (p := cfB x z < 0) ?_
  unfold cfB at *
  omega
 ntrans x y z h k := by
  have h : ¬ cfB x y < 0 := of_decide_eq_false h
  have k : ¬ cfB y z < 0 := of_decide_eq_false k
  refine decide_eq_false (p := cfB x z < 0) ?_
  unfold cfB at *
  omega
theorem znp (a b : Bk) (w : World) : Calls Tryz.prog 270 #[.agg (bkC a).toArray, .agg (bkC b).toArray] w fun e w' => e = .returned (.int .i64 (cfB a b)) ∧ Gr w w' := by
 have h1 := zj1 a.L.length
 have h2 := zj1 b.L.length
 show Calls Tryz.prog _ #[.agg #[.int .i64 (lvl a.L.length), .slice a.a a.L.length a.k], .agg #[.int .i64 (lvl b.L.length), .slice b.a b.L.length b.k]] w _
 unfold cfB
 generalize lvl a.L.length = p at *
 generalize lvl b.L.length = q at *
 go_enter Tryz.func270, Tryz.ntmps270
 go_wp2_with fail
 go_ret
 exact ⟨by go_num, ((Gr.refl w).al _).al _⟩
theorem znq (a b : Bk) (w : World) : Calls Tryz.prog 272 #[.agg (bkC a).toArray, .agg (bkC b).toArray] w fun e w' => e = .returned (.int .i64 (cfB a b)) ∧ Gr w w' := by
 have h1 := zj1 a.L.length
 have h2 := zj1 b.L.length
 show Calls Tryz.prog _ #[.agg #[.int .i64 (lvl a.L.length), .slice a.a a.L.length a.k], .agg #[.int .i64 (lvl b.L.length), .slice b.a b.L.length b.k]] w _
 unfold cfB
 generalize lvl a.L.length = p at *
 generalize lvl b.L.length = q at *
 go_enter Tryz.func272, Tryz.ntmps272
 go_wp2_with fail
 go_ret
 exact ⟨by go_num, ((Gr.refl w).al _).al _⟩
theorem zc4 (x : Bk) : ∀ v ∈ bkC x, v.oneCell' = true := by
 intro v hv
 simp [bkC, Bk.v] at hv
 rcases hv with rfl | rfl <;> rfl
theorem zg2 (l : List Bk) : (Sort.insertionSort (ltOf cfB) l.toArray 0 l.length).toList.Perm l := by
 obtain ⟨hp, hs⟩ := insertionSort_holds zzw l.toArray 0 l.length (Nat.zero_le _) (by simp)
 have hsz : (Sort.insertionSort (ltOf cfB) l.toArray 0 l.length).size = l.length := by rw [hp.1]; simp
 have h := hp.2.2
 generalize Sort.insertionSort (ltOf cfB) l.toArray 0 l.length = X at h hsz
 have hx : X.extract 0 l.length = X := by rw [← hsz]; exact Array.extract_size
 rw [hx] at h
 simpa using h
theorem zu1 (f : Value) (W : World) : Calls Tryz.prog 298 #[.slice none 0 0, .int .i64 0, .int .i64 0, f] W fun e w' => e = .returned (.tuple #[]) ∧ w' = W := by
 go_enter Tryz.func298, Tryz.ntmps298
 go_wp2_with fail
 refine wp_loop_rounds 1 ?_
 rw [rounds_succ]
 go_wp2_with fail
 go_end0
 exact ⟨rfl, rfl⟩
section
variable (g : Nat) (eg : ∀ args w, (callFunc g args).run Tryz.prog w = .ok (.enter g args) w) (hcmp : ∀ (x y : Bk) (w : World), Calls Tryz.prog g #[.agg (bkC x).toArray, .agg (bkC y).toArray] w fun e w' => e = .returned (.int .i64 (cfB x y)) ∧ Gr w w')
include eg hcmp
theorem zu2 {W : World} {v : Value} {l : List Bk} (hl : l.length ≤ 100000) (h : SlV W 222 2 v l.length (zau l)) : Calls Tryz.prog 298 #[v, .int .i64 0, .int .i64 l.length, .func (.func g) #[] #[]] W fun e w' => e = .returned (.tuple #[]) ∧ ∃ m, m.Perm l ∧ SlV w' 222 2 v l.length (zau m) ∧ (∀ base, W.ownsRow base 222 2 v l.length (zau l) → w'.ownsRow base 222 2 v l.length (zau m)) ∧ Fr (fun k => v.ownBlock = some k) W w' := by
 rcases h.2 with ⟨rfl, h0⟩ | ⟨b, off, cap, cur, rfl, h1, h2, hg, h3⟩
 ·
  have : l = [] := List.eq_nil_of_length_eq_zero h0
  subst this
  refine (zu1 _ W).mono ?_
  rintro e w' ⟨rfl, rfl⟩
  exact ⟨rfl, [], List.Perm.refl _, h, fun _ h => h, Fr.refl _ _⟩
 ·
  have hH : HoldsK bkC 2 W b off l.toArray := zno hg h3
  have key := AnyQ.insertionSortCmpFunc Tryz.sortBl 2 Tryz.isAgg222 Tryz.sizeOf222 bkC (fun _ => rfl) zc4 cfB g #[] b off cap 0 l.length l.toArray W eg (fun _ _ _ _ x y => hcmp x y _) hH (zac hg) (Nat.zero_le _) (by simp) (by simp; omega)
  change Calls Tryz.prog 298 _ _ _ at key
  have hsl : (l.toArray).size = l.length := by simp
  rw [hsl] at key
  refine key.mono ?_
  rintro e w' ⟨rfl, n, os, rfl⟩
  obtain ⟨m, hm⟩ : ∃ m : List Bk, Sort.insertionSort (ltOf cfB) l.toArray 0 l.length = m.toArray := ⟨(Sort.insertionSort (ltOf cfB) l.toArray 0 l.length).toList, by simp⟩
  have hp := zg2 l
  rw [hm] at hp ⊢
  have hp : m.Perm l := by simpa using hp
  exact ⟨rfl, m, hp, zlj h hp.length_eq n os, fun base ho => zj4 hg ho hp.length_eq n os, (ziu n _ os).mono (fun k hk => by subst hk; rfl)⟩
theorem znr {W : World} {v : Value} {l : List Bk} (hl : l.length ≤ 19) (h : SlV W 222 2 v l.length (zau l)) : Calls Tryz.prog 288 #[v, .int .i64 l.length, .func (.func g) #[] #[]] W fun e w' => e = .returned (.tuple #[]) ∧ ∃ m, m.Perm l ∧ SlV w' 222 2 v l.length (zau m) ∧ (∀ base, W.ownsRow base 222 2 v l.length (zau l) → w'.ownsRow base 222 2 v l.length (zau m)) ∧ Fr (fun k => v.ownBlock = some k) W w' := by
 have HI := zu2 g eg hcmp (by omega) h
 clear h
 obtain ⟨n, hn⟩ := yye (l.length)
 rw [hn] at HI hl ⊢
 have HI := yyh HI
 clear hcmp hn
 go_enter Tryz.func288, Tryz.ntmps288
 have g1 : decide ((20 : Int) ≤ n) = false := by simp; omega
 have g2 : decide ((20 : Int) < n) = false := by simp; omega
 go_wp2_with fail
 refine wp_loop_rounds 1 ?_
 rw [rounds_succ]
 go_wp2_with fail
 refine HI.out.mono ?_
 rintro e w' ⟨rfl, m, hp, hS, hO, hF⟩
 go_wp2_with fail
 refine wp_loop_rounds 1 ?_
 rw [rounds_succ]
 go_wp2_with fail
 go_end0
 exact ⟨rfl, m, hp, hS, hO, hF⟩
theorem zer {W : World} {v : Value} {l : List Bk} (hl : l.length ≤ 19) (h : SlV W 222 2 v l.length (zau l)) : Calls Tryz.prog 269 #[v, .func (.func g) #[] #[]] W fun e w' => e = .returned (.tuple #[]) ∧ ∃ m, m.Perm l ∧ SlV w' 222 2 v l.length (zau m) ∧ (∀ base, W.ownsRow base 222 2 v l.length (zau l) → w'.ownsRow base 222 2 v l.length (zau m)) ∧ Fr (fun k => v.ownBlock = some k) W w' := by
 have HI := znr g eg hcmp hl h
 obtain ⟨a, cap, rfl, -, -, -, -⟩ := h.clip
 clear h
 obtain ⟨n, hn⟩ := yye (l.length)
 rw [hn] at HI hl ⊢
 have HI := yyh HI
 clear hcmp hn
 go_enter Tryz.func269, Tryz.ntmps269
 go_wp2_with fail
 refine HI.out.mono ?_
 rintro e w' ⟨rfl, m, hp, hS, hO, hF⟩
 go_wp2_with fail
 go_end0
 exact ⟨rfl, m, hp, hS, hO, hF⟩
end
end Go.Proofs.YtcfhkbcllijnkaaGreat
