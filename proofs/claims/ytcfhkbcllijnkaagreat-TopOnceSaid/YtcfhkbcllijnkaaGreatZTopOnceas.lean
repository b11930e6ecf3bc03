/- Parts of the proof of TopOnce, under no condition. -/
import Derived.Test.YtcfhkbcllijnkaaGreatZTopOncear
import Derived.StillTailTactics
import Derived.Test.YtcfhkbcllijnkaaGreatZTopOnceag
set_option linter.unusedVariables false
set_option linter.unusedSimpArgs false
set_option maxRecDepth 100000
set_option maxHeartbeats 0
namespace Go.Proofs.YtcfhkbcllijnkaaGreat
open Go.RowKit Go.Proofs.YtcfhkbcllijnkaaGreatW.PrintWords
section
variable {W W' : World} {a b g : Nat} {ws : List Int} {B : Int}
theorem zbm.dr' {b g : Nat} {ws : List Int} {st wi at_ kd : Int} (h : zbm W b g ws st wi at_ kd) : zbm W.drew b g ws st wi at_ kd := ⟨h.hdr, h.row, h.ne, h.len, h.st0, h.wi0, h.wst⟩
theorem zre (n : Nat) : ∀ j, 0 ≤ (List.replicate n (0 : Int)).getD j 0 ∧ (List.replicate n (0 : Int)).getD j 0 ≤ top := by
 intro j
 have : (List.replicate n (0 : Int)).getD j 0 = 0 := by
  rw [yyd, List.getElem?_replicate]
  split <;> rfl
 rw [this]
 exact ⟨by decide, by decide⟩
theorem zuo (n : Int) (h1 : 1 ≤ n) (h2 : n ≤ 1000) (w : World) : Calls Tryz.prog 165 #[.int .i64 n] w fun e w' => ∃ a b g, e = .returned (.tuple #[.pointer (some ⟨a, 0, none⟩), .int .i64 0]) ∧ zc2 w' a b g (List.replicate n.toNat 0) 0 ∧ w.heap.size ≤ a ∧ w.heap.size ≤ b ∧ w.heap.size ≤ g ∧ Below w.heap.size w w' := by
 have g1 : decide (n < 1) = false := by simp; omega
 have g2 : decide (n > 1000) = false := by simp; omega
 have g3 : decide (1000 < n) = false := by simp; omega
 go_enter Tryz.func165, Tryz.ntmps165
 go_wp2_with fail
 refine (zsx n h1 (by omega) _).mono ?_
 rintro e w1 ⟨rfl, hM, hB⟩
 go_wp2_with fail
 go_ret2
 have hb := (yya.1 hM.hdr).1
 have hg := (yya.1 hM.row).1
 refine ⟨w1.heap.size, w.heap.size + 1, w.heap.size, rfl, ⟨zax rfl, ⟨_, _, _, _, hM.below' (zab yyr _), Int.le_refl _⟩, by omega, by omega, zre _⟩, by omega, by omega, by omega, zab hB _⟩
theorem zrf (h : zc2 W a b g ws B) (hs : B ≤ 900000000) (s : Int) (hsw : (Lit.int .i64 s).wf = true) (hcan : canB 0 s = true) (k : Nat) (hk : k < ws.length) (hpre : ∀ j, j < k → (ws.getD j 0 % 8 == 0) = false) (hfree : (ws.getD k 0 % 8 == 0) = true) : Calls Tryz.prog 122 #[.pointer (some ⟨a, 0, none⟩), .int .i64 s] W fun e w' => e = .returned (.tuple #[.int .i64 ((k : Int) + 1), .int .i64 0]) ∧ zc2 w' a b g (ws.set k (zcu (ws.getD k 0) s)) (B + k + 2) ∧ Fr (zb5 b g) W w' := by
 have hC := fun w => zk7 0 s (show (Lit.int .i64 0).wf = true from by decide) hsw w
 rw [hcan] at hC
 have hlen : ws.length ≤ 4096 := by obtain ⟨_, _, _, _, hM, _⟩ := h.mem; exact hM.len
 have HC := yyh hC
 have hwf := h.wf k
 obtain ⟨X, hX⟩ := yye (ws.getD k 0)
 rw [hX] at hfree hwf ⊢
 obtain ⟨Y, hY⟩ := yye (zcu X s)
 rw [hY]
 have hybd := zlf X s
 rw [hY] at hybd
 have HALL := yyh hpre
 have HK := yyh hfree
 have HA := yyh h
 have HX := yyh hX
 have HY := yyh hY
 clear h hC hcan hpre hfree hX hY
 go_enter Tryz.func122, Tryz.ntmps122
 go_wp2_with fail
 refine (HC.out _).mono ?_
 rintro e w1 ⟨rfl, hB⟩
 have hA1 := HA.out.below hB
 have hF1 : Fr (zb5 b g) W w1 := Fr.of_below hB
 go_wp2_with fail
 go_loopg [6, 7] k (fun gg v6 v7 wr => ∃ i : Nat, gg = k - i ∧ i ≤ k ∧ v6 = .int .i64 ((i : Int) + 1) ∧ zc2 wr a b g ws (B + i) ∧ Fr (zb5 b g) W wr)
 case atStart => exact ⟨0, by omega, by omega, rfl, hA1.le (by omega), hF1⟩
 case round =>
  clear hA1 hF1 hB
  obtain ⟨i, rfl, hi, rfl, hA, hF⟩ := hrel
  obtain ⟨st, wi, at_, kd, hM, hst⟩ := hA.mem
  have c0 := hA.cell
  have g1 : decide ((i : Int) + 1 ≤ ws.length) = true := by simp; omega
  have hW := zlg hA (by omega) ((i : Int) + 1) i rfl (by omega)
  by_cases hlt : i < k
  ·
   have hX2 := HALL.out i hlt
   obtain ⟨Z, hZ⟩ := yye (ws.getD i 0)
   rw [hZ] at hX2 hW
   have HW := yyh hW
   have HM := yyh hM
   clear hW hZ hA hM
   go_wp2_with fail
   refine (zk9 HM.out).mono ?_
   rintro e w' ⟨rfl, rfl⟩
   go_wp2_with fail
   refine HW.out.mono ?_
   rintro e w2 ⟨rfl, hA2, hF2⟩
   go_wp2_with fail
   go_big_quiet ((go_at_call 143; exact Calls.quiet_of_same (zdr (zd7 _ _))))
   go_wp2_with fail
   go_roundg (k - (i + 1))
   case measure => omega
   case rel => exact ⟨i + 1, by omega, by omega, by go_num, (hA2.drN nq).le (by omega), (hF.trans hF2).drN nq⟩
  ·
   obtain rfl : i = k := by omega
   have hX2 := HK.out
   rw [HX.out] at hW
   have HW := yyh hW
   have HM := yyh hM
   clear hW hA hM
   go_wp2_with fail
   refine (zk9 HM.out).mono ?_
   rintro e w' ⟨rfl, rfl⟩
   go_wp2_with fail
   refine HW.out.mono ?_
   rintro e w2 ⟨rfl, hA2, hF2⟩
   obtain ⟨st2, wi2, at2, kd2, hM2, hst2⟩ := hA2.mem
   have hMd := hM2.dr'
   have c2 := hA2.cell
   have c2d := hA2.dr.cell
   have HNS := yyh hA2.nS
   have HAD := yyh hA2.dr
   have hFd := (hF.trans hF2).dr
   have HMD := yyh hMd
   have HN := yyh (fun w => zdr (zma X s hwf.1 hwf.2 w))
   rw [HY.out] at HN
   clear hA2 hM2 hMd c0 hF hF2
   go_wp2_with fail
   refine wp_region_still_tail 14 (by kernel_rfl) (by kernel_rfl) ?_
   simp only [List.take_succ_cons, List.take_zero, List.drop_succ_cons, List.drop_zero]
   still_step
   still_call (zdr (zd7 X _))
   iterate 11 still_step
   still_call (HN.out _)
   refine wpStill_nil ?_
   change wpList _ _ _ _ _ w2.drew
   generalize w2.drew = w3 at *
   go_wp2_with fail
   refine (zoq HMD.out (by omega) i (by omega) (by omega) X Y (by rw [Int.toNat_natCast, HX.out]; simp)).mono ?_
   rintro e w4 ⟨rfl, hM3, hF3⟩
   rw [Int.toNat_natCast] at hM3
   go_wp2_with fail
   go_ret2
   exact ⟨rfl, HAD.out.step hF3 hM3 (by omega) (zs2 HAD.out.wf _ _ hybd.1 hybd.2), hFd.trans hF3⟩
end
theorem zme (x s : Int) (h0 : 0 ≤ s) (h1 : s < 8) : zcu x s % 8 = s := by
 unfold zcu zgt
 omega
theorem zc2.put {W : World} {a b g : Nat} {ws : List Int} {B : Int} (h : zc2 W a b g ws B) {c j : Nat} (ha : a ≠ c) (hb : b ≠ c) (hg : g ≠ c) (v : Value) : zc2 (W.setCell ⟨c, j, none⟩ v) a b g ws B :=
 h.fr ((Fr.refl (fun k => k = c) W).set rfl v) ha hb hg
theorem zc2.lts {W : World} {a b g : Nat} {ws : List Int} {B : Int} (h : zc2 W a b g ws B) : a < W.heap.size ∧ b < W.heap.size ∧ g < W.heap.size := by
 obtain ⟨st, wi, at_, kd, hM, hst⟩ := h.mem
 exact ⟨(yya.1 h.hdr).1, (yya.1 hM.hdr).1, (yya.1 hM.row).1⟩
def zc3 (r : Nat) : Nat → Prop := fun k => k = r
end Go.Proofs.YtcfhkbcllijnkaaGreat
namespace Go.Proofs.YtcfhkbcllijnkaaGreat
open Go.RowKit Go.Maps Go.Proofs.YtcfhkbcllijnkaaGreatW.PrintWords
def zmf (W : World) (mb : Nat) (C : Int → Int → Int) : Prop := ∃ f, zdo W mb f ∧ ∀ x y, (f x y).getD (.int .i64 0) = .int .i64 (C x y)
def zkw (C : Int → Int → Int) (x y : Int) (v : Int) : Int → Int → Int := fun a b => if a = x ∧ b = y then v else C a b
structure zbz (W : World) (t a b g mb : Nat) (ws : List Int) (B : Int) (rv : Value) (n : Nat) (R : List Value) (C : Int → Int → Int) (base : Nat) : Prop where
 hdr : W.heap[t]? = some (.cells #[.pointer (some ⟨a, 0, none⟩), rv, .map (some mb)] 163 (0, 0))
 ar : zc2 W a b g ws B
 rows : W.ownsRow base 177 13 rv n R
 map : zmf W mb C
 lt : t < base ∧ a < base ∧ b < base ∧ g < base ∧ mb < base
 ne : t ≠ a ∧ t ≠ b ∧ t ≠ g ∧ t ≠ mb ∧ mb ≠ a ∧ mb ≠ b ∧ mb ≠ g
theorem zh3 : Keyed Tryz.prog 201 := Keyed.of_law (deep_law_laid zdt (m := 2) (by decide) (of_decide_eq_true (by kernel_rfl)) (by kernel_rfl) (by kernel_rfl))
theorem zrg : Go.WideMaps.ArrKey Tryz.prog 201 3 2 := ⟨by kernel_rfl, by kernel_rfl, by kernel_rfl, by kernel_rfl⟩
theorem zjz (a b : Int) (ha : zbl a) (hb : zbl b) : ∃ l, keyOf Tryz.prog 201 (pk a b) = some l :=
 ⟨_, Go.WideMaps.keyOf_pair zrg Tryz.underlying3 ⟨_, rfl⟩ ha hb⟩
theorem zio (w : World) : (zeroValue 3).run Tryz.prog w = .ok (.int .i64 0) w := by kernel_rfl
section
variable {W W' : World} {t a b g mb : Nat} {ws : List Int} {B : Int} {rv : Value} {n : Nat} {R : List Value} {C : Int → Int → Int} {base : Nat}
theorem zmf.look (h : zmf W mb C) (x y : Int) (hx : zbl x) (hy : zbl y) : (Instr.lookup 161 (.map (some mb)) (.agg #[.int .i64 x, .int .i64 y]) false).run Tryz.prog W = .ok (.int .i64 (C x y)) W := by
 obtain ⟨f, hM, hf⟩ := h
 have := hM.lookup zh3 zjz Tryz.underlying161 (.int .i64 0) (zio W) x y hx hy
 rw [hf] at this
 exact this
theorem zmf.of_block (h : zmf W mb C) (hb : W'.heap[mb]? = W.heap[mb]?) : zmf W' mb C := by
 obtain ⟨f, ⟨es, clock, h1, h2⟩, hf⟩ := h
 exact ⟨f, ⟨es, clock, hb.trans h1, h2⟩, hf⟩
theorem zup (f : Int → Int → Option Value) (C : Int → Int → Int) (hf : ∀ x y, (f x y).getD (.int .i64 0) = .int .i64 (C x y)) (x y v : Int) : ∀ p q, (zds f x y (.int .i64 v) p q).getD (.int .i64 0) = .int .i64 (zkw C x y v p q) := by
 intro p q
 unfold zds zkw
 split
 · rfl
 · exact hf p q
theorem zmf.entry (h : zmf W mb C) (x y : Int) (hx : zbl x) (hy : zbl y) : ∃ (st : Nat) (es : Array MapEntry) (clock : Nat), (Instr.mapEntry 161 (.map (some mb)) (.agg #[.int .i64 x, .int .i64 y])).run Tryz.prog W = .ok (.tuple #[.int .i64 (C x y), .int .i64 (st : Int)]) (World.setBlk W mb (.map es clock)) ∧ zmf (World.setBlk W mb (.map es clock)) mb C ∧
 (∀ v : Int, ∃ es' clock', (Instr.entryStore 161 (.map (some mb)) (.int .i64 (st : Int)) (.int .i64 v)).run Tryz.prog (World.setBlk W mb (.map es clock)) = .ok () (World.setBlk W mb (.map es' clock')) ∧ zmf (World.setBlk W mb (.map es' clock')) mb (zkw C x y v)) := by
 obtain ⟨f, hM, hf⟩ := h
 obtain ⟨es0, clock0, hb0, hE0⟩ := id hM
 obtain ⟨st, es, clock, h1, hmid, h2⟩ := hM.entry zh3 zjz Tryz.underlying161 (.int .i64 0) (zio W) x y hx hy
 rw [hf] at h1
 refine ⟨st, es, clock, h1, ⟨_, ⟨es, clock, zbs W mb _ _ hb0, hmid⟩, ?_⟩, fun v => ?_⟩
 ·
  intro p q
  unfold zds
  split
  · rename_i hh
    rw [hh.1, hh.2, ← hf]
    rfl
  · exact hf p q
 have hg := zbs W mb (.map es clock) _ hb0
 obtain ⟨es', clock', q1, q2⟩ := h2 _ (.int .i64 v) hg
 have e : World.setBlk (World.setBlk W mb (.map es clock)) mb (.map es' clock') = World.setBlk W mb (.map es' clock') := by
  have e2 : ∀ A B : Obj, (W.heap.setIfInBounds mb A).setIfInBounds mb B = W.heap.setIfInBounds mb B := by
   intro A B
   apply Array.ext_getElem?
   intro i
   simp only [Array.getElem?_setIfInBounds, Array.size_setIfInBounds]
   split <;> rfl
  unfold World.setBlk
  simp only [e2]
 rw [e] at q1
 exact ⟨es', clock', q1, _, ⟨es', clock', zbs W mb _ _ hb0, q2⟩, zup f C hf x y v⟩
theorem zbz.cells (h : zbz W t a b g mb ws B rv n R C base) : W.cell? ⟨t, 0, none⟩ = some (.pointer (some ⟨a, 0, none⟩)) ∧ W.cell? ⟨t, 1, none⟩ = some rv ∧ W.cell? ⟨t, 2, none⟩ = some (.map (some mb)) := by
 refine ⟨?_, ?_, ?_⟩ <;> simp [World.cell?, h.hdr]
theorem zni {q cap : Nat} (h : zbz W t a b g mb ws B (.slice (some ⟨q, 0, none⟩) n cap) n R C base) (id : Int) (k : Nat) (hid : id = k + 1) (hk : k < n) (hn : n ≤ 5000) : Calls Tryz.prog 98 #[.pointer (some ⟨t, 0, none⟩), .int .i64 id] W fun e w' => e = .returned (.pointer (some ⟨q, k * 13, none⟩)) ∧ W = w' := by
 subst hid
 obtain ⟨c0, c1, c2⟩ := h.cells
 have g1 : decide ((k : Int) + 1 < 1) = false := by simp; omega
 have g2 : decide ((k : Int) + 1 > n) = false := by simp; omega
 have g3 : decide ((n : Int) < (k : Int) + 1) = false := by simp; omega
 clear h
 go_enter Tryz.func98, Tryz.ntmps98
 go_wp2_with fail
 go_ret
 exact ⟨by simp, rfl⟩
def znj (C : Int → Int → Int) (s : Int) : Nat → Int
 | 0 => 0
 | k + 1 => znj C s k + C s k
theorem zuq (C : Int → Int → Int) (s : Int) (hC : ∀ x y, 0 ≤ C x y ∧ C x y ≤ 1000000) (k : Nat) : 0 ≤ znj C s k ∧ znj C s k ≤ 1000000 * k := by
 induction k with
 | zero => simp [znj]
 | succ k ih =>
  have := hC s k
  simp only [znj]
  omega
theorem znk (h : zbz W t a b g mb ws B rv n R C base) (hC : ∀ x y, 0 ≤ C x y ∧ C x y ≤ 1000000) (s : Int) (hs : zbl s) : Calls Tryz.prog 84 #[.pointer (some ⟨t, 0, none⟩), .int .i64 s] W fun e w' => e = .returned (.int .i64 (znj C s 8)) ∧ W = w' := by
 obtain ⟨c0, c1, c2⟩ := h.cells
 have HM := yyh h.map
 have HC := yyh hC
 have HS := yyh hs
 clear h hC hs
 go_enter Tryz.func84, Tryz.ntmps84
 go_wp2_with fail
 go_loopg [5, 6, 7] 8 (fun gg v5 v6 v7 wr => ∃ i : Nat, gg = 8 - i ∧ i ≤ 8 ∧ v7 = .int .i64 i ∧ v5 = .int .i64 (znj C s i) ∧ W = wr)
 case atStart => exact ⟨0, rfl, by omega, rfl, rfl, rfl⟩
 case round =>
  obtain ⟨i, rfl, hi, rfl, rfl, rfl⟩ := hrel
  by_cases hlt : i < 8
  ·
   have hb := zuq C s HC.out i
   have hc := HC.out s i
   have hl := HM.out.look s i HS.out (show (Lit.int .i64 (i : Int)).wf = true from by simp [Lit.wf, IntKind.min, IntKind.max, IntKind.signed, IntKind.bits]; omega)
   have hS : znj C s (i + 1) = znj C s i + C s i := rfl
   obtain ⟨X, hX⟩ := yye (znj C s i)
   obtain ⟨Y, hY⟩ := yye (C s i)
   rw [hX] at hb hS ⊢
   rw [hY] at hc hl hS
   have HSS := yyh hS
   clear hX hY hS
   go_wp2_with fail
   go_roundg (8 - (i + 1))
   case measure => omega
   case rel => exact ⟨i + 1, rfl, by omega, by go_num, by rw [HSS.out], rfl⟩
  ·
   obtain rfl : i = 8 := by omega
   go_wp2_with fail
   go_ret
   exact ⟨rfl, rfl⟩
end
section
variable {W W' : World} {t a b g mb : Nat} {ws : List Int} {B : Int} {rv : Value} {n : Nat} {R : List Value} {C : Int → Int → Int} {base : Nat} {q cap : Nat}
theorem zbz.q_ge (h : zbz W t a b g mb ws B (.slice (some ⟨q, 0, none⟩) n cap) n R C base) : base ≤ q ∧ q < W.heap.size := h.rows.lt q rfl
theorem zbz.rset (h : zbz W t a b g mb ws B (.slice (some ⟨q, 0, none⟩) n cap) n R C base) (j : Nat) (v : Value) : zbz (W.setCell ⟨q, j, none⟩ v) t a b g mb ws B (.slice (some ⟨q, 0, none⟩) n cap) n (R.set j v) C base := by
 obtain ⟨hq, _⟩ := h.q_ge
 obtain ⟨l1, l2, l3, l4, l5⟩ := h.lt
 refine ⟨za1 h.hdr (by omega) v, h.ar.put (by omega) (by omega) (by omega) v, (h.rows.stored j v).1, h.map.of_block (Below.heap_setCell W ⟨q, j, none⟩ v mb (by show mb ≠ q; omega)), h.lt, h.ne⟩
theorem zbz.below (h : zbz W t a b g mb ws B rv n R C base) (hb : Below W.heap.size W W') : zbz W' t a b g mb ws B rv n R C base := by
 obtain ⟨f, ⟨es, clock, h1, h2⟩, hf⟩ := h.map
 refine ⟨(hb.block t (yya.1 h.hdr).1).trans h.hdr, h.ar.below hb, ?_, h.map.of_block (hb.block mb (yya.1 h1).1), h.lt, h.ne⟩
 refine h.rows.kept (row := none) ⟨hb.os, hb.tape, hb.output, hb.size, fun k hk _ => hb.block k hk⟩ ?_
 cases hv : rv.ownBlock with
 | none => exact .inl rfl
 | some x => exact .inr (by simp)
theorem zbz.al (h : zbz W t a b g mb ws B rv n R C base) (o : Obj) : zbz (W.alloc o) t a b g mb ws B rv n R C base := h.below (zab yyr o)
theorem zbz.dr (h : zbz W t a b g mb ws B rv n R C base) : zbz W.drew t a b g mb ws B rv n R C base := h.below (zaf yyr)
theorem zbz.rcell (h : zbz W t a b g mb ws B (.slice (some ⟨q, 0, none⟩) n cap) n R C base) (j : Nat) (hj : j < n * 13) (v : Value) (hv : R[j]? = some v) : W.cell? ⟨q, j, none⟩ = some v := (h.rows.cellAt j hj).trans hv
theorem zbz.rfree (h : zbz W t a b g mb ws B (.slice (some ⟨q, 0, none⟩) n cap) n R C base) (j : Nat) : W.frozen? ⟨q, j, none⟩ = false := h.rows.frozenAt j
def zyo (R : List Value) (k : Nat) (f p d r m : Int) : Prop := R[k * 13 + 8]? = some (.int .u64 f) ∧ R[k * 13 + 9]? = some (.int .u64 p) ∧ R[k * 13 + 10]? = some (.int .u64 d) ∧ R[k * 13 + 11]? = some (.int .u64 r) ∧ R[k * 13 + 12]? = some (.int .u64 m)
end
section
variable {W W' : World} {t a b g mb : Nat} {ws : List Int} {B : Int} {rv : Value} {n : Nat} {R : List Value} {C : Int → Int → Int} {base : Nat} {q cap : Nat}
theorem zar (W : World) (k : Nat) (o : Obj) (i : Nat) (h : i ≠ k) : (World.setBlk W k o).heap[i]? = W.heap[i]? := by
 show (W.heap.setIfInBounds k o)[i]? = _
 rw [Array.getElem?_setIfInBounds, if_neg (Ne.symm h)]
theorem zbj (W : World) (k : Nat) (o : Obj) : (World.setBlk W k o).heap.size = W.heap.size := by simp [World.setBlk]
theorem Fr.of_setBlk {S : Nat → Prop} (W : World) (k : Nat) (o : Obj) (hk : S k) : Fr S W (World.setBlk W k o) :=
 ⟨rfl, rfl, rfl, by rw [zbj]; exact yyn, fun i _ hn => zar W k o i (fun e => hn (e ▸ hk))⟩
theorem zbz.setMap (h : zbz W t a b g mb ws B rv n R C base) {C' : Int → Int → Int} {es : Array MapEntry} {clock : Nat} (hm : zmf (World.setBlk W mb (.map es clock)) mb C') : zbz (World.setBlk W mb (.map es clock)) t a b g mb ws B rv n R C' base := by
 obtain ⟨l1, l2, l3, l4, l5⟩ := h.lt
 obtain ⟨n1, n2, n3, n4, n5, n6, n7⟩ := h.ne
 refine ⟨(zar W mb _ t n4).trans h.hdr, h.ar.fr (Fr.of_setBlk (S := fun k => k = mb) W mb _ rfl) (fun e => n5 e.symm) (fun e => n6 e.symm) (fun e => n7 e.symm), ?_, hm, h.lt, h.ne⟩
 refine h.rows.kept (row := some mb) ⟨rfl, rfl, rfl, by rw [zbj]; exact yyn, fun k _ hn => zar W mb _ k (fun e => hn (by rw [e]))⟩ ?_
 cases hv : rv.ownBlock with
 | none => exact .inl rfl
 | some x =>
  right
  have := (h.rows.lt x hv).1
  intro e
  injection e with e
  omega
theorem zbz.arFr (h : zbz W t a b g mb ws B rv n R C base) {ws' : List Int} {B' : Int} (f : Fr (zb5 b g) W W') (hA : zc2 W' a b g ws' B') : zbz W' t a b g mb ws' B' rv n R C base := by
 obtain ⟨l1, l2, l3, l4, l5⟩ := h.lt
 obtain ⟨n1, n2, n3, n4, n5, n6, n7⟩ := h.ne
 obtain ⟨fm, ⟨es, clock, h1, h2⟩, hf⟩ := h.map
 have hmlt := (yya.1 h1).1
 have hnm : ¬ zb5 b g mb := fun hh => by rcases hh with hh | hh <;> omega
 have hnt : ¬ zb5 b g t := fun hh => by rcases hh with hh | hh <;> omega
 refine ⟨(f.block t (yya.1 h.hdr).1 hnt).trans h.hdr, hA, ?_, h.map.of_block (f.block mb hmlt hnm), h.lt, h.ne⟩
 cases hv : rv.ownBlock with
 | none =>
  rcases h.rows.2 with ⟨e1, e2⟩ | ⟨g', c', cur, e1, _⟩
  · exact ⟨h.rows.1, .inl ⟨e1, e2⟩⟩
  · rw [e1] at hv; cases hv
 | some x =>
  have hx := h.rows.lt x hv
  have hnx : ¬ zb5 b g x := fun hh => by rcases hh with hh | hh <;> omega
  rcases h.rows.2 with ⟨e1, e2⟩ | ⟨g', c', cur, e1, e2, e3, e4⟩
  · rw [e1] at hv; cases hv
  ·
   rw [e1] at hv
   injection hv with hv
   have hv : g' = x := hv
   subst hv
   exact ⟨h.rows.1, .inr ⟨g', c', cur, e1, e2, (f.block g' hx.2 hnx).trans e3, e4⟩⟩
def zrh (C : Int → Int → Int) (s0 s p : Int) : Int → Int → Int := zkw (zkw C s0 p (C s0 p - 1)) s p (zkw C s0 p (C s0 p - 1) s p + 1)
def zwz (b g mb q : Nat) : Nat → Prop := fun k => zb5 b g k ∨ k = mb ∨ k = q
theorem zri (h : zbz W t a b g mb ws B (.slice (some ⟨q, 0, none⟩) n cap) n R C base) (hB : B ≤ 800000000) (k : Nat) (hk : k < n) (hkw : k < ws.length) (hn : n ≤ 5000) (s : Int) (s0 : 1 ≤ s) (s1 : s ≤ 6) (hcan : canB (ws.getD k 0 % 8) s = true) (hC : ∀ x y, 0 ≤ C x y ∧ C x y ≤ 1000000) (PR RU : Int) (p0 : 0 ≤ PR) (p1 : PR ≤ 7) (hPR : R[k * 13 + 1]? = some (.int .i64 PR)) (hRU : R[k * 13 + 5]? = some (.int .u64 RU)) :
 Calls Tryz.prog 100 #[.pointer (some ⟨t, 0, none⟩), .int .i64 ((k : Int) + 1), .int .i64 s] W fun e w' => e = .returned (.int .i64 0) ∧ zbz w' t a b g mb (ws.set k (zcu (ws.getD k 0) s)) (B + 2) (.slice (some ⟨q, 0, none⟩) n cap) n (if s = 4 ∨ s = 5 then R.set (k * 13 + 5) (.int .u64 (IntKind.u64.wrap (RU + 1))) else R) (zrh C (ws.getD k 0 % 8) s PR) base ∧ Fr (zwz b g mb q) W w' := by
 have HAT := yyh (zni h ((k : Int) + 1) k rfl hk hn)
 have hW := zlg h.ar (by omega) ((k : Int) + 1) k rfl hkw
 have hwf := h.ar.wf k
 have hT : ∀ w, zc2 w a b g ws (B + 1) → Calls Tryz.prog 145 #[.pointer (some ⟨a, 0, none⟩), .int .i64 ((k : Int) + 1), .int .u64 (ws.getD k 0), .int .i64 s] w fun e w' => e = .returned (.tuple #[.int .u64 (zcu (ws.getD k 0) s), .int .i64 0]) ∧ zc2 w' a b g (ws.set k (zcu (ws.getD k 0) s)) (B + 2) ∧ Fr (zb5 b g) w w' := by
  intro w hA
  refine (zun hA _ (ws.getD k 0) s k rfl hkw hwf.1 hwf.2 s0 s1 hcan (by omega) (by simp)).mono ?_
  rintro e w' ⟨h1, h2, h3⟩
  exact ⟨h1, h2.le (by omega), h3⟩
 obtain ⟨X, hX⟩ := yye (ws.getD k 0)
 rw [hX] at hW hT hwf ⊢
 obtain ⟨Y, hY⟩ := yye (zcu X s)
 rw [hY] at hT ⊢
 obtain ⟨S0, hS0, sb0, sb1⟩ : ∃ S0, X % 8 = S0 ∧ 0 ≤ S0 ∧ S0 ≤ 7 := ⟨_, rfl, by omega, by omega⟩
 rw [hS0]
 obtain ⟨RR, hRR⟩ : ∃ RR, (if s = 4 ∨ s = 5 then R.set (k * 13 + 5) (.int .u64 (IntKind.u64.wrap (RU + 1))) else R) = RR := ⟨_, rfl⟩
 rw [hRR]
 have HRR := yyh hRR
 clear hRR
 have i1 : zbl S0 := by show (Lit.int .i64 S0).wf = true; simp [Lit.wf, IntKind.min, IntKind.max, IntKind.signed, IntKind.bits]; omega
 have i2 : zbl PR := by show (Lit.int .i64 PR).wf = true; simp [Lit.wf, IntKind.min, IntKind.max, IntKind.signed, IntKind.bits]; omega
 have i3 : zbl s := by show (Lit.int .i64 s).wf = true; simp [Lit.wf, IntKind.min, IntKind.max, IntKind.signed, IntKind.bits]; omega
 have I1 := yyh i1
 have I2 := yyh i2
 have I3 := yyh i3
 obtain ⟨c0, c1, c2⟩ := h.cells
 have HW := yyh hW
 have HT := yyh hT
 have HH := yyh h
 have HS0 := yyh hS0
 have HPR := yyh hPR
 have HRU := yyh hRU
 have HCB := yyh hC
 clear h hW hT hX hY hS0 hcan hPR hRU hC i1 i2 i3 hwf
 go_enter Tryz.func100, Tryz.ntmps100
 go_wp2_with fail
 refine HAT.out.mono ?_
 rintro e w' ⟨rfl, rfl⟩
 go_wp2_with fail
 refine HW.out.mono ?_
 rintro e w1 ⟨rfl, hA1, hF1⟩
 have h1 := HH.out.arFr hF1 hA1
 obtain ⟨d0, d1, d2⟩ := h1.cells
 have H1 := yyh h1
 clear h1 c0 c1 c2
 go_wp2_with fail
 refine (HT.out _ hA1).mono ?_
 rintro e w2 ⟨rfl, hA2, hF2⟩
 have h2 := H1.out.arFr hF2 hA2
 have hF3 : Fr (zwz b g mb q) W w2 := (hF1.trans hF2).mono (fun k hk => .inl hk)
 clear hA1 hF1 hA2 hF2 d0 d1 d2
 obtain ⟨d0, d1, d2⟩ := h2.cells
 have kp := h2.rcell (k * 13 + 1) (by omega) _ HPR.out
 have H2 := yyh h2
 clear h2
 go_upto_region 8 with fail
 go_cut [] (fun wx => zbz wx t a b g mb (ws.set k Y) (B + 2) (.slice (some ⟨q, 0, none⟩) n cap) n R (zkw C S0 PR (C S0 PR - 1)) base ∧ Fr (zwz b g mb q) W wx)
 case first =>
  have h2d := H2.out.dr
  obtain ⟨f0, f1, f2⟩ := h2d.cells
  have kpd := h2d.rcell (k * 13 + 1) (by omega) _ HPR.out
  have hl1 := h2d.map.look S0 PR I1.out I2.out
  obtain ⟨st1, es1, ck1, hen1, hmid, hst1⟩ := h2d.map.entry S0 PR I1.out I2.out
  have h2m := h2d.setMap hmid
  obtain ⟨g0, g1, g2⟩ := h2m.cells
  have kpm := h2m.rcell (k * 13 + 1) (by omega) _ HPR.out
  have hl2 := hmid.look S0 PR I1.out I2.out
  have hcb := HCB.out S0 PR
  obtain ⟨C0, hC0⟩ : ∃ z, C S0 PR = z := ⟨_, rfl⟩
  rw [hC0] at hl1 hl2 hen1 hcb
  have hwr : IntKind.i64.wrap (C0 - 1) = C0 - 1 := by rw [IntKind.wrap_i64]; omega
  obtain ⟨es2, ck2, hes1, hcm1⟩ := hst1 (C0 - 1)
  have H2D := yyh h2d
  have HCM1 := yyh hcm1
  have HC0 := yyh hC0
  clear h2d h2m hmid hst1 hcm1 hC0 d0 d1 d2 kp
  go_region_with (first | (go_at_call 143; refine (zd7 X _).mono ?_; rintro e w3 ⟨rfl, rfl⟩; rw [HS0.out]))
  all_goals
   go_wp2_with fail
   go_meet
   rw [HC0.out]
   exact ⟨H2D.out.setMap HCM1.out, (hF3.dr).trans (Fr.of_setBlk _ _ _ (.inr (.inl rfl)))⟩
 case rest =>
 clear d0 d1 d2 kp hF3
 obtain ⟨h3, hF3⟩ := hcut
 obtain ⟨C1, hC1⟩ := yye (zkw C S0 PR (C S0 PR - 1))
 rw [hC1] at h3
 have hcb1 : -1 ≤ C1 s PR ∧ C1 s PR ≤ 1000000 := by
  have h1 := HCB.out S0 PR
  have h2 := HCB.out s PR
  rw [← hC1]
  unfold zkw
  split <;> omega
 have HC1 := yyh hC1
 have HCB1 := yyh hcb1
 clear hC1 hcb1
 obtain ⟨d0, d1, d2⟩ := h3.cells
 have kp := h3.rcell (k * 13 + 1) (by omega) _ HPR.out
 have H3 := yyh h3
 clear h3
 go_upto_region 9 with fail
 go_cut [] (fun wx => zbz wx t a b g mb (ws.set k Y) (B + 2) (.slice (some ⟨q, 0, none⟩) n cap) n R (zkw C1 s PR (C1 s PR + 1)) base ∧ Fr (zwz b g mb q) W wx)
 case first =>
  have h2d := H3.out.dr
  obtain ⟨f0, f1, f2⟩ := h2d.cells
  have kpd := h2d.rcell (k * 13 + 1) (by omega) _ HPR.out
  have hl1 := h2d.map.look s PR I3.out I2.out
  obtain ⟨st1, es1, ck1, hen1, hmid, hst1⟩ := h2d.map.entry s PR I3.out I2.out
  have h2m := h2d.setMap hmid
  obtain ⟨g0, g1, g2⟩ := h2m.cells
  have kpm := h2m.rcell (k * 13 + 1) (by omega) _ HPR.out
  have hl2 := hmid.look s PR I3.out I2.out
  have hcb := HCB1.out
  obtain ⟨C0, hC0⟩ : ∃ z, C1 s PR = z := ⟨_, rfl⟩
  rw [hC0] at hl1 hl2 hen1 hcb
  have hwr : IntKind.i64.wrap (C0 + 1) = C0 + 1 := by rw [IntKind.wrap_i64]; omega
  obtain ⟨es2, ck2, hes1, hcm1⟩ := hst1 (C0 + 1)
  have H2D := yyh h2d
  have HCM1 := yyh hcm1
  have HC0 := yyh hC0
  clear h2d h2m hmid hst1 hcm1 hC0 d0 d1 d2 kp
  go_region
  all_goals
   go_wp2_with fail
   go_meet
   rw [HC0.out]
   exact ⟨H2D.out.setMap HCM1.out, (hF3.dr).trans (Fr.of_setBlk _ _ _ (.inr (.inl rfl)))⟩
 case rest =>
 clear d0 d1 d2 kp hF3
 obtain ⟨h4, hF4⟩ := hcut
 rw [show zkw C1 s PR (C1 s PR + 1) = zrh C S0 s PR from by rw [← HC1.out]; rfl] at h4
 have kr := h4.rcell (k * 13 + 5) (by omega) _ HRU.out
 have fr := h4.rfree (k * 13 + 5)
 have H4 := yyh h4
 clear h4
 rcases (show s = 4 ∨ s = 5 ∨ (s ≠ 4 ∧ s ≠ 5) from by omega) with rfl | rfl | ⟨hs4, hs5⟩
 · go_wp2_with fail
   go_ret
   exact ⟨rfl, by have := HRR.out; simp at this; rw [← this]; exact H4.out.rset _ _, hF4.set (p := ⟨q, k * 13 + 5, none⟩) (.inr (.inr rfl)) _⟩
 · go_wp2_with fail
   go_ret
   exact ⟨rfl, by have := HRR.out; simp at this; rw [← this]; exact H4.out.rset _ _, hF4.set (p := ⟨q, k * 13 + 5, none⟩) (.inr (.inr rfl)) _⟩
 ·
  have g4 : (s == 4) = false := by simpa using hs4
  have g5 : (s == 5) = false := by simpa using hs5
  go_wp2_with fail
  go_ret
  exact ⟨rfl, by have := HRR.out; rw [if_neg (by omega)] at this; rw [← this]; exact H4.out, hF4⟩
end
theorem znl {W : World} {mb : Nat} (h : W.heap[mb]? = some (.map #[] 0)) : zmf W mb (fun _ _ => 0) := ⟨fun _ _ => none, ⟨#[], 0, h, zca.empty⟩, fun _ _ => rfl⟩
theorem zur (m : Int) (h1 : 1 ≤ m) (h2 : m ≤ 1000) (w : World) : Calls Tryz.prog 112 #[.int .i64 m] w fun e w' => ∃ t a b g mb base, e = .returned (.tuple #[.pointer (some ⟨t, 0, none⟩), .int .i64 0]) ∧ zbz w' t a b g mb (List.replicate m.toNat 0) 0 (.slice none 0 0) 0 [] (fun _ _ => 0) base ∧ base ≤ w'.heap.size ∧ w.heap.size ≤ t ∧ w.heap.size ≤ a ∧ w.heap.size ≤ b ∧ w.heap.size ≤ g ∧ w.heap.size ≤ mb ∧ Below w.heap.size w w' := by
 have hmm : ∀ w, (Instr.makeMap 161 none).run Tryz.prog w = .ok (.map (some w.heap.size)) (w.alloc (.map #[] 0)) := fun _ => by rfl
 go_enter Tryz.func112, Tryz.ntmps112
 go_wp2_with fail
 refine (zuo m h1 h2 _).mono ?_
 rintro e w1 ⟨a, b, g, rfl, hA, ha, hb, hg, hB⟩
 obtain ⟨l1, l2, l3⟩ := hA.lts
 have HA := yyh hA
 clear hA
 go_wp2_with fail
 go_ret2
 have hB2 := zab (zab hB (.map #[] 0)) (.cells #[.pointer (some ⟨a, 0, none⟩), .slice none 0 0, .map (some w1.heap.size)] 163)
 refine ⟨w1.heap.size + 1, a, b, g, w1.heap.size, w1.heap.size + 2, by simp, ⟨zax (by simp), (HA.out.al _).al _, ⟨by simp, .inl ⟨rfl, rfl⟩⟩, znl (zan (zax rfl)), by omega, by omega⟩, by simp, by have := hB.size; omega, ha, hb, hg, hB.size, hB2⟩
def zus (R : List Value) (k : Nat) (id pr st du ke ru mi : Value) : Prop := R[k * 13]? = some id ∧ R[k * 13 + 1]? = some pr ∧ R[k * 13 + 2]? = some st ∧ R[k * 13 + 3]? = some du ∧ R[k * 13 + 4]? = some ke ∧ R[k * 13 + 5]? = some ru ∧ R[k * 13 + 6]? = some mi
section
variable {W W' : World} {t a b g mb : Nat} {ws : List Int} {B : Int} {rv : Value} {n : Nat} {R : List Value} {C : Int → Int → Int} {base : Nat} {q cap : Nat}
theorem zbz.other (h : zbz W t a b g mb ws B (.slice (some ⟨q, 0, none⟩) n cap) n R C base) {c j : Nat} (hc : base ≤ c) (hq : q ≠ c) (v : Value) : zbz (W.setCell ⟨c, j, none⟩ v) t a b g mb ws B (.slice (some ⟨q, 0, none⟩) n cap) n R C base := by
 obtain ⟨l1, l2, l3, l4, l5⟩ := h.lt
 refine ⟨za1 h.hdr (by omega) v, h.ar.put (by omega) (by omega) (by omega) v, ?_, h.map.of_block (Below.heap_setCell W ⟨c, j, none⟩ v mb (by show mb ≠ c; omega)), h.lt, h.ne⟩
 refine h.rows.kept (row := some c) ⟨rfl, rfl, rfl, by simp, fun k _ hn => Below.heap_setCell W ⟨c, j, none⟩ v k (fun e => hn (by rw [e]))⟩ (.inr ?_)
 intro e
 injection e with e
 exact hq e
theorem zut (h : zbz W t a b g mb ws B (.slice (some ⟨q, 0, none⟩) n cap) n R C base) (hB : B ≤ 800000000) (k : Nat) (hk : k < n) (hkw : k < ws.length) (hn : n ≤ 5000) (ID PR S0 DU KE RU MI f p d r m : Int) (hp : 0 < p) (hT : zus R k (.int .i64 ID) (.int .i64 PR) (.int .i64 S0) (.int .u64 DU) (.int .u64 KE) (.int .u64 RU) (.int .u64 MI)) (hJ : zyo R k f p d r m) :
 Calls Tryz.prog 56 #[.pointer (some ⟨t, 0, none⟩), .int .i64 ((k : Int) + 1)] W fun e w' => e = .returned (.tuple #[.agg #[.int .i64 ID, .int .i64 PR, .int .i64 (ws.getD k 0 % 8), .int .u64 DU, .int .u64 KE, .int .u64 r, .int .u64 m], .bool true]) ∧ zbz w' t a b g mb ws (B + 1) (.slice (some ⟨q, 0, none⟩) n cap) n R C base ∧ Fr (zb5 b g) W w' := by
 obtain ⟨Z, hZ⟩ := yye (ws.getD k 0 % 8)
 rw [hZ]
 have HZ := yyh hZ
 clear hZ
 obtain ⟨x, hx⟩ := yye (W.heap.size)
 obtain ⟨W0, hW0⟩ := yye (W.alloc (.cells #[.int .i64 0, .int .i64 0, .int .i64 0, .int .u64 0, .int .u64 0, .int .u64 0, .int .u64 0] 49))
 have h0 : zbz W0 t a b g mb ws B (.slice (some ⟨q, 0, none⟩) n cap) n R C base := by rw [← hW0]; exact h.al _
 have HAT := yyh (zni h0 ((k : Int) + 1) k rfl hk hn)
 have hx0 : W0.heap[x]? = some (.cells #[.int .i64 0, .int .i64 0, .int .i64 0, .int .u64 0, .int .u64 0, .int .u64 0, .int .u64 0] 49 (0, 0)) := by rw [← hW0, ← hx]; exact heap_alloc_new W _
 have hs0 : W0.heap.size = x + 1 := by rw [← hW0, ← hx]; simp
 have hF0 : Fr (zb5 b g) W W0 := by rw [← hW0]; exact (Fr.refl _ _).al _
 obtain ⟨q0, q1, q2, q3, q4, q5, q6⟩ := hT
 have t0 := h0.rcell (k * 13) (by omega) _ q0
 have t1 := h0.rcell (k * 13 + 1) (by omega) _ q1
 have t2 := h0.rcell (k * 13 + 2) (by omega) _ q2
 have t3 := h0.rcell (k * 13 + 3) (by omega) _ q3
 have t4 := h0.rcell (k * 13 + 4) (by omega) _ q4
 have t5 := h0.rcell (k * 13 + 5) (by omega) _ q5
 have t6 := h0.rcell (k * 13 + 6) (by omega) _ q6
 obtain ⟨lt1, lt2, lt3, lt4, lt5⟩ := h.lt
 have hqx : q < x := by rw [← hx]; exact h.q_ge.2
 have hqb := h.q_ge.1
 obtain ⟨la, lb, lg⟩ := h.ar.lts
 have NX := yyh (show ¬ zb5 b g x ∧ ¬ zb5 b g (x + 1) from ⟨fun hh => by rcases hh with hh | hh <;> omega, fun hh => by rcases hh with hh | hh <;> omega⟩)
 have HH := yyh h0
 have HJ := yyh hJ
 go_enter Tryz.func56, Tryz.ntmps56
 go_upto_region 1 with fail
 try rw [hW0]
 clear hW0 h h0 q0 q1 q2 q3 q4 q5 q6 hJ la lb lg lt1 lt2 lt3 lt4 lt5
 go_wp2_with fail
 refine HAT.out.mono ?_
 rintro e w' ⟨rfl, rfl⟩
 go_upto_region 5 with fail
 obtain ⟨W1, hW1⟩ := yye (W0.alloc (.cells #[.int .i64 ID, .int .i64 PR, .int .i64 S0, .int .u64 DU, .int .u64 KE, .int .u64 RU, .int .u64 MI] 49))
 have h1 : zbz W1 t a b g mb ws B (.slice (some ⟨q, 0, none⟩) n cap) n R C base := by rw [← hW1]; exact HH.out.al _
 have hx1 : W1.heap[x]? = some (.cells #[.int .i64 0, .int .i64 0, .int .i64 0, .int .u64 0, .int .u64 0, .int .u64 0, .int .u64 0] 49 (0, 0)) := by rw [← hW1]; exact zan hx0
 have hy1 : W1.heap[x + 1]? = some (.cells #[.int .i64 ID, .int .i64 PR, .int .i64 S0, .int .u64 DU, .int .u64 KE, .int .u64 RU, .int .u64 MI] 49 (0, 0)) := by rw [← hW1]; exact zax hs0.symm
 have hF1 : Fr (zb5 b g) W W1 := by rw [← hW1]; exact hF0.al _
 try rw [hW1]
 try rw [hs0]
 clear hW1 hx0 hs0 hF0 t0 t1 t2 t3 t4 t5 t6
 obtain ⟨c0, c1, c2⟩ := h1.cells
 have H1 := yyh h1
 clear h1
 go_wp2_with fail
 refine (zmd H1.out.ar (by omega) _ k rfl hkw).mono ?_
 rintro e w2 ⟨rfl, hA2, hF2⟩
 rw [HZ.out]
 have h2 := H1.out.arFr hF2 hA2
 have hx2 := (hF2.block x (yya.1 hx1).1 NX.out.1).trans hx1
 have hy2 := (hF2.block (x + 1) (yya.1 hy1).1 NX.out.2).trans hy1
 have hF3 := hF1.trans hF2
 clear hA2 hF2 hF1 hx1 hy1 c0 c1 c2
 have y2 : w2.cell? ⟨x + 1, 2, none⟩ = some (.int .i64 S0) := by simp [World.cell?, hy2]
 have yf : ∀ i, w2.frozen? ⟨x + 1, i, none⟩ = false := fun i => by simp [World.frozen?, hy2]
 have yf2 := yf 2
 go_upto_region 6 with fail
 obtain ⟨W3, hW3⟩ := yye (w2.setCell ⟨x + 1, 2, none⟩ (.int .i64 Z))
 have h3 : zbz W3 t a b g mb ws (B + 1) (.slice (some ⟨q, 0, none⟩) n cap) n R C base := by rw [← hW3]; exact h2.other (by omega) (by omega) _
 have hx3 : W3.heap[x]? = some (.cells #[.int .i64 0, .int .i64 0, .int .i64 0, .int .u64 0, .int .u64 0, .int .u64 0, .int .u64 0] 49 (0, 0)) := by rw [← hW3]; exact za1 hx2 (by omega) _
 have hy3 : W3.heap[x + 1]? = some (.cells #[.int .i64 ID, .int .i64 PR, .int .i64 Z, .int .u64 DU, .int .u64 KE, .int .u64 RU, .int .u64 MI] 49 (0, 0)) := by rw [← hW3, zai hy2]; rfl
 have hF4 : Fr (fun k => zb5 b g k ∨ x ≤ k) W W3 := by rw [← hW3]; exact (hF3.mono (fun k hk => Or.inl hk)).set (p := ⟨x + 1, 2, none⟩) (.inr (by show x ≤ x + 1; omega)) _
 try rw [hW3]
 clear hW3 h2 hx2 hy2 hF3 y2 yf yf2
 have j9 := h3.rcell (k * 13 + 9) (by omega) _ HJ.out.2.1
 have j11 := h3.rcell (k * 13 + 11) (by omega) _ HJ.out.2.2.2.1
 have j12 := h3.rcell (k * 13 + 12) (by omega) _ HJ.out.2.2.2.2
 have H3 := yyh h3
 have g1 : decide (p > 0) = true := by simpa using hp
 have g2 : decide (0 < p) = true := by simpa using hp
 clear h3
 go_upto_region 7 with fail
 go_cut [] (fun wx => wx.heap[x]? = some (.cells #[.int .i64 0, .int .i64 0, .int .i64 0, .int .u64 0, .int .u64 0, .int .u64 0, .int .u64 0] 49 (0, 0)) ∧ wx.heap[x + 1]? = some (.cells #[.int .i64 ID, .int .i64 PR, .int .i64 Z, .int .u64 DU, .int .u64 KE, .int .u64 r, .int .u64 m] 49 (0, 0)) ∧ zbz wx t a b g mb ws (B + 1) (.slice (some ⟨q, 0, none⟩) n cap) n R C base ∧ Fr (fun k => zb5 b g k ∨ x ≤ k) W wx)
 case first =>
  have h3d := H3.out.dr
  have i9 := h3d.rcell (k * 13 + 9) (by omega) _ HJ.out.2.1
  have i11 := h3d.rcell (k * 13 + 11) (by omega) _ HJ.out.2.2.2.1
  have i12 := h3d.rcell (k * 13 + 12) (by omega) _ HJ.out.2.2.2.2
  have y5 : W3.cell? ⟨x + 1, 5, none⟩ = some (.int .u64 RU) := by simp [World.cell?, hy3]
  have y6 : W3.cell? ⟨x + 1, 6, none⟩ = some (.int .u64 MI) := by simp [World.cell?, hy3]
  have z5 : W3.frozen? ⟨x + 1, 5, none⟩ = false := by simp [World.frozen?, hy3]
  have z6 : W3.frozen? ⟨x + 1, 6, none⟩ = false := by simp [World.frozen?, hy3]
  have hnq : q ≠ x + 1 := by omega
  have hnq2 : x + 1 ≠ q := by omega
  have H3D := yyh h3d
  clear h3d
  go_region
  all_goals
   go_wp2_with fail
   go_meet
   refine ⟨?_, ?_, ?_, ?_⟩
   · first | exact za1 (za1 hx3 (by omega) _) (by omega) _ | exact za1 (za1 (show W3.drew.heap[x]? = _ from hx3) (by omega) _) (by omega) _
   · have e : ((W3.setCell ⟨x + 1, 5, none⟩ (.int .u64 r)).setCell ⟨x + 1, 6, none⟩ (.int .u64 m)).heap[x + 1]? = some (.cells #[.int .i64 ID, .int .i64 PR, .int .i64 Z, .int .u64 DU, .int .u64 KE, .int .u64 r, .int .u64 m] 49 (0, 0)) := by rw [zai (zai hy3 _) _]; rfl
     exact e
   · first | exact (H3D.out.other (by omega) (by omega) _).other (by omega) (by omega) _ | exact ((H3.out.other (by omega) (by omega) _).other (by omega) (by omega) _).dr
   · first | exact ((hF4.dr).set (p := ⟨x + 1, _, none⟩) (.inr (by show x ≤ x + 1; omega)) _).set (p := ⟨x + 1, _, none⟩) (.inr (by show x ≤ x + 1; omega)) _ | exact ((hF4.set (p := ⟨x + 1, _, none⟩) (.inr (by show x ≤ x + 1; omega)) _).set (p := ⟨x + 1, _, none⟩) (.inr (by show x ≤ x + 1; omega)) _).dr
 case rest =>
 clear hx3 hy3 hF4 j9 j11 j12
 obtain ⟨hx4, hy4, h4, hF5⟩ := hcut
 have y0 : wc.cell? ⟨x + 1, 0, none⟩ = some (.int .i64 ID) := by simp [World.cell?, hy4]
 have y1 : wc.cell? ⟨x + 1, 1, none⟩ = some (.int .i64 PR) := by simp [World.cell?, hy4]
 have y2 : wc.cell? ⟨x + 1, 2, none⟩ = some (.int .i64 Z) := by simp [World.cell?, hy4]
 have y3 : wc.cell? ⟨x + 1, 3, none⟩ = some (.int .u64 DU) := by simp [World.cell?, hy4]
 have y4 : wc.cell? ⟨x + 1, 4, none⟩ = some (.int .u64 KE) := by simp [World.cell?, hy4]
 have y5 : wc.cell? ⟨x + 1, 5, none⟩ = some (.int .u64 r) := by simp [World.cell?, hy4]
 have y6 : wc.cell? ⟨x + 1, 6, none⟩ = some (.int .u64 m) := by simp [World.cell?, hy4]
 have x0 : wc.cell? ⟨x, 0, none⟩ = some (.int .i64 0) := by simp [World.cell?, hx4]
 have x1 : wc.cell? ⟨x, 1, none⟩ = some (.int .i64 0) := by simp [World.cell?, hx4]
 have x2 : wc.cell? ⟨x, 2, none⟩ = some (.int .i64 0) := by simp [World.cell?, hx4]
 have x3 : wc.cell? ⟨x, 3, none⟩ = some (.int .u64 0) := by simp [World.cell?, hx4]
 have x4 : wc.cell? ⟨x, 4, none⟩ = some (.int .u64 0) := by simp [World.cell?, hx4]
 have x5 : wc.cell? ⟨x, 5, none⟩ = some (.int .u64 0) := by simp [World.cell?, hx4]
 have x6 : wc.cell? ⟨x, 6, none⟩ = some (.int .u64 0) := by simp [World.cell?, hx4]
 have f0 : wc.frozen? ⟨x, 0, none⟩ = false := by simp [World.frozen?, hx4]
 have f1 : wc.frozen? ⟨x, 1, none⟩ = false := by simp [World.frozen?, hx4]
 have f2 : wc.frozen? ⟨x, 2, none⟩ = false := by simp [World.frozen?, hx4]
 have f3 : wc.frozen? ⟨x, 3, none⟩ = false := by simp [World.frozen?, hx4]
 have f4 : wc.frozen? ⟨x, 4, none⟩ = false := by simp [World.frozen?, hx4]
 have f5 : wc.frozen? ⟨x, 5, none⟩ = false := by simp [World.frozen?, hx4]
 have f6 : wc.frozen? ⟨x, 6, none⟩ = false := by simp [World.frozen?, hx4]
 have H4 := yyh h4
 clear h4 hx4 hy4
 go_wp2_with fail
 refine bodyPost_ret (v := .tuple #[.agg #[.int .i64 ID, .int .i64 PR, .int .i64 Z, .int .u64 DU, .int .u64 KE, .int .u64 r, .int .u64 m], .bool true]) (by simp [results, Tryz.results56, go_sem, x0, x1, x2, x3, x4, x5, x6]) rfl ?_
 refine ⟨rfl, ?_, ?_⟩
 · exact ((((((H4.out.other (by omega) (by omega) _).other (by omega) (by omega) _).other (by omega) (by omega) _).other (by omega) (by omega) _).other (by omega) (by omega) _).other (by omega) (by omega) _).other (by omega) (by omega) _
 · have hFn := (((((((hF5.set (p := ⟨x, 0, none⟩) (Or.inr (Nat.le_refl x)) (.int .i64 ID)).set (p := ⟨x, 1, none⟩) (Or.inr (Nat.le_refl x)) (.int .i64 PR)).set (p := ⟨x, 2, none⟩) (Or.inr (Nat.le_refl x)) (.int .i64 Z)).set (p := ⟨x, 3, none⟩) (Or.inr (Nat.le_refl x)) (.int .u64 DU)).set (p := ⟨x, 4, none⟩) (Or.inr (Nat.le_refl x)) (.int .u64 KE)).set (p := ⟨x, 5, none⟩) (Or.inr (Nat.le_refl x)) (.int .u64 r)).set (p := ⟨x, 6, none⟩) (Or.inr (Nat.le_refl x)) (.int .u64 m))
   exact ⟨hFn.os, hFn.tape, hFn.output, hFn.size, fun i hi hn => hFn.block i hi (fun hh => by rcases hh with hh | hh; exact hn hh; omega)⟩
end
def kdL : List ((Int × Int) × Int) := [((0, 0), 0), ((0, 1), 2), ((1, 0), 4), ((1, 1), 3), ((2, 0), 6), ((2, 1), 5)]
theorem zh4 : Keyed Tryz.prog 180 := Keyed.of_law (deep_law_laid zdt (m := 2) (by decide) (of_decide_eq_true (by kernel_rfl)) (by kernel_rfl) (by kernel_rfl))
theorem zrj : Go.WideMaps.ArrKey Tryz.prog 180 3 2 := ⟨by kernel_rfl, by kernel_rfl, by kernel_rfl, by kernel_rfl⟩
theorem zj0 (a b : Int) (ha : zbl a) (hb : zbl b) : ∃ l, keyOf Tryz.prog 180 (pk a b) = some l :=
 ⟨_, Go.WideMaps.keyOf_pair zrj Tryz.underlying3 ⟨_, rfl⟩ ha hb⟩
def kdA (k : Nat) : Int := (kdL.getD k ((0, 0), 0)).1.1
def kdB (k : Nat) : Int := (kdL.getD k ((0, 0), 0)).1.2
def kdV (k : Nat) : Value := .int .i64 (kdL.getD k ((0, 0), 0)).2
def kdI (x y : Int) : Option Nat := (List.range 6).find? fun k => kdA k == x && kdB k == y
def kdF : Int → Int → Option Value := fun x y => (kdI x y).map kdV
def zdb (l : Array Bool) : Int → Int → Option Value := fun x y => match kdI x y with | some k => if l.getD (2 * k + 2) false then some (kdV k) else none | none => none
theorem zou (k : Nat) (hk : k < 6) : zbl (kdA k) ∧ zbl (kdB k) := by
 have h : ∀ k : Fin 6, (Lit.int .i64 (kdA k)).wf = true ∧ (Lit.int .i64 (kdB k)).wf = true := by decide
 exact h ⟨k, hk⟩
theorem zw0 (k : Nat) (hk : k < 6) : kdI (kdA k) (kdB k) = some k := by
 have h : ∀ k : Fin 6, kdI (kdA k) (kdB k) = some k.val := by decide
 exact h ⟨k, hk⟩
theorem zmg {x y : Int} {k : Nat} (h : kdI x y = some k) : k < 6 ∧ kdA k = x ∧ kdB k = y := by
 unfold kdI at h
 have h1 := List.mem_range.1 (List.mem_of_find?_eq_some h)
 have h2 := List.find?_some h
 simp only [Bool.and_eq_true, beq_iff_eq] at h2
 exact ⟨h1, h2⟩
structure zen (w1 : World) (l : Array Bool) (a : Act) (w : World) : Prop where
 size : l.size = 15
 defers : a.defers = []
 tmps : a.tmps.size = 9
 before : l.getD 0 false = false → w = w1 ∧ (∀ k, k < 6 → l.getD (2 * k + 2) false = false) ∧ l.getD 13 false = false ∧ l.getD 14 false = false
 behind : l.getD 0 false = true → ∃ es clock, w = w1.alloc (.map es clock) ∧ zca es clock (zdb l) ∧ a.tmps.getD 1 undef = .map (some w1.heap.size)
 keys : ∀ k, k < 6 → l.getD (2 * k + 1) false = true → a.tmps.getD (k + 2) undef = pk (kdA k) (kdB k)
 t12 : l.getD 13 false = true → a.tmps.getD 8 undef = .map (some w1.heap.size)
 t0 : l.getD 14 false = true → a.tmps.getD 0 undef = .map (some w1.heap.size)
theorem zdc (l : Array Bool) (i : Nat) (h : i < l.size) (hi : ∀ k, k < 6 → i ≠ 2 * k + 2) : zdb (l.setIfInBounds i true) = zdb l := by
 funext x y
 unfold zdb
 cases hh : kdI x y with
 | none => rfl
 | some k =>
  dsimp only
  rw [zah _ _ _ h, if_neg (hi k (zmg hh).1)]
theorem zov (l : Array Bool) (k : Nat) (hk : k < 6) (h : 2 * k + 2 < l.size) : zdb (l.setIfInBounds (2 * k + 2) true) = zds (zdb l) (kdA k) (kdB k) (kdV k) := by
 funext x y
 unfold zds
 by_cases hc : x = kdA k ∧ y = kdB k
 ·
  rw [if_pos hc, hc.1, hc.2]
  unfold zdb
  rw [zw0 k hk]
  dsimp only
  rw [zah _ _ _ h, if_pos rfl]
  rfl
 ·
  rw [if_neg hc]
  unfold zdb
  cases hh : kdI x y with
  | none => rfl
  | some j =>
   dsimp only
   have hj := zmg hh
   have hkj : ¬ 2 * k + 2 = 2 * j + 2 := fun e => by
    obtain rfl : k = j := by omega
    exact hc ⟨hj.2.1.symm, hj.2.2.symm⟩
   rw [zah _ _ _ h, if_neg hkj]
theorem zow (l : Array Bool) (h : ∀ k, k < 6 → l.getD (2 * k + 2) false = false) : zdb l = fun _ _ => none := by
 funext x y
 unfold zdb
 cases hh : kdI x y with
 | none => rfl
 | some j =>
  dsimp only
  rw [h j (zmg hh).1]
  rfl
theorem znm (l : Array Bool) (h : ∀ k, k < 6 → l.getD (2 * k + 2) false = true) : zdb l = kdF := by
 funext x y
 unfold zdb kdF
 cases hh : kdI x y with
 | none => rfl
 | some j =>
  dsimp only
  rw [h j (zmg hh).1]
  rfl
section
variable {w1 : World} {l : Array Bool} {a : Act} {w : World}
theorem zen.make (h : zen w1 l a w) (h0 : l.getD 0 true = false) :
 w = w1 ∧ zen w1 (l.setIfInBounds 0 true) (a.put (some 1) (.map (some w1.heap.size))) (w1.alloc (.map #[] 0)) := by
 have hs := h.size
 have ht := h.tmps
 obtain ⟨hw, hno, h21, h22⟩ := h.before (zk6 0 h0)
 have hF : zdb (l.setIfInBounds 0 true) = fun _ _ => none := by rw [zdc l 0 (by omega) (by intro k _; omega)]; exact zow l hno
 refine ⟨hw, by simp [hs], h.defers, by simp [Act.put, ht], fun hc => ?_, fun _ => ⟨#[], 0, rfl, by rw [hF]; exact zca.empty, ?_⟩, fun k hk' hl => ?_, fun hl => ?_, fun hl => ?_⟩
 · rw [zah _ _ _ (by omega)] at hc; simp at hc
 · rw [zat _ _ _ _ (by omega)]; simp
 · rw [zah _ _ _ (by omega), if_neg (by omega)] at hl
   rw [zat _ _ _ _ (by omega), if_neg (by omega)]
   exact h.keys k hk' hl
 · rw [zah _ _ _ (by omega), if_neg (by omega), h21] at hl
   cases hl
 · rw [zah _ _ _ (by omega), if_neg (by omega), h22] at hl
   cases hl
theorem zen.build (h : zen w1 l a w) (k : Nat) (hk : k < 6) : zen w1 (l.setIfInBounds (2 * k + 1) true) (a.put (some (k + 2)) (pk (kdA k) (kdB k))) w := by
 have hs := h.size
 have ht := h.tmps
 have hF := zdc l (2 * k + 1) (by omega) (by intro j _; omega)
 refine ⟨by simp [hs], h.defers, by simp [Act.put, ht], fun hc => ?_, fun hc => ?_, fun j hj hl => ?_, fun hl => ?_, fun hl => ?_⟩
 · rw [zah _ _ _ (by omega), if_neg (by omega)] at hc
   obtain ⟨b1, b2, b3, b4⟩ := h.before hc
   exact ⟨b1, fun j hj => by rw [zah _ _ _ (by omega), if_neg (by omega)]; exact b2 j hj, by rw [zah _ _ _ (by omega), if_neg (by omega)]; exact b3, by rw [zah _ _ _ (by omega), if_neg (by omega)]; exact b4⟩
 · rw [zah _ _ _ (by omega), if_neg (by omega)] at hc
   rw [hF, zat _ _ _ _ (by omega), if_neg (by omega)]
   exact h.behind hc
 ·
  rw [zat _ _ _ _ (by omega)]
  rw [zah _ _ _ (by omega)] at hl
  by_cases e : k = j
  · subst e; simp
  · rw [if_neg (by omega)] at hl ⊢
    exact h.keys j hj hl
 · rw [zah _ _ _ (by omega), if_neg (by omega)] at hl
   rw [zat _ _ _ _ (by omega), if_neg (by omega)]
   exact h.t12 hl
 · rw [zah _ _ _ (by omega), if_neg (by omega)] at hl
   rw [zat _ _ _ _ (by omega), if_neg (by omega)]
   exact h.t0 hl
theorem zen.insert (h : zen w1 l a w) (k : Nat) (hk : k < 6) (h0 : l.getD 0 false = true) (h1 : l.getD (2 * k + 1) false = true) :
 ∃ w', (Instr.mapUpdate 182 (a.eval (.tmp 1)) (a.eval (.tmp (k + 2))) (kdV k)).run Tryz.prog w = .ok () w' ∧ zen w1 (l.setIfInBounds (2 * k + 2) true) a w' := by
 have hs := h.size
 obtain ⟨es, clock, rfl, hE, h1'⟩ := h.behind h0
 have hM : zdo (w1.alloc (.map es clock)) w1.heap.size (zdb l) := ⟨es, clock, heap_alloc_new w1 _, hE⟩
 obtain ⟨es', clock', hr, hE'⟩ := hM.update zh4 zj0 Tryz.underlying182 (kdA k) (kdB k) (zou k hk).1 (zou k hk).2 (kdV k)
 have e1 : a.eval (.tmp 1) = .map (some w1.heap.size) := h1'
 have e2 : a.eval (.tmp (k + 2)) = pk (kdA k) (kdB k) := h.keys k hk h1
 rw [zd6] at hr
 refine ⟨_, by rw [e1, e2]; exact hr, ?_⟩
 rw [← zov l k hk (by omega)] at hE'
 refine ⟨by simp [hs], h.defers, h.tmps, fun hc => ?_, fun hc => ⟨es', clock', rfl, hE', h1'⟩, fun j hj hl => ?_, fun hl => ?_, fun hl => ?_⟩
 · rw [zah _ _ _ (by omega), if_neg (by omega)] at hc; rw [h0] at hc; cases hc
 · rw [zah _ _ _ (by omega), if_neg (by omega)] at hl
   exact h.keys j hj hl
 ·
  rw [zah _ _ _ (by omega)] at hl
  by_cases e : 2 * k + 2 = 13
  · omega
  · rw [if_neg e] at hl; exact h.t12 hl
 ·
  rw [zah _ _ _ (by omega)] at hl
  by_cases e : 2 * k + 2 = 14
  · omega
  · rw [if_neg e] at hl; exact h.t0 hl
theorem zen.move (h : zen w1 l a w) (h0 : l.getD 0 false = true) : zen w1 (l.setIfInBounds 13 true) (a.put (some 8) (a.eval (.tmp 1))) w := by
 have hs := h.size
 have ht := h.tmps
 have hF := zdc l 13 (by omega) (by intro j _; omega)
 obtain ⟨es, clock, hw, hE, h1'⟩ := h.behind h0
 refine ⟨by simp [hs], h.defers, by simp [Act.put, ht], fun hc => ?_, fun hc => ⟨es, clock, hw, by rw [hF]; exact hE, ?_⟩, fun j hj hl => ?_, fun hl => ?_, fun hl => ?_⟩
 · rw [zah _ _ _ (by omega), if_neg (by omega)] at hc; rw [h0] at hc; cases hc
 · rw [zat _ _ _ _ (by omega), if_neg (by omega)]; exact h1'
 · rw [zah _ _ _ (by omega), if_neg (by omega)] at hl
   rw [zat _ _ _ _ (by omega), if_neg (by omega)]
   exact h.keys j hj hl
 · rw [zat _ _ _ _ (by omega), if_pos rfl]; exact h1'
 · rw [zah _ _ _ (by omega), if_neg (by omega)] at hl
   rw [zat _ _ _ _ (by omega), if_neg (by omega)]
   exact h.t0 hl
theorem zen.assign (h : zen w1 l a w) (h0 : l.getD 0 false = true) (h21 : l.getD 13 false = true) : zen w1 (l.setIfInBounds 14 true) (a.put (some 0) (a.eval (.tmp 8))) w := by
 have hs := h.size
 have ht := h.tmps
 have hne : ∀ k, k < 6 → (14 : Nat) ≠ 2 * k + 2 := by intro k hk; omega
 have hF := zdc l 14 (by omega) hne
 have e := h.t12 h21
 refine ⟨by simp [hs], h.defers, by simp [Act.put, ht], fun hc => ?_, fun hc => ?_, fun j hj hl => ?_, fun hl => ?_, fun hl => ?_⟩
 · rw [zah _ _ _ (by omega), if_neg (by omega)] at hc; rw [h0] at hc; cases hc
 · rw [hF, zat _ _ _ _ (by omega), if_neg (by omega)]
   exact h.behind h0
 · rw [zah _ _ _ (by omega), if_neg (by omega)] at hl
   rw [zat _ _ _ _ (by omega), if_neg (by omega)]
   exact h.keys j hj hl
 · rw [zah _ _ _ (by omega), if_neg (by omega)] at hl
   rw [zat _ _ _ _ (by omega), if_neg (by omega)]
   exact h.t12 hl
 · rw [zat _ _ _ _ (by omega), if_pos rfl]; exact e
end
theorem zg1 (w : World) : Calls Tryz.prog 109 #[] w fun e w' => ∃ es clock, e = .returned (.map (some w.heap.size)) ∧ w' = (w.alloc (.map es clock)).drew ∧ zca es clock kdF := by
 go_enter Tryz.func109, Tryz.ntmps109
 go_wp2_with fail
 refine wp_region_any (by kernel_rfl) ?_
 refine zgr (zen w.drew) ?_ ?_ _ _ _ _ ?_ (by decide)
 ·
  intro l a w' i hI hi
  obtain ⟨h1, h2, o, ho, hd⟩ := zdh hi
  have h3 : i < 15 := h1
  rcases (show i = 0 ∨ (i = 1 ∨ i = 3 ∨ i = 5 ∨ i = 7 ∨ i = 9 ∨ i = 11) ∨ (i = 2 ∨ i = 4 ∨ i = 6 ∨ i = 8 ∨ i = 10 ∨ i = 12) ∨ i = 13 ∨ i = 14 from by omega) with rfl | (rfl | rfl | rfl | rfl | rfl | rfl) | (rfl | rfl | rfl | rfl | rfl | rfl) | rfl | rfl
  · obtain ⟨rfl, hL⟩ := hI.make h2
    exact zas (o := { dst := some 1, op := .makeMap 182 none, type := 182, pos := "work.go:17", after := #[], guard := none }) rfl rfl (v := .map (some w.drew.heap.size)) (by rfl) hL
  · exact zas (o := { dst := some 2, op := .build 180 #[(0, .const (.int .i64 0)), (1, .const (.int .i64 0))], type := 180, pos := "work.go:17", after := #[], guard := none }) rfl rfl (v := pk (kdA 0) (kdB 0)) (by kernel_rfl) (hI.build 0 (by decide))
  · exact zas (o := { dst := some 3, op := .build 180 #[(0, .const (.int .i64 0)), (1, .const (.int .i64 1))], type := 180, pos := "work.go:17", after := #[], guard := none }) rfl rfl (v := pk (kdA 1) (kdB 1)) (by kernel_rfl) (hI.build 1 (by decide))
  · exact zas (o := { dst := some 4, op := .build 180 #[(0, .const (.int .i64 1)), (1, .const (.int .i64 0))], type := 180, pos := "work.go:17", after := #[], guard := none }) rfl rfl (v := pk (kdA 2) (kdB 2)) (by kernel_rfl) (hI.build 2 (by decide))
  · exact zas (o := { dst := some 5, op := .build 180 #[(0, .const (.int .i64 1)), (1, .const (.int .i64 1))], type := 180, pos := "work.go:17", after := #[], guard := none }) rfl rfl (v := pk (kdA 3) (kdB 3)) (by kernel_rfl) (hI.build 3 (by decide))
  · exact zas (o := { dst := some 6, op := .build 180 #[(0, .const (.int .i64 2)), (1, .const (.int .i64 0))], type := 180, pos := "work.go:17", after := #[], guard := none }) rfl rfl (v := pk (kdA 4) (kdB 4)) (by kernel_rfl) (hI.build 4 (by decide))
  · exact zas (o := { dst := some 7, op := .build 180 #[(0, .const (.int .i64 2)), (1, .const (.int .i64 1))], type := 180, pos := "work.go:17", after := #[], guard := none }) rfl rfl (v := pk (kdA 5) (kdB 5)) (by kernel_rfl) (hI.build 5 (by decide))
  · have ho' : #[ (⟨0, .data⟩ : Edge), ⟨1, .data⟩] = o.after := congrArg Oper.after (Option.some.inj ho)
    obtain ⟨w2, hr, hL⟩ := hI.insert 0 (by decide) (hd ⟨0, .data⟩ (by rw [← ho']; simp) rfl) (hd ⟨1, .data⟩ (by rw [← ho']; simp) rfl)
    exact zbd (o := { dst := none, op := .insert 182 (.tmp 1) (.tmp 2) (.const (.int .i64 0)), type := 0, pos := "work.go:17", after := #[⟨0, .data⟩, ⟨1, .data⟩], guard := none }) rfl rfl (za8 hr) hL
  · have ho' : #[ (⟨0, .data⟩ : Edge), ⟨3, .data⟩] = o.after := congrArg Oper.after (Option.some.inj ho)
    obtain ⟨w2, hr, hL⟩ := hI.insert 1 (by decide) (hd ⟨0, .data⟩ (by rw [← ho']; simp) rfl) (hd ⟨3, .data⟩ (by rw [← ho']; simp) rfl)
    exact zbd (o := { dst := none, op := .insert 182 (.tmp 1) (.tmp 3) (.const (.int .i64 2)), type := 0, pos := "work.go:17", after := #[⟨0, .data⟩, ⟨3, .data⟩], guard := none }) rfl rfl (za8 hr) hL
  · have ho' : #[ (⟨0, .data⟩ : Edge), ⟨5, .data⟩] = o.after := congrArg Oper.after (Option.some.inj ho)
    obtain ⟨w2, hr, hL⟩ := hI.insert 2 (by decide) (hd ⟨0, .data⟩ (by rw [← ho']; simp) rfl) (hd ⟨5, .data⟩ (by rw [← ho']; simp) rfl)
    exact zbd (o := { dst := none, op := .insert 182 (.tmp 1) (.tmp 4) (.const (.int .i64 4)), type := 0, pos := "work.go:17", after := #[⟨0, .data⟩, ⟨5, .data⟩], guard := none }) rfl rfl (za8 hr) hL
  · have ho' : #[ (⟨0, .data⟩ : Edge), ⟨7, .data⟩] = o.after := congrArg Oper.after (Option.some.inj ho)
    obtain ⟨w2, hr, hL⟩ := hI.insert 3 (by decide) (hd ⟨0, .data⟩ (by rw [← ho']; simp) rfl) (hd ⟨7, .data⟩ (by rw [← ho']; simp) rfl)
    exact zbd (o := { dst := none, op := .insert 182 (.tmp 1) (.tmp 5) (.const (.int .i64 3)), type := 0, pos := "work.go:17", after := #[⟨0, .data⟩, ⟨7, .data⟩], guard := none }) rfl rfl (za8 hr) hL
  · have ho' : #[ (⟨0, .data⟩ : Edge), ⟨9, .data⟩] = o.after := congrArg Oper.after (Option.some.inj ho)
    obtain ⟨w2, hr, hL⟩ := hI.insert 4 (by decide) (hd ⟨0, .data⟩ (by rw [← ho']; simp) rfl) (hd ⟨9, .data⟩ (by rw [← ho']; simp) rfl)
    exact zbd (o := { dst := none, op := .insert 182 (.tmp 1) (.tmp 6) (.const (.int .i64 6)), type := 0, pos := "work.go:17", after := #[⟨0, .data⟩, ⟨9, .data⟩], guard := none }) rfl rfl (za8 hr) hL
  · have ho' : #[ (⟨0, .data⟩ : Edge), ⟨11, .data⟩] = o.after := congrArg Oper.after (Option.some.inj ho)
    obtain ⟨w2, hr, hL⟩ := hI.insert 5 (by decide) (hd ⟨0, .data⟩ (by rw [← ho']; simp) rfl) (hd ⟨11, .data⟩ (by rw [← ho']; simp) rfl)
    exact zbd (o := { dst := none, op := .insert 182 (.tmp 1) (.tmp 7) (.const (.int .i64 5)), type := 0, pos := "work.go:17", after := #[⟨0, .data⟩, ⟨11, .data⟩], guard := none }) rfl rfl (za8 hr) hL
  · have h0 : l.getD 0 false = true := hd ⟨0, .data⟩ (by rw [← congrArg Oper.after (Option.some.inj ho)]; simp) rfl
    exact zas (o := _) rfl rfl (v := a.eval (.tmp 1)) (by rfl) (hI.move h0)
  · have h0 : l.getD 0 false = true := hd ⟨0, .phase⟩ (by rw [← congrArg Oper.after (Option.some.inj ho)]; simp) rfl
    have h21 : l.getD 13 false = true := hd ⟨13, .data⟩ (by rw [← congrArg Oper.after (Option.some.inj ho)]; simp) rfl
    exact zas (o := _) rfl rfl (v := a.eval (.tmp 8)) (by rfl) (hI.assign h0 h21)
 ·
  intro l a w' hI hr
  have hall := zif (by kernel_rfl) hI.size hr
  obtain ⟨es, clock, hw, hE, h1⟩ := hI.behind (hall 0 (by decide))
  rw [znm l (fun k hk => hall (2 * k + 2) (show 2 * k + 2 < 15 by omega))] at hE
  have h0 := hI.t0 (hall 14 (by decide))
  have hd := hI.defers
  clear hall hr hI
  rename_i Q' K hK
  refine hK a w' (wp_ret ?_)
  refine ⟨hd, .map (some w.heap.size), ?_, es, clock, rfl, hw, hE⟩
  rw [results_tmp Tryz.results109]
  exact congrArg (Result.ok · w') h0
 ·
  refine ⟨rfl, rfl, rfl, fun _ => ⟨rfl, by decide, by decide, by decide⟩, fun h => by simp at h, fun k hk h => ?_, fun h => by simp at h, fun h => by simp at h⟩
  exfalso
  have hh : ∀ j : Nat, (Array.replicate 15 false).getD j false = false := by
   intro j
   simp only [Array.getD_eq_getD_getElem?, Array.getElem?_replicate]
   split <;> rfl
  have := (hh (2 * k + 1)).symm.trans h
  cases this
end Go.Proofs.YtcfhkbcllijnkaaGreat
