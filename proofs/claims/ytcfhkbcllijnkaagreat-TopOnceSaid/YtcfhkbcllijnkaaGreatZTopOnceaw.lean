/- Parts of the proof of TopOnce, under no condition. -/
import Derived.Test.YtcfhkbcllijnkaaGreatZTopOnceav
import Derived.Laws.AppendOwnNone
set_option linter.unusedVariables false
set_option linter.unusedSimpArgs false
set_option maxRecDepth 100000
set_option maxHeartbeats 0
namespace Go.Proofs.YtcfhkbcllijnkaaGreat
open Go.RowKit
theorem zf8 {P : Program} {w : World} {ops : Array Oper} {rest : List Oper} {o : Oper} {a : Act} {Q : Exit → Act → World → Prop} (hgd : o.guard = none) (s x : Operand) (t : TypeId)
 (ho : o.op = .call { callee := .builtin .append, args := #[s, x], argTypes := #[t, t] })
 (base : Nat) (e : TypeId) (i : TypeInfo) (z : Value) (size bytes : Nat) (ht : P.underlying t = some (.slice e)) (hi : P.info? e = some i) (hz : i.zero = some z)
 (hsize : i.size = size) (hby : i.bytes = bytes) (hzs : z.cells.size = size) (hsz : 0 < size)
 (v : Value) (n : Nat) (xs : List Value) (hs : a.eval s = v) (hown : w.ownsRow base e size v n xs)
 (vx : Value) (m : Nat) (ys : List Value) (hx : a.eval x = vx) (hsl : SlV w e size vx m ys) (h1 : ∀ u ∈ ys, u.oneCell' = true)
 (h63 : n + m ≤ maxLen) (hbytes : (n + m) * bytes ≤ 140737488355328) (hbase : base ≤ w.heap.size)
 (h : ∀ v' w', w'.ownsRow base e size v' (n + m) (xs ++ ys) → w.grownBy w' v.ownBlock → wpList P ops Q rest (a.put o.dst v') w') :
 wpList P ops Q (o :: rest) a w := by
 rcases hsl.form with ⟨rfl, rfl, rfl⟩ | ⟨b, off, cap, rfl, h3, h4, h5, h6⟩
 · refine wpList_append_own_none hgd s x t ho base e i size ht hi v n xs hs hown hx (h v w ?_ (World.grownBy.refl _ _))
   rw [List.append_nil, Nat.add_zero]
   exact hown
 · refine wpList_append_own_at w hgd s x t ho base e i z size bytes ht hi hz hsize hby hzs hsz v n xs hs hown ⟨b, off, none⟩ m cap ys hx hsl.1 (fun j u hu => ?_) h1 h63 hbytes hbase (fun v' w' k1 k2 _ _ => h v' w' k1 k2)
   rw [show (⟨b, off, none⟩ : Addr).add j = ⟨b, off + j, none⟩ from by simp [Addr.add]]
   exact h6 j u hu
def zb0 (w : World) (base : Nat) (v : Value) (l : List En) : Prop := w.ownsRow base 63 2 v l.length (zbf l)
theorem zb0.es {w : World} {base : Nat} {v : Value} {l : List En} (h : zb0 w base v l) : zay w v l := SlV.of_owns h
theorem zay.nil (w : World) : zay w (.slice none 0 0) [] := SlV.nil _ _ _
theorem zb0.nil (w : World) (base : Nat) : zb0 w base (.slice none 0 0) [] := ⟨rfl, .inl ⟨rfl, rfl⟩⟩
theorem zay.below {W W' : World} {v : Value} {l : List En} (h : zay W v l) (hb : Below W.heap.size W W') : zay W' v l := SlV.below h hb
theorem zay.fr {S : Nat → Prop} {W W' : World} {v : Value} {l : List En} (h : zay W v l) (f : Fr S W W') (hn : ∀ c, v.ownBlock = some c → ¬ S c) : zay W' v l := SlV.fr h f hn
theorem za3 {w : World} {ops : Array Oper} {rest : List Oper} {o : Oper} {a : Act} {Q : Exit → Act → World → Prop} (hgd : o.guard = none) (s x : Operand)
 (ho : o.op = .call { callee := .builtin .append, args := #[s, x], argTypes := #[42, 42] })
 (base : Nat) (v : Value) (l : List En) (hs : a.eval s = v) (hown : zb0 w base v l) (vx : Value) (m : List En) (hx : a.eval x = vx) (hsl : zay w vx m)
 (h63 : l.length + m.length ≤ 100000) (hbase : base ≤ w.heap.size)
 (h : ∀ v' w', zb0 w' base v' (l ++ m) → w.grownBy w' v.ownBlock → wpList Tryz.prog ops Q rest (a.put o.dst v') w') :
 wpList Tryz.prog ops Q (o :: rest) a w := by
 obtain ⟨i0, hi0, hz0, hz1, hz2⟩ := info_parts zjr
 refine zf8 hgd s x 42 ho base 63 i0 zEn 2 16 Tryz.underlying42 hi0 hz0 hz1 hz2 rfl (by decide) v l.length (zbf l) hs hown vx m.length (zbf m) hx hsl (zgx m) (by unfold maxLen; omega) (by omega) hbase (fun v' w' h1 h2 => h v' w' ?_ h2)
 unfold zb0
 rw [zjv, List.length_append]
 exact h1
theorem SlV.put {W : World} {t : TypeId} {k : Nat} {v : Value} {n : Nat} {F : List Value} (h : SlV W t k v n F) (b i : Nat) (u : Value) (hb : ∀ c, v.ownBlock = some c → c ≠ b) : SlV (W.setCell ⟨b, i, none⟩ u) t k v n F := h.keep fun c o hc ho => (Below.heap_setCell W ⟨b, i, none⟩ u c (hb c hc)).trans ho
theorem zay.put {W : World} {v : Value} {l : List En} (h : zay W v l) (b i : Nat) (u : Value) (hb : ∀ c, v.ownBlock = some c → c ≠ b) : zay (W.setCell ⟨b, i, none⟩ u) v l := SlV.put h b i u hb
theorem zak {w X : World} (h : Below w.heap.size w X) (b i : Nat) (u : Value) (hb : w.heap.size ≤ b) : Below w.heap.size w (X.setCell ⟨b, i, none⟩ u) := ⟨h.os, h.tape, h.output, by simpa using h.size, fun k hk => (Below.heap_setCell X ⟨b, i, none⟩ u k (by show k ≠ b; omega)).trans (h.block k hk)⟩
theorem zay.one (W : World) (e : En) (c : Nat) (hc : c = W.heap.size) : zay (W.alloc (.cells #[.int .u64 e.key, .int .i64 e.id] 63)) (.slice (some ⟨c, 0, none⟩) 1 1) [e] := by
 subst hc
 refine ⟨rfl, .inr ⟨_, 0, 1, _, rfl, yyn, by unfold maxLen; omega, heap_alloc_new W _, fun j hj => ?_⟩⟩
 rcases (show j = 0 ∨ j = 1 from by simp at hj; omega) with rfl | rfl <;> rfl
def lvl (n : Nat) : Nat := (List.range 62).findIdx fun k => decide (n ≤ 2 ^ k)
theorem zj1 (n : Nat) : lvl n ≤ 62 := by
 unfold lvl
 have := List.findIdx_le_length (xs := List.range 62) (p := fun k => decide (n ≤ 2 ^ k))
 simpa using this
theorem zw7 {n k : Nat} (hk : k < 62) (h : n ≤ 2 ^ k) (hj : ∀ j, j < k → ¬ n ≤ 2 ^ j) : lvl n = k := by
 unfold lvl
 rw [List.findIdx_eq (by simpa using hk)]
 refine ⟨by simpa using h, fun j hjk => by simpa using hj j hjk⟩
theorem zj2 (n : Nat) (hn : n ≤ 100000) (w : World) : Calls Tryz.prog 268 #[.int .i64 n] w fun e w' => e = .returned (.int .i64 (lvl n)) ∧ w = w' := by
 go_enter Tryz.func268, Tryz.ntmps268
 go_wp2_with fail
 go_loopg [3] 20 (fun gg v3 wr => ∃ k : Nat, k ≤ 17 ∧ gg = 20 - k ∧ v3 = .int .i64 k ∧ w = wr ∧ Aside (∀ j, j < k → ¬ n ≤ 2 ^ j))
 case atStart => exact ⟨0, by omega, rfl, rfl, rfl, (show Aside _ from fun j hj => absurd hj (Nat.not_lt_zero _))⟩
 case round =>
  obtain ⟨k, hk, rfl, rfl, rfl, A⟩ := hrel
  have g0 : decide ((k : Int) < 62) = true := by simp; omega
  have hs : wrap64 ((2 : Int) ^ k) = ((2 ^ k : Nat) : Int) := by
   rcases (show k = 0 ∨ k = 1 ∨ k = 2 ∨ k = 3 ∨ k = 4 ∨ k = 5 ∨ k = 6 ∨ k = 7 ∨ k = 8 ∨ k = 9 ∨ k = 10 ∨ k = 11 ∨ k = 12 ∨ k = 13 ∨ k = 14 ∨ k = 15 ∨ k = 16 ∨ k = 17 from by omega) with rfl | rfl | rfl | rfl | rfl | rfl | rfl | rfl | rfl | rfl | rfl | rfl | rfl | rfl | rfl | rfl | rfl | rfl <;> exact IntWalk.wrap64_in _ (by decide)
  by_cases hlt : n ≤ 2 ^ k
  ·
   have g1 : decide (wrap64 ((2 : Int) ^ k) < n) = false := by rw [hs]; simp; exact_mod_cast hlt
   have g2 : lvl n = k := zw7 (by omega) hlt A.out
   have G2 := yyh g2
   clear hs hlt g2
   go_wp2_with fail
   go_ret
   exact ⟨by rw [G2.out]; rfl, rfl⟩
  ·
   have g1 : decide (wrap64 ((2 : Int) ^ k) < n) = true := by rw [hs]; simp; exact_mod_cast Nat.lt_of_not_le hlt
   have hk17 : k < 17 := by
    rcases Nat.lt_or_ge k 17 with h | h
    · exact h
    · obtain rfl : k = 17 := by omega
      exact absurd (show n ≤ 2 ^ 17 from by omega) hlt
   have hA : ∀ j, j < k + 1 → ¬ n ≤ 2 ^ j := fun j hj => by
    rcases Nat.lt_or_ge j k with h | h
    · exact A.out j h
    · obtain rfl : j = k := by omega
      exact hlt
   have HA := yyh hA
   clear hs hlt hA
   go_wp2_with fail
   go_roundg (20 - (k + 1))
   case measure => omega
   case rel => exact ⟨k + 1, by omega, rfl, by go_num, rfl, (show Aside _ from HA.out)⟩
def bkV (n : Nat) (v : Value) : Value := .agg #[.int .i64 (lvl n), v]
theorem BOf {W : World} {v : Value} {l : List En} (hl : l.length ≤ NB) (h : zay W v l) : Calls Tryz.prog 227 #[v] W fun e w' => ∃ v', e = .returned (bkV l.length v') ∧ zay w' v' (zaj l) ∧ (∀ c, v'.ownBlock = some c → W.heap.size ≤ c) ∧ Below W.heap.size W w' := by
 have HE := fun (w : World) (hw : zay w v l) => zrm hl hw
 have HL := zj2 l.length (by unfold NB at hl; omega)
 obtain ⟨a, cap, rfl, -, -, -, -⟩ := SlV.clip h
 have hA := zay.below h (zab yyr (.cells #[.int .i64 0, .slice none 0 0] 222))
 generalize hn : l.length = n at *
 have HN := yyh hn
 have HE := yyh HE
 have HA := yyh hA
 have HLL := yyh HL
 clear h hA hn HL
 unfold bkV
 go_enter Tryz.func227, Tryz.ntmps227
 go_wp2_with fail
 refine (HLL.out _).mono ?_
 rintro e w1 ⟨rfl, rfl⟩
 go_wp2_with fail
 refine (HE.out _ HA.out).mono ?_
 rintro e w2 ⟨v', rfl, hS, hge, hB⟩
 obtain ⟨a', cap', rfl, -, -, -, -⟩ := SlV.clip hS
 have hb0 : w2.heap[W.heap.size]? = some (.cells #[.int .i64 0, .slice none 0 0] 222 (0, 0)) := (hB.block _ (by simp)).trans (heap_alloc_new W _)
 have c0 : w2.cell? ⟨W.heap.size, 0, none⟩ = some (.int .i64 0) := zaa hb0
 have c1 : w2.cell? ⟨W.heap.size, 1, none⟩ = some (.slice none 0 0) := zaa hb0
 have f0 : w2.frozen? ⟨W.heap.size, 0, none⟩ = false := by simp [World.frozen?, hb0]
 have f1 : w2.frozen? ⟨W.heap.size, 1, none⟩ = false := by simp [World.frozen?, hb0]
 have hB0 : Below W.heap.size W w2 := zad hB (zab yyr _)
 have HS := yyh hS
 have HGE := yyh (fun c hc => Nat.le_of_succ_le (by have := hge c hc; simpa using this) : ∀ c, (Value.slice a' (zaj l).length cap').ownBlock = some c → W.heap.size ≤ c)
 have HNE := yyh (show ∀ c, (Value.slice a' (zaj l).length cap').ownBlock = some c → c ≠ W.heap.size from fun c hc => by have := hge c hc; simp at this; omega)
 generalize hm : (zaj l).length = m at *
 have HM := yyh hm
 have HB0 := yyh hB0
 clear hS hge hB hb0 hm hB0
 go_wp2_with fail
 have hsz : W.heap.size < w2.heap.size := World.block_lt_of_cell? w2 _ c0
 refine bodyPost_ret (v := .agg #[.int .i64 (lvl n), .slice a' m cap']) (by simp [results, Tryz.results227, go_sem, c0, c1]) rfl ?_
 refine ⟨_, rfl, ?_, HGE.out, ?_⟩
 · have := zay.put (zay.put HS.out W.heap.size 0 (.int .i64 (lvl n)) HNE.out) W.heap.size 1 (.slice a' m cap') HNE.out
   rw [← HM.out] at this ⊢
   exact this
 · exact zak (zak HB0.out _ _ _ yyn) _ _ _ yyn
theorem zay.head {W : World} {v : Value} {x : En} {l : List En} (h : zay W v (x :: l)) : ∃ b off cap, v = .slice (some ⟨b, off, none⟩) (l.length + 1) cap ∧ l.length + 1 ≤ cap ∧ cap ≤ maxLen ∧ b < W.heap.size ∧ W.cell? ⟨b, off, none⟩ = some (.int .u64 x.key) ∧ W.cell? ⟨b, off + 1, none⟩ = some (.int .i64 x.id) ∧ (cap = 1 → zay W (.slice (some ⟨b, off, none⟩) l.length 0) l) ∧ (¬ cap = 1 → zay W (.slice (some ⟨b, off + 2, none⟩) l.length (cap - 1)) l) := by
 rcases SlV.form h with ⟨_, h0, _⟩ | ⟨b, off, cap, rfl, h1, h2, h3, h4⟩
 · simp at h0
 ·
  refine ⟨b, off, cap, rfl, h1, h2, h3, h4 0 _ rfl, h4 1 _ rfl, fun hc => ?_, fun _ => ?_⟩
  ·
   obtain rfl : l = [] := List.eq_nil_of_length_eq_zero (by simp at h1; omega)
   rcases h.2 with ⟨e, _⟩ | ⟨b', off', cap', cur, e, _, _, hb, _⟩
   · cases e
   ·
    injection e with e1 e2 e3
    injection e1 with e1
    injection e1 with e1 e4
    subst e1 e4
    exact ⟨rfl, .inr ⟨b, off, 0, cur, rfl, yyn, Nat.zero_le _, hb, fun j hj => by simp at hj⟩⟩
  have hp := SlV.part h rfl 1 l.length (cap - 1) (by simp; omega) (by simp at h1; omega) (by omega)
  rw [show (zbf (x :: l)).drop (1 * 2) = zbf l from rfl, List.take_of_length_le (by rw [zcr]; omega), Nat.one_mul] at hp
  exact hp
theorem Fr.grown {w w' : World} {row : Option Nat} (hg : w.grownBy w' row) : Fr (fun k => some k = row) w w' := ⟨hg.os, hg.tape, hg.output, hg.size, fun k hk hn => hg.block k hk hn⟩
theorem zbn {w X X' : World} (h : Below w.heap.size w X) {v : Value} (hv : ∀ c, v.ownBlock = some c → w.heap.size ≤ c) (hg : X.grownBy X' v.ownBlock) : Below w.heap.size w X' :=
 ⟨hg.os.trans h.os, hg.tape.trans h.tape, hg.output.trans h.output, Nat.le_trans h.size hg.size, fun k hk => (hg.block k (Nat.lt_of_lt_of_le hk h.size) (fun e => by have := hv k e.symm; omega)).trans (h.block k hk)⟩
theorem zb0.ge {w : World} {base : Nat} {v : Value} {l : List En} (h : zb0 w base v l) : ∀ c, v.ownBlock = some c → base ≤ c := fun c hc => (World.ownsRow.lt h c hc).1
theorem zb0.below {w w' : World} {base : Nat} {v : Value} {l : List En} (h : zb0 w base v l) (hb : Below w.heap.size w w') : zb0 w' base v l := by
 refine ⟨h.1, ?_⟩
 rcases h.2 with h2 | ⟨g, cap, cur, rfl, h3, hg, rest⟩
 · exact .inl h2
 · exact .inr ⟨g, cap, cur, rfl, h3, (hb.block g (zac hg)).trans hg, rest⟩
theorem zay.grown {W X X' : World} {u v : Value} {l : List En} (h : zay X u l) (hu : ∀ c, u.ownBlock = some c → c < W.heap.size) (hv : ∀ c, v.ownBlock = some c → W.heap.size ≤ c) (hg : X.grownBy X' v.ownBlock) : zay X' u l :=
 zay.fr h (Fr.grown hg) (fun c hc e => by have := hu c hc; have := hv c e.symm; omega)
theorem zoy {W : World} {v0 v1 : Value} {la lb : List En} (hl : la.length + lb.length ≤ 1000) (ha : zay W v0 la) (hb : zay W v1 lb) : Calls Tryz.prog 142 #[v0, v1] W fun e w' => ∃ v', e = .returned v' ∧ zb0 w' W.heap.size v' (zb6 la lb) ∧ Below W.heap.size W w' := by
 obtain ⟨a0, k0, rfl, -, -, -, -⟩ := SlV.clip ha
 obtain ⟨a1, k1, rfl, -, -, -, -⟩ := SlV.clip hb
 obtain ⟨R, hR⟩ := yye (zb6 la lb)
 rw [hR]
 have HR := yyh hR
 have HA := yyh ha
 have HB := yyh hb
 obtain ⟨n0, hn0⟩ : ∃ n, la.length = n := ⟨_, rfl⟩
 obtain ⟨n1, hn1⟩ : ∃ n, lb.length = n := ⟨_, rfl⟩
 have HN := yyh (show la.length = n0 ∧ lb.length = n1 from ⟨hn0, hn1⟩)
 rw [hn0, hn1] at hl ⊢
 clear ha hb hR hn0 hn1
 obtain ⟨i0, hi0, hz0, hz1, hz2⟩ := info_parts zjr
 go_enter Tryz.func142, Tryz.ntmps142
 go_wp2_with (refine wpList_make_own _ rfl (.const (.int .i64 0)) (.tmp 10) 42 rfl W.heap.size 63 i0 zEn 2 Tryz.underlying42 hi0 hz0 hz1 .i64 .i64 _ (n0 + n1) rfl rfl (by simp) (by rw [hz2]; omega) (by unfold maxLen; omega) yyn ?_; intro w1 hown1 hg1)
 have hB1 : Below W.heap.size W w1 := ⟨hg1.os, hg1.tape, hg1.output, hg1.size, fun k hk => hg1.block k hk (fun e => by cases e)⟩
 have HST := yyh (show zay w1 (.slice a0 n0 k0) la ∧ zay w1 (.slice a1 n1 k1) lb ∧ zb0 w1 W.heap.size (.slice (some ⟨W.heap.size, 0, none⟩) 0 (n0 + n1)) [] ∧ Below W.heap.size W w1 ∧ (∀ c, (Value.slice a0 n0 k0).ownBlock = some c → c < W.heap.size) ∧ (∀ c, (Value.slice a1 n1 k1).ownBlock = some c → c < W.heap.size) from by
  have ha := HA.out
  have hb := HB.out
  rw [HN.out.1] at ha
  rw [HN.out.2] at hb
  exact ⟨zay.below ha hB1, zay.below hb hB1, hown1, hB1, fun c hc => SlV.lt ha hc, fun c hc => SlV.lt hb hc⟩)
 clear hown1 hg1 hB1 HA HB
 go_loopg [0, 1, 5] (n0 + n1) (fun gg x0 x1 x5 wr => ∃ (pa pb o : List En), gg = pa.length + pb.length ∧ pa.length + pb.length + o.length ≤ 1000 ∧ Aside (zay wr x0 pa ∧ zay wr x1 pb ∧ zb0 wr W.heap.size x5 o ∧ Below W.heap.size W wr ∧ (∀ c, x0.ownBlock = some c → c < W.heap.size) ∧ (∀ c, x1.ownBlock = some c → c < W.heap.size) ∧ R = o ++ zb6 pa pb))
 case atStart =>
  refine ⟨la, lb, [], by rw [HN.out.1, HN.out.2], by rw [HN.out.1, HN.out.2]; simpa using hl, ?_⟩
  show Aside _
  obtain ⟨q1, q2, q3, q4, q5, q6⟩ := HST.out
  exact ⟨q1, q2, q3, q4, q5, q6, HR.out.symm⟩
 case round =>
  obtain ⟨pa, pb, o, rfl, hlen, A⟩ := hrel
  obtain ⟨q1, q2, q3, q4, q5, q6, q7⟩ := A.out
  clear A HST HN
  cases pa with
  | nil =>
   obtain ⟨ad, kk, rfl, -, -, -, -⟩ := SlV.clip q1
   obtain ⟨ae, kl, rfl, -, -, -, -⟩ := SlV.clip q2
   have q7' : R = o ++ pb := by rw [q7, zgp]
   have H1 := yyh q1
   have H2 := yyh q2
   have H3 := yyh q3
   have H4 := yyh q4
   have H6 := yyh q6
   have H7 := yyh q7'
   have HL := yyh hlen
   clear q1 q2 q3 q4 q5 q6 q7 q7' hlen
   go_wp2_with (first
    | (at_builtin; refine za3 rfl (.tmp 43) (.tmp 44) rfl W.heap.size _ o rfl H3.out _ [] rfl H1.out (by have := HL.out; simp at this ⊢; omega) H4.out.size ?_; intro v2 w2 hO2 hg2; have hB2 := zbn H4.out H3.out.ge hg2; have hS2 := zay.grown (W := W) H2.out H6.out H3.out.ge hg2)
    | (at_builtin; refine za3 rfl (.tmp 45) (.tmp 46) rfl W.heap.size _ (o ++ []) rfl hO2 _ pb rfl hS2 (by have := HL.out; simp at this ⊢; omega) hB2.size ?_; intro v3 w3 hO3 hg3; have hB3 := zbn hB2 hO2.ge hg3))
   go_ret
   refine ⟨_, rfl, ?_, hB3⟩
   rw [List.append_nil, ← H7.out] at hO3
   exact hO3
  | cons x pa =>
   cases pb with
   | nil =>
    obtain ⟨ad, kk, rfl, -, -, -, -⟩ := SlV.clip q1
    obtain ⟨ae, kl, rfl, -, -, -, -⟩ := SlV.clip q2
    have q7' : R = o ++ (x :: pa) := by rw [q7, zf6]
    have g1 : decide (((x :: pa).length : Int) > 0) = true := by simp
    have g2 : decide ((0 : Int) < ((x :: pa).length : Int)) = true := by simp
    have H1 := yyh q1
    have H2 := yyh q2
    have H3 := yyh q3
    have H4 := yyh q4
    have H6 := yyh q6
    have H7 := yyh q7'
    have HL := yyh hlen
    have hq : 0 < (x :: pa).length := by simp
    generalize hp : x :: pa = qa at *
    clear q1 q2 q3 q4 q5 q6 q7 q7' hlen hp
    go_wp2_with (first
     | (at_builtin; refine za3 rfl (.tmp 43) (.tmp 44) rfl W.heap.size _ o rfl H3.out _ qa rfl H1.out (by have := HL.out; simp at this ⊢; omega) H4.out.size ?_; intro v2 w2 hO2 hg2; have hB2 := zbn H4.out H3.out.ge hg2; have hS2 := zay.grown (W := W) H2.out H6.out H3.out.ge hg2)
     | (at_builtin; refine za3 rfl (.tmp 45) (.tmp 46) rfl W.heap.size _ (o ++ qa) rfl hO2 _ [] rfl hS2 (by have := HL.out; simp at this ⊢; omega) hB2.size ?_; intro v3 w3 hO3 hg3; have hB3 := zbn hB2 hO2.ge hg3))
    go_ret
    refine ⟨_, rfl, ?_, hB3⟩
    rw [List.append_nil, ← H7.out] at hO3
    exact hO3
   | cons y pb =>
    obtain ⟨b0, f0, k0', rfl, l0, m0, lt0, ca0, ca1, t0⟩ := zay.head q1
    obtain ⟨b1, f1, k1', rfl, l1, m1, lt1, cb0, cb1, t1⟩ := zay.head q2
    have q7' : R = o ++ (if ltE y x then y :: zb6 (x :: pa) pb else x :: zb6 pa (y :: pb)) := by rw [q7, zk5]
    have hm0 : (k0' : Int) ≤ 9223372036854775807 := by unfold maxLen at m0; omega
    have hm1 : (k1' : Int) ≤ 9223372036854775807 := by unfold maxLen at m1; omega
    have d0 : wr.drew.cell? ⟨b0, f0, none⟩ = some (.int .u64 x.key) := ca0
    have d1 : wr.drew.cell? ⟨b0, f0 + 1, none⟩ = some (.int .i64 x.id) := ca1
    have d2 : wr.drew.cell? ⟨b1, f1, none⟩ = some (.int .u64 y.key) := cb0
    have d3 : wr.drew.cell? ⟨b1, f1 + 1, none⟩ = some (.int .i64 y.id) := cb1
    have H1 := yyh q1
    have H2 := yyh q2
    have H3 := yyh q3
    have H4 := yyh q4
    have H5 := yyh q5
    have H6 := yyh q6
    have HL := yyh hlen
    have HT := yyh (yyi t0 t1)
    have hLS := zmc y x
    generalize ltE y x = tt at hLS q7'
    have H7 := yyh q7'
    have HLS := yyh hLS
    clear hLS
    clear q1 q2 q3 q4 q5 q6 q7 q7' hlen t0 t1
    unfold enV at HLS
    go_wp2_with fail
    refine wp_region_still_tail 6 (by kernel_rfl) (by kernel_rfl) ?_
    simp only [List.take_succ_cons, List.take_zero, List.drop_succ_cons, List.drop_zero]
    iterate 6 still_step
    refine wpStill_nil ?_
    go_wp2_with fail
    refine (HLS.out _).mono ?_
    rintro e w2 ⟨rfl, hG⟩
    have hBg := hG.below
    have e0 : w2.cell? ⟨b0, f0, none⟩ = some (.int .u64 x.key) := zae hBg d0
    have e1 : w2.cell? ⟨b0, f0 + 1, none⟩ = some (.int .i64 x.id) := zae hBg d1
    have e2 : w2.cell? ⟨b1, f1, none⟩ = some (.int .u64 y.key) := zae hBg d2
    have e3 : w2.cell? ⟨b1, f1 + 1, none⟩ = some (.int .i64 y.id) := zae hBg d3
    have hBr : Below wr.heap.size wr w2 := zad hBg (zaf yyr)
    have HBR := yyh hBr
    clear hG hBg hBr ca0 ca1 cb0 cb1 d0 d1 d2 d3
    cases tt with
    | true =>
     have hO := zb0.below H3.out (zab HBR.out (.cells #[.int .u64 y.key, .int .i64 y.id] 63))
     have hone := zay.one w2 y w2.heap.size rfl
     have hBW : Below W.heap.size W (w2.alloc (.cells #[.int .u64 y.key, .int .i64 y.id] 63)) := zab (zad HBR.out H4.out) _
     have HO := yyh hO
     have HONE := yyh hone
     have HBW := yyh hBW
     clear hO hone hBW
     go_wp2_with (at_builtin; refine za3 rfl (.tmp 27) (.tmp 31) rfl W.heap.size _ o rfl HO.out _ [y] rfl HONE.out (by have := HL.out; simp at this ⊢; omega) HBW.out.size ?_; intro v3 w3 hO3 hg3; have hB3 := zbn HBW.out HO.out.ge hg3; have HX := yyh (yyi hO3 (yyi hB3 hg3)); clear hO3 hg3 hB3)
     all_goals go_roundg (pa.length + 1 + pb.length)
     all_goals first | (case measure => omega) | skip
     all_goals
      refine ⟨x :: pa, pb, o ++ [y], rfl, by have := HL.out; simp at this ⊢; omega, ?_⟩
      show Aside _
      obtain ⟨hO3, hB3, hg3⟩ := HX.out
      have hge := HO.out.ge
      have hbw : Below wr.heap.size wr (w2.alloc (.cells #[.int .u64 y.key, .int .i64 y.id] 63)) := zab HBR.out _
      exact ⟨zay.grown (W := W) (zay.below H1.out hbw) H5.out hge hg3, zay.grown (W := W) (zay.below (by first | exact HT.out.2.1 (by assumption) | exact HT.out.2.2 (by assumption)) hbw) (fun c hc => H6.out c hc) hge hg3, hO3, hB3, H5.out, fun c hc => H6.out c hc, by rw [H7.out]; simp⟩
    | false =>
     have hO := zb0.below H3.out (zab HBR.out (.cells #[.int .u64 x.key, .int .i64 x.id] 63))
     have hone := zay.one w2 x w2.heap.size rfl
     have hBW : Below W.heap.size W (w2.alloc (.cells #[.int .u64 x.key, .int .i64 x.id] 63)) := zab (zad HBR.out H4.out) _
     have HO := yyh hO
     have HONE := yyh hone
     have HBW := yyh hBW
     clear hO hone hBW
     go_wp2_with (at_builtin; refine za3 rfl (.tmp 35) (.tmp 39) rfl W.heap.size _ o rfl HO.out _ [x] rfl HONE.out (by have := HL.out; simp at this ⊢; omega) HBW.out.size ?_; intro v3 w3 hO3 hg3; have hB3 := zbn HBW.out HO.out.ge hg3; have HX := yyh (yyi hO3 (yyi hB3 hg3)); clear hO3 hg3 hB3)
     all_goals go_roundg (pa.length + (pb.length + 1))
     all_goals first | (case measure => omega) | skip
     all_goals
      refine ⟨pa, y :: pb, o ++ [x], rfl, by have := HL.out; simp at this ⊢; omega, ?_⟩
      show Aside _
      obtain ⟨hO3, hB3, hg3⟩ := HX.out
      have hge := HO.out.ge
      have hbw : Below wr.heap.size wr (w2.alloc (.cells #[.int .u64 x.key, .int .i64 x.id] 63)) := zab HBR.out _
      exact ⟨zay.grown (W := W) (zay.below (by first | exact HT.out.1.1 (by assumption) | exact HT.out.1.2 (by assumption)) hbw) (fun c hc => H5.out c hc) hge hg3, zay.grown (W := W) (zay.below H2.out hbw) H6.out hge hg3, hO3, hB3, fun c hc => H5.out c hc, H6.out, by rw [H7.out]; simp⟩
theorem zay.at {W : World} {b off cap n : Nat} {l : List En} (h : zay W (.slice (some ⟨b, off, none⟩) n cap) l) (j : Nat) (e : En) (he : l[j]? = some e) : W.cell? ⟨b, off + j * 2, none⟩ = some (.int .u64 e.key) ∧ W.cell? ⟨b, off + j * 2 + 1, none⟩ = some (.int .i64 e.id) := by
 rcases SlV.form h with ⟨h0, _⟩ | ⟨b', off', cap', e1, h1, h2, h3, h4⟩
 · cases h0
 ·
  injection e1 with e1 e2 e3
  injection e1 with e1
  injection e1 with e1 e4
  subst e1 e4
  have k0 := zcz l j 0 (by omega)
  have k1 := zcz l j 1 (by omega)
  rw [he] at k0 k1
  exact ⟨h4 _ _ k0, h4 _ _ k1⟩
def clC : Value := .func (.func 248) #[] #[]
theorem zis {W : World} {v : Value} {l : List En} (hl : l.length ≤ 1000) (h : zay W v l) (hs : zbh l) : Calls Tryz.prog 300 #[v, clC] W fun e w' => e = .returned (.bool true) ∧ Below W.heap.size W w' := by
 rcases SlV.form h with ⟨rfl, h0, h1⟩ | ⟨b, off, cap, rfl, h1, h2, h3, h4⟩
 ·
  obtain rfl : l = [] := List.eq_nil_of_length_eq_zero h0
  clear h
  unfold clC
  go_enter Tryz.func300, Tryz.ntmps300
  go_wp2_with fail
  refine wp_loop_rounds 1 ?_
  rw [rounds_succ]
  go_wp2_with fail
  go_ret
  exact ⟨rfl, yyr⟩
 ·
  have H := yyh h
  have HS := yyh hs
  obtain ⟨n, hn⟩ := yye (l.length)
  have HN := yyh hn
  rw [hn] at hl h1
  rw [hn]
  have hm : (cap : Int) ≤ 9223372036854775807 := by unfold maxLen at h2; omega
  clear h hs hn h4
  unfold clC
  go_enter Tryz.func300, Tryz.ntmps300
  go_wp2_with fail
  go_loopg [5] n (fun gg v5 wr => ∃ x : Int, -1 ≤ x ∧ x < n ∧ gg = (x + 1).toNat ∧ v5 = .int .i64 x ∧ Aside (Below W.heap.size W wr))
  case atStart => exact ⟨(n : Int) - 1, by omega, by omega, by omega, by go_num, (show Aside _ from yyr)⟩
  case round =>
   obtain ⟨x, x0, x1, rfl, rfl, A⟩ := hrel
   by_cases hx : 0 < x
   ·
    obtain ⟨i, rfl⟩ : ∃ i : Nat, x = (i : Int) + 1 := ⟨(x - 1).toNat, by omega⟩
    have hi1 : i + 1 < l.length := by rw [HN.out]; omega
    obtain ⟨e1, he1⟩ : ∃ e, l[i + 1]? = some e := ⟨_, yyg hi1⟩
    obtain ⟨e0, he0⟩ : ∃ e, l[i]? = some e := ⟨_, yyg (by omega)⟩
    have hW := zay.below H.out A.out
    obtain ⟨c0, c1⟩ := zay.at hW (i + 1) e1 he1
    obtain ⟨c2, c3⟩ := zay.at hW i e0 he0
    have d0 : wr.drew.cell? ⟨b, off + (i + 1) * 2, none⟩ = some (.int .u64 e1.key) := c0
    have d1 : wr.drew.cell? ⟨b, off + (i + 1) * 2 + 1, none⟩ = some (.int .i64 e1.id) := c1
    have d2 : wr.drew.cell? ⟨b, off + i * 2, none⟩ = some (.int .u64 e0.key) := c2
    have d3 : wr.drew.cell? ⟨b, off + i * 2 + 1, none⟩ = some (.int .i64 e0.id) := c3
    have hlt : decide (zb1 e1 e0 < 0) = false := by
     have := List.pairwise_iff_getElem.1 HS.out i (i + 1) (by omega) hi1 (by omega)
     rw [(yyk.1 he0).2, (yyk.1 he1).2] at this
     exact this
    have hC := zeu e1 e0
    generalize zb1 e1 e0 = c at hC hlt
    have g1 : decide (0 < (i : Int) + 1) = true := by rw [decide_eq_true_eq]; omega
    have hz : 0 ≤ (i : Int) + 1 := by omega
    have hin : i < n := by omega
    have hwr : IntKind.i64.wrap (i : Int) = (i : Int) := by rw [IntKind.wrap_i64]; omega
    unfold enV at hC
    have HC := yyh hC
    clear hC hW c0 c1 c2 c3 he1 he0
    go_wp2_with fail
    refine wp_region_still_tail 10 (by kernel_rfl) (by kernel_rfl) ?_
    simp only [List.take_succ_cons, List.take_zero, List.drop_succ_cons, List.drop_zero]
    iterate 10 still_step
    refine wpStill_nil ?_
    go_wp2_with fail
    refine (HC.out _).mono ?_
    rintro e w' ⟨rfl, hG⟩
    have HB := yyh hG.below
    clear hG
    go_wp2_with fail
    go_roundg (i + 1)
    case measure => omega
    case rel => exact ⟨(i : Int), by omega, by omega, by omega, by go_num, (show Aside _ from zad HB.out (zaf A.out))⟩
   ·
    have g1 : decide (0 < x) = false := by simpa using hx
    go_wp2_with fail
    go_ret
    exact ⟨rfl, A.out⟩
theorem zj3 {W : World} {v : Value} {l : List En} (hl : l.length ≤ 1000) (h : zay W v l) (hs : zbh l) : Calls Tryz.prog 291 #[v] W fun e w' => e = .returned (.bool true) ∧ Below W.heap.size W w' := by
 have H := yyh (zis hl h hs)
 obtain ⟨a, cap, rfl, -, -, -, -⟩ := SlV.clip h
 unfold clC at H
 clear h
 go_enter Tryz.func291, Tryz.ntmps291
 go_wp2_with fail
 refine H.out.mono ?_
 rintro e w' ⟨rfl, hB⟩
 go_wp2_with fail
 go_ret
 exact ⟨rfl, hB⟩
end Go.Proofs.YtcfhkbcllijnkaaGreat
