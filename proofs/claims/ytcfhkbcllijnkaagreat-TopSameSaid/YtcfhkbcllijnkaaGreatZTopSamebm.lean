/- Contracts and plain laws that the proof of TopSame goes by, under no condition. -/
import Derived.Test.YtcfhkbcllijnkaaGreatZTopSamebl
import Derived.Test.YtcfhkbcllijnkaaGreatZTopSamead
set_option linter.unusedVariables false
set_option linter.unusedSimpArgs false
set_option maxRecDepth 100000
set_option maxHeartbeats 40000000
namespace Go.Proofs.YtcfhkbcllijnkaaGreat
open Go.RowKit Go.Maps Go.Shelf Go.Proofs.YtcfhkbcllijnkaaGreatW.PrintWords
section
variable {W W' W2 : World} {M : MA} {s s' s2 : MS} {N N' N2 : Nat}
theorem MStep.refl (h : MachAt W M s N) : MStep W M s W s N := ⟨h, Fr.refl _ _, fun j hj => .inl hj⟩
theorem MStep.below (h : MachAt W M s N) (hb : Below W.heap.size W W') : MStep W M s W' s N := ⟨h.below hb, ⟨hb.os, hb.tape, hb.output, hb.size, fun j hj _ => hb.block j hj⟩, fun j hj => .inl hj⟩
theorem mOwn_lt (h : MachAt W M s N) {j : Nat} (hj : mOwn M s j) : j < W.heap.size := by
 rcases hj with hj | rfl | rfl
 · exact h.c.lt hj
 · exact heap_lt h.m
 · exact heap_lt h.l
theorem MStep.trans (a : MStep W M s W' s' N') (b : MStep W' M s' W2 s2 N2) : MStep W M s W2 s2 N2 := by
 refine ⟨b.at_, ⟨b.fr.os.trans a.fr.os, b.fr.tape.trans a.fr.tape, b.fr.output.trans a.fr.output, Nat.le_trans a.fr.size b.fr.size, fun j hj hn => ?_⟩, fun j hj => ?_⟩
 ·
  have n2 : ¬ mOwn M s' j := fun e => by
   rcases a.own j e with e | e
   · exact hn e
   · omega
  rw [b.fr.block j (Nat.lt_of_lt_of_le hj a.fr.size) n2, a.fr.block j hj hn]
 · rcases b.own j hj with e | e
   · exact a.own j e
   · exact .inr (Nat.le_trans a.fr.size e)
theorem MStep.kept (k : MStep W M s W' s' N') {j : Nat} {o : Obj} (hn : ¬ mOwn M s j) (ho : W.heap[j]? = some o) : W'.heap[j]? = some o ∧ ¬ mOwn M s' j := by
 have hl := heap_lt ho
 refine ⟨(k.fr.block j hl hn).trans ho, fun e => ?_⟩
 rcases k.own j e with e | e
 · exact hn e
 · omega
end
section
variable {W : World}
theorem V_Conf0 (a b c : Int) (T k C : Nat) (ha : bits .and .i64 a 7 = (T : Int)) (hb : bits .and .i64 b 15 = (k : Int)) (hc : bits .and .i64 c 63 = (C : Int)) (hT : T ≤ 7) (hC : C ≤ 63) : Calls Tryz.prog 33 #[.int .i64 a, .int .i64 b, .int .i64 c] W fun e w' => e = .returned (.agg #[.int .i64 ((T : Int) + 1), .int .i64 k, .int .i64 ((C : Int) + 1)]) ∧ Below W.heap.size W w' := by
 have w1 : wrap64 ((T : Int) + 1) = (T : Int) + 1 := by unfold wrap64; omega
 have w2 : wrap64 ((C : Int) + 1) = (C : Int) + 1 := by unfold wrap64; omega
 obtain ⟨W2, hW2⟩ : ∃ W2, W.alloc (.cells #[.int .i64 ((T : Int) + 1), .int .i64 k, .int .i64 ((C : Int) + 1)] 83) = W2 := ⟨_, rfl⟩
 have x : W2.heap[W.heap.size]? = some (.cells #[.int .i64 ((T : Int) + 1), .int .i64 k, .int .i64 ((C : Int) + 1)] 83 (0, 0)) := by rw [← hW2]; exact heap_alloc_new W _
 have hb : Below W.heap.size W W2 := by rw [← hW2]; exact below_al (Below.refl _ _) _
 have HB := Lib.hid hb
 have HX := Lib.hid x
 have HW2 := Lib.hid hW2
 clear x hW2 hb
 go_enter Tryz.func33, Tryz.ntmps33
 go_wp2_with fail
 rw [HW2.out]
 have e0 : W2.cell? ⟨W.heap.size, 0, none⟩ = some (.int .i64 ((T : Int) + 1)) := by rw [cell_of_heap HX.out]; rfl
 have e1 : W2.cell? ⟨W.heap.size, 1, none⟩ = some (.int .i64 k) := by rw [cell_of_heap HX.out]; rfl
 have e2 : W2.cell? ⟨W.heap.size, 2, none⟩ = some (.int .i64 ((C : Int) + 1)) := by rw [cell_of_heap HX.out]; rfl
 refine bodyPost_ret (v := .agg #[.int .i64 ((T : Int) + 1), .int .i64 k, .int .i64 ((C : Int) + 1)]) (by simp [results, Tryz.results33, go_sem, e0, e1, e2]) rfl ?_
 exact ⟨rfl, HB.out⟩
theorem and_i64_15 (x : Int) : bits .and .i64 x 15 = x % 16 := and_i64 4 (by decide) x
theorem V_Conf (a b c : Int) : ∃ T k C : Nat, 1 ≤ T ∧ T ≤ 8 ∧ k ≤ 15 ∧ 1 ≤ C ∧ C ≤ 64 ∧ (T : Int) = a % 8 + 1 ∧ (k : Int) = b % 16 ∧ (C : Int) = c % 64 + 1 ∧ ∀ W, Calls Tryz.prog 33 #[.int .i64 a, .int .i64 b, .int .i64 c] W fun e w' => e = .returned (.agg #[.int .i64 T, .int .i64 k, .int .i64 C]) ∧ Below W.heap.size W w' := by
 refine ⟨(a % 8).toNat + 1, (b % 16).toNat, (c % 64).toNat + 1, by omega, by omega, by omega, by omega, by omega, by omega, by omega, by omega, fun W => ?_⟩
 have := V_Conf0 (W := W) a b c (a % 8).toNat (b % 16).toNat (c % 64).toNat (by rw [and_i64_7]; omega) (by rw [and_i64_15]; omega) (by rw [and_i64_63]; omega) (by omega) (by omega)
 exact this
end
def CM.new (T k : Nat) : CM := ⟨⟨k, List.replicate T none, List.replicate T [], []⟩, false, 0, [], 0, false, []⟩
def NwS (b : Nat) (T k C : Nat) (w : World) : Prop := w.cell? ⟨b, 0, none⟩ = some (.int .i64 (T : Int)) ∧ w.cell? ⟨b, 1, none⟩ = some (.int .i64 (k : Int)) ∧ w.cell? ⟨b, 2, none⟩ = some (.int .i64 (C : Int))
theorem NwS.below {b T k C : Nat} {w w' : World} (h : NwS b T k C w) (hb : Below w.heap.size w w') : NwS b T k C w' := ⟨cell_goes hb h.1, cell_goes hb h.2.1, cell_goes hb h.2.2⟩
theorem made_dis {A : CA} {S : CS} {s0 s1 s2 s3 s4 s5 : Nat} (hq : ∀ j, QOwn A.q S.q j → s0 ≤ j ∧ j < s1) (hc : ∀ j, CrOwn A.cc A.cm A.cg j → s1 ≤ j ∧ j < s2) (ht : ∀ j, (tOS A.t S.t).own j → s2 ≤ j ∧ j < s3) (hw : ∀ j, WhOwn A.wp A.m1 A.m2 A.m3 j → s3 ≤ j ∧ j < s4) (hd : ∀ j, DagOwn A.dp A.pm A.nm j → s4 ≤ j ∧ j < s5) (hh : A.cb = s5) (he : S.evv.ownBlock = none) (l01 : s0 ≤ s1) (l12 : s1 ≤ s2) (l23 : s2 ≤ s3) (l34 : s3 ≤ s4) (l45 : s4 ≤ s5) : (cparts A S).Pairwise fun a b => ∀ j, a.os.own j → ¬ b.os.own j := by
 have xh : ∀ j, (PT.hdr A.cb (hdrC A S)).os.own j → j = s5 := fun j h => by rw [← hh]; exact h
 have xq : ∀ j, (PT.queue A.q S.q).os.own j → s0 ≤ j ∧ j < s1 := hq
 have xw : ∀ j, (PT.wheel A.wp A.m1 A.m2 A.m3 0).os.own j → s3 ≤ j ∧ j < s4 := hw
 have xd : ∀ j, (PT.dag A.dp A.pm A.nm S.d).os.own j → s4 ≤ j ∧ j < s5 := hd
 have xc : ∀ j, (PT.cred A.cc A.cm A.cg A.C S.o S.m S.K).os.own j → s1 ≤ j ∧ j < s2 := hc
 have xt : ∀ j, (PT.tab A.t S.t).os.own j → s2 ≤ j ∧ j < s3 := ht
 have xe : ∀ j, ¬ (PT.evs S.evv S.evs).os.own j := fun j h => by
  have h : S.evv.ownBlock = some j := h
  rw [he] at h
  cases h
 unfold cparts
 simp only [List.pairwise_cons, List.mem_cons, List.not_mem_nil, or_false, List.Pairwise.nil, and_true, forall_eq_or_imp, forall_eq, false_imp_iff, implies_true]
 refine ⟨⟨?_, ?_, ?_, ?_, ?_, ?_⟩, ⟨?_, ?_, ?_, ?_, ?_⟩, ⟨?_, ?_, ?_, ?_⟩, ⟨?_, ?_, ?_⟩, ⟨?_, ?_⟩, ?_⟩
 all_goals (intro j a b)
 · have := xh j a; have := xq j b; omega
 · have := xh j a; have := xw j b; omega
 · have := xh j a; have := xd j b; omega
 · have := xh j a; have := xc j b; omega
 · have := xh j a; have := xt j b; omega
 · exact xe j b
 · have := xq j a; have := xw j b; omega
 · have := xq j a; have := xd j b; omega
 · have := xq j a; have := xc j b; omega
 · have := xq j a; have := xt j b; omega
 · exact xe j b
 · have := xw j a; have := xd j b; omega
 · have := xw j a; have := xc j b; omega
 · have := xw j a; have := xt j b; omega
 · exact xe j b
 · have := xd j a; have := xc j b; omega
 · have := xd j a; have := xt j b; omega
 · exact xe j b
 · have := xc j a; have := xt j b; omega
 · exact xe j b
 · exact xe j b
theorem C_New_end {W W1 w1 w2 w3 w4 w5 : World} {T k C : Nat} {qA : QA} {qs : QS} {tA : TA} {tS : TS} {wp m1 m2 m3 dp pm nm : Nat} {X : Prop} (hb1 : Below W.heap.size W W1)
 (h1 : QAt w1 qA qs ∧ qs.q qA.k = ⟨k, List.replicate T none, List.replicate T [], []⟩ ∧ qA.k = k ∧ qA.lp.length = T ∧ (∀ j, QOwn qA qs j → W1.heap.size ≤ j) ∧ Below W1.heap.size W1 w1)
 (h2 : CrAt w2 (w2.heap.size - 1) (w1.heap.size + 1) w1.heap.size (C : Int) 0 0 0 ∧ Below w1.heap.size w1 w2)
 (h3 : TabAt w3 tA tS ∧ tS.rows = [] ∧ tS.B = 0 ∧ (∀ j, (tOS tA tS).own j → w2.heap.size ≤ j) ∧ Below w2.heap.size w2 w3 ∧ X)
 (h4 : WhAt w4 wp m1 m2 m3 0 ∧ (∀ j, WhOwn wp m1 m2 m3 j → w3.drew.heap.size ≤ j) ∧ Below w3.drew.heap.size w3.drew w4)
 (h5 : DagAt w5 dp pm nm false ∧ (∀ j, DagOwn dp pm nm j → w4.heap.size ≤ j) ∧ Below w4.heap.size w4 w5) :
 ∃ A S, Ending.returned (.tuple #[.pointer (some ⟨w5.heap.size, 0, none⟩), .int .i64 0]) = .returned (.tuple #[.pointer (some ⟨A.cb, 0, none⟩), .int .i64 0]) ∧ CoreAt (w5.alloc (.cells #[.int .i64 (T : Int), .int .i64 (k : Int), .int .i64 (C : Int), .pointer (some ⟨qA.qp, 0, none⟩), .pointer (some ⟨wp, 0, none⟩), .pointer (some ⟨dp, 0, none⟩), .pointer (some ⟨w2.heap.size - 1, 0, none⟩), .pointer (some ⟨tA.t, 0, none⟩), .int .u64 0, .bool false, .slice none 0 0, .slice none 0 0] 100)) A S 0 ∧ S.cm A = CM.new T k ∧ A.q.lp.length = T ∧ A.q.k = k ∧ A.C = C ∧ (∀ j, (cOS A S).own j → W.heap.size ≤ j) ∧ Below W.heap.size W (w5.alloc (.cells #[.int .i64 (T : Int), .int .i64 (k : Int), .int .i64 (C : Int), .pointer (some ⟨qA.qp, 0, none⟩), .pointer (some ⟨wp, 0, none⟩), .pointer (some ⟨dp, 0, none⟩), .pointer (some ⟨w2.heap.size - 1, 0, none⟩), .pointer (some ⟨tA.t, 0, none⟩), .int .u64 0, .bool false, .slice none 0 0, .slice none 0 0] 100)) := by
 obtain ⟨hq, hqm, hqk, hql, hqo, hbq⟩ := h1
 obtain ⟨hc, hbc⟩ := h2
 obtain ⟨ht, htr, htB, hto, hbt, -⟩ := h3
 obtain ⟨hw, hwo, hbw⟩ := h4
 obtain ⟨hd, hdo, hbd⟩ := h5
 obtain ⟨w6, hw6⟩ : ∃ w6, w5.alloc (.cells #[.int .i64 (T : Int), .int .i64 (k : Int), .int .i64 (C : Int), .pointer (some ⟨qA.qp, 0, none⟩), .pointer (some ⟨wp, 0, none⟩), .pointer (some ⟨dp, 0, none⟩), .pointer (some ⟨w2.heap.size - 1, 0, none⟩), .pointer (some ⟨tA.t, 0, none⟩), .int .u64 0, .bool false, .slice none 0 0, .slice none 0 0] 100) = w6 := ⟨_, rfl⟩
 have hx : w6.heap[w5.heap.size]? = some (.cells #[.int .i64 (T : Int), .int .i64 (k : Int), .int .i64 (C : Int), .pointer (some ⟨qA.qp, 0, none⟩), .pointer (some ⟨wp, 0, none⟩), .pointer (some ⟨dp, 0, none⟩), .pointer (some ⟨w2.heap.size - 1, 0, none⟩), .pointer (some ⟨tA.t, 0, none⟩), .int .u64 0, .bool false, .slice none 0 0, .slice none 0 0] 100 (0, 0)) := by rw [← hw6]; exact heap_alloc_new w5 _
 have hb6 : Below w5.heap.size w5 w6 := by rw [← hw6]; exact below_al (Below.refl _ _) _
 rw [hw6]
 have e3 : w3.drew.heap.size = w3.heap.size := rfl
 have hb34 : Below w3.heap.size w3 w4 := below_step hbw (below_dr (Below.refl _ _))
 have b46 := below_step hb6 hbd
 have b36 := below_step b46 hb34
 have b26 := below_step b36 hbt
 have b16 := below_step b26 hbc
 have z1 := hbq.size
 have z2 := hbc.size
 have z3 := hbt.size
 have z4 := hb34.size
 have z5 := hbd.size
 have z0 := hb1.size
 let A : CA := ⟨w5.heap.size, qA, wp, m1, m2, m3, dp, pm, nm, w2.heap.size - 1, w1.heap.size + 1, w1.heap.size, tA, C⟩
 let S : CS := ⟨qs, false, 0, 0, 0, tS, 0, false, .slice none 0 0, []⟩
 have iq : ∀ j, QOwn qA qs j → W1.heap.size ≤ j ∧ j < w1.heap.size := fun j hj => ⟨hqo j hj, hq.lt hj⟩
 have ic : ∀ j, CrOwn (w2.heap.size - 1) (w1.heap.size + 1) w1.heap.size j → w1.heap.size ≤ j ∧ j < w2.heap.size := fun j hj => by
  have h1 := hc.lt hj
  refine ⟨?_, h1⟩
  have h2 := hc.lt (j := w1.heap.size + 1) (.inr (.inl rfl))
  rcases hj with rfl | rfl | rfl
  · have := hc.cb
    have := hc.cg
    omega
  · omega
  · omega
 have it : ∀ j, (tOS tA tS).own j → w2.heap.size ≤ j ∧ j < w3.heap.size := fun j hj => ⟨hto j hj, ht.lt hj⟩
 have iw : ∀ j, WhOwn wp m1 m2 m3 j → w3.heap.size ≤ j ∧ j < w4.heap.size := fun j hj => ⟨by have := hwo j hj; omega, hw.lt hj⟩
 have idd : ∀ j, DagOwn dp pm nm j → w4.heap.size ≤ j ∧ j < w5.heap.size := fun j hj => ⟨hdo j hj, hd.lt hj⟩
 have hdis := made_dis (A := A) (S := S) iq ic it iw idd rfl rfl z1 z2 z3 z4 z5
 have hps : PTs w6 (cparts A S) := by
  refine ⟨fun c hc' => ?_, hdis⟩
  simp only [cparts, List.mem_cons, List.not_mem_nil, or_false] at hc'
  rcases hc' with rfl | rfl | rfl | rfl | rfl | rfl | rfl
  ·
   show w6.heap[w5.heap.size]? = some (.cells (hdrC A S) _ (0, 0))
   rw [hx]
   show _ = some (Obj.cells #[.int .i64 ((qA.lp.length : Nat) : Int), .int .i64 (qA.k : Int), _, _, _, _, _, _, _, _, _, _] _ _)
   rw [hql, hqk]
  · exact hq.below b16
  · exact hw.below b46
  · exact hd.below hb6
  · exact hc.frE (Fr.of_below (S := fun _ => False) b26) (fun _ _ h => h)
  · exact ht.below b36
  · exact World.ownsRow_nil _ _ _ _
 refine ⟨A, S, rfl, ⟨hps, ⟨by show (0 : Int) ≤ 0; omega, by show tS.B ≤ 0; omega, by show 0 ≤ 0; omega, by show (0 : Int) ≤ 0; omega, by show (0 : Int) ≤ 0; omega⟩⟩, ?_, hql, hqk, rfl, fun j hj => ?_, below_step b16 (below_step hbq hb1)⟩
 · show (⟨qs.q qA.k, false, 0, tS.rows, 0, false, []⟩ : CM) = _
   rw [hqm, htr]
   rfl
 ·
  rw [cOS_own] at hj
  rcases hj with hj | hj | hj | hj | hj | hj | hj
  · have hj : j = w5.heap.size := hj
    omega
  · have := iq j hj; omega
  · have := iw j hj; omega
  · have := idd j hj; omega
  · have := ic j hj; omega
  · have := it j hj; omega
  · cases hj
theorem C_New (T k C : Nat) (h1 : 1 ≤ T) (h8 : T ≤ 8) (hk : k ≤ 16) (c1 : 1 ≤ C) (c64 : C ≤ 64) (W : World) : Calls Tryz.prog 65 #[.agg #[.int .i64 T, .int .i64 k, .int .i64 C]] W fun e w' => ∃ A S, e = .returned (.tuple #[.pointer (some ⟨A.cb, 0, none⟩), .int .i64 0]) ∧ CoreAt w' A S 0 ∧ S.cm A = CM.new T k ∧ A.q.lp.length = T ∧ A.q.k = k ∧ A.C = C ∧ (∀ j, (cOS A S).own j → W.heap.size ≤ j) ∧ Below W.heap.size W w' := by
 obtain ⟨W1, hW1⟩ : ∃ W1, W.alloc (.cells #[.int .i64 T, .int .i64 k, .int .i64 C] 83) = W1 := ⟨_, rfl⟩
 have hb1 : Below W.heap.size W W1 := by rw [← hW1]; exact below_al (Below.refl _ _) _
 have x1 : W1.heap[W.heap.size]? = some (.cells #[.int .i64 T, .int .i64 k, .int .i64 C] 83 (0, 0)) := by rw [← hW1]; exact heap_alloc_new W _
 have hS : NwS W.heap.size T k C W1 := ⟨by rw [cell_of_heap x1]; rfl, by rw [cell_of_heap x1]; rfl, by rw [cell_of_heap x1]; rfl⟩
 obtain ⟨s1, s2, s3⟩ := id hS
 have HQ := Lib.hid (Q_New T k h1 h8 hk W1)
 have H := Lib.hid (And.intro hb1 hS)
 have HC := Lib.hid (fun w => CNew_in (C : Int) (by omega) (by omega) w)
 clear hb1 x1 hS h1 h8 hk c1 c64
 go_enter Tryz.func65, Tryz.ntmps65
 go_wp2_with fail
 refine HQ.out.mono ?_
 rintro e w1 ⟨qA, qs, rfl, hq, hqm, hqk, hql, hqo, hbq⟩
 obtain ⟨t1, t2, t3⟩ := H.out.2.below hbq
 have H1 := Lib.hid (And.intro hq (And.intro hqm (And.intro hqk (And.intro hql (And.intro hqo hbq)))))
 clear hq hqm hqk hql hqo hbq
 go_wp2_with fail
 refine (HC.out _).mono ?_
 rintro e w2 ⟨rfl, hc, hbc⟩
 have H2 := Lib.hid (And.intro hc hbc)
 have HT := Lib.hid (T_New w2)
 clear hc hbc
 go_wp2_with fail
 refine HT.out.mono ?_
 rintro e w3 ⟨tA, tS, rfl, ht, htr, htB, hto, hbt⟩
 have hb3 : Below W1.heap.size W1 w3 := below_step hbt (below_step H2.out.2 H1.out.2.2.2.2.2)
 have hs3 := H.out.2.below (below_dr hb3)
 have HS3 := Lib.hid hs3
 have H3 := Lib.hid (And.intro ht (And.intro htr (And.intro htB (And.intro hto (And.intro hbt hb3)))))
 clear ht htr htB hto hbt hb3 hs3
 go_upto_region 10 with fail
 -- REGION 10 BEGIN
 refine wp_region_held_drew (S := NwS W.heap.size T k C) (by kernel_rfl) HS3.out (fun hH => ?_)
 refine tk (i := 0) (v := ?_) rfl ?_ ?_
 rotate_left
 · (intro w h; obtain ⟨_, _, _⟩ := h; go_simp; try with_reducible rfl)
 (try simp only [Act.put, pA, pB, pC])
 refine tk (i := 1) (v := ?_) rfl ?_ ?_
 rotate_left
 · (intro w h; obtain ⟨_, _, _⟩ := h; go_simp; try with_reducible rfl)
 (try simp only [Act.put, pA, pB, pC])
 refine tk (i := 4) (v := ?_) rfl ?_ ?_
 rotate_left
 · (intro w h; obtain ⟨_, _, _⟩ := h; go_simp; try with_reducible rfl)
 (try simp only [Act.put, pA, pB, pC])
 refine tk (i := 5) (v := ?_) rfl ?_ ?_
 rotate_left
 · (intro w h; obtain ⟨_, _, _⟩ := h; go_simp; try with_reducible rfl)
 (try simp only [Act.put, pA, pB, pC])
 refine wpAnyH_ready (rs := [2]) (by kernel_rfl) (by simp) ?_
 refine AllReadyH.cons rfl (fun K hK => ?_) ?_
 ·
  (go_simp; go_at_call 113; refine (Wh_New _).mono ?_; rintro e w4 ⟨wp, m1, m2, m3, rfl, hw4, hwo, hb4⟩; have H4 := Lib.hid (And.intro hw4 (And.intro hwo hb4)); clear hw4 hwo hb4)
  refine hK.out _ _ ?_ (fun hH => ?_)
  · (try dsimp only); (exact HS3.out.below H4.out.2.2)
  clear hK K
  refine wpAnyH_ready (rs := [3]) (by kernel_rfl) (by simp) ?_
  refine AllReadyH.cons rfl (fun K hK => ?_) ?_
  ·
   (go_simp; go_at_call 114; refine (D_New _).mono ?_; rintro e w5 ⟨dp, pm, nm, rfl, hd5, hdo, hb5⟩; have H5 := Lib.hid (And.intro hd5 (And.intro hdo hb5)); clear hd5 hdo hb5)
   refine hK.out _ _ ?_ (fun hH => ?_)
   · (try dsimp only); (exact hH.below H5.out.2.2)
   clear hK K
   refine tk (i := 6) (v := ?_) rfl ?_ ?_
   rotate_left
   · (intro w h; obtain ⟨_, _, _⟩ := h; go_simp; try with_reducible rfl)
   (try simp only [Act.put, pA, pB, pC])
   refine wpAnyH_ready (rs := [7]) (by kernel_rfl) (by simp) ?_
   refine AllReadyH.cons rfl (fun K hK => ?_) ?_
   ·
    (go_simp)
    refine hK.out _ _ ?_ (fun hH => ?_)
    · (try dsimp only); (exact hH.below (below_al (Below.refl _ _) _))
    clear hK K
    refine wpAnyH_ready (rs := [8]) (by kernel_rfl) (by simp) ?_
    refine AllReadyH.cons rfl (fun K hK => ?_) ?_
    ·
     (go_simp)
     refine hK.out _ _ ?_ (fun hH => ?_)
     · (try dsimp only); (exact hH)
     clear hK K
     refine wpAnyH_ready (rs := [9]) (by kernel_rfl) (by simp) ?_
     refine AllReadyH.cons rfl (fun K hK => ?_) ?_
     ·
      (go_simp)
      refine hK.out _ _ ?_ (fun hH => ?_)
      · (try dsimp only); (exact hH)
      clear hK K
      refine wpAnyH_done (by kernel_rfl) ?_ _
      go_wp2_with fail
      refine bodyPost_ret (results_tmp2 rfl _ _ _) rfl ?_
      exact C_New_end H.out.1 H1.out H2.out H3.out H4.out H5.out
     exact AllReadyH.nil
    exact AllReadyH.nil
   exact AllReadyH.nil
  exact AllReadyH.nil
 exact AllReadyH.nil
 -- REGION 10 END
section
variable {W : World}
theorem make_workers (m : Nat) (h1 : 1 ≤ m) (h8 : m ≤ 8) (W : World) : (Instr.makeSlice 85 (.int .i64 (m : Int)) (.int .i64 (m : Int))).run Tryz.prog W = .ok (.slice (some ⟨W.heap.size, 0, none⟩) m m) (W.alloc (.cells (wkC (List.replicate m wk0)).toArray 123)) := by
 rcases (show m = 1 ∨ m = 2 ∨ m = 3 ∨ m = 4 ∨ m = 5 ∨ m = 6 ∨ m = 7 ∨ m = 8 by omega) with rfl | rfl | rfl | rfl | rfl | rfl | rfl | rfl <;> kernel_rfl
theorem M_New (T k C : Nat) (h1 : 1 ≤ T) (h8 : T ≤ 8) (hk : k ≤ 16) (c1 : 1 ≤ C) (c64 : C ≤ 64) (W : World) : Calls Tryz.prog 32 #[.agg #[.int .i64 T, .int .i64 k, .int .i64 C]] W fun e w' => ∃ M s, e = .returned (.tuple #[.pointer (some ⟨M.mp, 0, none⟩), .int .i64 0]) ∧ MachAt w' M s 0 ∧ s.c.cm M.c = CM.new T k ∧ s.ws = List.replicate T wk0 ∧ s.did = [0, 0, 0, 0, 0, 0, 0] ∧ s.pk = 0 ∧ M.c.q.lp.length = T ∧ M.c.q.k = k ∧ M.c.C = C ∧ (∀ j, mOwn M s j → W.heap.size ≤ j) ∧ Below W.heap.size W w' := by
 obtain ⟨W1, hW1⟩ : ∃ W1, W.alloc (.cells #[.int .i64 T, .int .i64 k, .int .i64 C] 83) = W1 := ⟨_, rfl⟩
 have hb1 : Below W.heap.size W W1 := by rw [← hW1]; exact below_al (Below.refl _ _) _
 have x1 : W1.heap[W.heap.size]? = some (.cells #[.int .i64 T, .int .i64 k, .int .i64 C] 83 (0, 0)) := by rw [← hW1]; exact heap_alloc_new W _
 have e0 : W1.cell? ⟨W.heap.size, 0, none⟩ = some (.int .i64 T) := by rw [cell_of_heap x1]; rfl
 have e1 : W1.cell? ⟨W.heap.size, 1, none⟩ = some (.int .i64 k) := by rw [cell_of_heap x1]; rfl
 have e2 : W1.cell? ⟨W.heap.size, 2, none⟩ = some (.int .i64 C) := by rw [cell_of_heap x1]; rfl
 have HC := Lib.hid (C_New T k C h1 h8 hk c1 c64 W1)
 have hmk := make_workers T h1 h8
 obtain ⟨F, hF⟩ : ∃ F, (wkC (List.replicate T wk0)).toArray = F := ⟨_, rfl⟩
 rw [hF] at hmk
 have HF := Lib.hid hF
 have H1 := Lib.hid (And.intro hb1 x1)
 clear hF hb1 x1
 go_enter Tryz.func32, Tryz.ntmps32
 go_wp2_with fail
 refine HC.out.mono ?_
 rintro e w1 ⟨A, S, rfl, hc, hcm, hl, hk', hC, hown, hb⟩
 have y1 := (hb.block _ (heap_lt H1.out.2)).trans H1.out.2
 have f0 : w1.cell? ⟨W.heap.size, 0, none⟩ = some (.int .i64 T) := by rw [cell_of_heap y1]; rfl
 have H2 := Lib.hid (And.intro hc (And.intro hcm (And.intro hl (And.intro hk' (And.intro hC (And.intro hown hb))))))
 clear y1 hc hcm hl hk' hC hown hb e0 e1 e2 hW1
 go_wp2_with fail
 go_ret2
 obtain ⟨hc, hcm, hl, hk', hC, hown, hb⟩ := H2.out
 have hb2 : Below w1.heap.size w1 ((w1.alloc (.cells F 123)).alloc (.cells (machC ⟨A, w1.heap.size + 1, w1.heap.size⟩ ⟨S, List.replicate T wk0, [0, 0, 0, 0, 0, 0, 0], 0⟩).toArray 88)) := below_al (below_al (Below.refl _ _) _) _
 have hsz : W.heap.size ≤ w1.heap.size := (below_step hb H1.out.1).size
 have hmc : (machC ⟨A, w1.heap.size + 1, w1.heap.size⟩ ⟨S, List.replicate T wk0, [0, 0, 0, 0, 0, 0, 0], 0⟩).toArray = #[.pointer (some ⟨A.cb, 0, none⟩), .slice (some ⟨w1.heap.size, 0, none⟩) T T, .int .i64 0, .int .i64 0, .int .i64 0, .int .i64 0, .int .i64 0, .int .i64 0, .int .i64 0, .int .i64 0] := by
  simp [machC]
 rw [hmc] at hb2
 refine ⟨⟨A, w1.heap.size + 1, w1.heap.size⟩, ⟨S, List.replicate T wk0, [0, 0, 0, 0, 0, 0, 0], 0⟩, rfl, ⟨hc.below hb2, ?_, ?_, ?_, rfl, fun e => ?_, fun e => ?_⟩, hcm, rfl, rfl, rfl, hl, hk', hC, ?_, below_step hb2 (below_step hb H1.out.1)⟩
 · rw [hmc]; exact alloc_at (by simp)
 · rw [HF.out]; exact alloc_old (heap_alloc_new w1 _)
 · rw [List.length_replicate]; exact hl.symm
 · exact absurd (hc.lt e) (by show ¬ w1.heap.size + 1 < w1.heap.size; omega)
 · exact absurd (hc.lt e) (by show ¬ w1.heap.size < w1.heap.size; omega)
 ·
  rintro j (hj | rfl | rfl)
  · have := hown j hj; have := H1.out.1.size; omega
  · show W.heap.size ≤ w1.heap.size + 1; omega
  · exact hsz
end
def stZ : Array Value := #[.int .u64 0, .int .u64 0, .bool false, .int .i64 0, .slice none 0 0, .slice none 0 0, .slice none 0 0, .slice none 0 0, .slice none 0 0]
def StZ (W1 : World) (b : Nat) (w : World) : Prop := w.heap[b]? = some (.cells stZ 46 (0, 0)) ∧ W1.heap.size ≤ b
section
variable {W1 W w w' : World} {A : CA} {S S' : CS} {N N' i : Nat} {tv sv hv : Value}
theorem StZ.kept {b : Nat} (h : StZ W1 b w) (hk : StK W1 w w') : StZ W1 b w' := ⟨hk _ _ h.2 h.1, h.2⟩
theorem StZ.cells {b : Nat} (h : StZ W1 b w) : w.cell? ⟨b, 0, none⟩ = some (.int .u64 0) ∧ w.cell? ⟨b, 1, none⟩ = some (.int .u64 0) ∧ w.cell? ⟨b, 2, none⟩ = some (.bool false) ∧ w.cell? ⟨b, 3, none⟩ = some (.int .i64 0) ∧ w.cell? ⟨b, 4, none⟩ = some (.slice none 0 0) ∧ w.cell? ⟨b, 5, none⟩ = some (.slice none 0 0) ∧ w.cell? ⟨b, 6, none⟩ = some (.slice none 0 0) ∧ w.cell? ⟨b, 7, none⟩ = some (.slice none 0 0) ∧ w.cell? ⟨b, 8, none⟩ = some (.slice none 0 0) ∧ ∀ i, w.frozen? ⟨b, i, none⟩ = false := by
 refine ⟨?_, ?_, ?_, ?_, ?_, ?_, ?_, ?_, ?_, fun i => frozen_of h.1⟩ <;> (rw [cell_of_heap h.1]; rfl)
theorem StZ.tvNew {b : Nat} (h : StZ W1 b w) {v : Value} (hn : ∀ c, v.ownBlock = some c → w.heap.size ≤ c) : v.ownBlock ≠ some b := fun e => by
 have h1 := heap_lt h.1
 have h2 := hn b e
 omega
theorem StP.alZ (h : StP W1 A S N tv sv hv i w) : StZ W1 w.heap.size (w.alloc (.cells stZ 46)) := ⟨heap_alloc_new w _, h.size⟩
theorem StP.six (h : StP W1 A S N tv sv hv 6 w) : True := trivial
theorem StP.tvNe (h : StP W1 A S N tv sv hv i w) (hi : 3 ≤ i) : tv.ownBlock ≠ some w.heap.size := fun e => by
 obtain ⟨lo, -, h2⟩ := h.t hi
 rcases h2 with ⟨-, rfl⟩ | ⟨c, rfl, -, h3, -⟩
 · cases e
 · injection e with e
   have e' : c = w.heap.size := e
   omega
theorem StR.sts {v3 : Value} (h : StR W1 A S N v3 w) : StS A S w := by
 obtain ⟨yb, tv, sv, hv, -, -, hp, -⟩ := h
 exact hp.sts
theorem StR.last {a1 a2 a3 : Option Addr} {n2 c2 n3 c3 : Nat} (h : StP W1 A S N (.slice a1 S.t.rows.length S.t.rows.length) (.slice a2 n2 c2) (.slice a3 n3 c3) 6 w) : StR W1 A S N (.pointer (some ⟨w.heap.size, 0, none⟩)) (w.alloc (.cells #[.int .u64 0, .int .u64 S.tick, .bool S.closed, .int .i64 ((A.C : Int) - S.o), .slice a1 S.t.rows.length S.t.rows.length, .slice a2 n2 c2, .slice none 0 0, .slice a3 n3 c3, .slice none 0 0] 46)) :=
 ⟨_, _, _, _, rfl, heap_alloc_new w _, h.al _, h.size, ⟨_, rfl⟩, ⟨_, _, _, rfl⟩, ⟨_, _, _, rfl⟩, h.tvNe (by omega)⟩
theorem StR.first {b : Nat} {a1 a2 a3 : Option Addr} {n2 c2 n3 c3 : Nat} (h0 : CoreAt W1 A S N) (h : StP W1 A S N (.slice a1 S.t.rows.length S.t.rows.length) (.slice a2 n2 c2) (.slice a3 n3 c3) 6 w) (hz : StZ W1 b w) (ht : (Value.slice a1 S.t.rows.length S.t.rows.length).ownBlock ≠ some b) : StR W1 A S N (.pointer (some ⟨b, 0, none⟩)) (((((((((w.setCell ⟨b, 0, none⟩ (.int .u64 0)).setCell ⟨b, 1, none⟩ (.int .u64 S.tick)).setCell ⟨b, 2, none⟩ (.bool S.closed)).setCell ⟨b, 3, none⟩ (.int .i64 ((A.C : Int) - S.o))).setCell ⟨b, 4, none⟩ (.slice a1 S.t.rows.length S.t.rows.length)).setCell ⟨b, 5, none⟩ (.slice a2 n2 c2)).setCell ⟨b, 6, none⟩ (.slice none 0 0)).setCell ⟨b, 7, none⟩ (.slice a3 n3 c3)).setCell ⟨b, 8, none⟩ (.slice none 0 0)) :=
 ⟨b, _, _, _, rfl, set9_heap hz.1 _ _ _ _ _ _ _ _ _, h.box h0 (set9_fr _ _ _ _ _ _ _ _ _ _ _) hz.2 hz.1 (by decide) ht, hz.2, ⟨_, rfl⟩, ⟨_, _, _, rfl⟩, ⟨_, _, _, rfl⟩, ht⟩
def LocAt (w : World) (lv : Value) (i : Nat) (own : List (List En)) : Prop := ∃ vs : List Value, SlV w 42 1 lv i vs ∧ ∀ (j : Nat) (v : Value), vs[j]? = some v → EsAt w v (own.getD j [])
def StO (W : World) (A : CA) (S : CS) (N : Nat) (tv sv lv hv : Value) (w' : World) : Prop := StP W A S N tv sv hv 6 w' ∧ LocAt w' lv A.q.lp.length (S.q.q A.q.k).own
def StL (W1 : World) (A : CA) (S : CS) (N : Nat) (yb Bc : Nat) (tv sv hv : Value) (i : Nat) (w : World) : Prop := ∃ lv vs, w.heap[yb]? = some (.cells (stC S.tick S.closed ((A.C : Int) - S.o) tv sv lv hv) 46 (0, 0)) ∧ StP W1 A S N tv sv hv 6 w ∧ w.ownsRow Bc 42 1 lv i vs ∧ (∀ (j : Nat) (v : Value), vs[j]? = some v → EsAt w v ((S.q.q A.q.k).own.getD j [])) ∧ Bc ≤ w.heap.size
structure StE (W1 : World) (A : CA) (S : CS) (N : Nat) (yb Bc : Nat) (tv sv hv : Value) (lv lv' : Value) (i : Nat) (w9 : World) : Prop where
 c : w9.cell? ⟨yb, 6, none⟩ = some lv
 z : w9.frozen? ⟨yb, 6, none⟩ = false
 nx : StL W1 A S N yb Bc tv sv hv (i + 1) (w9.setCell ⟨yb, 6, none⟩ lv')
theorem StL.next {w7 w8 w9 : World} {yb Bc : Nat} {lv lv' v7 : Value} {vs : List Value} (h0 : CoreAt W1 A S N) (hge : W1.heap.size ≤ Bc) (hgy : W1.heap.size ≤ yb) (htb : ∀ c, tv.ownBlock = some c → c < Bc) (hty : tv.ownBlock ≠ some yb) (hy : w.heap[yb]? = some (.cells (stC S.tick S.closed ((A.C : Int) - S.o) tv sv lv hv) 46 (0, 0))) (hp : StP W1 A S N tv sv hv 6 w) (hvs : ∀ (j : Nat) (v : Value), vs[j]? = some v → EsAt w v ((S.q.q A.q.k).own.getD j [])) (hvl : vs.length = i) (hBc : Bc ≤ w.heap.size) (hrow : w.ownsRow Bc 42 1 lv i vs)
 (hb7 : Below w.heap.size w w7) (hE7 : EsAt w7 v7 ((S.q.q A.q.k).own.getD i [])) (hw8 : w8 = w7.alloc (.cells #[v7] 42)) (hown : w9.ownsRow Bc 42 1 lv' (i + 1) (vs ++ [v7])) (hg : w8.grownBy w9 lv.ownBlock) : StE W1 A S N yb Bc tv sv hv lv lv' i w9 := by
 have hb78 : Below w7.heap.size w7 w8 := by rw [hw8]; exact below_al (Below.refl _ _) _
 have hb8 : Below w.heap.size w w8 := below_step hb78 hb7
 have hy8 := (hb8.block _ (heap_lt hy)).trans hy
 have hrow8 := owns_below hrow hb8
 have hp8 := hp.below hb8
 have hsz := hb8.size
 have hny : some yb ≠ lv.ownBlock := fun e => by
  obtain ⟨cur, h1⟩ := owns_type hrow8 e.symm
  rw [hy8] at h1
  injection h1 with h1
  injection h1 with _ h1 _
  exact absurd h1 (by decide)
 have hy9 := (hg.block _ (heap_lt hy8) hny).trans hy8
 have f9 : Fr (fun j => lv.ownBlock = some j) w8 w9 := ⟨hg.os, hg.tape, hg.output, hg.size, fun k hk hn => hg.block k hk (fun e => hn e.symm)⟩
 have ent : ∀ {v : Value} {l : List En}, EsAt w8 v l → EsAt w9 v l := fun he => EsAt.fr he f9 (fun c hc e => by
  obtain ⟨cu, h1⟩ := SlV.type he hc
  obtain ⟨cv, h2⟩ := owns_type hrow8 e
  rw [h1] at h2
  injection h2 with h2
  injection h2 with _ h2 _
  exact absurd h2 (by decide))
 have hp9 : StP W1 A S N tv sv hv 6 w9 := by
  rcases hrow8.2 with ⟨hlv, -⟩ | ⟨g, cap, cur, hlv, hbg, hgh, -⟩
  · rw [hlv] at f9
    exact hp8.below ⟨f9.os, f9.tape, f9.output, f9.size, fun k hk => f9.block k hk (fun e => by cases e)⟩
  · have e : lv.ownBlock = some g := by rw [hlv]; rfl
    refine hp8.box h0 (b := g) (f9.mono (fun j hj => by rw [e] at hj; injection hj with hj; exact hj.symm)) (by omega) hgh (by decide) (fun h => by have := htb g h; omega)
 have hset := heap_set (o := 6) hy9 lv'
 have f10 : Fr (fun j => j = yb) w9 (w9.setCell ⟨yb, 6, none⟩ lv') := Fr.set (S := fun j => j = yb) (Fr.refl _ _) (p := ⟨yb, 6, none⟩) rfl _
 refine ⟨by rw [cell_of_heap hy9]; rfl, frozen_of hy9, lv', vs ++ [v7], hset, hp9.box h0 f10 hgy hy9 (by decide) hty, ?_, ?_, ?_⟩
 ·
  refine owns_fr hown f10 (fun c hc e => ?_)
  obtain ⟨cur, h1⟩ := owns_type hown hc
  have e' : c = yb := e
  rw [e', hy9] at h1
  injection h1 with h1
  injection h1 with _ h1 _
  exact absurd h1 (by decide)
 ·
  intro j v hj
  have key : EsAt w8 v ((S.q.q A.q.k).own.getD j []) := by
   rcases snoc_at hj with hj | ⟨rfl, rfl⟩
   · exact EsAt.below (hvs j v hj) hb8
   · rw [hvl]
     exact EsAt.below hE7 hb78
  exact EsAt.fr (ent key) f10 (fun c hc e => by
   obtain ⟨cu, h1⟩ := SlV.type (ent key) hc
   have e' : c = yb := e
   rw [e', hy9] at h1
   injection h1 with h1
   injection h1 with _ h1 _
   exact absurd h1 (by decide))
 · rw [World.size_setCell]
   have := hg.size
   omega
theorem StP.base (h0 : CoreAt W A S N) (hb : Below W.heap.size W W1) (h : StP W1 A S N tv sv hv i w) : StP W A S N tv sv hv i w := by
 obtain ⟨S', k, hm, hr, hq⟩ := h.core
 have hs := hb.size
 exact ⟨⟨S', (CStep.below h0 hb).trans k, hm, hr, hq⟩, fun hi => by obtain ⟨lo, h1, h2⟩ := h.t hi; exact ⟨lo, by omega, h2⟩, fun hi => ⟨(h.s hi).1, fun c hc => by have := (h.s hi).2 c hc; omega⟩, fun hi => ⟨(h.h hi).1, fun c hc => by have := (h.h hi).2 c hc; omega⟩⟩
theorem LocAt.box {lv : Value} {b : Nat} (h : LocAt w lv i ((S.q.q A.q.k).own)) (f : Fr (fun j => j = b) w w') {c : Array Value} (hb : w.heap[b]? = some (.cells c 46 (0, 0))) : LocAt w' lv i ((S.q.q A.q.k).own) := by
 obtain ⟨vs, h1, h2⟩ := h
 refine ⟨vs, SlV.fr h1 f (fun c hc e => ?_), fun j v hj => EsAt.fr (h2 j v hj) f (fun c hc e => ?_)⟩
 ·
  obtain ⟨cu, h3⟩ := SlV.type h1 hc
  have e' : c = b := e
  rw [e', hb] at h3
  injection h3 with h3
  injection h3 with _ h3 _
  exact absurd h3 (by decide)
 ·
  obtain ⟨cu, h3⟩ := SlV.type (h2 j v hj) hc
  have e' : c = b := e
  rw [e', hb] at h3
  injection h3 with h3
  injection h3 with _ h3 _
  exact absurd h3 (by decide)
theorem infoEns : (Tryz.prog.info? 42).map (fun i => (i.zero, i.size, i.bytes)) = some (some (.slice none 0 0), 1, 24) := by kernel_rfl
theorem C_State (h : CoreAt W A S N) (hN : N ≤ 300000000) (hq : (S.q.q A.q.k).Ok) : Calls Tryz.prog 17 #[.pointer (some ⟨A.cb, 0, none⟩)] W fun e w' => ∃ tv sv lv hv, e = .returned (.agg (stC S.tick S.closed ((A.C : Int) - S.o) tv sv lv hv)) ∧ StO W A S N tv sv lv hv w' := by
 obtain ⟨W1, hW1⟩ : ∃ W1, W.alloc (.cells #[.int .u64 0, .int .u64 0, .bool false, .int .i64 0, .slice none 0 0, .slice none 0 0, .slice none 0 0, .slice none 0 0, .slice none 0 0] 46) = W1 := ⟨_, rfl⟩
 have hb1 : Below W.heap.size W W1 := by rw [← hW1]; exact below_al (Below.refl _ _) _
 have x1 : W1.heap[W.heap.size]? = some (.cells stZ 46 (0, 0)) := by rw [← hW1]; exact heap_alloc_new W _
 have h1 := h.below hb1
 have hP : StP W1 A S N .nilFunc .nilFunc .nilFunc 0 W1.drew := ⟨⟨S, (CStep.below h1 (below_dr (Below.refl _ _))).up (by omega), rfl, ⟨rfl, rfl, rfl⟩, rfl⟩, fun h => by omega, fun h => by omega, fun h => by omega⟩
 have hNB : (allB S.q.bs).length ≤ NB := by
  have h2 : (sortE (allB S.q.bs)).length ≤ (S.q.q A.q.k).all.length := by
   unfold QM.all
   rw [List.length_append]
   exact Nat.le_add_left _ _
  rw [sortE_length] at h2
  exact Nat.le_trans h2 hq.len
 have HP := Lib.hid hP
 have H0 := Lib.hid h
 have HS := Lib.hid hP.sts
 have H := Lib.hid (And.intro h1 (And.intro hNB (And.intro hN (And.intro hb1 (And.intro x1 hq)))))
 clear h hb1 x1 h1 hP hNB hq
 go_enter Tryz.func17, Tryz.ntmps17
 go_upto_region 1 with fail
 clear hW1
 go_cut [3] (fun v3 w => StR W1 A S N v3 w)
 case first =>
  skip
  -- REGION 1 BEGIN
  refine wp_region_held_drew (S := StS A S) (by kernel_rfl) HS.out (fun hH => ?_)
  refine tk (i := 0) (v := ?_) rfl ?_ ?_
  rotate_left
  · (intro w h; obtain ⟨_, _, _, _, _, _⟩ := h; go_simp; try with_reducible rfl)
  (try simp only [Act.put, pA, pB, pC])
  refine tk (i := 1) (v := ?_) rfl ?_ ?_
  rotate_left
  · (intro w h; obtain ⟨_, _, _, _, _, _⟩ := h; go_simp; try with_reducible rfl)
  (try simp only [Act.put, pA, pB, pC])
  refine tk (i := 2) (v := ?_) rfl ?_ ?_
  rotate_left
  · (intro w h; obtain ⟨_, _, _, _, _, _⟩ := h; go_simp; try with_reducible rfl)
  (try simp only [Act.put, pA, pB, pC])
  refine tk (i := 3) (v := ?_) rfl ?_ ?_
  rotate_left
  · (intro w h; obtain ⟨_, _, _, _, _, _⟩ := h; go_simp; try with_reducible rfl)
  (try simp only [Act.put, pA, pB, pC])
  refine tk (i := 5) (v := ?_) rfl ?_ ?_
  rotate_left
  · (intro w h; obtain ⟨_, _, _, _, _, _⟩ := h; go_simp; try with_reducible rfl)
  (try simp only [Act.put, pA, pB, pC])
  refine tk (i := 6) (v := ?_) rfl ?_ ?_
  rotate_left
  · (intro w h; obtain ⟨_, _, _, _, _, _⟩ := h; go_simp; try with_reducible rfl)
  (try simp only [Act.put, pA, pB, pC])
  refine tk (i := 7) (v := ?_) rfl ?_ ?_
  rotate_left
  · (intro w h; obtain ⟨_, _, _, _, _, _⟩ := h; go_simp; try with_reducible rfl)
  (try simp only [Act.put, pA, pB, pC])
  refine tk (i := 8) (v := ?_) rfl ?_ ?_
  rotate_left
  · (intro w h; obtain ⟨_, _, _, _, _, _⟩ := h; go_simp; try with_reducible rfl)
  (try simp only [Act.put, pA, pB, pC])
  refine tk (i := 9) (v := ?_) rfl ?_ ?_
  rotate_left
  · (intro w h; obtain ⟨_, _, _, _, _, _⟩ := h; go_simp; try with_reducible rfl)
  (try simp only [Act.put, pA, pB, pC])
  refine tk (i := 10) (v := ?_) rfl ?_ ?_
  rotate_left
  · (intro w h; obtain ⟨_, _, _, _, _, _⟩ := h; go_simp; try with_reducible rfl)
  (try simp only [Act.put, pA, pB, pC])
  refine tk (i := 11) (v := ?_) rfl ?_ ?_
  rotate_left
  · (intro w h; obtain ⟨_, _, _, _, _, _⟩ := h; go_simp; try with_reducible rfl)
  (try simp only [Act.put, pA, pB, pC])
  refine tk (i := 12) (v := ?_) rfl ?_ ?_
  rotate_left
  · (intro w h; obtain ⟨_, _, _, _, _, _⟩ := h; go_simp; try with_reducible rfl)
  (try simp only [Act.put, pA, pB, pC])
  refine tk (i := 13) (v := ?_) rfl ?_ ?_
  rotate_left
  · (intro w h; obtain ⟨_, _, _, _, _, _⟩ := h; go_simp; try with_reducible rfl)
  (try simp only [Act.put, pA, pB, pC])
  refine tk (i := 14) (v := ?_) rfl ?_ ?_
  rotate_left
  · (intro w h; obtain ⟨_, _, _, _, _, _⟩ := h; go_simp; try with_reducible rfl)
  (try simp only [Act.put, pA, pB, pC])
  refine tk (i := 15) (v := ?_) rfl ?_ ?_
  rotate_left
  · (intro w h; obtain ⟨_, _, _, _, _, _⟩ := h; go_simp; try with_reducible rfl)
  (try simp only [Act.put, pA, pB, pC])
  refine tk (i := 16) (v := ?_) rfl ?_ ?_
  rotate_left
  · (intro w h; obtain ⟨_, _, _, _, _, _⟩ := h; go_simp; try with_reducible rfl)
  (try simp only [Act.put, pA, pB, pC])
  refine tk (i := 18) (v := ?_) rfl ?_ ?_
  rotate_left
  · (intro w h; obtain ⟨_, _, _, _, _, _⟩ := h; go_simp; try with_reducible rfl)
  (try simp only [Act.put, pA, pB, pC])
  refine tk (i := 19) (v := ?_) rfl ?_ ?_
  rotate_left
  · (intro w h; obtain ⟨_, _, _, _, _, _⟩ := h; go_simp; try with_reducible rfl)
  (try simp only [Act.put, pA, pB, pC])
  refine tk (i := 20) (v := ?_) rfl ?_ ?_
  rotate_left
  · (intro w h; obtain ⟨_, _, _, _, _, _⟩ := h; go_simp; try with_reducible rfl)
  (try simp only [Act.put, pA, pB, pC])
  refine tk (i := 21) (v := ?_) rfl ?_ ?_
  rotate_left
  · (intro w h; obtain ⟨_, _, _, _, _, _⟩ := h; go_simp; try with_reducible rfl)
  (try simp only [Act.put, pA, pB, pC])
  refine tk (i := 23) (v := ?_) rfl ?_ ?_
  rotate_left
  · (intro w h; obtain ⟨_, _, _, _, _, _⟩ := h; go_simp; try with_reducible rfl)
  (try simp only [Act.put, pA, pB, pC])
  refine tk (i := 24) (v := ?_) rfl ?_ ?_
  rotate_left
  · (intro w h; obtain ⟨_, _, _, _, _, _⟩ := h; go_simp; try with_reducible rfl)
  (try simp only [Act.put, pA, pB, pC])
  refine tk (i := 25) (v := ?_) rfl ?_ ?_
  rotate_left
  · (intro w h; obtain ⟨_, _, _, _, _, _⟩ := h; go_simp; try with_reducible rfl)
  (try simp only [Act.put, pA, pB, pC])
  refine tk (i := 26) (v := ?_) rfl ?_ ?_
  rotate_left
  · (intro w h; obtain ⟨_, _, _, _, _, _⟩ := h; go_simp; try with_reducible rfl)
  (try simp only [Act.put, pA, pB, pC])
  refine tk (i := 28) (v := ?_) rfl ?_ ?_
  rotate_left
  · (intro w h; obtain ⟨_, _, _, _, _, _⟩ := h; go_simp; try with_reducible rfl)
  (try simp only [Act.put, pA, pB, pC])
  refine tk (i := 29) (v := ?_) rfl ?_ ?_
  rotate_left
  · (intro w h; obtain ⟨_, _, _, _, _, _⟩ := h; go_simp; try with_reducible rfl)
  (try simp only [Act.put, pA, pB, pC])
  refine tk (i := 30) (v := ?_) rfl ?_ ?_
  rotate_left
  · (intro w h; obtain ⟨_, _, _, _, _, _⟩ := h; go_simp; try with_reducible rfl)
  (try simp only [Act.put, pA, pB, pC])
  refine tk (i := 31) (v := ?_) rfl ?_ ?_
  rotate_left
  · (intro w h; obtain ⟨_, _, _, _, _, _⟩ := h; go_simp; try with_reducible rfl)
  (try simp only [Act.put, pA, pB, pC])
  refine tk (i := 33) (v := ?_) rfl ?_ ?_
  rotate_left
  · (intro w h; obtain ⟨_, _, _, _, _, _⟩ := h; go_simp; try with_reducible rfl)
  (try simp only [Act.put, pA, pB, pC])
  refine tk (i := 34) (v := ?_) rfl ?_ ?_
  rotate_left
  · (intro w h; obtain ⟨_, _, _, _, _, _⟩ := h; go_simp; try with_reducible rfl)
  (try simp only [Act.put, pA, pB, pC])
  refine tk (i := 35) (v := ?_) rfl ?_ ?_
  rotate_left
  · (intro w h; obtain ⟨_, _, _, _, _, _⟩ := h; go_simp; try with_reducible rfl)
  (try simp only [Act.put, pA, pB, pC])
  refine tk (i := 36) (v := ?_) rfl ?_ ?_
  rotate_left
  · (intro w h; obtain ⟨_, _, _, _, _, _⟩ := h; go_simp; try with_reducible rfl)
  (try simp only [Act.put, pA, pB, pC])
  refine wpAnyH_ready (rs := [4, 39]) (by kernel_rfl) (by simp) ?_
  refine AllReadyH.cons rfl (fun K hK => ?_) ?_
  ·
   (go_simp; go_at_call 41; refine (St_now HP.out).mono ?_; rintro e w9 ⟨rfl, hp, hk⟩; (first | have HY := Lib.hid (HY.out.kept hk) | skip); have HP := Lib.hid hp; clear hp hk)
   refine hK.out _ _ ?_ (fun hH => ?_)
   · (try dsimp only); (exact HP.out.sts)
   clear hK K
   refine wpAnyH_ready (rs := [17, 39]) (by kernel_rfl) (by simp) ?_
   refine AllReadyH.cons rfl (fun K hK => ?_) ?_
   ·
    (go_simp; go_at_call 47; refine (St_free H.out.1 H.out.2.2.1 HP.out).mono ?_; rintro e w9 ⟨rfl, hp, hk⟩; (first | have HY := Lib.hid (HY.out.kept hk) | skip); have HP := Lib.hid hp; clear hp hk)
    refine hK.out _ _ ?_ (fun hH => ?_)
    · (try dsimp only); (exact HP.out.sts)
    clear hK K
    refine wpAnyH_ready (rs := [22, 39]) (by kernel_rfl) (by simp) ?_
    refine AllReadyH.cons rfl (fun K hK => ?_) ?_
    ·
     (go_simp; go_at_call 48; refine (St_all H.out.1 H.out.2.2.1 HP.out).mono ?_; rintro e w9 ⟨tv, rfl, ⟨a5, rfl⟩, hnw, hp, hk⟩; (first | have HTY := Lib.hid (HY.out.tvNew hnw) | skip); (first | have HY := Lib.hid (HY.out.kept hk) | skip); have HP := Lib.hid hp; clear hp hk)
     refine hK.out _ _ ?_ (fun hH => ?_)
     · (try dsimp only); (exact HP.out.sts)
     clear hK K
     refine wpAnyH_ready (rs := [27, 39]) (by kernel_rfl) (by simp) ?_
     refine AllReadyH.cons rfl (fun K hK => ?_) ?_
     ·
      (go_simp; go_at_call 49; refine (St_slots HP.out).mono ?_; rintro e w9 ⟨sv, rfl, ⟨a6, n6, c6, rfl⟩, hp, hk⟩; (first | have HY := Lib.hid (HY.out.kept hk) | skip); have HP := Lib.hid hp; clear hp hk)
      refine hK.out _ _ ?_ (fun hH => ?_)
      · (try dsimp only); (exact HP.out.sts)
      clear hK K
      refine wpAnyH_ready (rs := [32, 39]) (by kernel_rfl) (by simp) ?_
      refine AllReadyH.cons rfl (fun K hK => ?_) ?_
      ·
       (go_simp; go_at_call 50; refine (St_shared H.out.2.1 HP.out).mono ?_; rintro e w9 ⟨hv, rfl, ⟨a7, n7, c7, rfl⟩, hp, hk⟩; (first | have HY := Lib.hid (HY.out.kept hk) | skip); have HP := Lib.hid hp; clear hp hk)
       refine hK.out _ _ ?_ (fun hH => ?_)
       · (try dsimp only); (exact HP.out.sts)
       clear hK K
       refine wpAnyH_ready (rs := [37, 39]) (by kernel_rfl) (by simp) ?_
       refine AllReadyH.cons rfl (fun K hK => ?_) ?_
       ·
        (go_simp; go_at_call 51; refine (St_wheel HP.out).mono ?_; rintro e w9 ⟨rfl, hp, hk⟩; (first | have HY := Lib.hid (HY.out.kept hk) | skip); have HP := Lib.hid hp; clear hp hk)
        refine hK.out _ _ ?_ (fun hH => ?_)
        · (try dsimp only); (exact HP.out.sts)
        clear hK K
        refine tk (i := 38) (v := ?_) rfl ?_ ?_
        rotate_left
        · (intro w h; obtain ⟨_, _, _, _, _, _⟩ := h; go_simp; try with_reducible rfl)
        (try simp only [Act.put, pA, pB, pC])
        refine wpAnyH_ready (rs := [39]) (by kernel_rfl) (by simp) ?_
        refine AllReadyH.cons rfl (fun K hK => ?_) ?_
        ·
         (go_simp; first | (have hi := StP.six HP.out; clear hi) | ((first | have HY := Lib.hid (show StZ W1 W1.heap.size (W1.drew.alloc (.cells stZ 46)) from HP.out.alZ) | have HY := Lib.hid HP.out.alZ); (first | have HTY := Lib.hid (HP.out.tvNe (by omega)) | skip); have HP := Lib.hid (HP.out.al (.cells stZ 46))))
         refine hK.out _ _ ?_ (fun hH => ?_)
         · (try dsimp only); (first | (have hi := StP.six HP.out; exact (HP.out.al _).sts) | exact HP.out.sts)
         clear hK K
         refine wpAnyH_ready (rs := [40]) (by kernel_rfl) (by simp) ?_
         refine AllReadyH.cons rfl (fun K hK => ?_) ?_
         ·
          ((first | (obtain ⟨y0, y1, y2, y3, y4, y5, y6, y7, y8, z0⟩ := HY.out.cells) | skip); go_simp)
          refine hK.out _ _ ?_ (fun hH => ?_)
          · (try dsimp only); (first | (have hy := HY.out; exact (StR.first H.out.1 HP.out hy HTY.out).sts) | exact (StR.last HP.out).sts)
          clear hK K
          refine wpAnyH_done (by kernel_rfl) ?_ _
          go_wp2_with fail
          go_meet
          first | (have hy := HY.out; exact StR.first H.out.1 HP.out hy HTY.out) | exact StR.last HP.out
         exact AllReadyH.nil
        exact AllReadyH.nil
       refine AllReadyH.cons rfl (fun K hK => ?_) ?_
       ·
        (go_simp; first | (have hi := StP.six HP.out; clear hi) | ((first | have HY := Lib.hid (show StZ W1 W1.heap.size (W1.drew.alloc (.cells stZ 46)) from HP.out.alZ) | have HY := Lib.hid HP.out.alZ); (first | have HTY := Lib.hid (HP.out.tvNe (by omega)) | skip); have HP := Lib.hid (HP.out.al (.cells stZ 46))))
        refine hK.out _ _ ?_ (fun hH => ?_)
        · (try dsimp only); (first | (have hi := StP.six HP.out; exact (HP.out.al _).sts) | exact HP.out.sts)
        clear hK K
        refine wpAnyH_ready (rs := [37]) (by kernel_rfl) (by simp) ?_
        refine AllReadyH.cons rfl (fun K hK => ?_) ?_
        ·
         (go_simp; go_at_call 51; refine (St_wheel HP.out).mono ?_; rintro e w9 ⟨rfl, hp, hk⟩; (first | have HY := Lib.hid (HY.out.kept hk) | skip); have HP := Lib.hid hp; clear hp hk)
         refine hK.out _ _ ?_ (fun hH => ?_)
         · (try dsimp only); (exact HP.out.sts)
         clear hK K
         refine tk (i := 38) (v := ?_) rfl ?_ ?_
         rotate_left
         · (intro w h; obtain ⟨_, _, _, _, _, _⟩ := h; go_simp; try with_reducible rfl)
         (try simp only [Act.put, pA, pB, pC])
         refine wpAnyH_ready (rs := [40]) (by kernel_rfl) (by simp) ?_
         refine AllReadyH.cons rfl (fun K hK => ?_) ?_
         ·
          ((first | (obtain ⟨y0, y1, y2, y3, y4, y5, y6, y7, y8, z0⟩ := HY.out.cells) | skip); go_simp)
          refine hK.out _ _ ?_ (fun hH => ?_)
          · (try dsimp only); (first | (have hy := HY.out; exact (StR.first H.out.1 HP.out hy HTY.out).sts) | exact (StR.last HP.out).sts)
          clear hK K
          refine wpAnyH_done (by kernel_rfl) ?_ _
          go_wp2_with fail
          go_meet
          first | (have hy := HY.out; exact StR.first H.out.1 HP.out hy HTY.out) | exact StR.last HP.out
         exact AllReadyH.nil
        exact AllReadyH.nil
       exact AllReadyH.nil
      refine AllReadyH.cons rfl (fun K hK => ?_) ?_
      ·
       (go_simp; first | (have hi := StP.six HP.out; clear hi) | ((first | have HY := Lib.hid (show StZ W1 W1.heap.size (W1.drew.alloc (.cells stZ 46)) from HP.out.alZ) | have HY := Lib.hid HP.out.alZ); (first | have HTY := Lib.hid (HP.out.tvNe (by omega)) | skip); have HP := Lib.hid (HP.out.al (.cells stZ 46))))
       refine hK.out _ _ ?_ (fun hH => ?_)
       · (try dsimp only); (first | (have hi := StP.six HP.out; exact (HP.out.al _).sts) | exact HP.out.sts)
       clear hK K
       refine wpAnyH_ready (rs := [32]) (by kernel_rfl) (by simp) ?_
       refine AllReadyH.cons rfl (fun K hK => ?_) ?_
       ·
        (go_simp; go_at_call 50; refine (St_shared H.out.2.1 HP.out).mono ?_; rintro e w9 ⟨hv, rfl, ⟨a7, n7, c7, rfl⟩, hp, hk⟩; (first | have HY := Lib.hid (HY.out.kept hk) | skip); have HP := Lib.hid hp; clear hp hk)
        refine hK.out _ _ ?_ (fun hH => ?_)
        · (try dsimp only); (exact HP.out.sts)
        clear hK K
        refine wpAnyH_ready (rs := [37]) (by kernel_rfl) (by simp) ?_
        refine AllReadyH.cons rfl (fun K hK => ?_) ?_
        ·
         (go_simp; go_at_call 51; refine (St_wheel HP.out).mono ?_; rintro e w9 ⟨rfl, hp, hk⟩; (first | have HY := Lib.hid (HY.out.kept hk) | skip); have HP := Lib.hid hp; clear hp hk)
         refine hK.out _ _ ?_ (fun hH => ?_)
         · (try dsimp only); (exact HP.out.sts)
         clear hK K
         refine tk (i := 38) (v := ?_) rfl ?_ ?_
         rotate_left
         · (intro w h; obtain ⟨_, _, _, _, _, _⟩ := h; go_simp; try with_reducible rfl)
         (try simp only [Act.put, pA, pB, pC])
         refine wpAnyH_ready (rs := [40]) (by kernel_rfl) (by simp) ?_
         refine AllReadyH.cons rfl (fun K hK => ?_) ?_
         ·
          ((first | (obtain ⟨y0, y1, y2, y3, y4, y5, y6, y7, y8, z0⟩ := HY.out.cells) | skip); go_simp)
          refine hK.out _ _ ?_ (fun hH => ?_)
          · (try dsimp only); (first | (have hy := HY.out; exact (StR.first H.out.1 HP.out hy HTY.out).sts) | exact (StR.last HP.out).sts)
          clear hK K
          refine wpAnyH_done (by kernel_rfl) ?_ _
          go_wp2_with fail
          go_meet
          first | (have hy := HY.out; exact StR.first H.out.1 HP.out hy HTY.out) | exact StR.last HP.out
         exact AllReadyH.nil
        exact AllReadyH.nil
       exact AllReadyH.nil
      exact AllReadyH.nil
     refine AllReadyH.cons rfl (fun K hK => ?_) ?_
     ·
      (go_simp; first | (have hi := StP.six HP.out; clear hi) | ((first | have HY := Lib.hid (show StZ W1 W1.heap.size (W1.drew.alloc (.cells stZ 46)) from HP.out.alZ) | have HY := Lib.hid HP.out.alZ); (first | have HTY := Lib.hid (HP.out.tvNe (by omega)) | skip); have HP := Lib.hid (HP.out.al (.cells stZ 46))))
      refine hK.out _ _ ?_ (fun hH => ?_)
      · (try dsimp only); (first | (have hi := StP.six HP.out; exact (HP.out.al _).sts) | exact HP.out.sts)
      clear hK K
      refine wpAnyH_ready (rs := [27]) (by kernel_rfl) (by simp) ?_
      refine AllReadyH.cons rfl (fun K hK => ?_) ?_
      ·
       (go_simp; go_at_call 49; refine (St_slots HP.out).mono ?_; rintro e w9 ⟨sv, rfl, ⟨a6, n6, c6, rfl⟩, hp, hk⟩; (first | have HY := Lib.hid (HY.out.kept hk) | skip); have HP := Lib.hid hp; clear hp hk)
       refine hK.out _ _ ?_ (fun hH => ?_)
       · (try dsimp only); (exact HP.out.sts)
       clear hK K
       refine wpAnyH_ready (rs := [32]) (by kernel_rfl) (by simp) ?_
       refine AllReadyH.cons rfl (fun K hK => ?_) ?_
       ·
        (go_simp; go_at_call 50; refine (St_shared H.out.2.1 HP.out).mono ?_; rintro e w9 ⟨hv, rfl, ⟨a7, n7, c7, rfl⟩, hp, hk⟩; (first | have HY := Lib.hid (HY.out.kept hk) | skip); have HP := Lib.hid hp; clear hp hk)
        refine hK.out _ _ ?_ (fun hH => ?_)
        · (try dsimp only); (exact HP.out.sts)
        clear hK K
        refine wpAnyH_ready (rs := [37]) (by kernel_rfl) (by simp) ?_
        refine AllReadyH.cons rfl (fun K hK => ?_) ?_
        ·
         (go_simp; go_at_call 51; refine (St_wheel HP.out).mono ?_; rintro e w9 ⟨rfl, hp, hk⟩; (first | have HY := Lib.hid (HY.out.kept hk) | skip); have HP := Lib.hid hp; clear hp hk)
         refine hK.out _ _ ?_ (fun hH => ?_)
         · (try dsimp only); (exact HP.out.sts)
         clear hK K
         refine tk (i := 38) (v := ?_) rfl ?_ ?_
         rotate_left
         · (intro w h; obtain ⟨_, _, _, _, _, _⟩ := h; go_simp; try with_reducible rfl)
         (try simp only [Act.put, pA, pB, pC])
         refine wpAnyH_ready (rs := [40]) (by kernel_rfl) (by simp) ?_
         refine AllReadyH.cons rfl (fun K hK => ?_) ?_
         ·
          ((first | (obtain ⟨y0, y1, y2, y3, y4, y5, y6, y7, y8, z0⟩ := HY.out.cells) | skip); go_simp)
          refine hK.out _ _ ?_ (fun hH => ?_)
          · (try dsimp only); (first | (have hy := HY.out; exact (StR.first H.out.1 HP.out hy HTY.out).sts) | exact (StR.last HP.out).sts)
          clear hK K
          refine wpAnyH_done (by kernel_rfl) ?_ _
          go_wp2_with fail
          go_meet
          first | (have hy := HY.out; exact StR.first H.out.1 HP.out hy HTY.out) | exact StR.last HP.out
         exact AllReadyH.nil
        exact AllReadyH.nil
       exact AllReadyH.nil
      exact AllReadyH.nil
     exact AllReadyH.nil
    refine AllReadyH.cons rfl (fun K hK => ?_) ?_
    ·
     (go_simp; first | (have hi := StP.six HP.out; clear hi) | ((first | have HY := Lib.hid (show StZ W1 W1.heap.size (W1.drew.alloc (.cells stZ 46)) from HP.out.alZ) | have HY := Lib.hid HP.out.alZ); (first | have HTY := Lib.hid (HP.out.tvNe (by omega)) | skip); have HP := Lib.hid (HP.out.al (.cells stZ 46))))
     refine hK.out _ _ ?_ (fun hH => ?_)
     · (try dsimp only); (first | (have hi := StP.six HP.out; exact (HP.out.al _).sts) | exact HP.out.sts)
     clear hK K
     refine wpAnyH_ready (rs := [22]) (by kernel_rfl) (by simp) ?_
     refine AllReadyH.cons rfl (fun K hK => ?_) ?_
     ·
      (go_simp; go_at_call 48; refine (St_all H.out.1 H.out.2.2.1 HP.out).mono ?_; rintro e w9 ⟨tv, rfl, ⟨a5, rfl⟩, hnw, hp, hk⟩; (first | have HTY := Lib.hid (HY.out.tvNew hnw) | skip); (first | have HY := Lib.hid (HY.out.kept hk) | skip); have HP := Lib.hid hp; clear hp hk)
      refine hK.out _ _ ?_ (fun hH => ?_)
      · (try dsimp only); (exact HP.out.sts)
      clear hK K
      refine wpAnyH_ready (rs := [27]) (by kernel_rfl) (by simp) ?_
      refine AllReadyH.cons rfl (fun K hK => ?_) ?_
      ·
       (go_simp; go_at_call 49; refine (St_slots HP.out).mono ?_; rintro e w9 ⟨sv, rfl, ⟨a6, n6, c6, rfl⟩, hp, hk⟩; (first | have HY := Lib.hid (HY.out.kept hk) | skip); have HP := Lib.hid hp; clear hp hk)
       refine hK.out _ _ ?_ (fun hH => ?_)
       · (try dsimp only); (exact HP.out.sts)
       clear hK K
       refine wpAnyH_ready (rs := [32]) (by kernel_rfl) (by simp) ?_
       refine AllReadyH.cons rfl (fun K hK => ?_) ?_
       ·
        (go_simp; go_at_call 50; refine (St_shared H.out.2.1 HP.out).mono ?_; rintro e w9 ⟨hv, rfl, ⟨a7, n7, c7, rfl⟩, hp, hk⟩; (first | have HY := Lib.hid (HY.out.kept hk) | skip); have HP := Lib.hid hp; clear hp hk)
        refine hK.out _ _ ?_ (fun hH => ?_)
        · (try dsimp only); (exact HP.out.sts)
        clear hK K
        refine wpAnyH_ready (rs := [37]) (by kernel_rfl) (by simp) ?_
        refine AllReadyH.cons rfl (fun K hK => ?_) ?_
        ·
         (go_simp; go_at_call 51; refine (St_wheel HP.out).mono ?_; rintro e w9 ⟨rfl, hp, hk⟩; (first | have HY := Lib.hid (HY.out.kept hk) | skip); have HP := Lib.hid hp; clear hp hk)
         refine hK.out _ _ ?_ (fun hH => ?_)
         · (try dsimp only); (exact HP.out.sts)
         clear hK K
         refine tk (i := 38) (v := ?_) rfl ?_ ?_
         rotate_left
         · (intro w h; obtain ⟨_, _, _, _, _, _⟩ := h; go_simp; try with_reducible rfl)
         (try simp only [Act.put, pA, pB, pC])
         refine wpAnyH_ready (rs := [40]) (by kernel_rfl) (by simp) ?_
         refine AllReadyH.cons rfl (fun K hK => ?_) ?_
         ·
          ((first | (obtain ⟨y0, y1, y2, y3, y4, y5, y6, y7, y8, z0⟩ := HY.out.cells) | skip); go_simp)
          refine hK.out _ _ ?_ (fun hH => ?_)
          · (try dsimp only); (first | (have hy := HY.out; exact (StR.first H.out.1 HP.out hy HTY.out).sts) | exact (StR.last HP.out).sts)
          clear hK K
          refine wpAnyH_done (by kernel_rfl) ?_ _
          go_wp2_with fail
          go_meet
          first | (have hy := HY.out; exact StR.first H.out.1 HP.out hy HTY.out) | exact StR.last HP.out
         exact AllReadyH.nil
        exact AllReadyH.nil
       exact AllReadyH.nil
      exact AllReadyH.nil
     exact AllReadyH.nil
    exact AllReadyH.nil
   refine AllReadyH.cons rfl (fun K hK => ?_) ?_
   ·
    (go_simp; first | (have hi := StP.six HP.out; clear hi) | ((first | have HY := Lib.hid (show StZ W1 W1.heap.size (W1.drew.alloc (.cells stZ 46)) from HP.out.alZ) | have HY := Lib.hid HP.out.alZ); (first | have HTY := Lib.hid (HP.out.tvNe (by omega)) | skip); have HP := Lib.hid (HP.out.al (.cells stZ 46))))
    refine hK.out _ _ ?_ (fun hH => ?_)
    · (try dsimp only); (first | (have hi := StP.six HP.out; exact (HP.out.al _).sts) | exact HP.out.sts)
    clear hK K
    refine wpAnyH_ready (rs := [17]) (by kernel_rfl) (by simp) ?_
    refine AllReadyH.cons rfl (fun K hK => ?_) ?_
    ·
     (go_simp; go_at_call 47; refine (St_free H.out.1 H.out.2.2.1 HP.out).mono ?_; rintro e w9 ⟨rfl, hp, hk⟩; (first | have HY := Lib.hid (HY.out.kept hk) | skip); have HP := Lib.hid hp; clear hp hk)
     refine hK.out _ _ ?_ (fun hH => ?_)
     · (try dsimp only); (exact HP.out.sts)
     clear hK K
     refine wpAnyH_ready (rs := [22]) (by kernel_rfl) (by simp) ?_
     refine AllReadyH.cons rfl (fun K hK => ?_) ?_
     ·
      (go_simp; go_at_call 48; refine (St_all H.out.1 H.out.2.2.1 HP.out).mono ?_; rintro e w9 ⟨tv, rfl, ⟨a5, rfl⟩, hnw, hp, hk⟩; (first | have HTY := Lib.hid (HY.out.tvNew hnw) | skip); (first | have HY := Lib.hid (HY.out.kept hk) | skip); have HP := Lib.hid hp; clear hp hk)
      refine hK.out _ _ ?_ (fun hH => ?_)
      · (try dsimp only); (exact HP.out.sts)
      clear hK K
      refine wpAnyH_ready (rs := [27]) (by kernel_rfl) (by simp) ?_
      refine AllReadyH.cons rfl (fun K hK => ?_) ?_
      ·
       (go_simp; go_at_call 49; refine (St_slots HP.out).mono ?_; rintro e w9 ⟨sv, rfl, ⟨a6, n6, c6, rfl⟩, hp, hk⟩; (first | have HY := Lib.hid (HY.out.kept hk) | skip); have HP := Lib.hid hp; clear hp hk)
       refine hK.out _ _ ?_ (fun hH => ?_)
       · (try dsimp only); (exact HP.out.sts)
       clear hK K
       refine wpAnyH_ready (rs := [32]) (by kernel_rfl) (by simp) ?_
       refine AllReadyH.cons rfl (fun K hK => ?_) ?_
       ·
        (go_simp; go_at_call 50; refine (St_shared H.out.2.1 HP.out).mono ?_; rintro e w9 ⟨hv, rfl, ⟨a7, n7, c7, rfl⟩, hp, hk⟩; (first | have HY := Lib.hid (HY.out.kept hk) | skip); have HP := Lib.hid hp; clear hp hk)
        refine hK.out _ _ ?_ (fun hH => ?_)
        · (try dsimp only); (exact HP.out.sts)
        clear hK K
        refine wpAnyH_ready (rs := [37]) (by kernel_rfl) (by simp) ?_
        refine AllReadyH.cons rfl (fun K hK => ?_) ?_
        ·
         (go_simp; go_at_call 51; refine (St_wheel HP.out).mono ?_; rintro e w9 ⟨rfl, hp, hk⟩; (first | have HY := Lib.hid (HY.out.kept hk) | skip); have HP := Lib.hid hp; clear hp hk)
         refine hK.out _ _ ?_ (fun hH => ?_)
         · (try dsimp only); (exact HP.out.sts)
         clear hK K
         refine tk (i := 38) (v := ?_) rfl ?_ ?_
         rotate_left
         · (intro w h; obtain ⟨_, _, _, _, _, _⟩ := h; go_simp; try with_reducible rfl)
         (try simp only [Act.put, pA, pB, pC])
         refine wpAnyH_ready (rs := [40]) (by kernel_rfl) (by simp) ?_
         refine AllReadyH.cons rfl (fun K hK => ?_) ?_
         ·
          ((first | (obtain ⟨y0, y1, y2, y3, y4, y5, y6, y7, y8, z0⟩ := HY.out.cells) | skip); go_simp)
          refine hK.out _ _ ?_ (fun hH => ?_)
          · (try dsimp only); (first | (have hy := HY.out; exact (StR.first H.out.1 HP.out hy HTY.out).sts) | exact (StR.last HP.out).sts)
          clear hK K
          refine wpAnyH_done (by kernel_rfl) ?_ _
          go_wp2_with fail
          go_meet
          first | (have hy := HY.out; exact StR.first H.out.1 HP.out hy HTY.out) | exact StR.last HP.out
         exact AllReadyH.nil
        exact AllReadyH.nil
       exact AllReadyH.nil
      exact AllReadyH.nil
     exact AllReadyH.nil
    exact AllReadyH.nil
   exact AllReadyH.nil
  refine AllReadyH.cons rfl (fun K hK => ?_) ?_
  ·
   (go_simp; first | (have hi := StP.six HP.out; clear hi) | ((first | have HY := Lib.hid (show StZ W1 W1.heap.size (W1.drew.alloc (.cells stZ 46)) from HP.out.alZ) | have HY := Lib.hid HP.out.alZ); (first | have HTY := Lib.hid (HP.out.tvNe (by omega)) | skip); have HP := Lib.hid (HP.out.al (.cells stZ 46))))
   refine hK.out _ _ ?_ (fun hH => ?_)
   · (try dsimp only); (first | (have hi := StP.six HP.out; exact (HP.out.al _).sts) | exact HP.out.sts)
   clear hK K
   refine wpAnyH_ready (rs := [4]) (by kernel_rfl) (by simp) ?_
   refine AllReadyH.cons rfl (fun K hK => ?_) ?_
   ·
    (go_simp; go_at_call 41; refine (St_now HP.out).mono ?_; rintro e w9 ⟨rfl, hp, hk⟩; (first | have HY := Lib.hid (HY.out.kept hk) | skip); have HP := Lib.hid hp; clear hp hk)
    refine hK.out _ _ ?_ (fun hH => ?_)
    · (try dsimp only); (exact HP.out.sts)
    clear hK K
    refine wpAnyH_ready (rs := [17]) (by kernel_rfl) (by simp) ?_
    refine AllReadyH.cons rfl (fun K hK => ?_) ?_
    ·
     (go_simp; go_at_call 47; refine (St_free H.out.1 H.out.2.2.1 HP.out).mono ?_; rintro e w9 ⟨rfl, hp, hk⟩; (first | have HY := Lib.hid (HY.out.kept hk) | skip); have HP := Lib.hid hp; clear hp hk)
     refine hK.out _ _ ?_ (fun hH => ?_)
     · (try dsimp only); (exact HP.out.sts)
     clear hK K
     refine wpAnyH_ready (rs := [22]) (by kernel_rfl) (by simp) ?_
     refine AllReadyH.cons rfl (fun K hK => ?_) ?_
     ·
      (go_simp; go_at_call 48; refine (St_all H.out.1 H.out.2.2.1 HP.out).mono ?_; rintro e w9 ⟨tv, rfl, ⟨a5, rfl⟩, hnw, hp, hk⟩; (first | have HTY := Lib.hid (HY.out.tvNew hnw) | skip); (first | have HY := Lib.hid (HY.out.kept hk) | skip); have HP := Lib.hid hp; clear hp hk)
      refine hK.out _ _ ?_ (fun hH => ?_)
      · (try dsimp only); (exact HP.out.sts)
      clear hK K
      refine wpAnyH_ready (rs := [27]) (by kernel_rfl) (by simp) ?_
      refine AllReadyH.cons rfl (fun K hK => ?_) ?_
      ·
       (go_simp; go_at_call 49; refine (St_slots HP.out).mono ?_; rintro e w9 ⟨sv, rfl, ⟨a6, n6, c6, rfl⟩, hp, hk⟩; (first | have HY := Lib.hid (HY.out.kept hk) | skip); have HP := Lib.hid hp; clear hp hk)
       refine hK.out _ _ ?_ (fun hH => ?_)
       · (try dsimp only); (exact HP.out.sts)
       clear hK K
       refine wpAnyH_ready (rs := [32]) (by kernel_rfl) (by simp) ?_
       refine AllReadyH.cons rfl (fun K hK => ?_) ?_
       ·
        (go_simp; go_at_call 50; refine (St_shared H.out.2.1 HP.out).mono ?_; rintro e w9 ⟨hv, rfl, ⟨a7, n7, c7, rfl⟩, hp, hk⟩; (first | have HY := Lib.hid (HY.out.kept hk) | skip); have HP := Lib.hid hp; clear hp hk)
        refine hK.out _ _ ?_ (fun hH => ?_)
        · (try dsimp only); (exact HP.out.sts)
        clear hK K
        refine wpAnyH_ready (rs := [37]) (by kernel_rfl) (by simp) ?_
        refine AllReadyH.cons rfl (fun K hK => ?_) ?_
        ·
         (go_simp; go_at_call 51; refine (St_wheel HP.out).mono ?_; rintro e w9 ⟨rfl, hp, hk⟩; (first | have HY := Lib.hid (HY.out.kept hk) | skip); have HP := Lib.hid hp; clear hp hk)
         refine hK.out _ _ ?_ (fun hH => ?_)
         · (try dsimp only); (exact HP.out.sts)
         clear hK K
         refine tk (i := 38) (v := ?_) rfl ?_ ?_
         rotate_left
         · (intro w h; obtain ⟨_, _, _, _, _, _⟩ := h; go_simp; try with_reducible rfl)
         (try simp only [Act.put, pA, pB, pC])
         refine wpAnyH_ready (rs := [40]) (by kernel_rfl) (by simp) ?_
         refine AllReadyH.cons rfl (fun K hK => ?_) ?_
         ·
          ((first | (obtain ⟨y0, y1, y2, y3, y4, y5, y6, y7, y8, z0⟩ := HY.out.cells) | skip); go_simp)
          refine hK.out _ _ ?_ (fun hH => ?_)
          · (try dsimp only); (first | (have hy := HY.out; exact (StR.first H.out.1 HP.out hy HTY.out).sts) | exact (StR.last HP.out).sts)
          clear hK K
          refine wpAnyH_done (by kernel_rfl) ?_ _
          go_wp2_with fail
          go_meet
          first | (have hy := HY.out; exact StR.first H.out.1 HP.out hy HTY.out) | exact StR.last HP.out
         exact AllReadyH.nil
        exact AllReadyH.nil
       exact AllReadyH.nil
      exact AllReadyH.nil
     exact AllReadyH.nil
    exact AllReadyH.nil
   exact AllReadyH.nil
  exact AllReadyH.nil
  -- REGION 1 END
 case rest =>
  obtain ⟨yb, tv, sv, hv, rfl, hy, hp, hge, ⟨a5, rfl⟩, ⟨a6, n6, c6, rfl⟩, ⟨a7, n7, c7, rfl⟩, hty⟩ := hcut
  obtain ⟨T, hT⟩ : ∃ T, A.q.lp.length = T := ⟨_, rfl⟩
  obtain ⟨Bc, hBc⟩ : ∃ Bc, wc.heap.size = Bc := ⟨_, rfl⟩
  obtain ⟨tv, htv⟩ : ∃ tv, Value.slice a5 S.t.rows.length S.t.rows.length = tv := ⟨_, rfl⟩
  obtain ⟨sv, hsv⟩ : ∃ sv, Value.slice a6 n6 c6 = sv := ⟨_, rfl⟩
  obtain ⟨hv, hhv⟩ : ∃ hv, Value.slice a7 n7 c7 = hv := ⟨_, rfl⟩
  rw [htv, hsv, hhv] at hy hp
  rw [htv] at hty
  have htb : ∀ c, tv.ownBlock = some c → c < Bc := fun c hc => by
   obtain ⟨lo, -, h2⟩ := hp.t (by omega)
   rcases h2 with ⟨-, rfl⟩ | ⟨d, rfl, -, h3, -⟩
   · cases hc
   · injection hc with hc
     have hc : d = c := hc
     omega
  have c0 : wc.cell? ⟨A.cb, 0, none⟩ = some (.int .i64 T) := by
   obtain ⟨S', k, -⟩ := hp.core
   rw [k.at_.cells.1, hT]
  have hL0 : StL W1 A S N yb Bc tv sv hv 0 wc := ⟨_, [], hy, hp, World.ownsRow_nil _ _ _ _, fun j v hj => by (cases hj), by omega⟩
  have HL0 := Lib.hid hL0
  have HT := Lib.hid (And.intro hT (And.intro htv (And.intro hsv hhv)))
  have hT8 : T ≤ 8 := by rw [← hT]; exact H.out.1.q.num.2.1
  have hgB : W1.heap.size ≤ Bc := by have := hp.size; omega
  have HGE := Lib.hid (And.intro hgB (And.intro hge (And.intro htb hty)))
  obtain ⟨i0, hi0, hz0, hz1, hz2⟩ := info_parts infoEns
  clear hL0 hy hp hT hge hty htb hgB htv hsv hhv hBc
  go_wp2_with fail
  go_loopg [4, 49] T (fun gg _ s49 wr => ∃ i : Nat, i ≤ T ∧ gg = T - i ∧ s49 = .int .i64 i ∧ Aside (StL W1 A S N yb Bc tv sv hv i wr))
  case atStart => exact ⟨0, Nat.zero_le _, by omega, rfl, HL0.out⟩
  case round =>
   clear c0
   obtain ⟨i, hi, rfl, rfl, D⟩ := hrel
   obtain ⟨lv, vs, hy, hp, hrow, hvs, hBc⟩ := D.out
   clear D
   obtain ⟨al, capl, rfl, -⟩ := SlV.clip (SlV.of_owns hrow)
   have hvl : vs.length = i := by have := hrow.1; omega
   by_cases hlt : i < T
   ·
    have hltz : (i : Int) < (T : Int) := by omega
    obtain ⟨Wd, hWd⟩ : ∃ Wd, wr.drew = Wd := ⟨_, rfl⟩
    have hbd : Below wr.heap.size wr Wd := by rw [← hWd]; exact below_dr (Below.refl _ _)
    have hpd := hp.below hbd
    have hyd := (hbd.block _ (heap_lt hy)).trans hy
    have hrowd := owns_below hrow hbd
    have hvsd : ∀ (j : Nat) (v : Value), vs[j]? = some v → EsAt Wd v ((S.q.q A.q.k).own.getD j []) := fun j v hj => EsAt.below (hvs j v hj) hbd
    have c6d : Wd.cell? ⟨yb, 6, none⟩ = some (.slice al i capl) := by rw [cell_of_heap hyd]; rfl
    have q3 : Wd.cell? ⟨A.cb, 3, none⟩ = some (.pointer (some ⟨A.q.qp, 0, none⟩)) := hpd.sts.1
    have HLc := Lib.hid (by
     obtain ⟨S', k, hm, hr, hq⟩ := hpd.core
     have hln : (S'.q.q A.q.k).all.length ≤ 1000 := by
      have := H.out.2.2.2.2.2.len
      rw [hq]
      unfold NB at this
      omega
     have := Q_Local k.at_.q hln i (by rw [HT.out.1]; exact hlt)
     rw [hq] at this
     exact this)
    have HD := Lib.hid (And.intro hpd (And.intro hyd (And.intro hrowd (And.intro hvsd (And.intro hvl (Nat.le_trans hBc hbd.size))))))
    clear hy hp hrow hvs hBc hbd hpd hyd hrowd hvsd hvl
    go_upto_region 5 with fail
    -- REGION 5 BEGIN
    refine wp_region_held_drew (S := fun _ => True) (by kernel_rfl) trivial (fun hH => ?_)
    refine tk (i := 0) (v := ?_) rfl ?_ ?_
    rotate_left
    · (intro w hSw; go_simp; try with_reducible rfl)
    (try simp only [Act.put, pA, pB, pC])
    refine tk (i := 2) (v := ?_) rfl ?_ ?_
    rotate_left
    · (intro w hSw; go_simp; try with_reducible rfl)
    (try simp only [Act.put, pA, pB, pC])
    refine tk (i := 3) (v := ?_) rfl ?_ ?_
    rotate_left
    · (intro w hSw; go_simp; try with_reducible rfl)
    (try simp only [Act.put, pA, pB, pC])
    refine tk (i := 4) (v := ?_) rfl ?_ ?_
    rotate_left
    · (intro w hSw; go_simp; try with_reducible rfl)
    (try simp only [Act.put, pA, pB, pC])
    refine tk (i := 6) (v := ?_) rfl ?_ ?_
    rotate_left
    · (intro w hSw; go_simp; try with_reducible rfl)
    (try simp only [Act.put, pA, pB, pC])
    refine wpAnyH_ready (rs := [1, 5]) (by kernel_rfl) (by simp) ?_
    refine AllReadyH.cons rfl (fun K hK => ?_) ?_
    ·
     (go_simp)
     refine hK.out _ _ ?_ (fun hH => ?_)
     · (try dsimp only); (all_goals trivial)
     clear hK K
     refine wpAnyH_ready (rs := [5]) (by kernel_rfl) (by simp) ?_
     refine AllReadyH.cons rfl (fun K hK => ?_) ?_
     ·
      (go_simp)
      refine hK.out _ _ ?_ (fun hH => ?_)
      · (try dsimp only); (all_goals trivial)
      clear hK K
      refine wpAnyH_ready (rs := [7]) (by kernel_rfl) (by simp) ?_
      refine AllReadyH.cons rfl (fun K hK => ?_) ?_
      ·
       (go_simp; go_at_call 52; refine HLc.out.mono ?_; rintro e w7 ⟨v7, rfl, hE7, hn7, hb7⟩; obtain ⟨a8, n8, k8, rfl⟩ : ∃ a n c, v7 = .slice a n c := (by obtain ⟨a, c, h, -⟩ := SlV.clip hE7; exact ⟨a, _, c, h⟩); have hy7 := (hb7.block _ (heap_lt HD.out.2.1)).trans HD.out.2.1; have l7 : w7.cell? ⟨yb, 6, none⟩ = some (.slice al i capl) := (by rw [cell_of_heap hy7]; rfl); have l8 : (w7.alloc (.cells #[.slice a8 n8 k8] 42)).cell? ⟨yb, 6, none⟩ = some (.slice al i capl) := cell_goes (below_al (Below.refl _ _) _) l7; have HROW := Lib.hid (owns_below HD.out.2.2.1 (below_al hb7 (.cells #[.slice a8 n8 k8] 42))); have HNW := Lib.hid (cell_one_new w7 (.slice a8 n8 k8) 42); have HZ := Lib.hid (And.intro hE7 hb7); clear hE7 hn7 hb7 hy7)
       refine hK.out _ _ ?_ (fun hH => ?_)
       · (try dsimp only); (all_goals trivial)
       clear hK K
       refine wpAnyH_ready (rs := [8]) (by kernel_rfl) (by simp) ?_
       refine AllReadyH.cons rfl (fun K hK => ?_) ?_
       ·
        (go_simp)
        refine hK.out _ _ ?_ (fun hH => ?_)
        · (try dsimp only); (all_goals trivial)
        clear hK K
        refine wpAnyH_ready (rs := [9]) (by kernel_rfl) (by simp) ?_
        refine AllReadyH.cons rfl (fun K hK => ?_) ?_
        ·
         (refine step_append_lies _ rfl (.tmp 53) (.tmp 60) 43 rfl Bc 42 i0 (.slice none 0 0) 1 24 Tryz.underlying43 hi0 hz0 hz1 hz2 rfl (by decide) _ i vs (by simp [Act.eval, Act.put]) HROW.out ⟨w7.heap.size, 0, none⟩ 1 1 [.slice a8 n8 k8] (by simp [Act.eval, Act.put]) rfl HNW.out (fun u hu => by simp at hu; subst hu; rfl) (by decide) (by unfold maxLen; omega) (by omega) (by have h1 := HD.out.2.2.2.2.2; have h2 := HZ.out.2.size; simp; omega) _ rfl ?_; intro g4 k4 w9 hown9 hg9 hat9 hlt9; have hE9 := StL.next H.out.1 HGE.out.1 HGE.out.2.1 HGE.out.2.2.1 HGE.out.2.2.2 HD.out.2.1 HD.out.1 HD.out.2.2.2.1 HD.out.2.2.2.2.1 HD.out.2.2.2.2.2 HD.out.2.2.1 HZ.out.2 HZ.out.1 rfl hown9 hg9; have HN9 := Lib.hid hE9; have hh9 := hE9.c; have hf9 := hE9.z; clear hown9 hg9 hat9 hlt9 hE9)
         refine hK.out _ _ ?_ (fun hH => ?_)
         · (try dsimp only); (all_goals trivial)
         clear hK K
         refine tk (i := 10) (v := ?_) rfl ?_ ?_
         rotate_left
         · (intro w hSw; go_simp; try with_reducible rfl)
         (try simp only [Act.put, pA, pB, pC])
         refine wpAnyH_ready (rs := [11]) (by kernel_rfl) (by simp) ?_
         refine AllReadyH.cons rfl (fun K hK => ?_) ?_
         ·
          (go_simp)
          refine hK.out _ _ ?_ (fun hH => ?_)
          · (try dsimp only); (all_goals trivial)
          clear hK K
          refine wpAnyH_done (by kernel_rfl) ?_ _
          go_wp2_with fail
          go_roundg (T - (i + 1))
          case measure => omega
          case rel => exact ⟨i + 1, by omega, rfl, by go_num, HN9.out.nx⟩
         exact AllReadyH.nil
        exact AllReadyH.nil
       exact AllReadyH.nil
      exact AllReadyH.nil
     exact AllReadyH.nil
    refine AllReadyH.cons rfl (fun K hK => ?_) ?_
    ·
     (go_simp)
     refine hK.out _ _ ?_ (fun hH => ?_)
     · (try dsimp only); (all_goals trivial)
     clear hK K
     refine wpAnyH_ready (rs := [1, 7]) (by kernel_rfl) (by simp) ?_
     refine AllReadyH.cons rfl (fun K hK => ?_) ?_
     ·
      (go_simp)
      refine hK.out _ _ ?_ (fun hH => ?_)
      · (try dsimp only); (all_goals trivial)
      clear hK K
      refine wpAnyH_ready (rs := [7]) (by kernel_rfl) (by simp) ?_
      refine AllReadyH.cons rfl (fun K hK => ?_) ?_
      ·
       (go_simp; go_at_call 52; refine HLc.out.mono ?_; rintro e w7 ⟨v7, rfl, hE7, hn7, hb7⟩; obtain ⟨a8, n8, k8, rfl⟩ : ∃ a n c, v7 = .slice a n c := (by obtain ⟨a, c, h, -⟩ := SlV.clip hE7; exact ⟨a, _, c, h⟩); have hy7 := (hb7.block _ (heap_lt HD.out.2.1)).trans HD.out.2.1; have l7 : w7.cell? ⟨yb, 6, none⟩ = some (.slice al i capl) := (by rw [cell_of_heap hy7]; rfl); have l8 : (w7.alloc (.cells #[.slice a8 n8 k8] 42)).cell? ⟨yb, 6, none⟩ = some (.slice al i capl) := cell_goes (below_al (Below.refl _ _) _) l7; have HROW := Lib.hid (owns_below HD.out.2.2.1 (below_al hb7 (.cells #[.slice a8 n8 k8] 42))); have HNW := Lib.hid (cell_one_new w7 (.slice a8 n8 k8) 42); have HZ := Lib.hid (And.intro hE7 hb7); clear hE7 hn7 hb7 hy7)
       refine hK.out _ _ ?_ (fun hH => ?_)
       · (try dsimp only); (all_goals trivial)
       clear hK K
       refine wpAnyH_ready (rs := [8]) (by kernel_rfl) (by simp) ?_
       refine AllReadyH.cons rfl (fun K hK => ?_) ?_
       ·
        (go_simp)
        refine hK.out _ _ ?_ (fun hH => ?_)
        · (try dsimp only); (all_goals trivial)
        clear hK K
        refine wpAnyH_ready (rs := [9]) (by kernel_rfl) (by simp) ?_
        refine AllReadyH.cons rfl (fun K hK => ?_) ?_
        ·
         (refine step_append_lies _ rfl (.tmp 53) (.tmp 60) 43 rfl Bc 42 i0 (.slice none 0 0) 1 24 Tryz.underlying43 hi0 hz0 hz1 hz2 rfl (by decide) _ i vs (by simp [Act.eval, Act.put]) HROW.out ⟨w7.heap.size, 0, none⟩ 1 1 [.slice a8 n8 k8] (by simp [Act.eval, Act.put]) rfl HNW.out (fun u hu => by simp at hu; subst hu; rfl) (by decide) (by unfold maxLen; omega) (by omega) (by have h1 := HD.out.2.2.2.2.2; have h2 := HZ.out.2.size; simp; omega) _ rfl ?_; intro g4 k4 w9 hown9 hg9 hat9 hlt9; have hE9 := StL.next H.out.1 HGE.out.1 HGE.out.2.1 HGE.out.2.2.1 HGE.out.2.2.2 HD.out.2.1 HD.out.1 HD.out.2.2.2.1 HD.out.2.2.2.2.1 HD.out.2.2.2.2.2 HD.out.2.2.1 HZ.out.2 HZ.out.1 rfl hown9 hg9; have HN9 := Lib.hid hE9; have hh9 := hE9.c; have hf9 := hE9.z; clear hown9 hg9 hat9 hlt9 hE9)
         refine hK.out _ _ ?_ (fun hH => ?_)
         · (try dsimp only); (all_goals trivial)
         clear hK K
         refine tk (i := 10) (v := ?_) rfl ?_ ?_
         rotate_left
         · (intro w hSw; go_simp; try with_reducible rfl)
         (try simp only [Act.put, pA, pB, pC])
         refine wpAnyH_ready (rs := [11]) (by kernel_rfl) (by simp) ?_
         refine AllReadyH.cons rfl (fun K hK => ?_) ?_
         ·
          (go_simp)
          refine hK.out _ _ ?_ (fun hH => ?_)
          · (try dsimp only); (all_goals trivial)
          clear hK K
          refine wpAnyH_done (by kernel_rfl) ?_ _
          go_wp2_with fail
          go_roundg (T - (i + 1))
          case measure => omega
          case rel => exact ⟨i + 1, by omega, rfl, by go_num, HN9.out.nx⟩
         exact AllReadyH.nil
        exact AllReadyH.nil
       exact AllReadyH.nil
      exact AllReadyH.nil
     refine AllReadyH.cons rfl (fun K hK => ?_) ?_
     ·
      (go_simp; go_at_call 52; refine HLc.out.mono ?_; rintro e w7 ⟨v7, rfl, hE7, hn7, hb7⟩; obtain ⟨a8, n8, k8, rfl⟩ : ∃ a n c, v7 = .slice a n c := (by obtain ⟨a, c, h, -⟩ := SlV.clip hE7; exact ⟨a, _, c, h⟩); have hy7 := (hb7.block _ (heap_lt HD.out.2.1)).trans HD.out.2.1; have l7 : w7.cell? ⟨yb, 6, none⟩ = some (.slice al i capl) := (by rw [cell_of_heap hy7]; rfl); have l8 : (w7.alloc (.cells #[.slice a8 n8 k8] 42)).cell? ⟨yb, 6, none⟩ = some (.slice al i capl) := cell_goes (below_al (Below.refl _ _) _) l7; have HROW := Lib.hid (owns_below HD.out.2.2.1 (below_al hb7 (.cells #[.slice a8 n8 k8] 42))); have HNW := Lib.hid (cell_one_new w7 (.slice a8 n8 k8) 42); have HZ := Lib.hid (And.intro hE7 hb7); clear hE7 hn7 hb7 hy7)
      refine hK.out _ _ ?_ (fun hH => ?_)
      · (try dsimp only); (all_goals trivial)
      clear hK K
      refine wpAnyH_ready (rs := [1, 8]) (by kernel_rfl) (by simp) ?_
      refine AllReadyH.cons rfl (fun K hK => ?_) ?_
      ·
       (go_simp)
       refine hK.out _ _ ?_ (fun hH => ?_)
       · (try dsimp only); (all_goals trivial)
       clear hK K
       refine wpAnyH_ready (rs := [8]) (by kernel_rfl) (by simp) ?_
       refine AllReadyH.cons rfl (fun K hK => ?_) ?_
       ·
        (go_simp)
        refine hK.out _ _ ?_ (fun hH => ?_)
        · (try dsimp only); (all_goals trivial)
        clear hK K
        refine wpAnyH_ready (rs := [9]) (by kernel_rfl) (by simp) ?_
        refine AllReadyH.cons rfl (fun K hK => ?_) ?_
        ·
         (refine step_append_lies _ rfl (.tmp 53) (.tmp 60) 43 rfl Bc 42 i0 (.slice none 0 0) 1 24 Tryz.underlying43 hi0 hz0 hz1 hz2 rfl (by decide) _ i vs (by simp [Act.eval, Act.put]) HROW.out ⟨w7.heap.size, 0, none⟩ 1 1 [.slice a8 n8 k8] (by simp [Act.eval, Act.put]) rfl HNW.out (fun u hu => by simp at hu; subst hu; rfl) (by decide) (by unfold maxLen; omega) (by omega) (by have h1 := HD.out.2.2.2.2.2; have h2 := HZ.out.2.size; simp; omega) _ rfl ?_; intro g4 k4 w9 hown9 hg9 hat9 hlt9; have hE9 := StL.next H.out.1 HGE.out.1 HGE.out.2.1 HGE.out.2.2.1 HGE.out.2.2.2 HD.out.2.1 HD.out.1 HD.out.2.2.2.1 HD.out.2.2.2.2.1 HD.out.2.2.2.2.2 HD.out.2.2.1 HZ.out.2 HZ.out.1 rfl hown9 hg9; have HN9 := Lib.hid hE9; have hh9 := hE9.c; have hf9 := hE9.z; clear hown9 hg9 hat9 hlt9 hE9)
         refine hK.out _ _ ?_ (fun hH => ?_)
         · (try dsimp only); (all_goals trivial)
         clear hK K
         refine tk (i := 10) (v := ?_) rfl ?_ ?_
         rotate_left
         · (intro w hSw; go_simp; try with_reducible rfl)
         (try simp only [Act.put, pA, pB, pC])
         refine wpAnyH_ready (rs := [11]) (by kernel_rfl) (by simp) ?_
         refine AllReadyH.cons rfl (fun K hK => ?_) ?_
         ·
          (go_simp)
          refine hK.out _ _ ?_ (fun hH => ?_)
          · (try dsimp only); (all_goals trivial)
          clear hK K
          refine wpAnyH_done (by kernel_rfl) ?_ _
          go_wp2_with fail
          go_roundg (T - (i + 1))
          case measure => omega
          case rel => exact ⟨i + 1, by omega, rfl, by go_num, HN9.out.nx⟩
         exact AllReadyH.nil
        exact AllReadyH.nil
       exact AllReadyH.nil
      refine AllReadyH.cons rfl (fun K hK => ?_) ?_
      ·
       (go_simp)
       refine hK.out _ _ ?_ (fun hH => ?_)
       · (try dsimp only); (all_goals trivial)
       clear hK K
       refine wpAnyH_ready (rs := [1]) (by kernel_rfl) (by simp) ?_
       refine AllReadyH.cons rfl (fun K hK => ?_) ?_
       ·
        (go_simp)
        refine hK.out _ _ ?_ (fun hH => ?_)
        · (try dsimp only); (all_goals trivial)
        clear hK K
        refine wpAnyH_ready (rs := [9]) (by kernel_rfl) (by simp) ?_
        refine AllReadyH.cons rfl (fun K hK => ?_) ?_
        ·
         (refine step_append_lies _ rfl (.tmp 53) (.tmp 60) 43 rfl Bc 42 i0 (.slice none 0 0) 1 24 Tryz.underlying43 hi0 hz0 hz1 hz2 rfl (by decide) _ i vs (by simp [Act.eval, Act.put]) HROW.out ⟨w7.heap.size, 0, none⟩ 1 1 [.slice a8 n8 k8] (by simp [Act.eval, Act.put]) rfl HNW.out (fun u hu => by simp at hu; subst hu; rfl) (by decide) (by unfold maxLen; omega) (by omega) (by have h1 := HD.out.2.2.2.2.2; have h2 := HZ.out.2.size; simp; omega) _ rfl ?_; intro g4 k4 w9 hown9 hg9 hat9 hlt9; have hE9 := StL.next H.out.1 HGE.out.1 HGE.out.2.1 HGE.out.2.2.1 HGE.out.2.2.2 HD.out.2.1 HD.out.1 HD.out.2.2.2.1 HD.out.2.2.2.2.1 HD.out.2.2.2.2.2 HD.out.2.2.1 HZ.out.2 HZ.out.1 rfl hown9 hg9; have HN9 := Lib.hid hE9; have hh9 := hE9.c; have hf9 := hE9.z; clear hown9 hg9 hat9 hlt9 hE9)
         refine hK.out _ _ ?_ (fun hH => ?_)
         · (try dsimp only); (all_goals trivial)
         clear hK K
         refine tk (i := 10) (v := ?_) rfl ?_ ?_
         rotate_left
         · (intro w hSw; go_simp; try with_reducible rfl)
         (try simp only [Act.put, pA, pB, pC])
         refine wpAnyH_ready (rs := [11]) (by kernel_rfl) (by simp) ?_
         refine AllReadyH.cons rfl (fun K hK => ?_) ?_
         ·
          (go_simp)
          refine hK.out _ _ ?_ (fun hH => ?_)
          · (try dsimp only); (all_goals trivial)
          clear hK K
          refine wpAnyH_done (by kernel_rfl) ?_ _
          go_wp2_with fail
          go_roundg (T - (i + 1))
          case measure => omega
          case rel => exact ⟨i + 1, by omega, rfl, by go_num, HN9.out.nx⟩
         exact AllReadyH.nil
        exact AllReadyH.nil
       exact AllReadyH.nil
      exact AllReadyH.nil
     exact AllReadyH.nil
    exact AllReadyH.nil
    -- REGION 5 END
   ·
    have hltz : ¬ (i : Int) < (T : Int) := by omega
    obtain rfl : i = T := by omega
    have c6d : wr.cell? ⟨yb, 6, none⟩ = some (.slice al i capl) := by rw [cell_of_heap hy]; rfl
    have z6 : wr.frozen? ⟨yb, 6, none⟩ = false := frozen_of hy
    have HC := Lib.hid (ClipEns (SlV.of_owns hrow))
    have HD := Lib.hid (And.intro hy (And.intro hp hvs))
    clear hy hp hrow hvs hBc hvl
    go_wp2_with fail
    refine HC.out.mono ?_
    rintro e w' ⟨lv', rfl, hlv', -, rfl⟩
    obtain ⟨a9, c9, rfl, -⟩ := hlv'.clip
    obtain ⟨hy, hp, hvs⟩ := HD.out
    have hy10 := heap_set (o := 6) hy (.slice a9 i c9)
    have f10 : Fr (fun j => j = yb) w' (w'.setCell ⟨yb, 6, none⟩ (.slice a9 i c9)) := Fr.set (S := fun j => j = yb) (Fr.refl _ _) (p := ⟨yb, 6, none⟩) rfl _
    have hL : LocAt w' (.slice a9 i c9) i (S.q.q A.q.k).own := ⟨vs, hlv', hvs⟩
    have hL10 := hL.box f10 hy
    have hp10 := hp.box H.out.1 f10 HGE.out.2.1 hy (by decide) HGE.out.2.2.2
    obtain ⟨w10, hw10⟩ : ∃ w10, w'.setCell ⟨yb, 6, none⟩ (.slice a9 i c9) = w10 := ⟨_, rfl⟩
    rw [hw10] at hy10 hL10 hp10
    have hy10 : w10.heap[yb]? = some (.cells #[.int .u64 0, .int .u64 S.tick, .bool S.closed, .int .i64 ((A.C : Int) - S.o), tv, sv, .slice a9 i c9, hv, .slice none 0 0] 46 (0, 0)) := hy10
    have b0 : w10.cell? ⟨yb, 0, none⟩ = some (.int .u64 0) := by rw [cell_of_heap hy10]; rfl
    have b1 : w10.cell? ⟨yb, 1, none⟩ = some (.int .u64 S.tick) := by rw [cell_of_heap hy10]; rfl
    have b2 : w10.cell? ⟨yb, 2, none⟩ = some (.bool S.closed) := by rw [cell_of_heap hy10]; rfl
    have b3 : w10.cell? ⟨yb, 3, none⟩ = some (.int .i64 ((A.C : Int) - S.o)) := by rw [cell_of_heap hy10]; rfl
    have b4 : w10.cell? ⟨yb, 4, none⟩ = some (.slice a5 S.t.rows.length S.t.rows.length) := by rw [cell_of_heap hy10, HT.out.2.1]; rfl
    have b5 : w10.cell? ⟨yb, 5, none⟩ = some (.slice a6 n6 c6) := by rw [cell_of_heap hy10, HT.out.2.2.1]; rfl
    have b6 : w10.cell? ⟨yb, 6, none⟩ = some (.slice a9 i c9) := by rw [cell_of_heap hy10]; rfl
    have b7 : w10.cell? ⟨yb, 7, none⟩ = some (.slice a7 n7 c7) := by rw [cell_of_heap hy10, HT.out.2.2.2]; rfl
    have b8 : w10.cell? ⟨yb, 8, none⟩ = some (.slice none 0 0) := by rw [cell_of_heap hy10]; rfl
    have hx10 : w10.heap[W.heap.size]? = some (.cells #[.int .u64 0, .int .u64 0, .bool false, .int .i64 0, .slice none 0 0, .slice none 0 0, .slice none 0 0, .slice none 0 0, .slice none 0 0] 46 (0, 0)) := by
     obtain ⟨S', k, -⟩ := hp10.core
     exact CStep.kept H.out.1 k (fun e => by have := H0.out.lt e; omega) H.out.2.2.2.2.1
    obtain ⟨y0, y1, y2, y3, y4, y5, y6, y7, y8, zz⟩ := (show StZ W W.heap.size w10 from ⟨hx10, Nat.le_refl _⟩).cells
    have hs9 := set9_heap hx10 (.int .u64 0) (.int .u64 S.tick) (.bool S.closed) (.int .i64 ((A.C : Int) - S.o)) (.slice a5 S.t.rows.length S.t.rows.length) (.slice a6 n6 c6) (.slice a9 i c9) (.slice a7 n7 c7) (.slice none 0 0)
    have f11 := set9_fr w10 W.heap.size (.int .u64 0) (.int .u64 S.tick) (.bool S.closed) (.int .i64 ((A.C : Int) - S.o)) (.slice a5 S.t.rows.length S.t.rows.length) (.slice a6 n6 c6) (.slice a9 i c9) (.slice a7 n7 c7) (.slice none 0 0)
    have hpW := hp10.base H0.out H.out.2.2.2.1
    have htW : tv.ownBlock ≠ some W.heap.size := fun e => by
     obtain ⟨lo, h1, h2⟩ := hp10.t (by omega)
     have h3 := heap_lt H.out.2.2.2.2.1
     rcases h2 with ⟨-, rfl⟩ | ⟨d, rfl, h4, -⟩
     · cases e
     · injection e with e
       have e : d = W.heap.size := e
       omega
    have hpF := hpW.box H0.out f11 (Nat.le_refl _) hx10 (by decide) htW
    have hLF := hL10.box f11 hx10
    obtain ⟨w11, hw11⟩ : ∃ w11, (((((((((w10.setCell ⟨W.heap.size, 0, none⟩ (.int .u64 0)).setCell ⟨W.heap.size, 1, none⟩ (.int .u64 S.tick)).setCell ⟨W.heap.size, 2, none⟩ (.bool S.closed)).setCell ⟨W.heap.size, 3, none⟩ (.int .i64 ((A.C : Int) - S.o))).setCell ⟨W.heap.size, 4, none⟩ (.slice a5 S.t.rows.length S.t.rows.length)).setCell ⟨W.heap.size, 5, none⟩ (.slice a6 n6 c6)).setCell ⟨W.heap.size, 6, none⟩ (.slice a9 i c9)).setCell ⟨W.heap.size, 7, none⟩ (.slice a7 n7 c7)).setCell ⟨W.heap.size, 8, none⟩ (.slice none 0 0)) = w11 := ⟨_, rfl⟩
    rw [hw11] at hs9 hpF hLF
    have e0 : w11.cell? ⟨W.heap.size, 0, none⟩ = some (.int .u64 0) := by rw [cell_of_heap hs9]; rfl
    have e1 : w11.cell? ⟨W.heap.size, 1, none⟩ = some (.int .u64 S.tick) := by rw [cell_of_heap hs9]; rfl
    have e2 : w11.cell? ⟨W.heap.size, 2, none⟩ = some (.bool S.closed) := by rw [cell_of_heap hs9]; rfl
    have e3 : w11.cell? ⟨W.heap.size, 3, none⟩ = some (.int .i64 ((A.C : Int) - S.o)) := by rw [cell_of_heap hs9]; rfl
    have e4 : w11.cell? ⟨W.heap.size, 4, none⟩ = some (.slice a5 S.t.rows.length S.t.rows.length) := by rw [cell_of_heap hs9]; rfl
    have e5 : w11.cell? ⟨W.heap.size, 5, none⟩ = some (.slice a6 n6 c6) := by rw [cell_of_heap hs9]; rfl
    have e6 : w11.cell? ⟨W.heap.size, 6, none⟩ = some (.slice a9 i c9) := by rw [cell_of_heap hs9]; rfl
    have e7 : w11.cell? ⟨W.heap.size, 7, none⟩ = some (.slice a7 n7 c7) := by rw [cell_of_heap hs9]; rfl
    have e8 : w11.cell? ⟨W.heap.size, 8, none⟩ = some (.slice none 0 0) := by rw [cell_of_heap hs9]; rfl
    have HW := Lib.hid hw11
    have HF := Lib.hid (And.intro hpF hLF)
    clear hy hp hvs hy10 f10 hL hL10 hp10 hx10 hs9 f11 hpW htW hpF hLF hlv' hw11
    go_wp2_with fail
    rw [HW.out]
    refine bodyPost_ret (v := .agg #[.int .u64 0, .int .u64 S.tick, .bool S.closed, .int .i64 ((A.C : Int) - S.o), .slice a5 S.t.rows.length S.t.rows.length, .slice a6 n6 c6, .slice a9 i c9, .slice a7 n7 c7, .slice none 0 0]) (by simp [results, Tryz.results17, go_sem, e0, e1, e2, e3, e4, e5, e6, e7, e8]) rfl ?_
    refine ⟨tv, sv, .slice a9 i c9, hv, ?_, HF.out.1, ?_⟩
    · rw [← HT.out.2.1, ← HT.out.2.2.1, ← HT.out.2.2.2]
      rfl
    · rw [HT.out.1]
      exact HF.out.2
end
section
variable {W W' : World} {M : MA} {s s' : MS} {N N' : Nat}
theorem MStep.core (h : MachAt W M s N) {S' : CS} (k : CStep W M.c s.c W' S' N') : MStep W M s W' { s with c := S' } N' :=
 pick_step k (Fr.refl _ _) (Fr.refl _ _) (Below.refl _ _) (h.core k) rfl
theorem TasksAt.slice {W : World} {lo n : Nat} {v : Value} {xs : List Value} (h : TasksAt W lo v n xs) : ∃ a m c, v = .slice a m c := by
 rcases h with h | ⟨c, rfl, h1, h2, h3⟩
 · exact ⟨_, _, _, h.2⟩
 · exact ⟨_, _, _, rfl⟩
def ownN (own : List (List En)) (i : Nat) : Nat := ((own.take i).map List.length).sum
theorem ownN_succ (own : List (List En)) (i : Nat) : ownN own (i + 1) = ownN own i + (own.getD i []).length := by
 unfold ownN
 by_cases h : i < own.length
 · rw [List.take_add_one, List.getElem?_eq_getElem h, List.getD_eq_getElem?_getD, List.getElem?_eq_getElem h]
   simp only [Option.toList_some, List.map_append, List.sum_append, List.map_cons, List.map_nil, List.sum_cons, List.sum_nil, Nat.add_zero, Option.getD_some]
 · rw [List.take_add_one, List.getElem?_eq_none (by omega), List.getD_eq_getElem?_getD, List.getElem?_eq_none (by omega)]
   simp
def quietB (A : CA) (s : MS) : Bool := ((((slotE (s.c.q.q A.q.k).slots).length + (s.c.q.q A.q.k).sh.length + ownN (s.c.q.q A.q.k).own A.q.lp.length : Nat) : Int) == 0) && wkIdle s
theorem M_Quiet (h : MachAt W M s N) (hN : N ≤ 300000000) (hq : (s.c.q.q M.c.q.k).Ok) (hT1 : 1 ≤ s.ws.length) (hl : s.ws.length ≤ 64) (hsum : ∀ i, i ≤ M.c.q.lp.length → (slotE (s.c.q.q M.c.q.k).slots).length + (s.c.q.q M.c.q.k).sh.length + ownN (s.c.q.q M.c.q.k).own i ≤ 1000) : Calls Tryz.prog 19 #[.pointer (some ⟨M.mp, 0, none⟩)] W fun e w' => e = .returned (.bool (quietB M.c s)) ∧ ∃ S', MStep W M s w' { s with c := S' } (N + 1260) ∧ S'.cm M.c = s.c.cm M.c := by
 obtain ⟨c0, -⟩ := h.pkS rfl
 have HS := Lib.hid (C_State h.c hN hq)
 have H := Lib.hid h
 have HL := Lib.hid (And.intro hT1 (And.intro hl hsum))
 obtain ⟨qb, hqb⟩ : ∃ q, quietB M.c s = q := ⟨_, rfl⟩
 rw [hqb]
 have HQB := Lib.hid hqb
 clear h hq hT1 hl hsum hqb
 go_enter Tryz.func19, Tryz.ntmps19
 go_wp2_with fail
 refine HS.out.mono ?_
 rintro e w1 ⟨tv, sv, lv, hv, rfl, hp, hloc⟩
 unfold stC
 obtain ⟨S1, k1, hcm, -, -⟩ := hp.core
 have hs := (hp.s (by omega)).1
 have hh := (hp.h (by omega)).1
 obtain ⟨lo', -, ht'⟩ := hp.t (by omega)
 obtain ⟨ta, tn, tc, rfl⟩ := ht'.slice
 clear ht'
 obtain ⟨sa, sc, rfl, -⟩ := SlV.clip hs
 obtain ⟨ha, hc, rfl, -⟩ := SlV.clip hh
 clear hs hh hp
 obtain ⟨vs, hvl, hve⟩ := hloc
 have HT : 1 ≤ M.c.q.lp.length := by rw [← H.out.len]; exact HL.out.1
 have hvn := hvl.1
 rcases SlV.form hvl with ⟨-, h0, -⟩ | ⟨lb, lo, lc, rfl, h1, h2, h3, h4⟩
 · omega
 obtain ⟨a, hA⟩ : ∃ a, (slotE (s.c.q.q M.c.q.k).slots).length = a := ⟨_, rfl⟩
 obtain ⟨b, hB⟩ : ∃ b, (s.c.q.q M.c.q.k).sh.length = b := ⟨_, rfl⟩
 obtain ⟨T, hT⟩ : ∃ T, M.c.q.lp.length = T := ⟨_, rfl⟩
 obtain ⟨own, hO⟩ : ∃ o, (s.c.q.q M.c.q.k).own = o := ⟨_, rfl⟩
 rw [hA, hB, hT]
 have HLB : ∀ i, i ≤ T → a + b + ownN own i ≤ 1000 := by have := HL.out.2.2; rw [hA, hB, hT, hO] at this; exact this
 rw [hO] at hve
 rw [hT] at h1 hvn HT
 obtain ⟨st, hst⟩ : ∃ st, (Value.agg #[.int .u64 0, .int .u64 s.c.tick, .bool s.c.closed, .int .i64 ((M.c.C : Int) - s.c.o), .slice ta tn tc, .slice sa a sc, .slice (some ⟨lb, lo, none⟩) T lc, .slice ha b hc, .slice none 0 0]) = st := ⟨_, rfl⟩
 have HN := Lib.hid (And.intro hA (And.intro hB (And.intro hT hO)))
 have HK := Lib.hid (And.intro k1 hcm)
 clear hA hB hT hO hvl k1 hcm hst st
 obtain ⟨W2, hW2⟩ : ∃ W2, w1.alloc (.cells #[.int .u64 0, .int .u64 s.c.tick, .bool s.c.closed, .int .i64 ((M.c.C : Int) - s.c.o), .slice ta tn tc, .slice sa a sc, .slice (some ⟨lb, lo, none⟩) T lc, .slice ha b hc, .slice none 0 0] 46) = W2 := ⟨_, rfl⟩
 have hbW : Below w1.heap.size w1 W2 := by rw [← hW2]; exact below_al (Below.refl _ _) _
 have xw : W2.heap[w1.heap.size]? = some (.cells #[.int .u64 0, .int .u64 s.c.tick, .bool s.c.closed, .int .i64 ((M.c.C : Int) - s.c.o), .slice ta tn tc, .slice sa a sc, .slice (some ⟨lb, lo, none⟩) T lc, .slice ha b hc, .slice none 0 0] 46 (0, 0)) := by rw [← hW2]; exact heap_alloc_new w1 _
 have f5 : W2.cell? ⟨w1.heap.size, 5, none⟩ = some (.slice sa a sc) := by rw [cell_of_heap xw]; rfl
 have f6 : W2.cell? ⟨w1.heap.size, 6, none⟩ = some (.slice (some ⟨lb, lo, none⟩) T lc) := by rw [cell_of_heap xw]; rfl
 have f7 : W2.cell? ⟨w1.heap.size, 7, none⟩ = some (.slice ha b hc) := by rw [cell_of_heap xw]; rfl
 have HC : Aside (∀ (j : Nat) (x : Value), vs[j]? = some x → W2.cell? ⟨lb, lo + j, none⟩ = some x) := fun j x hx => cell_goes hbW (h4 j x hx)
 have HE : Aside (∀ (j : Nat) (v : Value), vs[j]? = some v → EsAt w1 v (own.getD j [])) := hve
 have hLB : Aside (∀ i, i ≤ T → a + b + ownN own i ≤ 1000) := HLB
 have HW2 := Lib.hid hW2
 have HBW := Lib.hid hbW
 have hab : a + b ≤ 1000 := by have := HLB 0 (by omega); omega
 have hTm : (T : Int) ≤ 64 := by have := HL.out.2.1; rw [H.out.len, HN.out.2.2.1] at this; omega
 clear hW2 xw h4 hve HLB hbW c0
 go_upto_region 2 with fail
 rw [HW2.out]
 go_wp2_with fail
 go_loopg [4, 6, 22] T (fun gg s4 _ s22 wr => ∃ i : Nat, i ≤ T ∧ gg = T - i ∧ s22 = .int .i64 i ∧ s4 = .int .i64 ((a + b + ownN own i : Nat) : Int) ∧ wr = W2)
 case atStart => exact ⟨0, Nat.zero_le _, by omega, rfl, by simp [ownN], rfl⟩
 case round =>
  obtain ⟨i, hi, rfl, rfl, rfl, rfl⟩ := hrel
  by_cases hlt : i < T
  ·
   have hltz : (i : Int) < (T : Int) := by omega
   obtain ⟨v, hv⟩ : ∃ v, vs[i]? = some v := ⟨_, List.getElem?_eq_getElem (by omega)⟩
   have hc0 := HC.out i v hv
   obtain ⟨ea, ec, rfl, -⟩ := SlV.clip (HE.out i v hv)
   have hsu := ownN_succ own i
   obtain ⟨n, hn⟩ : ∃ n, (own.getD i []).length = n := ⟨_, rfl⟩
   obtain ⟨m, hm⟩ : ∃ m, a + b + ownN own i = m := ⟨_, rfl⟩
   have hm1 := hLB.out (i + 1) (by omega)
   have hnx : a + b + ownN own (i + 1) = m + n := by omega
   rw [hn] at hc0
   rw [hm]
   have hmn : m + n ≤ 1000 := by omega
   have HX := Lib.hid hnx
   clear hsu hn hm hm1 hnx hv
   go_wp2_with fail
   go_roundg (T - (i + 1))
   case measure => omega
   case rel => exact ⟨i + 1, by omega, rfl, by simp, by rw [HX.out]; simp, rfl⟩
  ·
   have hltz : ¬ (i : Int) < (T : Int) := by omega
   have hiT : i = T := by omega
   obtain ⟨m, hm⟩ : ∃ m, a + b + ownN own i = m := ⟨_, rfl⟩
   have hq : qb = (((m : Int) == 0) && wkIdle s) := by
    rw [← HQB.out, ← hm, hiT]
    unfold quietB
    rw [HN.out.1, HN.out.2.1, HN.out.2.2.1, HN.out.2.2.2]
   rw [hm]
   have hM := MStep.core H.out (HK.out.1.trans (CStep.below HK.out.1.at_ HBW.out))
   obtain ⟨q, hqq⟩ : ∃ q, wkIdle s = q := ⟨_, rfl⟩
   have HI := Lib.hid (M_Idle hM.at_ HL.out.2.1)
   rw [show wkIdle { s with c := S1 } = q from hqq] at HI
   rw [hqq] at hq
   have HM := Lib.hid hM
   have HQ := Lib.hid hq
   clear hM hq hqq hm f5 f6 f7 HC HE hLB hiT
   by_cases hz : m = 0
   ·
    have hb : ((m : Int) == 0) = true := by rw [beq_iff_eq]; omega
    rw [hb] at HQ
    have HQ' := Lib.hid HQ.out
    clear hz HQ
    go_wp2_with fail
    refine HI.out.mono ?_
    rintro e w5 ⟨rfl, hb5⟩
    have HB5 := Lib.hid hb5
    clear hb5
    go_wp2_with fail
    refine bodyPost_ret (v := .bool q) (by simp [results, Tryz.results19, go_sem]) rfl ?_
    exact ⟨by rw [HQ'.out, Bool.true_and], S1, HM.out.trans (MStep.below HM.out.at_ HB5.out), HK.out.2⟩
   ·
    have hb : ((m : Int) == 0) = false := by rw [beq_eq_false_iff_ne]; omega
    rw [hb] at HQ
    have HQ' := Lib.hid HQ.out
    clear HQ
    go_wp2_with fail
    refine bodyPost_ret (v := .bool false) (by simp [results, Tryz.results19, go_sem]) rfl ?_
    exact ⟨by rw [HQ'.out, Bool.false_and], S1, HM.out, HK.out.2⟩
end
section
variable {W W' : World} {M : MA} {s s' : MS} {N N' : Nat}
theorem own_keep {w w' : World} {base : Nat} {e : TypeId} {k : Nat} {v : Value} {n : Nat} {xs : List Value} (h : w.ownsRow base e k v n xs) (hk : ∀ c o, v.ownBlock = some c → w.heap[c]? = some o → w'.heap[c]? = some o) : w'.ownsRow base e k v n xs := by
 obtain ⟨h1, h2⟩ := h
 rcases h2 with ⟨rfl, h⟩ | ⟨g, cap, cur, rfl, h3, h4, h5⟩
 · exact ⟨h1, .inl ⟨rfl, h⟩⟩
 · exact ⟨h1, .inr ⟨g, cap, cur, rfl, h3, hk g _ rfl h4, h5⟩⟩
theorem own_block {w : World} {base : Nat} {e : TypeId} {k : Nat} {v : Value} {n : Nat} {xs : List Value} (h : w.ownsRow base e k v n xs) {c : Nat} (hc : v.ownBlock = some c) : ∃ cur, w.heap[c]? = some (.cells cur e (0, 0)) := by
 obtain ⟨h1, h2⟩ := h
 rcases h2 with ⟨rfl, h⟩ | ⟨g, cap, cur, rfl, h3, h4, h5⟩
 · cases hc
 · cases hc; exact ⟨_, h4⟩
theorem MStep.grown {w w' : World} (h : MachAt w M s N) {v : Value} {n : Nat} {xs : List Value} {base : Nat} (ho : w.ownsRow base 3 1 v n xs) (hn : ∀ c, v.ownBlock = some c → ¬ mOwn M s c) (hg : w.grownBy w' v.ownBlock) : MachAt w' M s N := by
 have hc : CoreAt w' M.c s.c N := by
  cases hv : v.ownBlock with
  | none =>
   rw [hv] at hg
   exact h.c.below ⟨hg.os, hg.tape, hg.output, hg.size, fun j hj => hg.block j hj (by simp)⟩
  | some c =>
   rw [hv] at hg
   obtain ⟨cur, hb⟩ := own_block ho hv
   exact h.c.other ⟨hg.os, hg.tape, hg.output, hg.size, fun j hj hne => hg.block j hj (fun e => hne (Option.some.inj e))⟩ hb (by decide) (fun e => hn c hv (.inl e))
 exact ⟨hc, (hg.block _ (heap_lt h.m) (fun e => hn _ e.symm (.inr (.inl rfl)))).trans h.m, (hg.block _ (heap_lt h.l) (fun e => hn _ e.symm (.inr (.inr rfl)))).trans h.l, h.len, h.did, h.nm, h.nl⟩
structure RdAt (W : World) (M : MA) (s : MS) (B : Nat → Nat) (P : Nat → MS → Prop) (i : Nat) (v : Value) (xs : List Value) (si : MS) (w : World) : Prop where
 own : w.ownsRow W.heap.size 3 1 v i xs
 ne : ∀ c, v.ownBlock = some c → ¬ mOwn M si c
 st : MStep W M s w si (B i)
 p : P i si
 sz : W.heap.size ≤ w.heap.size
theorem RdAt.pick {B : Nat → Nat} {P : Nat → MS → Prop} {i : Nat} {v : Value} {xs : List Value} {si s4 : MS} {w w4 : World} (h : RdAt W M s B P i v xs si w) (k : MStep w M si w4 s4 (B (i + 1))) : w4.ownsRow W.heap.size 3 1 v i xs ∧ (∀ c, v.ownBlock = some c → ¬ mOwn M s4 c) ∧ MStep W M s w4 s4 (B (i + 1)) ∧ W.heap.size ≤ w4.heap.size :=
 ⟨own_keep h.own (fun c o hc ho => (k.kept (h.ne c hc) ho).1), fun c hc => by
  obtain ⟨cur, hb⟩ := own_block h.own hc
  exact (k.kept (h.ne c hc) hb).2, h.st.trans k, Nat.le_trans h.sz k.fr.size⟩
theorem RdAt.next {B : Nat → Nat} {P : Nat → MS → Prop} {i : Nat} {v v' : Value} {xs ys : List Value} {s4 : MS} {w4 w5 w6 : World} (h : w4.ownsRow W.heap.size 3 1 v i xs ∧ (∀ c, v.ownBlock = some c → ¬ mOwn M s4 c) ∧ MStep W M s w4 s4 (B (i + 1)) ∧ W.heap.size ≤ w4.heap.size) (hp : P (i + 1) s4) (hb : Below w4.heap.size w4 w5) (hg : w5.grownBy w6 v.ownBlock) (ho : w6.ownsRow W.heap.size 3 1 v' (i + 1) ys) (hv : ∀ c, v'.ownBlock = some c → some c = v.ownBlock ∨ w5.heap.size ≤ c) : RdAt W M s B P (i + 1) v' ys s4 w6 := by
 obtain ⟨h1, h2, h3, h4⟩ := h
 have h5 := h3.trans (MStep.below h3.at_ hb)
 have o5 : w5.ownsRow W.heap.size 3 1 v i xs := own_keep h1 (fun c o hc ho => (hb.block c (heap_lt ho)).trans ho)
 have hm := MStep.grown h5.at_ o5 h2 hg
 refine ⟨ho, fun c hc => ?_, ⟨hm, ⟨hg.os.trans h5.fr.os, hg.tape.trans h5.fr.tape, hg.output.trans h5.fr.output, Nat.le_trans h5.fr.size hg.size, fun j hj hn => ?_⟩, h5.own⟩, hp, Nat.le_trans h4 (Nat.le_trans hb.size hg.size)⟩
 ·
  rcases hv c hc with e | e
  · exact h2 c e.symm
  · intro hj
    have := mOwn_lt h5.at_ hj
    omega
 ·
  rw [hg.block j (Nat.lt_of_lt_of_le hj h5.fr.size) (fun e => ?_)]
  · exact h5.fr.block j hj hn
  · have := (h1.lt j e.symm).1
    omega
theorem M_Round (h : MachAt W M s N) (T : Nat) (hT : s.ws.length = T) (hT1 : T ≤ 64) (dr : Int) (B : Nat → Nat) (hB : B 0 = N) (P : Nat → MS → Prop) (hP : P 0 s) (HP : ∀ i V si, i < T → MachAt V M si (B i) → P i si → Calls Tryz.prog 24 #[.pointer (some ⟨M.mp, 0, none⟩), .int .u64 i, .int .u64 dr] V fun e V' => (∃ kd : Int, e = .returned (.int .i64 kd)) ∧ ∃ s', MStep V M si V' s' (B (i + 1)) ∧ P (i + 1) s') : Calls Tryz.prog 39 #[.pointer (some ⟨M.mp, 0, none⟩), .int .u64 dr] W fun e w' => ∃ v s', e = .returned v ∧ MStep W M s w' s' (B T) ∧ P T s' := by
 obtain ⟨c0, c1⟩ := h.pkS hT
 have H0 : RdAt W M s B P 0 (.slice none 0 0) [] s W := ⟨World.ownsRow_nil _ _ _ _, fun c hc => (by cases hc), (by rw [hB]; exact MStep.refl h), hP, Nat.le_refl _⟩
 have HPP := Lib.hid HP
 have HS0 := Lib.hid H0
 obtain ⟨i0, hi0, hz0, hz1, hz2⟩ := info_parts infoInt
 clear h hT hB hP HP H0 c0
 go_enter Tryz.func39, Tryz.ntmps39
 go_wp2_with fail
 go_loopg [5, 6, 12] T (fun gg s5 _ s12 wr => ∃ (i : Nat) (xs : List Value) (si : MS), i ≤ T ∧ gg = T - i ∧ s12 = .int .i64 i ∧ Aside (RdAt W M s B P i s5 xs si wr))
 case atStart => exact ⟨0, [], s, Nat.zero_le _, by omega, rfl, HS0.out⟩
 case round =>
  obtain ⟨i, xs, si, hi, rfl, rfl, hR⟩ := hrel
  obtain ⟨a5, k5, rfl, -⟩ := SlV.clip (SlV.of_owns hR.out.own)
  by_cases hlt : i < T
  ·
   have hltz : (i : Int) < (T : Int) := by omega
   have HPi := Lib.hid (HPP.out i wr si hlt hR.out.st.at_ hR.out.p)
   have HR := Lib.hid hR.out
   have hiu : wrap64 (i : Int) = i := by unfold wrap64; omega
   clear hR
   go_wp2_with (first | (go_at_call 24; refine HPi.out.mono ?_; rintro e w4 ⟨⟨kd, rfl⟩, s4, k4, p4⟩; have H4 := Lib.hid (And.intro (HR.out.pick k4) p4); have hO4 := Lib.hid ((HR.out.pick k4).1.alloc (.cells #[.int .i64 kd] 3)); have hG4 := Lib.hid (Nat.le_trans (HR.out.pick k4).2.2.2 (below_al (Below.refl _ _) (.cells #[.int .i64 kd] 3) : Below w4.heap.size w4 _).size); clear k4 p4) | (at_builtin; go_loud (refine wpList_append_own_at _ rfl (.tmp 15) (.tmp 21) 33 rfl W.heap.size 3 i0 zInt 1 8 Tryz.underlying33 hi0 hz0 hz1 hz2 rfl (by decide) (.slice a5 i k5) i xs rfl hO4.out ⟨w4.heap.size, 0, none⟩ 1 1 [.int .i64 kd] rfl rfl (cell_one_new _ _ _) (fun u hu => by simp at hu; subst hu; rfl) (by unfold maxLen; omega) (by omega) hG4.out ?_; intro v' w6 hown6 hg6 hnil6 hblk6; have H6 := Lib.hid (And.intro hown6 (And.intro hg6 hblk6)); clear hown6 hg6 hnil6 hblk6)))
   go_roundg (T - (i + 1))
   case measure => omega
   case rel => exact ⟨i + 1, _, s4, by omega, rfl, by go_num, (show Aside (RdAt W M s B P (i + 1) v' (xs ++ [.int .i64 kd]) s4 w6) from RdAt.next H4.out.1 H4.out.2 (below_al (Below.refl _ _) _) H6.out.2.1 H6.out.1 (fun c hc => by
    rcases H6.out.2.2 with e | e
    · exact .inl (by rw [← hc, e])
    · rw [hc] at e
      exact .inr (Nat.le_of_eq (Option.some.inj e).symm)))⟩
  ·
   obtain rfl : i = T := by omega
   have hltz : ¬ (i : Int) < (i : Int) := by omega
   have HC := Lib.hid (ClipInt (SlV.of_owns hR.out.own))
   have HR := Lib.hid hR.out
   clear hR
   go_wp2_with fail
   refine HC.out.mono ?_
   rintro e w5 ⟨v5, rfl, -, -, rfl⟩
   go_wp2_with fail
   go_ret
   exact ⟨v5, si, rfl, HR.out.st, HR.out.p⟩
end
section
variable {W W' : World} {M : MA} {s s' : MS} {N N' : Nat}
theorem MStep.up (h : MStep W M s W' s' N) (hN : N ≤ N') : MStep W M s W' s' N' := ⟨⟨h.at_.c.up hN, h.at_.m, h.at_.l, h.at_.len, h.at_.did, h.at_.nm, h.at_.nl⟩, h.fr, h.own⟩
theorem M_Rest (h : MachAt W M s N) (lim : Nat) (hlim : lim ≤ 100000) (dr : Int) (K : Nat) (hK : K ≤ lim) (B : Nat → Nat) (hB : B 0 = N) (R : Nat → MS → Prop) (hR : R 0 s)
 (HQ : ∀ j V sj, j ≤ K → MachAt V M sj (B j) → R j sj → Calls Tryz.prog 19 #[.pointer (some ⟨M.mp, 0, none⟩)] V fun e V' => e = .returned (.bool (decide (j = K))) ∧ ∃ S', MStep V M sj V' { sj with c := S' } (B j + 1260) ∧ R j { sj with c := S' })
 (HR : ∀ j V sj, j < K → MachAt V M sj (B j + 1260) → R j sj → Calls Tryz.prog 39 #[.pointer (some ⟨M.mp, 0, none⟩), .int .u64 dr] V fun e V' => ∃ v s', e = .returned v ∧ MStep V M sj V' s' (B (j + 1)) ∧ R (j + 1) s')
 (HQ2 : ∀ V sj, MachAt V M sj (B K + 1260) → R K sj → Calls Tryz.prog 19 #[.pointer (some ⟨M.mp, 0, none⟩)] V fun e V' => e = .returned (.bool true) ∧ ∃ S', MStep V M sj V' { sj with c := S' } (B K + 2520) ∧ R K { sj with c := S' }) : Calls Tryz.prog 13 #[.pointer (some ⟨M.mp, 0, none⟩), .int .i64 lim, .int .u64 dr] W fun e w' => e = .returned (.tuple #[.int .i64 K, .bool true]) ∧ ∃ s', MStep W M s w' s' (B K + 2520) ∧ R K s' := by
 have HHQ := Lib.hid HQ
 have HHR := Lib.hid HR
 have HHQ2 := Lib.hid HQ2
 have HS0 := Lib.hid (And.intro (hB ▸ MStep.refl h : MStep W M s W s (B 0)) hR)
 clear h hB hR HQ HR HQ2
 go_enter Tryz.func13, Tryz.ntmps13
 go_wp2_with fail
 go_loopg [8] K (fun gg s8 wr => ∃ (j : Nat) (sj : MS), j ≤ K ∧ gg = K - j ∧ s8 = .int .i64 j ∧ Aside (MStep W M s wr sj (B j) ∧ R j sj))
 case atStart => exact ⟨0, s, Nat.zero_le _, by omega, rfl, HS0.out⟩
 case round =>
  obtain ⟨j, sj, hj, rfl, rfl, hR⟩ := hrel
  have hmin : min (lim : Int) 100000 = lim := by omega
  by_cases hlt : j < K
  ·
   have hjl : (j : Int) < (lim : Int) := by omega
   have hdec : decide (j = K) = false := by rw [decide_eq_false_iff_not]; omega
   have HQ := Lib.hid (HHQ.out j wr sj hj hR.out.1.at_ hR.out.2)
   rw [hdec] at HQ
   have HR := Lib.hid hR.out
   clear hR hdec
   go_wp2_with fail
   refine HQ.out.mono ?_
   rintro e w1 ⟨rfl, S1, k1, r1⟩
   have HC := Lib.hid (HHR.out j w1 _ hlt k1.at_ r1)
   have H1 := Lib.hid (HR.out.1.trans k1)
   clear k1 r1
   go_wp2_with fail
   refine HC.out.mono ?_
   rintro e w2 ⟨v2, s2, rfl, k2, r2⟩
   have H2 := Lib.hid (And.intro (H1.out.trans k2) r2)
   clear k2 r2
   go_wp2_with fail
   go_roundg (K - (j + 1))
   case measure => omega
   case rel => exact ⟨j + 1, s2, by omega, rfl, by go_num, (show Aside _ from H2.out)⟩
  ·
   obtain rfl : j = K := by omega
   have HQ := Lib.hid (HHQ.out j wr sj hj hR.out.1.at_ hR.out.2)
   rw [decide_eq_true (rfl : j = j)] at HQ
   have HR := Lib.hid hR.out
   clear hR hlt
   by_cases hl : j < lim
   ·
    have hjl : (j : Int) < (lim : Int) := by omega
    go_wp2_with fail
    refine HQ.out.mono ?_
    rintro e w1 ⟨rfl, S1, k1, r1⟩
    have HQ2 := Lib.hid (HHQ2.out w1 _ k1.at_ r1)
    have H1 := Lib.hid (HR.out.1.trans k1)
    clear k1 r1
    go_wp2_with fail
    refine HQ2.out.mono ?_
    rintro e w2 ⟨rfl, S2, k2, r2⟩
    have H2 := Lib.hid (And.intro (H1.out.trans k2) r2)
    clear k2 r2
    go_wp2_with fail
    go_ret2
    exact ⟨rfl, _, H2.out.1, H2.out.2⟩
   ·
    have hjl : ¬ (j : Int) < (lim : Int) := by omega
    go_wp2_with fail
    refine HQ.out.mono ?_
    rintro e w1 ⟨rfl, S1, k1, r1⟩
    have H1 := Lib.hid (And.intro (HR.out.1.trans k1) r1)
    clear k1 r1
    go_wp2_with fail
    go_ret2
    exact ⟨rfl, _, H1.out.1.up (by omega), H1.out.2⟩
end
end Go.Proofs.YtcfhkbcllijnkaaGreat
namespace Go.Proofs.YtcfhkbcllijnkaaGreat
open Go.RowKit
structure MM where
 c : CM
 ws : List Wk
def MS.mm (M : MA) (s : MS) : MM := ⟨s.c.cm M.c, s.ws⟩
def rowOf (c : CM) (id : Int) : Option (Int × Tk) := c.rows[(id - 1).toNat]?
def CM.finish (c : CM) (t k : Nat) (x : Int × Tk) : CM :=
 if c.d then match c.rows[1]? with
  | some y => (c.fin t k x).wake t y.2
  | none => c.fin t k x
 else c.fin t k x
def CM.wstep (c : CM) (t : Nat) (d : Int) (w : Wk) : CM × Wk × Nat :=
 if w.ph = 0 then
  if c.q.fullAt t then ({ c with q := c.q.settle t }, w, 1)
  else match c.look t d with
   | none => (c, w, 0)
   | some en => ({ c with evs := c.evs ++ [⟨10, t, en.id, en.key, c.tick⟩] }, ⟨1, en, w.pc, w.bad⟩, 2)
 else if w.ph = 1 then match rowOf c w.e.id with
  | none => (c, w, 0)
  | some x => if x.1 == 2 && x.2.ke == w.e.key then (c.claim t (w.e.id - 1).toNat x w.e.key, ⟨2, w.e, 0, false⟩, 3) else (c, wk0, 4)
 else match rowOf c w.e.id with
  | none => (c, w, 0)
  | some x => match x.2.L[w.pc.toNat]? with
   | none => (c.finish t (w.e.id - 1).toNat x, wk0, 6)
   | some o => (c.sub t o.2.1 [], { w with pc := w.pc + 1, bad := false }, 5)
def MM.step (m : MM) (t : Nat) (d : Int) : MM := match m.ws[t]? with
 | none => m
 | some w => ⟨(m.c.wstep t d w).1, m.ws.set t (m.c.wstep t d w).2.1⟩
def MM.rndN (m : MM) (d : Int) : Nat → MM
 | 0 => m
 | i + 1 => (m.rndN d i).step i d
def MM.rnd (m : MM) (T : Nat) (d : Int) : MM := m.rndN d T
def MM.rest (m : MM) (T : Nat) (d : Int) : Nat → MM
 | 0 => m
 | j + 1 => (m.rest T d j).rnd T d
def MM.quiet (m : MM) : Bool := m.c.q.all.isEmpty && m.ws.all fun w => w.ph == 0
theorem relaxed_mem {q : QM} {t : Nat} {d : Int} {e : En} (h : q.relaxed t d = some e) : e ∈ q.all := by
 have own : ∀ j e, (q.own.getD j []).head? = some e → e ∈ q.all := fun j e he => by
  unfold QM.all
  refine List.mem_append_left _ (List.mem_append_right _ ?_)
  rw [List.getD_eq_getElem?_getD] at he
  cases hj : q.own[j]? with
  | none => rw [hj] at he; cases he
  | some l =>
   rw [hj] at he
   exact List.mem_flatten.2 ⟨l, List.mem_of_getElem? hj, List.mem_of_mem_head? he⟩
 unfold QM.relaxed at h
 have hsh : ∀ e, candV q.sh q.k d = some e → e ∈ q.all := fun e he => by
  unfold QM.all
  refine List.mem_append_right _ ?_
  unfold candV candL at he
  exact List.mem_of_mem_take (List.mem_of_getElem? he)
 have hrd : ∀ e, q.round t = some e → e ∈ q.all := fun e he => by
  unfold QM.round at he
  split at he
  ·
   rename_i x hx
   cases he
   obtain ⟨j, -, hj⟩ := List.exists_of_findSome?_eq_some hx
   exact own _ _ hj
  · unfold QM.all
    refine List.mem_append_left _ (List.mem_append_left _ ?_)
    exact (sortE_perm _).mem_iff.1 (List.mem_of_mem_head? he)
 cases ha : (q.own.getD t []).head? with
 | none =>
  rw [ha] at h
  cases hb : candV q.sh q.k d with
  | none => rw [hb] at h; exact hrd _ h
  | some y => rw [hb] at h; cases h; exact hsh _ hb
 | some x =>
  rw [ha] at h
  cases hb : candV q.sh q.k d with
  | none => rw [hb] at h; cases h; exact own _ _ ha
  | some y =>
   rw [hb] at h
   unfold pickE at h
   dsimp only at h
   split at h
   · cases h; exact hsh _ hb
   · cases h; exact own _ _ ha
theorem look_mem {c : CM} {t : Nat} {d : Int} {e : En} (h : c.look t d = some e) : e ∈ c.q.all := by
 unfold CM.look at h
 split at h
 · cases h
 ·
  rename_i r hr
  have hm := relaxed_mem hr
  cases h
  unfold chooseE
  split
  ·
   have hne : sortE c.q.all ≠ [] := fun e0 => by
    have h2 := sortE_length c.q.all
    rw [e0] at h2
    rw [List.length_eq_zero_iff.1 h2.symm] at hm
    cases hm
   cases hs : sortE c.q.all with
   | nil => exact absurd hs hne
   | cons x l => exact (sortE_perm _).mem_iff.1 (by rw [hs]; exact List.mem_cons_self)
  · exact hm
theorem hasL_iff {id : Int} {l : List En} : hasL id l = true ↔ ∃ e ∈ l, e.id = id := by
 unfold hasL
 rw [List.any_eq_true]
 simp
def runN (w : Wk) : Nat := if w.ph = 2 then 1 else 0
def MM.runs (m : MM) : Nat := (m.ws.map runN).sum
structure J (al : Int → Prop) (T k : Nat) (m : MM) : Prop where
 sl : m.c.q.slots.length = T
 ow : m.c.q.own.length = T
 k : m.c.q.k = k
 wl : m.ws.length = T
 ok : m.c.q.Ok
 qr : ∀ e ∈ m.c.q.all, 1 ≤ e.id ∧ ∃ y, rowOf m.c e.id = some (2, y) ∧ y.ke = e.key
 rq : ∀ (i : Nat) y, m.c.rows[i]? = some (2, y) → hasL ((i : Int) + 1) m.c.q.all = true
 ro : ∀ (i : Nat) x, m.c.rows[i]? = some x → (x.1 = 2 ∨ x.1 = 3 ∨ al x.1) ∧ x.2.L = []
 wk : ∀ (t : Nat) w, m.ws[t]? = some w → w.ph = 0 ∨ (w.ph = 1 ∧ 1 ≤ w.e.id ∧ ∃ x, rowOf m.c w.e.id = some x ∧ (x.1 = 2 → x.2.ke = w.e.key)) ∨ (w.ph = 2 ∧ 1 ≤ w.e.id ∧ (∃ y, rowOf m.c w.e.id = some (3, y)) ∧ w.pc = 0 ∧ w.bad = false)
 inj : ∀ (t t' : Nat) w w', m.ws[t]? = some w → m.ws[t']? = some w' → w.ph = 2 → w'.ph = 2 → w.e.id = w'.e.id → t = t'
 cr : ∀ (i : Nat) y, m.c.rows[i]? = some (3, y) → ∃ (t : Nat) (w : Wk), m.ws[t]? = some w ∧ w.ph = 2 ∧ w.e.id = (i : Int) + 1
 o : m.c.o = ((m.c.q.all.length + m.runs : Nat) : Int)
 d : m.c.d = false
 al : al 4 ∧ ¬ al 2 ∧ ¬ al 3
end Go.Proofs.YtcfhkbcllijnkaaGreat
