/- Parts of the proof of TopOnce, under no condition. -/
import Derived.Test.YtcfhkbcllijnkaaGreatZTopOncebd
import Derived.Lib.AppendZerosOnto
import Derived.Lib.Overlaps
set_option linter.unusedVariables false
set_option linter.unusedSimpArgs false
set_option maxRecDepth 100000
set_option maxHeartbeats 0
namespace Go.Proofs.YtcfhkbcllijnkaaGreat
open Go.RowKit
theorem zgh (x : Bk) : bkC x = zau [x] := by simp [zau]
theorem zka {W : World} {base : Nat} {v : Value} {bs : List Bk} {q : Nat} {x : Bk} (h : zbt W base v bs) (hb : base ≤ W.heap.size) (hx : W.heap[q]? = some (.cells (bkC x).toArray 222 (0, 0))) (hl : bs.length ≤ 1000) : Calls Tryz.prog 236 #[v, .int .i64 bs.length, .slice (some ⟨q, 0, none⟩) 1 1] W fun e w' => ∃ v', e = .returned v' ∧ zbt w' base v' (bs ++ [x]) ∧ Fr (fun k => v.ownBlock = some k) W w' := by
 obtain ⟨a, cap, rfl, hle, hmx, hna, -⟩ := SlV.clip (SlV.of_owns h)
 have hm : (cap : Int) ≤ 9223372036854775807 := by unfold maxLen at hmx; omega
 obtain ⟨i0, hi0, hz0, hz1, hz2⟩ := info_parts zgw
 obtain ⟨n, hn⟩ := yye (bs.length)
 unfold zbt at h
 have HN := yyh hn
 rw [hn] at h hl hle ⊢
 have HW := yyh h
 have HONE := yyh (zfa hx)
 have g0 : ((1 : Int) == 0) = false := rfl
 have g1 : ((n : Int) == (n : Int)) = true := by simp
 have HB := yyh hb
 clear h hx hn hna hb
 go_enter Tryz.func236, Tryz.ntmps236
 go_wp2_with (at_builtin; go_loud (refine wpList_append_own_at _ rfl (.tmp 23) (.tmp 24) 218 rfl base 222 i0 zBl 2 32 Tryz.underlying218 hi0 hz0 hz1 hz2 rfl (by decide) (.slice a n cap) n (zau bs) rfl HW.out ⟨q, 0, none⟩ 1 1 (bkC x) rfl rfl HONE.out (zc4 x) (by unfold maxLen; omega) (by omega) HB.out ?_; intro v' w1 hown1 hg1 hnil1 hblk1; have HX := yyh (yyi hown1 hg1); clear hown1 hg1 hnil1 hblk1))
 all_goals
  go_ret
  refine ⟨_, rfl, ?_, Fr.mono (Fr.grown HX.out.2) (fun k hk => by rw [zys a n _ n cap]; exact hk.symm)⟩
  unfold zbt
  rw [za9, ← zgh, List.length_append, HN.out]
  exact HX.out.1
theorem Fr.new {S : Nat → Prop} {W W' : World} {g : Nat} (f : Fr (fun k => k = g) W W') (hg : W.heap.size ≤ g) : Fr S W W' := ⟨f.os, f.tape, f.output, f.size, fun k hk hn => f.block k hk (fun e => by have e' : k = g := e; omega)⟩
theorem zzs {bs : List Bk} {x : Bk} {i : Nat} (hi : i < bs.length) : (bs.take i ++ [x] ++ bs.drop i).length = bs.length + 1 := by
 simp
 omega
theorem zi0 {W : World} {base : Nat} {v : Value} {bs : List Bk} {q : Nat} {x : Bk} (h : zbt W base v bs) (hb : base ≤ W.heap.size) (hx : W.heap[q]? = some (.cells (bkC x).toArray 222 (0, 0))) (hl : bs.length ≤ 1000) (i : Nat) (hi : i < bs.length) (hcap : ∀ a c, v = .slice a bs.length c → c = bs.length) : Calls Tryz.prog 236 #[v, .int .i64 i, .slice (some ⟨q, 0, none⟩) 1 1] W fun e w' => ∃ v', e = .returned v' ∧ zbt w' base v' (bs.take i ++ [x] ++ bs.drop i) ∧ Fr (fun k => v.ownBlock = some k) W w' := by
 obtain ⟨g, cap, rfl, hle, hmx, hbg, cur, hg, hsz, hF⟩ := zco h (by omega)
 obtain rfl := hcap _ _ rfl
 obtain ⟨i0, hi0, hz0, hz1, hz2⟩ := info_parts zgw
 obtain ⟨n, hn⟩ := yye (bs.length)
 unfold zbt at h
 have HN := yyh hn
 rw [hn] at h hl hle hi hsz hmx ⊢
 obtain ⟨m, hm⟩ := yye (n + 1 - i)
 have him : i + m = n + 1 := by omega
 have hold : (Builtin.firstCells i0.size i (.slice (some ⟨g, 0, none⟩) i n)).run Tryz.prog W.drew = .ok (zau (bs.take i)).toArray W.drew := by
  rw [hz1]
  exact run_firstCells_some W.drew 2 i ⟨g, 0, none⟩ i n (zau (bs.take i)) (by rw [za4, List.length_take]; omega) (fun j u hj => by
   have hj2 : j < i * 2 := by
    have := (yyk.1 hj).1
    rw [za4, List.length_take] at this
    omega
   rw [← zcf, List.getElem?_take, if_pos hj2] at hj
   have h1 := h.cellAt j (by omega)
   rw [hj] at h1
   rw [show (⟨g, 0, none⟩ : Addr).add j = ⟨g, j, none⟩ from by simp [Addr.add]; intro h; exact h.symm]
   exact h1)
 have hrz := Lib.run_append_grow_zeros (P := Tryz.prog) W 218 3 218 222 i0 zBl .i64 .i64 Tryz.underlying218 Tryz.underlying3 hi0 hz0 (some ⟨g, 0, none⟩) i n (zau (bs.take i)) hold m (by omega) (by rw [hz1]; decide) (by omega) (by omega) (by rw [hz2]; omega) (by rw [hz2]; exact growslice_fits (by omega) (by omega))
 rw [him] at hrz
 have hge := grownCap_ge W (n + 1) n 222
 have hmx2 := grownCap_le_maxLen W (n + 1) n 222 (by unfold maxLen; omega)
 generalize hG : grownCap W (n + 1) n 222 = G at hrz hge hmx2
 have hGz : (G : Int) ≤ 9223372036854775807 := by unfold maxLen at hmx2; omega
 obtain ⟨ROW, hROW⟩ : ∃ ROW : Array Value, ROW = (zau (bs.take i)).toArray ++ Builtin.zeroCells zBl.cells m ++ Builtin.zeroCells zBl.cells (G - (n + 1)) := ⟨_, rfl⟩
 have hRs : ROW.size = G * 2 := by
  rw [hROW, Array.size_append, Array.size_append, size_zeroCells, size_zeroCells]
  simp [za4, zBl, Value.cells]
  omega
 have hRt : ROW.toList.take (i * 2) = zau (bs.take i) := by
  rw [hROW]
  have : (zau (bs.take i)).length = i * 2 := by rw [za4, List.length_take]; omega
  simp [← this]
 rw [← hROW] at hrz
 clear hROW hG
 obtain ⟨W1, hW1⟩ := yye (W.drew.alloc (.cells ROW 222))
 obtain ⟨g1, hg1⟩ := yye (W.heap.size)
 have hB1 : Below W.heap.size W W1 := by rw [← hW1]; exact zab (zaf yyr) _
 have hk1 : W1.heap[g1]? = some (.cells ROW 222 (0, 0)) := by rw [← hW1, ← hg1]; exact heap_alloc_new W.drew _
 have hO1 : W1.ownsRow base 222 2 (.slice (some ⟨g1, 0, none⟩) (n + 1) G) (n + 1) (ROW.toList.take ((n + 1) * 2)) := by
  refine ⟨?_, .inr ⟨g1, G, ROW, rfl, by omega, hk1, hge, hmx2, hRs, rfl⟩⟩
  rw [List.length_take, Array.length_toList, hRs]
  omega
 have hg1q : W1.heap[q]? = some (.cells (bkC x).toArray 222 (0, 0)) := (hB1.block q (zac hx)).trans hx
 have hbl : (bkC x).length = 2 := rfl
 obtain ⟨w1, hr1, ho1, hF1⟩ := zei hO1 3 i m (G - i) ⟨q, 0, none⟩ 1 1 (bkC x) (by rw [show Nat.min 1 m = 1 from Nat.min_eq_left (by omega)]; rfl) (by rw [hbl]; omega) (zfa hg1q) (zc4 x)
 have hcs : (zau (bs.drop i)).length = (n - i) * 2 := by rw [za4, List.length_drop, HN.out]
 have hOg : w1.ownsRow base 222 2 (.slice (some ⟨g, 0, none⟩) n n) n (zau bs) := zcv (zb3 h hB1) hF1 (fun c hc e => by cases hc; have e' : g = g1 := e; have := zac hg; omega)
 obtain ⟨w2, hr2, ho2, hF2⟩ := zei ho1.drew 3 (i + 1) (n - i) (G - (i + 1)) ⟨g, i * 2, none⟩ (n - i) (n - i) (zau (bs.drop i)) (by rw [show Nat.min (n - i) (n - i) = n - i from Nat.min_self _]; exact hcs) (by rw [hcs]; omega) (fun j u hu => by
  have hj : j < (n - i) * 2 := by rw [← hcs]; exact (yyk.1 hu).1
  rw [show (⟨g, i * 2, none⟩ : Addr).add j = ⟨g, i * 2 + j, none⟩ from by simp [Addr.add]]
  have h1 := hOg.drew.cellAt (i * 2 + j) (by omega)
  rw [← List.getElem?_drop, zcj, hu] at h1
  exact h1) (zc5 _)
 have hfin : w2.ownsRow base 222 2 (.slice (some ⟨g1, 0, none⟩) (n + 1) G) (n + 1) (zau (bs.take i ++ [x] ++ bs.drop i)) := by
  have e : zau (bs.take i ++ [x] ++ bs.drop i) = ((ROW.toList.take ((n + 1) * 2)).take (i * 2) ++ bkC x ++ (ROW.toList.take ((n + 1) * 2)).drop (i * 2 + (bkC x).length)).take ((i + 1) * 2) ++ zau (bs.drop i) ++ ((ROW.toList.take ((n + 1) * 2)).take (i * 2) ++ bkC x ++ (ROW.toList.take ((n + 1) * 2)).drop (i * 2 + (bkC x).length)).drop ((i + 1) * 2 + (zau (bs.drop i)).length) := by
   have e1 : (ROW.toList.take ((n + 1) * 2)).take (i * 2) = zau (bs.take i) := by rw [List.take_take, Nat.min_eq_left (by omega), hRt]
   have e2 : (zau (bs.take i)).length = i * 2 := by rw [za4, List.length_take, HN.out]; omega
   have e3 : (zau (bs.take i) ++ bkC x).length = (i + 1) * 2 := by rw [List.length_append, e2, hbl]; omega
   have e4 : (ROW.toList.take ((n + 1) * 2)).length = (n + 1) * 2 := by rw [List.length_take, Array.length_toList, hRs]; omega
   have e6 : ∀ R : List Value, (zau (bs.take i) ++ bkC x ++ R).take ((i + 1) * 2) = zau (bs.take i) ++ bkC x := fun R => List.take_left' e3
   have e7 : (zau (bs.take i) ++ bkC x ++ (ROW.toList.take ((n + 1) * 2)).drop (i * 2 + (bkC x).length)).drop ((i + 1) * 2 + (zau (bs.drop i)).length) = [] := List.drop_of_length_le (by rw [List.length_append, e3, List.length_drop, e4, hcs, hbl]; omega)
   rw [e1, e6, e7, List.append_nil, za9, za9, ← zgh]
  rw [e]
  exact ho2
 have hlen := zzs (x := x) (bs := bs) (i := i) (by rw [HN.out]; exact hi)
 rw [HN.out] at hlen
 have HX := yyh (yyi hfin (yyi hlen (yyi hF1 (yyi hF2 hB1))))
 have hw1 : IntKind.i64.wrap ((i : Int) + 1) = (i : Int) + 1 := by rw [IntKind.wrap_i64]; omega
 have hw2 : IntKind.i64.wrap ((n : Int) + 1) = (n : Int) + 1 := by rw [IntKind.wrap_i64]; omega
 have hw3 : IntKind.i64.wrap ((n : Int) + 1 - (i : Int)) = (m : Int) := by rw [IntKind.wrap_i64]; omega
 have hb1 : (0 : Int) ≤ (i : Int) + 1 := by omega
 have hz1' : ((1 : Int) == 0) = false := rfl
 have hz2' : ((i : Int) == (n : Int)) = false := by rw [beq_eq_false_iff_ne]; omega
 have hz3 : decide ((n : Int) + 1 > (n : Int)) = true := by rw [decide_eq_true_eq]; omega
 have hin : i ≤ n := by omega
 have hin2 : (i : Int) ≤ (n : Int) := by omega
 have hGi : ¬ G = i := by omega
 have hGi1 : ¬ G = i + 1 := by omega
 have hni : ¬ n = i := by omega
 have hs1 : n + 1 - i = m := hm
 have hs2 : n + 1 - (i + 1) = n - i := by omega
 have hmin : Nat.min (n - i) (n - i) = n - i := Nat.min_self _
 have hmin1 : Nat.min 1 m = 1 := Nat.min_eq_left (by omega)
 have hlt : i ≤ n + 1 := by omega
 have hlt1 : i + 1 ≤ n + 1 := by omega
 have hlt2 : (i : Int) + 1 ≤ (n : Int) + 1 := by omega
 clear h hx hn hold hfin hlen hF1 hF2 hB1 ho1 ho2 hOg hO1 hk1 hg1q hcs hRs hRt hmx2 hF hcap hg hsz
 go_enter Tryz.func236, Tryz.ntmps236
 go_upto_region 9 with fail
 go_wp2_with (at_builtin; go_loud (refine Lib.wpList_append_run _ rfl (.tmp 34) (.tmp 39) 218 3 rfl (.slice (some ⟨g, 0, none⟩) i n) (.int .i64 m) rfl rfl _ _ hrz ?_))
 refine wp_region_still_tail 8 (by kernel_rfl) (by kernel_rfl) ?_
 simp only [List.take_succ_cons, List.take_zero, List.drop_succ_cons, List.drop_zero]
 iterate 8 still_step
 refine wpStill_nil ?_
 change wpList _ _ _ _ _ w1.drew
 go_wp2_with fail
 go_ret
 obtain ⟨hfin, hlen, hF1, hF2, hB1⟩ := HX.out
 refine ⟨_, rfl, ?_, ?_⟩
 · unfold zbt
   rw [hlen]
   exact hfin
 · exact Fr.new ((((Fr.of_below hB1).trans hF1).dr).trans hF2) (by omega)
theorem zi1 {W : World} {base : Nat} {v : Value} {bs : List Bk} {q : Nat} {x : Bk} (h : zbt W base v bs) (hx : W.heap[q]? = some (.cells (bkC x).toArray 222 (0, 0))) (hq : v.ownBlock ≠ some q) (hl : bs.length ≤ 1000) (i : Nat) (hi : i < bs.length) (hcap : ∃ a c, v = .slice a bs.length c ∧ bs.length + 1 ≤ c) : Calls Tryz.prog 236 #[v, .int .i64 i, .slice (some ⟨q, 0, none⟩) 1 1] W fun e w' => ∃ v', e = .returned v' ∧ zbt w' base v' (bs.take i ++ [x] ++ bs.drop i) ∧ Fr (fun k => v.ownBlock = some k) W w' := by
 obtain ⟨g, cap, rfl, hle, hmx, hbg, cur, hg, hsz, hF⟩ := zco h (by omega)
 have hroom : bs.length + 1 ≤ cap := by
  obtain ⟨a, c, e, h1⟩ := hcap
  injection e with e1 e2 e3
  omega
 have hgq : g ≠ q := fun e => hq (by rw [← e]; rfl)
 have hmz : (cap : Int) ≤ 9223372036854775807 := by unfold maxLen at hmx; omega
 obtain ⟨n, hn⟩ := yye (bs.length)
 unfold zbt at h
 have HN := yyh hn
 rw [hn] at h hl hle hi hroom hF ⊢
 have hct : cur.toList.take (i * 2) = zau (bs.take i) := by
  rw [← zcf, ← hF, List.take_take, Nat.min_eq_left (by omega)]
 have hO1 : W.ownsRow base 222 2 (.slice (some ⟨g, 0, none⟩) (n + 1) cap) (n + 1) (cur.toList.take ((n + 1) * 2)) := by
  refine ⟨?_, .inr ⟨g, cap, cur, rfl, hbg, hg, hroom, hmx, hsz, rfl⟩⟩
  rw [List.length_take, Array.length_toList, hsz]
  omega
 have hbl : (bkC x).length = 2 := rfl
 have hcs : (zau (bs.drop i)).length = (n - i) * 2 := by rw [za4, List.length_drop, HN.out]
 obtain ⟨w1, hr1, ho1, hF1⟩ := zei hO1.drew 3 (i + 1) (n - i) (cap - (i + 1)) ⟨g, i * 2, none⟩ (n + 1 - i) (cap - i) (zau (bs.drop i)) (by rw [show Nat.min (n + 1 - i) (n - i) = n - i from Nat.min_eq_right (by omega)]; exact hcs) (by rw [hcs]; omega) (fun j u hu => by
  have hj : j < (n - i) * 2 := by rw [← hcs]; exact (yyk.1 hu).1
  rw [show (⟨g, i * 2, none⟩ : Addr).add j = ⟨g, i * 2 + j, none⟩ from by simp [Addr.add]]
  have h1 := h.drew.cellAt (i * 2 + j) (by omega)
  rw [← List.getElem?_drop, zcj, hu] at h1
  exact h1) (zc5 _)
 have hx1 : w1.heap[q]? = some (.cells (bkC x).toArray 222 (0, 0)) := (hF1.block q (zac hx) (fun e => hgq e.symm)).trans hx
 obtain ⟨w2, hr2, ho2, hF2⟩ := zei ho1 3 i (n + 1 - i) (cap - i) ⟨q, 0, none⟩ 1 1 (bkC x) (by rw [show Nat.min 1 (n + 1 - i) = 1 from Nat.min_eq_left (by omega)]; rfl) (by rw [hbl]; omega) (zfa hx1) (zc4 x)
 have hfin : w2.ownsRow base 222 2 (.slice (some ⟨g, 0, none⟩) (n + 1) cap) (n + 1) (zau (bs.take i ++ [x] ++ bs.drop i)) := by
  obtain ⟨L, hL⟩ := yye (cur.toList.take ((n + 1) * 2))
  have hLl : L.length = (n + 1) * 2 := by rw [← hL, List.length_take, Array.length_toList, hsz]; omega
  have hLt : L.take (i * 2) = zau (bs.take i) := by rw [← hL, List.take_take, Nat.min_eq_left (by omega), hct]
  rw [hL] at ho2
  have e2 : (L.take ((i + 1) * 2)).length = (i + 1) * 2 := by rw [List.length_take, hLl]; omega
  have e7 : L.drop ((i + 1) * 2 + (zau (bs.drop i)).length) = [] := List.drop_of_length_le (by rw [hLl, hcs]; omega)
  have e3 : (L.take ((i + 1) * 2) ++ zau (bs.drop i)).take (i * 2) = zau (bs.take i) := by
   rw [List.take_append_of_le_length (by rw [e2]; omega), List.take_take, Nat.min_eq_left (by omega), hLt]
  have e4 : (L.take ((i + 1) * 2) ++ zau (bs.drop i)).drop (i * 2 + (bkC x).length) = zau (bs.drop i) := by
   rw [hbl, show i * 2 + 2 = (i + 1) * 2 from by omega]
   exact List.drop_left' e2
  rw [e7, List.append_nil, e3, e4] at ho2
  rw [za9, za9, ← zgh]
  exact ho2
 have hlen := zzs (x := x) (bs := bs) (i := i) (by rw [HN.out]; exact hi)
 rw [HN.out] at hlen
 have HX := yyh (yyi hfin (yyi hlen (yyi hF1 hF2)))
 have hov : ∀ lb cb, (callFunc 278 #[.slice (some ⟨q, 0, none⟩) 1 1, .slice (some ⟨g, (i + 1) * 2, none⟩) lb cb]).run Tryz.prog W = .ok (.value (.bool false)) W := fun lb cb => by
  rw [run_callFunc_extern Tryz.func278 (by kernel_rfl) (by kernel_rfl) (by kernel_rfl) (e := Extern.SlicesOverlaps.overlaps #[218, 218] #[4]) (by kernel_rfl),
   Lib.run_overlaps_apart W 218 4 222 Tryz.underlying218 2 (fun w => by kernel_rfl) ⟨q, 0, none⟩ ⟨g, (i + 1) * 2, none⟩ 1 1 lb cb (fun e => hgq e.symm) 222 222 2 (cap * 2) (by simp [World.shape?, hx, bkC]) (by simp [World.shape?, hg, hsz]) (by omega) (by simp [World.frozen?, hx]) (by simp [World.frozen?, hx])]
  rfl
 have hw1 : IntKind.i64.wrap ((i : Int) + 1) = (i : Int) + 1 := by rw [IntKind.wrap_i64]; omega
 have hw2 : IntKind.i64.wrap ((n : Int) + 1) = (n : Int) + 1 := by rw [IntKind.wrap_i64]; omega
 have hb1 : (0 : Int) ≤ (i : Int) + 1 := by omega
 have hb2 : (0 : Int) ≤ (n : Int) + 1 := by omega
 have hz1' : ((1 : Int) == 0) = false := rfl
 have hz2' : ((i : Int) == (n : Int)) = false := by rw [beq_eq_false_iff_ne]; omega
 have hz3 : decide ((n : Int) + 1 > (cap : Int)) = false := by rw [decide_eq_false_iff_not]; omega
 have hin : i ≤ n := by omega
 have hin2 : (i : Int) ≤ (n : Int) := by omega
 have hGi : ¬ cap = i := by omega
 have hGi1 : ¬ cap = i + 1 := by omega
 have hs2 : n + 1 - (i + 1) = n - i := by omega
 have hmin : Nat.min (n + 1 - i) (n - i) = n - i := Nat.min_eq_right (by omega)
 have hmin1 : Nat.min 1 (n + 1 - i) = 1 := Nat.min_eq_left (by omega)
 have hlt : i ≤ n + 1 := by omega
 have hlt1 : i + 1 ≤ n + 1 := by omega
 have hlt2 : (i : Int) + 1 ≤ (n : Int) + 1 := by omega
 have hlt3 : (n : Int) + 1 ≤ (cap : Int) := by omega
 have hlt4 : (i : Int) ≤ (n : Int) + 1 := by omega
 clear h hx hn hfin hlen hF1 hF2 ho1 ho2 hO1 hcs hF hcap hg hsz hx1 hq hct
 go_enter Tryz.func236, Tryz.ntmps236
 go_upto_region 15 with fail
 refine wp_region_still_tail 8 (by kernel_rfl) (by kernel_rfl) ?_
 simp only [List.take_succ_cons, List.take_zero, List.drop_succ_cons, List.drop_zero]
 iterate 8 still_step
 refine wpStill_nil ?_
 change wpList _ _ _ _ _ W.drew
 go_wp2_with fail
 go_ret
 obtain ⟨hfin, hlen, hF1, hF2⟩ := HX.out
 refine ⟨_, rfl, ?_, ?_⟩
 · unfold zbt
   rw [hlen]
   exact hfin
 · exact Fr.mono ((((Fr.refl _ W).dr.trans hF1)).trans hF2) (fun k hk => by rw [hk]; rfl)
theorem zry {W : World} {base : Nat} {v : Value} {bs : List Bk} {q : Nat} {x : Bk} (h : zbt W base v bs) (hb : base ≤ W.heap.size) (hx : W.heap[q]? = some (.cells (bkC x).toArray 222 (0, 0))) (hq : v.ownBlock ≠ some q) (hl : bs.length ≤ 1000) (i : Nat) (hi : i ≤ bs.length) : Calls Tryz.prog 236 #[v, .int .i64 i, .slice (some ⟨q, 0, none⟩) 1 1] W fun e w' => ∃ v', e = .returned v' ∧ zbt w' base v' (bs.take i ++ [x] ++ bs.drop i) ∧ Fr (fun k => v.ownBlock = some k) W w' := by
 by_cases he : i = bs.length
 ·
  subst he
  have := zka h hb hx hl
  rw [List.take_length, List.drop_length, List.append_nil]
  exact this
 ·
  obtain ⟨a, cap, hv, hle, -, -, -⟩ := SlV.clip (SlV.of_owns h)
  by_cases hc : bs.length + 1 ≤ cap
  · exact zi1 h hx hq hl i (by omega) ⟨a, cap, hv, hc⟩
  · exact zi0 h hb hx hl i (by omega) (fun a' c' e => by rw [hv] at e; injection e with e1 e2 e3; omega)
end Go.Proofs.YtcfhkbcllijnkaaGreat
