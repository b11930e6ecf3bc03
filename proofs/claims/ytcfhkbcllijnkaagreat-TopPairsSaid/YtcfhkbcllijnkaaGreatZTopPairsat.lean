/- Contracts and plain laws that the proof of TopPairs goes by, under no condition. -/
import Derived.Test.YtcfhkbcllijnkaaGreatZTopPairsaq
import Derived.Test.YtcfhkbcllijnkaaGreatZTopPairsam
set_option linter.unusedVariables false
set_option linter.unusedSimpArgs false
set_option maxRecDepth 100000
set_option maxHeartbeats 40000000
namespace Go.Proofs.YtcfhkbcllijnkaaGreat
open Go.RowKit
theorem BShrink {W : World} {v : Value} {l : List En} {q : Int} (hl : l.length ≤ NB) (h : EsAt W v l) (p : Int → Bool) (g : Nat) (lb : Array Value) (eg : ∀ args w, (callFunc g args).run Tryz.prog w = .ok (.enter g args) w)
 (hp : ∀ (X : World) (x : Int), Below W.heap.size W X → Calls Tryz.prog g (#[.int .i64 x] ++ lb) X fun e w' => e = .returned (.bool (p x)) ∧ Below X.heap.size X w') :
 Calls Tryz.prog 252 #[.agg #[.int .i64 q, v], .func (.func g) #[] lb] W fun e w' => ∃ v', e = .returned (bkV (l.filter fun e => !p e.id).length v') ∧ EsAt w' v' (sortE (l.filter fun e => !p e.id)) ∧ (∀ c, v'.ownBlock = some c → W.heap.size ≤ c) ∧ Below W.heap.size W w' := by
 obtain ⟨a, k, rfl, hk, hkm, hna, -⟩ := SlV.clip h
 have hm : (k : Int) ≤ 9223372036854775807 := by unfold maxLen at hkm; omega
 have he : ∀ w, (binOp .eql 72 (.func (.func g) #[] lb) .nilFunc).run Tryz.prog w = .ok (.bool false) w := fun _ => by kernel_rfl
 obtain ⟨n, hn⟩ : ∃ n, l.length = n := ⟨_, rfl⟩
 obtain ⟨b, hb⟩ : ∃ b, W.heap.size = b := ⟨_, rfl⟩
 obtain ⟨W2, hW2⟩ : ∃ W2, (W.alloc (.cells #[.int .i64 q, .slice a l.length k] 222)).alloc (.cells #[.int .i64 0, .slice none 0 0] 222) = W2 := ⟨_, rfl⟩
 have hB2 : Below W.heap.size W W2 := by rw [← hW2]; exact below_al (below_al (Below.refl _ _) _) _
 have k0 : W2.heap[b]? = some (.cells #[.int .i64 q, .slice a l.length k] 222 (0, 0)) := by rw [← hW2, ← hb]; exact alloc_old (heap_alloc_new W _)
 have k1 : W2.heap[b + 1]? = some (.cells #[.int .i64 0, .slice none 0 0] 222 (0, 0)) := by rw [← hW2, ← hb]; exact alloc_at (by simp)
 obtain ⟨-, c1, -, -⟩ := cells2 k0
 have hs2 : W2.heap.size = b + 1 + 1 := by rw [← hW2, ← hb]; simp
 have HK := Lib.hid k1
 have HE := Lib.hid (EsAt.below h hB2)
 have HB2 := Lib.hid (And.intro hB2 hs2)
 have HP := Lib.hid hp
 have HN := Lib.hid hn
 have HBB := Lib.hid hb
 rw [hn] at c1 hW2 hk HE ⊢
 rw [hn] at hl
 have HL := Lib.hid hl
 have HNA := Lib.hid hna
 clear h hB2 k0 k1 hs2 hp hn hna
 go_enter Tryz.func252, Tryz.ntmps252
 rw [hb]
 go_upto_region 1 with fail
 clear hW2 hb
 go_wp2_with fail
 go_loopg [5, 11] n (fun gg v5 v11 wr => ∃ i : Nat, i ≤ n ∧ gg = n - i ∧ v11 = .int .i64 i ∧ Aside (EnOwn wr W2.heap.size v5 ((l.take i).filter fun e => !p e.id) ∧ Below W2.heap.size W2 wr))
 case atStart => exact ⟨0, by omega, by omega, rfl, (show Aside _ from ⟨by simpa using EnOwn.nil W2 W2.heap.size, Below.refl _ _⟩)⟩
 case round =>
  obtain ⟨i, hi, rfl, rfl, A⟩ := hrel
  obtain ⟨hO, hB⟩ := A.out
  clear A
  by_cases hlt : i < n
  ·
   have hil : i < l.length := by rw [HN.out]; exact hlt
   obtain ⟨x, hx⟩ : ∃ x, l[i]? = some x := ⟨_, List.getElem?_eq_getElem hil⟩
   obtain ⟨xb, xo, rfl⟩ : ∃ xb xo, a = some ⟨xb, xo, none⟩ := by
    rcases SlV.form HE.out with ⟨e, _⟩ | ⟨b', o', c', e, _⟩
    · injection e with e1 e2
      have := HN.out
      omega
    · injection e with e1; exact ⟨_, _, e1⟩
   obtain ⟨d0, d1⟩ := EsAt.at (EsAt.below HE.out hB) i x hx
   have htake : (l.take (i + 1)).filter (fun e => !p e.id) = ((l.take i).filter fun e => !p e.id) ++ (if p x.id then [] else [x]) := by
    rw [List.take_add_one, hx, List.filter_append]
    cases hpx : p x.id <;> simp [hpx]
   have hcall := HP.out (wr.alloc (.cells #[.int .u64 x.key, .int .i64 x.id] 63)) x.id (below_al (below_step hB HB2.out.1) _)
   generalize hq : p x.id = qq at hcall htake
   have HT := Lib.hid htake
   have HCL := Lib.hid hcall
   have HOB := Lib.hid (And.intro hO hB)
   have hlen1 : ((l.take i).filter fun e => !p e.id).length ≤ n := Nat.le_trans (List.length_filter_le _ _) (by rw [List.length_take]; omega)
   have HL1 := Lib.hid hlen1
   clear htake hcall hO hB hq hlen1
   cases qq with
   | true =>
    go_wp2_with (go_at_fn g; refine HCL.out.mono ?_; rintro e w' ⟨rfl, hb'⟩; have HB' := Lib.hid hb'; clear hb')
    go_roundg (n - (i + 1))
    case measure => omega
    case rel =>
     have hb1 : Below wr.heap.size wr _ := below_step HB'.out (below_al (Below.refl _ _) _)
     exact ⟨i + 1, by omega, rfl, by go_num, (show Aside _ from ⟨by rw [HT.out]; simpa using EnOwn.below HOB.out.1 hb1, below_step hb1 HOB.out.2⟩)⟩
   | false =>
    have hcell : ∀ w3, Below (wr.alloc (.cells #[.int .u64 x.key, .int .i64 x.id] 63)).heap.size (wr.alloc (.cells #[.int .u64 x.key, .int .i64 x.id] 63)) w3 → w3.cell? ⟨wr.heap.size, 0, none⟩ = some (.int .u64 x.key) ∧ w3.cell? ⟨wr.heap.size, 1, none⟩ = some (.int .i64 x.id) := fun w3 h3 => ⟨cell_goes h3 (cell_new wr _ _ 0), cell_goes h3 (cell_new wr _ _ 1)⟩
    have HCE := Lib.hid hcell
    clear hcell
    go_wp2_with (first
     | (go_at_fn g; refine HCL.out.mono ?_; rintro e w3 ⟨rfl, hb'⟩; obtain ⟨y0, y1⟩ := HCE.out _ hb'; have hb1 : Below wr.heap.size wr w3 := below_step hb' (below_al (Below.refl _ _) _); have hb2 : Below wr.heap.size wr (w3.alloc (.cells #[.int .u64 x.key, .int .i64 x.id] 63)) := below_al hb1 _; have HO3 := Lib.hid (EnOwn.below HOB.out.1 hb2); have HB3 := Lib.hid (And.intro hb2 (below_step hb2 HOB.out.2)); have HONE := Lib.hid (EsAt.one w3 x _ rfl); clear hb' hb1 hb2)
     | (at_builtin; go_loud (refine wpList_append_En rfl (.tmp 24) (.tmp 26) rfl W2.heap.size _ _ rfl HO3.out _ [x] rfl HONE.out (by have := HL1.out; have := HL.out; unfold NB at this; simp; omega) HB3.out.2.size ?_; intro v4 w4 hO4 hg4; have hB4 := below_grown HB3.out.2 HO3.out.ge hg4; have HX := Lib.hid (And.intro hO4 hB4); clear hO4 hB4 hg4)))
    go_roundg (n - (i + 1))
    case measure => omega
    case rel => exact ⟨i + 1, by omega, rfl, by go_num, (show Aside _ from ⟨by rw [HT.out]; simpa using HX.out.1, HX.out.2⟩)⟩
  ·
   obtain rfl : i = n := by omega
   rw [show l.take i = l from List.take_of_length_le (by rw [HN.out]; exact Nat.le_refl _)] at hO
   obtain ⟨m, hm2⟩ : ∃ m, (l.filter fun e => !p e.id).length = m := ⟨_, rfl⟩
   have hmn : m ≤ NB := by rw [← hm2]; exact Nat.le_trans (List.length_filter_le _ _) (by rw [HN.out]; exact HL.out)
   have hOf := BOf (W := wr) (v := u5) (l := l.filter fun e => !p e.id) (by rw [hm2]; exact hmn) hO.es
   obtain ⟨a5, k5, h5, -⟩ := EnOwn.len hO
   rw [hm2] at hOf h5
   subst h5
   unfold bkV at hOf
   have HOF := Lib.hid hOf
   have HB := Lib.hid hB
   have HM := Lib.hid hm2
   clear hO hB hOf hm2 hmn
   go_wp2_with fail
   refine HOF.out.mono ?_
   rintro e w2 ⟨v3, rfl, hE3, hge3, hB3⟩
   have hb2 : Below W2.heap.size W2 w2 := below_step hB3 HB.out
   obtain ⟨x0, x1, f0, f1⟩ := cells2 ((hb2.block _ (heap_lt HK.out)).trans HK.out)
   obtain ⟨a3, k3, rfl, -, -, -, -⟩ := SlV.clip hE3
   have hWw : Below W.heap.size W w2 := below_step hb2 HB2.out.1
   have hge : ∀ c, (Value.slice a3 (sortE (l.filter fun e => !p e.id)).length k3).ownBlock = some c → W.heap.size ≤ c ∧ c ≠ b + 1 := fun c hc => by
    have h1 := hge3 c hc
    have h2 := HB.out.size
    have h3 := HB2.out.2
    have h4 := HBB.out
    omega
   have HX := Lib.hid (And.intro hE3 (And.intro hge hWw))
   have hlen : (sortE (l.filter fun e => !p e.id)).length = m := by rw [sortE_length]; exact HM.out
   rw [hlen] at HX ⊢
   clear hE3 hge3 hB3 hb2 hWw hge hlen
   go_wp2_with fail
   refine bodyPost_ret (v := .agg #[.int .i64 (lvl m), .slice a3 m k3]) (by simp [results, Tryz.results252, go_sem, x0, x1]) rfl ?_
   obtain ⟨y1, y2, y3⟩ := HX.out
   have hbb := HBB.out
   refine ⟨.slice a3 m k3, by rw [HM.out]; rfl, ?_, fun c hc => hbb ▸ (y2 c hc).1, ?_⟩
   · exact EsAt.put (EsAt.put y1 _ 0 _ (fun c hc => (y2 c hc).2)) _ 1 _ (fun c hc => (y2 c hc).2)
   · rw [← hbb]
     exact below_set (below_set y3 _ _ _ (by omega)) _ _ _ (by omega)
end Go.Proofs.YtcfhkbcllijnkaaGreat
namespace Go.Proofs.YtcfhkbcllijnkaaGreat
open Go.RowKit Go.Sort
theorem flatK_flatB (l : List Bk) : (flatK bkC 2 l.toArray).toList = flatB l := by
 apply List.ext_getElem?
 intro t
 rcases Nat.lt_or_ge t (l.length * 2) with h | h
 ·
  have e : t = t / 2 * 2 + t % 2 := by omega
  have hd : t / 2 < l.length := by omega
  rw [show (flatB l)[t]? = (flatB l)[t / 2 * 2 + t % 2]? from by rw [← e], flatB_at l (t / 2) (t % 2) (by omega)]
  have hs : t < (flatK bkC 2 l.toArray).size := by simpa using h
  rw [Array.getElem?_toList, Array.getElem?_eq_getElem hs, ← getElem!_pos (flatK bkC 2 l.toArray) t hs, get_flatK bkC 2 l.toArray t (by simpa using h)]
  rw [List.getElem?_eq_getElem hd]
  have h2 : (l.toArray)[t / 2]! = l[t / 2] := by simp [hd]
  rw [h2]
  have hm : t % 2 < (bkC l[t / 2]).length := by show t % 2 < 2; omega
  simp only [Option.bind_some]
  rw [getElem!_pos (bkC l[t / 2]) (t % 2) hm, List.getElem?_eq_getElem hm]
 · rw [List.getElem?_eq_none (show (flatB l).length ≤ t from by rw [flatB_length]; exact h), List.getElem?_eq_none (by rw [Array.length_toList, size_flatK]; simpa using h)]
theorem holdsK_ofB {W : World} {g off : Nat} {cur : Array Value} {t : TypeId} {l : List Bk} (hg : W.heap[g]? = some (.cells cur t (0, 0))) (hc : ∀ j, j < l.length * 2 → cur[off + j]? = (flatB l)[j]?) : HoldsK bkC 2 W g off l.toArray := by
 intro j hj
 have hj2 : j < l.length * 2 := by simpa using hj
 constructor
 · have h := hc j hj2
   rw [← flatK_flatB l, Array.getElem?_toList, Array.getElem?_eq_getElem hj, ← getElem!_pos _ j hj] at h
   simp [World.cell?, hg, h]
 · simp [World.frozen?, hg]
theorem sortWorldB_block {W : World} {g off : Nat} {cur : Array Value} {t : TypeId} (hg : W.heap[g]? = some (.cells cur t (0, 0))) (m : Nat) (d : Array Bk) (os : Array Obj) : (sortWorldK bkC 2 W g off m d os).heap[g]? = some (.cells (putCells id off (flatK bkC 2 d) cur) t (0, 0)) := by
 unfold sortWorldK putRowK putRow
 show ((mapBlock (Sort.ahead W m) g _).heap ++ os)[g]? = _
 have hlt : g < (mapBlock (Sort.ahead W m) g (putCells id off (flatK bkC 2 d))).heap.size := by
  show g < (W.heap.modify g _).size
  rw [Array.size_modify]
  exact heap_lt hg
 rw [Array.getElem?_append_left hlt]
 show (W.heap.modify g _)[g]? = _
 rw [Array.getElem?_modify, if_pos rfl, hg]
 rfl
theorem sortWorldB_fr {W : World} {g off : Nat} (m : Nat) (d : Array Bk) (os : Array Obj) : Fr (fun k => k = g) W (sortWorldK bkC 2 W g off m d os) := by
 refine ⟨rfl, rfl, rfl, ?_, fun k hk hn => ?_⟩
 · show W.heap.size ≤ ((W.heap.modify g _) ++ os).size
   rw [Array.size_append, Array.size_modify]
   omega
 · show ((W.heap.modify g _) ++ os)[k]? = _
   rw [Array.getElem?_append_left (by rw [Array.size_modify]; exact hk), Array.getElem?_modify, if_neg (fun e => hn e.symm)]
theorem slV_sortedB {W : World} {b off cap : Nat} {l m : List Bk} (h : SlV W 222 2 (.slice (some ⟨b, off, none⟩) l.length cap) l.length (flatB l)) (hm : m.length = l.length) (n : Nat) (os : Array Obj) : SlV (sortWorldK bkC 2 W b off n m.toArray os) 222 2 (.slice (some ⟨b, off, none⟩) l.length cap) l.length (flatB m) := by
 refine ⟨by rw [flatB_length, hm], ?_⟩
 rcases h.2 with ⟨h1, _⟩ | ⟨b', off', cap', cur, e1, h1, h2, hg, h3⟩
 · cases h1
 ·
  injection e1 with e1 e2 e3
  injection e1 with e1
  injection e1 with e1 e4
  subst e1 e3 e4
  refine .inr ⟨b, off, cap, putCells id off (flatK bkC 2 m.toArray) cur, rfl, h1, h2, sortWorldB_block hg n m.toArray os, fun j hj => ?_⟩
  have hb : off + j < cur.size := by
   have := h3 j hj
   rw [List.getElem?_eq_getElem (show j < (flatB l).length from by rw [flatB_length]; exact hj)] at this
   exact (Array.getElem?_eq_some_iff.1 this).1
  rw [putCells_at (flatK bkC 2 m.toArray) off cur j (by rw [size_flatK]; simpa [hm] using hj) hb, flatK_flatB]
theorem owns_sortedB {W : World} {base b off cap : Nat} {cur : Array Value} {l m : List Bk} (hg : W.heap[b]? = some (.cells cur 222 (0, 0))) (h : W.ownsRow base 222 2 (.slice (some ⟨b, off, none⟩) l.length cap) l.length (flatB l)) (hm : m.length = l.length) (n : Nat) (os : Array Obj) : (sortWorldK bkC 2 W b off n m.toArray os).ownsRow base 222 2 (.slice (some ⟨b, off, none⟩) l.length cap) l.length (flatB m) := by
 refine ⟨by rw [flatB_length, hm], ?_⟩
 rcases h.2 with ⟨h1, _⟩ | ⟨g', cap', cur', e1, hb, hg', hle, hmx, hsz, hF⟩
 · cases h1
 ·
  injection e1 with e1 e2 e3
  injection e1 with e1
  injection e1 with e1 e4
  subst e1 e3 e4
  rw [hg] at hg'
  injection hg' with hg'
  injection hg' with hg' _ _
  subst hg'
  refine .inr ⟨b, cap, putCells id 0 (flatK bkC 2 m.toArray) cur, rfl, hb, sortWorldB_block hg n m.toArray os, hle, hmx, by rw [putCells_size, hsz], ?_⟩
  have hle2 : l.length * 2 ≤ cur.size := by rw [hsz]; exact Nat.mul_le_mul_right 2 hle
  apply List.ext_getElem?
  intro j
  rw [List.getElem?_take]
  split
  ·
   rename_i hj
   rw [Array.getElem?_toList]
   have := putCells_at (flatK bkC 2 m.toArray) 0 cur j (by simp; omega) (by omega)
   rw [Nat.zero_add] at this
   rw [this, flatK_flatB]
  · rename_i hj
    rw [List.getElem?_eq_none (by rw [flatB_length, hm]; omega)]
def cfB (a b : Bk) : Int := (lvl b.L.length : Int) - (lvl a.L.length : Int)
theorem swoB : SWO (ltOf cfB) where
 irrefl x := by simp [ltOf, cfB]
 trans x y z h k := by
  have h : cfB x y < 0 := of_decide_eq_true h
  have k : cfB y z < 0 := of_decide_eq_true k
  refine decide_eq_true (p := cfB x z < 0) ?_
  unfold cfB at *
  omega
 ntrans x y z h k := by
  have h : ¬ cfB x y < 0 := of_decide_eq_false h
  have k : ¬ cfB y z < 0 := of_decide_eq_false k
  refine decide_eq_false (p := cfB x z < 0) ?_
  unfold cfB at *
  omega
theorem merge1_any (a b : Bk) (w : World) : Calls Tryz.prog 270 #[.agg (bkC a).toArray, .agg (bkC b).toArray] w fun e w' => e = .returned (.int .i64 (cfB a b)) ∧ Gr w w' := by
 have h1 := lvl_le a.L.length
 have h2 := lvl_le b.L.length
 show Calls Tryz.prog _ #[.agg #[.int .i64 (lvl a.L.length), .slice a.a a.L.length a.k], .agg #[.int .i64 (lvl b.L.length), .slice b.a b.L.length b.k]] w _
 unfold cfB
 generalize lvl a.L.length = p at *
 generalize lvl b.L.length = q at *
 go_enter Tryz.func270, Tryz.ntmps270
 go_wp2_with fail
 go_ret
 exact ⟨by go_num, ((Gr.refl w).al _).al _⟩
theorem merge2_any (a b : Bk) (w : World) : Calls Tryz.prog 272 #[.agg (bkC a).toArray, .agg (bkC b).toArray] w fun e w' => e = .returned (.int .i64 (cfB a b)) ∧ Gr w w' := by
 have h1 := lvl_le a.L.length
 have h2 := lvl_le b.L.length
 show Calls Tryz.prog _ #[.agg #[.int .i64 (lvl a.L.length), .slice a.a a.L.length a.k], .agg #[.int .i64 (lvl b.L.length), .slice b.a b.L.length b.k]] w _
 unfold cfB
 generalize lvl a.L.length = p at *
 generalize lvl b.L.length = q at *
 go_enter Tryz.func272, Tryz.ntmps272
 go_wp2_with fail
 go_ret
 exact ⟨by go_num, ((Gr.refl w).al _).al _⟩
theorem bkC_one (x : Bk) : ∀ v ∈ bkC x, v.oneCell' = true := by
 intro v hv
 simp [bkC, Bk.v] at hv
 rcases hv with rfl | rfl <;> rfl
theorem insertion_permB (l : List Bk) : (Sort.insertionSort (ltOf cfB) l.toArray 0 l.length).toList.Perm l := by
 obtain ⟨hp, hs⟩ := insertionSort_holds swoB l.toArray 0 l.length (Nat.zero_le _) (by simp)
 have hsz : (Sort.insertionSort (ltOf cfB) l.toArray 0 l.length).size = l.length := by rw [hp.1]; simp
 have h := hp.2.2
 generalize Sort.insertionSort (ltOf cfB) l.toArray 0 l.length = X at h hsz
 have hx : X.extract 0 l.length = X := by rw [← hsz]; exact Array.extract_size
 rw [hx] at h
 simpa using h
theorem insNilB (f : Value) (W : World) : Calls Tryz.prog 298 #[.slice none 0 0, .int .i64 0, .int .i64 0, f] W fun e w' => e = .returned (.tuple #[]) ∧ w' = W := by
 go_enter Tryz.func298, Tryz.ntmps298
 go_wp2_with fail
 refine wp_loop_rounds 1 ?_
 rw [rounds_succ]
 go_wp2_with fail
 go_end0
 exact ⟨rfl, rfl⟩
section
variable (g : Nat) (eg : ∀ args w, (callFunc g args).run Tryz.prog w = .ok (.enter g args) w) (hcmp : ∀ (x y : Bk) (w : World), Calls Tryz.prog g #[.agg (bkC x).toArray, .agg (bkC y).toArray] w fun e w' => e = .returned (.int .i64 (cfB x y)) ∧ Gr w w')
include eg hcmp
theorem insOwnB {W : World} {v : Value} {l : List Bk} (hl : l.length ≤ 100000) (h : SlV W 222 2 v l.length (flatB l)) : Calls Tryz.prog 298 #[v, .int .i64 0, .int .i64 l.length, .func (.func g) #[] #[]] W fun e w' => e = .returned (.tuple #[]) ∧ ∃ m, m.Perm l ∧ SlV w' 222 2 v l.length (flatB m) ∧ (∀ base, W.ownsRow base 222 2 v l.length (flatB l) → w'.ownsRow base 222 2 v l.length (flatB m)) ∧ Fr (fun k => v.ownBlock = some k) W w' := by
 rcases h.2 with ⟨rfl, h0⟩ | ⟨b, off, cap, cur, rfl, h1, h2, hg, h3⟩
 ·
  have : l = [] := List.eq_nil_of_length_eq_zero h0
  subst this
  refine (insNilB _ W).mono ?_
  rintro e w' ⟨rfl, rfl⟩
  exact ⟨rfl, [], List.Perm.refl _, h, fun _ h => h, Fr.refl _ _⟩
 ·
  have hH : HoldsK bkC 2 W b off l.toArray := holdsK_ofB hg h3
  have key := AnyQ.insertionSortCmpFunc Tryz.sortBl 2 Tryz.isAgg222 Tryz.sizeOf222 bkC (fun _ => rfl) bkC_one cfB g #[] b off cap 0 l.length l.toArray W eg (fun _ _ _ _ x y => hcmp x y _) hH (heap_lt hg) (Nat.zero_le _) (by simp) (by simp; omega)
  change Calls Tryz.prog 298 _ _ _ at key
  have hsl : (l.toArray).size = l.length := by simp
  rw [hsl] at key
  refine key.mono ?_
  rintro e w' ⟨rfl, n, os, rfl⟩
  obtain ⟨m, hm⟩ : ∃ m : List Bk, Sort.insertionSort (ltOf cfB) l.toArray 0 l.length = m.toArray := ⟨(Sort.insertionSort (ltOf cfB) l.toArray 0 l.length).toList, by simp⟩
  have hp := insertion_permB l
  rw [hm] at hp ⊢
  have hp : m.Perm l := by simpa using hp
  exact ⟨rfl, m, hp, slV_sortedB h hp.length_eq n os, fun base ho => owns_sortedB hg ho hp.length_eq n os, (sortWorldB_fr n _ os).mono (fun k hk => by subst hk; rfl)⟩
theorem stableOwnB {W : World} {v : Value} {l : List Bk} (hl : l.length ≤ 19) (h : SlV W 222 2 v l.length (flatB l)) : Calls Tryz.prog 288 #[v, .int .i64 l.length, .func (.func g) #[] #[]] W fun e w' => e = .returned (.tuple #[]) ∧ ∃ m, m.Perm l ∧ SlV w' 222 2 v l.length (flatB m) ∧ (∀ base, W.ownsRow base 222 2 v l.length (flatB l) → w'.ownsRow base 222 2 v l.length (flatB m)) ∧ Fr (fun k => v.ownBlock = some k) W w' := by
 have HI := insOwnB g eg hcmp (by omega) h
 clear h
 obtain ⟨n, hn⟩ : ∃ n, l.length = n := ⟨_, rfl⟩
 rw [hn] at HI hl ⊢
 have HI := Lib.hid HI
 clear hcmp hn
 go_enter Tryz.func288, Tryz.ntmps288
 have g1 : decide ((20 : Int) ≤ n) = false := by simp; omega
 have g2 : decide ((20 : Int) < n) = false := by simp; omega
 go_wp2_with fail
 refine wp_loop_rounds 1 ?_
 rw [rounds_succ]
 go_wp2_with fail
 refine HI.out.mono ?_
 rintro e w' ⟨rfl, m, hp, hS, hO, hF⟩
 go_wp2_with fail
 refine wp_loop_rounds 1 ?_
 rw [rounds_succ]
 go_wp2_with fail
 go_end0
 exact ⟨rfl, m, hp, hS, hO, hF⟩
theorem SortStableOwnB {W : World} {v : Value} {l : List Bk} (hl : l.length ≤ 19) (h : SlV W 222 2 v l.length (flatB l)) : Calls Tryz.prog 269 #[v, .func (.func g) #[] #[]] W fun e w' => e = .returned (.tuple #[]) ∧ ∃ m, m.Perm l ∧ SlV w' 222 2 v l.length (flatB m) ∧ (∀ base, W.ownsRow base 222 2 v l.length (flatB l) → w'.ownsRow base 222 2 v l.length (flatB m)) ∧ Fr (fun k => v.ownBlock = some k) W w' := by
 have HI := stableOwnB g eg hcmp hl h
 obtain ⟨a, cap, rfl, -, -, -, -⟩ := h.clip
 clear h
 obtain ⟨n, hn⟩ : ∃ n, l.length = n := ⟨_, rfl⟩
 rw [hn] at HI hl ⊢
 have HI := Lib.hid HI
 clear hcmp hn
 go_enter Tryz.func269, Tryz.ntmps269
 go_wp2_with fail
 refine HI.out.mono ?_
 rintro e w' ⟨rfl, m, hp, hS, hO, hF⟩
 go_wp2_with fail
 go_end0
 exact ⟨rfl, m, hp, hS, hO, hF⟩
end
end Go.Proofs.YtcfhkbcllijnkaaGreat
