/- Contracts and plain laws that the proof of TopUrgent goes by, under no condition. -/
import Derived.Test.YtcfhkbcllijnkaaGreatZTopUrgentbb
set_option linter.unusedVariables false
set_option linter.unusedSimpArgs false
set_option maxRecDepth 100000
set_option maxHeartbeats 40000000
namespace Go.Proofs.YtcfhkbcllijnkaaGreat
open Go.RowKit
section
variable {W W' : World} {p : Nat} {v : Value} {bs : List Bk}
theorem SCand (h : ShAt W p v bs) (hN : (allB bs).length ≤ NB) (k : Nat) (hk : k ≤ 16) (d : Int) (hd0 : 0 ≤ d) (hdt : d ≤ top) : Calls Tryz.prog 259 #[.pointer (some ⟨p, 0, none⟩), .int .i64 k, .int .u64 d] W fun e w' => e = .returned (optV (zfs (zaj (allB bs)) k d)) ∧ Below W.heap.size W w' := by
 obtain ⟨n, hn⟩ : ∃ n, (allB bs).length = n := ⟨_, rfl⟩
 have hsl : (zaj (allB bs)).length = n := by rw [zam]; exact hn
 have hba : Below W.heap.size W (W.alloc (.cells #[.int .u64 0, .int .i64 0] 63)) := zab yyr _
 have hn19 : n ≤ 64 := by rw [← hn]; exact hN
 have HL := SLen (h.below hba) (by unfold NB at hN; omega)
 rw [hn] at HL
 have HLL := yyh HL
 have HF := yyh (fun (w : World) (hb : Below W.heap.size W w) => SFirst (h.below hb) hN (min k n + 1) (by omega))
 have m1 : max (k : Int) 0 = (k : Int) := by omega
 have m2 : min (k : Int) (n : Int) = ((min k n : Nat) : Int) := by omega
 have m3 : ((min k n : Nat) : Int) ≤ 16 := by omega
 have HH := yyh (yyi hsl hn)
 clear h HL hn hsl
 generalize hq : min k n = q at *
 go_enter Tryz.func259, Tryz.ntmps259
 go_wp2_with fail
 refine HLL.out.mono ?_
 rintro e w1 ⟨rfl, hB1⟩
 have hb1 : Below W.heap.size W w1 := zad hB1 hba
 have hk0 := (hB1.block _ (by simp)).trans (heap_alloc_new W (.cells #[.int .u64 0, .int .i64 0] 63))
 have HK := yyh hk0
 have HB1 := yyh hb1
 clear hB1 hb1 hk0
 go_wp2_with fail
 refine (HF.out _ HB1.out).mono ?_
 rintro e w2 ⟨v2, rfl, hE, hge, hB2⟩
 have hk2 := (hB2.block _ (zac HK.out)).trans HK.out
 obtain ⟨x0, x1, g0, g1⟩ := zao hk2
 have hWB := yyh (zad hB2 HB1.out)
 have hc : zev (zaj (allB bs)) k = (zaj (allB bs)).take (q + 1) := by unfold zev; rw [HH.out.1, hq]
 rw [← hc] at hE
 have hv : zfs (zaj (allB bs)) k d = (zev (zaj (allB bs)) k)[(d % ((zev (zaj (allB bs)) k).length : Int)).toNat]? := rfl
 have hll : (zev (zaj (allB bs)) k).length ≤ 64 := by
  rw [hc, List.length_take]
  have := HH.out.1
  omega
 generalize zev (zaj (allB bs)) k = l at *
 have HV := yyh hv
 clear hv hc hB2 hge hk2 hq
 obtain ⟨m, hm⟩ : ∃ m, l.length = m := ⟨_, rfl⟩
 have hclip := SlV.clip hE
 rw [hm] at hclip hll HV
 obtain ⟨a2, k2, rfl, hk2, hkm, hna, -⟩ := hclip
 have HNA := yyh hna
 clear hna
 by_cases h0 : m = 0
 ·
  subst h0
  have hl : l = [] := List.eq_nil_of_length_eq_zero hm
  subst hl
  clear hE hm
  go_wp2_with fail
  refine bodyPost_ret (v := .tuple #[.agg #[.int .u64 0, .int .i64 0], .bool false]) (by simp [results, Tryz.results259, go_sem, x0, x1]) rfl ?_
  exact ⟨by rw [HV.out]; simp [optV, enV], zak (zak hWB.out _ _ _ (Nat.le_refl _)) _ _ _ (Nat.le_refl _)⟩
 ·
  obtain ⟨xb, xo, rfl⟩ : ∃ xb xo, a2 = some ⟨xb, xo, none⟩ := by
   rcases SlV.form hE with ⟨e, e0, _⟩ | ⟨b', o', c', e, _⟩
   · omega
   · injection e with e1; exact ⟨_, _, e1⟩
  have g1' : ((m : Int) == 0) = false := by rw [beq_eq_false_iff_ne]; omega
  have r0 : 0 ≤ d % (m : Int) := Int.emod_nonneg _ (by omega)
  have r1 : d % (m : Int) < m := Int.emod_lt_of_pos _ (by omega)
  obtain ⟨j, hj⟩ : ∃ j : Nat, d % (m : Int) = j := ⟨(d % (m : Int)).toNat, by omega⟩
  have hjm : j < m := by omega
  obtain ⟨e, he⟩ : ∃ e, l[j]? = some e := ⟨_, List.getElem?_eq_getElem (by omega)⟩
  obtain ⟨y0, y1⟩ := EsAt.at hE j e he
  have hvv : l[(d % (m : Int)).toNat]? = some e := by rw [hj]; exact he
  have HVV := yyh hvv
  have u0 : IntKind.u64.wrap (m : Int) = m := by rw [IntKind.wrap_u64]; omega
  have u1 : IntKind.i64.wrap (d % (m : Int)) = (j : Int) := by rw [IntKind.wrap_i64]; omega
  have u2 : d.tmod (m : Int) = (j : Int) := by rw [← hj]; exact Int.tmod_eq_emod_of_nonneg hd0
  have u3 : IntKind.u64.wrap (j : Int) = (j : Int) := by rw [IntKind.wrap_u64]; omega
  have u4 : IntKind.i64.wrap (j : Int) = (j : Int) := by rw [IntKind.wrap_i64]; omega
  have u5 : (j : Int) < (m : Int) := by omega
  have hkz : (k2 : Int) ≤ 9223372036854775807 := by unfold maxLen at hkm; omega
  clear hE hvv
  go_wp2_with fail
  refine bodyPost_ret (v := .tuple #[.agg #[.int .u64 e.key, .int .i64 e.id], .bool true]) (by simp [results, Tryz.results259, go_sem, x0, x1]) rfl ?_
  exact ⟨by rw [HV.out, HVV.out]; rfl, zak (zak hWB.out _ _ _ (Nat.le_refl _)) _ _ _ (Nat.le_refl _)⟩
theorem SlV.set {t : TypeId} {k g off n c : Nat} {F : List Value} (h : SlV W t k (.slice (some ⟨g, off, none⟩) n c) n F) (j : Nat) (hj : j < n * k) (u : Value) : SlV (W.setCell ⟨g, off + j, none⟩ u) t k (.slice (some ⟨g, off, none⟩) n c) n (F.set j u) := by
 refine ⟨by rw [List.length_set]; exact h.1, ?_⟩
 rcases h.2 with ⟨h2, _⟩ | ⟨b', off', c', cur, e1, h1, h2, h3, h4⟩
 · cases h2
 ·
  injection e1 with e1 e2 e3
  injection e1 with e1
  injection e1 with e1 e4
  subst e1 e4 e3
  refine .inr ⟨g, off, c, _, rfl, h1, h2, zai h3 u, fun j' hj' => ?_⟩
  have hsz : off + j < cur.size := by
   have := h4 j hj
   have h5 : j < F.length := by rw [h.1]; exact hj
   rw [List.getElem?_eq_getElem h5] at this
   exact (Array.getElem?_eq_some_iff.1 this).1
  rw [Array.getElem?_setIfInBounds, List.getElem?_set, h.1]
  by_cases he : j = j'
  · subst he
    rw [if_pos rfl, if_pos rfl, if_pos hsz, if_pos hj]
  · rw [if_neg (by omega), if_neg he]
    exact h4 j' hj'
theorem zny (l : List Bk) (i : Nat) (b x : Bk) (hb : l[i]? = some b) (hx : x.L.length = b.L.length) : (zat l).set (i * 2 + 1) x.v = zat (l.set i x) := by
 induction l generalizing i with
 | nil => rfl
 | cons e l ih =>
  cases i with
  | zero =>
   obtain rfl : e = b := by simpa using hb
   show (Value.int .i64 (lvl e.L.length) :: e.v :: zat l).set 1 x.v = bkC x ++ zat l
   unfold bkC
   rw [hx]
   rfl
  | succ i =>
   show (Value.int .i64 (lvl e.L.length) :: e.v :: zat l).set ((i + 1) * 2 + 1) x.v = bkC e ++ zat (l.set i x)
   rw [show (i + 1) * 2 + 1 = (i * 2 + 1) + 1 + 1 from by omega, List.set_cons_succ, List.set_cons_succ, ih i (by simpa using hb)]
   rfl
def CI (W0 : World) (g off n c : Nat) (bs : List Bk) (w : World) : Prop := ∃ bsx, bsx.length = n ∧ zb8 w (.slice (some ⟨g, off, none⟩) n c) bsx ∧ bsx.map (·.L) = bs.map (·.L) ∧ Below W0.heap.size W0 w ∧ W0.heap.size ≤ g ∧ g < w.heap.size
structure C0 (W0 : World) (g off n c i : Nat) (bs : List Bk) (b : Bk) (xb : Nat) (w : World) : Prop where
 ci : CI W0 g off n c bs w
 at_ : ∃ bsx, bsx.length = n ∧ zb8 w (.slice (some ⟨g, off, none⟩) n c) bsx ∧ bsx.map (·.L) = bs.map (·.L) ∧ bsx[i]? = some b
 lt : g < xb
 c1 : w.cell? ⟨xb, 1, none⟩ = some (.slice b.a b.L.length b.k)
 xlt : xb < w.heap.size
theorem CI.below {W0 : World} {g off n c : Nat} (h : CI W0 g off n c bs W) (hb : Below W.heap.size W W') : CI W0 g off n c bs W' := by
 obtain ⟨bsx, e1, e2, e3, e4, e5, e6⟩ := h
 exact ⟨bsx, e1, e2.below hb, e3, zad hb e4, e5, Nat.lt_of_lt_of_le e6 hb.size⟩
theorem C0.below {W0 : World} {g off n c i xb : Nat} {b : Bk} (h : C0 W0 g off n c i bs b xb W) (hb : Below W.heap.size W W') : C0 W0 g off n c i bs b xb W' := by
 obtain ⟨bsx, e1, e2, e3, e4⟩ := h.at_
 exact ⟨h.ci.below hb, ⟨bsx, e1, e2.below hb, e3, e4⟩, h.lt, zae hb h.c1, Nat.lt_of_lt_of_le h.xlt hb.size⟩
theorem CI.to {W0 : World} {g off n c i : Nat} (h : CI W0 g off n c bs W) (hn : bs.length = n) (hi : i < n) : ∃ b, W.cell? ⟨g, off + i * 2, none⟩ = some (.int .i64 (lvl b.L.length)) ∧ W.cell? ⟨g, off + i * 2 + 1, none⟩ = some (.slice b.a b.L.length b.k) ∧ EsAt W b.v b.L ∧ b.L.length ≤ (allB bs).length ∧
 C0 W0 g off n c i bs b W.heap.size (W.alloc (.cells #[.int .i64 (lvl b.L.length), .slice b.a b.L.length b.k] 222)) := by
 have hh := h
 obtain ⟨bsx, e1, e2, e3, e4, e5, e6⟩ := h
 obtain ⟨b, hb⟩ : ∃ b, bsx[i]? = some b := ⟨_, List.getElem?_eq_getElem (by omega)⟩
 obtain ⟨d0, d1⟩ := e2.at i b hb
 have hal : Below W.heap.size W (W.alloc (.cells #[.int .i64 (lvl b.L.length), .slice b.a b.L.length b.k] 222)) := zab yyr _
 have hle : b.L.length ≤ (allB bs).length := by
  have h1 : allB bs = (bs.map (·.L)).flatten := by simp [allB, List.flatMap_def]
  have h2 : b.L ∈ bs.map (·.L) := by
   rw [← e3]
   exact List.mem_map_of_mem (List.mem_of_getElem? hb)
  rw [h1]
  exact (List.sublist_flatten_of_mem h2).length_le
 refine ⟨b, d0, d1, (e2.2 b (List.mem_of_getElem? hb)).1, hle, hh.below hal, ⟨bsx, e1, e2.below hal, e3, hb⟩, e6, ?_, by simp⟩
 exact zcx W _ _ 1
theorem C0.put {W0 : World} {g off n c i xb : Nat} {b : Bk} {a4 : Option Addr} {k4 : Nat} (h : C0 W0 g off n c i bs b xb W) (hi : i < n) (hE : EsAt W (.slice a4 b.L.length k4) b.L) : W.cell? ⟨g, off + i * 2 + 1, none⟩ ≠ none ∧ W.frozen? ⟨g, off + i * 2 + 1, none⟩ = false ∧ CI W0 g off n c bs (W.setCell ⟨g, off + i * 2 + 1, none⟩ (.slice a4 b.L.length k4)) ∧ (W.setCell ⟨g, off + i * 2 + 1, none⟩ (.slice a4 b.L.length k4)).cell? ⟨xb, 1, none⟩ = some (.slice b.a b.L.length b.k) := by
 obtain ⟨bsx, e1, e2, e3, e4⟩ := h.at_
 obtain ⟨-, -, -, -, e8, e9, e10⟩ := h.ci
 obtain ⟨d0, d1⟩ := e2.at i b e4
 have hS := SlV.set (u := (⟨b.L, a4, k4⟩ : Bk).v) (by have := e2.1; rw [e1] at this; exact this) (i * 2 + 1) (by omega)
 rw [zny bsx i b ⟨b.L, a4, k4⟩ e4 rfl] at hS
 have hty := SlV.type e2.1 (c := g) rfl
 obtain ⟨cur, hcur⟩ := hty
 have hF : Fr (fun k => k = g) W (W.setCell ⟨g, off + i * 2 + 1, none⟩ (.slice a4 b.L.length k4)) := Fr.set (S := fun k => k = g) (Fr.refl _ _) (p := ⟨g, off + i * 2 + 1, none⟩) rfl _
 have hno : NoEn W (fun k => k = g) := fun k hk => ⟨cur, 222, by have hk' : k = g := hk; rw [hk']; exact hcur, by decide⟩
 refine ⟨by rw [d1]; simp, za4 hcur, ⟨bsx.set i ⟨b.L, a4, k4⟩, by simpa using e1, ⟨?_, fun x hx => ?_⟩, ?_, zak e8 _ _ _ e9, e9, by simpa using e10⟩, ?_⟩
 · rw [List.length_set, e1]
   exact hS
 · rcases List.mem_or_eq_of_mem_set hx with hx | rfl
   · exact (e2.2 x hx).frT hF hno
   · exact ⟨EsAt.frT hE hF hno, (e2.2 b (List.mem_of_getElem? e4)).2⟩
 ·
  rw [← e3, List.map_set]
  have : (bsx.map (·.L))[i]? = some b.L := by rw [List.getElem?_map, e4]; rfl
  apply List.ext_getElem?
  intro j
  rw [List.getElem?_set]
  by_cases hj : i = j
  · subst hj
    have hlt : i < (bsx.map (·.L)).length := by rw [List.length_map, e1]; exact hi
    rw [if_pos rfl, if_pos hlt, this]
  · rw [if_neg hj]
 · have := h.lt
   exact za5 hF (fun e => by have e' : xb = g := e; omega) h.c1
theorem Copied (h : zb8 W v bs) (hn : bs.length ≤ 1000) (hN : (allB bs).length ≤ 1000) : Calls Tryz.prog 277 #[v] W fun e w' => ∃ v' bs', e = .returned v' ∧ zb8 w' v' bs' ∧ bs'.map (·.L) = bs.map (·.L) ∧ (∀ c, v'.ownBlock = some c → W.heap.size ≤ c) ∧ Below W.heap.size W w' := by
 have HC := yyh (zj7 (by omega) h.1 (zcs bs))
 have HB := yyh h
 clear h
 obtain ⟨n, hnn⟩ : ∃ n, bs.length = n := ⟨_, rfl⟩
 have HNN := yyh hnn
 rw [hnn] at HC hn
 clear hnn
 go_enter Tryz.func277, Tryz.ntmps277
 go_wp2_with fail
 refine HC.out.mono ?_
 rintro e w1 ⟨v1, rfl, hO1, hB1⟩
 have HCl := yyh (ClipBl (SlV.of_owns hO1))
 have hO := fun c hc => (World.ownsRow.lt hO1 c hc).1
 have HO := yyh hO
 have HB1 := yyh hB1
 clear hO1 hB1 hO
 go_wp2_with fail
 refine HCl.out.mono ?_
 rintro e w2 ⟨v2, rfl, hS2, hv2, rfl⟩
 obtain ⟨a2, k2, rfl, hk2, hkm, hna, -⟩ := SlV.clip hS2
 have hkz : (k2 : Int) ≤ 9223372036854775807 := by unfold maxLen at hkm; omega
 cases a2 with
 | none =>
  obtain ⟨rfl, rfl⟩ := hna rfl
  have hbs : bs = [] := List.eq_nil_of_length_eq_zero HNN.out
  clear hS2 hv2
  go_wp2_with fail
  go_loopg [4, 11] 0 (fun gg v4 v11 wr => v11 = .int .i64 0 ∧ wr = w2)
  case atStart => exact ⟨rfl, rfl⟩
  case round =>
   obtain ⟨rfl, rfl⟩ := hrel
   go_wp2_with fail
   go_ret
   exact ⟨.slice none 0 0, [], rfl, ⟨SlV.nil _ _ _, fun b hb => nomatch hb⟩, by rw [hbs], (fun c hc => nomatch hc), HB1.out⟩
 | some x =>
  obtain ⟨g, off, rfl⟩ : ∃ g off, x = ⟨g, off, none⟩ := by
   rcases SlV.form hS2 with ⟨e, _⟩ | ⟨b', o', c', e, _⟩
   · cases e
   · injection e with e1; injection e1 with e1; exact ⟨_, _, e1⟩
  have hg := HO.out g (by rw [← hv2]; rfl)
  have hCI0 : CI W g off n k2 bs w2 := ⟨bs, HNN.out, ⟨by rw [HNN.out]; exact hS2, fun b hb => (HB.out.2 b hb).below HB1.out⟩, rfl, HB1.out, hg, SlV.lt hS2 rfl⟩
  have HCI0 := yyh hCI0
  have HG := yyh hg
  clear hS2 hv2 hCI0 hg
  go_wp2_with fail
  go_loopg [4, 11] n (fun gg v4 v11 wr => ∃ i : Nat, i ≤ n ∧ gg = n - i ∧ v11 = .int .i64 i ∧ Aside (CI W g off n k2 bs wr))
  case atStart => exact ⟨0, by omega, by omega, rfl, (show Aside _ from HCI0.out)⟩
  case round =>
   obtain ⟨i, hi, rfl, rfl, A⟩ := hrel
   by_cases hlt : i < n
   ·
    obtain ⟨b, d0, d1, hEb, hbl, hC0⟩ := CI.to A.out HNN.out hlt
    have HC0 := yyh hC0
    have HEB := yyh hEb
    have hbl1 : b.L.length ≤ 1000 := by omega
    obtain ⟨m, hm⟩ : ∃ m, b.L.length = m := ⟨_, rfl⟩
    obtain ⟨W5, hW5⟩ : ∃ W5, wr.alloc (.cells #[.int .i64 (lvl b.L.length), .slice b.a b.L.length b.k] 222) = W5 := ⟨_, rfl⟩
    have hb5 : Below wr.heap.size wr W5 := by rw [← hW5]; exact zab yyr _
    obtain ⟨xb, hxb⟩ : ∃ xb, wr.heap.size = xb := ⟨_, rfl⟩
    rw [hW5, hxb] at hC0
    have hCl5 := znl (W := W5) (F := zbf b.L) (n := b.L.length) (by omega) (EsAt.below hEb hb5) (zgd _)
    have hsh : Calls Tryz.prog 282 #[.slice b.a m b.k] W5 fun e w' => ∃ v', e = .returned v' ∧ w'.ownsRow W5.heap.size 63 2 v' b.L.length (zbf b.L) ∧ C0 W g off n k2 i bs b xb w' := by
     rw [← hm]
     refine hCl5.mono ?_
     rintro e w' ⟨v', rfl, ho, hB⟩
     exact ⟨v', rfl, ho, hC0.below hB⟩
    have HSH := yyh hsh
    have hc1 : W5.cell? ⟨xb, 1, none⟩ = some (.slice b.a m b.k) := by rw [← hm]; exact hC0.c1
    have HM := yyh hm
    rw [hm] at d0 d1 hW5
    have hlt5 : (i : Int) < (n : Int) := by omega
    have hge0 : decide ((i : Int) < 0) = false := by simp
    have HA := yyh A.out
    clear hC0 hEb hm hsh hCl5 hb5 hbl1 hbl A
    go_upto_region 5 with fail
    clear hW5
    go_wp2_with fail
    refine HSH.out.mono ?_
    rintro e w3 ⟨v3, rfl, hO3, hC3⟩
    have HO3 := yyh (yyi hO3 hC3)
    clear hO3 hC3
    go_wp2_with fail
    refine (zhb (SlV.of_owns HO3.out.1)).mono ?_
    rintro e w4 ⟨v4, rfl, hS4, -, rfl⟩
    obtain ⟨a4, k4, rfl, -, -, -, -⟩ := SlV.clip hS4
    rw [HM.out]
    have HP := yyh (C0.put HO3.out.2 hlt hS4)
    rw [HM.out] at HP
    have hp0 := HP.out.1
    have hp1 := HP.out.2.1
    obtain ⟨uu, hp0⟩ := Option.ne_none_iff_exists'.1 hp0
    clear hS4
    go_wp2_with fail
    go_roundg (n - (i + 1))
    case measure => omega
    case rel => exact ⟨i + 1, by omega, rfl, by go_num, (show Aside _ from HP.out.2.2.1)⟩
   ·
    obtain rfl : i = n := by omega
    have HA := yyh A.out
    clear A
    go_wp2_with fail
    go_ret
    obtain ⟨bsx, e1, e2, e3, e4, e5, e6⟩ := HA.out
    exact ⟨.slice (some ⟨g, off, none⟩) i k2, bsx, rfl, e2, e3, (fun c hc => by cases hc; exact HG.out), e4⟩
end
theorem zfj {X : World} {b off cap n : Nat} {bs : List Bk} (hE : zb8 X (.slice (some ⟨b, off, none⟩) n cap) bs) : ∀ i j, i < bs.length → j < 2 → X.cell? ⟨b, off + i * 2 + j, none⟩ = some (if j = 0 then .int .i64 (lvl (bs.getD i default).L.length) else (bs.getD i default).v) := by
 intro i j hi hj
 obtain ⟨k0, k1⟩ := zb8.at hE i bs[i] (List.getElem?_eq_getElem hi)
 have hg : bs.getD i default = bs[i] := by rw [List.getD_eq_getElem?_getD, List.getElem?_eq_getElem hi]; rfl
 rw [hg]
 rcases (show j = 0 ∨ j = 1 from by omega) with rfl | rfl
 · exact k0
 · exact k1
theorem IdxBlG {X : World} {v : Value} {bs : List Bk} (hE : zb8 X v bs) (hbs : bs.length ≤ 1000) (p : Nat → Bool) (g : Nat) (lb : Array Value) (eg : ∀ args w, (callFunc g args).run Tryz.prog w = .ok (.enter g args) w)
 (hp : ∀ (Y : World) (i : Nat) (b : Bk), Below X.heap.size X Y → bs[i]? = some b → Calls Tryz.prog g (#[.agg #[.int .i64 (lvl b.L.length), b.v]] ++ lb) Y fun e w' => e = .returned (.bool (p i)) ∧ Below Y.heap.size Y w') :
 Calls Tryz.prog 231 #[v, .func (.func g) #[] lb] X fun e w' => (∃ r, e = .returned (.int .i64 r) ∧ zg1 p bs.length r) ∧ Below X.heap.size X w' := by
 rcases SlV.form hE.1 with ⟨rfl, h0, _⟩ | ⟨b, off, cap, rfl, h1, h2, h3, h4⟩
 · refine (zdk _).mono ?_
   rintro e w' ⟨rfl, rfl⟩
   exact ⟨⟨_, rfl, .inl ⟨rfl, fun i hi => by omega⟩⟩, yyr⟩
 ·
  refine zht b off cap bs.length (by omega) h2 _ (zfj hE) _ g lb eg ?_
  intro Y i hY hi
  have hg : bs.getD i default = bs[i] := by rw [List.getD_eq_getElem?_getD, List.getElem?_eq_getElem hi]; rfl
  rw [hg]
  exact hp Y i bs[i] hY (List.getElem?_eq_getElem hi)
theorem ConBlG {X : World} {v : Value} {bs : List Bk} (hE : zb8 X v bs) (hbs : bs.length ≤ 1000) (p : Nat → Bool) (g : Nat) (lb : Array Value) (eg : ∀ args w, (callFunc g args).run Tryz.prog w = .ok (.enter g args) w)
 (hp : ∀ (Y : World) (i : Nat) (b : Bk), Below X.heap.size X Y → bs[i]? = some b → Calls Tryz.prog g (#[.agg #[.int .i64 (lvl b.L.length), b.v]] ++ lb) Y fun e w' => e = .returned (.bool (p i)) ∧ Below Y.heap.size Y w') :
 Calls Tryz.prog 274 #[v, .func (.func g) #[] lb] X fun e w' => (∃ r, e = .returned (.bool r) ∧ (r = true ↔ ∃ i, i < bs.length ∧ p i = true)) ∧ Below X.heap.size X w' := by
 rcases SlV.form hE.1 with ⟨rfl, h0, _⟩ | ⟨b, off, cap, rfl, h1, h2, h3, h4⟩
 · refine (zg2 _).mono ?_
   rintro e w' ⟨rfl, rfl⟩
   exact ⟨⟨_, rfl, by simp [h0]⟩, yyr⟩
 ·
  refine zl8 b off cap bs.length (by omega) h2 _ (zfj hE) _ g lb eg ?_
  intro Y i hY hi
  have hg : bs.getD i default = bs[i] := by rw [List.getD_eq_getElem?_getD, List.getElem?_eq_getElem hi]; rfl
  rw [hg]
  exact hp Y i bs[i] hY (List.getElem?_eq_getElem hi)
theorem ze9 {bs : List Bk} {b : Bk} (h : b ∈ bs) : b.L.length ≤ (allB bs).length := by
 obtain ⟨s, t, rfl⟩ := List.append_of_mem h
 rw [zau]
 simp [allB]
 omega
theorem SSw1 {W : World} {v : Value} {l : List En} (hl : l.length ≤ 1000) (h : EsAt W v l) (hs : zbe l) : Calls Tryz.prog 275 #[.agg #[.int .i64 (lvl l.length), v]] W fun e w' => e = .returned (.bool false) ∧ Below W.heap.size W w' := by
 obtain ⟨a, k, rfl, -⟩ := SlV.clip h
 have hba : Below W.heap.size W (W.alloc (.cells #[.int .i64 (lvl l.length), .slice a l.length k] 222)) := zab yyr _
 have HO := BOk hl (EsAt.below h hba) hs
 unfold bkV at HO
 generalize l.length = n at *
 generalize lvl n = q at *
 have H := yyh HO
 have HB := yyh hba
 clear HO h hba
 go_enter Tryz.func275, Tryz.ntmps275
 go_wp2_with fail
 refine H.out.mono ?_
 rintro e w' ⟨rfl, hB⟩
 have HX := yyh (zad hB HB.out)
 clear hB
 go_wp2_with fail
 go_ret
 exact ⟨rfl, HX.out⟩
theorem SSwap {W : World} {p : Nat} {v v2 : Value} {bs2 : List Bk} {ver : Int} (hv0 : 0 ≤ ver) (hvt : ver ≤ top) (hh : W.heap[p]? = some (.cells #[.int .u64 ver, v] 288 (0, 0))) (h2 : zb8 W v2 bs2) (hne : ∀ b ∈ bs2, b.L ≠ []) (hN : (allB bs2).length ≤ 1000) :
 Calls Tryz.prog 235 #[.pointer (some ⟨p, 0, none⟩), .int .u64 ver, v2] W fun e w' => e = .returned (.bool true) ∧ ∃ v' bs', ShAt w' p v' bs' ∧ bs'.map (·.L) = bs2.map (·.L) ∧ (∀ c, v'.ownBlock = some c → W.heap.size ≤ c) ∧ Fr (fun k => k = p) W w' := by
 have hle := zcc hne
 have HC := yyh (ConBlG h2 (by omega) (fun _ => false) 275 #[] (enters_of Tryz.func275 (by kernel_rfl) rfl) (fun Y i b hY hb => by
  have hm := List.mem_of_getElem? hb
  exact SSw1 (Nat.le_trans (ze9 hm) hN) ((h2.2 b hm).below hY).1 (h2.2 b hm).2))
 have HP := yyh (fun (w : World) (hb : Below W.heap.size W w) => Copied (h2.below hb) (by omega) hN)
 obtain ⟨c0, c1, f0, f1⟩ := zao hh
 have HH := yyh (yyi hh hne)
 have e0 : (ver == ver) = true := by simp
 clear h2 hne hN hle hh
 go_enter Tryz.func235, Tryz.ntmps235
 go_wp2_with fail
 refine HC.out.mono ?_
 rintro e w1 ⟨⟨r, rfl, hr⟩, hB1⟩
 have hrf : r = false := by
  cases r with
  | false => rfl
  | true => obtain ⟨i, -, hi⟩ := hr.1 rfl; cases hi
 subst hrf
 have HB1 := yyh hB1
 clear hr hB1
 go_wp2_with fail
 refine (HP.out _ HB1.out).mono ?_
 rintro e w2 ⟨v3, bs3, rfl, h3, hm3, hge, hB2⟩
 have hb2 : Below W.heap.size W w2 := zad hB2 HB1.out
 have hh2 := (hb2.block _ (zac HH.out.1)).trans HH.out.1
 obtain ⟨x0, x1, g0, g1⟩ := zao hh2
 obtain ⟨a3, k3, rfl, -, -, -⟩ := zh6 h3
 obtain ⟨n3, hn3⟩ : ∃ n3, bs3.length = n3 := ⟨_, rfl⟩
 have hpl := zac HH.out.1
 have hs1 := HB1.out.size
 have HX := yyh (yyi h3 (yyi hm3 (yyi hge (yyi hb2 (yyi hh2 (yyi hpl (yyi hs1 hn3)))))))
 have hw : 0 ≤ IntKind.u64.wrap (ver + 1) ∧ IntKind.u64.wrap (ver + 1) ≤ top := by rw [IntKind.wrap_u64]; unfold top; omega
 obtain ⟨ver2, hver2⟩ : ∃ ver2, IntKind.u64.wrap (ver + 1) = ver2 := ⟨_, rfl⟩
 rw [hver2] at hw
 rw [hn3]
 have HW := yyh hw
 clear h3 hm3 hge hb2 hh2 hB2 hn3 hw hs1 hpl
 go_wp2_with fail
 go_ret
 obtain ⟨h3, hm3, hge, hb2, hh2, hpl, hs1, hn3⟩ := HX.out
 rw [hn3] at hge
 have h3' : zb8 w2 (.slice a3 n3 k3) bs3 := by rw [← hn3]; exact h3
 refine ⟨rfl, .slice a3 n3 k3, bs3, ⟨⟨ver2, HW.out.1, HW.out.2, ?_⟩, ?_, ?_⟩, hm3, fun c hc => Nat.le_trans hs1 (hge c hc), ?_⟩
 · rw [zai (zai hh2 _)]
   rfl
 ·
  have hF : Fr (fun k => k = p) w2 ((w2.setCell ⟨p, 0, none⟩ (.int .u64 ver2)).setCell ⟨p, 1, none⟩ (.slice a3 n3 k3)) := (Fr.set (S := fun k => k = p) (Fr.refl _ _) (p := ⟨p, 0, none⟩) rfl _).trans (Fr.set (S := fun k => k = p) (Fr.refl _ _) (p := ⟨p, 1, none⟩) rfl _)
  have hno : NoEn w2 (fun k => k = p) := fun k hk => ⟨#[.int .u64 ver, v], 288, by have hk' : k = p := hk; rw [hk']; exact hh2, by decide⟩
  refine ⟨SlV.fr h3'.1 hF (fun c hc e => ?_), fun b hb => (h3'.2 b hb).frT hF hno⟩
  have e' : c = p := e
  have := hge c hc
  omega
 ·
  intro b hb e
  have h1 : b.L ∈ bs3.map (·.L) := List.mem_map_of_mem hb
  rw [hm3] at h1
  obtain ⟨b', hb', e'⟩ := List.mem_map.1 h1
  exact HH.out.2 b' hb' (e'.trans e)
 · exact (Fr.of_below hb2).trans ((Fr.set (S := fun k => k = p) (Fr.refl _ _) (p := ⟨p, 0, none⟩) rfl _).trans (Fr.set (S := fun k => k = p) (Fr.refl _ _) (p := ⟨p, 1, none⟩) rfl _))
end Go.Proofs.YtcfhkbcllijnkaaGreat
