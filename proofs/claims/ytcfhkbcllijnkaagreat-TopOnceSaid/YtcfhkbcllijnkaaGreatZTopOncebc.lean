/- Parts of the proof of TopOnce, under no condition. -/
import Derived.Test.YtcfhkbcllijnkaaGreatZTopOncebb
import Derived.Test.YtcfhkbcllijnkaaGreatZTopOnceae
set_option linter.unusedVariables false
set_option linter.unusedSimpArgs false
set_option maxRecDepth 100000
set_option maxHeartbeats 0
namespace Go.Proofs.YtcfhkbcllijnkaaGreat
open Go.RowKit
theorem zhs {P : Program} {a : Act} {w : World} {Q : Exit → Act → World → Prop} {c0 R : Code} (l : Nat) (J : Act → World → Prop) (μ : Act → World → Nat) (hl : findLabel (c0.seq ((Code.label l).seq R)) l = some (Code.skip.seq R))
 (first : c0.wp P (Exit.then J (Exit.jump l J Q)) a w) (pass : ∀ a w, J a w → R.wp P (Exit.jump l (fun a' w' => J a' w' ∧ μ a' w' < μ a w) Q) a w) : (Code.scope (c0.seq ((Code.label l).seq R))).wp P Q a w := by
 refine wp_scope_jumps l J μ hl (wp_seq (wp_mono first ?_)) (fun a w hJ => wp_seq (wp_skip (pass a w hJ)))
 intro e a w he
 cases e with
 | normal =>
  refine wp_seq (wp_label ?_)
  refine wp_mono (pass a w he) (fun e a w hq => ?_)
  cases e <;> first | exact hq | exact ⟨hq.1, hq.2.1⟩
 | _ => exact he
theorem zj7 {l m : List Bk} (h : l.Perm m) : (zaq l).Perm (zaq m) := List.Perm.flatMap_right _ h
theorem zmj {W w1 : World} {p base : Nat} {v : Value} {bs m : List Bk} (h : zbi W p base v bs) (hp : m.Perm bs) (hO : ∀ base, W.ownsRow base 222 2 v bs.length (zau bs) → w1.ownsRow base 222 2 v bs.length (zau m)) (hF : Fr (fun k => v.ownBlock = some k) W w1) : zbi w1 p base v m := by
 refine h.row hF ?_ rfl (fun b hm => h.ins b (hp.mem_iff.1 hm))
 unfold zbt
 rw [hp.length_eq]
 exact hO base h.own
theorem zrq {W w1 : World} {p base : Nat} {v : Value} {bs m : List Bk} (h : zbi W p base v bs) (hp : m.Perm bs) (hO : ∀ base, W.ownsRow base 222 2 v bs.length (zau bs) → w1.ownsRow base 222 2 v bs.length (zau m)) (hF : Fr (fun k => v.ownBlock = some k) W w1) (hn : bs.length ≤ 19) : ∃ v' bs', zbi w1 p base v' bs' ∧ (zaq bs').Perm (zaq bs) ∧ bs'.length ≤ 19 ∧ v'.ownBlock = v.ownBlock ∧ Fr (zhr p v) W w1 :=
 ⟨v, m, zmj h hp hO hF, zj7 hp, by rw [hp.length_eq]; exact hn, rfl, hF.mono (fun k hk => .inr hk)⟩
def SM (xa xb : Nat) (A B : Bk) (w : World) : Prop := w.cell? ⟨xa, 0, none⟩ = some (.int .i64 (lvl A.L.length)) ∧ w.cell? ⟨xa, 1, none⟩ = some (.slice A.a A.L.length A.k) ∧ w.cell? ⟨xb, 0, none⟩ = some (.int .i64 (lvl B.L.length)) ∧ w.cell? ⟨xb, 1, none⟩ = some (.slice B.a B.L.length B.k)
theorem SM.below {xa xb : Nat} {A B : Bk} {w w' : World} (h : SM xa xb A B w) (hb : Below w.heap.size w w') : SM xa xb A B w' := ⟨zae hb h.1, zae hb h.2.1, zae hb h.2.2.1, zae hb h.2.2.2⟩
theorem SM.fr {S : Nat → Prop} {xa xb : Nat} {A B : Bk} {w w' : World} (h : SM xa xb A B w) (f : Fr S w w') (ha : ¬ S xa) (hb : ¬ S xb) : SM xa xb A B w' := ⟨za6 f ha h.1, za6 f ha h.2.1, za6 f hb h.2.2.1, za6 f hb h.2.2.2⟩
section
variable (wc : World) (p base g n k1 xa xb : Nat) (A B : Bk) (bs1 : List Bk)
structure M1 (x : Bk) (w1 : World) : Prop where
 sm : SM xa xb A B w1
 cell : w1.cell? ⟨p, 0, none⟩ = some (.slice (some ⟨g, 0, none⟩) n k1)
 lsm : zbi w1 p base (.slice (some ⟨g, 0, none⟩) n k1) bs1
 es : zay w1 x.v x.L
 bel : Below wc.heap.size wc w1
structure M2 (x : Bk) (q : Nat) (w2 : World) : Prop where
 m : M1 wc p base g n k1 xa xb A B bs1 x w2
 heap : w2.heap[q]? = some (.cells (bkC x).toArray 222 (0, 0))
 ge : wc.heap.size ≤ q
def M4 (w4 : World) : Prop := ∃ v4 bs4, zbi w4 p base v4 bs4 ∧ (zaq bs4).Perm (zaq bs1) ∧ bs4.length + 1 = n ∧ v4.ownBlock = some g ∧ Fr (zhr p (.slice (some ⟨g, 0, none⟩) n k1)) wc w4
structure M3 (a4 : Option Addr) (k4 : Nat) (w3 : World) : Prop where
 sm : SM xa xb A B w3
 cell : w3.cell? ⟨p, 0, none⟩ = some (.slice (some ⟨g, 0, none⟩) n k1)
 free : w3.frozen? ⟨p, 0, none⟩ = false
 sm4 : SM xa xb A B (w3.setCell ⟨p, 0, none⟩ (.slice a4 (n - 1) k4))
 m4 : M4 wc p base g n k1 bs1 (w3.setCell ⟨p, 0, none⟩ (.slice a4 (n - 1) k4))
variable {wc p base g n k1 xa xb A B bs1}
theorem M1.make {x : Bk} {w1 : World} (hS : SM xa xb A B wc) (hL : zbi wc p base (.slice (some ⟨g, 0, none⟩) n k1) bs1) (hE : zay w1 x.v x.L) (hB : Below wc.heap.size wc w1) : M1 wc p base g n k1 xa xb A B bs1 x w1 :=
 ⟨hS.below hB, (hL.below hB).cell.1, hL.below hB, hE, hB⟩
theorem M1.al {x : Bk} {w1 : World} (h : M1 wc p base g n k1 xa xb A B bs1 x w1) (m : Nat) (hm : x.L.length = m) : M2 wc p base g n k1 xa xb A B bs1 x w1.heap.size (w1.alloc (.cells #[.int .i64 (lvl m), .slice x.a m x.k] 222)) := by
 have hb : Below w1.heap.size w1 (w1.alloc (.cells #[.int .i64 (lvl m), .slice x.a m x.k] 222)) := zab yyr _
 refine ⟨⟨h.sm.below hb, (h.lsm.below hb).cell.1, h.lsm.below hb, zay.below h.es hb, zad hb h.bel⟩, ?_, h.bel.size⟩
 rw [heap_alloc_new]
 subst hm
 rfl
theorem zs5 {l : List Bk} {i : Nat} {A B : Bk} (hA : l[i]? = some A) (hB : l[i + 1]? = some B) : l = l.take i ++ [A, B] ++ l.drop (i + 2) := by
 conv => lhs; rw [← List.take_append_drop (i + 2) l]
 congr 1
 rw [show i + 2 = i + 1 + 1 from rfl, List.take_add_one, hB, List.take_add_one, hA]
 simp
theorem M2.repl {x : Bk} {q i : Nat} {w2 : World} (h : M2 wc p base g n k1 xa xb A B bs1 x q w2) (hn : bs1.length = n) (hn2 : n ≤ 19) (hi : i + 1 < n) (hA : bs1[i]? = some A) (hB : bs1[i + 1]? = some B) (hgw : g < wc.heap.size) (hx1 : g < xa ∧ g < xb ∧ p < xa ∧ p < xb)
 (hxL : x.L = zaj (A.L ++ B.L)) : Calls Tryz.prog 271 #[.slice (some ⟨g, 0, none⟩) n k1, .int .i64 i, .int .i64 ((i : Int) + 2), .slice (some ⟨q, 0, none⟩) 1 1] w2 fun e w3 => ∃ a4 k4, e = .returned (.slice a4 (n - 1) k4) ∧ M3 wc p base g n k1 xa xb A B bs1 a4 k4 w3 := by
 have hge := h.ge
 refine (zo1 h.m.lsm.own h.heap (by show some g ≠ some q; intro e; injection e with e; omega) (by omega) i (by omega)).mono ?_
 rintro e w3 ⟨v4, rfl, hO, hF, hv⟩
 have hF : Fr (fun k => k = g) w2 w3 := hF.mono (fun k hk => by injection hk with hk; exact hk.symm)
 have hlen : (bs1.take i ++ [x] ++ bs1.drop (i + 2)).length = n - 1 := by simp; omega
 obtain ⟨a4, k4, hv4, -⟩ := SlV.clip (SlV.of_owns hO)
 rw [hlen] at hv4
 subst hv4
 have hgp : g ≠ p := fun e => h.m.lsm.ne g rfl e
 have hfp := (hF.block p (zac h.m.lsm.hdr) (fun e => hgp e.symm)).trans h.m.lsm.hdr
 have hsm3 := h.m.sm.fr hF (by omega) (by omega)
 refine ⟨a4, k4, rfl, hsm3, zaa hfp, by simp [World.frozen?, hfp], hsm3.fr (Fr.set (S := fun k => k = p) (Fr.refl _ _) (p := ⟨p, 0, none⟩) rfl _) (by omega) (by omega), ?_⟩
 have hF4 : Fr (fun k => k = p) w3 (w3.setCell ⟨p, 0, none⟩ (.slice a4 (n - 1) k4)) := Fr.set (S := fun k => k = p) (Fr.refl _ _) (p := ⟨p, 0, none⟩) rfl _
 have hFF : Fr (zhr p (.slice (some ⟨g, 0, none⟩) n k1)) w2 (w3.setCell ⟨p, 0, none⟩ (.slice a4 (n - 1) k4)) := (hF.mono (fun k hk => .inr (by rw [hk]; rfl))).trans (hF4.mono (fun k hk => .inl hk))
 have hsp := zs5 hA hB
 have hmem : ∀ b ∈ bs1.take i ++ [x] ++ bs1.drop (i + 2), b = x ∨ b ∈ bs1 := by
  intro b hb
  simp only [List.mem_append, List.mem_singleton] at hb
  rcases hb with (hb | hb) | hb
  · exact .inr (List.mem_of_mem_take hb)
  · exact .inl hb
  · exact .inr (List.mem_of_mem_drop hb)
 have hAin : A ∈ bs1 := List.mem_of_getElem? hA
 refine ⟨_, bs1.take i ++ [x] ++ bs1.drop (i + 2), ⟨?_, ?_, ?_⟩, ?_, by omega, hv, (Fr.of_below h.m.bel).trans hFF⟩
 · rw [zai hfp]
   rfl
 · exact zcv hO hF4 (fun c hc e => by rw [hv] at hc; injection hc with hc; exact hgp (hc.trans e))
 ·
  intro b hb
  rcases hmem b hb with rfl | hb
  ·
   refine ⟨⟨zay.frT h.m.es hFF h.m.lsm.noEn, by rw [hxL]; exact zbb _⟩, ?_⟩
   intro e
   have hl := congrArg List.length (hxL.symm.trans e)
   rw [zam, List.length_append] at hl
   have := List.length_pos_iff.2 (h.m.lsm.ins A hAin).2
   simp at hl
   have h0 := hl.1
   rw [h0] at this
   simp at this
  · exact ⟨(h.m.lsm.ins b hb).1.frT hFF h.m.lsm.noEn, (h.m.lsm.ins b hb).2⟩
 ·
  have e1 : zaq bs1 = zaq (bs1.take i) ++ (A.L ++ B.L) ++ zaq (bs1.drop (i + 2)) := by
   conv => lhs; rw [hsp]
   rw [zav, zav]
   simp [zaq]
  rw [e1, zav, zav]
  refine List.Perm.append_right _ (List.Perm.append_left _ ?_)
  simp [zaq]
  rw [hxL]
  exact za2 _
end
theorem zs6 {W : World} {p base : Nat} {v : Value} {bs : List Bk} (h : zbi W p base v bs) (hn : bs.length ≤ 19) (hN : (zaq bs).length ≤ NB) : Calls Tryz.prog 228 #[.pointer (some ⟨p, 0, none⟩)] W fun e w' => e = .returned (.tuple #[]) ∧ ∃ v' bs', zbi w' p base v' bs' ∧ (zaq bs').Perm (zaq bs) ∧ bs'.length ≤ 19 ∧ v'.ownBlock = v.ownBlock ∧ Fr (zhr p v) W w' := by
 have H := yyh h
 have HN := yyh (yyi hn hN)
 clear h hn hN
 go_enter Tryz.func228, Tryz.ntmps228
 go_wp2_with fail
 refine zhs 0 (JM W p base v (zaq bs)) (fun _ w => zo2 w p) rfl ?first ?pass
 case first =>
  obtain ⟨a0, k0, rfl, hk0, hm0, hn0⟩ := H.out.val
  obtain ⟨c0, f0⟩ := H.out.cell
  have hS := zer 270 (enters_of Tryz.func270 (by kernel_rfl) rfl) znp HN.out.1 (SlV.of_owns H.out.own)
  have HS := yyh hS
  clear hS
  go_wp2_with fail
  refine HS.out.mono ?_
  rintro e w1 ⟨rfl, m, hp, hS1, hO1, hF1⟩
  have hJ := zrq H.out hp hO1 hF1 HN.out.1
  clear hS1 hO1 hF1
  go_wp2_with fail
  exact ⟨⟨rfl, rfl, rfl⟩, hJ⟩
 case pass =>
  rintro a w ⟨hJF, v1, bs1, h1, hp1, hn1, hv1, hF1⟩
  obtain ⟨u1, u2, u3, u4, u5, u6, u7, u8, u9, u10, u11, u12, u13, u14, u15, u16, u17, u18, u19, u20, u21, u22, u23, u24, u25, u26, u27, u28, u29, u30, u31, u32, u33, u34, u35, u36, u37, u38, u39, u40, u41, u42, u43, u44, u45, u46, u47, u48, u49, u50, u51, u52, u53, u54, u55, u56, u57, u58, u59, u60, rfl⟩ := zu4 hJF
  obtain ⟨a1, k1, rfl, hk1, hm1, hna⟩ := h1.val
  obtain ⟨c1, f1⟩ := h1.cell
  have hlen := zj6 c1
  have hmz : (k1 : Int) ≤ 9223372036854775807 := by unfold maxLen at hm1; omega
  obtain ⟨n, hnn⟩ := yye (bs1.length)
  have H1 := yyh h1
  have HH := yyh (show bs1.length = n ∧ (zaq bs1).Perm (zaq bs) ∧ (Value.slice a1 bs1.length k1).ownBlock = v.ownBlock ∧ Fr (zhr p v) W w from ⟨hnn, hp1, hv1, hF1⟩)
  have HLN := yyh hlen
  rw [hnn] at hn1 hk1 hna c1
  clear h1 hp1 hv1 hF1 hlen hnn hJF
  go_wp2_with fail
  go_loopg [2] n (fun gg v2 wr => ∃ x : Int, -1 ≤ x ∧ x < n ∧ gg = (x + 1).toNat ∧ v2 = .int .i64 x ∧ Aside (Below w.heap.size w wr))
  case atStart => exact ⟨(n : Int) - 1, by omega, by omega, by omega, by go_num, (show Aside _ from yyr)⟩
  case round =>
   obtain ⟨x, x0, x1, rfl, rfl, A⟩ := hrel
   by_cases hx : 0 < x
   ·
    obtain ⟨i, rfl⟩ : ∃ i : Nat, x = (i : Int) + 1 := ⟨(x - 1).toNat, by omega⟩
    have g1 : decide (0 < (i : Int) + 1) = true := by rw [decide_eq_true_eq]; omega
    obtain ⟨hnn, hp1, hv1, hF1⟩ := HH.out
    obtain ⟨g, cap, e1, -, -, hbg, -⟩ := zco H1.out.own (by omega)
    rw [hnn] at e1
    injection e1 with e1 _ e3
    subst e1 e3
    have hib : i + 1 < bs1.length := by omega
    obtain ⟨A1, hA1⟩ : ∃ b, bs1[i]? = some b := ⟨_, yyg (by omega)⟩
    obtain ⟨B1, hB1⟩ : ∃ b, bs1[i + 1]? = some b := ⟨_, yyg hib⟩
    have hwr := H1.out.below A.out
    have hbk := hwr.bks
    rw [hnn] at hbk
    obtain ⟨ca0, ca1⟩ := hbk.at i A1 hA1
    obtain ⟨cb0, cb1⟩ := hbk.at (i + 1) B1 hB1
    obtain ⟨ch, fh⟩ := hwr.cell
    rw [hnn] at ch
    rw [Nat.zero_add] at ca0 ca1 cb0 cb1
    have hz : (0 : Int) ≤ (i : Int) + 1 := by omega
    have hin : i < n := by omega
    have hin2 : (i : Int) + 1 < (n : Int) := by omega
    have hwr1 : IntKind.i64.wrap (i : Int) = (i : Int) := by rw [IntKind.wrap_i64]; omega
    have HWR := yyh hwr
    change wr.cell? _ = some (.slice A1.a A1.L.length A1.k) at ca1
    change wr.cell? _ = some (.slice B1.a B1.L.length B1.k) at cb1
    have hgl : g < wr.heap.size := World.block_lt_of_cell? wr _ ca0
    have hpl : p < wr.heap.size := World.block_lt_of_cell? wr _ ch
    have hgl1 : ¬ g = wr.heap.size := by omega
    have hpl1 : ¬ p = wr.heap.size := by omega
    clear hwr hbk hnn hp1 hv1 hF1 hbg
    go_upto_region 4 with fail
    go_cut [3, 4] (fun v3 v4 wx => ∃ xa xb : Nat, v3 = .pointer (some ⟨xa, 0, none⟩) ∧ v4 = .pointer (some ⟨xb, 0, none⟩) ∧ Aside (wx.heap[xa]? = some (.cells #[.int .i64 (lvl A1.L.length), .slice A1.a A1.L.length A1.k] 222 (0, 0)) ∧ wx.heap[xb]? = some (.cells #[.int .i64 (lvl B1.L.length), .slice B1.a B1.L.length B1.k] 222 (0, 0)) ∧ Below wr.heap.size wr wx ∧ wr.heap.size ≤ xa ∧ wr.heap.size ≤ xb))
    case first =>
     go_region
     all_goals go_wp2_with fail
     all_goals go_meet
     all_goals first
      | exact ⟨wr.heap.size, wr.heap.size + 1, rfl, rfl, zan (heap_alloc_new wr _), zax (by simp), zaf (zab (zab yyr _) _), by omega, by omega⟩
      | exact ⟨wr.heap.size + 1, wr.heap.size, rfl, rfl, zax (by simp), zan (heap_alloc_new wr _), zaf (zab (zab yyr _) _), by omega, by omega⟩
    case rest =>
     obtain ⟨xa, xb, rfl, rfl, A2⟩ := hcut
     obtain ⟨kx0, kx1, hbx, hxa, hxb⟩ := A2.out
     obtain ⟨x0', x1', -, -⟩ := zao kx0
     obtain ⟨y0', y1', -, -⟩ := zao kx1
     have hdx := zae hbx ch
     have HBX := yyh hbx
     have HXI := yyh (HWR.out.below hbx)
     have HXB := yyh (show g < xa ∧ g < xb ∧ p < xa ∧ p < xb from by omega)
     clear kx0 kx1 hbx A2 ca0 ca1 cb0 cb1 ch hgl hpl hgl1 hpl1 hxa hxb
     by_cases hlv : lvl A1.L.length = lvl B1.L.length
     ·
      have g2 : ((lvl A1.L.length : Int) == (lvl B1.L.length : Int)) = true := by rw [beq_iff_eq]; omega
      clear hlv
      obtain ⟨hnn, hp1, hv1, hF1⟩ := HH.out
      have hLX := HXI.out.below (zaf yyr)
      rw [hnn] at hLX
      have hS0 : SM xa xb A1 B1 wc.drew := ⟨x0', x1', y0', y1'⟩
      have hmemA := List.mem_of_getElem? hA1
      have hmemB := List.mem_of_getElem? hB1
      have hsum : A1.L.length + B1.L.length ≤ NB := by
       have h1 := hp1.length_eq
       have h2 := HN.out.2
       rw [zs5 hA1 hB1, zav, zav] at h1
       simp [zaq] at h1 h2
       omega
      obtain ⟨mm, hmm⟩ := yye (A1.L.length + B1.L.length)
      have hlm : (zaj (A1.L ++ B1.L)).length = mm := by rw [zam, List.length_append, hmm]
      have hMG : Calls Tryz.prog 232 #[.agg #[.int .i64 (lvl A1.L.length), .slice A1.a A1.L.length A1.k], .agg #[.int .i64 (lvl B1.L.length), .slice B1.a B1.L.length B1.k]] wc.drew fun e w' => ∃ a3 k3, e = .returned (.agg #[.int .i64 (lvl mm), .slice a3 mm k3]) ∧ M1 wc.drew p base g n k1 xa xb A1 B1 bs1 ⟨zaj (A1.L ++ B1.L), a3, k3⟩ w' := by
       refine (zs3 (W := wc.drew) hsum (hLX.ins A1 hmemA).1.1 (hLX.ins B1 hmemB).1.1).mono ?_
       rintro e w' ⟨v', rfl, hE, -, hB⟩
       obtain ⟨a3, k3, rfl, -⟩ := SlV.clip hE
       refine ⟨a3, k3, by rw [hlm, hmm]; rfl, M1.make hS0 hLX hE hB⟩
      have hRE : ∀ (x : Bk) (q : Nat) (w2 : World), M2 wc.drew p base g n k1 xa xb A1 B1 bs1 x q w2 → x.L = zaj (A1.L ++ B1.L) → Calls Tryz.prog 271 #[.slice (some ⟨g, 0, none⟩) n k1, .int .i64 i, .int .i64 ((i : Int) + 2), .slice (some ⟨q, 0, none⟩) 1 1] w2 fun e w3 => ∃ a4 k4, e = .returned (.slice a4 (n - 1) k4) ∧ M3 wc.drew p base g n k1 xa xb A1 B1 bs1 a4 k4 w3 :=
       fun x q w2 hm hx => M2.repl hm hnn (by omega) (by omega) hA1 hB1 (by
        obtain ⟨cur, hc⟩ := zba hLX.own rfl
        exact zac hc) HXB.out hx
      have HS0 := yyh hS0
      have HMG := yyh hMG
      have HRE := yyh hRE
      have HLM := yyh hlm
      have hw2 : IntKind.i64.wrap ((i : Int) + 2) = (i : Int) + 2 := by rw [IntKind.wrap_i64]; omega
      have hw3 : IntKind.i64.wrap ((i : Int) + 1 + 1) = (i : Int) + 2 := by rw [IntKind.wrap_i64]; omega
      clear hnn hp1 hv1 hF1 hLX hS0 hmemA hmemB hsum hMG hRE hlm hmm
      go_upto_region 6 with fail
      go_cut [] (fun w4 => M4 wc.drew p base g n k1 bs1 w4)
      case first =>
       skip
      -- REGION 6 BEGIN
       refine wp_region_held_drew (S := SM xa xb A1 B1) (by kernel_rfl) HS0.out (fun hH => ?_)
       refine tq 0 ?_ rfl ?_ ?_
       rotate_left
       · (rintro w ⟨_, _, _, _⟩; go_simp; try with_reducible rfl)
       try simp only [Act.put, pA, pB, pC]
       refine tq 1 ?_ rfl ?_ ?_
       rotate_left
       · (rintro w ⟨_, _, _, _⟩; go_simp; try with_reducible rfl)
       try simp only [Act.put, pA, pB, pC]
       refine tq 2 ?_ rfl ?_ ?_
       rotate_left
       · (rintro w ⟨_, _, _, _⟩; go_simp; try with_reducible rfl)
       try simp only [Act.put, pA, pB, pC]
       refine tq 3 ?_ rfl ?_ ?_
       rotate_left
       · (rintro w ⟨_, _, _, _⟩; go_simp; try with_reducible rfl)
       try simp only [Act.put, pA, pB, pC]
       refine tq 5 ?_ rfl ?_ ?_
       rotate_left
       · (rintro w ⟨_, _, _, _⟩; go_simp; try with_reducible rfl)
       try simp only [Act.put, pA, pB, pC]
       refine tq 6 ?_ rfl ?_ ?_
       rotate_left
       · (rintro w ⟨_, _, _, _⟩; go_simp; try with_reducible rfl)
       try simp only [Act.put, pA, pB, pC]
       refine tq 7 ?_ rfl ?_ ?_
       rotate_left
       · (rintro w ⟨_, _, _, _⟩; go_simp; try with_reducible rfl)
       try simp only [Act.put, pA, pB, pC]
       refine tq 8 ?_ rfl ?_ ?_
       rotate_left
       · (rintro w ⟨_, _, _, _⟩; go_simp; try with_reducible rfl)
       try simp only [Act.put, pA, pB, pC]
       refine tq 9 ?_ rfl ?_ ?_
       rotate_left
       · (rintro w ⟨_, _, _, _⟩; go_simp; try with_reducible rfl)
       try simp only [Act.put, pA, pB, pC]
       refine tq 10 ?_ rfl ?_ ?_
       rotate_left
       · (rintro w ⟨_, _, _, _⟩; go_simp; try with_reducible rfl)
       try simp only [Act.put, pA, pB, pC]
       refine wpAnyH_ready (rs := [4, 11]) (by kernel_rfl) (by simp) ?_
       refine AllReadyH.cons rfl (fun K hK => ?_) ?_
       ·
        (go_simp)
        refine hK.out _ _ ?_ (fun hH => ?_)
        · (try dsimp only); (exact hH)
        clear hK K
        refine rd 11 (by kernel_rfl) rfl (fun K hK => ?_)
        ·
         (go_simp; go_at_call 232; refine HMG.out.mono ?_; rintro e w1 ⟨a3, k3, rfl, hM1⟩; have HM := yyh hM1; have hh1 := hM1.cell; clear hM1)
         refine hK.out _ _ ?_ (fun hH => ?_)
         · (try dsimp only); (exact HM.out.sm)
         clear hK K
         refine rd 12 (by kernel_rfl) rfl (fun K hK => ?_)
         ·
          (go_simp; have hAL := M1.al HM.out mm HLM.out; have HAL := yyh hAL; have hh2 := hAL.m.cell; clear hAL)
          refine hK.out _ _ ?_ (fun hH => ?_)
          · (try dsimp only); (exact HAL.out.m.sm)
          clear hK K
          refine rd 13 (by kernel_rfl) rfl (fun K hK => ?_)
          ·
           (go_simp; go_at_call 271; refine (HRE.out _ _ _ HAL.out rfl).mono ?_; rintro e w3 ⟨a4, k4, rfl, hM3⟩; have HRP := yyh hM3; have hh3 := hM3.cell; have hf3 := hM3.free; clear hM3)
           refine hK.out _ _ ?_ (fun hH => ?_)
           · (try dsimp only); (exact HRP.out.sm)
           clear hK K
           refine rd 14 (by kernel_rfl) rfl (fun K hK => ?_)
           ·
            (go_simp)
            refine hK.out _ _ ?_ (fun hH => ?_)
            · (try dsimp only); (exact HRP.out.sm)
            clear hK K
            refine rd 15 (by kernel_rfl) rfl (fun K hK => ?_)
            ·
             (go_simp)
             refine hK.out _ _ ?_ (fun hH => ?_)
             · (try dsimp only); (exact HRP.out.sm)
             clear hK K
             refine rd 16 (by kernel_rfl) rfl (fun K hK => ?_)
             ·
              (go_simp)
              refine hK.out _ _ ?_ (fun hH => ?_)
              · (try dsimp only); (exact HRP.out.sm4)
              clear hK K
              refine wpAnyH_done (by kernel_rfl) ?_ _
              go_wp2_with fail
              go_meet
              exact HRP.out.m4
       refine AllReadyH.cons rfl (fun K hK => ?_) ?_
       ·
        (go_simp; go_at_call 232; refine HMG.out.mono ?_; rintro e w1 ⟨a3, k3, rfl, hM1⟩; have HM := yyh hM1; have hh1 := hM1.cell; clear hM1)
        refine hK.out _ _ ?_ (fun hH => ?_)
        · (try dsimp only); (exact HM.out.sm)
        clear hK K
        refine wpAnyH_ready (rs := [4, 12]) (by kernel_rfl) (by simp) ?_
        refine AllReadyH.cons rfl (fun K hK => ?_) ?_
        ·
         (go_simp)
         refine hK.out _ _ ?_ (fun hH => ?_)
         · (try dsimp only); (exact hH)
         clear hK K
         refine rd 12 (by kernel_rfl) rfl (fun K hK => ?_)
         ·
          (go_simp; have hAL := M1.al HM.out mm HLM.out; have HAL := yyh hAL; have hh2 := hAL.m.cell; clear hAL)
          refine hK.out _ _ ?_ (fun hH => ?_)
          · (try dsimp only); (exact HAL.out.m.sm)
          clear hK K
          refine rd 13 (by kernel_rfl) rfl (fun K hK => ?_)
          ·
           (go_simp; go_at_call 271; refine (HRE.out _ _ _ HAL.out rfl).mono ?_; rintro e w3 ⟨a4, k4, rfl, hM3⟩; have HRP := yyh hM3; have hh3 := hM3.cell; have hf3 := hM3.free; clear hM3)
           refine hK.out _ _ ?_ (fun hH => ?_)
           · (try dsimp only); (exact HRP.out.sm)
           clear hK K
           refine rd 14 (by kernel_rfl) rfl (fun K hK => ?_)
           ·
            (go_simp)
            refine hK.out _ _ ?_ (fun hH => ?_)
            · (try dsimp only); (exact HRP.out.sm)
            clear hK K
            refine rd 15 (by kernel_rfl) rfl (fun K hK => ?_)
            ·
             (go_simp)
             refine hK.out _ _ ?_ (fun hH => ?_)
             · (try dsimp only); (exact HRP.out.sm)
             clear hK K
             refine rd 16 (by kernel_rfl) rfl (fun K hK => ?_)
             ·
              (go_simp)
              refine hK.out _ _ ?_ (fun hH => ?_)
              · (try dsimp only); (exact HRP.out.sm4)
              clear hK K
              refine wpAnyH_done (by kernel_rfl) ?_ _
              go_wp2_with fail
              go_meet
              exact HRP.out.m4
        refine AllReadyH.cons rfl (fun K hK => ?_) ?_
        ·
         (go_simp; have hAL := M1.al HM.out mm HLM.out; have HAL := yyh hAL; have hh2 := hAL.m.cell; clear hAL)
         refine hK.out _ _ ?_ (fun hH => ?_)
         · (try dsimp only); (exact HAL.out.m.sm)
         clear hK K
         refine rd 4 (by kernel_rfl) rfl (fun K hK => ?_)
         ·
          (go_simp)
          refine hK.out _ _ ?_ (fun hH => ?_)
          · (try dsimp only); (exact hH)
          clear hK K
          refine rd 13 (by kernel_rfl) rfl (fun K hK => ?_)
          ·
           (go_simp; go_at_call 271; refine (HRE.out _ _ _ HAL.out rfl).mono ?_; rintro e w3 ⟨a4, k4, rfl, hM3⟩; have HRP := yyh hM3; have hh3 := hM3.cell; have hf3 := hM3.free; clear hM3)
           refine hK.out _ _ ?_ (fun hH => ?_)
           · (try dsimp only); (exact HRP.out.sm)
           clear hK K
           refine rd 14 (by kernel_rfl) rfl (fun K hK => ?_)
           ·
            (go_simp)
            refine hK.out _ _ ?_ (fun hH => ?_)
            · (try dsimp only); (exact HRP.out.sm)
            clear hK K
            refine rd 15 (by kernel_rfl) rfl (fun K hK => ?_)
            ·
             (go_simp)
             refine hK.out _ _ ?_ (fun hH => ?_)
             · (try dsimp only); (exact HRP.out.sm)
             clear hK K
             refine rd 16 (by kernel_rfl) rfl (fun K hK => ?_)
             ·
              (go_simp)
              refine hK.out _ _ ?_ (fun hH => ?_)
              · (try dsimp only); (exact HRP.out.sm4)
              clear hK K
              refine wpAnyH_done (by kernel_rfl) ?_ _
              go_wp2_with fail
              go_meet
              exact HRP.out.m4
        exact AllReadyH.nil
       exact AllReadyH.nil
      -- REGION 6 END
      case rest =>
       obtain ⟨v4, bs4, hL4, hP4, hlen4, hv4, hF4⟩ := hcut
       obtain ⟨a4, k4, rfl, -, -, -⟩ := hL4.val
       obtain ⟨c4, f4⟩ := hL4.cell
       obtain ⟨hnn, hp1, hv1, hF1⟩ := HH.out
       have hS4 := zer 272 (enters_of Tryz.func272 (by kernel_rfl) rfl) znq (show bs4.length ≤ 19 from by omega) (SlV.of_owns hL4.own)
       have HS4 := yyh hS4
       have HE4 := yyh (yyi hL4 (yyi hP4 (yyi hlen4 (yyi hv4 hF4))))
       clear hS4 hL4 hP4 hv4 hF4 hnn hp1 hv1 hF1
       go_wp2_with fail
       refine HS4.out.mono ?_
       rintro e w5 ⟨rfl, m5, hp5, hS5, hO5, hF5⟩
       obtain ⟨hL4, hP4, hlen4, hv4, hF4⟩ := HE4.out
       have HL5 := yyh (yyi (zmj hL4 hp5 hO5 hF5) (yyi hp5 hF5))
       clear hS5 hO5 hF5 hL4 hP4 hv4 hF4
       go_wp2_with fail
       go_step3
       obtain ⟨hL5, hp5, hF5⟩ := HL5.out
       obtain ⟨hL4, hP4, hlen4, hv4, hF4⟩ := HE4.out
       obtain ⟨hnn, hp1, hv1, hF1⟩ := HH.out
       rw [hnn] at hv1
       have hvg : v.ownBlock = some g := hv1.symm
       have hFr : Fr (zhr p v) w w5 := by
        refine (Fr.of_below A.out).trans ((Fr.of_below HBX.out).trans ((Fr.refl _ _).dr.trans (Fr.trans (hF4.mono ?_) (hF5.mono ?_))))
        ·
         intro k hk
         rcases hk with hk | hk
         · exact .inl hk
         · exact .inr (hvg.trans hk)
        · intro k hk
          exact .inr (by rw [hvg, ← hv4]; exact hk)
       refine ⟨rfl, ⟨⟨rfl, rfl, rfl⟩, _, m5, hL5, ((zj7 hp5).trans hP4).trans hp1, by rw [hp5.length_eq]; omega, hv4.trans hv1, hF1.trans hFr⟩, ?_⟩
       obtain ⟨c5, -⟩ := hL5.cell
       rw [HLN.out, zj6 c5]
       omega
     ·
      have g2 : ((lvl A1.L.length : Int) == (lvl B1.L.length : Int)) = false := by rw [beq_eq_false_iff_ne]; omega
      go_wp2_with fail
      go_roundg (i + 1)
      case measure => omega
      case rel => exact ⟨(i : Int), by omega, by omega, by omega, by go_num, (show Aside _ from zad HBX.out A.out)⟩
   ·
    have g1 : decide (0 < x) = false := by simpa using hx
    go_wp2_with fail
    simp only [Exit.jump]
    go_end0
    obtain ⟨e1, e2, e3, e4⟩ := HH.out
    have hl := H1.out.below A.out
    rw [e1] at hl e3
    exact ⟨rfl, _, bs1, hl, e2, by omega, e3, e4.trans (Fr.of_below A.out)⟩
theorem zzp (W : World) : Calls Tryz.prog 163 #[] W fun e w' => e = .returned (.pointer (some ⟨W.heap.size, 0, none⟩)) ∧ w' = W.alloc (.cells #[.slice none 0 0] 220) := by
 go_enter Tryz.func163, Tryz.ntmps163
 go_wp2_with fail
 go_ret
 exact ⟨rfl, rfl⟩
section
variable {W : World} {p base : Nat} {v : Value} {bs : List Bk}
theorem zzx (h : zbi W p base v bs) (hn : bs.length ≤ 1000) (hN : (zaq bs).length ≤ 1000) : Calls Tryz.prog 175 #[.pointer (some ⟨p, 0, none⟩)] W fun e w' => e = .returned (.int .i64 (zaq bs).length) ∧ Below W.heap.size W w' := by
 obtain ⟨a, k, rfl, hk, hkm, hna⟩ := h.val
 obtain ⟨c0, f0⟩ := h.cell
 have hm : (k : Int) ≤ 9223372036854775807 := by unfold maxLen at hkm; omega
 obtain ⟨n, hnn⟩ := yye (bs.length)
 have H := yyh h
 have HN := yyh (yyi hnn hN)
 rw [hnn] at hn hk c0 hna H
 clear h hnn hN
 go_enter Tryz.func175, Tryz.ntmps175
 go_wp2_with fail
 go_loopg [3, 11] n (fun gg v3 v11 wr => ∃ i : Nat, i ≤ n ∧ gg = n - i ∧ v11 = .int .i64 i ∧ v3 = .int .i64 (zaq (bs.take i)).length ∧ Aside (Below W.heap.size W wr))
 case atStart => exact ⟨0, by omega, by omega, rfl, by simp [zaq], (show Aside _ from yyr)⟩
 case round =>
  obtain ⟨i, hi, rfl, rfl, rfl, A⟩ := hrel
  by_cases hlt : i < n
  ·
   have hib : i < bs.length := by rw [HN.out.1]; exact hlt
   obtain ⟨b, hb⟩ : ∃ b, bs[i]? = some b := ⟨_, yyg hib⟩
   obtain ⟨g, cap, e1, -, -, hbg, -⟩ := zco H.out.own (by omega)
   injection e1 with e1 e2 e3
   clear e2
   subst e1 e3
   have hW := (H.out.below A.out).bks
   obtain ⟨d0, d1⟩ := hW.at i b hb
   change wr.cell? _ = some (.slice b.a b.L.length b.k) at d1
   rw [Nat.zero_add] at d0 d1
   have hT := zd8 bs i b hb
   have hT2 : ((zaq (bs.take (i + 1))).length : Int) = ((zaq (bs.take i)).length : Int) + (b.L.length : Int) := by rw [hT, List.length_append]; omega
   have hbd := zdd bs (i + 1)
   have HT := yyh hT2
   have hwr : IntKind.i64.wrap (((zaq (bs.take i)).length : Int) + (b.L.length : Int)) = ((zaq (bs.take i)).length : Int) + (b.L.length : Int) := by
    have := HN.out.2
    rw [IntKind.wrap_i64]
    omega
   clear hW hT hT2 hbg
   generalize (zaq (bs.take i)).length = q at *
   generalize b.L.length = r at *
   go_wp2_with fail
   go_roundg (n - (i + 1))
   case measure => omega
   case rel => exact ⟨i + 1, by omega, rfl, by go_num, by rw [HT.out], (show Aside _ from zab A.out _)⟩
  ·
   obtain rfl : i = n := by omega
   have hT : bs.take i = bs := List.take_of_length_le (by rw [HN.out.1]; exact yyn)
   have HT := yyh hT
   clear hT
   go_wp2_with fail
   go_ret
   exact ⟨by rw [HT.out]; rfl, A.out⟩
theorem znt {X : List En} {l : List En} (hl : zbh l) : zb6 (zaj X) l = zaj (X ++ l) := by
 rw [zc1 (zbb X) hl]
 exact zbw (List.Perm.append_right l (za2 X))
theorem zyt (h : zbi W p base v bs) (hn : bs.length ≤ 1000) (hN : (zaq bs).length ≤ 1000) : Calls Tryz.prog 97 #[.pointer (some ⟨p, 0, none⟩)] W fun e w' => ∃ v', e = .returned v' ∧ zay w' v' (zaj (zaq bs)) ∧ (∀ c, v'.ownBlock = some c → W.heap.size ≤ c) ∧ Below W.heap.size W w' := by
 obtain ⟨a, k, rfl, hk, hkm, hna⟩ := h.val
 obtain ⟨c0, f0⟩ := h.cell
 have hm : (k : Int) ≤ 9223372036854775807 := by unfold maxLen at hkm; omega
 obtain ⟨n, hnn⟩ := yye (bs.length)
 have H := yyh h
 have HN := yyh (yyi hnn hN)
 rw [hnn] at hn hk c0 hna H
 clear h hnn hN
 go_enter Tryz.func97, Tryz.ntmps97
 go_wp2_with fail
 go_loopg [3, 11] n (fun gg v3 v11 wr => ∃ i : Nat, i ≤ n ∧ gg = n - i ∧ v11 = .int .i64 i ∧ Aside (zay wr v3 (zaj (zaq (bs.take i))) ∧ (∀ c, v3.ownBlock = some c → W.heap.size ≤ c) ∧ Below W.heap.size W wr))
 case atStart => exact ⟨0, by omega, by omega, rfl, (show Aside _ from ⟨by simpa [zaq, zaj] using zay.nil W, (fun c hc => nomatch hc), yyr⟩)⟩
 case round =>
  obtain ⟨i, hi, rfl, rfl, A⟩ := hrel
  by_cases hlt : i < n
  ·
   have hib : i < bs.length := by rw [HN.out.1]; exact hlt
   obtain ⟨b, hb⟩ : ∃ b, bs[i]? = some b := ⟨_, yyg hib⟩
   obtain ⟨g, cap, e1, -, -, hbg, -⟩ := zco H.out.own (by omega)
   injection e1 with e1 e2 e3
   clear e2
   subst e1 e3
   obtain ⟨hE, hge, hB⟩ := A.out
   have hL := H.out.below hB
   have hW := hL.bks
   obtain ⟨d0, d1⟩ := hW.at i b hb
   change wr.cell? _ = some (.slice b.a b.L.length b.k) at d1
   rw [Nat.zero_add] at d0 d1
   have hbi := hW.2 b (List.mem_of_getElem? hb)
   have hT : zaj (zaq (bs.take (i + 1))) = zb6 (zaj (zaq (bs.take i))) b.L := by rw [znt hbi.2, zd8 bs i b hb]
   have hbd := zdd bs (i + 1)
   rw [zd8 bs i b hb, List.length_append] at hbd
   have hba : Below wr.heap.size wr (wr.alloc (.cells #[.int .i64 (lvl b.L.length), .slice b.a b.L.length b.k] 222)) := zab yyr _
   have hMG := zoy (W := wr.alloc (.cells #[.int .i64 (lvl b.L.length), .slice b.a b.L.length b.k] 222)) (by rw [zam]; have := HN.out.2; omega) (zay.below hE hba) (zay.below hbi.1 hba)
   change Calls _ _ #[_, .slice b.a b.L.length b.k] _ _ at hMG
   have HMG := yyh hMG
   have HT := yyh hT
   have HB := yyh (yyi hB (zad hba hB))
   generalize hr : b.L.length = r at d0 d1 HMG HB
   clear A hE hge hB hL hW hbi hT hbd hba hMG hbg hr
   go_wp2_with fail
   refine HMG.out.mono ?_
   rintro e w2 ⟨v2, rfl, hO2, hB2⟩
   have HX := yyh (yyi hO2 hB2)
   clear hO2 hB2
   go_wp2_with fail
   go_roundg (n - (i + 1))
   case measure => omega
   case rel =>
    obtain ⟨hO2, hB2⟩ := HX.out
    refine ⟨i + 1, by omega, rfl, by go_num, (show Aside _ from ⟨by rw [HT.out]; exact hO2.es, fun c hc => Nat.le_trans HB.out.2.size (hO2.ge c hc), zad hB2 HB.out.2⟩)⟩
  ·
   obtain rfl : i = n := by omega
   have hT : bs.take i = bs := List.take_of_length_le (by rw [HN.out.1]; exact yyn)
   obtain ⟨hE, hge, hB⟩ := A.out
   rw [hT] at hE
   have HC := yyh (zh0 (W := wr) (v := u3) hE)
   obtain ⟨a5, k5, h5, -⟩ := SlV.clip hE
   subst h5
   have HX := yyh (yyi hge hB)
   clear A hE hge hB hT
   go_wp2_with fail
   refine HC.out.mono ?_
   rintro e w2 ⟨v2, rfl, hS2, hb2, rfl⟩
   go_wp2_with fail
   go_ret
   exact ⟨_, rfl, hS2, fun c hc => HX.out.1 c (hb2 ▸ hc), HX.out.2⟩
theorem zxb (h : zbi W p base v bs) (hn : bs.length ≤ 1000) (hN : (zaq bs).length ≤ 1000) : Calls Tryz.prog 177 #[.pointer (some ⟨p, 0, none⟩)] W fun e w' => ∃ v', e = .returned v' ∧ zay w' v' (zaj (zaq bs)) ∧ (∀ c, v'.ownBlock = some c → W.heap.size ≤ c) ∧ zbi w' p base (.slice none 0 0) [] ∧ Fr (fun k => k = p) W w' := by
 have HA := yyh (zyt h hn hN)
 have H := yyh h
 clear h
 go_enter Tryz.func177, Tryz.ntmps177
 go_wp2_with fail
 refine HA.out.mono ?_
 rintro e w1 ⟨v1, rfl, hE, hge, hB⟩
 have hL := H.out.below hB
 obtain ⟨c1, f1⟩ := hL.cell
 have hpl := zac H.out.hdr
 have HX := yyh (yyi hE (yyi hge (yyi hB hL)))
 clear hE hge hB hL
 go_wp2_with fail
 go_ret
 obtain ⟨hE, hge, hB, hL⟩ := HX.out
 have hF : Fr (fun k => k = p) w1 (w1.setCell ⟨p, 0, none⟩ (.slice none 0 0)) := Fr.set (S := fun k => k = p) (Fr.refl _ _) (p := ⟨p, 0, none⟩) rfl _
 refine ⟨_, rfl, zay.fr hE hF (fun c hc e => by have := hge c hc; omega), hge, ⟨?_, ⟨rfl, .inl ⟨rfl, rfl⟩⟩, fun b hb => nomatch hb⟩, (Fr.of_below hB).trans hF⟩
 rw [zai hL.hdr]
 rfl
def zxc (l : List En) : Value := .tuple #[enV (l.headD ⟨0, 0⟩), .bool (!l.isEmpty)]
theorem zzq (h : zbi W p base v bs) (hn : bs.length ≤ 1000) (hN : (zaq bs).length ≤ NB) : Calls Tryz.prog 258 #[.pointer (some ⟨p, 0, none⟩)] W fun e w' => e = .returned (zxc (zaj (zaq bs))) ∧ Below W.heap.size W w' := by
 obtain ⟨a, k, hv, hk, hkm, hna⟩ := h.val
 obtain ⟨c0, f0⟩ := h.cell
 have hba : Below W.heap.size W (W.alloc (.cells #[.int .u64 0, .int .i64 0] 63)) := zab yyr _
 have HP := yyh (zs4 (W := W.alloc (.cells #[.int .u64 0, .int .i64 0] 63)) (v := v) (bs := bs) (h.bks.below hba) hN hn 1 (by decide))
 subst hv
 have hpl := zac h.hdr
 clear h
 go_enter Tryz.func258, Tryz.ntmps258
 go_wp2_with fail
 refine HP.out.mono ?_
 rintro e w1 ⟨v1, rfl, hE, hge, hB⟩
 have hk0 := (hB.block _ (by simp)).trans (heap_alloc_new W (.cells #[.int .u64 0, .int .i64 0] 63))
 obtain ⟨x0, x1, g0, g1⟩ := zao hk0
 have hWB := yyh (zad hB hba)
 clear hB hge hk0
 obtain ⟨l, hl⟩ := yye (zaj (zaq bs))
 rw [hl] at hE
 have HL := yyh hl
 clear hl
 cases l with
 | nil =>
  obtain ⟨a1, k1, rfl, -⟩ := SlV.clip hE
  clear hE
  go_wp2_with fail
  refine bodyPost_ret (v := .tuple #[.agg #[.int .u64 0, .int .i64 0], .bool false]) (by simp [results, Tryz.results258, go_sem, x0, x1]) rfl ?_
  exact ⟨by rw [HL.out]; rfl, zak (zak hWB.out _ _ _ yyn) _ _ _ yyn⟩
 | cons e l =>
  have hE : zay w1 v1 [e] := by simpa using hE
  obtain ⟨b, off, cap, rfl, -, hcm, -, y0, y1, -⟩ := zay.head hE
  have hcz : (cap : Int) ≤ 9223372036854775807 := by unfold maxLen at hcm; omega
  clear hE
  go_wp2_with fail
  refine bodyPost_ret (v := .tuple #[.agg #[.int .u64 e.key, .int .i64 e.id], .bool true]) (by simp [results, Tryz.results258, go_sem, x0, x1]) rfl ?_
  exact ⟨by rw [HL.out]; rfl, zak (zak hWB.out _ _ _ yyn) _ _ _ yyn⟩
end
def SP (eb : Nat) (e : En) (w : World) : Prop := w.cell? ⟨eb, 0, none⟩ = some (.int .u64 e.key) ∧ w.cell? ⟨eb, 1, none⟩ = some (.int .i64 e.id)
theorem SP.below {eb : Nat} {e : En} {w w' : World} (h : SP eb e w) (hb : Below w.heap.size w w') : SP eb e w' := ⟨zae hb h.1, zae hb h.2⟩
theorem SP.fr {S : Nat → Prop} {eb : Nat} {e : En} {w w' : World} (h : SP eb e w) (f : Fr S w w') (ha : ¬ S eb) : SP eb e w' := ⟨za6 f ha h.1, za6 f ha h.2⟩
section
variable (wc : World) (p base : Nat) (v : Value) (bs : List Bk) (eb : Nat) (e : En)
structure P0 (w : World) : Prop where
 sm : SP eb e w
 cell : w.cell? ⟨p, 0, none⟩ = some v
 lsm : zbi w p base v bs
 bel : Below wc.heap.size wc w
 ge : base ≤ wc.heap.size
 eb1 : wc.heap[eb]? = some (.cells #[.int .u64 e.key, .int .i64 e.id] 63 (0, 0))
variable {wc p base v bs eb e}
theorem P0.to {w w' : World} (h : P0 wc p base v bs eb e w) (hb : Below w.heap.size w w') : P0 wc p base v bs eb e w' := ⟨h.sm.below hb, (h.lsm.below hb).cell.1, h.lsm.below hb, zad hb h.bel, h.ge, h.eb1⟩
variable (wc p base v bs eb e)
structure P1 (q : Nat) (w : World) : Prop extends P0 wc p base v bs eb e w where
 one : zay w (.slice (some ⟨q, 0, none⟩) 1 1) [e]
structure P2 (a3 : Option Addr) (k3 : Nat) (w : World) : Prop extends P0 wc p base v bs eb e w where
 es : zay w (.slice a3 1 k3) [e]
structure P3 (a3 : Option Addr) (k3 : Nat) (q : Nat) (w : World) : Prop extends P2 wc p base v bs eb e a3 k3 w where
 heap : w.heap[q]? = some (.cells (bkC ⟨[e], a3, k3⟩).toArray 222 (0, 0))
variable {wc p base v bs eb e}
theorem P0.al {w : World} (h : P0 wc p base v bs eb e w) : P1 wc p base v bs eb e w.heap.size (w.alloc (.cells #[.int .u64 e.key, .int .i64 e.id] 63)) :=
 ⟨h.to (zab yyr _), zay.one w e _ rfl⟩
theorem P1.of {q : Nat} {w : World} (h : P1 wc p base v bs eb e q w) : Calls Tryz.prog 227 #[.slice (some ⟨q, 0, none⟩) 1 1] w fun en w' => ∃ a3 k3, en = .returned (.agg #[.int .i64 (lvl 1), .slice a3 1 k3]) ∧ P2 wc p base v bs eb e a3 k3 w' := by
 refine (BOf (l := [e]) (by unfold NB; simp) h.one).mono ?_
 rintro en w' ⟨v', rfl, hE, -, hB⟩
 obtain ⟨a3, k3, rfl, -⟩ := SlV.clip hE
 exact ⟨a3, k3, rfl, h.toP0.to hB, hE⟩
theorem P2.al {a3 : Option Addr} {k3 : Nat} {w : World} (h : P2 wc p base v bs eb e a3 k3 w) : P3 wc p base v bs eb e a3 k3 w.heap.size (w.alloc (.cells #[.int .i64 (lvl 1), .slice a3 1 k3] 222)) := by
 have hb : Below w.heap.size w (w.alloc (.cells #[.int .i64 (lvl 1), .slice a3 1 k3] 222)) := zab yyr _
 exact ⟨⟨h.toP0.to hb, zay.below h.es hb⟩, heap_alloc_new w _⟩
theorem P3.own {a3 : Option Addr} {k3 q n : Nat} {w : World} (h : P3 wc p base v bs eb e a3 k3 q w) (hn : bs.length = n) : w.ownsRow base 222 2 v n (zau bs) := by rw [← hn]; exact h.lsm.own
theorem P3.geW {a3 : Option Addr} {k3 q : Nat} {w : World} (h : P3 wc p base v bs eb e a3 k3 q w) : base ≤ w.heap.size := Nat.le_trans h.ge h.bel.size
variable (wc p base v bs eb e)
def M7 (w4 : World) : Prop := ∃ v4 bs4, zbi w4 p base v4 bs4 ∧ (zaq bs4).Perm (e :: zaq bs) ∧ bs4.length = bs.length + 1 ∧ (v4.ownBlock = v.ownBlock ∨ ∀ c, v4.ownBlock = some c → wc.heap.size ≤ c) ∧ Fr (zhr p v) wc w4
structure P4 (n g4 k4 : Nat) (w9 : World) : Prop where
 sm : SP eb e w9
 cell : w9.cell? ⟨p, 0, none⟩ = some v
 free : w9.frozen? ⟨p, 0, none⟩ = false
 sm4 : SP eb e (w9.setCell ⟨p, 0, none⟩ (.slice (some ⟨g4, 0, none⟩) (n + 1) k4))
 m4 : M7 wc p base v bs e (w9.setCell ⟨p, 0, none⟩ (.slice (some ⟨g4, 0, none⟩) (n + 1) k4))
variable {wc p base v bs eb e}
theorem P4.make {a3 : Option Addr} {k3 q n g4 k4 : Nat} {w w9 : World} (h : P3 wc p base v bs eb e a3 k3 q w) (hn : bs.length = n) (hpe : p < eb ∧ eb < wc.heap.size) (hown : w9.ownsRow base 222 2 (.slice (some ⟨g4, 0, none⟩) (n + 1) k4) (n + 1) (zau bs ++ bkC ⟨[e], a3, k3⟩)) (hg : w.grownBy w9 v.ownBlock) (hat : v.ownBlock = some g4 ∨ g4 = w.heap.size) : P4 wc p base v bs eb e n g4 k4 w9 := by
 have hF : Fr (fun k => v.ownBlock = some k) w w9 := (Fr.grown hg).mono (fun k hk => hk.symm)
 have hpn : ¬ v.ownBlock = some p := fun e => h.lsm.ne p e rfl
 have hen : ¬ v.ownBlock = some eb := fun e1 => by
  obtain ⟨cur, h1⟩ := zba h.lsm.own e1
  have h2 := (h.bel.block eb hpe.2).trans h.eb1
  rw [h1] at h2
  injection h2 with h2
  injection h2 with _ h2 _
  exact absurd h2 (by decide)
 have hfp := (hF.block p (zac h.lsm.hdr) hpn).trans h.lsm.hdr
 have hsm3 := h.sm.fr hF hen
 have hF4 : Fr (fun k => k = p) w9 (w9.setCell ⟨p, 0, none⟩ (.slice (some ⟨g4, 0, none⟩) (n + 1) k4)) := Fr.set (S := fun k => k = p) (Fr.refl _ _) (p := ⟨p, 0, none⟩) rfl _
 have hFF : Fr (zhr p v) w (w9.setCell ⟨p, 0, none⟩ (.slice (some ⟨g4, 0, none⟩) (n + 1) k4)) := (hF.mono (fun k hk => .inr hk)).trans (hF4.mono (fun k hk => .inl hk))
 have hpl := zac h.lsm.hdr
 have hgp : g4 ≠ p := by
  rcases hat with hat | hat
  · exact h.lsm.ne g4 hat
  · omega
 refine ⟨hsm3, zaa hfp, by simp [World.frozen?, hfp], hsm3.fr hF4 (by omega), ?_⟩
 refine ⟨.slice (some ⟨g4, 0, none⟩) (n + 1) k4, bs ++ [(⟨[e], a3, k3⟩ : Bk)], ⟨?_, ?_, ?_⟩, ?_, by simp, ?_, (Fr.of_below h.bel).trans hFF⟩
 · rw [zai hfp]
   rfl
 ·
  have e1 : (bs ++ [(⟨[e], a3, k3⟩ : Bk)]).length = n + 1 := by simp [hn]
  have e2 : zau (bs ++ [(⟨[e], a3, k3⟩ : Bk)]) = zau bs ++ bkC ⟨[e], a3, k3⟩ := by rw [za9]; simp [zau]
  unfold zbt
  rw [e1, e2]
  exact zcv hown hF4 (fun c hc e => by injection hc with hc; exact hgp (hc.trans e))
 ·
  intro b hb
  rcases List.mem_append.1 hb with hb | hb
  · exact ⟨(h.lsm.ins b hb).1.frT hFF h.lsm.noEn, (h.lsm.ins b hb).2⟩
  · obtain rfl := List.mem_singleton.1 hb
    exact ⟨⟨zay.frT h.es hFF h.lsm.noEn, List.pairwise_singleton _ _⟩, by simp⟩
 · rw [zav]
   simp [zaq]
 ·
  rcases hat with hat | hat
  · exact .inl hat.symm
  ·
   right
   intro c hc
   have hc : g4 = c := by injection hc
   have := h.bel.size
   omega
end
theorem zzy {W : World} {p base : Nat} {v : Value} {bs : List Bk} (e : En) (h : zbi W p base v bs) (hbase : base ≤ W.heap.size) (hn : bs.length ≤ 18) (hN : (zaq bs).length + 1 ≤ NB) : Calls Tryz.prog 174 #[.pointer (some ⟨p, 0, none⟩), enV e] W fun en w' => en = .returned (.tuple #[]) ∧ ∃ v' bs', zbi w' p base v' bs' ∧ (zaq bs').Perm (e :: zaq bs) ∧ bs'.length ≤ 19 ∧ (v'.ownBlock = v.ownBlock ∨ ∀ c, v'.ownBlock = some c → W.heap.size ≤ c) ∧ Fr (zhr p v) W w' := by
 obtain ⟨a, k, rfl, -, -, -⟩ := h.val
 obtain ⟨n, hnn⟩ := yye (bs.length)
 obtain ⟨i0, hi0, hz0, hz1, hz2⟩ := info_parts zgw
 obtain ⟨W1, hW1⟩ := yye (W.alloc (.cells #[.int .u64 e.key, .int .i64 e.id] 63))
 have hB1 : Below W.heap.size W W1 := by rw [← hW1]; exact zab yyr _
 have hk1 : W1.heap[W.heap.size]? = some (.cells #[.int .u64 e.key, .int .i64 e.id] 63 (0, 0)) := by rw [← hW1]; exact heap_alloc_new W _
 have hsz1 : W1.heap.size = W.heap.size + 1 := by rw [← hW1]; simp
 obtain ⟨eb, heb⟩ := yye (W.heap.size)
 have hL1 := (h.below hB1).below (zaf yyr)
 have hP0 : P0 W1.drew p base (.slice a bs.length k) bs eb e W1.drew := by
  rw [heb] at hk1
  obtain ⟨y0, y1, -, -⟩ := zao (w := W1.drew) hk1
  exact ⟨⟨y0, y1⟩, hL1.cell.1, hL1, yyr, by show base ≤ W1.heap.size; omega, hk1⟩
 have hpl := zac h.hdr
 have HLM := yyh (show p < eb ∧ eb < W1.drew.heap.size from ⟨by omega, by show eb < W1.heap.size; omega⟩)
 have HW := yyh (yyi hB1 (yyi hN h))
 have HLN := yyh hnn
 have HEB := yyh heb
 rw [hnn] at hn hP0
 have HS0 := yyh hP0
 have hh0 := hP0.cell
 obtain ⟨hs0, hs1⟩ := hP0.sm
 clear h hB1 hk1 hsz1 hL1 hP0 hnn hN
 unfold enV
 go_enter Tryz.func174, Tryz.ntmps174
 go_upto_region 1 with fail
 clear hW1
 go_cut [] (fun w4 => M7 W1.drew p base (.slice a n k) bs e w4)
 case first =>
  skip
  -- REGION 7 BEGIN
  refine wp_region_held_drew (S := SP eb e) (by kernel_rfl) HS0.out.sm (fun hH => ?_)
  refine tq 0 ?_ rfl ?_ ?_
  rotate_left
  · (rintro w ⟨_, _⟩; go_simp; try with_reducible rfl)
  try simp only [Act.put, pA, pB, pC]
  refine tq 1 ?_ rfl ?_ ?_
  rotate_left
  · (rintro w ⟨_, _⟩; go_simp; try with_reducible rfl)
  try simp only [Act.put, pA, pB, pC]
  refine tq 2 ?_ rfl ?_ ?_
  rotate_left
  · (rintro w ⟨_, _⟩; go_simp; try with_reducible rfl)
  try simp only [Act.put, pA, pB, pC]
  refine tq 3 ?_ rfl ?_ ?_
  rotate_left
  · (rintro w ⟨_, _⟩; go_simp; try with_reducible rfl)
  try simp only [Act.put, pA, pB, pC]
  refine tq 5 ?_ rfl ?_ ?_
  rotate_left
  · (rintro w ⟨_, _⟩; go_simp; try with_reducible rfl)
  try simp only [Act.put, pA, pB, pC]
  refine wpAnyH_ready (rs := [4, 6]) (by kernel_rfl) (by simp) ?_
  refine AllReadyH.cons rfl (fun K hK => ?_) ?_
  ·
   (go_simp)
   refine hK.out _ _ ?_ (fun hH => ?_)
   · (try dsimp only); (exact hH)
   clear hK K
   refine rd 6 (by kernel_rfl) rfl (fun K hK => ?_)
   ·
    (go_simp; have hA6 := P0.al HS0.out; have HS6 := yyh hA6; have hh6 : (W1.alloc (.cells #[.int .u64 e.key, .int .i64 e.id] 63)).cell? ⟨p, 0, none⟩ = some (.slice a n k) := hA6.cell; clear hA6)
    refine hK.out _ _ ?_ (fun hH => ?_)
    · (try dsimp only); (exact HS6.out.sm)
    clear hK K
    refine rd 7 (by kernel_rfl) rfl (fun K hK => ?_)
    ·
     (go_simp; go_at_call 227; refine (P1.of HS6.out).mono ?_; rintro e w7 ⟨a3, k3, rfl, hM1⟩; have HM := yyh hM1; have hh7 := hM1.cell; clear hM1)
     refine hK.out _ _ ?_ (fun hH => ?_)
     · (try dsimp only); (exact HM.out.sm)
     clear hK K
     refine rd 8 (by kernel_rfl) rfl (fun K hK => ?_)
     ·
      (go_simp; have hAL := P2.al HM.out; have HAL := yyh hAL; have hh8 := hAL.cell; clear hAL)
      refine hK.out _ _ ?_ (fun hH => ?_)
      · (try dsimp only); (exact HAL.out.sm)
      clear hK K
      refine rd 9 (by kernel_rfl) rfl (fun K hK => ?_)
      ·
       (refine step_append_lies _ rfl (.tmp 8) (.tmp 12) 218 rfl base 222 i0 zBl 2 32 Tryz.underlying218 hi0 hz0 hz1 hz2 rfl (by decide) _ n (zau bs) (by simp [Act.eval, Act.put]) (HAL.out.own HLN.out) ⟨w7.heap.size, 0, none⟩ 1 1 (bkC ⟨[e], a3, k3⟩) (by simp [Act.eval, Act.put]) rfl (zfa HAL.out.heap) (zc4 _) (by decide) (by unfold maxLen; omega) (by omega) HAL.out.geW _ rfl ?_; intro g4 k4 w9 hown9 hg9 hat9 hlt9; have hP4 := P4.make HAL.out HLN.out HLM.out hown9 hg9 hat9; have HP4 := yyh hP4; have hh9 := hP4.cell; have hf9 := hP4.free; clear hown9 hg9 hat9 hP4)
       refine hK.out _ _ ?_ (fun hH => ?_)
       · (try dsimp only); (exact HP4.out.sm)
       clear hK K
       refine rd 10 (by kernel_rfl) rfl (fun K hK => ?_)
       ·
        (go_simp)
        refine hK.out _ _ ?_ (fun hH => ?_)
        · (try dsimp only); (exact HP4.out.sm)
        clear hK K
        refine rd 11 (by kernel_rfl) rfl (fun K hK => ?_)
        ·
         (go_simp)
         refine hK.out _ _ ?_ (fun hH => ?_)
         · (try dsimp only); (exact HP4.out.sm)
         clear hK K
         refine rd 12 (by kernel_rfl) rfl (fun K hK => ?_)
         ·
          (go_simp)
          refine hK.out _ _ ?_ (fun hH => ?_)
          · (try dsimp only); (exact HP4.out.sm4)
          clear hK K
          refine wpAnyH_done (by kernel_rfl) ?_ _
          go_wp2_with fail
          go_meet
          exact HP4.out.m4
  refine AllReadyH.cons rfl (fun K hK => ?_) ?_
  ·
   (go_simp; have hA6 := P0.al HS0.out; have HS6 := yyh hA6; have hh6 : (W1.alloc (.cells #[.int .u64 e.key, .int .i64 e.id] 63)).cell? ⟨p, 0, none⟩ = some (.slice a n k) := hA6.cell; clear hA6)
   refine hK.out _ _ ?_ (fun hH => ?_)
   · (try dsimp only); (exact HS6.out.sm)
   clear hK K
   refine wpAnyH_ready (rs := [4, 7]) (by kernel_rfl) (by simp) ?_
   refine AllReadyH.cons rfl (fun K hK => ?_) ?_
   ·
    (go_simp)
    refine hK.out _ _ ?_ (fun hH => ?_)
    · (try dsimp only); (exact hH)
    clear hK K
    refine rd 7 (by kernel_rfl) rfl (fun K hK => ?_)
    ·
     (go_simp; go_at_call 227; refine (P1.of HS6.out).mono ?_; rintro e w7 ⟨a3, k3, rfl, hM1⟩; have HM := yyh hM1; have hh7 := hM1.cell; clear hM1)
     refine hK.out _ _ ?_ (fun hH => ?_)
     · (try dsimp only); (exact HM.out.sm)
     clear hK K
     refine rd 8 (by kernel_rfl) rfl (fun K hK => ?_)
     ·
      (go_simp; have hAL := P2.al HM.out; have HAL := yyh hAL; have hh8 := hAL.cell; clear hAL)
      refine hK.out _ _ ?_ (fun hH => ?_)
      · (try dsimp only); (exact HAL.out.sm)
      clear hK K
      refine rd 9 (by kernel_rfl) rfl (fun K hK => ?_)
      ·
       (refine step_append_lies _ rfl (.tmp 8) (.tmp 12) 218 rfl base 222 i0 zBl 2 32 Tryz.underlying218 hi0 hz0 hz1 hz2 rfl (by decide) _ n (zau bs) (by simp [Act.eval, Act.put]) (HAL.out.own HLN.out) ⟨w7.heap.size, 0, none⟩ 1 1 (bkC ⟨[e], a3, k3⟩) (by simp [Act.eval, Act.put]) rfl (zfa HAL.out.heap) (zc4 _) (by decide) (by unfold maxLen; omega) (by omega) HAL.out.geW _ rfl ?_; intro g4 k4 w9 hown9 hg9 hat9 hlt9; have hP4 := P4.make HAL.out HLN.out HLM.out hown9 hg9 hat9; have HP4 := yyh hP4; have hh9 := hP4.cell; have hf9 := hP4.free; clear hown9 hg9 hat9 hP4)
       refine hK.out _ _ ?_ (fun hH => ?_)
       · (try dsimp only); (exact HP4.out.sm)
       clear hK K
       refine rd 10 (by kernel_rfl) rfl (fun K hK => ?_)
       ·
        (go_simp)
        refine hK.out _ _ ?_ (fun hH => ?_)
        · (try dsimp only); (exact HP4.out.sm)
        clear hK K
        refine rd 11 (by kernel_rfl) rfl (fun K hK => ?_)
        ·
         (go_simp)
         refine hK.out _ _ ?_ (fun hH => ?_)
         · (try dsimp only); (exact HP4.out.sm)
         clear hK K
         refine rd 12 (by kernel_rfl) rfl (fun K hK => ?_)
         ·
          (go_simp)
          refine hK.out _ _ ?_ (fun hH => ?_)
          · (try dsimp only); (exact HP4.out.sm4)
          clear hK K
          refine wpAnyH_done (by kernel_rfl) ?_ _
          go_wp2_with fail
          go_meet
          exact HP4.out.m4
   refine AllReadyH.cons rfl (fun K hK => ?_) ?_
   ·
    (go_simp; go_at_call 227; refine (P1.of HS6.out).mono ?_; rintro e w7 ⟨a3, k3, rfl, hM1⟩; have HM := yyh hM1; have hh7 := hM1.cell; clear hM1)
    refine hK.out _ _ ?_ (fun hH => ?_)
    · (try dsimp only); (exact HM.out.sm)
    clear hK K
    refine wpAnyH_ready (rs := [4, 8]) (by kernel_rfl) (by simp) ?_
    refine AllReadyH.cons rfl (fun K hK => ?_) ?_
    ·
     (go_simp)
     refine hK.out _ _ ?_ (fun hH => ?_)
     · (try dsimp only); (exact hH)
     clear hK K
     refine rd 8 (by kernel_rfl) rfl (fun K hK => ?_)
     ·
      (go_simp; have hAL := P2.al HM.out; have HAL := yyh hAL; have hh8 := hAL.cell; clear hAL)
      refine hK.out _ _ ?_ (fun hH => ?_)
      · (try dsimp only); (exact HAL.out.sm)
      clear hK K
      refine rd 9 (by kernel_rfl) rfl (fun K hK => ?_)
      ·
       (refine step_append_lies _ rfl (.tmp 8) (.tmp 12) 218 rfl base 222 i0 zBl 2 32 Tryz.underlying218 hi0 hz0 hz1 hz2 rfl (by decide) _ n (zau bs) (by simp [Act.eval, Act.put]) (HAL.out.own HLN.out) ⟨w7.heap.size, 0, none⟩ 1 1 (bkC ⟨[e], a3, k3⟩) (by simp [Act.eval, Act.put]) rfl (zfa HAL.out.heap) (zc4 _) (by decide) (by unfold maxLen; omega) (by omega) HAL.out.geW _ rfl ?_; intro g4 k4 w9 hown9 hg9 hat9 hlt9; have hP4 := P4.make HAL.out HLN.out HLM.out hown9 hg9 hat9; have HP4 := yyh hP4; have hh9 := hP4.cell; have hf9 := hP4.free; clear hown9 hg9 hat9 hP4)
       refine hK.out _ _ ?_ (fun hH => ?_)
       · (try dsimp only); (exact HP4.out.sm)
       clear hK K
       refine rd 10 (by kernel_rfl) rfl (fun K hK => ?_)
       ·
        (go_simp)
        refine hK.out _ _ ?_ (fun hH => ?_)
        · (try dsimp only); (exact HP4.out.sm)
        clear hK K
        refine rd 11 (by kernel_rfl) rfl (fun K hK => ?_)
        ·
         (go_simp)
         refine hK.out _ _ ?_ (fun hH => ?_)
         · (try dsimp only); (exact HP4.out.sm)
         clear hK K
         refine rd 12 (by kernel_rfl) rfl (fun K hK => ?_)
         ·
          (go_simp)
          refine hK.out _ _ ?_ (fun hH => ?_)
          · (try dsimp only); (exact HP4.out.sm4)
          clear hK K
          refine wpAnyH_done (by kernel_rfl) ?_ _
          go_wp2_with fail
          go_meet
          exact HP4.out.m4
    refine AllReadyH.cons rfl (fun K hK => ?_) ?_
    ·
     (go_simp; have hAL := P2.al HM.out; have HAL := yyh hAL; have hh8 := hAL.cell; clear hAL)
     refine hK.out _ _ ?_ (fun hH => ?_)
     · (try dsimp only); (exact HAL.out.sm)
     clear hK K
     refine rd 4 (by kernel_rfl) rfl (fun K hK => ?_)
     ·
      (go_simp)
      refine hK.out _ _ ?_ (fun hH => ?_)
      · (try dsimp only); (exact hH)
      clear hK K
      refine rd 9 (by kernel_rfl) rfl (fun K hK => ?_)
      ·
       (refine step_append_lies _ rfl (.tmp 8) (.tmp 12) 218 rfl base 222 i0 zBl 2 32 Tryz.underlying218 hi0 hz0 hz1 hz2 rfl (by decide) _ n (zau bs) (by simp [Act.eval, Act.put]) (HAL.out.own HLN.out) ⟨w7.heap.size, 0, none⟩ 1 1 (bkC ⟨[e], a3, k3⟩) (by simp [Act.eval, Act.put]) rfl (zfa HAL.out.heap) (zc4 _) (by decide) (by unfold maxLen; omega) (by omega) HAL.out.geW _ rfl ?_; intro g4 k4 w9 hown9 hg9 hat9 hlt9; have hP4 := P4.make HAL.out HLN.out HLM.out hown9 hg9 hat9; have HP4 := yyh hP4; have hh9 := hP4.cell; have hf9 := hP4.free; clear hown9 hg9 hat9 hP4)
       refine hK.out _ _ ?_ (fun hH => ?_)
       · (try dsimp only); (exact HP4.out.sm)
       clear hK K
       refine rd 10 (by kernel_rfl) rfl (fun K hK => ?_)
       ·
        (go_simp)
        refine hK.out _ _ ?_ (fun hH => ?_)
        · (try dsimp only); (exact HP4.out.sm)
        clear hK K
        refine rd 11 (by kernel_rfl) rfl (fun K hK => ?_)
        ·
         (go_simp)
         refine hK.out _ _ ?_ (fun hH => ?_)
         · (try dsimp only); (exact HP4.out.sm)
         clear hK K
         refine rd 12 (by kernel_rfl) rfl (fun K hK => ?_)
         ·
          (go_simp)
          refine hK.out _ _ ?_ (fun hH => ?_)
          · (try dsimp only); (exact HP4.out.sm4)
          clear hK K
          refine wpAnyH_done (by kernel_rfl) ?_ _
          go_wp2_with fail
          go_meet
          exact HP4.out.m4
    exact AllReadyH.nil
   exact AllReadyH.nil
  exact AllReadyH.nil
  -- REGION 7 END
 case rest =>
  obtain ⟨v4, bs4, hL4, hP4, hlen4, hv4, hF4⟩ := hcut
  have hM := zs6 hL4 (by have := HLN.out; omega) (by rw [hP4.length_eq]; exact HW.out.2.1)
  have HM := yyh hM
  have HE := yyh (yyi hP4 (yyi hv4 hF4))
  clear hM hL4 hP4 hv4 hF4
  go_wp2_with fail
  refine HM.out.mono ?_
  rintro en w5 ⟨rfl, v5, bs5, hL5, hP5, hn5, hv5, hF5⟩
  have HX := yyh (yyi hL5 (yyi hP5 (yyi hn5 (yyi hv5 hF5))))
  clear hL5 hP5 hn5 hv5 hF5
  go_wp2_with fail
  go_end0
  obtain ⟨hL5, hP5, hn5, hv5, hF5⟩ := HX.out
  obtain ⟨hP4, hv4, hF4⟩ := HE.out
  have hB := HW.out.1
  have hnn := HLN.out
  have hvv : (Value.slice a bs.length k).ownBlock = (Value.slice a n k).ownBlock := zys a _ _ _ _
  refine ⟨rfl, v5, bs5, hL5, hP5.trans hP4, hn5, ?_, ?_⟩
  ·
   rcases hv4 with hv4 | hv4
   · exact .inl ((hv5.trans hv4).trans hvv.symm)
   ·
    right
    intro c hc
    have h1 := hv4 c (hv5.symm.trans hc)
    have h2 := hB.size
    change W1.heap.size ≤ c at h1
    omega
  ·
   have f1 : Fr (zhr p (.slice a bs.length k)) W wc := by
    refine (Fr.of_below hB).trans ((Fr.refl _ _).dr.trans (hF4.mono ?_))
    intro k hk
    rcases hk with hk | hk
    · exact .inl hk
    · exact .inr (hvv.trans hk)
   refine ⟨hF5.os.trans f1.os, hF5.tape.trans f1.tape, hF5.output.trans f1.output, Nat.le_trans f1.size hF5.size, fun c hc hs => ?_⟩
   rw [hF5.block c (Nat.lt_of_lt_of_le hc f1.size) (fun hk => ?_), f1.block c hc hs]
   rcases hk with hk | hk
   · exact hs (.inl hk)
   ·
    rcases hv4 with hv4 | hv4
    · exact hs (.inr (hvv.trans (hv4.symm.trans hk)))
    ·
     have h1 := hv4 c hk
     have h2 := hB.size
     change W1.heap.size ≤ c at h1
     omega
def enC (l : List En) (i j : Nat) : Value := if j = 0 then .int .u64 (l.getD i ⟨0, 0⟩).key else .int .i64 (l.getD i ⟨0, 0⟩).id
theorem zxd (x : En) (ib : Nat) (id : Int) (X : World) (h : X.cell? ⟨ib, 0, none⟩ = some (.int .i64 id)) : Calls Tryz.prog 249 #[enV x, .pointer (some ⟨ib, 0, none⟩)] X fun e w' => e = .returned (.bool (x.id == id)) ∧ Below X.heap.size X w' := by
 have hl : ib < X.heap.size := World.block_lt_of_cell? X _ h
 have hne : ¬ ib = X.heap.size := by omega
 unfold enV
 go_enter Tryz.func249, Tryz.ntmps249
 go_wp2_with fail
 go_ret
 exact ⟨rfl, zab yyr _⟩
theorem zxe (x : Int) (ib : Nat) (id : Int) (X : World) (h : X.cell? ⟨ib, 0, none⟩ = some (.int .i64 id)) : Calls Tryz.prog 253 #[.int .i64 x, .pointer (some ⟨ib, 0, none⟩)] X fun e w' => e = .returned (.bool (x == id)) ∧ Below X.heap.size X w' := by
 go_enter Tryz.func253, Tryz.ntmps253
 go_wp2_with fail
 go_ret
 exact ⟨rfl, yyr⟩
theorem zzz {X : World} {v : Value} {l : List En} (hl : l.length ≤ 1000) (hE : zay X v l) (ib : Nat) (id : Int) (h : X.cell? ⟨ib, 0, none⟩ = some (.int .i64 id)) : Calls Tryz.prog 251 #[v, .func (.func 249) #[] #[.pointer (some ⟨ib, 0, none⟩)]] X fun e w' => e = .returned (.bool (l.any fun x => x.id == id)) ∧ Below X.heap.size X w' := by
 rcases SlV.form hE with ⟨rfl, h0, _⟩ | ⟨b, off, cap, rfl, h1, h2, h3, h4⟩
 ·
  obtain rfl : l = [] := List.eq_nil_of_length_eq_zero h0
  refine (zeq _).mono ?_
  rintro e w' ⟨rfl, rfl⟩
  exact ⟨rfl, yyr⟩
 ·
  refine (zh1 b off cap l.length (by omega) h2 (enC l) ?_ (fun i => (l.getD i ⟨0, 0⟩).id == id) 249 #[.pointer (some ⟨ib, 0, none⟩)] (enters_of Tryz.func249 (by kernel_rfl) rfl) ?_).mono ?_
  ·
   intro i j hi hj
   obtain ⟨k0, k1⟩ := zay.at hE i l[i] (yyg hi)
   have hg : l.getD i ⟨0, 0⟩ = l[i] := by rw [yyd, yyg hi]; rfl
   unfold enC
   rw [hg]
   rcases (show j = 0 ∨ j = 1 from by omega) with rfl | rfl
   · exact k0
   · exact k1
  · intro Y i hY hi
    exact zxd (l.getD i ⟨0, 0⟩) ib id Y (zae hY h)
  ·
   rintro e w' ⟨⟨r, rfl, hr⟩, hB⟩
   refine ⟨zid ?_, hB⟩
   rw [Bool.eq_iff_iff, hr, List.any_eq_true]
   constructor
   ·
    rintro ⟨i, hi, h⟩
    refine ⟨l[i], List.getElem_mem _, ?_⟩
    rw [yyd, yyg hi] at h
    exact h
   ·
    rintro ⟨x, hx, h⟩
    obtain ⟨i, hi, rfl⟩ := List.getElem_of_mem hx
    refine ⟨i, hi, ?_⟩
    rw [yyd, yyg hi]
    exact h
theorem zxf {X : World} {v : Value} {l : List En} (q : Int) (hl : l.length ≤ 1000) (hE : zay X v l) (hb ib : Nat) (id : Int) (h : X.cell? ⟨ib, 0, none⟩ = some (.int .i64 id)) (hh : X.cell? ⟨hb, 0, none⟩ = some (.func (.func 249) #[] #[.pointer (some ⟨ib, 0, none⟩)])) : Calls Tryz.prog 250 #[.agg #[.int .i64 q, v], .pointer (some ⟨hb, 0, none⟩)] X fun e w' => e = .returned (.bool (l.any fun x => x.id == id)) ∧ Below X.heap.size X w' := by
 obtain ⟨a, k, rfl, -⟩ := SlV.clip hE
 have hba : Below X.heap.size X (X.alloc (.cells #[.int .i64 q, .slice a l.length k] 222)) := zab yyr _
 have HC := yyh (zzz hl (zay.below hE hba) ib id (zae hba h))
 have hl2 : hb < X.heap.size := World.block_lt_of_cell? X _ hh
 have hne : ¬ hb = X.heap.size := by omega
 obtain ⟨n, hn⟩ := yye (l.length)
 obtain ⟨r, hr⟩ : ∃ r, (l.any fun x => x.id == id) = r := ⟨_, rfl⟩
 rw [hn, hr] at HC
 rw [hn, hr]
 rw [hn] at hba
 have HB := yyh hba
 clear hE hba h hn hr
 go_enter Tryz.func250, Tryz.ntmps250
 go_wp2_with fail
 refine HC.out.mono ?_
 rintro e w' ⟨rfl, hB⟩
 go_wp2_with fail
 go_ret
 exact ⟨rfl, zad hB HB.out⟩
theorem zz0 {X : World} {v : Value} {bs : List Bk} (hbs : bs.length ≤ 1000) (hN : (zaq bs).length ≤ 1000) (hE : zch X v bs) (hb ib : Nat) (id : Int) (h : X.cell? ⟨ib, 0, none⟩ = some (.int .i64 id)) (hh : X.cell? ⟨hb, 0, none⟩ = some (.func (.func 249) #[] #[.pointer (some ⟨ib, 0, none⟩)])) : Calls Tryz.prog 231 #[v, .func (.func 250) #[] #[.pointer (some ⟨hb, 0, none⟩)]] X fun e w' => (∃ r, e = .returned (.int .i64 r) ∧ zhp (fun i => (bs.getD i default).L.any fun x => x.id == id) bs.length r) ∧ Below X.heap.size X w' := by
 rcases SlV.form hE.1 with ⟨rfl, h0, _⟩ | ⟨b, off, cap, rfl, h1, h2, h3, h4⟩
 · refine (zdx _).mono ?_
   rintro e w' ⟨rfl, rfl⟩
   exact ⟨⟨_, rfl, .inl ⟨rfl, fun i hi => by omega⟩⟩, yyr⟩
 ·
  refine zik b off cap bs.length (by omega) h2 (fun i j => if j = 0 then .int .i64 (lvl (bs.getD i default).L.length) else (bs.getD i default).v) ?_ _ 250 #[.pointer (some ⟨hb, 0, none⟩)] (enters_of Tryz.func250 (by kernel_rfl) rfl) ?_
  ·
   intro i j hi hj
   obtain ⟨k0, k1⟩ := zch.at hE i bs[i] (yyg hi)
   have hg : bs.getD i default = bs[i] := by rw [yyd, yyg hi]; rfl
   rw [hg]
   rcases (show j = 0 ∨ j = 1 from by omega) with rfl | rfl
   · exact k0
   · exact k1
  ·
   intro Y i hY hi
   have hg : bs.getD i default = bs[i] := by rw [yyd, yyg hi]; rfl
   have hin : bs[i] ∈ bs := List.getElem_mem _
   have hlen : bs[i].L.length ≤ 1000 := by
    obtain ⟨s, t, hst⟩ := List.append_of_mem hin
    have := hN
    rw [hst, zav] at this
    simp [zaq] at this
    omega
   rw [hg]
   exact zxf (lvl bs[i].L.length) hlen ((hE.2 _ hin).below hY).1 hb ib id (zae hY h) (zae hY hh)
theorem zxg (x : En) (ib : Nat) (id : Int) (X : World) (h : X.cell? ⟨ib, 0, none⟩ = some (.int .i64 id)) : Calls Tryz.prog 254 #[enV x, .pointer (some ⟨ib, 0, none⟩)] X fun e w' => e = .returned (.bool (x.id == id)) ∧ Below X.heap.size X w' := by
 have hl : ib < X.heap.size := World.block_lt_of_cell? X _ h
 have hne : ¬ ib = X.heap.size := by omega
 unfold enV
 go_enter Tryz.func254, Tryz.ntmps254
 go_wp2_with fail
 go_ret
 exact ⟨rfl, zab yyr _⟩
theorem zxh (x : Int) (ib : Nat) (id : Int) (X : World) (h : X.cell? ⟨ib, 0, none⟩ = some (.int .i64 id)) : Calls Tryz.prog 256 #[.int .i64 x, .pointer (some ⟨ib, 0, none⟩)] X fun e w' => e = .returned (.bool (x == id)) ∧ Below X.heap.size X w' := by
 go_enter Tryz.func256, Tryz.ntmps256
 go_wp2_with fail
 go_ret
 exact ⟨rfl, yyr⟩
theorem zz1 {X : World} {v : Value} {l : List En} (hl : l.length ≤ 1000) (hE : zay X v l) (ib : Nat) (id : Int) (h : X.cell? ⟨ib, 0, none⟩ = some (.int .i64 id)) : Calls Tryz.prog 251 #[v, .func (.func 254) #[] #[.pointer (some ⟨ib, 0, none⟩)]] X fun e w' => e = .returned (.bool (l.any fun x => x.id == id)) ∧ Below X.heap.size X w' := by
 rcases SlV.form hE with ⟨rfl, h0, _⟩ | ⟨b, off, cap, rfl, h1, h2, h3, h4⟩
 ·
  obtain rfl : l = [] := List.eq_nil_of_length_eq_zero h0
  refine (zeq _).mono ?_
  rintro e w' ⟨rfl, rfl⟩
  exact ⟨rfl, yyr⟩
 ·
  refine (zh1 b off cap l.length (by omega) h2 (enC l) ?_ (fun i => (l.getD i ⟨0, 0⟩).id == id) 254 #[.pointer (some ⟨ib, 0, none⟩)] (enters_of Tryz.func254 (by kernel_rfl) rfl) ?_).mono ?_
  ·
   intro i j hi hj
   obtain ⟨k0, k1⟩ := zay.at hE i l[i] (yyg hi)
   have hg : l.getD i ⟨0, 0⟩ = l[i] := by rw [yyd, yyg hi]; rfl
   unfold enC
   rw [hg]
   rcases (show j = 0 ∨ j = 1 from by omega) with rfl | rfl
   · exact k0
   · exact k1
  · intro Y i hY hi
    exact zxg (l.getD i ⟨0, 0⟩) ib id Y (zae hY h)
  ·
   rintro e w' ⟨⟨r, rfl, hr⟩, hB⟩
   refine ⟨zid ?_, hB⟩
   rw [Bool.eq_iff_iff, hr, List.any_eq_true]
   constructor
   ·
    rintro ⟨i, hi, h⟩
    refine ⟨l[i], List.getElem_mem _, ?_⟩
    rw [yyd, yyg hi] at h
    exact h
   ·
    rintro ⟨x, hx, h⟩
    obtain ⟨i, hi, rfl⟩ := List.getElem_of_mem hx
    refine ⟨i, hi, ?_⟩
    rw [yyd, yyg hi]
    exact h
theorem zxi {X : World} {v : Value} {l : List En} (q : Int) (hl : l.length ≤ 1000) (hE : zay X v l) (hb ib : Nat) (id : Int) (h : X.cell? ⟨ib, 0, none⟩ = some (.int .i64 id)) (hh : X.cell? ⟨hb, 0, none⟩ = some (.func (.func 254) #[] #[.pointer (some ⟨ib, 0, none⟩)])) : Calls Tryz.prog 255 #[.agg #[.int .i64 q, v], .pointer (some ⟨hb, 0, none⟩)] X fun e w' => e = .returned (.bool (l.any fun x => x.id == id)) ∧ Below X.heap.size X w' := by
 obtain ⟨a, k, rfl, -⟩ := SlV.clip hE
 have hba : Below X.heap.size X (X.alloc (.cells #[.int .i64 q, .slice a l.length k] 222)) := zab yyr _
 have HC := yyh (zz1 hl (zay.below hE hba) ib id (zae hba h))
 have hl2 : hb < X.heap.size := World.block_lt_of_cell? X _ hh
 have hne : ¬ hb = X.heap.size := by omega
 obtain ⟨n, hn⟩ := yye (l.length)
 obtain ⟨r, hr⟩ : ∃ r, (l.any fun x => x.id == id) = r := ⟨_, rfl⟩
 rw [hn, hr] at HC
 rw [hn, hr]
 rw [hn] at hba
 have HB := yyh hba
 clear hE hba h hn hr
 go_enter Tryz.func255, Tryz.ntmps255
 go_wp2_with fail
 refine HC.out.mono ?_
 rintro e w' ⟨rfl, hB⟩
 go_wp2_with fail
 go_ret
 exact ⟨rfl, zad hB HB.out⟩
theorem zz2 {X : World} {v : Value} {bs : List Bk} (hbs : bs.length ≤ 1000) (hN : (zaq bs).length ≤ 1000) (hE : zch X v bs) (hb ib : Nat) (id : Int) (h : X.cell? ⟨ib, 0, none⟩ = some (.int .i64 id)) (hh : X.cell? ⟨hb, 0, none⟩ = some (.func (.func 254) #[] #[.pointer (some ⟨ib, 0, none⟩)])) : Calls Tryz.prog 231 #[v, .func (.func 255) #[] #[.pointer (some ⟨hb, 0, none⟩)]] X fun e w' => (∃ r, e = .returned (.int .i64 r) ∧ zhp (fun i => (bs.getD i default).L.any fun x => x.id == id) bs.length r) ∧ Below X.heap.size X w' := by
 rcases SlV.form hE.1 with ⟨rfl, h0, _⟩ | ⟨b, off, cap, rfl, h1, h2, h3, h4⟩
 · refine (zdx _).mono ?_
   rintro e w' ⟨rfl, rfl⟩
   exact ⟨⟨_, rfl, .inl ⟨rfl, fun i hi => by omega⟩⟩, yyr⟩
 ·
  refine zik b off cap bs.length (by omega) h2 (fun i j => if j = 0 then .int .i64 (lvl (bs.getD i default).L.length) else (bs.getD i default).v) ?_ _ 255 #[.pointer (some ⟨hb, 0, none⟩)] (enters_of Tryz.func255 (by kernel_rfl) rfl) ?_
  ·
   intro i j hi hj
   obtain ⟨k0, k1⟩ := zch.at hE i bs[i] (yyg hi)
   have hg : bs.getD i default = bs[i] := by rw [yyd, yyg hi]; rfl
   rw [hg]
   rcases (show j = 0 ∨ j = 1 from by omega) with rfl | rfl
   · exact k0
   · exact k1
  ·
   intro Y i hY hi
   have hg : bs.getD i default = bs[i] := by rw [yyd, yyg hi]; rfl
   have hin : bs[i] ∈ bs := List.getElem_mem _
   have hlen : bs[i].L.length ≤ 1000 := by
    obtain ⟨s, t, hst⟩ := List.append_of_mem hin
    have := hN
    rw [hst, zav] at this
    simp [zaq] at this
    omega
   rw [hg]
   exact zxi (lvl bs[i].L.length) hlen ((hE.2 _ hin).below hY).1 hb ib id (zae hY h) (zae hY hh)
theorem za5 {W : World} {b i : Nat} {c : Array Value} {t : TypeId} (h : W.heap[b]? = some (.cells c t (0, 0))) : W.frozen? ⟨b, i, none⟩ = false := by simp [World.frozen?, h]
theorem zmk {P : Program} (W : World) (A : Obj) (f : Value) (t : TypeId) (hf : f.oneCell' = true := by rfl) : (store ⟨W.heap.size + 1, 0, none⟩ f).run P ((W.alloc A).alloc (.cells #[.nilFunc] t)) = .ok () ((W.alloc A).alloc (.cells #[f] t)) := by
 have hk : ((W.alloc A).alloc (.cells #[.nilFunc] t)).heap[W.heap.size + 1]? = some (.cells #[.nilFunc] t (0, 0)) := zax (by simp)
 have hz : ((W.alloc A).alloc (.cells #[.nilFunc] t)).frozen? ⟨W.heap.size + 1, 0, none⟩ = false := za5 hk
 rw [run_store P _ _ f _ hf, zaa hk]
 rw [hz]
 have e := World.setCell_alloc_at (w := W.alloc A) #[.nilFunc] t (W.heap.size + 1) 0 f (by simp)
 simp [e]
def wo (id : Int) (l : List En) : List En := l.filter fun e => !(e.id == id)
theorem zfb (id : Int) (l m : List En) : wo id (l ++ m) = wo id l ++ wo id m := by simp [wo]
theorem zcw {id : Int} {l : List En} (h : (l.any fun x => x.id == id) = false) : wo id l = l := by
 unfold wo
 rw [List.filter_eq_self]
 intro x hx
 have := List.any_eq_false.1 h x hx
 simpa using this
theorem zu5 {id : Int} {l m : List En} (h : l.Perm m) : (wo id l).Perm (wo id m) := h.filter _
theorem zfq {bs : List Bk} {i : Nat} {A : Bk} (h : bs[i]? = some A) : bs = bs.take i ++ [A] ++ bs.drop (i + 1) := by
 conv => lhs; rw [← List.take_append_drop (i + 1) bs, List.take_add_one, h]
 rfl
theorem zgd (bs : List Bk) (f : En → Bool) : (zaq bs).any f = bs.any fun b => b.L.any f := by
 induction bs with
 | nil => rfl
 | cons b bs ih =>
  show (b.L ++ zaq bs).any f = _
  rw [List.any_append, ih]
  rfl
theorem zga {id : Int} {l m r : List En} (h : ((l ++ m ++ r).map (·.id)).Nodup) (hm : (m.any fun x => x.id == id) = true) : (l.any fun x => x.id == id) = false ∧ (r.any fun x => x.id == id) = false := by
 obtain ⟨x, hx, hxi⟩ := List.any_eq_true.1 hm
 have hxi : x.id = id := by simpa using hxi
 simp only [List.map_append, List.append_assoc] at h
 rw [List.nodup_append] at h
 obtain ⟨-, h2, h3⟩ := h
 rw [List.nodup_append] at h2
 obtain ⟨-, -, h5⟩ := h2
 constructor
 ·
  rw [List.any_eq_false]
  intro y hy hyi
  have hyi : y.id = id := by simpa using hyi
  exact h3 y.id (List.mem_map_of_mem hy) x.id (List.mem_append_left _ (List.mem_map_of_mem hx)) (by rw [hxi, hyi])
 ·
  rw [List.any_eq_false]
  intro y hy hyi
  have hyi : y.id = id := by simpa using hyi
  exact h5 x.id (List.mem_map_of_mem hx) y.id (List.mem_map_of_mem hy) (by rw [hxi, hyi])
theorem zo3 {bs : List Bk} {i : Nat} {A : Bk} {id : Int} (h : bs[i]? = some A) (hn : ((zaq bs).map (·.id)).Nodup) (hA : (A.L.any fun x => x.id == id) = true) : wo id (zaq bs) = zaq (bs.take i) ++ wo id A.L ++ zaq (bs.drop (i + 1)) := by
 have hs : zaq bs = zaq (bs.take i) ++ A.L ++ zaq (bs.drop (i + 1)) := by
  conv => lhs; rw [zfq h]
  rw [zav, zav]
  simp [zaq]
 rw [hs] at hn ⊢
 obtain ⟨h1, h2⟩ := zga hn hA
 rw [zfb, zfb, zcw h1, zcw h2]
section
variable (wc : World) (p base g n k i : Nat) (bs : List Bk)
def D2 (x : Bk) (w4 : World) : Prop := w4.heap[p]? = some (.cells #[.slice (some ⟨g, 0, none⟩) n k] 220 (0, 0)) ∧ zbt w4 base (.slice (some ⟨g, 0, none⟩) n k) (bs.take i ++ [x] ++ bs.drop (i + 1)) ∧ (∀ b ∈ bs, zf9 w4 b ∧ b.L ≠ []) ∧ zf9 w4 x ∧ Fr (fun c => c = g) wc w4
structure D1 (x : Bk) (m : Nat) (w3 : World) : Prop where
 cell : w3.cell? ⟨p, 0, none⟩ = some (.slice (some ⟨g, 0, none⟩) n k)
 elem : (∃ u, w3.cell? ⟨g, i * 2, none⟩ = some u) ∧ (∃ u, w3.cell? ⟨g, i * 2 + 1, none⟩ = some u) ∧ w3.frozen? ⟨g, i * 2, none⟩ = false ∧ w3.frozen? ⟨g, i * 2 + 1, none⟩ = false
 cell4 : ((w3.setCell ⟨g, i * 2, none⟩ (.int .i64 (lvl m))).setCell ⟨g, i * 2 + 1, none⟩ (.slice x.a m x.k)).cell? ⟨p, 0, none⟩ = some (.slice (some ⟨g, 0, none⟩) n k)
 d2 : D2 wc p base g n k i bs x ((w3.setCell ⟨g, i * 2, none⟩ (.int .i64 (lvl m))).setCell ⟨g, i * 2 + 1, none⟩ (.slice x.a m x.k))
variable {wc p base g n k i bs}
theorem D1.make {x : Bk} {m : Nat} {w3 : World} (hL : zbi wc p base (.slice (some ⟨g, 0, none⟩) n k) bs) (hn : bs.length = n) (hi : i < n) (hE : zay w3 x.v x.L) (hxs : zbh x.L) (hm : x.L.length = m) (hB : Below wc.heap.size wc w3) : D1 wc p base g n k i bs x m w3 := by
 have hL3 := hL.below hB
 have hgp : g ≠ p := fun e => hL.ne g rfl e
 have how := hL3.own
 unfold zbt at how
 rw [hn] at how
 have hle := (zlk how).1
 obtain ⟨hc, hf⟩ := zeh how
 have hset := ziw how (i * 2) (bkC x) (by show i * 2 + 2 ≤ n * 2; omega)
 have e0 : w3.setCells g (i * 2) (bkC x) = (w3.setCell ⟨g, i * 2, none⟩ (.int .i64 (lvl m))).setCell ⟨g, i * 2 + 1, none⟩ (.slice x.a m x.k) := by subst hm; rfl
 rw [e0] at hset
 obtain ⟨ho, hF⟩ := hset
 have hb2 : (bkC x).length = 2 := rfl
 rw [hb2, show i * 2 + 2 = (i + 1) * 2 from by omega, zcf, zcj, show bkC x = zau [x] from by simp [zau], ← za9, ← za9] at ho
 have hhdr := (hF.block p (zac hL3.hdr) (fun e => hgp e.symm)).trans hL3.hdr
 have hFF : Fr (zhr p (.slice (some ⟨g, 0, none⟩) n k)) w3 ((w3.setCell ⟨g, i * 2, none⟩ (.int .i64 (lvl m))).setCell ⟨g, i * 2 + 1, none⟩ (.slice x.a m x.k)) := hF.mono (fun c hc => .inr (by rw [hc]; rfl))
 have h0 := hc (i * 2) (by omega)
 have h1 := hc (i * 2 + 1) (by omega)
 refine ⟨hL3.cell.1, ⟨Option.isSome_iff_exists.1 h0, Option.isSome_iff_exists.1 h1, hf _, hf _⟩, zaa hhdr, hhdr, ?_, fun b hb => ⟨(hL3.ins b hb).1.frT hFF hL3.noEn, (hL3.ins b hb).2⟩, ⟨zay.frT hE hFF hL3.noEn, hxs⟩, (Fr.of_below hB).trans hF⟩
 unfold zbt
 rw [show (bs.take i ++ [x] ++ bs.drop (i + 1)).length = n from by simp; omega]
 exact ho
end
def zo4 (W : World) (p base : Nat) (v : Value) (bs : List Bk) (id : Int) (w' : World) : Prop := ∃ v' bs', zbi w' p base v' bs' ∧ (zaq bs').Perm (wo id (zaq bs)) ∧ bs'.length ≤ 19 ∧ v'.ownBlock = v.ownBlock ∧ Fr (zhr p v) W w'
theorem zj8 {W w4 : World} {p base : Nat} {v v4 : Value} {bs bs4 : List Bk} {id : Int} (h : zbi w4 p base v4 bs4) (hp : (zaq bs4).Perm (wo id (zaq bs))) (hn : bs4.length ≤ 19) (hN : (zaq bs).length ≤ NB) (hv : v4.ownBlock = v.ownBlock) (hF : Fr (zhr p v) W w4) : Calls Tryz.prog 228 #[.pointer (some ⟨p, 0, none⟩)] w4 fun e w' => e = .returned (.tuple #[]) ∧ zo4 W p base v bs id w' := by
 refine (zs6 h hn (by rw [hp.length_eq]; exact Nat.le_trans (List.length_filter_le _ _) hN)).mono ?_
 rintro e w' ⟨rfl, v', bs', hL, hP, hn', hv', hF'⟩
 exact ⟨rfl, v', bs', hL, hP.trans hp, hn', hv'.trans hv, hF.trans (hF'.mono (fun c hc => by rcases hc with hc | hc; exact .inl hc; exact .inr (hv.symm.trans hc)))⟩
theorem zyu {W : World} {p base : Nat} {v : Value} {bs : List Bk} (id : Int) (h : zbi W p base v bs) (hn : bs.length ≤ 19) (hN : (zaq bs).length ≤ NB) (hnd : ((zaq bs).map (·.id)).Nodup) : Calls Tryz.prog 207 #[.pointer (some ⟨p, 0, none⟩), .int .i64 id] W fun e w' => e = .returned (.bool ((zaq bs).any fun x => x.id == id)) ∧ zo4 W p base v bs id w' := by
 obtain ⟨a, k, rfl, hk, hkm, hna⟩ := h.val
 obtain ⟨n, hnn⟩ := yye (bs.length)
 obtain ⟨W2, hW2⟩ : ∃ W2, (W.alloc (.cells #[.int .i64 id] 3)).alloc (.cells #[.func (.func 249) #[] #[.pointer (some ⟨W.heap.size, 0, none⟩)]] 327) = W2 := ⟨_, rfl⟩
 have hst : (store ⟨W.heap.size + 1, 0, none⟩ (.func (.func 249) #[] #[.pointer (some ⟨W.heap.size, 0, none⟩)])).run Tryz.prog ((W.alloc (.cells #[.int .i64 id] 3)).alloc (.cells #[.nilFunc] 327)) = .ok () W2 := by rw [← hW2]; exact zmk W _ _ _
 have hB2 : Below W.heap.size W W2 := by rw [← hW2]; exact zab (zab yyr _) _
 have k0 : W2.heap[W.heap.size]? = some (.cells #[.int .i64 id] 3 (0, 0)) := by rw [← hW2]; exact zan (heap_alloc_new W _)
 have k1 : W2.heap[W.heap.size + 1]? = some (.cells #[.func (.func 249) #[] #[.pointer (some ⟨W.heap.size, 0, none⟩)]] 327 (0, 0)) := by rw [← hW2]; exact zax (by simp)
 have c0 : W2.cell? ⟨W.heap.size, 0, none⟩ = some (.int .i64 id) := zaa k0
 have c1 : W2.cell? ⟨W.heap.size + 1, 0, none⟩ = some (.func (.func 249) #[] #[.pointer (some ⟨W.heap.size, 0, none⟩)]) := zaa k1
 have hL2 := h.below hB2
 obtain ⟨ch, fh⟩ := hL2.cell
 have hI := zz0 (by omega) (by unfold NB at hN; omega) hL2.bks (W.heap.size + 1) W.heap.size id c0 c1
 have H := yyh (yyi h (yyi hL2 (yyi hN hnd)))
 have HB2 := yyh hB2
 have HNN := yyh hnn
 rw [hnn] at hI hk hna hn ch
 have HI := yyh hI
 have HNA := yyh hna
 clear h hB2 k0 k1 hL2 hI hN hnd hnn hna
 go_enter Tryz.func207, Tryz.ntmps207
 go_upto_region 2 with fail
 clear hW2 hst
 go_wp2_with fail
 refine HI.out.mono ?_
 rintro e w2 ⟨⟨r, rfl, hr⟩, hB⟩
 obtain ⟨h, hL2, hN, hnd⟩ := H.out
 have hL3 := hL2.below hB
 rcases hr with ⟨rfl, hnone⟩ | ⟨i, hi, rfl, hyes, -⟩
 ·
  have hany : ((zaq bs).any fun x => x.id == id) = false := by
   rw [zgd, List.any_eq_false]
   intro b hb
   obtain ⟨j, hj, rfl⟩ := List.getElem_of_mem hb
   have := hnone j (by rw [← HNN.out]; exact hj)
   dsimp only at this
   rw [yyd, yyg hj] at this
   simpa using this
  have HE := yyh (yyi hany (yyi hL3 (zad hB HB2.out)))
  clear h hL2 hN hnd hL3 hB hnone hany
  go_wp2_with fail
  go_ret
  obtain ⟨hany, hL3, hBB⟩ := HE.out
  have hnn := HNN.out
  exact ⟨by rw [hany]; rfl, _, bs, hL3, by rw [zcw hany], by omega, rfl, Fr.of_below hBB⟩
 ·
  have hib : i < bs.length := by rw [HNN.out]; exact hi
  obtain ⟨A1, hA1⟩ : ∃ b, bs[i]? = some b := ⟨_, yyg hib⟩
  have hyes : (A1.L.any fun x => x.id == id) = true := by
   dsimp only at hyes
   rw [yyd, hA1] at hyes
   exact hyes
  obtain ⟨g, cap, e1, -, -, hbg, -⟩ := zco hL3.own (by omega)
  injection e1 with e1 e2 e3
  clear e2
  subst e1 e3
  have hL3d := hL3.below (zaf yyr)
  have hA1in := List.mem_of_getElem? hA1
  obtain ⟨ca0, ca1⟩ := hL3d.bks.at i A1 hA1
  change w2.drew.cell? _ = some (.slice A1.a A1.L.length A1.k) at ca1
  rw [Nat.zero_add] at ca0 ca1
  have hAl : A1.L.length ≤ NB := by
   have h1 := hN
   rw [zfq hA1, zav, zav] at h1
   simp [zaq] at h1
   omega
  have hany : ((zaq bs).any fun x => x.id == id) = true := by rw [zgd, List.any_eq_true]; exact ⟨A1, hA1in, hyes⟩
  have hid2 : w2.drew.cell? ⟨W.heap.size, 0, none⟩ = some (.int .i64 id) := zae (zaf hB) c0
  have hsh := zo0 (W := w2.drew) (v := A1.v) (l := A1.L) (q := lvl A1.L.length) hAl (hL3d.ins A1 hA1in).1.1 (fun x => x == id) 253 #[.pointer (some ⟨W.heap.size, 0, none⟩)] (enters_of Tryz.func253 (by kernel_rfl) rfl) (fun X x hX => zxe x W.heap.size id X (zae hX hid2))
  obtain ⟨m, hm⟩ : ∃ m, (wo id A1.L).length = m := ⟨_, rfl⟩
  have hSH : Calls Tryz.prog 252 #[.agg #[.int .i64 (lvl A1.L.length), .slice A1.a A1.L.length A1.k], .func (.func 253) #[] #[.pointer (some ⟨W.heap.size, 0, none⟩)]] w2.drew fun e w' => ∃ a3 k3, e = .returned (.agg #[.int .i64 (lvl m), .slice a3 m k3]) ∧ D1 w2.drew p base g n k i bs ⟨zaj (wo id A1.L), a3, k3⟩ m w' := by
   refine hsh.mono ?_
   rintro e w' ⟨v', rfl, hE, -, hBs⟩
   have hsm : (zaj (wo id A1.L)).length = m := by rw [zam]; exact hm
   obtain ⟨a3, k3, rfl, -⟩ := SlV.clip hE
   have hL3e := hL3d
   rw [HNN.out] at hL3e
   refine ⟨a3, k3, ?_, D1.make (x := ⟨zaj (wo id A1.L), a3, k3⟩) hL3e HNN.out hi hE (zbb _) hsm hBs⟩
   rw [show (A1.L.filter fun e => !(e.id == id)).length = m from hm, show (zaj (A1.L.filter fun e => !(e.id == id))).length = m from hsm]
   rfl
  have HSH := yyh hSH
  have HX := yyh (yyi h (yyi hN (yyi hnd (yyi hyes (yyi hany (yyi hA1 (yyi hm (zad hB HB2.out))))))))
  have hdr0 : w2.drew.cell? ⟨p, 0, none⟩ = some (.slice (some ⟨g, 0, none⟩) n k) := by have := hL3d.cell.1; rw [HNN.out] at this; exact this
  have hdr1 : w2.cell? ⟨p, 0, none⟩ = some (.slice (some ⟨g, 0, none⟩) n k) := hdr0
  have hin2 : (i : Int) < (n : Int) := by omega
  have hge0 : decide ((i : Int) < 0) = false := by simp
  have hkz : (k : Int) ≤ 9223372036854775807 := by unfold maxLen at hkm; omega
  clear h hL2 hN hnd hL3 hB hyes hany hA1 hm hsh hSH hL3d hA1in hAl hbg
  go_upto_region 5 with fail
  go_cut [] (fun w4 => ∃ a3 k3, D2 w2.drew p base g n k i bs ⟨zaj (wo id A1.L), a3, k3⟩ w4)
  case first =>
   skip
   -- REGION 8 BEGIN
   refine wp_region_held_drew (S := fun w => w.cell? ⟨p, 0, none⟩ = some (.slice (some ⟨g, 0, none⟩) n k)) (by kernel_rfl) hdr0 (fun hH => ?_)
   refine tq 0 ?_ rfl ?_ ?_
   rotate_left
   · (intro w hSw; (try dsimp only at hSw); go_simp; try with_reducible rfl)
   try simp only [Act.put, pA, pB, pC]
   refine tq 1 ?_ rfl ?_ ?_
   rotate_left
   · (intro w hSw; (try dsimp only at hSw); go_simp; try with_reducible rfl)
   try simp only [Act.put, pA, pB, pC]
   refine tq 2 ?_ rfl ?_ ?_
   rotate_left
   · (intro w hSw; (try dsimp only at hSw); go_simp; try with_reducible rfl)
   try simp only [Act.put, pA, pB, pC]
   refine tq 3 ?_ rfl ?_ ?_
   rotate_left
   · (intro w hSw; (try dsimp only at hSw); go_simp; try with_reducible rfl)
   try simp only [Act.put, pA, pB, pC]
   refine tq 4 ?_ rfl ?_ ?_
   rotate_left
   · (intro w hSw; (try dsimp only at hSw); go_simp; try with_reducible rfl)
   try simp only [Act.put, pA, pB, pC]
   refine tq 5 ?_ rfl ?_ ?_
   rotate_left
   · (intro w hSw; (try dsimp only at hSw); go_simp; try with_reducible rfl)
   try simp only [Act.put, pA, pB, pC]
   refine tq 6 ?_ rfl ?_ ?_
   rotate_left
   · (intro w hSw; (try dsimp only at hSw); go_simp; try with_reducible rfl)
   try simp only [Act.put, pA, pB, pC]
   refine tq 7 ?_ rfl ?_ ?_
   rotate_left
   · (intro w hSw; (try dsimp only at hSw); go_simp; try with_reducible rfl)
   try simp only [Act.put, pA, pB, pC]
   refine tq 8 ?_ rfl ?_ ?_
   rotate_left
   · (intro w hSw; (try dsimp only at hSw); go_simp; try with_reducible rfl)
   try simp only [Act.put, pA, pB, pC]
   refine tq 9 ?_ rfl ?_ ?_
   rotate_left
   · (intro w hSw; (try dsimp only at hSw); go_simp; try with_reducible rfl)
   try simp only [Act.put, pA, pB, pC]
   refine tq 10 ?_ rfl ?_ ?_
   rotate_left
   · (intro w hSw; (try dsimp only at hSw); go_simp; try with_reducible rfl)
   try simp only [Act.put, pA, pB, pC]
   refine tq 12 ?_ rfl ?_ ?_
   rotate_left
   · (intro w hSw; (try dsimp only at hSw); go_simp; try with_reducible rfl)
   try simp only [Act.put, pA, pB, pC]
   refine rd 11 (by kernel_rfl) rfl (fun K hK => ?_)
   ·
    (go_simp)
    refine hK.out _ _ ?_ (fun hH => ?_)
    · (try dsimp only); (exact hH)
    clear hK K
    refine rd 13 (by kernel_rfl) rfl (fun K hK => ?_)
    ·
     (go_simp; go_at_call 252; refine HSH.out.mono ?_; rintro e w3 ⟨a3, k3, rfl, hD1⟩; have HD1 := yyh hD1; have hh3 := hD1.cell; obtain ⟨⟨uu0, y0⟩, ⟨uu1, y1⟩, y2, y3⟩ := hD1.elem; clear hD1)
     refine hK.out _ _ ?_ (fun hH => ?_)
     · (try dsimp only); (exact HD1.out.cell)
     clear hK K
     refine rd 14 (by kernel_rfl) rfl (fun K hK => ?_)
     ·
      (go_simp)
      refine hK.out _ _ ?_ (fun hH => ?_)
      · (try dsimp only); (exact HD1.out.cell)
      clear hK K
      refine rd 15 (by kernel_rfl) rfl (fun K hK => ?_)
      ·
       (go_simp)
       refine hK.out _ _ ?_ (fun hH => ?_)
       · (try dsimp only); (exact HD1.out.cell4)
       clear hK K
       refine wpAnyH_done (by kernel_rfl) ?_ _
       go_wp2_with fail
       go_meet
       exact ⟨a3, k3, HD1.out.d2⟩
   -- REGION 8 END
  case rest =>
   obtain ⟨a3, k3, hhdr, hown, hins, hxin, hF4⟩ := hcut
   obtain ⟨h, hN, hnd, hyes, hany, hA1, hm, hBB⟩ := HX.out
   have hsm : (zaj (wo id A1.L)).length = m := by rw [zam]; exact hm
   have hnn := HNN.out
   have hli : (bs.take i).length = i := by rw [List.length_take, hnn]; omega
   have hx4 : (bs.take i ++ [(⟨zaj (wo id A1.L), a3, k3⟩ : Bk)] ++ bs.drop (i + 1))[i]? = some ⟨zaj (wo id A1.L), a3, k3⟩ := by
    rw [List.append_assoc, List.getElem?_append_right (by rw [hli]; exact yyn), hli]
    simp
   have hlen4 : (bs.take i ++ [(⟨zaj (wo id A1.L), a3, k3⟩ : Bk)] ++ bs.drop (i + 1)).length = n := by simp; omega
   have hbk4 : zch wc (.slice (some ⟨g, 0, none⟩) n k) (bs.take i ++ [(⟨zaj (wo id A1.L), a3, k3⟩ : Bk)] ++ bs.drop (i + 1)) := by
    refine ⟨SlV.of_owns hown, fun b hb => ?_⟩
    simp only [List.mem_append, List.mem_singleton] at hb
    rcases hb with (hb | hb) | hb
    · exact (hins b (List.mem_of_mem_take hb)).1
    · subst hb; exact hxin
    · exact (hins b (List.mem_of_mem_drop hb)).1
   obtain ⟨-, cx1⟩ := hbk4.at i _ hx4
   change wc.cell? _ = some (.slice a3 (zaj (wo id A1.L)).length k3) at cx1
   rw [hsm, Nat.zero_add] at cx1
   have ch4 : wc.cell? ⟨p, 0, none⟩ = some (.slice (some ⟨g, 0, none⟩) n k) := zaa hhdr
   have hgp : g ≠ p := fun e => h.ne g rfl e
   have hwoP := zo3 hA1 hnd hyes
   have hFW : Fr (zhr p (.slice (some ⟨g, 0, none⟩) bs.length k)) W wc := (Fr.of_below hBB).trans ((Fr.refl _ _).dr.trans (hF4.mono (fun c hc => .inr (by rw [hc]; rfl))))
   by_cases hm0 : m = 0
   ·
    subst hm0
    have hx0 : zaj (wo id A1.L) = [] := List.eq_nil_of_length_eq_zero hsm
    have hw0 : wo id A1.L = [] := List.eq_nil_of_length_eq_zero hm
    have hDel := ziv hown (by omega) i (by omega)
    have hcut2 : (bs.take i ++ [(⟨zaj (wo id A1.L), a3, k3⟩ : Bk)] ++ bs.drop (i + 1)).take i ++ (bs.take i ++ [(⟨zaj (wo id A1.L), a3, k3⟩ : Bk)] ++ bs.drop (i + 1)).drop (i + 1) = bs.take i ++ bs.drop (i + 1) := by
     congr 1
     · rw [List.append_assoc, List.take_append_of_le_length (by rw [hli]; exact yyn), List.take_of_length_le (by rw [hli]; exact yyn)]
     · have e1 : (bs.take i ++ [(⟨zaj (wo id A1.L), a3, k3⟩ : Bk)]).length = i + 1 := by rw [List.length_append, hli]; rfl
       rw [List.drop_append, e1, List.drop_of_length_le (by rw [e1]; exact yyn), Nat.sub_self]
       simp
    rw [hcut2] at hDel
    have hlen5 : (bs.take i ++ bs.drop (i + 1)).length + 1 = n := by simp; omega
    have HDL := yyh hDel
    have HST := yyh (show wc.heap[p]? = some (.cells #[.slice (some ⟨g, 0, none⟩) n k] 220 (0, 0)) ∧ (∀ b ∈ bs, zf9 wc b ∧ b.L ≠ []) ∧ g ≠ p ∧ Fr (zhr p (.slice (some ⟨g, 0, none⟩) bs.length k)) W wc ∧ wo id (zaq bs) = zaq (bs.take i) ++ wo id A1.L ++ zaq (bs.drop (i + 1)) ∧ wo id A1.L = [] ∧ (zaq bs).length ≤ NB ∧ (bs.take i ++ bs.drop (i + 1)).length + 1 = n ∧ ((zaq bs).any fun x => x.id == id) = true ∧ zj5 wc (zhr p (.slice (some ⟨g, 0, none⟩) n k)) from ⟨hhdr, hins, hgp, hFW, hwoP, hw0, hN, hlen5, hany, by
     intro c hc
     rcases hc with rfl | hc
     · exact ⟨_, _, hhdr, by decide⟩
     · obtain ⟨cur, h1⟩ := zba hown hc
       exact ⟨cur, _, h1, by decide⟩⟩)
    clear hhdr hown hins hxin hF4 h hN hnd hyes hany hA1 hm hBB hsm hnn hli hx4 hlen4 hbk4 hgp hwoP hFW hDel hcut2 hlen5 hx0 hw0
    go_wp2_with fail
    refine HDL.out.mono ?_
    rintro e w5 ⟨v5, rfl, hO5, hF5, hv5⟩
    obtain ⟨hhdr, hins, hgp, hFW, hwoP, hw0, hN, hlen5, hany, hno⟩ := HST.out
    obtain ⟨a5, k5, e5, -⟩ := SlV.clip (SlV.of_owns hO5)
    subst e5
    have hF5' : Fr (fun c => c = g) wc w5 := hF5.mono (fun c hc => by injection hc with hc; exact hc.symm)
    have hhdr5 := (hF5'.block p (zac hhdr) (fun e => hgp e.symm)).trans hhdr
    have hF6 : Fr (fun c => c = p) w5 (w5.setCell ⟨p, 0, none⟩ (.slice a5 (bs.take i ++ bs.drop (i + 1)).length k5)) := Fr.set (S := fun c => c = p) (Fr.refl _ _) (p := ⟨p, 0, none⟩) rfl _
    have hFF : Fr (zhr p (.slice (some ⟨g, 0, none⟩) n k)) wc (w5.setCell ⟨p, 0, none⟩ (.slice a5 (bs.take i ++ bs.drop (i + 1)).length k5)) := (hF5'.mono (fun c hc => .inr (by rw [hc]; rfl))).trans (hF6.mono (fun c hc => .inl hc))
    have hL6 : zbi (w5.setCell ⟨p, 0, none⟩ (.slice a5 (bs.take i ++ bs.drop (i + 1)).length k5)) p base (.slice a5 (bs.take i ++ bs.drop (i + 1)).length k5) (bs.take i ++ bs.drop (i + 1)) := by
     refine ⟨by rw [zai hhdr5]; rfl, zcv hO5 hF6 (fun c hc e => ?_), fun b hb => ?_⟩
     · rw [hv5] at hc
       injection hc with hc
       exact hgp (hc.trans e)
     ·
      have hb : b ∈ bs := by
       rcases List.mem_append.1 hb with hb | hb
       · exact List.mem_of_mem_take hb
       · exact List.mem_of_mem_drop hb
      exact ⟨(hins b hb).1.frT hFF hno, (hins b hb).2⟩
    have hP6 : (zaq (bs.take i ++ bs.drop (i + 1))).Perm (wo id (zaq bs)) := by rw [hwoP, hw0, List.append_nil, zav]
    have hcell5 : w5.cell? ⟨p, 0, none⟩ = some (.slice (some ⟨g, 0, none⟩) n k) := zaa hhdr5
    have hfree5 : w5.frozen? ⟨p, 0, none⟩ = false := za5 hhdr5
    have HM := yyh (zj8 (W := W) (v := .slice (some ⟨g, 0, none⟩) bs.length k) (bs := bs) (id := id) hL6 hP6 (by omega) hN hv5 (hFW.trans (hFF.mono (fun c hc => by rcases hc with hc | hc; exact .inl hc; exact .inr hc))))
    obtain ⟨q5, hq5⟩ : ∃ q, (bs.take i ++ bs.drop (i + 1)).length = q := ⟨_, rfl⟩
    rw [hq5] at HM ⊢
    have HAN := yyh hany
    clear hq5 hO5 hF5 hv5 hhdr hins hgp hFW hwoP hw0 hN hlen5 hany hno hF5' hhdr5 hF6 hFF hL6 hP6
    go_wp2_with fail
    refine HM.out.mono ?_
    rintro e w7 ⟨rfl, hD⟩
    have HD := yyh hD
    clear hD
    go_wp2_with fail
    go_ret
    exact ⟨by rw [HAN.out]; rfl, HD.out⟩
   ·
    have gm : ((m : Int) == 0) = false := by rw [beq_eq_false_iff_ne]; omega
    have hL4 : zbi wc p base (.slice (some ⟨g, 0, none⟩) n k) (bs.take i ++ [(⟨zaj (wo id A1.L), a3, k3⟩ : Bk)] ++ bs.drop (i + 1)) := by
     refine ⟨hhdr, hown, fun b hb => ?_⟩
     simp only [List.mem_append, List.mem_singleton] at hb
     rcases hb with (hb | hb) | hb
     · exact hins b (List.mem_of_mem_take hb)
     · subst hb
       exact ⟨hxin, fun e => hm0 (by rw [← hsm]; exact congrArg List.length e)⟩
     · exact hins b (List.mem_of_mem_drop hb)
    have hP4 : (zaq (bs.take i ++ [(⟨zaj (wo id A1.L), a3, k3⟩ : Bk)] ++ bs.drop (i + 1))).Perm (wo id (zaq bs)) := by
     rw [hwoP, zav, zav]
     refine List.Perm.append_right _ (List.Perm.append_left _ ?_)
     simp [zaq]
     exact za2 _
    have HM := yyh (zj8 (W := W) (v := .slice (some ⟨g, 0, none⟩) bs.length k) (bs := bs) (id := id) hL4 hP4 (by omega) hN rfl hFW)
    have HAN := yyh hany
    clear hhdr hown hins hxin hF4 h hN hnd hyes hany hA1 hm hBB hsm hnn hli hx4 hlen4 hbk4 hgp hwoP hFW hL4 hP4
    go_wp2_with fail
    refine HM.out.mono ?_
    rintro e w5 ⟨rfl, hD⟩
    have HD := yyh hD
    clear hD
    go_wp2_with fail
    go_ret
    exact ⟨by rw [HAN.out]; rfl, HD.out⟩
structure zg5 (W : World) (p : Nat) (v : Value) (bs : List Bk) : Prop where
 hdr : ∃ ver : Int, 0 ≤ ver ∧ ver ≤ top ∧ W.heap[p]? = some (.cells #[.int .u64 ver, v] 288 (0, 0))
 bks : zch W v bs
 ne : ∀ b ∈ bs, b.L ≠ []
section
variable {W W' : World} {p : Nat} {v : Value} {bs : List Bk}
theorem zg5.below (h : zg5 W p v bs) (hb : Below W.heap.size W W') : zg5 W' p v bs := by
 obtain ⟨ver, v0, v1, hh⟩ := h.hdr
 exact ⟨⟨ver, v0, v1, (hb.block p (zac hh)).trans hh⟩, h.bks.below hb, h.ne⟩
theorem zg5.cells (h : zg5 W p v bs) : ∃ ver : Int, 0 ≤ ver ∧ ver ≤ top ∧ W.cell? ⟨p, 0, none⟩ = some (.int .u64 ver) ∧ W.cell? ⟨p, 1, none⟩ = some v ∧ W.frozen? ⟨p, 0, none⟩ = false ∧ W.frozen? ⟨p, 1, none⟩ = false := by
 obtain ⟨ver, v0, v1, hh⟩ := h.hdr
 obtain ⟨a, b, c, d⟩ := zao hh
 exact ⟨ver, v0, v1, a, b, c, d⟩
theorem zix (h : zch W v bs) : ∃ a cap, v = .slice a bs.length cap ∧ bs.length ≤ cap ∧ cap ≤ maxLen ∧ (a = none → bs.length = 0) := by
 obtain ⟨a, cap, e, h1, h2, h3, -⟩ := SlV.clip h.1
 exact ⟨a, cap, e, h1, h2, fun e => (h3 e).1⟩
theorem zck (h : ∀ b ∈ bs, b.L ≠ []) : bs.length ≤ (zaq bs).length := by
 induction bs with
 | nil => simp
 | cons b bs ih =>
  have h1 := ih (fun b hb => h b (List.mem_cons_of_mem _ hb))
  have h2 := List.length_pos_iff.2 (h b (List.mem_cons_self))
  show (b :: bs).length ≤ (b.L ++ zaq bs).length
  simp
  omega
theorem zz3 (W : World) : Calls Tryz.prog 162 #[] W fun e w' => e = .returned (.pointer (some ⟨W.heap.size, 0, none⟩)) ∧ w' = W.alloc (.cells #[.int .u64 0, .slice none 0 0] 288) := by
 go_enter Tryz.func162, Tryz.ntmps162
 go_wp2_with fail
 go_ret
 exact ⟨rfl, rfl⟩
theorem zs7 (h : zg5 W p v bs) (hN : (zaq bs).length ≤ NB) (m : Nat) (hm : m ≤ 1000) : Calls Tryz.prog 136 #[.pointer (some ⟨p, 0, none⟩), .int .i64 m] W fun e w' => ∃ v', e = .returned v' ∧ zay w' v' ((zaj (zaq bs)).take m) ∧ (∀ c, v'.ownBlock = some c → W.heap.size ≤ c) ∧ Below W.heap.size W w' := by
 have hle := zck h.ne
 have HP := yyh (zs4 h.bks hN (by unfold NB at hN; omega) m hm)
 obtain ⟨ver, v0, v1, c0, c1, f0, f1⟩ := h.cells
 obtain ⟨a, k, rfl, -, -, -⟩ := zix h.bks
 clear h
 go_enter Tryz.func136, Tryz.ntmps136
 go_wp2_with fail
 refine HP.out.mono ?_
 rintro e w1 ⟨v1, rfl, hE, hge, hB⟩
 go_wp2_with fail
 go_ret
 exact ⟨_, rfl, hE, hge, hB⟩
theorem zzr (h : zg5 W p v bs) (hN : (zaq bs).length ≤ 1000) : Calls Tryz.prog 137 #[.pointer (some ⟨p, 0, none⟩)] W fun e w' => e = .returned (.int .i64 (zaq bs).length) ∧ Below W.heap.size W w' := by
 have hle := zck h.ne
 obtain ⟨a, k, rfl, hk, hkm, hna⟩ := zix h.bks
 obtain ⟨ver, v0, v1, c0, c1, -, -⟩ := h.cells
 have hm : (k : Int) ≤ 9223372036854775807 := by unfold maxLen at hkm; omega
 obtain ⟨n, hnn⟩ := yye (bs.length)
 have hK := h.bks
 rw [hnn] at hK hk hna c1 hle
 have H := yyh hK
 have HN := yyh (yyi hnn hN)
 have HNA := yyh hna
 have hn : n ≤ 1000 := by omega
 clear h hnn hN hK hle hna
 go_enter Tryz.func137, Tryz.ntmps137
 go_wp2_with fail
 go_loopg [3, 12] n (fun gg v3 v11 wr => ∃ i : Nat, i ≤ n ∧ gg = n - i ∧ v11 = .int .i64 i ∧ v3 = .int .i64 (zaq (bs.take i)).length ∧ Aside (Below W.heap.size W wr))
 case atStart => exact ⟨0, by omega, by omega, rfl, by simp [zaq], (show Aside _ from yyr)⟩
 case round =>
  obtain ⟨i, hi, rfl, rfl, rfl, A⟩ := hrel
  by_cases hlt : i < n
  ·
   have hib : i < bs.length := by rw [HN.out.1]; exact hlt
   obtain ⟨b, hb⟩ : ∃ b, bs[i]? = some b := ⟨_, yyg hib⟩
   obtain ⟨xb, xo, rfl⟩ : ∃ xb xo, a = some ⟨xb, xo, none⟩ := by
    rcases SlV.form H.out.1 with ⟨e, e0, _⟩ | ⟨b', o', c', e, _⟩
    · omega
    · injection e with e1; exact ⟨_, _, e1⟩
   obtain ⟨d0, d1⟩ := (H.out.below A.out).at i b hb
   change wr.cell? _ = some (.slice b.a b.L.length b.k) at d1
   have hT := zd8 bs i b hb
   have hT2 : ((zaq (bs.take (i + 1))).length : Int) = ((zaq (bs.take i)).length : Int) + (b.L.length : Int) := by rw [hT, List.length_append]; omega
   have hbd := zdd bs (i + 1)
   have HT := yyh hT2
   have hwr : IntKind.i64.wrap (((zaq (bs.take i)).length : Int) + (b.L.length : Int)) = ((zaq (bs.take i)).length : Int) + (b.L.length : Int) := by
    have := HN.out.2
    rw [IntKind.wrap_i64]
    omega
   clear hT hT2
   generalize (zaq (bs.take i)).length = q at *
   generalize b.L.length = r at *
   go_wp2_with fail
   go_roundg (n - (i + 1))
   case measure => omega
   case rel => exact ⟨i + 1, by omega, rfl, by go_num, by rw [HT.out], (show Aside _ from zab A.out _)⟩
  ·
   obtain rfl : i = n := by omega
   have hT : bs.take i = bs := List.take_of_length_le (by rw [HN.out.1]; exact yyn)
   have HT := yyh hT
   clear hT
   go_wp2_with fail
   go_ret
   exact ⟨by rw [HT.out]; rfl, A.out⟩
theorem zz4 (h : zg5 W p v bs) (hN : (zaq bs).length ≤ NB) : Calls Tryz.prog 92 #[.pointer (some ⟨p, 0, none⟩)] W fun e w' => ∃ v', e = .returned v' ∧ zay w' v' (zaj (zaq bs)) ∧ (∀ c, v'.ownBlock = some c → W.heap.size ≤ c) ∧ Below W.heap.size W w' := by
 have HL := yyh (zzr h (by unfold NB at hN; omega))
 have HF := yyh (fun (w : World) (hb : Below W.heap.size W w) => zs7 (h.below hb) hN (zaq bs).length (by unfold NB at hN; omega))
 have hT : (zaj (zaq bs)).take (zaq bs).length = zaj (zaq bs) := List.take_of_length_le (by rw [zam]; exact yyn)
 rw [hT] at HF
 clear h hT
 go_enter Tryz.func92, Tryz.ntmps92
 go_wp2_with fail
 refine HL.out.mono ?_
 rintro e w1 ⟨rfl, hB1⟩
 have HB1 := yyh hB1
 clear hB1
 go_wp2_with fail
 refine (HF.out _ HB1.out).mono ?_
 rintro e w2 ⟨v2, rfl, hE, hge, hB2⟩
 go_wp2_with fail
 go_ret
 exact ⟨_, rfl, hE, fun c hc => Nat.le_trans HB1.out.size (hge c hc), zad hB2 HB1.out⟩
def zfc (l : List En) (k : Nat) : List En := l.take (min k l.length + 1)
def zgb (l : List En) (k : Nat) (d : Int) : Option En := (zfc l k)[(d % ((zfc l k).length : Int)).toNat]?
def ziy (o : Option En) : Value := .tuple #[enV (o.getD ⟨0, 0⟩), .bool o.isSome]
end
section
variable {W W' : World} {p : Nat} {v : Value} {bs : List Bk}
theorem zyv (h : zg5 W p v bs) (hN : (zaq bs).length ≤ NB) (k : Nat) (hk : k ≤ 16) (d : Int) (hd0 : 0 ≤ d) (hdt : d ≤ top) : Calls Tryz.prog 259 #[.pointer (some ⟨p, 0, none⟩), .int .i64 k, .int .u64 d] W fun e w' => e = .returned (ziy (zgb (zaj (zaq bs)) k d)) ∧ Below W.heap.size W w' := by
 obtain ⟨n, hn⟩ : ∃ n, (zaq bs).length = n := ⟨_, rfl⟩
 have hsl : (zaj (zaq bs)).length = n := by rw [zam]; exact hn
 have hba : Below W.heap.size W (W.alloc (.cells #[.int .u64 0, .int .i64 0] 63)) := zab yyr _
 have hn19 : n ≤ 64 := by rw [← hn]; exact hN
 have HL := zzr (h.below hba) (by unfold NB at hN; omega)
 rw [hn] at HL
 have HLL := yyh HL
 have HF := yyh (fun (w : World) (hb : Below W.heap.size W w) => zs7 (h.below hb) hN (min k n + 1) (by omega))
 have m1 : max (k : Int) 0 = (k : Int) := by omega
 have m2 : min (k : Int) (n : Int) = ((min k n : Nat) : Int) := by omega
 have m3 : ((min k n : Nat) : Int) ≤ 16 := by omega
 have HH := yyh (yyi hsl hn)
 clear h HL hn hsl
 generalize hq : min k n = q at *
 go_enter Tryz.func259, Tryz.ntmps259
 go_wp2_with fail
 refine HLL.out.mono ?_
 rintro e w1 ⟨rfl, hB1⟩
 have hb1 : Below W.heap.size W w1 := zad hB1 hba
 have hk0 := (hB1.block _ (by simp)).trans (heap_alloc_new W (.cells #[.int .u64 0, .int .i64 0] 63))
 have HK := yyh hk0
 have HB1 := yyh hb1
 clear hB1 hb1 hk0
 go_wp2_with fail
 refine (HF.out _ HB1.out).mono ?_
 rintro e w2 ⟨v2, rfl, hE, hge, hB2⟩
 have hk2 := (hB2.block _ (zac HK.out)).trans HK.out
 obtain ⟨x0, x1, g0, g1⟩ := zao hk2
 have hWB := yyh (zad hB2 HB1.out)
 have hc : zfc (zaj (zaq bs)) k = (zaj (zaq bs)).take (q + 1) := by unfold zfc; rw [HH.out.1, hq]
 rw [← hc] at hE
 have hv : zgb (zaj (zaq bs)) k d = (zfc (zaj (zaq bs)) k)[(d % ((zfc (zaj (zaq bs)) k).length : Int)).toNat]? := rfl
 have hll : (zfc (zaj (zaq bs)) k).length ≤ 64 := by
  rw [hc, List.length_take]
  have := HH.out.1
  omega
 generalize zfc (zaj (zaq bs)) k = l at *
 have HV := yyh hv
 clear hv hc hB2 hge hk2 hq
 obtain ⟨m, hm⟩ := yye (l.length)
 have hclip := SlV.clip hE
 rw [hm] at hclip hll HV
 obtain ⟨a2, k2, rfl, hk2, hkm, hna, -⟩ := hclip
 have HNA := yyh hna
 clear hna
 by_cases h0 : m = 0
 ·
  subst h0
  have hl : l = [] := List.eq_nil_of_length_eq_zero hm
  subst hl
  clear hE hm
  go_wp2_with fail
  refine bodyPost_ret (v := .tuple #[.agg #[.int .u64 0, .int .i64 0], .bool false]) (by simp [results, Tryz.results259, go_sem, x0, x1]) rfl ?_
  exact ⟨by rw [HV.out]; simp [ziy, enV], zak (zak hWB.out _ _ _ yyn) _ _ _ yyn⟩
 ·
  obtain ⟨xb, xo, rfl⟩ : ∃ xb xo, a2 = some ⟨xb, xo, none⟩ := by
   rcases SlV.form hE with ⟨e, e0, _⟩ | ⟨b', o', c', e, _⟩
   · omega
   · injection e with e1; exact ⟨_, _, e1⟩
  have g1' : ((m : Int) == 0) = false := by rw [beq_eq_false_iff_ne]; omega
  have r0 : 0 ≤ d % (m : Int) := Int.emod_nonneg _ (by omega)
  have r1 : d % (m : Int) < m := Int.emod_lt_of_pos _ (by omega)
  obtain ⟨j, hj⟩ : ∃ j : Nat, d % (m : Int) = j := ⟨(d % (m : Int)).toNat, by omega⟩
  have hjm : j < m := by omega
  obtain ⟨e, he⟩ : ∃ e, l[j]? = some e := ⟨_, yyg (by omega)⟩
  obtain ⟨y0, y1⟩ := zay.at hE j e he
  have hvv : l[(d % (m : Int)).toNat]? = some e := by rw [hj]; exact he
  have HVV := yyh hvv
  have u0 : IntKind.u64.wrap (m : Int) = m := by rw [IntKind.wrap_u64]; omega
  have u1 : IntKind.i64.wrap (d % (m : Int)) = (j : Int) := by rw [IntKind.wrap_i64]; omega
  have u2 : d.tmod (m : Int) = (j : Int) := by rw [← hj]; exact Int.tmod_eq_emod_of_nonneg hd0
  have u3 : IntKind.u64.wrap (j : Int) = (j : Int) := by rw [IntKind.wrap_u64]; omega
  have u4 : IntKind.i64.wrap (j : Int) = (j : Int) := by rw [IntKind.wrap_i64]; omega
  have u5 : (j : Int) < (m : Int) := by omega
  have hkz : (k2 : Int) ≤ 9223372036854775807 := by unfold maxLen at hkm; omega
  clear hE hvv
  go_wp2_with fail
  refine bodyPost_ret (v := .tuple #[.agg #[.int .u64 e.key, .int .i64 e.id], .bool true]) (by simp [results, Tryz.results259, go_sem, x0, x1]) rfl ?_
  exact ⟨by rw [HV.out, HVV.out]; rfl, zak (zak hWB.out _ _ _ yyn) _ _ _ yyn⟩
theorem SlV.set {t : TypeId} {k g off n c : Nat} {F : List Value} (h : SlV W t k (.slice (some ⟨g, off, none⟩) n c) n F) (j : Nat) (hj : j < n * k) (u : Value) : SlV (W.setCell ⟨g, off + j, none⟩ u) t k (.slice (some ⟨g, off, none⟩) n c) n (F.set j u) := by
 refine ⟨by rw [List.length_set]; exact h.1, ?_⟩
 rcases h.2 with ⟨h2, _⟩ | ⟨b', off', c', cur, e1, h1, h2, h3, h4⟩
 · cases h2
 ·
  injection e1 with e1 e2 e3
  injection e1 with e1
  injection e1 with e1 e4
  subst e1 e4 e3
  refine .inr ⟨g, off, c, _, rfl, h1, h2, zai h3 u, fun j' hj' => ?_⟩
  have hsz : off + j < cur.size := by
   have := h4 j hj
   have h5 : j < F.length := by rw [h.1]; exact hj
   rw [yyg h5] at this
   exact (yya.1 this).1
  rw [Array.getElem?_setIfInBounds, List.getElem?_set, h.1]
  by_cases he : j = j'
  · subst he
    rw [if_pos rfl, if_pos rfl, if_pos hsz, if_pos hj]
  · rw [if_neg (by omega), if_neg he]
    exact h4 j' hj'
theorem zo5 (l : List Bk) (i : Nat) (b x : Bk) (hb : l[i]? = some b) (hx : x.L.length = b.L.length) : (zau l).set (i * 2 + 1) x.v = zau (l.set i x) := by
 induction l generalizing i with
 | nil => rfl
 | cons e l ih =>
  cases i with
  | zero =>
   obtain rfl : e = b := by simpa using hb
   show (Value.int .i64 (lvl e.L.length) :: e.v :: zau l).set 1 x.v = bkC x ++ zau l
   unfold bkC
   rw [hx]
   rfl
  | succ i =>
   show (Value.int .i64 (lvl e.L.length) :: e.v :: zau l).set ((i + 1) * 2 + 1) x.v = bkC e ++ zau (l.set i x)
   rw [show (i + 1) * 2 + 1 = (i * 2 + 1) + 1 + 1 from by omega, List.set_cons_succ, List.set_cons_succ, ih i (by simpa using hb)]
   rfl
def CI (W0 : World) (g off n c : Nat) (bs : List Bk) (w : World) : Prop := ∃ bsx, bsx.length = n ∧ zch w (.slice (some ⟨g, off, none⟩) n c) bsx ∧ bsx.map (·.L) = bs.map (·.L) ∧ Below W0.heap.size W0 w ∧ W0.heap.size ≤ g ∧ g < w.heap.size
structure C0 (W0 : World) (g off n c i : Nat) (bs : List Bk) (b : Bk) (xb : Nat) (w : World) : Prop where
 ci : CI W0 g off n c bs w
 at_ : ∃ bsx, bsx.length = n ∧ zch w (.slice (some ⟨g, off, none⟩) n c) bsx ∧ bsx.map (·.L) = bs.map (·.L) ∧ bsx[i]? = some b
 lt : g < xb
 c1 : w.cell? ⟨xb, 1, none⟩ = some (.slice b.a b.L.length b.k)
 xlt : xb < w.heap.size
theorem CI.below {W0 : World} {g off n c : Nat} (h : CI W0 g off n c bs W) (hb : Below W.heap.size W W') : CI W0 g off n c bs W' := by
 obtain ⟨bsx, e1, e2, e3, e4, e5, e6⟩ := h
 exact ⟨bsx, e1, e2.below hb, e3, zad hb e4, e5, Nat.lt_of_lt_of_le e6 hb.size⟩
theorem C0.below {W0 : World} {g off n c i xb : Nat} {b : Bk} (h : C0 W0 g off n c i bs b xb W) (hb : Below W.heap.size W W') : C0 W0 g off n c i bs b xb W' := by
 obtain ⟨bsx, e1, e2, e3, e4⟩ := h.at_
 exact ⟨h.ci.below hb, ⟨bsx, e1, e2.below hb, e3, e4⟩, h.lt, zae hb h.c1, Nat.lt_of_lt_of_le h.xlt hb.size⟩
theorem CI.to {W0 : World} {g off n c i : Nat} (h : CI W0 g off n c bs W) (hn : bs.length = n) (hi : i < n) : ∃ b, W.cell? ⟨g, off + i * 2, none⟩ = some (.int .i64 (lvl b.L.length)) ∧ W.cell? ⟨g, off + i * 2 + 1, none⟩ = some (.slice b.a b.L.length b.k) ∧ zay W b.v b.L ∧ b.L.length ≤ (zaq bs).length ∧
 C0 W0 g off n c i bs b W.heap.size (W.alloc (.cells #[.int .i64 (lvl b.L.length), .slice b.a b.L.length b.k] 222)) := by
 have hh := h
 obtain ⟨bsx, e1, e2, e3, e4, e5, e6⟩ := h
 obtain ⟨b, hb⟩ : ∃ b, bsx[i]? = some b := ⟨_, yyg (by omega)⟩
 obtain ⟨d0, d1⟩ := e2.at i b hb
 have hal : Below W.heap.size W (W.alloc (.cells #[.int .i64 (lvl b.L.length), .slice b.a b.L.length b.k] 222)) := zab yyr _
 have hle : b.L.length ≤ (zaq bs).length := by
  have h1 : zaq bs = (bs.map (·.L)).flatten := by simp [zaq, List.flatMap_def]
  have h2 : b.L ∈ bs.map (·.L) := by
   rw [← e3]
   exact List.mem_map_of_mem (List.mem_of_getElem? hb)
  rw [h1]
  exact (List.sublist_flatten_of_mem h2).length_le
 refine ⟨b, d0, d1, (e2.2 b (List.mem_of_getElem? hb)).1, hle, hh.below hal, ⟨bsx, e1, e2.below hal, e3, hb⟩, e6, ?_, by simp⟩
 exact zda W _ _ 1
theorem C0.put {W0 : World} {g off n c i xb : Nat} {b : Bk} {a4 : Option Addr} {k4 : Nat} (h : C0 W0 g off n c i bs b xb W) (hi : i < n) (hE : zay W (.slice a4 b.L.length k4) b.L) : W.cell? ⟨g, off + i * 2 + 1, none⟩ ≠ none ∧ W.frozen? ⟨g, off + i * 2 + 1, none⟩ = false ∧ CI W0 g off n c bs (W.setCell ⟨g, off + i * 2 + 1, none⟩ (.slice a4 b.L.length k4)) ∧ (W.setCell ⟨g, off + i * 2 + 1, none⟩ (.slice a4 b.L.length k4)).cell? ⟨xb, 1, none⟩ = some (.slice b.a b.L.length b.k) := by
 obtain ⟨bsx, e1, e2, e3, e4⟩ := h.at_
 obtain ⟨-, -, -, -, e8, e9, e10⟩ := h.ci
 obtain ⟨d0, d1⟩ := e2.at i b e4
 have hS := SlV.set (u := (⟨b.L, a4, k4⟩ : Bk).v) (by have := e2.1; rw [e1] at this; exact this) (i * 2 + 1) (by omega)
 rw [zo5 bsx i b ⟨b.L, a4, k4⟩ e4 rfl] at hS
 have hty := SlV.type e2.1 (c := g) rfl
 obtain ⟨cur, hcur⟩ := hty
 have hF : Fr (fun k => k = g) W (W.setCell ⟨g, off + i * 2 + 1, none⟩ (.slice a4 b.L.length k4)) := Fr.set (S := fun k => k = g) (Fr.refl _ _) (p := ⟨g, off + i * 2 + 1, none⟩) rfl _
 have hno : zj5 W (fun k => k = g) := fun k hk => ⟨cur, 222, by have hk' : k = g := hk; rw [hk']; exact hcur, by decide⟩
 refine ⟨by rw [d1]; simp, za5 hcur, ⟨bsx.set i ⟨b.L, a4, k4⟩, by simpa using e1, ⟨?_, fun x hx => ?_⟩, ?_, zak e8 _ _ _ e9, e9, by simpa using e10⟩, ?_⟩
 · rw [List.length_set, e1]
   exact hS
 · rcases List.mem_or_eq_of_mem_set hx with hx | rfl
   · exact (e2.2 x hx).frT hF hno
   · exact ⟨zay.frT hE hF hno, (e2.2 b (List.mem_of_getElem? e4)).2⟩
 ·
  rw [← e3, List.map_set]
  have : (bsx.map (·.L))[i]? = some b.L := by rw [List.getElem?_map, e4]; rfl
  apply List.ext_getElem?
  intro j
  rw [List.getElem?_set]
  by_cases hj : i = j
  · subst hj
    have hlt : i < (bsx.map (·.L)).length := by rw [List.length_map, e1]; exact hi
    rw [if_pos rfl, if_pos hlt, this]
  · rw [if_neg hj]
 · have := h.lt
   exact za6 hF (fun e => by have e' : xb = g := e; omega) h.c1
theorem zxj (h : zch W v bs) (hn : bs.length ≤ 1000) (hN : (zaq bs).length ≤ 1000) : Calls Tryz.prog 277 #[v] W fun e w' => ∃ v' bs', e = .returned v' ∧ zch w' v' bs' ∧ bs'.map (·.L) = bs.map (·.L) ∧ (∀ c, v'.ownBlock = some c → W.heap.size ≤ c) ∧ Below W.heap.size W w' := by
 have HC := yyh (zlb (by omega) h.1 (zc5 bs))
 have HB := yyh h
 clear h
 obtain ⟨n, hnn⟩ := yye (bs.length)
 have HNN := yyh hnn
 rw [hnn] at HC hn
 clear hnn
 go_enter Tryz.func277, Tryz.ntmps277
 go_wp2_with fail
 refine HC.out.mono ?_
 rintro e w1 ⟨v1, rfl, hO1, hB1⟩
 have HCl := yyh (zwt (SlV.of_owns hO1))
 have hO := fun c hc => (World.ownsRow.lt hO1 c hc).1
 have HO := yyh hO
 have HB1 := yyh hB1
 clear hO1 hB1 hO
 go_wp2_with fail
 refine HCl.out.mono ?_
 rintro e w2 ⟨v2, rfl, hS2, hv2, rfl⟩
 obtain ⟨a2, k2, rfl, hk2, hkm, hna, -⟩ := SlV.clip hS2
 have hkz : (k2 : Int) ≤ 9223372036854775807 := by unfold maxLen at hkm; omega
 cases a2 with
 | none =>
  obtain ⟨rfl, rfl⟩ := hna rfl
  have hbs : bs = [] := List.eq_nil_of_length_eq_zero HNN.out
  clear hS2 hv2
  go_wp2_with fail
  go_loopg [4, 11] 0 (fun gg v4 v11 wr => v11 = .int .i64 0 ∧ wr = w2)
  case atStart => exact ⟨rfl, rfl⟩
  case round =>
   obtain ⟨rfl, rfl⟩ := hrel
   go_wp2_with fail
   go_ret
   exact ⟨.slice none 0 0, [], rfl, ⟨SlV.nil _ _ _, fun b hb => nomatch hb⟩, by rw [hbs], (fun c hc => nomatch hc), HB1.out⟩
 | some x =>
  obtain ⟨g, off, rfl⟩ : ∃ g off, x = ⟨g, off, none⟩ := by
   rcases SlV.form hS2 with ⟨e, _⟩ | ⟨b', o', c', e, _⟩
   · cases e
   · injection e with e1; injection e1 with e1; exact ⟨_, _, e1⟩
  have hg := HO.out g (by rw [← hv2]; rfl)
  have hCI0 : CI W g off n k2 bs w2 := ⟨bs, HNN.out, ⟨by rw [HNN.out]; exact hS2, fun b hb => (HB.out.2 b hb).below HB1.out⟩, rfl, HB1.out, hg, SlV.lt hS2 rfl⟩
  have HCI0 := yyh hCI0
  have HG := yyh hg
  clear hS2 hv2 hCI0 hg
  go_wp2_with fail
  go_loopg [4, 11] n (fun gg v4 v11 wr => ∃ i : Nat, i ≤ n ∧ gg = n - i ∧ v11 = .int .i64 i ∧ Aside (CI W g off n k2 bs wr))
  case atStart => exact ⟨0, by omega, by omega, rfl, (show Aside _ from HCI0.out)⟩
  case round =>
   obtain ⟨i, hi, rfl, rfl, A⟩ := hrel
   by_cases hlt : i < n
   ·
    obtain ⟨b, d0, d1, hEb, hbl, hC0⟩ := CI.to A.out HNN.out hlt
    have HC0 := yyh hC0
    have HEB := yyh hEb
    have hbl1 : b.L.length ≤ 1000 := by omega
    obtain ⟨m, hm⟩ := yye (b.L.length)
    obtain ⟨W5, hW5⟩ := yye (wr.alloc (.cells #[.int .i64 (lvl b.L.length), .slice b.a b.L.length b.k] 222))
    have hb5 : Below wr.heap.size wr W5 := by rw [← hW5]; exact zab yyr _
    obtain ⟨xb, hxb⟩ := yye (wr.heap.size)
    rw [hW5, hxb] at hC0
    have hCl5 := zos (W := W5) (F := zbf b.L) (n := b.L.length) (by omega) (zay.below hEb hb5) (zgx _)
    have hsh : Calls Tryz.prog 282 #[.slice b.a m b.k] W5 fun e w' => ∃ v', e = .returned v' ∧ w'.ownsRow W5.heap.size 63 2 v' b.L.length (zbf b.L) ∧ C0 W g off n k2 i bs b xb w' := by
     rw [← hm]
     refine hCl5.mono ?_
     rintro e w' ⟨v', rfl, ho, hB⟩
     exact ⟨v', rfl, ho, hC0.below hB⟩
    have HSH := yyh hsh
    have hc1 : W5.cell? ⟨xb, 1, none⟩ = some (.slice b.a m b.k) := by rw [← hm]; exact hC0.c1
    have HM := yyh hm
    rw [hm] at d0 d1 hW5
    have hlt5 : (i : Int) < (n : Int) := by omega
    have hge0 : decide ((i : Int) < 0) = false := by simp
    have HA := yyh A.out
    clear hC0 hEb hm hsh hCl5 hb5 hbl1 hbl A
    go_upto_region 5 with fail
    clear hW5
    go_wp2_with fail
    refine HSH.out.mono ?_
    rintro e w3 ⟨v3, rfl, hO3, hC3⟩
    have HO3 := yyh (yyi hO3 hC3)
    clear hO3 hC3
    go_wp2_with fail
    refine (zh0 (SlV.of_owns HO3.out.1)).mono ?_
    rintro e w4 ⟨v4, rfl, hS4, -, rfl⟩
    obtain ⟨a4, k4, rfl, -, -, -, -⟩ := SlV.clip hS4
    rw [HM.out]
    have HP := yyh (C0.put HO3.out.2 hlt hS4)
    rw [HM.out] at HP
    have hp0 := HP.out.1
    have hp1 := HP.out.2.1
    obtain ⟨uu, hp0⟩ := Option.ne_none_iff_exists'.1 hp0
    clear hS4
    go_wp2_with fail
    go_roundg (n - (i + 1))
    case measure => omega
    case rel => exact ⟨i + 1, by omega, rfl, by go_num, (show Aside _ from HP.out.2.2.1)⟩
   ·
    obtain rfl : i = n := by omega
    have HA := yyh A.out
    clear A
    go_wp2_with fail
    go_ret
    obtain ⟨bsx, e1, e2, e3, e4, e5, e6⟩ := HA.out
    exact ⟨.slice (some ⟨g, off, none⟩) i k2, bsx, rfl, e2, e3, (fun c hc => by cases hc; exact HG.out), e4⟩
end
end Go.Proofs.YtcfhkbcllijnkaaGreat
