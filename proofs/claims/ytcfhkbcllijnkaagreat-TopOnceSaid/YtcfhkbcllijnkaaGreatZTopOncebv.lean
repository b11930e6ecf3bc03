/- Parts of the proof of TopOnce, under no condition. -/
import Derived.Test.YtcfhkbcllijnkaaGreatZTopOncebu
import Derived.Test.YtcfhkbcllijnkaaGreatZTopOncebs
set_option linter.unusedVariables false
set_option linter.unusedSimpArgs false
set_option maxRecDepth 100000
set_option maxHeartbeats 0
namespace Go.Proofs.YtcfhkbcllijnkaaGreat
open Go.RowKit Go.Maps Go.Shelf Go.Proofs.YtcfhkbcllijnkaaGreatW.PrintWords
theorem zyn {T k : Nat} (h1 : 1 ≤ T) (hk : k ≤ 16) : On T k ⟨CM.new T k, List.replicate T wk0⟩ := by
 have hJ : J (· = 4) T k ⟨CM.new T k, List.replicate T wk0⟩ := J.new ⟨rfl, by decide, by decide⟩ h1 hk
 have hr : (CM.new T k).rows = [] := rfl
 have he : zct (CM.new T k).evs = [] := rfl
 refine ⟨hJ, ⟨by show (ids (zct (CM.new T k).evs)).Nodup; rw [he]; exact List.nodup_nil, fun i x hx => ?_, fun id hid => ?_⟩, ?_, ?_, rfl⟩
 · have hx : (CM.new T k).rows[i]? = some x := hx
   rw [hr] at hx
   cases hx
 · have hid : id ∈ ids (zct (CM.new T k).evs) := hid
   rw [he] at hid
   cases hid
 · rfl
 ·
  have ho := hJ.o
  have h0 : (CM.new T k).o = 0 := rfl
  have ho : (CM.new T k).o = (((CM.new T k).q.all.length + (⟨CM.new T k, List.replicate T wk0⟩ : MM).runs : Nat) : Int) := ho
  show (CM.new T k).q.all.length ≤ 0
  omega
section
variable {W w w' w2 w3 : World} {T k E B : Nat} {M1 M2 M3 : MA} {m1 m2 m3 : MM} {bx : Option (Nat × Obj)} {s1 s2 s3 : MS}
theorem zkt.new {N : Nat} (hm : zaz w M1 s1 0) (hcm : s1.c.cm M1.c = CM.new T k) (hws : s1.ws = List.replicate T wk0) (hT : M1.c.q.lp.length = T) (hC : M1.c.C = 64) (h1 : 1 ≤ T) (hk : k ≤ 16) : zkt M1 T k ⟨CM.new T k, List.replicate T wk0⟩ 0 0 s1 w :=
 ⟨hm, by unfold MS.mm; rw [hcm, hws], zyn h1 hk, yyn, hT, hC⟩
theorem zku.new (a1 : zkt M1 T k m1 E B s1 w) (g1 : ∀ j, zdp M1 s1 j → W.heap.size ≤ j) (b1 : Below W.heap.size W w) (a2 : zkt M2 T k m2 E B s2 w2) (g2 : ∀ j, zdp M2 s2 j → w.heap.size ≤ j) (b2 : Below w.heap.size w w2) (a3 : zkt M3 T k m3 E B s3 w3) (g3 : ∀ j, zdp M3 s3 j → w2.heap.size ≤ j) (b3 : Below w2.heap.size w2 w3) : Tri W T k M1 M2 M3 m1 m2 m3 none E B w3 := by
 have z1 := b1.size
 have z2 := b2.size
 refine ⟨s1, s2, s3, a1.below (zad b3 b2), a2.below b3, a3, fun j hj hk => ?_, fun j hj hk => ?_, fun j hj hk => ?_, g1, fun j hj => ?_, fun j hj => ?_, zad b3 (zad b2 b1), fun b o hx => by cases hx⟩
 · have := a1.at_.own_lt hj
   have := g2 j hk
   omega
 · have := a2.at_.own_lt hj
   have := g3 j hk
   omega
 · have := a1.at_.own_lt hk
   have := g3 j hj
   omega
 · have := g2 j hj
   omega
 · have := g3 j hj
   omega
theorem Tri.box1 {b : Nat} {o : Obj} (h : Tri W T k M1 M2 M3 m1 m2 m3 (some (b, o)) E B w) : w.heap[b]? = some o := by
 obtain ⟨s1, s2, s3, h⟩ := h
 exact (h.box b o rfl).1
theorem zqr (t k : Int) (a2 : Option Addr) (n2 c2 : Nat) (a3 : Option Addr) (n3 c3 : Nat) (da db : Int) (da0 : 0 ≤ da) (da1 : da ≤ top) (db0 : 0 ≤ db) (db1 : db ≤ top) (W : World) (h2 : ztv W a2 n2) (h3 : zqq W a3 n3) (hn2 : n2 ≤ 9223372036854775807) : Calls Tryz.prog 8 #[.int .i64 t, .int .i64 k, .slice a2 n2 c2, .slice a3 n3 c3, .int .u64 da, .int .u64 db] W fun e w' => e = .returned (.bool true) ∧ Below W.heap.size W w' := by
 obtain ⟨T, kk, C, h1, h8, hk, c1, c64, eT, ek, eC, hV⟩ := ztp t k 63
 obtain rfl : C = 64 := by omega
 have HM := yyh (fun w => ztu (W := w) t k 63 T kk 64 h1 h8 (by omega) c1 c64 hV)
 obtain ⟨n7, rfl⟩ : ∃ n7, T = n7 + 1 := ⟨T - 1, by omega⟩
 have ha : bits .and .i64 t 7 = (n7 : Int) := by rw [zgn]; omega
 have hw7 : IntKind.i64.wrap ((n7 : Int) + 1) = (n7 : Int) + 1 := zb4 (by omega) (by omega)
 have hz7 : ((n7 : Int) + 1 == 0) = false := by rw [beq_eq_false_iff_ne]; omega
 have hz7' : ¬ ((n7 : Int) + 1 = 0) := by omega
 have HA := yyh (yyi h2 (yyi h3 (yyi h8 hk)))
 clear c1 c64 eT ek eC hV h2 h3 h1
 go_enter Tryz.func8, Tryz.ntmps8
 go_wp2_with fail
 refine (HM.out _).mono ?_
 rintro e w1 ⟨M1, s1, rfl, hm1, hcm1, hws1, -, -, hT1, hK1, hC1, hown1, hb1⟩
 have HX1 := yyh (yyi (zkt.new (N := 0) hm1 hcm1 hws1 hT1 hC1 (by omega) (by omega)) (yyi hown1 hb1))
 clear hm1 hcm1 hws1 hT1 hK1 hC1 hown1 hb1
 go_wp2_with fail
 refine (HM.out _).mono ?_
 rintro e w2 ⟨M2, s2, rfl, hm1, hcm1, hws1, -, -, hT1, hK1, hC1, hown1, hb1⟩
 have HX2 := yyh (yyi (zkt.new (N := 0) hm1 hcm1 hws1 hT1 hC1 (by omega) (by omega)) (yyi hown1 hb1))
 clear hm1 hcm1 hws1 hT1 hK1 hC1 hown1 hb1
 go_wp2_with fail
 refine (HM.out _).mono ?_
 rintro e w3 ⟨M3, s3, rfl, hm1, hcm1, hws1, -, -, hT1, hK1, hC1, hown1, hb1⟩
 have HX3 := yyh (yyi (zkt.new (N := 0) hm1 hcm1 hws1 hT1 hC1 (by omega) (by omega)) (yyi hown1 hb1))
 clear hm1 hcm1 hws1 hT1 hK1 hC1 hown1 hb1
 have HT := yyh (zku.new HX1.out.1 HX1.out.2.1 HX1.out.2.2 HX2.out.1 HX2.out.2.1 HX2.out.2.2 HX3.out.1 HX3.out.2.1 HX3.out.2.2)
 clear HX1 HX2 HX3 HM
 go_wp2_with fail
 go_loopg [16] 40 (fun gg v16 wr => ∃ (i : Nat) (m m' : MM), i ≤ 40 ∧ gg = 40 - i ∧ v16 = .int .i64 i ∧ Aside (Tri W (n7 + 1) kk M1 M2 M3 m m m' none (i * 20) (i * 2000) wr ∧ m.c.rows.length = i ∧ m'.c.rows.length = i ∧ i ≤ n2))
 case atStart => exact ⟨0, _, _, by omega, by omega, rfl, ⟨HT.out, rfl, rfl, Nat.zero_le _⟩⟩
 case round =>
  clear HT
  obtain ⟨i, m, m', hi, rfl, rfl, A1⟩ := hrel
  go_upto_region 5 with fail
  go_cut [50] (fun v wx => ∃ g : Bool, v = .bool g ∧ (g = true ↔ i < n2 ∧ i < 40) ∧ wr = wx)
  case first =>
   clear A1
   by_cases hx1 : i < n2
   ·
    have k1 : (i : Int) < (n2 : Int) := by omega
    by_cases hx2 : i < 40
    ·
     have k2 : (i : Int) < 40 := by omega
     go_wp2_with fail
     go_meet
     exact ⟨true, rfl, ⟨fun _ => ⟨hx1, hx2⟩, fun _ => rfl⟩, rfl⟩
    ·
     have k2 : ¬ (i : Int) < 40 := by omega
     go_wp2_with fail
     go_meet
     exact ⟨false, rfl, ⟨fun h => (by cases h), fun h => absurd h.2 hx2⟩, rfl⟩
   ·
    have k1 : ¬ (i : Int) < (n2 : Int) := by omega
    go_wp2_with fail
    go_meet
    exact ⟨false, rfl, ⟨fun h => (by cases h), fun h => absurd h.1 hx1⟩, rfl⟩
  case rest =>
  obtain ⟨gb, rfl, hgb, rfl⟩ := hcut
  by_cases hgo : i < n2 ∧ i < 40
  ·
   obtain rfl : gb = true := hgb.2 hgo
   clear hgb
   have hlt0 : (i : Int) < (n2 : Int) := by omega
   have hlt1 : (i : Int) < 40 := by omega
   obtain ⟨b0, f0, rfl, hm0, hbw0, hc0⟩ : ∃ b off, a2 = some ⟨b, off, none⟩ ∧ n2 ≤ 9223372036854775807 ∧ b < W.heap.size ∧ ∀ j, j < n2 → ∃ z : Int, W.cell? ⟨b, off + j, none⟩ = some (.int .i64 z) := by
    rcases HA.out.1 with e | e
    · omega
    · exact e
   obtain ⟨y, hy⟩ := hc0 i hgo.1
   obtain ⟨q, hq, hq8⟩ : ∃ q : Nat, bits .and .i64 y 7 = (q : Int) ∧ q < 8 := ⟨(y % 8).toNat, by rw [zgn]; omega, by omega⟩
   obtain ⟨p, hp, hpl⟩ : ∃ p : Nat, (i : Int).tmod ((n7 : Int) + 1) = (p : Int) ∧ p < n7 + 1 := ⟨i % (n7 + 1), by rw [Int.tmod_eq_emod_of_nonneg (by omega)]; push_cast; rfl, Nat.mod_lt _ (by omega)⟩
   have HY := yyh (yyi hbw0 hy)
   have HG := yyh hgo
   have hn0 : (n2 : Int) ≤ 9223372036854775807 := by omega
   have HA1 := yyh A1.out
   have HON := yyh (show On (n7 + 1) kk m ∧ On (n7 + 1) kk m' from by obtain ⟨s1, s2, s3, h⟩ := A1.out.1; exact ⟨h.a1.on, h.a3.on⟩)
   clear hy hc0 hbw0 hgo A1
   go_upto_region 8 with fail
   obtain ⟨b, hb⟩ := yye (wr.heap.size)
   obtain ⟨W1, hW1⟩ := yye (wr.alloc (.cells #[.pointer (some ⟨M1.mp, 0, none⟩), .pointer (some ⟨M2.mp, 0, none⟩), .pointer (some ⟨M3.mp, 0, none⟩)] 23))
   have hT : Tri W (n7 + 1) kk M1 M2 M3 m m m' (some (b, (.cells #[.pointer (some ⟨M1.mp, 0, none⟩), .pointer (some ⟨M2.mp, 0, none⟩), .pointer (some ⟨M3.mp, 0, none⟩)] 23 (0, 0)))) (i * 20) (i * 2000) W1 := by rw [← hW1, ← hb]; exact HA1.out.1.alloc
   have H0 := yyh (yyi hT HA1.out.2.1)
   have H00 := yyh (yyi HA1.out.2.1 HA1.out.2.2.1)
   rw [hW1, hb]
   clear hT hW1 hb HA1
   refine wp_loop_rounds 4 ?_
   have b0 : W1.cell? ⟨b, 0, none⟩ = some (.pointer (some ⟨M1.mp, 0, none⟩)) := by rw [zaa H0.out.1.box1]; rfl
   rw [rounds_succ]
   go_upto_region 10 with fail
   clear b0
   have yr : W1.cell? ⟨b0, f0 + i, none⟩ = some (.int .i64 y) := zbr H0.out.1.bel HY.out.1 HY.out.2
   have yd : W1.drew.cell? ⟨b0, f0 + i, none⟩ = some (.int .i64 y) := zbr (zaf H0.out.1.bel) HY.out.1 HY.out.2
   have HC0 := yyh (fun (wx : World) (hb : Below W1.heap.size W1 wx) => (H0.out.1.below hb).core1)
   have HS0 := yyh (fun (wx : World) (hb : Below W1.heap.size W1 wx) => (H0.out.1.below hb).sub1 (by have := HG.out; omega) HA.out.2.2.1 (by have := H0.out.2; have := HG.out; omega) p hpl q hq8)
   go_cut [20] (fun v20 wx => v20 = .int .i64 0 ∧ Aside (Tri W (n7 + 1) kk M1 M2 M3 (m.sb p q) m m' (some (b, (.cells #[.pointer (some ⟨M1.mp, 0, none⟩), .pointer (some ⟨M2.mp, 0, none⟩), .pointer (some ⟨M3.mp, 0, none⟩)] 23 (0, 0)))) (i * 20 + 2) (i * 2000 + 220) wx))
   case first =>
    go_region_with (first | (go_at_call 11; refine (HC0.out _ (zaf yyr)).mono ?_; rintro e w2 ⟨rfl, rfl⟩) | (go_at_call 12; refine (HS0.out _ (zaf yyr)).mono ?_; rintro e w3 ⟨⟨id, rfl⟩, hP⟩; have HPP := yyh hP; clear hP))
    all_goals
     (try go_wp2_with fail)
     go_meet
     exact ⟨rfl, HPP.out⟩
   case rest =>
   obtain ⟨rfl, hT⟩ := hcut
   have hT := hT.out
   clear yr yd HC0 HS0
   have H1 := yyh (yyi hT.rot H00.out.1)
   clear hT
   go_wp2_with fail
   have b1 : wc.cell? ⟨b, 1, none⟩ = some (.pointer (some ⟨M2.mp, 0, none⟩)) := by rw [zaa H1.out.1.box1]; rfl
   rw [rounds_succ]
   go_upto_region 10 with fail
   clear b1
   have yr : wc.cell? ⟨b0, f0 + i, none⟩ = some (.int .i64 y) := zbr H1.out.1.bel HY.out.1 HY.out.2
   have yd : wc.drew.cell? ⟨b0, f0 + i, none⟩ = some (.int .i64 y) := zbr (zaf H1.out.1.bel) HY.out.1 HY.out.2
   have HC1 := yyh (fun (wx : World) (hb : Below wc.heap.size wc wx) => (H1.out.1.below hb).core1)
   have HS1 := yyh (fun (wx : World) (hb : Below wc.heap.size wc wx) => (H1.out.1.below hb).sub1 (by have := HG.out; omega) HA.out.2.2.1 (by have := H1.out.2; have := HG.out; omega) p hpl q hq8)
   go_cut [20] (fun v20 wx => v20 = .int .i64 0 ∧ Aside (Tri W (n7 + 1) kk M2 M3 M1 (m.sb p q) m' (m.sb p q) (some (b, (.cells #[.pointer (some ⟨M1.mp, 0, none⟩), .pointer (some ⟨M2.mp, 0, none⟩), .pointer (some ⟨M3.mp, 0, none⟩)] 23 (0, 0)))) (i * 20 + 2 + 2) (i * 2000 + 220 + 220) wx))
   case first =>
    go_region_with (first | (go_at_call 11; refine (HC1.out _ (zaf yyr)).mono ?_; rintro e w2 ⟨rfl, rfl⟩) | (go_at_call 12; refine (HS1.out _ (zaf yyr)).mono ?_; rintro e w3 ⟨⟨id, rfl⟩, hP⟩; have HPP := yyh hP; clear hP))
    all_goals
     (try go_wp2_with fail)
     go_meet
     exact ⟨rfl, HPP.out⟩
   case rest =>
   obtain ⟨rfl, hT⟩ := hcut
   have hT := hT.out
   clear yr yd HC1 HS1
   have H2 := yyh (yyi hT.rot H00.out.2)
   clear hT
   go_wp2_with fail
   have b2 : wc.cell? ⟨b, 2, none⟩ = some (.pointer (some ⟨M3.mp, 0, none⟩)) := by rw [zaa H2.out.1.box1]; rfl
   rw [rounds_succ]
   go_upto_region 10 with fail
   clear b2
   have yr : wc.cell? ⟨b0, f0 + i, none⟩ = some (.int .i64 y) := zbr H2.out.1.bel HY.out.1 HY.out.2
   have yd : wc.drew.cell? ⟨b0, f0 + i, none⟩ = some (.int .i64 y) := zbr (zaf H2.out.1.bel) HY.out.1 HY.out.2
   have HC2 := yyh (fun (wx : World) (hb : Below wc.heap.size wc wx) => (H2.out.1.below hb).core1)
   have HS2 := yyh (fun (wx : World) (hb : Below wc.heap.size wc wx) => (H2.out.1.below hb).sub1 (by have := HG.out; omega) HA.out.2.2.1 (by have := H2.out.2; have := HG.out; omega) p hpl q hq8)
   go_cut [20] (fun v20 wx => v20 = .int .i64 0 ∧ Aside (Tri W (n7 + 1) kk M3 M1 M2 (m'.sb p q) (m.sb p q) (m.sb p q) (some (b, (.cells #[.pointer (some ⟨M1.mp, 0, none⟩), .pointer (some ⟨M2.mp, 0, none⟩), .pointer (some ⟨M3.mp, 0, none⟩)] 23 (0, 0)))) (i * 20 + 2 + 2 + 2) (i * 2000 + 220 + 220 + 220) wx))
   case first =>
    go_region_with (first | (go_at_call 11; refine (HC2.out _ (zaf yyr)).mono ?_; rintro e w2 ⟨rfl, rfl⟩) | (go_at_call 12; refine (HS2.out _ (zaf yyr)).mono ?_; rintro e w3 ⟨⟨id, rfl⟩, hP⟩; have HPP := yyh hP; clear hP))
    all_goals
     (try go_wp2_with fail)
     go_meet
     exact ⟨rfl, HPP.out⟩
   case rest =>
   obtain ⟨rfl, hT⟩ := hcut
   have hT := hT.out
   clear yr yd HC2 HS2
   have H3 := yyh (yyi hT.rot H00.out.2)
   clear hT
   go_wp2_with fail
   rw [rounds_succ]
   have hT3 := H3.out.1.nobox
   have hr1 := (HON.out.1.sb hpl (q : Int) (by have := H00.out.1; have := HG.out; omega))
   have hr2 := (HON.out.2.sb hpl (q : Int) (by have := H00.out.2; have := HG.out; omega))
   have hi39 : i * 2000 ≤ 80000 := by omega
   have H4 := yyh (yyi hT3 (yyi (hr1.2.trans (congrArg (· + 1) H00.out.1)) (yyi (hr2.2.trans (congrArg (· + 1) H00.out.2)) (yyi hr1.1 hr2.1))))
   obtain ⟨mX, hmX⟩ : ∃ x, m.sb p q = x := ⟨_, rfl⟩
   obtain ⟨mY, hmY⟩ : ∃ x, m'.sb p q = x := ⟨_, rfl⟩
   rw [hmX, hmY] at H4
   clear hT3 hr1 hr2 H0 H1 H2 H3 HON H00 hmX hmY
   have hwi : IntKind.i64.wrap ((i : Int) + 1) = (i : Int) + 1 := zb4 (by omega) (by omega)
   have hi40 : i < 40 := HG.out.2
   by_cases hn : i < n3
   ·
    have hnz : (i : Int) < (n3 : Int) := by omega
    obtain ⟨b3, f3, rfl, hm3, hbw, hcell⟩ : ∃ b off, a3 = some ⟨b, off, none⟩ ∧ n3 ≤ 9223372036854775807 ∧ b < W.heap.size ∧ ∀ j, j < n3 → ∃ z : Int, W.cell? ⟨b, off + j, none⟩ = some (.int .u64 z) ∧ 0 ≤ z ∧ z ≤ top := by
     rcases HA.out.2.1 with e | e
     · omega
     · exact e
    obtain ⟨z, hz, z0, z1⟩ := hcell i hn
    obtain ⟨pz, rfl⟩ : ∃ pz : Nat, z = (pz : Int) := ⟨z.toNat, by omega⟩
    have hn3 : (n3 : Int) ≤ 9223372036854775807 := by omega
    have HZ := yyh (yyi hbw (yyi hz z1))
    have hzr : wc.cell? ⟨b3, f3 + i, none⟩ = some (.int .u64 pz) := zbr H4.out.1.bel hbw hz
    have HP1 := yyh (H4.out.1.pick1 (by omega) (by omega) HA.out.2.2.1 pz z1 da da0 da1)
    clear hcell hz z0 z1
    go_wp2_with fail
    refine HP1.out.mono ?_
    rintro e w5 ⟨⟨kd, rfl⟩, h5⟩
    have hzr : w5.cell? ⟨b3, f3 + i, none⟩ = some (.int .u64 pz) := zbr h5.bel HZ.out.1 HZ.out.2.1
    have HP2 := yyh (h5.rot.pick1 (by omega) (by omega) HA.out.2.2.1 pz HZ.out.2.2 da da0 da1)
    clear h5 HP1
    go_wp2_with fail
    refine HP2.out.mono ?_
    rintro e w6 ⟨⟨kd, rfl⟩, h6⟩
    have hzr : w6.cell? ⟨b3, f3 + i, none⟩ = some (.int .u64 pz) := zbr h6.bel HZ.out.1 HZ.out.2.1
    have HP3 := yyh (h6.rot.pick1 (by omega) (by omega) HA.out.2.2.1 pz HZ.out.2.2 db db0 db1)
    clear h6 HP2
    go_wp2_with fail
    refine HP3.out.mono ?_
    rintro e w7 ⟨⟨kd, rfl⟩, h7⟩
    have HN := yyh (h7.rot.up (E' := (i + 1) * 20) (B' := (i + 1) * 2000) (by omega) (by omega))
    clear h7 HP3 hzr
    go_wp2_with fail
    have ht : pz % (n7 + 1) < n7 + 1 := Nat.mod_lt _ (by omega)
    have HM := yyh (yyi HN.out (yyi (((H4.out.2.2.2.1.step HA.out.2.2.1 ht da).2).trans H4.out.2.1) (yyi (((H4.out.2.2.2.2.step HA.out.2.2.1 ht db).2).trans H4.out.2.2.1) (show i + 1 ≤ n2 from HG.out.1))))
    clear HN ht
    go_roundg (40 - (i + 1))
    case measure => omega
    case rel => exact ⟨i + 1, _, _, by omega, by omega, by go_num, (show Aside _ from HM.out)⟩
   ·
    have hnz : ¬ (i : Int) < (n3 : Int) := by omega
    have HM := yyh (yyi (H4.out.1.up (E' := (i + 1) * 20) (B' := (i + 1) * 2000) (by omega) (by omega)) (yyi H4.out.2.1 (yyi H4.out.2.2.1 (show i + 1 ≤ n2 from HG.out.1))))
    go_wp2_with fail
    go_roundg (40 - (i + 1))
    case measure => omega
    case rel => exact ⟨i + 1, mX, mY, by omega, by omega, by go_num, (show Aside _ from HM.out)⟩
  ·
   obtain rfl : gb = false := by cases gb with | false => rfl | true => exact absurd (hgb.1 rfl) hgo
   clear hgb
   have hmin : i = min n2 40 := by have := A1.out.2.2.2; omega
   obtain ⟨hT, hr, hr', hin⟩ := A1.out
   have hon : On (n7 + 1) kk m ∧ On (n7 + 1) kk m' := by obtain ⟨s1, s2, s3, h⟩ := hT; exact ⟨h.a1.on, h.a3.on⟩
   obtain ⟨K, hK, hKq, hKl, -⟩ := J.rest HA.out.2.2.1 (by omega) da 1000 m hon.1.J (hon.1.phi HA.out.2.2.1 (by omega))
   obtain ⟨K', hK', hKq', hKl', -⟩ := J.rest HA.out.2.2.1 (by omega) db 1000 m' hon.2.J (hon.2.phi HA.out.2.2.1 (by omega))
   have HR1 := yyh (hT.rest1 (by omega) HA.out.2.2.1 da da0 da1 K hK hKq hKl)
   have HKK := yyh (yyi hK (yyi hKq (yyi hKl (yyi hK' (yyi hKq' hKl')))))
   have HOR := yyh (yyi (hon.1.rest HA.out.2.2.1 da K) (hon.2.rest HA.out.2.2.1 db K'))
   have HRR := yyh (yyi hr hr')
   have HMI := yyh hmin
   have HGO := yyh hgo
   clear hT hr hr' hon hK hKq hKl hK' hKq' hKl' A1 hmin
   go_wp2_with fail
   refine HR1.out.mono ?_
   rintro e w5 ⟨⟨r1, rfl⟩, h5⟩
   have HR2 := yyh (h5.rot.rest1 (by omega) HA.out.2.2.1 da da0 da1 K HKK.out.1 HKK.out.2.1 HKK.out.2.2.1)
   clear h5 HR1
   go_wp2_with fail
   refine HR2.out.mono ?_
   rintro e w6 ⟨⟨r2, rfl⟩, h6⟩
   have HR3 := yyh (h6.rot.rest1 (by omega) HA.out.2.2.1 db db0 db1 K' HKK.out.2.2.2.1 HKK.out.2.2.2.2.1 HKK.out.2.2.2.2.2)
   clear h6 HR2
   go_wp2_with fail
   refine HR3.out.mono ?_
   rintro e w7 ⟨⟨r3, rfl⟩, h7⟩
   obtain ⟨mX, hmX⟩ : ∃ x, m.rest (n7 + 1) da K = x := ⟨_, rfl⟩
   obtain ⟨mZ, hmZ⟩ : ∃ x, m'.rest (n7 + 1) db K' = x := ⟨_, rfl⟩
   rw [hmX, hmZ] at HOR h7
   have HEN := yyh (show mX.quiet = true ∧ mZ.quiet = true from by rw [← hmX, ← hmZ]; exact ⟨HKK.out.2.1, HKK.out.2.2.2.2.1⟩)
   obtain ⟨u1, u2, u3, hS⟩ := h7.rot
   have hE : i * 20 + 16000 + 16000 + 16000 ≤ 100000 := by omega
   have HS := yyh hS
   clear h7 HR3 hmX hmZ hS HKK
   -- the events
   have ex : u1.c.evs = mX.c.evs := by have := HS.out.a1.mm; exact congrArg (fun m => m.c.evs) this
   have ey : u2.c.evs = mX.c.evs := by have := HS.out.a2.mm; exact congrArg (fun m => m.c.evs) this
   have ez : u3.c.evs = mZ.c.evs := by have := HS.out.a3.mm; exact congrArg (fun m => m.c.evs) this
   have lx : mX.c.evs.length ≤ 100000 := Nat.le_trans HS.out.a1.ev hE
   have lz : mZ.c.evs.length ≤ 100000 := Nat.le_trans HS.out.a3.ev hE
   have HEX := yyh (fun (wx : World) (hb : Below w7.heap.size w7 wx) => zgl (HS.out.a1.at_.below hb).c (by rw [ex]; exact lx))
   have HEY := yyh (fun (wx : World) (hb : Below w7.heap.size w7 wx) => zgl (HS.out.a2.at_.below hb).c (by rw [ey]; exact lx))
   have HLX := yyh (yyi lx lz)
   have HEV := yyh (yyi ex (yyi ey ez))
   clear ex ey ez lx lz hE
   go_wp2_with fail
   refine (zec HS.out.a1.at_).mono ?_
   rintro e w8 ⟨rfl, rfl⟩
   go_wp2_with fail
   refine (HEX.out _ yyr).mono ?_
   rintro e w9 ⟨v1, rfl, hv1, hb9⟩
   rw [HEV.out.1] at hv1
   have H9 := yyh (yyi hv1 hb9)
   clear hv1 hb9
   go_wp2_with fail
   refine (zec (HS.out.a2.at_.below H9.out.2)).mono ?_
   rintro e w10 ⟨rfl, rfl⟩
   go_wp2_with fail
   refine (HEY.out _ H9.out.2).mono ?_
   rintro e w11 ⟨v2, rfl, hv2, hb11⟩
   rw [HEV.out.2.1] at hv2
   have HSE := yyh (zsp HLX.out.1 (SlV.below H9.out.1 hb11) hv2)
   have H11 := yyh (zad hb11 H9.out.2)
   clear hv2 hb11
   go_wp2_with fail
   refine HSE.out.mono ?_
   rintro e w12 ⟨rfl, hb12⟩
   have H12 := yyh (zad hb12 H11.out)
   clear hb12 HSE
   -- the states
   have hS12 := HS.out.below H12.out
   have HST1 := yyh (hS12.state1 (by omega))
   have HS12 := yyh hS12
   clear hS12
   go_wp2_with fail
   refine (zec HS12.out.a1.at_).mono ?_
   rintro e w13 ⟨rfl, rfl⟩
   go_wp2_with fail
   refine HST1.out.mono ?_
   rintro e w14 ⟨tv1, sv1, lv1, hv1, rfl, ht1, hn1, hn1', t1, hS14, -⟩
   have HST2 := yyh (hS14.rot.state1 (by omega))
   have HS14 := yyh (yyi hS14 (yyi ht1 (yyi hn1 hn1')))
   clear hS14 ht1 hn1 hn1' HST1
   go_wp2_with fail
   refine (zec HS14.out.1.a2.at_).mono ?_
   rintro e w15 ⟨rfl, rfl⟩
   go_wp2_with fail
   refine HST2.out.mono ?_
   rintro e w16 ⟨tv2, sv2, lv2, hv2, rfl, ht2, -, -, t2, hS16, hf16⟩
   have ht1 := HS12.out.tell HS14.out.1.a2.at_ hf16 HS14.out.2.1 HS14.out.2.2.1 HS14.out.2.2.2
   have on1 := HOR.out.1.1
   have hq1 := on1.J.ok
   have hl1 := hq1.len
   have hlow := hq1.low
   have h3 : (zbc mX.c.q.slots).length ≤ mX.c.q.all.length ∧ mX.c.q.sh.length ≤ mX.c.q.all.length := by
    unfold QM.all
    rw [List.length_append, List.length_append]
    omega
   have HSS := yyh (zl6 mX.c.tick false ((64 : Int) - mX.c.o) ht1 ht2 (by have := HOR.out.1.2; have := HRR.out.1; omega) (by rw [on1.J.ow]; have := HA.out.2.2.1; omega) (by unfold NB at hl1; omega) (by unfold NB at hl1; omega) (fun l hl => by have := hlow l hl; omega))
   have HS16 := yyh hS16
   clear ht1 ht2 on1 hq1 hl1 hlow h3 hS16 hf16 HST2
   go_wp2_with fail
   refine HSS.out.mono ?_
   rintro e w17 ⟨rfl, hb17⟩
   have HS17 := yyh (HS16.out.below hb17)
   clear hb17 HSS
   -- the claims
   have ex : t1.c.evs = mX.c.evs := by have := HS17.out.a3.mm; exact congrArg (fun m => m.c.evs) this
   have ez : u3.c.evs = mZ.c.evs := HEV.out.2.2
   have HFX := yyh (fun (wx : World) (hb : Below w17.heap.size w17 wx) => zgl (HS17.out.a3.at_.below hb).c (by rw [ex]; exact HLX.out.1))
   have HFZ := yyh (fun (wx : World) (hb : Below w17.heap.size w17 wx) => zgl (HS17.out.a2.at_.below hb).c (by rw [ez]; exact HLX.out.2))
   have HEV2 := yyh (yyi ex ez)
   clear ex ez
   go_wp2_with fail
   refine (zec HS17.out.a3.at_).mono ?_
   rintro e w18 ⟨rfl, rfl⟩
   go_wp2_with fail
   refine (HFX.out _ yyr).mono ?_
   rintro e w19 ⟨v3, rfl, hv3, hb19⟩
   rw [HEV2.out.1] at hv3
   have HC1 := yyh (zm3 HLX.out.1 hv3)
   have H19 := yyh hb19
   clear hv3 hb19
   go_wp2_with fail
   refine HC1.out.mono ?_
   rintro e w20 ⟨p1, rfl, ho1, hb20⟩
   have H20 := yyh (yyi (zad hb20 H19.out) ho1)
   clear ho1 hb20 HC1
   go_wp2_with fail
   refine (zec (HS17.out.a2.at_.below H20.out.1)).mono ?_
   rintro e w21 ⟨rfl, rfl⟩
   go_wp2_with fail
   refine (HFZ.out _ H20.out.1).mono ?_
   rintro e w22 ⟨v4, rfl, hv4, hb22⟩
   rw [HEV2.out.2] at hv4
   have HC2 := yyh (zm3 HLX.out.2 hv4)
   have H22 := yyh hb22
   clear hv4 hb22
   go_wp2_with fail
   refine HC2.out.mono ?_
   rintro e w23 ⟨p2, rfl, ho2, hb23⟩
   obtain ⟨e1, e2, e3⟩ := HOR.out.1.1.end_ HEN.out.1
   obtain ⟨f1, f2, f3⟩ := HOR.out.2.1.end_ HEN.out.2
   have hlp : (zct mX.c.evs).length = i := e1.trans (HOR.out.1.2.trans HRR.out.1)
   have hlz : (zct mZ.c.evs).length = i := f1.trans (HOR.out.2.2.trans HRR.out.2)
   have hs1 := SlV.below (SlV.of_owns H20.out.2) (zad hb23 H22.out)
   have hs2 := SlV.of_owns ho2
   have hin : ∀ (j : Nat) (e : En), (zct mX.c.evs)[j]? = some e → ∃ x ∈ zct mZ.c.evs, x.id = e.id := fun j e he => by
    have h := e2 e (List.mem_of_getElem? he)
    have hr := HOR.out.1.2.trans HRR.out.1
    have hz := HOR.out.2.2.trans HRR.out.2
    exact f3 e.id h.1 (by rw [hz]; rw [hr] at h; exact h.2)
   obtain ⟨pa, pc, rfl, pf⟩ := zf5 hs1
   obtain ⟨qa, qc, rfl, -⟩ := SlV.clip hs2
   have HHAS := yyh (fun id hin => zzk (W := w23) (by have := HLX.out.2; have := zqk mZ.c.evs; omega) hs2 id hin)
   have HP := yyh (yyi pf (yyi hin (yyi hlp hlz)))
   have HBF := yyh (zad hb23 (zad H22.out (zad H20.out.1 HS17.out.bel)))
   rw [hlz] at HHAS
   rw [hlp, hlz]
   have hmn : min (n2 : Int) 40 = (i : Int) := by have := HMI.out; omega
   have hi41 : (i : Int) ≤ 40 := by omega
   clear ho2 hb23 e1 e2 e3 f1 f2 f3 hlp hlz hs1 hs2 hin pf HC2
   go_wp2_with fail
   go_loopg [23] i (fun gg v23 wr => ∃ j : Nat, j ≤ i ∧ gg = i - j ∧ v23 = .int .i64 j ∧ w23 = wr)
   case atStart => exact ⟨0, by omega, by omega, rfl, rfl⟩
   case round =>
    obtain ⟨j, hj, rfl, rfl, rfl⟩ := hrel
    by_cases hlj : j < i
    ·
     have hljz : (j : Int) < (i : Int) := by omega
     obtain ⟨pb, po, rfl, pf⟩ : ∃ b off, pa = some ⟨b, off, none⟩ ∧ ∀ (j : Nat) x, j < (zct mX.c.evs).length * 2 → (zbf (zct mX.c.evs))[j]? = some x → w23.cell? ⟨b, off + j, none⟩ = some x := by
      rcases HP.out.1 with e | e
      · have := HP.out.2.2.1
        omega
      · exact e
     have hlp := HP.out.2.2.1
     obtain ⟨ev, hev⟩ : ∃ e, (zct mX.c.evs)[j]? = some e := ⟨_, yyg (by omega)⟩
     obtain ⟨z, hz⟩ := yye (ev.id)
     have x1 : w23.cell? ⟨pb, po + j * 2 + 1, none⟩ = some (.int .i64 z) := pf (j * 2 + 1) _ (by omega) (by rw [zcz _ j 1 (by decide), hev, ← hz]; rfl)
     have HH := yyh (HHAS.out z (by rw [← hz]; exact HP.out.2.1 j ev hev))
     have hwj : IntKind.i64.wrap ((j : Int) + 1) = (j : Int) + 1 := zb4 (by omega) (by omega)
     clear pf hlp hev hz
     go_wp2_with fail
     refine HH.out.mono ?_
     rintro e w24 ⟨rfl, rfl⟩
     clear x1
     go_wp2_with fail
     go_roundg (i - (j + 1))
     case measure => omega
     case rel => exact ⟨j + 1, by omega, by omega, by go_num, rfl⟩
    ·
     have hljz : ¬ (j : Int) < (i : Int) := by omega
     go_wp2_with fail
     refine (zwi _).mono ?_
     rintro e w24 ⟨rfl, hb24⟩
     have H24 := yyh hb24
     clear hb24
     go_wp2_with fail
     go_ret
     exact ⟨rfl, zad H24.out HBF.out⟩
end
end Go.Proofs.YtcfhkbcllijnkaaGreat
