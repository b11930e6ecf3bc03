/- Parts of the proof of TopOnce, under no condition. -/
import Derived.Test.YtcfhkbcllijnkaaGreatZTopOncebn
set_option linter.unusedVariables false
set_option linter.unusedSimpArgs false
set_option maxRecDepth 100000
set_option maxHeartbeats 0
namespace Go.Proofs.YtcfhkbcllijnkaaGreat
open Go.RowKit Go.Maps Go.Shelf Go.Proofs.YtcfhkbcllijnkaaGreatW.PrintWords
def CM.drained (c : CM) : Bool := zhv c.rows 1 + zhv c.rows 2 + zhv c.rows 3 == 0
def CM.shut (c : CM) : CM := { c with closed := true, evs := c.evs ++ [⟨9, -1, 0, 0, c.tick⟩] }
theorem zb4 {n : Int} (h0 : 0 ≤ n) (h1 : n ≤ 1000000) : IntKind.i64.wrap n = n := by
 unfold IntKind.wrap
 have e : n % (2 ^ IntKind.i64.bits : Int) = n := by
  show n % 18446744073709551616 = n
  omega
 dsimp only
 rw [e, if_neg]
 intro h
 have h2 : (IntKind.i64.signed && decide (n ≥ 9223372036854775808)) = true := h
 simp at h2
 omega
section
variable {W W' : World} {A : CA} {S S' : CS} {N N' : Nat}
theorem zpy (h : zal W A S N) (hcl : S.closed = true) : Calls Tryz.prog 44 #[.pointer (some ⟨A.cb, 0, none⟩)] W fun e w' => e = .returned (.bool (S.cm A).drained) ∧ Below W.heap.size W w' := by
 obtain ⟨-, -, -, -, -, -, -, c7, -, c9, -⟩ := h.cells
 rw [hcl] at c9
 have hlen := h.t.len.2
 have bd : ∀ s, 0 ≤ zhv S.t.rows s ∧ zhv S.t.rows s ≤ 200 := fun s => by
  unfold zhv
  have := List.length_filter_le (fun x : Int × Tk => x.1 == s) S.t.rows
  omega
 have b1 := bd 1
 have b2 := bd 2
 have b3 := bd 3
 obtain ⟨n1, h1⟩ : ∃ n, zhv S.t.rows 1 = n := ⟨_, rfl⟩
 obtain ⟨n2, h2⟩ : ∃ n, zhv S.t.rows 2 = n := ⟨_, rfl⟩
 obtain ⟨n3, h3⟩ : ∃ n, zhv S.t.rows 3 = n := ⟨_, rfl⟩
 have HC := yyh (fun (s : Int) (hs : zbl s) n => zdr (zv1 (h.below (zjl yyr n)).t s hs))
 have H1 := yyh (fun n => by have := HC.out 1 (by unfold zbl; decide) n; rw [h1] at this; exact this)
 have H2 := yyh (fun n => by have := HC.out 2 (by unfold zbl; decide) n; rw [h2] at this; exact this)
 have H3 := yyh (fun n => by have := HC.out 3 (by unfold zbl; decide) n; rw [h3] at this; exact this)
 have hD : (S.cm A).drained = (n1 + n2 + n3 == 0) := by
  show (zhv S.t.rows 1 + zhv S.t.rows 2 + zhv S.t.rows 3 == 0) = _
  rw [h1, h2, h3]
 rw [hD]
 rw [h1] at b1
 rw [h2] at b2
 rw [h3] at b3
 have g1 : IntKind.i64.wrap (n1 + n2) = n1 + n2 := zb4 (by omega) (by omega)
 have g2 : IntKind.i64.wrap (n1 + n2 + n3) = n1 + n2 + n3 := zb4 (by omega) (by omega)
 clear h hcl hlen bd HC hD h1 h2 h3
 go_enter Tryz.func44, Tryz.ntmps44
 go_upto_region 1 with fail
 refine wp_region_still_lit (by kernel_rfl) (by kernel_rfl) ?_
 iterate 9 still_step
 still_call (H1.out _)
 iterate 4 still_step
 still_call (H2.out _)
 iterate 5 still_step
 still_call (H3.out _)
 iterate 4 still_step
 refine wpStill_nil ?_
 go_wp2_with fail
 go_ret
 exact ⟨by simp [g1, g2], zaf yyr⟩
theorem zn1 (h : zal W A S N) (hN : N ≤ 400000000) (hcl : S.closed = false) : Calls Tryz.prog 43 #[.pointer (some ⟨A.cb, 0, none⟩)] W fun e w' => (∃ a cap, e = .returned (.slice a 0 cap)) ∧ ∃ S', zag W A S w' S' (N + 1) ∧ S'.cm A = (S.cm A).shut := by
 obtain ⟨-, -, -, -, -, -, -, -, -, c9, -⟩ := h.cells
 rw [hcl] at c9
 have z9 : W.frozen? ⟨A.cb, 9, none⟩ = false := za5 h.hdr
 have k1 := zag.trans (zag.refl h) (h.setClosed true)
 have HT := yyh (zhf k1.at_ (by omega) 9 (-1) 0 0)
 have H := yyh k1
 clear h hcl k1
 go_enter Tryz.func43, Tryz.ntmps43
 go_wp2_with fail
 refine HT.out.mono ?_
 rintro e w2 ⟨rfl, v2, k2⟩
 have k02 := H.out.trans k2
 obtain ⟨-, -, -, -, d4, -⟩ := k02.at_.cells
 have HA := yyh (ztk k02.at_.w)
 have H2 := yyh k02
 clear k2 k02
 go_wp2_with fail
 refine HA.out.mono ?_
 rintro e w3 ⟨rfl, hb3⟩
 have k03 := H2.out.trans (zag.below H2.out.at_ hb3)
 have HS := yyh (zij (a := none) (cap := 0) 0 (by omega) w3)
 obtain ⟨-, -, -, -, -, -, -, -, -, -, d10, -⟩ := k03.at_.cells
 have HC := yyh (zrc (W := w3) (by omega) (SlV.nil w3 3 1) (fun u hu => by cases hu))
 have H3 := yyh k03
 clear hb3 k03
 go_wp2_with fail
 refine wp_loop_rounds 1 ?_
 rw [rounds_succ]
 go_wp2_with fail
 refine HS.out.mono ?_
 rintro e w' ⟨rfl, rfl⟩
 go_wp2_with fail
 refine wp_loop_rounds 1 ?_
 rw [rounds_succ]
 go_wp2_with fail
 refine HS.out.mono ?_
 rintro e w' ⟨rfl, rfl⟩
 go_wp2_with fail
 refine HC.out.mono ?_
 rintro e w4 ⟨v4, rfl, hv4, hb4⟩
 have HC4 := yyh (zfo (SlV.of_owns hv4))
 have H4 := yyh (H3.out.trans (zag.below H3.out.at_ hb4))
 clear hv4 hb4
 go_wp2_with fail
 refine HC4.out.mono ?_
 rintro e w5 ⟨v5, rfl, hv5, -, rfl⟩
 obtain ⟨a5, cap5, rfl, -⟩ := hv5.clip
 clear hv5
 go_wp2_with fail
 go_ret
 exact ⟨⟨_, _, rfl⟩, _, H4.out, rfl⟩
end
theorem zcc.below {W W' : World} {lo n : Nat} {v : Value} {xs : List Value} (h : zcc W lo v n xs) (hb : Below W.heap.size W W') : zcc W' lo v n xs := by
 rcases h with h | ⟨c, rfl, h1, h2, h3⟩
 · exact .inl h
 · refine .inr ⟨c, rfl, h1, Nat.lt_of_lt_of_le h2 hb.size, fun j hj => ?_⟩
   rw [← h3 j hj]
   exact Below.cell hb h2
structure StP (W1 : World) (A : CA) (S : CS) (N : Nat) (tv sv hv : Value) (i : Nat) (w : World) : Prop where
 core : ∃ S', zag W1 A S w S' (N + 210 * i) ∧ S'.cm A = S.cm A ∧ (S'.t.rv = S.t.rv ∧ S'.t.bo = S.t.bo ∧ S'.evv = S.evv) ∧ S'.q = S.q
 t : 3 ≤ i → ∃ lo, W1.heap.size ≤ lo ∧ zcc w lo tv S.t.rows.length (zeb S.t.rows)
 s : 4 ≤ i → zay w sv (zbc (S.q.q A.q.k).slots) ∧ ∀ c, sv.ownBlock = some c → W1.heap.size ≤ c
 h : 5 ≤ i → zay w hv (S.q.q A.q.k).sh ∧ ∀ c, hv.ownBlock = some c → W1.heap.size ≤ c
def StK (W1 w w' : World) : Prop := ∀ (j : Nat) (o : Obj), W1.heap.size ≤ j → w.heap[j]? = some o → w'.heap[j]? = some o
section
variable {W1 W w w' : World} {A : CA} {S S' : CS} {N N' i : Nat} {tv sv hv : Value}
theorem StP.below (h : StP W1 A S N tv sv hv i w) (hb : Below w.heap.size w w') : StP W1 A S N tv sv hv i w' := by
 obtain ⟨S', k, hm, hr, hq⟩ := h.core
 exact ⟨⟨S', k.trans (zag.below k.at_ hb), hm, hr, hq⟩, fun hi => by obtain ⟨lo, h1, h2⟩ := h.t hi; exact ⟨lo, h1, h2.below hb⟩, fun hi => ⟨zay.below (h.s hi).1 hb, (h.s hi).2⟩, fun hi => ⟨zay.below (h.h hi).1 hb, (h.h hi).2⟩⟩
theorem StP.al (h : StP W1 A S N tv sv hv i w) (o : Obj) : StP W1 A S N tv sv hv i (w.alloc o) := h.below (zab yyr _)
theorem StP.next (h : StP W1 A S N tv sv hv i w) (hb : Below w.heap.size w w') {tv' sv' hv' : Value} (ht : 3 ≤ i + 1 → ∃ lo, W1.heap.size ≤ lo ∧ zcc w' lo tv' S.t.rows.length (zeb S.t.rows)) (hs : 4 ≤ i + 1 → zay w' sv' (zbc (S.q.q A.q.k).slots) ∧ ∀ c, sv'.ownBlock = some c → W1.heap.size ≤ c) (hh : 5 ≤ i + 1 → zay w' hv' (S.q.q A.q.k).sh ∧ ∀ c, hv'.ownBlock = some c → W1.heap.size ≤ c) : StP W1 A S N tv' sv' hv' (i + 1) w' := by
 obtain ⟨S', k, hm, hr, hq⟩ := h.core
 exact ⟨⟨S', (k.trans (zag.below k.at_ hb)).up (by omega), hm, hr, hq⟩, ht, hs, hh⟩
theorem StK.below (hb : Below w.heap.size w w') : StK W1 w w' := fun j o hj ho => (hb.block _ (zac ho)).trans ho
theorem StP.size (h : StP W1 A S N tv sv hv i w) : W1.heap.size ≤ w.heap.size := by
 obtain ⟨S', k, -⟩ := h.core
 exact k.ps.fr.size
theorem ztn (h : StP W1 A S N tv sv hv 0 w) : Calls Tryz.prog 41 #[.pointer (some ⟨A.wp, 0, none⟩)] w fun e w' => e = .returned (.int .u64 0) ∧ StP W1 A S N tv sv hv 1 w' ∧ StK W1 w w' := by
 obtain ⟨S', k, hm, hr, hq⟩ := id h.core
 refine (ztj k.at_.w).mono ?_
 rintro e w' ⟨rfl, rfl⟩
 exact ⟨rfl, h.next yyr (fun h => by omega) (fun h => by omega) (fun h => by omega), fun j o _ ho => ho⟩
theorem zlx (h0 : zal W1 A S N) (hN : N ≤ 300000000) (h : StP W1 A S N tv sv hv 1 w) : Calls Tryz.prog 47 #[.pointer (some ⟨A.cc, 0, none⟩)] w fun e w' => e = .returned (.int .i64 ((A.C : Int) - S.o)) ∧ StP W1 A S N tv sv hv 2 w' ∧ StK W1 w w' := by
 obtain ⟨S', k, hm, hr, hq⟩ := h.core
 have ho : S'.o = S.o := congrArg CM.o hm
 have hb := k.at_.bnd
 refine (zor k.at_.cr (by omega)).mono ?_
 rintro e w' ⟨rfl, hc, hf⟩
 have k2 := k.at_.setCr (N' := N + 210 * 2) hc hf (by omega) (by omega)
 refine ⟨by rw [ho], ⟨⟨_, k.trans k2, hm, hr, hq⟩, fun h => by omega, fun h => by omega, fun h => by omega⟩, fun j o hj ho => (hf.block _ (zac ho) (fun e => ?_)).trans ho⟩
 have hl : ∀ c, zhw A.cc A.cm A.cg c → c < W1.heap.size := fun c hc => h0.cr.lt hc
 rcases e with e | e
 · have := hl A.cm (.inr (.inl rfl)); omega
 · have := hl A.cg (.inr (.inr rfl)); omega
theorem zmz (h0 : zal W1 A S N) (hN : N ≤ 300000000) (h : StP W1 A S N tv sv hv 2 w) : Calls Tryz.prog 48 #[.pointer (some ⟨A.t.t, 0, none⟩)] w fun e w' => ∃ tv', e = .returned tv' ∧ (∃ a, tv' = .slice a S.t.rows.length S.t.rows.length) ∧ (∀ c, tv'.ownBlock = some c → w.heap.size ≤ c) ∧ StP W1 A S N tv' sv hv 3 w' ∧ StK W1 w w' := by
 obtain ⟨S', k, hm, hr, hq⟩ := id h.core
 have hrows : S'.t.rows = S.t.rows := congrArg CM.rows hm
 have hb := k.at_.bnd
 have hlen := h0.t.len.2
 refine (zze k.at_.t (by omega)).mono ?_
 rintro e w' ⟨⟨v, rfl, hv⟩, ht, hp⟩
 rw [hrows] at hv ht hp
 have k2 := k.at_.setT (N' := N + 210 * 3) ht hp (by show S'.t.B + (S.t.rows.length : Int) ≤ _; omega) (by omega)
 refine ⟨v, rfl, ?_, ?_, ⟨⟨_, k.trans k2, ?_, hr, hq⟩, fun _ => ⟨w.heap.size, h.size, hv⟩, fun h => by omega, fun h => by omega⟩, fun j o hj ho => (hp.fr.block _ (zac ho) (fun e => ?_)).trans ho⟩
 · rcases hv with ⟨h1, h2⟩ | ⟨c, h1, -⟩
   · exact ⟨none, by rw [h2, h1]⟩
   · exact ⟨_, h1⟩
 ·
  intro c hc
  rcases hv with ⟨h1, h2⟩ | ⟨d, h1, h2, -⟩
  · rw [h2] at hc; cases hc
  ·
   rw [h1] at hc
   injection hc with hc
   have hc : d = c := hc
   omega
 ·
  rw [← hm]
  unfold CS.cm
  dsimp only
  rw [hrows]
 ·
  have hlt : j < W1.heap.size := h0.t.lt (j := j) (.inl (by
   rcases e with e | e | e | e | e | e
   · exact .inl e
   · exact .inr (.inl e)
   · exact .inr (.inr (.inl e))
   · exact .inr (.inr (.inr (.inl e)))
   · exact .inr (.inr (.inr (.inr (.inl e))))
   · exact .inr (.inr (.inr (.inr (.inr (by rw [← hr.1]; exact e)))))))
  omega
theorem zfk (h : StP W1 A S N tv sv hv 3 w) : Calls Tryz.prog 49 #[.pointer (some ⟨A.q.qp, 0, none⟩)] w fun e w' => ∃ sv', e = .returned sv' ∧ (∃ a n c, sv' = .slice a n c) ∧ StP W1 A S N tv sv' hv 4 w' ∧ StK W1 w w' := by
 obtain ⟨S', k, hm, hr, hq⟩ := id h.core
 refine (zpj k.at_.q).mono ?_
 rintro e w' ⟨v, rfl, hE, hc, hb⟩
 rw [hq] at hE
 obtain ⟨a, c, hv, -⟩ := SlV.clip hE
 refine ⟨v, rfl, ⟨a, _, c, hv⟩, h.next hb (fun _ => ?_) (fun _ => ⟨hE, fun c hc' => Nat.le_trans h.size (hc c hc')⟩) (fun h => by omega), StK.below hb⟩
 obtain ⟨lo, h1, h2⟩ := h.t (by omega)
 exact ⟨lo, h1, h2.below hb⟩
theorem zdn (hN : (zaq S.q.bs).length ≤ NB) (h : StP W1 A S N tv sv hv 4 w) : Calls Tryz.prog 50 #[.pointer (some ⟨A.q.qp, 0, none⟩)] w fun e w' => ∃ hv', e = .returned hv' ∧ (∃ a n c, hv' = .slice a n c) ∧ StP W1 A S N tv sv hv' 5 w' ∧ StK W1 w w' := by
 obtain ⟨S', k, hm, hr, hq⟩ := id h.core
 refine (zms k.at_.q (by rw [hq]; exact hN)).mono ?_
 rintro e w' ⟨v, rfl, hE, hc, hb⟩
 rw [hq] at hE
 obtain ⟨a, c, hv, -⟩ := SlV.clip hE
 refine ⟨v, rfl, ⟨a, _, c, hv⟩, h.next hb (fun _ => ?_) (fun _ => ?_) (fun _ => ⟨hE, fun c hc' => Nat.le_trans h.size (hc c hc')⟩), StK.below hb⟩
 · obtain ⟨lo, h1, h2⟩ := h.t (by omega)
   exact ⟨lo, h1, h2.below hb⟩
 · obtain ⟨h1, h2⟩ := h.s (by omega)
   exact ⟨zay.below h1 hb, h2⟩
theorem zd1 (h : StP W1 A S N tv sv hv 5 w) : Calls Tryz.prog 51 #[.pointer (some ⟨A.wp, 0, none⟩)] w fun e w' => e = .returned (.slice none 0 0) ∧ StP W1 A S N tv sv hv 6 w' ∧ StK W1 w w' := by
 obtain ⟨S', k, hm, hr, hq⟩ := id h.core
 refine (ztk k.at_.w).mono ?_
 rintro e w' ⟨rfl, hb⟩
 refine ⟨rfl, h.next hb (fun _ => ?_) (fun _ => ?_) (fun _ => ?_), StK.below hb⟩
 · obtain ⟨lo, h1, h2⟩ := h.t (by omega)
   exact ⟨lo, h1, h2.below hb⟩
 · obtain ⟨h1, h2⟩ := h.s (by omega)
   exact ⟨zay.below h1 hb, h2⟩
 · obtain ⟨h1, h2⟩ := h.h (by omega)
   exact ⟨zay.below h1 hb, h2⟩
end
theorem zpz (A : CA) (S : CS) (j : Nat) : (cOS A S).own j ↔ (j = A.cb ∨ zcx A.q S.q j ∨ zi9 A.wp A.m1 A.m2 A.m3 j ∨ zdg A.dp A.pm A.nm j ∨ zhw A.cc A.cm A.cg j ∨ (TWr A.t S.t j ∨ S.t.bo j) ∨ S.evv.ownBlock = some j) := by
 constructor
 ·
  rintro ⟨c, hc, hj⟩
  simp only [zbu, List.mem_cons, List.not_mem_nil, or_false] at hc
  rcases hc with rfl | rfl | rfl | rfl | rfl | rfl | rfl
  · exact .inl hj
  · exact .inr (.inl hj)
  · exact .inr (.inr (.inl hj))
  · exact .inr (.inr (.inr (.inl hj)))
  · exact .inr (.inr (.inr (.inr (.inl hj))))
  · exact .inr (.inr (.inr (.inr (.inr (.inl hj)))))
  · exact .inr (.inr (.inr (.inr (.inr (.inr hj)))))
 ·
  intro h
  rcases h with h | h | h | h | h | h | h
  · exact ⟨PT.hdr A.cb (zlu A S), by simp [zbu], h⟩
  · exact ⟨PT.queue A.q S.q, by simp [zbu], h⟩
  · exact ⟨PT.wheel A.wp A.m1 A.m2 A.m3 0, by simp [zbu], h⟩
  · exact ⟨PT.dag A.dp A.pm A.nm S.d, by simp [zbu], h⟩
  · exact ⟨PT.cred A.cc A.cm A.cg A.C S.o S.m S.K, by simp [zbu], h⟩
  · exact ⟨PT.tab A.t S.t, by simp [zbu], h⟩
  · exact ⟨PT.evs S.evv S.evs, by simp [zbu], h⟩
def stC (tick : Int) (cl : Bool) (fr : Int) (tv sv lv hv : Value) : Array Value := #[.int .u64 0, .int .u64 tick, .bool cl, .int .i64 fr, tv, sv, lv, hv, .slice none 0 0]
theorem zkj {w : World} {b : Nat} {z0 z1 z2 z3 z4 z5 z6 z7 z8 : Value} {t : TypeId} (h : w.heap[b]? = some (.cells #[z0, z1, z2, z3, z4, z5, z6, z7, z8] t (0, 0))) (a0 a1 a2 a3 a4 a5 a6 a7 a8 : Value) : (((((((((w.setCell ⟨b, 0, none⟩ a0).setCell ⟨b, 1, none⟩ a1).setCell ⟨b, 2, none⟩ a2).setCell ⟨b, 3, none⟩ a3).setCell ⟨b, 4, none⟩ a4).setCell ⟨b, 5, none⟩ a5).setCell ⟨b, 6, none⟩ a6).setCell ⟨b, 7, none⟩ a7).setCell ⟨b, 8, none⟩ a8).heap[b]? = some (.cells #[a0, a1, a2, a3, a4, a5, a6, a7, a8] t (0, 0)) := by
 rw [zai (zai (zai (zai (zai (zai (zai (zai (zai h _) _) _) _) _) _) _) _) _]
 simp
theorem zp0 (w : World) (b : Nat) (a0 a1 a2 a3 a4 a5 a6 a7 a8 : Value) : Fr (fun j => j = b) w (((((((((w.setCell ⟨b, 0, none⟩ a0).setCell ⟨b, 1, none⟩ a1).setCell ⟨b, 2, none⟩ a2).setCell ⟨b, 3, none⟩ a3).setCell ⟨b, 4, none⟩ a4).setCell ⟨b, 5, none⟩ a5).setCell ⟨b, 6, none⟩ a6).setCell ⟨b, 7, none⟩ a7).setCell ⟨b, 8, none⟩ a8) := by
 have s : ∀ {w' : World} (h : Fr (fun j => j = b) w w') (i : Nat) (v : Value), Fr (fun j => j = b) w (w'.setCell ⟨b, i, none⟩ v) := fun h i v => Fr.set (S := fun j => j = b) h (p := ⟨b, i, none⟩) rfl v
 exact s (s (s (s (s (s (s (s (s (Fr.refl _ _) 0 _) 1 _) 2 _) 3 _) 4 _) 5 _) 6 _) 7 _) 8 _
section
variable {W1 W w w' : World} {A : CA} {S S' : CS} {N N' i : Nat} {tv sv hv : Value}
theorem zcc.fr {Z : Nat → Prop} {lo n : Nat} {v : Value} {xs : List Value} (h : zcc W lo v n xs) (f : Fr Z W w') (hn : ∀ c, v.ownBlock = some c → ¬ Z c) : zcc w' lo v n xs := by
 rcases h with h | ⟨c, rfl, h1, h2, h3⟩
 · exact .inl h
 ·
  refine .inr ⟨c, rfl, h1, Nat.lt_of_lt_of_le h2 f.size, fun j hj => ?_⟩
  rw [← h3 j hj]
  unfold World.cell?
  rw [f.block c h2 (hn c rfl)]
theorem StP.box (h0 : zal W1 A S N) (h : StP W1 A S N tv sv hv i w) {b : Nat} (f : Fr (fun j => j = b) w w') (hge : W1.heap.size ≤ b) {c : Array Value} {t : TypeId} (hb : w.heap[b]? = some (.cells c t (0, 0))) (ht : t ≠ 63) (htv : tv.ownBlock ≠ some b) : StP W1 A S N tv sv hv i w' := by
 obtain ⟨S', k, hm, hr, hq⟩ := h.core
 have nE : ∀ {v : Value} {l : List En}, zay w v l → zay w' v l := fun he => zay.fr he f (fun c hc e => by
  obtain ⟨cu, h1⟩ := SlV.type he hc
  have e' : c = b := e
  rw [e', hb] at h1
  injection h1 with h1
  injection h1 with _ h1 _
  exact ht h1)
 refine ⟨⟨S', zag.newer h0 k hq f (fun j hj => ?_), hm, hr, hq⟩, fun hi => ?_, fun hi => ⟨nE (h.s hi).1, (h.s hi).2⟩, fun hi => ⟨nE (h.h hi).1, (h.h hi).2⟩⟩
 ·
  have hj : j = b := hj
  rw [hj]
  refine ⟨hge, fun e => ?_⟩
  have : (cOS A S).own b := by
   rw [zpz] at e ⊢
   have et : TWr A.t S'.t b ↔ TWr A.t S.t b := by unfold TWr; rw [hr.1]
   rw [hq, hr.2.1, hr.2.2, et] at e
   exact e
  have := h0.lt this
  omega
 · obtain ⟨lo, h1, h2⟩ := h.t hi
   exact ⟨lo, h1, h2.fr f (fun c hc e => htv (by have e' : c = b := e; rw [← e']; exact hc))⟩
def StR (W1 : World) (A : CA) (S : CS) (N : Nat) (v3 : Value) (w : World) : Prop := ∃ yb tv sv hv, v3 = .pointer (some ⟨yb, 0, none⟩) ∧ w.heap[yb]? = some (.cells (stC S.tick S.closed ((A.C : Int) - S.o) tv sv (.slice none 0 0) hv) 46 (0, 0)) ∧ StP W1 A S N tv sv hv 6 w ∧ W1.heap.size ≤ yb ∧ (∃ a, tv = .slice a S.t.rows.length S.t.rows.length) ∧ (∃ a n c, sv = .slice a n c) ∧ (∃ a n c, hv = .slice a n c) ∧ tv.ownBlock ≠ some yb
def StS (A : CA) (S : CS) (w : World) : Prop := w.cell? ⟨A.cb, 1 + 2, none⟩ = some (.pointer (some ⟨A.q.qp, 0, none⟩)) ∧ w.cell? ⟨A.cb, 4, none⟩ = some (.pointer (some ⟨A.wp, 0, none⟩)) ∧ w.cell? ⟨A.cb, 6, none⟩ = some (.pointer (some ⟨A.cc, 0, none⟩)) ∧ w.cell? ⟨A.cb, 7, none⟩ = some (.pointer (some ⟨A.t.t, 0, none⟩)) ∧ w.cell? ⟨A.cb, 8, none⟩ = some (.int .u64 S.tick) ∧ w.cell? ⟨A.cb, 9, none⟩ = some (.bool S.closed)
theorem StP.sts (h : StP W1 A S N tv sv hv i w) : StS A S w := by
 obtain ⟨S', k, hm, hr, hq⟩ := h.core
 obtain ⟨-, -, -, c3, c4, -, c6, c7, c8, c9, -⟩ := k.at_.cells
 have e8 : S'.tick = S.tick := congrArg CM.tick hm
 have e9 : S'.closed = S.closed := congrArg CM.closed hm
 rw [e8] at c8
 rw [e9] at c9
 exact ⟨c3, c4, c6, c7, c8, c9⟩
end
structure Wk where
 ph : Int
 e : En
 pc : Int
 bad : Bool
def wkV (w : Wk) : Value := .agg #[.int .i64 w.ph, .int .u64 w.e.key, .int .i64 w.e.id, .int .i64 w.pc, .bool w.bad]
def wkO (w : Wk) : Obj := .cells #[.int .i64 w.ph, .int .u64 w.e.key, .int .i64 w.e.id, .int .i64 w.pc, .bool w.bad] 123
def wk0 : Wk := ⟨0, ⟨0, 0⟩, 0, false⟩
theorem zbv {w : World} {b : Nat} {z0 z1 z2 z3 z4 : Value} {t : TypeId} (h : w.heap[b]? = some (.cells #[z0, z1, z2, z3, z4] t (0, 0))) (a0 a1 a2 a3 a4 : Value) : (((((w.setCell ⟨b, 0, none⟩ a0).setCell ⟨b, 1, none⟩ a1).setCell ⟨b, 2, none⟩ a2).setCell ⟨b, 3, none⟩ a3).setCell ⟨b, 4, none⟩ a4).heap[b]? = some (.cells #[a0, a1, a2, a3, a4] t (0, 0)) := by
 rw [zai (zai (zai (zai (zai h _) _) _) _) _]
 simp
theorem zb7 (w : World) (b : Nat) (a0 a1 a2 a3 a4 : Value) : Fr (fun j => j = b) w (((((w.setCell ⟨b, 0, none⟩ a0).setCell ⟨b, 1, none⟩ a1).setCell ⟨b, 2, none⟩ a2).setCell ⟨b, 3, none⟩ a3).setCell ⟨b, 4, none⟩ a4) := by
 have s : ∀ {w' : World} (h : Fr (fun j => j = b) w w') (i : Nat) (v : Value), Fr (fun j => j = b) w (w'.setCell ⟨b, i, none⟩ v) := fun h i v => Fr.set (S := fun j => j = b) h (p := ⟨b, i, none⟩) rfl v
 exact s (s (s (s (s (Fr.refl _ _) 0 _) 1 _) 2 _) 3 _) 4 _
theorem za0 {w : World} {b : Nat} {z0 z1 z2 z3 z4 : Value} {t : TypeId} (h : w.heap[b]? = some (.cells #[z0, z1, z2, z3, z4] t (0, 0))) : w.cell? ⟨b, 0, none⟩ = some z0 ∧ w.cell? ⟨b, 1, none⟩ = some z1 ∧ w.cell? ⟨b, 2, none⟩ = some z2 ∧ w.cell? ⟨b, 3, none⟩ = some z3 ∧ w.cell? ⟨b, 4, none⟩ = some z4 ∧ ∀ i, w.frozen? ⟨b, i, none⟩ = false := by
 refine ⟨?_, ?_, ?_, ?_, ?_, fun i => za5 h⟩ <;> (rw [zaa h]; rfl)
section
variable {W W' w5 w6 : World} {A : CA} {S S' : CS} {N N' : Nat}
theorem zag.box (k : zag W A S w5 S' N') {b : Nat} (f : Fr (fun j => j = b) w5 w6) {c : Array Value} {t : TypeId} (hb : w5.heap[b]? = some (.cells c t (0, 0))) (ht : t ≠ 63) (hge : W.heap.size ≤ b) (hno : ¬ (cOS A S').own b) : zag W A S w6 S' N' := by
 have hn : NoE w5 (fun j => j = b) := NoE.of fun j hj => by
  have hj : j = b := hj
  rw [hj]
  exact ⟨_, hb, zbe ht⟩
 refine ⟨⟨k.at_.ps.keep f hn (fun j hj e => hno (by have e : j = b := e; rw [← e]; exact hj)), k.at_.bnd⟩, ⟨f.os.trans k.ps.fr.os, f.tape.trans k.ps.fr.tape, f.output.trans k.ps.fr.output, Nat.le_trans k.ps.fr.size f.size, fun j hj hnn => ?_⟩, k.ps.wr, k.ps.own⟩
 exact (f.block j (Nat.lt_of_lt_of_le hj k.ps.fr.size) (fun e => by have e : j = b := e; omega)).trans (k.ps.fr.block j hj hnn)
theorem zag.stays (k : zag W A S W' S' N') {b : Nat} (h : ¬ (cOS A S).own b) (hlt : b < W.heap.size) : ¬ (cOS A S').own b := fun e => by
 rcases k.ps.own _ e with e | e
 · exact h e
 · omega
theorem zly (h : zal W A S N) (hq : (S.q.q A.q.k).Ok) (t : Nat) (ht : t < A.q.lp.length) (d : Int) (d0 : 0 ≤ d) (d1 : d ≤ top) (hl : (S.cm A).look t d = none) (v : Wk) : Calls Tryz.prog 106 #[.pointer (some ⟨A.cb, 0, none⟩), wkV v, .int .i64 t, .int .u64 d] W fun e w' => e = .returned (.tuple #[wkV v, .int .i64 0]) ∧ Below W.heap.size W w' := by
 obtain ⟨W2, hW2⟩ : ∃ W2, (W.alloc (wkO v)).alloc (wkO wk0) = W2 := ⟨_, rfl⟩
 have hb2 : Below W.heap.size W W2 := by rw [← hW2]; exact zab (zab yyr _) _
 have x5 : W2.heap[W.heap.size]? = some (.cells #[.int .i64 v.ph, .int .u64 v.e.key, .int .i64 v.e.id, .int .i64 v.pc, .bool v.bad] 123 (0, 0)) := by rw [← hW2]; exact zan (heap_alloc_new W _)
 have x8 : W2.heap[W.heap.size + 1]? = some (.cells #[.int .i64 0, .int .u64 0, .int .i64 0, .int .i64 0, .bool false] 123 (0, 0)) := by rw [← hW2]; exact zax (by simp)
 have HL := yyh (zlv (h.below hb2) hq t ht d d0 d1 hl)
 unfold wkO wk0 at hW2
 have H := yyh (yyi hb2 (yyi x5 x8))
 clear h hq hl hb2 x5 x8
 unfold wkV
 go_enter Tryz.func106, Tryz.ntmps106
 go_wp2_with fail
 refine HL.out.mono ?_
 rintro e w1 ⟨rfl, hb1⟩
 obtain ⟨hb2, x5, x8⟩ := H.out
 obtain ⟨w2, hw2⟩ := yye (w1.alloc (.cells #[.int .u64 0, .int .i64 0] 63))
 have hba : Below W2.heap.size W2 w2 := by rw [← hw2]; exact zab hb1 _
 have y5 := (hba.block _ (zac x5)).trans x5
 have y8 := (hba.block _ (zac x8)).trans x8
 obtain ⟨a0, a1, a2, a3, a4, -⟩ := za0 y5
 obtain ⟨b0, b1, b2, b3, b4, zb⟩ := za0 y8
 have hs := zbv y8 (.int .i64 v.ph) (.int .u64 v.e.key) (.int .i64 v.e.id) (.int .i64 v.pc) (.bool v.bad)
 obtain ⟨e0, e1, e2, e3, e4, -⟩ := za0 hs
 have HF := yyh (yyi (zad hba hb2) (zb7 w2 (W.heap.size + 1) (.int .i64 v.ph) (.int .u64 v.e.key) (.int .i64 v.e.id) (.int .i64 v.pc) (.bool v.bad)))
 have HW2 := yyh hw2
 clear hb2 x5 x8 hb1 hba y5 y8 hs hw2
 go_upto_region 3 with fail
 rw [HW2.out]
 go_wp2_with fail
 refine bodyPost_ret (v := .tuple #[.agg #[.int .i64 v.ph, .int .u64 v.e.key, .int .i64 v.e.id, .int .i64 v.pc, .bool v.bad], .int .i64 0]) (by simp [results, Tryz.results106, go_sem, e0, e1, e2, e3, e4]) rfl ?_
 refine ⟨rfl, HF.out.2.below HF.out.1 (fun k hk => by have hk : k = W.heap.size + 1 := hk; omega)⟩
theorem zp1 {w : World} {b : Nat} {z0 z1 z2 z3 z4 : Value} {t : TypeId} (h : w.heap[b]? = some (.cells #[z0, z1, z2, z3, z4] t (0, 0))) (a0 a1 a2 : Value) : (((w.setCell ⟨b, 0, none⟩ a0).setCell ⟨b, 1, none⟩ a1).setCell ⟨b, 2, none⟩ a2).heap[b]? = some (.cells #[a0, a1, a2, z3, z4] t (0, 0)) := by
 rw [zai (zai (zai h _) _) _]
 simp
theorem zv5 (w : World) (b : Nat) (a0 a1 a2 : Value) : Fr (fun j => j = b) w (((w.setCell ⟨b, 0, none⟩ a0).setCell ⟨b, 1, none⟩ a1).setCell ⟨b, 2, none⟩ a2) := by
 have s : ∀ {w' : World} (h : Fr (fun j => j = b) w w') (i : Nat) (v : Value), Fr (fun j => j = b) w (w'.setCell ⟨b, i, none⟩ v) := fun h i v => Fr.set (S := fun j => j = b) h (p := ⟨b, i, none⟩) rfl v
 exact s (s (s (Fr.refl _ _) 0 _) 1 _) 2 _
theorem zyd (h : zal W A S N) (hN : N ≤ 300000000) (hq : (S.q.q A.q.k).Ok) (t : Nat) (ht : t < A.q.lp.length) (d : Int) (d0 : 0 ≤ d) (d1 : d ≤ top) (en : En) (hl : (S.cm A).look t d = some en) (hne : (S.q.q A.q.k).all ≠ []) (v : Wk) : Calls Tryz.prog 106 #[.pointer (some ⟨A.cb, 0, none⟩), wkV v, .int .i64 t, .int .u64 d] W fun e w' => e = .returned (.tuple #[wkV ⟨1, en, v.pc, v.bad⟩, .int .i64 1]) ∧ ∃ S', zag W A S w' S' (N + 1) ∧ S'.cm A = { S.cm A with evs := S.evs ++ [⟨10, t, en.id, en.key, S.tick⟩] } := by
 obtain ⟨W2, hW2⟩ : ∃ W2, (W.alloc (wkO v)).alloc (wkO wk0) = W2 := ⟨_, rfl⟩
 have hb2 : Below W.heap.size W W2 := by rw [← hW2]; exact zab (zab yyr _) _
 have x5 : W2.heap[W.heap.size]? = some (.cells #[.int .i64 v.ph, .int .u64 v.e.key, .int .i64 v.e.id, .int .i64 v.pc, .bool v.bad] 123 (0, 0)) := by rw [← hW2]; exact zan (heap_alloc_new W _)
 have x8 : W2.heap[W.heap.size + 1]? = some (.cells #[.int .i64 0, .int .u64 0, .int .i64 0, .int .i64 0, .bool false] 123 (0, 0)) := by rw [← hW2]; exact zax (by simp)
 have HL := yyh (zyc (h.below hb2) (by omega) hq t ht d d0 d1 en hl hne)
 have n5 : ¬ (cOS A S).own W.heap.size := fun e => by have := h.lt e; omega
 have n8 : ¬ (cOS A S).own (W.heap.size + 1) := fun e => by have := h.lt e; omega
 unfold wkO wk0 at hW2
 have H := yyh (yyi h (yyi hb2 (yyi x5 (yyi x8 (yyi n5 n8)))))
 clear h hq hl hne hb2 x5 x8 n5 n8
 unfold wkV
 go_enter Tryz.func106, Tryz.ntmps106
 go_wp2_with fail
 refine HL.out.mono ?_
 rintro e w1 ⟨rfl, S1, k1, hm1⟩
 obtain ⟨h, hb2, x5, x8, n5, n8⟩ := H.out
 have h2 := h.below hb2
 have l8 := zac x8
 have l5 := zac x5
 obtain ⟨w2, hw2⟩ := yye (w1.alloc (.cells #[.int .u64 en.key, .int .i64 en.id] 63))
 have hba : Below w1.heap.size w1 w2 := by rw [← hw2]; exact zab yyr _
 have xe : w2.heap[w1.heap.size]? = some (.cells #[.int .u64 en.key, .int .i64 en.id] 63 (0, 0)) := by rw [← hw2]; exact heap_alloc_new w1 _
 have k2 : zag W2 A S w2 S1 (N + 1) := k1.trans (zag.below k1.at_ hba)
 have y5 := zag.kept h2 k2 n5 x5
 have y8 := zag.kept h2 k2 n8 x8
 obtain ⟨a0, a1, a2, a3, a4, za⟩ := za0 (w := w2.drew) y5
 obtain ⟨c0, c1, -, -⟩ := zao (w := w2.drew) xe
 obtain ⟨a0', a1', a2', -, -, za'⟩ := za0 (w := w2) y5
 obtain ⟨c0', c1', -, -⟩ := zao (w := w2) xe
 have xs := za1 (o := 0) xe (by have := k1.ps.fr.size; have := hb2.size; omega : w1.heap.size ≠ W.heap.size) (.int .i64 1)
 obtain ⟨q0, q1, -, -⟩ := zao xs
 have k0 : zag W A S w2 S1 (N + 1) := (zag.below h hb2).trans k2
 have m5 := zag.stays k2 n5 l5
 have m8 := zag.stays k2 n8 l8
 have hs := zp1 y5 (.int .i64 1) (.int .u64 en.key) (.int .i64 en.id)
 have f3 := zv5 w2 W.heap.size (.int .i64 1) (.int .u64 en.key) (.int .i64 en.id)
 have k3 := k0.box f3 y5 (by decide) yyn m5
 have y83 := (f3.block _ (zac y8) (by omega)).trans y8
 have HR := yyh (yyi hs (yyi y83 k3))
 have HM := yyh (yyi hm1 (yyi m5 m8))
 have HW2 := yyh hw2
 clear h hb2 x5 x8 n5 n8 h2 l8 l5 hba xe k2 y5 y8 k0 m5 m8 hs f3 k3 y83 hw2 k1 hm1 xs
 go_upto_region 4 with fail
 rw [HW2.out]
 go_cut [] (fun w => w.heap[W.heap.size]? = some (.cells #[.int .i64 1, .int .u64 en.key, .int .i64 en.id, .int .i64 v.pc, .bool v.bad] 123 (0, 0)) ∧ w.heap[W.heap.size + 1]? = some (.cells #[.int .i64 0, .int .u64 0, .int .i64 0, .int .i64 0, .bool false] 123 (0, 0)) ∧ zag W A S w S1 (N + 1))
 case first =>
  go_region
  all_goals
   go_wp2_with fail
   go_meet
   exact ⟨HR.out.1, HR.out.2.1, HR.out.2.2.trans (zag.below HR.out.2.2.at_ (zaf yyr))⟩
 case rest =>
  clear q0 q1 a0 a1 a2 a3 a4 za c0 c1 a0' a1' a2' za' c0' c1' HR HW2
  obtain ⟨h5, h8, kc⟩ := hcut
  obtain ⟨a0, a1, a2, a3, a4, -⟩ := za0 h5
  obtain ⟨b0, b1, b2, b3, b4, zb⟩ := za0 h8
  have hs := zbv h8 (.int .i64 1) (.int .u64 en.key) (.int .i64 en.id) (.int .i64 v.pc) (.bool v.bad)
  obtain ⟨e0, e1, e2, e3, e4, -⟩ := za0 hs
  have HF := yyh (kc.box (zb7 wc (W.heap.size + 1) (.int .i64 1) (.int .u64 en.key) (.int .i64 en.id) (.int .i64 v.pc) (.bool v.bad)) h8 (by decide) (by omega) HM.out.2.2)
  clear h5 h8 kc hs
  go_wp2_with fail
  refine bodyPost_ret (v := .tuple #[.agg #[.int .i64 1, .int .u64 en.key, .int .i64 en.id, .int .i64 v.pc, .bool v.bad], .int .i64 1]) (by simp [results, Tryz.results106, go_sem, e0, e1, e2, e3, e4]) rfl ?_
  exact ⟨rfl, S1, HF.out, HM.out.1⟩
end
section
variable {W W' w5 w6 : World} {A : CA} {S S' : CS} {N N' : Nat}
theorem zp2 (h : zal W A S N) (hN : N ≤ 300000000) (hq : (S.q.q A.q.k).Ok) (t : Nat) (ht : t < A.q.lp.length) (k : Nat) (x : Int × Tk) (hx : S.t.rows[k]? = some x) (ph key pc : Int) (bad : Bool) (hit : Bool) (hhit : hit = (x.1 == 2 && x.2.ke == key)) : Calls Tryz.prog 107 #[.pointer (some ⟨A.cb, 0, none⟩), wkV ⟨ph, ⟨key, (k : Int) + 1⟩, pc, bad⟩, .int .i64 t] W fun e w' => e = .returned (.tuple #[wkV (if hit then ⟨2, ⟨key, (k : Int) + 1⟩, 0, false⟩ else wk0), .int .i64 (if hit then 1 else 0)]) ∧ ∃ S', zag W A S w' S' (N + 5) ∧ S'.cm A = if hit then (S.cm A).claim t k x key else S.cm A := by
 obtain ⟨W2, hW2⟩ : ∃ W2, (W.alloc (wkO ⟨ph, ⟨key, (k : Int) + 1⟩, pc, bad⟩)).alloc (wkO wk0) = W2 := ⟨_, rfl⟩
 have hb2 : Below W.heap.size W W2 := by rw [← hW2]; exact zab (zab yyr _) _
 have x5 : W2.heap[W.heap.size]? = some (.cells #[.int .i64 ph, .int .u64 key, .int .i64 ((k : Int) + 1), .int .i64 pc, .bool bad] 123 (0, 0)) := by rw [← hW2]; exact zan (heap_alloc_new W _)
 have x8 : W2.heap[W.heap.size + 1]? = some (.cells #[.int .i64 0, .int .u64 0, .int .i64 0, .int .i64 0, .bool false] 123 (0, 0)) := by rw [← hW2]; exact zax (by simp)
 have HC := yyh (zv4 (h.below hb2) hN hq t ht k x hx key hit hhit)
 have n5 : ¬ (cOS A S).own W.heap.size := fun e => by have := h.lt e; omega
 have n8 : ¬ (cOS A S).own (W.heap.size + 1) := fun e => by have := h.lt e; omega
 obtain ⟨s0, s1, s2, s3, s4, -⟩ := za0 x5
 unfold wkO wk0 at hW2
 have H := yyh (yyi h (yyi hb2 (yyi x5 (yyi x8 (yyi n5 n8)))))
 clear h hq hx hb2 x5 x8 n5 n8 hhit
 obtain ⟨M, hM⟩ : ∃ M, (if hit then (S.cm A).claim t k x key else S.cm A) = M := ⟨_, rfl⟩
 rw [hM] at HC ⊢
 clear hM
 unfold wkV
 go_enter Tryz.func107, Tryz.ntmps107
 go_wp2_with fail
 refine HC.out.mono ?_
 rintro e w1 ⟨rfl, S1, k1, hm1⟩
 obtain ⟨h, hb2, x5, x8, n5, n8⟩ := H.out
 have h2 := h.below hb2
 have y5 := zag.kept h2 k1 n5 x5
 have y8 := zag.kept h2 k1 n8 x8
 have m8 := zag.stays k1 n8 (zac x8)
 obtain ⟨a0, a1, a2, a3, a4, -⟩ := za0 y5
 obtain ⟨b0, b1, b2, b3, b4, zb⟩ := za0 y8
 have k0 : zag W A S w1 S1 (N + 5) := (zag.below h hb2).trans k1
 cases hit with
 | true =>
  have hs := zbv y8 (.int .i64 2) (.int .u64 key) (.int .i64 ((k : Int) + 1)) (.int .i64 0) (.bool false)
  have HS := yyh hs
  have HF := yyh (yyi (k0.box (zb7 w1 (W.heap.size + 1) (.int .i64 2) (.int .u64 key) (.int .i64 ((k : Int) + 1)) (.int .i64 0) (.bool false)) y8 (by decide) (by omega) m8) hm1)
  clear h hb2 x5 x8 n5 n8 h2 y5 y8 m8 k0 hs k1 hm1
  go_wp2_with fail
  obtain ⟨e0, e1, e2, e3, e4, -⟩ := za0 HS.out
  refine bodyPost_ret (v := .tuple #[.agg #[.int .i64 2, .int .u64 key, .int .i64 ((k : Int) + 1), .int .i64 0, .bool false], .int .i64 1]) (by simp [results, Tryz.results107, go_sem, e0, e1, e2, e3, e4]) rfl ?_
  exact ⟨rfl, S1, HF.out.1, HF.out.2⟩
 | false =>
  have hs := zbv y8 (.int .i64 0) (.int .u64 0) (.int .i64 0) (.int .i64 0) (.bool false)
  have HS := yyh hs
  have HF := yyh (yyi (k0.box (zb7 w1 (W.heap.size + 1) (.int .i64 0) (.int .u64 0) (.int .i64 0) (.int .i64 0) (.bool false)) y8 (by decide) (by omega) m8) hm1)
  clear h hb2 x5 x8 n5 n8 h2 y5 y8 m8 k0 hs k1 hm1
  go_wp2_with fail
  obtain ⟨e0, e1, e2, e3, e4, -⟩ := za0 HS.out
  refine bodyPost_ret (v := .tuple #[.agg #[.int .i64 0, .int .u64 0, .int .i64 0, .int .i64 0, .bool false], .int .i64 0]) (by simp [results, Tryz.results107, go_sem, e0, e1, e2, e3, e4]) rfl ?_
  exact ⟨rfl, S1, HF.out.1, HF.out.2⟩
theorem zp3 (h : zal W A S N) (t : Nat) (k : Nat) (x : Int × Tk) (hx : S.t.rows[k]? = some x) (ph key pc : Int) (hpc0 : 0 ≤ pc) (hpc : (x.2.L.length : Int) ≤ pc) {M : CM} (hF : ∀ w, Below W.heap.size W w → Calls Tryz.prog 159 #[.pointer (some ⟨A.cb, 0, none⟩), .int .i64 t, .int .i64 ((k : Int) + 1), .bool true] w fun e w' => e = .returned (.int .i64 0) ∧ ∃ S', zag w A S w' S' N' ∧ S'.cm A = M) : Calls Tryz.prog 108 #[.pointer (some ⟨A.cb, 0, none⟩), wkV ⟨ph, ⟨key, (k : Int) + 1⟩, pc, false⟩, .int .i64 t] W fun e w' => e = .returned (.tuple #[wkV wk0, .int .i64 0]) ∧ ∃ S', zag W A S w' S' N' ∧ S'.cm A = M := by
 obtain ⟨W2, hW2⟩ : ∃ W2, (W.alloc (wkO ⟨ph, ⟨key, (k : Int) + 1⟩, pc, false⟩)).alloc (wkO wk0) = W2 := ⟨_, rfl⟩
 have hb2 : Below W.heap.size W W2 := by rw [← hW2]; exact zab (zab yyr _) _
 have x5 : W2.heap[W.heap.size]? = some (.cells #[.int .i64 ph, .int .u64 key, .int .i64 ((k : Int) + 1), .int .i64 pc, .bool false] 123 (0, 0)) := by rw [← hW2]; exact zan (heap_alloc_new W _)
 have x8 : W2.heap[W.heap.size + 1]? = some (.cells #[.int .i64 0, .int .u64 0, .int .i64 0, .int .i64 0, .bool false] 123 (0, 0)) := by rw [← hW2]; exact zax (by simp)
 have HB := yyh (ztl (h.below hb2) k x hx)
 have n5 : ¬ (cOS A S).own W.heap.size := fun e => by have := h.lt e; omega
 have n8 : ¬ (cOS A S).own (W.heap.size + 1) := fun e => by have := h.lt e; omega
 obtain ⟨s0, s1, s2, s3, s4, -⟩ := za0 x5
 have HF := yyh hF
 have H := yyh (yyi h (yyi hb2 (yyi x5 (yyi x8 (yyi n5 n8)))))
 obtain ⟨n, hn⟩ := yye (x.2.L.length)
 rw [hn] at hpc
 have HN := yyh hn
 have g0 : decide (pc < 0) = false := by rw [decide_eq_false_iff_not]; omega
 have g1 : decide (pc ≥ (n : Int)) = true := by rw [decide_eq_true_eq]; omega
 have g1' : decide ((n : Int) ≤ pc) = true := g1
 unfold wkO wk0 at hW2
 clear h hx hb2 x5 x8 n5 n8 hF hn hpc0
 unfold wkV wk0
 go_enter Tryz.func108, Tryz.ntmps108
 go_wp2_with fail
 refine HB.out.mono ?_
 rintro e w1 ⟨v1, rfl, ho1, hb1⟩
 obtain ⟨av, cv, rfl, -⟩ := ho1.form
 rw [HN.out]
 obtain ⟨h, hb2, x5, x8, n5, n8⟩ := H.out
 have y5 := (hb1.block _ (zac x5)).trans x5
 obtain ⟨a0, a1, a2, a3, a4, -⟩ := za0 y5
 have HFi := yyh (HF.out w1 (zad hb1 hb2))
 have H1 := yyh (yyi (zad hb1 hb2) ((hb1.block _ (zac x8)).trans x8))
 clear ho1 h hb2 x5 x8 n5 n8 y5 hb1
 go_wp2_with fail
 refine HFi.out.mono ?_
 rintro e w2 ⟨rfl, S2, k2, hm2⟩
 obtain ⟨h, hb2, x5, x8, n5, n8⟩ := H.out
 have h1 := h.below H1.out.1
 have y8 := zag.kept h1 k2 n8 H1.out.2
 have m8 := zag.stays k2 n8 (zac H1.out.2)
 obtain ⟨b0, b1, b2, b3, b4, zb⟩ := za0 y8
 have k0 : zag W A S w2 S2 N' := (zag.below h H1.out.1).trans k2
 have hs := zbv y8 (.int .i64 0) (.int .u64 0) (.int .i64 0) (.int .i64 0) (.bool false)
 have HS := yyh hs
 have HFF := yyh (yyi (k0.box (zb7 w2 (W.heap.size + 1) (.int .i64 0) (.int .u64 0) (.int .i64 0) (.int .i64 0) (.bool false)) y8 (by decide) (by omega) m8) hm2)
 clear h hb2 x5 x8 n5 n8 h1 y8 m8 k0 hs k2 hm2
 go_wp2_with fail
 obtain ⟨e0, e1, e2, e3, e4, -⟩ := za0 HS.out
 refine bodyPost_ret (v := .tuple #[.agg #[.int .i64 0, .int .u64 0, .int .i64 0, .int .i64 0, .bool false], .int .i64 0]) (by simp [results, Tryz.results108, go_sem, e0, e1, e2, e3, e4]) rfl ?_
 exact ⟨rfl, S2, HFF.out.1, HFF.out.2⟩
end
theorem zp4 {q : QM} {t : Nat} (h : q.fullAt t = false) : q.settle t = q := by
 unfold QM.fullAt at h
 unfold QM.settle
 split <;> simp_all
theorem zek (x y z : Value) (w : World) : (Instr.field 83 (.agg #[x, y, z]) 0).run Tryz.prog w = .ok x w := by kernel_rfl
section
variable {W W' w5 w6 : World} {A : CA} {S S' : CS} {N N' : Nat}
theorem zfw {w : World} {mb : Nat} {es : Array MapEntry} {clock : Nat} (hb : w.heap[mb]? = some (.map es clock)) (h : zca es clock kdF) (x y : Int) (hx : zbl x) (hy : zbl y) {v : Value} (hv : kdF x y = some v) : (Instr.lookup 182 (.map (some mb)) (.agg #[.int .i64 x, .int .i64 y]) false).run Tryz.prog w = .ok v w := by
 have := zdo.lookup (f := kdF) ⟨es, clock, hb, h⟩ zh4 zj0 Tryz.underlying182 (.int .i64 0) (by kernel_rfl) x y hx hy
 rw [hv] at this
 exact this
theorem zp5 (h : zal W A S N) (t : Nat) (ht : t < A.q.lp.length) (hq : (S.q.q A.q.k).Ok) (hf : (S.q.q A.q.k).fullAt t = false) (dr : Int) (key id pc : Int) (bad : Bool) (ph1 key1 id1 pc1 : Int) (bad1 : Bool) (r : Int) (hr : zbl r) (kd : Int) (hk : kdF 0 r = some (.int .i64 kd)) {M : CM} (HI : ∀ w S0, zag W A S w S0 N → S0.cm A = S.cm A → Calls Tryz.prog 106 #[.pointer (some ⟨A.cb, 0, none⟩), .agg #[.int .i64 0, .int .u64 key, .int .i64 id, .int .i64 pc, .bool bad], .int .i64 t, .int .u64 dr] w fun e w' => e = .returned (.tuple #[.agg #[.int .i64 ph1, .int .u64 key1, .int .i64 id1, .int .i64 pc1, .bool bad1], .int .i64 r]) ∧ ∃ S', zag w A S0 w' S' N' ∧ S'.cm A = M) : Calls Tryz.prog 59 #[.pointer (some ⟨A.cb, 0, none⟩), .agg #[.int .i64 0, .int .u64 key, .int .i64 id, .int .i64 pc, .bool bad], .int .i64 t, .int .u64 dr] W fun e w' => e = .returned (.tuple #[.agg #[.int .i64 ph1, .int .u64 key1, .int .i64 id1, .int .i64 pc1, .bool bad1], .int .i64 kd]) ∧ ∃ S', zag W A S w' S' N' ∧ S'.cm A = M := by
 obtain ⟨W2, hW2⟩ : ∃ W2, (W.alloc (.cells #[.int .i64 0, .int .u64 key, .int .i64 id, .int .i64 pc, .bool bad] 123)).alloc (wkO wk0) = W2 := ⟨_, rfl⟩
 have hb2 : Below W.heap.size W W2 := by rw [← hW2]; exact zab (zab yyr _) _
 have x5 : W2.heap[W.heap.size]? = some (.cells #[.int .i64 0, .int .u64 key, .int .i64 id, .int .i64 pc, .bool bad] 123 (0, 0)) := by rw [← hW2]; exact zan (heap_alloc_new W _)
 have x8 : W2.heap[W.heap.size + 1]? = some (.cells #[.int .i64 0, .int .u64 0, .int .i64 0, .int .i64 0, .bool false] 123 (0, 0)) := by rw [← hW2]; exact zax (by simp)
 have HC := yyh (zmx (h.below hb2))
 have n5 : ¬ (cOS A S).own W.heap.size := fun e => by have := h.lt e; omega
 have n8 : ¬ (cOS A S).own (W.heap.size + 1) := fun e => by have := h.lt e; omega
 have l5 := zac x5
 have l8 := zac x8
 obtain ⟨s0, s1, s2, s3, s4, -⟩ := za0 x5
 have hr' := yyh hr
 have hk' := yyh hk
 have HI' := yyh HI
 have H := yyh (yyi h (yyi hb2 (yyi x5 (yyi x8 (yyi n5 (yyi n8 (yyi l5 l8)))))))
 have g0 : decide ((t : Int) < 0) = false := by rw [decide_eq_false_iff_not]; omega
 have g1 : decide ((t : Int) ≥ (A.q.lp.length : Int)) = false := by rw [decide_eq_false_iff_not]; omega
 have g2 : decide (A.q.lp.length ≤ t) = false := by rw [decide_eq_false_iff_not]; omega
 unfold wkO wk0 at hW2
 have HQ := yyh (yyi hq (yyi ht hf))
 clear hq ht hf
 clear h hb2 x5 x8 n5 n8 l5 l8 hr hk HI
 go_enter Tryz.func59, Tryz.ntmps59
 go_wp2_with fail
 refine HC.out.mono ?_
 rintro e w1 ⟨rfl, hb1⟩
 obtain ⟨h, hb2, x5, x8, n5, n8, l5, l8⟩ := H.out
 have h1 := (h.below hb2).below hb1
 have y5 := (hb1.block _ l5).trans x5
 have y8 := (hb1.block _ l8).trans x8
 obtain ⟨a0, a1, a2, a3, a4, -⟩ := za0 y5
 have k1 : zag W A S w1 S N := zag.below h (zad hb1 hb2)
 have hcf := zek (.int .i64 A.q.lp.length) (.int .i64 A.q.k) (.int .i64 A.C) w1
 have HS := yyh (zmy h1 HQ.out.1 t HQ.out.2.1)
 rw [HQ.out.2.2] at HS
 have H1 := yyh (yyi k1 (yyi y5 (yyi y8 (yyi (yyi n5 n8) (yyi h1 (Nat.lt_of_lt_of_le l8 hb1.size))))))
 clear h hb2 x5 x8 n5 n8 h1 y5 y8 k1 hb1 l5 l8 s0 s1 s2 s3 s4
 go_wp2_with fail
 refine HS.out.mono ?_
 rintro e w2 ⟨rfl, s2, kS, hs2⟩
 clear a0 a1 a2 a3 a4
 obtain ⟨k1, y5, y8, ⟨n5, n8⟩, h1, l8⟩ := H1.out
 have z5 := zag.kept h1 kS n5 y5
 have z8 := zag.kept h1 kS n8 y8
 have m5 := zag.stays kS n5 (zac y5)
 have m8 := zag.stays kS n8 (zac y8)
 have k2 := k1.trans kS
 have hcm : CS.cm A { S with q := s2 } = S.cm A := by
  have := hs2.trans (zp4 HQ.out.2.2)
  unfold CS.cm
  rw [this]
 obtain ⟨a0, a1, a2, a3, a4, -⟩ := za0 z5
 obtain ⟨S2, hS2⟩ : ∃ S2, { S with q := s2 } = S2 := ⟨_, rfl⟩
 rw [hS2] at k2 hcm m5 m8
 have H2 := yyh (yyi k2 (yyi z5 (yyi z8 (yyi m5 (yyi m8 hcm)))))
 clear kS hs2 k1 y5 y8 n5 n8 h1 l8 z5 z8 m5 m8 k2 hcm hS2
 have hba : Below w2.heap.size w2 (w2.alloc (.cells #[.int .i64 0, .int .i64 0] 180)) := by exact zab yyr _
 have xa : (w2.alloc (.cells #[.int .i64 0, .int .i64 0] 180)).heap[w2.heap.size]? = some (.cells #[.int .i64 0, .int .i64 0] 180 (0, 0)) := heap_alloc_new w2 _
 have y5 : (w2.alloc (.cells #[.int .i64 0, .int .i64 0] 180)).heap[W.heap.size]? = some (.cells #[.int .i64 0, .int .u64 key, .int .i64 id, .int .i64 pc, .bool bad] 123 (0, 0)) := (hba.block _ (zac H2.out.2.1)).trans H2.out.2.1
 have y8 := (hba.block _ (zac H2.out.2.2.1)).trans H2.out.2.2.1
 obtain ⟨p0, p1, p2, p3, p4, -⟩ := za0 y5
 have kA : zag W A S (w2.alloc (.cells #[.int .i64 0, .int .i64 0] 180)) S2 N := H2.out.1.trans (zag.below H2.out.1.at_ hba)
 have hAt := kA.at_
 have nA : ¬ (cOS A S2).own w2.heap.size := fun e => by have := H2.out.1.at_.lt e; omega
 have hlt : W.heap.size + 1 < w2.heap.size := zac H2.out.2.2.1
 have HI2 := yyh (HI'.out _ _ kA H2.out.2.2.2.2.2)
 have H3 := yyh (yyi kA (yyi y5 (yyi y8 (yyi xa (yyi H2.out.2.2.2.1 (yyi H2.out.2.2.2.2.1 (yyi nA hlt)))))))
 have HB := yyh (yyi hba.size (zac xa))
 clear hba xa y5 y8 kA hAt nA hlt
 go_wp2_with fail
 refine HI2.out.mono ?_
 rintro e w3 ⟨rfl, S3, k3, hm3⟩
 clear p0 p1 p2 p3 p4 a0 a1 a2 a3 a4 HI2
 obtain ⟨kA, y5, y8, xa, m5, m8, nA, hlt⟩ := H3.out
 have hAt := kA.at_
 have z5 := zag.kept hAt k3 m5 y5
 have z8 := zag.kept hAt k3 m8 y8
 have za := zag.kept hAt k3 nA xa
 have m5 := zag.stays k3 m5 (zac y5)
 have m8 := zag.stays k3 m8 (zac y8)
 have mA := zag.stays k3 nA (zac xa)
 have k4 := kA.trans k3
 obtain ⟨p0, p1, p2, p3, p4, pz⟩ := za0 z5
 obtain ⟨q0, q1, -, qz⟩ := zao za
 obtain ⟨WB, hWB⟩ : ∃ Z, ((((((w3.setCell ⟨W.heap.size, 0, none⟩ (.int .i64 ph1)).setCell ⟨W.heap.size, 1, none⟩ (.int .u64 key1)).setCell ⟨W.heap.size, 2, none⟩ (.int .i64 id1)).setCell ⟨W.heap.size, 3, none⟩ (.int .i64 pc1)).setCell ⟨W.heap.size, 4, none⟩ (.bool bad1)).setCell ⟨w2.heap.size, 1, none⟩ (.int .i64 r)) = Z := ⟨_, rfl⟩
 have hs5 := zbv z5 (.int .i64 ph1) (.int .u64 key1) (.int .i64 id1) (.int .i64 pc1) (.bool bad1)
 have f5 := zb7 w3 W.heap.size (.int .i64 ph1) (.int .u64 key1) (.int .i64 id1) (.int .i64 pc1) (.bool bad1)
 have k5 := k4.box f5 z5 (by decide) yyn m5
 have z8' := (f5.block _ (zac z8) (by omega)).trans z8
 have za' := (f5.block _ (zac za) (by omega)).trans za
 have fB : Fr (fun j => j = w2.heap.size) (((((w3.setCell ⟨W.heap.size, 0, none⟩ (.int .i64 ph1)).setCell ⟨W.heap.size, 1, none⟩ (.int .u64 key1)).setCell ⟨W.heap.size, 2, none⟩ (.int .i64 id1)).setCell ⟨W.heap.size, 3, none⟩ (.int .i64 pc1)).setCell ⟨W.heap.size, 4, none⟩ (.bool bad1)) WB := by rw [← hWB]; exact Fr.set (S := fun j => j = w2.heap.size) (Fr.refl _ _) (p := ⟨w2.heap.size, 1, none⟩) rfl (.int .i64 r)
 have zaB : WB.heap[w2.heap.size]? = some (.cells #[.int .i64 0, .int .i64 r] 180 (0, 0)) := by rw [← hWB, zai za' _]; simp
 have z5B := (fB.block _ (zac hs5) (by omega)).trans hs5
 have z8B := (fB.block _ (zac z8') (by omega)).trans z8'
 have k6 := k5.box fB za' (by decide) (by omega) mA
 have H4 := yyh (yyi k6 (yyi z5B (yyi z8B (yyi zaB (yyi m8 (yyi hlt hm3))))))
 have HWB := yyh hWB
 have ne1 : ¬ w2.heap.size = W.heap.size := by omega
 have ne2 : ¬ W.heap.size = w2.heap.size := by omega
 clear kA y5 y8 xa m5 m8 nA hlt hAt z5 z8 za mA k4 hs5 f5 k5 z8' za' fB zaB z5B z8B k6 k3 hm3 HB H3 hWB
 go_wp2_with fail
 rw [HWB.out]
 refine (zg1 _).mono ?_
 rintro e w4 ⟨es, clock, rfl, hw4, hE⟩
 clear p0 p1 p2 p3 p4 pz q0 q1 qz
 obtain ⟨k6, z5B, z8B, zaB, m8, hlt, hm3⟩ := H4.out
 have hb4 : Below WB.heap.size WB w4 := by rw [hw4]; exact zaf (zab yyr _)
 have ym : w4.heap[WB.heap.size]? = some (.map es clock) := by rw [hw4]; exact heap_alloc_new WB _
 have y5 := (hb4.block _ (zac z5B)).trans z5B
 have y8 := (hb4.block _ (zac z8B)).trans z8B
 have ya := (hb4.block _ (zac zaB)).trans zaB
 have k7 := k6.trans (zag.below k6.at_ hb4)
 obtain ⟨p0, p1, p2, p3, p4, pz⟩ := za0 (w := w4.drew) y5
 obtain ⟨b0, b1, b2, b3, b4, bz⟩ := za0 (w := w4.drew) y8
 obtain ⟨q0, q1, -, -⟩ := zao (w := w4.drew) ya
 obtain ⟨p0', p1', p2', p3', p4', pz'⟩ := za0 y5
 obtain ⟨b0', b1', b2', b3', b4', bz'⟩ := za0 y8
 obtain ⟨q0', q1', -, -⟩ := zao ya
 have fV := zb7 w4 (W.heap.size + 1) (.int .i64 ph1) (.int .u64 key1) (.int .i64 id1) (.int .i64 pc1) (.bool bad1)
 have lB := zac z8B
 have yaV := (fV.block _ (zac ya) (by omega)).trans ya
 have ymV := (fV.block _ (zac ym) (by omega)).trans ym
 obtain ⟨V, hV⟩ : ∃ Z, (((((w4.setCell ⟨W.heap.size + 1, 0, none⟩ (.int .i64 ph1)).setCell ⟨W.heap.size + 1, 1, none⟩ (.int .u64 key1)).setCell ⟨W.heap.size + 1, 2, none⟩ (.int .i64 id1)).setCell ⟨W.heap.size + 1, 3, none⟩ (.int .i64 pc1)).setCell ⟨W.heap.size + 1, 4, none⟩ (.bool bad1)) = Z := ⟨_, rfl⟩
 have HS := yyh (zbv y8 (.int .i64 ph1) (.int .u64 key1) (.int .i64 id1) (.int .i64 pc1) (.bool bad1))
 have HF := yyh (yyi (k7.box (zb7 w4 (W.heap.size + 1) (.int .i64 ph1) (.int .u64 key1) (.int .i64 id1) (.int .i64 pc1) (.bool bad1)) y8 (by decide) (by omega) m8) hm3)
 rw [hV] at yaV ymV HS HF
 obtain ⟨v0, v1, -, -⟩ := zao (w := V.drew) yaV
 have hlV := zfw (w := V.drew) ymV hE 0 r (by unfold zbl; decide) hr'.out hk'.out
 have nx1 : ¬ w2.heap.size = W.heap.size + 1 := by omega
 have nx2 : ¬ W.heap.size + 1 = w2.heap.size := by omega
 have hlk := zfw (w := w4.drew) ym hE 0 r (by unfold zbl; decide) hr'.out hk'.out
 clear k6 z5B z8B zaB m8 hlt hm3 hb4 ym y5 y8 ya k7 hw4 hE H4 H2 fV yaV ymV lB
 go_upto_region 13 with fail
 go_region
 all_goals
  go_wp2_with fail
  obtain ⟨e0, e1, e2, e3, e4, -⟩ := za0 (w := V.drew) HS.out
  refine bodyPost_ret (v := .tuple #[.agg #[.int .i64 ph1, .int .u64 key1, .int .i64 id1, .int .i64 pc1, .bool bad1], .int .i64 kd]) (by simp [results, Tryz.results59, go_sem, e0, e1, e2, e3, e4]) rfl ?_
  exact ⟨rfl, S3, HF.out.1.trans (zag.below HF.out.1.at_ (zaf yyr)), HF.out.2⟩
theorem zp6 (h : zal W A S N) (t : Nat) (ht : t < A.q.lp.length) (dr : Int) (key id pc : Int) (bad : Bool) (ph1 key1 id1 pc1 : Int) (bad1 : Bool) (r : Int) (hr : zbl r) (kd : Int) (hk : kdF 1 r = some (.int .i64 kd)) {M : CM} (HI : ∀ w S0, zag W A S w S0 N → S0.cm A = S.cm A → Calls Tryz.prog 107 #[.pointer (some ⟨A.cb, 0, none⟩), .agg #[.int .i64 1, .int .u64 key, .int .i64 id, .int .i64 pc, .bool bad], .int .i64 t] w fun e w' => e = .returned (.tuple #[.agg #[.int .i64 ph1, .int .u64 key1, .int .i64 id1, .int .i64 pc1, .bool bad1], .int .i64 r]) ∧ ∃ S', zag w A S0 w' S' N' ∧ S'.cm A = M) : Calls Tryz.prog 59 #[.pointer (some ⟨A.cb, 0, none⟩), .agg #[.int .i64 1, .int .u64 key, .int .i64 id, .int .i64 pc, .bool bad], .int .i64 t, .int .u64 dr] W fun e w' => e = .returned (.tuple #[.agg #[.int .i64 ph1, .int .u64 key1, .int .i64 id1, .int .i64 pc1, .bool bad1], .int .i64 kd]) ∧ ∃ S', zag W A S w' S' N' ∧ S'.cm A = M := by
 obtain ⟨W2, hW2⟩ : ∃ W2, (W.alloc (.cells #[.int .i64 1, .int .u64 key, .int .i64 id, .int .i64 pc, .bool bad] 123)).alloc (wkO wk0) = W2 := ⟨_, rfl⟩
 have hb2 : Below W.heap.size W W2 := by rw [← hW2]; exact zab (zab yyr _) _
 have x5 : W2.heap[W.heap.size]? = some (.cells #[.int .i64 1, .int .u64 key, .int .i64 id, .int .i64 pc, .bool bad] 123 (0, 0)) := by rw [← hW2]; exact zan (heap_alloc_new W _)
 have x8 : W2.heap[W.heap.size + 1]? = some (.cells #[.int .i64 0, .int .u64 0, .int .i64 0, .int .i64 0, .bool false] 123 (0, 0)) := by rw [← hW2]; exact zax (by simp)
 have HC := yyh (zmx (h.below hb2))
 have n5 : ¬ (cOS A S).own W.heap.size := fun e => by have := h.lt e; omega
 have n8 : ¬ (cOS A S).own (W.heap.size + 1) := fun e => by have := h.lt e; omega
 have l5 := zac x5
 have l8 := zac x8
 obtain ⟨s0, s1, s2, s3, s4, -⟩ := za0 x5
 have hr' := yyh hr
 have hk' := yyh hk
 have HI' := yyh HI
 have H := yyh (yyi h (yyi hb2 (yyi x5 (yyi x8 (yyi n5 (yyi n8 (yyi l5 l8)))))))
 have g0 : decide ((t : Int) < 0) = false := by rw [decide_eq_false_iff_not]; omega
 have g1 : decide ((t : Int) ≥ (A.q.lp.length : Int)) = false := by rw [decide_eq_false_iff_not]; omega
 have g2 : decide (A.q.lp.length ≤ t) = false := by rw [decide_eq_false_iff_not]; omega
 unfold wkO wk0 at hW2
 clear h hb2 x5 x8 n5 n8 l5 l8 hr hk HI
 go_enter Tryz.func59, Tryz.ntmps59
 go_wp2_with fail
 refine HC.out.mono ?_
 rintro e w1 ⟨rfl, hb1⟩
 obtain ⟨h, hb2, x5, x8, n5, n8, l5, l8⟩ := H.out
 have h1 := (h.below hb2).below hb1
 have y5 := (hb1.block _ l5).trans x5
 have y8 := (hb1.block _ l8).trans x8
 obtain ⟨a0, a1, a2, a3, a4, -⟩ := za0 y5
 have k1 : zag W A S w1 S N := zag.below h (zad hb1 hb2)
 have hcf := zek (.int .i64 A.q.lp.length) (.int .i64 A.q.k) (.int .i64 A.C) w1
 have H2 := yyh (yyi k1 (yyi y5 (yyi y8 (yyi n5 (yyi n8 (rfl : S.cm A = S.cm A))))))
 clear h hb2 x5 x8 n5 n8 h1 y5 y8 k1 hb1 l5 l8 s0 s1 s2 s3 s4
 have hba : Below w1.heap.size w1 (w1.alloc (.cells #[.int .i64 1, .int .i64 0] 180)) := by exact zab yyr _
 have xa : (w1.alloc (.cells #[.int .i64 1, .int .i64 0] 180)).heap[w1.heap.size]? = some (.cells #[.int .i64 1, .int .i64 0] 180 (0, 0)) := heap_alloc_new w1 _
 have y5 : (w1.alloc (.cells #[.int .i64 1, .int .i64 0] 180)).heap[W.heap.size]? = some (.cells #[.int .i64 1, .int .u64 key, .int .i64 id, .int .i64 pc, .bool bad] 123 (0, 0)) := (hba.block _ (zac H2.out.2.1)).trans H2.out.2.1
 have y8 := (hba.block _ (zac H2.out.2.2.1)).trans H2.out.2.2.1
 obtain ⟨p0, p1, p2, p3, p4, -⟩ := za0 y5
 have kA : zag W A S (w1.alloc (.cells #[.int .i64 1, .int .i64 0] 180)) S N := H2.out.1.trans (zag.below H2.out.1.at_ hba)
 have hAt := kA.at_
 have nA : ¬ (cOS A S).own w1.heap.size := fun e => by have := H2.out.1.at_.lt e; omega
 have hlt : W.heap.size + 1 < w1.heap.size := zac H2.out.2.2.1
 have HI2 := yyh (HI'.out _ _ kA H2.out.2.2.2.2.2)
 have H3 := yyh (yyi kA (yyi y5 (yyi y8 (yyi xa (yyi H2.out.2.2.2.1 (yyi H2.out.2.2.2.2.1 (yyi nA hlt)))))))
 have HB := yyh (yyi hba.size (zac xa))
 clear hba xa y5 y8 kA hAt nA hlt
 go_wp2_with fail
 refine HI2.out.mono ?_
 rintro e w3 ⟨rfl, S3, k3, hm3⟩
 clear p0 p1 p2 p3 p4 a0 a1 a2 a3 a4 HI2
 obtain ⟨kA, y5, y8, xa, m5, m8, nA, hlt⟩ := H3.out
 have hAt := kA.at_
 have z5 := zag.kept hAt k3 m5 y5
 have z8 := zag.kept hAt k3 m8 y8
 have za := zag.kept hAt k3 nA xa
 have m5 := zag.stays k3 m5 (zac y5)
 have m8 := zag.stays k3 m8 (zac y8)
 have mA := zag.stays k3 nA (zac xa)
 have k4 := kA.trans k3
 obtain ⟨p0, p1, p2, p3, p4, pz⟩ := za0 z5
 obtain ⟨q0, q1, -, qz⟩ := zao za
 obtain ⟨WB, hWB⟩ : ∃ Z, ((((((w3.setCell ⟨W.heap.size, 0, none⟩ (.int .i64 ph1)).setCell ⟨W.heap.size, 1, none⟩ (.int .u64 key1)).setCell ⟨W.heap.size, 2, none⟩ (.int .i64 id1)).setCell ⟨W.heap.size, 3, none⟩ (.int .i64 pc1)).setCell ⟨W.heap.size, 4, none⟩ (.bool bad1)).setCell ⟨w1.heap.size, 1, none⟩ (.int .i64 r)) = Z := ⟨_, rfl⟩
 have hs5 := zbv z5 (.int .i64 ph1) (.int .u64 key1) (.int .i64 id1) (.int .i64 pc1) (.bool bad1)
 have f5 := zb7 w3 W.heap.size (.int .i64 ph1) (.int .u64 key1) (.int .i64 id1) (.int .i64 pc1) (.bool bad1)
 have k5 := k4.box f5 z5 (by decide) yyn m5
 have z8' := (f5.block _ (zac z8) (by omega)).trans z8
 have za' := (f5.block _ (zac za) (by omega)).trans za
 have fB : Fr (fun j => j = w1.heap.size) (((((w3.setCell ⟨W.heap.size, 0, none⟩ (.int .i64 ph1)).setCell ⟨W.heap.size, 1, none⟩ (.int .u64 key1)).setCell ⟨W.heap.size, 2, none⟩ (.int .i64 id1)).setCell ⟨W.heap.size, 3, none⟩ (.int .i64 pc1)).setCell ⟨W.heap.size, 4, none⟩ (.bool bad1)) WB := by rw [← hWB]; exact Fr.set (S := fun j => j = w1.heap.size) (Fr.refl _ _) (p := ⟨w1.heap.size, 1, none⟩) rfl (.int .i64 r)
 have zaB : WB.heap[w1.heap.size]? = some (.cells #[.int .i64 1, .int .i64 r] 180 (0, 0)) := by rw [← hWB, zai za' _]; simp
 have z5B := (fB.block _ (zac hs5) (by omega)).trans hs5
 have z8B := (fB.block _ (zac z8') (by omega)).trans z8'
 have k6 := k5.box fB za' (by decide) (by omega) mA
 have H4 := yyh (yyi k6 (yyi z5B (yyi z8B (yyi zaB (yyi m8 (yyi hlt hm3))))))
 have HWB := yyh hWB
 have ne1 : ¬ w1.heap.size = W.heap.size := by omega
 have ne2 : ¬ W.heap.size = w1.heap.size := by omega
 clear kA y5 y8 xa m5 m8 nA hlt hAt z5 z8 za mA k4 hs5 f5 k5 z8' za' fB zaB z5B z8B k6 k3 hm3 HB H3 hWB
 go_wp2_with fail
 rw [HWB.out]
 refine (zg1 _).mono ?_
 rintro e w4 ⟨es, clock, rfl, hw4, hE⟩
 clear p0 p1 p2 p3 p4 pz q0 q1 qz
 obtain ⟨k6, z5B, z8B, zaB, m8, hlt, hm3⟩ := H4.out
 have hb4 : Below WB.heap.size WB w4 := by rw [hw4]; exact zaf (zab yyr _)
 have ym : w4.heap[WB.heap.size]? = some (.map es clock) := by rw [hw4]; exact heap_alloc_new WB _
 have y5 := (hb4.block _ (zac z5B)).trans z5B
 have y8 := (hb4.block _ (zac z8B)).trans z8B
 have ya := (hb4.block _ (zac zaB)).trans zaB
 have k7 := k6.trans (zag.below k6.at_ hb4)
 obtain ⟨p0, p1, p2, p3, p4, pz⟩ := za0 (w := w4.drew) y5
 obtain ⟨b0, b1, b2, b3, b4, bz⟩ := za0 (w := w4.drew) y8
 obtain ⟨q0, q1, -, -⟩ := zao (w := w4.drew) ya
 obtain ⟨p0', p1', p2', p3', p4', pz'⟩ := za0 y5
 obtain ⟨b0', b1', b2', b3', b4', bz'⟩ := za0 y8
 obtain ⟨q0', q1', -, -⟩ := zao ya
 have fV := zb7 w4 (W.heap.size + 1) (.int .i64 ph1) (.int .u64 key1) (.int .i64 id1) (.int .i64 pc1) (.bool bad1)
 have lB := zac z8B
 have yaV := (fV.block _ (zac ya) (by omega)).trans ya
 have ymV := (fV.block _ (zac ym) (by omega)).trans ym
 obtain ⟨V, hV⟩ : ∃ Z, (((((w4.setCell ⟨W.heap.size + 1, 0, none⟩ (.int .i64 ph1)).setCell ⟨W.heap.size + 1, 1, none⟩ (.int .u64 key1)).setCell ⟨W.heap.size + 1, 2, none⟩ (.int .i64 id1)).setCell ⟨W.heap.size + 1, 3, none⟩ (.int .i64 pc1)).setCell ⟨W.heap.size + 1, 4, none⟩ (.bool bad1)) = Z := ⟨_, rfl⟩
 have HS := yyh (zbv y8 (.int .i64 ph1) (.int .u64 key1) (.int .i64 id1) (.int .i64 pc1) (.bool bad1))
 have HF := yyh (yyi (k7.box (zb7 w4 (W.heap.size + 1) (.int .i64 ph1) (.int .u64 key1) (.int .i64 id1) (.int .i64 pc1) (.bool bad1)) y8 (by decide) (by omega) m8) hm3)
 rw [hV] at yaV ymV HS HF
 obtain ⟨v0, v1, -, -⟩ := zao (w := V.drew) yaV
 have hlV := zfw (w := V.drew) ymV hE 1 r (by unfold zbl; decide) hr'.out hk'.out
 have nx1 : ¬ w1.heap.size = W.heap.size + 1 := by omega
 have nx2 : ¬ W.heap.size + 1 = w1.heap.size := by omega
 have hlk := zfw (w := w4.drew) ym hE 1 r (by unfold zbl; decide) hr'.out hk'.out
 clear k6 z5B z8B zaB m8 hlt hm3 hb4 ym y5 y8 ya k7 hw4 hE H4 H2 fV yaV ymV lB
 go_upto_region 13 with fail
 go_region
 all_goals
  go_wp2_with fail
  obtain ⟨e0, e1, e2, e3, e4, -⟩ := za0 (w := V.drew) HS.out
  refine bodyPost_ret (v := .tuple #[.agg #[.int .i64 ph1, .int .u64 key1, .int .i64 id1, .int .i64 pc1, .bool bad1], .int .i64 kd]) (by simp [results, Tryz.results59, go_sem, e0, e1, e2, e3, e4]) rfl ?_
  exact ⟨rfl, S3, HF.out.1.trans (zag.below HF.out.1.at_ (zaf yyr)), HF.out.2⟩
theorem zp7 (h : zal W A S N) (t : Nat) (ht : t < A.q.lp.length) (dr : Int) (key id pc : Int) (bad : Bool) (ph1 key1 id1 pc1 : Int) (bad1 : Bool) (r : Int) (hr : zbl r) (kd : Int) (hk : kdF 2 r = some (.int .i64 kd)) {M : CM} (HI : ∀ w S0, zag W A S w S0 N → S0.cm A = S.cm A → Calls Tryz.prog 108 #[.pointer (some ⟨A.cb, 0, none⟩), .agg #[.int .i64 2, .int .u64 key, .int .i64 id, .int .i64 pc, .bool bad], .int .i64 t] w fun e w' => e = .returned (.tuple #[.agg #[.int .i64 ph1, .int .u64 key1, .int .i64 id1, .int .i64 pc1, .bool bad1], .int .i64 r]) ∧ ∃ S', zag w A S0 w' S' N' ∧ S'.cm A = M) : Calls Tryz.prog 59 #[.pointer (some ⟨A.cb, 0, none⟩), .agg #[.int .i64 2, .int .u64 key, .int .i64 id, .int .i64 pc, .bool bad], .int .i64 t, .int .u64 dr] W fun e w' => e = .returned (.tuple #[.agg #[.int .i64 ph1, .int .u64 key1, .int .i64 id1, .int .i64 pc1, .bool bad1], .int .i64 kd]) ∧ ∃ S', zag W A S w' S' N' ∧ S'.cm A = M := by
 obtain ⟨W2, hW2⟩ : ∃ W2, (W.alloc (.cells #[.int .i64 2, .int .u64 key, .int .i64 id, .int .i64 pc, .bool bad] 123)).alloc (wkO wk0) = W2 := ⟨_, rfl⟩
 have hb2 : Below W.heap.size W W2 := by rw [← hW2]; exact zab (zab yyr _) _
 have x5 : W2.heap[W.heap.size]? = some (.cells #[.int .i64 2, .int .u64 key, .int .i64 id, .int .i64 pc, .bool bad] 123 (0, 0)) := by rw [← hW2]; exact zan (heap_alloc_new W _)
 have x8 : W2.heap[W.heap.size + 1]? = some (.cells #[.int .i64 0, .int .u64 0, .int .i64 0, .int .i64 0, .bool false] 123 (0, 0)) := by rw [← hW2]; exact zax (by simp)
 have HC := yyh (zmx (h.below hb2))
 have n5 : ¬ (cOS A S).own W.heap.size := fun e => by have := h.lt e; omega
 have n8 : ¬ (cOS A S).own (W.heap.size + 1) := fun e => by have := h.lt e; omega
 have l5 := zac x5
 have l8 := zac x8
 obtain ⟨s0, s1, s2, s3, s4, -⟩ := za0 x5
 have hr' := yyh hr
 have hk' := yyh hk
 have HI' := yyh HI
 have H := yyh (yyi h (yyi hb2 (yyi x5 (yyi x8 (yyi n5 (yyi n8 (yyi l5 l8)))))))
 have g0 : decide ((t : Int) < 0) = false := by rw [decide_eq_false_iff_not]; omega
 have g1 : decide ((t : Int) ≥ (A.q.lp.length : Int)) = false := by rw [decide_eq_false_iff_not]; omega
 have g2 : decide (A.q.lp.length ≤ t) = false := by rw [decide_eq_false_iff_not]; omega
 unfold wkO wk0 at hW2
 clear h hb2 x5 x8 n5 n8 l5 l8 hr hk HI
 go_enter Tryz.func59, Tryz.ntmps59
 go_wp2_with fail
 refine HC.out.mono ?_
 rintro e w1 ⟨rfl, hb1⟩
 obtain ⟨h, hb2, x5, x8, n5, n8, l5, l8⟩ := H.out
 have h1 := (h.below hb2).below hb1
 have y5 := (hb1.block _ l5).trans x5
 have y8 := (hb1.block _ l8).trans x8
 obtain ⟨a0, a1, a2, a3, a4, -⟩ := za0 y5
 have k1 : zag W A S w1 S N := zag.below h (zad hb1 hb2)
 have hcf := zek (.int .i64 A.q.lp.length) (.int .i64 A.q.k) (.int .i64 A.C) w1
 have H2 := yyh (yyi k1 (yyi y5 (yyi y8 (yyi n5 (yyi n8 (rfl : S.cm A = S.cm A))))))
 clear h hb2 x5 x8 n5 n8 h1 y5 y8 k1 hb1 l5 l8 s0 s1 s2 s3 s4
 have hba : Below w1.heap.size w1 (w1.alloc (.cells #[.int .i64 2, .int .i64 0] 180)) := by exact zab yyr _
 have xa : (w1.alloc (.cells #[.int .i64 2, .int .i64 0] 180)).heap[w1.heap.size]? = some (.cells #[.int .i64 2, .int .i64 0] 180 (0, 0)) := heap_alloc_new w1 _
 have y5 : (w1.alloc (.cells #[.int .i64 2, .int .i64 0] 180)).heap[W.heap.size]? = some (.cells #[.int .i64 2, .int .u64 key, .int .i64 id, .int .i64 pc, .bool bad] 123 (0, 0)) := (hba.block _ (zac H2.out.2.1)).trans H2.out.2.1
 have y8 := (hba.block _ (zac H2.out.2.2.1)).trans H2.out.2.2.1
 obtain ⟨p0, p1, p2, p3, p4, -⟩ := za0 y5
 have kA : zag W A S (w1.alloc (.cells #[.int .i64 2, .int .i64 0] 180)) S N := H2.out.1.trans (zag.below H2.out.1.at_ hba)
 have hAt := kA.at_
 have nA : ¬ (cOS A S).own w1.heap.size := fun e => by have := H2.out.1.at_.lt e; omega
 have hlt : W.heap.size + 1 < w1.heap.size := zac H2.out.2.2.1
 have HI2 := yyh (HI'.out _ _ kA H2.out.2.2.2.2.2)
 have H3 := yyh (yyi kA (yyi y5 (yyi y8 (yyi xa (yyi H2.out.2.2.2.1 (yyi H2.out.2.2.2.2.1 (yyi nA hlt)))))))
 have HB := yyh (yyi hba.size (zac xa))
 clear hba xa y5 y8 kA hAt nA hlt
 go_wp2_with fail
 refine HI2.out.mono ?_
 rintro e w3 ⟨rfl, S3, k3, hm3⟩
 clear p0 p1 p2 p3 p4 a0 a1 a2 a3 a4 HI2
 obtain ⟨kA, y5, y8, xa, m5, m8, nA, hlt⟩ := H3.out
 have hAt := kA.at_
 have z5 := zag.kept hAt k3 m5 y5
 have z8 := zag.kept hAt k3 m8 y8
 have za := zag.kept hAt k3 nA xa
 have m5 := zag.stays k3 m5 (zac y5)
 have m8 := zag.stays k3 m8 (zac y8)
 have mA := zag.stays k3 nA (zac xa)
 have k4 := kA.trans k3
 obtain ⟨p0, p1, p2, p3, p4, pz⟩ := za0 z5
 obtain ⟨q0, q1, -, qz⟩ := zao za
 obtain ⟨WB, hWB⟩ : ∃ Z, ((((((w3.setCell ⟨W.heap.size, 0, none⟩ (.int .i64 ph1)).setCell ⟨W.heap.size, 1, none⟩ (.int .u64 key1)).setCell ⟨W.heap.size, 2, none⟩ (.int .i64 id1)).setCell ⟨W.heap.size, 3, none⟩ (.int .i64 pc1)).setCell ⟨W.heap.size, 4, none⟩ (.bool bad1)).setCell ⟨w1.heap.size, 1, none⟩ (.int .i64 r)) = Z := ⟨_, rfl⟩
 have hs5 := zbv z5 (.int .i64 ph1) (.int .u64 key1) (.int .i64 id1) (.int .i64 pc1) (.bool bad1)
 have f5 := zb7 w3 W.heap.size (.int .i64 ph1) (.int .u64 key1) (.int .i64 id1) (.int .i64 pc1) (.bool bad1)
 have k5 := k4.box f5 z5 (by decide) yyn m5
 have z8' := (f5.block _ (zac z8) (by omega)).trans z8
 have za' := (f5.block _ (zac za) (by omega)).trans za
 have fB : Fr (fun j => j = w1.heap.size) (((((w3.setCell ⟨W.heap.size, 0, none⟩ (.int .i64 ph1)).setCell ⟨W.heap.size, 1, none⟩ (.int .u64 key1)).setCell ⟨W.heap.size, 2, none⟩ (.int .i64 id1)).setCell ⟨W.heap.size, 3, none⟩ (.int .i64 pc1)).setCell ⟨W.heap.size, 4, none⟩ (.bool bad1)) WB := by rw [← hWB]; exact Fr.set (S := fun j => j = w1.heap.size) (Fr.refl _ _) (p := ⟨w1.heap.size, 1, none⟩) rfl (.int .i64 r)
 have zaB : WB.heap[w1.heap.size]? = some (.cells #[.int .i64 2, .int .i64 r] 180 (0, 0)) := by rw [← hWB, zai za' _]; simp
 have z5B := (fB.block _ (zac hs5) (by omega)).trans hs5
 have z8B := (fB.block _ (zac z8') (by omega)).trans z8'
 have k6 := k5.box fB za' (by decide) (by omega) mA
 have H4 := yyh (yyi k6 (yyi z5B (yyi z8B (yyi zaB (yyi m8 (yyi hlt hm3))))))
 have HWB := yyh hWB
 have ne1 : ¬ w1.heap.size = W.heap.size := by omega
 have ne2 : ¬ W.heap.size = w1.heap.size := by omega
 clear kA y5 y8 xa m5 m8 nA hlt hAt z5 z8 za mA k4 hs5 f5 k5 z8' za' fB zaB z5B z8B k6 k3 hm3 HB H3 hWB
 go_wp2_with fail
 rw [HWB.out]
 refine (zg1 _).mono ?_
 rintro e w4 ⟨es, clock, rfl, hw4, hE⟩
 clear p0 p1 p2 p3 p4 pz q0 q1 qz
 obtain ⟨k6, z5B, z8B, zaB, m8, hlt, hm3⟩ := H4.out
 have hb4 : Below WB.heap.size WB w4 := by rw [hw4]; exact zaf (zab yyr _)
 have ym : w4.heap[WB.heap.size]? = some (.map es clock) := by rw [hw4]; exact heap_alloc_new WB _
 have y5 := (hb4.block _ (zac z5B)).trans z5B
 have y8 := (hb4.block _ (zac z8B)).trans z8B
 have ya := (hb4.block _ (zac zaB)).trans zaB
 have k7 := k6.trans (zag.below k6.at_ hb4)
 obtain ⟨p0, p1, p2, p3, p4, pz⟩ := za0 (w := w4.drew) y5
 obtain ⟨b0, b1, b2, b3, b4, bz⟩ := za0 (w := w4.drew) y8
 obtain ⟨q0, q1, -, -⟩ := zao (w := w4.drew) ya
 obtain ⟨p0', p1', p2', p3', p4', pz'⟩ := za0 y5
 obtain ⟨b0', b1', b2', b3', b4', bz'⟩ := za0 y8
 obtain ⟨q0', q1', -, -⟩ := zao ya
 have fV := zb7 w4 (W.heap.size + 1) (.int .i64 ph1) (.int .u64 key1) (.int .i64 id1) (.int .i64 pc1) (.bool bad1)
 have lB := zac z8B
 have yaV := (fV.block _ (zac ya) (by omega)).trans ya
 have ymV := (fV.block _ (zac ym) (by omega)).trans ym
 obtain ⟨V, hV⟩ : ∃ Z, (((((w4.setCell ⟨W.heap.size + 1, 0, none⟩ (.int .i64 ph1)).setCell ⟨W.heap.size + 1, 1, none⟩ (.int .u64 key1)).setCell ⟨W.heap.size + 1, 2, none⟩ (.int .i64 id1)).setCell ⟨W.heap.size + 1, 3, none⟩ (.int .i64 pc1)).setCell ⟨W.heap.size + 1, 4, none⟩ (.bool bad1)) = Z := ⟨_, rfl⟩
 have HS := yyh (zbv y8 (.int .i64 ph1) (.int .u64 key1) (.int .i64 id1) (.int .i64 pc1) (.bool bad1))
 have HF := yyh (yyi (k7.box (zb7 w4 (W.heap.size + 1) (.int .i64 ph1) (.int .u64 key1) (.int .i64 id1) (.int .i64 pc1) (.bool bad1)) y8 (by decide) (by omega) m8) hm3)
 rw [hV] at yaV ymV HS HF
 obtain ⟨v0, v1, -, -⟩ := zao (w := V.drew) yaV
 have hlV := zfw (w := V.drew) ymV hE 2 r (by unfold zbl; decide) hr'.out hk'.out
 have nx1 : ¬ w1.heap.size = W.heap.size + 1 := by omega
 have nx2 : ¬ W.heap.size + 1 = w1.heap.size := by omega
 have hlk := zfw (w := w4.drew) ym hE 2 r (by unfold zbl; decide) hr'.out hk'.out
 clear k6 z5B z8B zaB m8 hlt hm3 hb4 ym y5 y8 ya k7 hw4 hE H4 H2 fV yaV ymV lB
 go_upto_region 13 with fail
 go_region
 all_goals
  go_wp2_with fail
  obtain ⟨e0, e1, e2, e3, e4, -⟩ := za0 (w := V.drew) HS.out
  refine bodyPost_ret (v := .tuple #[.agg #[.int .i64 ph1, .int .u64 key1, .int .i64 id1, .int .i64 pc1, .bool bad1], .int .i64 kd]) (by simp [results, Tryz.results59, go_sem, e0, e1, e2, e3, e4]) rfl ?_
  exact ⟨rfl, S3, HF.out.1.trans (zag.below HF.out.1.at_ (zaf yyr)), HF.out.2⟩
theorem zv6 (h : zal W A S N) (t : Nat) (ht : t < A.q.lp.length) (hq : (S.q.q A.q.k).Ok) (hf : (S.q.q A.q.k).fullAt t = true) (dr : Int) (key id pc : Int) (bad : Bool) : Calls Tryz.prog 59 #[.pointer (some ⟨A.cb, 0, none⟩), .agg #[.int .i64 0, .int .u64 key, .int .i64 id, .int .i64 pc, .bool bad], .int .i64 t, .int .u64 dr] W fun e w' => e = .returned (.tuple #[.agg #[.int .i64 0, .int .u64 key, .int .i64 id, .int .i64 pc, .bool bad], .int .i64 1]) ∧ ∃ S', zag W A S w' S' N ∧ S'.cm A = { S.cm A with q := (S.cm A).q.settle t } := by
 obtain ⟨W2, hW2⟩ : ∃ W2, (W.alloc (.cells #[.int .i64 0, .int .u64 key, .int .i64 id, .int .i64 pc, .bool bad] 123)).alloc (wkO wk0) = W2 := ⟨_, rfl⟩
 have hb2 : Below W.heap.size W W2 := by rw [← hW2]; exact zab (zab yyr _) _
 have x5 : W2.heap[W.heap.size]? = some (.cells #[.int .i64 0, .int .u64 key, .int .i64 id, .int .i64 pc, .bool bad] 123 (0, 0)) := by rw [← hW2]; exact zan (heap_alloc_new W _)
 have x8 : W2.heap[W.heap.size + 1]? = some (.cells #[.int .i64 0, .int .u64 0, .int .i64 0, .int .i64 0, .bool false] 123 (0, 0)) := by rw [← hW2]; exact zax (by simp)
 have HC := yyh (zmx (h.below hb2))
 have n5 : ¬ (cOS A S).own W.heap.size := fun e => by have := h.lt e; omega
 have n8 : ¬ (cOS A S).own (W.heap.size + 1) := fun e => by have := h.lt e; omega
 have l5 := zac x5
 have l8 := zac x8
 obtain ⟨s0, s1, s2, s3, s4, -⟩ := za0 x5
 have H := yyh (yyi h (yyi hb2 (yyi x5 (yyi x8 (yyi n5 (yyi n8 (yyi l5 l8)))))))
 have g0 : decide ((t : Int) < 0) = false := by rw [decide_eq_false_iff_not]; omega
 have g1 : decide ((t : Int) ≥ (A.q.lp.length : Int)) = false := by rw [decide_eq_false_iff_not]; omega
 have g2 : decide (A.q.lp.length ≤ t) = false := by rw [decide_eq_false_iff_not]; omega
 unfold wkO wk0 at hW2
 have HQ := yyh (yyi hq (yyi ht hf))
 clear hq ht hf
 clear h hb2 x5 x8 n5 n8 l5 l8
 go_enter Tryz.func59, Tryz.ntmps59
 go_wp2_with fail
 refine HC.out.mono ?_
 rintro e w1 ⟨rfl, hb1⟩
 obtain ⟨h, hb2, x5, x8, n5, n8, l5, l8⟩ := H.out
 have h1 := (h.below hb2).below hb1
 have y5 := (hb1.block _ l5).trans x5
 have y8 := (hb1.block _ l8).trans x8
 obtain ⟨a0, a1, a2, a3, a4, -⟩ := za0 y5
 have k1 : zag W A S w1 S N := zag.below h (zad hb1 hb2)
 have hcf := zek (.int .i64 A.q.lp.length) (.int .i64 A.q.k) (.int .i64 A.C) w1
 have HS := yyh (zmy h1 HQ.out.1 t HQ.out.2.1)
 rw [HQ.out.2.2] at HS
 have H1 := yyh (yyi k1 (yyi y5 (yyi y8 (yyi (yyi n5 n8) (yyi h1 (Nat.lt_of_lt_of_le l8 hb1.size))))))
 clear h hb2 x5 x8 n5 n8 h1 y5 y8 k1 hb1 l5 l8 s0 s1 s2 s3 s4
 go_wp2_with fail
 refine HS.out.mono ?_
 rintro e w2 ⟨rfl, s2, kS, hs2⟩
 clear a0 a1 a2 a3 a4
 obtain ⟨k1, y5, y8, ⟨n5, n8⟩, h1, l8⟩ := H1.out
 have z5 := zag.kept h1 kS n5 y5
 have z8 := zag.kept h1 kS n8 y8
 have m8 := zag.stays kS n8 (zac y8)
 have k2 := k1.trans kS
 have hcm : CS.cm A { S with q := s2 } = { S.cm A with q := (S.cm A).q.settle t } := by
  unfold CS.cm
  rw [hs2]
 obtain ⟨a0, a1, a2, a3, a4, -⟩ := za0 z5
 obtain ⟨b0, b1, b2, b3, b4, bz⟩ := za0 z8
 have HS := yyh (zbv z8 (.int .i64 0) (.int .u64 key) (.int .i64 id) (.int .i64 pc) (.bool bad))
 have HF := yyh (yyi (k2.box (zb7 w2 (W.heap.size + 1) (.int .i64 0) (.int .u64 key) (.int .i64 id) (.int .i64 pc) (.bool bad)) z8 (by decide) (by omega) m8) hcm)
 clear kS hs2 k1 y5 y8 n5 n8 h1 l8 z5 z8 m8 k2 hcm
 go_wp2_with fail
 obtain ⟨e0, e1, e2, e3, e4, -⟩ := za0 HS.out
 refine bodyPost_ret (v := .tuple #[.agg #[.int .i64 0, .int .u64 key, .int .i64 id, .int .i64 pc, .bool bad], .int .i64 1]) (by simp [results, Tryz.results59, go_sem, e0, e1, e2, e3, e4]) rfl ?_
 exact ⟨rfl, _, HF.out.1, HF.out.2⟩
end
structure MA where
 c : CA
 mp : Nat
 lb : Nat
structure MS where
 c : CS
 ws : List Wk
 did : List Int
 pk : Int
def wkF (w : Wk) : List Value := [.int .i64 w.ph, .int .u64 w.e.key, .int .i64 w.e.id, .int .i64 w.pc, .bool w.bad]
def wkC (l : List Wk) : List Value := l.flatMap wkF
def zhg (M : MA) (s : MS) : List Value := .pointer (some ⟨M.c.cb, 0, none⟩) :: .slice (some ⟨M.lb, 0, none⟩) s.ws.length s.ws.length :: (s.did.map (Value.int .i64) ++ [.int .i64 s.pk])
structure zaz (W : World) (M : MA) (s : MS) (N : Nat) : Prop where
 c : zal W M.c s.c N
 m : W.heap[M.mp]? = some (.cells (zhg M s).toArray 88 (0, 0))
 l : W.heap[M.lb]? = some (.cells (wkC s.ws).toArray 123 (0, 0))
 len : s.ws.length = M.c.q.lp.length
 did : s.did.length = 7
 nm : ¬ (cOS M.c s.c).own M.mp
 nl : ¬ (cOS M.c s.c).own M.lb
theorem zlz (l : List Wk) : (wkC l).length = 5 * l.length := by
 unfold wkC
 induction l with
 | nil => rfl
 | cons w l ih => rw [List.flatMap_cons, List.length_append, ih]; simp [wkF]; omega
theorem zfx (l : List Wk) (t : Nat) (w : Wk) (h : l[t]? = some w) (i : Nat) (hi : i < 5) : (wkC l)[5 * t + i]? = (wkF w)[i]? := by
 induction l generalizing t with
 | nil => simp at h
 | cons x l ih =>
  unfold wkC at *
  rw [List.flatMap_cons]
  cases t with
  | zero =>
   have h : x = w := by simpa using h
   subst h
   rw [Nat.mul_zero, Nat.zero_add, List.getElem?_append_left (by show i < 5; exact hi)]
  | succ t =>
   rw [List.getElem?_append_right (by show 5 ≤ _; omega)]
   have := ih t (by simpa using h)
   rw [← this]
   congr 1
   show 5 * (t + 1) + i - 5 = _
   omega
theorem zv7 (l : List Wk) (t : Nat) (ht : t < l.length) (w : Wk) : ((((((wkC l).set (5 * t) (.int .i64 w.ph)).set (5 * t + 1) (.int .u64 w.e.key)).set (5 * t + 2) (.int .i64 w.e.id)).set (5 * t + 3) (.int .i64 w.pc)).set (5 * t + 4) (.bool w.bad)) = wkC (l.set t w) := by
 apply List.ext_getElem?
 intro j
 by_cases hj : j < 5 * l.length
 ·
  obtain ⟨a, b, hb, rfl⟩ : ∃ a b, b < 5 ∧ j = 5 * a + b := ⟨j / 5, j % 5, Nat.mod_lt _ (by decide), by omega⟩
  have ha : a < l.length := by omega
  by_cases he : a = t
  · subst he
    rw [zfx (l.set a w) a w (by simp [ha]) b hb]
    rcases (show b = 0 ∨ b = 1 ∨ b = 2 ∨ b = 3 ∨ b = 4 by omega) with rfl | rfl | rfl | rfl | rfl <;> simp [List.getElem?_set, zlz, wkF] <;> omega
  · have h1 : (l.set t w)[a]? = some l[a] := by rw [List.getElem?_set_ne (by omega)]; simp [ha]
    rw [zfx (l.set t w) a _ h1 b hb, ← zfx l a _ (by simp [ha]) b hb]
    rw [List.getElem?_set_ne (by omega), List.getElem?_set_ne (by omega), List.getElem?_set_ne (by omega), List.getElem?_set_ne (by omega), List.getElem?_set_ne (by omega)]
 · rw [List.getElem?_eq_none (by simp [zlz]; omega), List.getElem?_eq_none (by simp [zlz]; omega)]
section
variable {W W' : World} {M : MA} {s s' : MS} {N N' : Nat}
theorem zaz.below (h : zaz W M s N) (hb : Below W.heap.size W W') : zaz W' M s N :=
 ⟨h.c.below hb, (hb.block _ (zac h.m)).trans h.m, (hb.block _ (zac h.l)).trans h.l, h.len, h.did, h.nm, h.nl⟩
theorem zaz.ne (h : zaz W M s N) : M.mp ≠ M.lb := fun e => by
 have h1 := h.m
 rw [e, h.l] at h1
 have := Option.some.inj h1
 injection this with a b c
 exact absurd b (by decide)
theorem zaz.cell (h : zaz W M s N) (i : Nat) : W.cell? ⟨M.mp, i, none⟩ = (zhg M s)[i]? := by
 rw [zaa h.m]; simp
theorem zaz.core (h : zaz W M s N) {S' : CS} (k : zag W M.c s.c W' S' N') : zaz W' M { s with c := S' } N' :=
 ⟨k.at_, zag.kept h.c k h.nm h.m, zag.kept h.c k h.nl h.l, h.len, h.did, zag.stays k h.nm (zac h.m), zag.stays k h.nl (zac h.l)⟩
theorem zec (h : zaz W M s N) : Calls Tryz.prog 11 #[.pointer (some ⟨M.mp, 0, none⟩)] W fun e w' => e = .returned (.pointer (some ⟨M.c.cb, 0, none⟩)) ∧ w' = W := by
 have c0 : W.cell? ⟨M.mp, 0, none⟩ = some (.pointer (some ⟨M.c.cb, 0, none⟩)) := by rw [h.cell]; rfl
 clear h
 go_enter Tryz.func11, Tryz.ntmps11
 go_wp2_with fail
 refine bodyPost_ret (v := .pointer (some ⟨M.c.cb, 0, none⟩)) (by simp [results, Tryz.results11, go_sem]) rfl ?_
 exact ⟨rfl, rfl⟩
end
structure PkS (M : MA) (T : Nat) (w : World) : Prop where
 c0 : w.cell? ⟨M.mp, 0, none⟩ = some (.pointer (some ⟨M.c.cb, 0, none⟩))
 c1 : w.cell? ⟨M.mp, 1, none⟩ = some (.slice (some ⟨M.lb, 0, none⟩) T T)
section
variable {W W' : World} {M : MA} {s s' : MS} {N N' : Nat}
theorem zaz.pkS (h : zaz W M s N) {T : Nat} (hT : s.ws.length = T) : PkS M T W := ⟨by rw [h.cell]; rfl, by rw [h.cell, ← hT]; rfl⟩
theorem zaz.row (h : zaz W M s N) {t : Nat} {w : Wk} (hw : s.ws[t]? = some w) : W.cell? ⟨M.lb, t * 5, none⟩ = some (.int .i64 w.ph) ∧ W.cell? ⟨M.lb, t * 5 + 1, none⟩ = some (.int .u64 w.e.key) ∧ W.cell? ⟨M.lb, t * 5 + 2, none⟩ = some (.int .i64 w.e.id) ∧ W.cell? ⟨M.lb, t * 5 + 3, none⟩ = some (.int .i64 w.pc) ∧ W.cell? ⟨M.lb, t * 5 + 4, none⟩ = some (.bool w.bad) ∧ ∀ i, W.frozen? ⟨M.lb, i, none⟩ = false := by
 have e : ∀ i, i < 5 → W.cell? ⟨M.lb, t * 5 + i, none⟩ = (wkF w)[i]? := fun i hi => by
  rw [zaa h.l, List.getElem?_toArray, Nat.mul_comm, zfx _ _ _ hw i hi]
 exact ⟨e 0 (by omega), e 1 (by omega), e 2 (by omega), e 3 (by omega), e 4 (by omega), fun i => za5 h.l⟩
theorem zm0 (w : World) (b o : Nat) (a0 a1 a2 a3 a4 : Value) : Fr (fun j => j = b) w (((((w.setCell ⟨b, o, none⟩ a0).setCell ⟨b, o + 1, none⟩ a1).setCell ⟨b, o + 2, none⟩ a2).setCell ⟨b, o + 3, none⟩ a3).setCell ⟨b, o + 4, none⟩ a4) := by
 have s : ∀ {w' : World} (h : Fr (fun j => j = b) w w') (i : Nat) (v : Value), Fr (fun j => j = b) w (w'.setCell ⟨b, i, none⟩ v) := fun h i v => Fr.set (S := fun j => j = b) h (p := ⟨b, i, none⟩) rfl v
 exact s (s (s (s (s (Fr.refl _ _) _ _) _ _) _ _) _ _) _ _
theorem zal.other {A : CA} {S : CS} (h : zal W A S N) {b : Nat} (f : Fr (fun j => j = b) W W') {c : Array Value} {t : TypeId} (hb : W.heap[b]? = some (.cells c t (0, 0))) (ht : t ≠ 63) (hno : ¬ (cOS A S).own b) : zal W' A S N := by
 have hn : NoE W (fun j => j = b) := NoE.of fun j hj => by
  have hj : j = b := hj
  rw [hj]
  exact ⟨_, hb, zbe ht⟩
 exact ⟨h.ps.keep f hn (fun j hj e => hno (by have e : j = b := e; rw [← e]; exact hj)), h.bnd⟩
theorem zaz.setRow (h : zaz W M s N) {t : Nat} (ht : t < s.ws.length) (w : Wk) : zaz (((((W.setCell ⟨M.lb, t * 5, none⟩ (.int .i64 w.ph)).setCell ⟨M.lb, t * 5 + 1, none⟩ (.int .u64 w.e.key)).setCell ⟨M.lb, t * 5 + 2, none⟩ (.int .i64 w.e.id)).setCell ⟨M.lb, t * 5 + 3, none⟩ (.int .i64 w.pc)).setCell ⟨M.lb, t * 5 + 4, none⟩ (.bool w.bad)) M { s with ws := s.ws.set t w } N := by
 have f := zm0 W M.lb (t * 5) (.int .i64 w.ph) (.int .u64 w.e.key) (.int .i64 w.e.id) (.int .i64 w.pc) (.bool w.bad)
 refine ⟨h.c.other f h.l (by decide) h.nl, ?_, ?_, by simp only [List.length_set]; exact h.len, h.did, h.nm, h.nl⟩
 · rw [f.block _ (zac h.m) h.ne, h.m]
   unfold zhg
   simp only [List.length_set]
 ·
  rw [zai (zai (zai (zai (zai h.l _) _) _) _) _]
  have := zv7 s.ws t ht w
  rw [Nat.mul_comm] at this
  rw [← this]
  simp only [List.setIfInBounds_toArray]
theorem zp8 {M : MA} {s : MS} {kd : Nat} {d : Int} (hd : s.did[kd]? = some d) : (zhg M s)[2 + kd]? = some (.int .i64 d) := by
 have hl : kd < s.did.length := (yyk.1 hd).1
 unfold zhg
 rw [Nat.add_comm 2 kd, List.getElem?_cons_succ, List.getElem?_cons_succ, List.getElem?_append_left (by simpa using hl), List.getElem?_map, hd]
 rfl
theorem zse {M : MA} {s : MS} (hl : s.did.length = 7) : (zhg M s)[9]? = some (.int .i64 s.pk) := by
 unfold zhg
 rw [List.getElem?_cons_succ, List.getElem?_cons_succ, List.getElem?_append_right (by simp [hl])]
 simp [hl]
theorem zto (h : zaz W M s N) {kd : Nat} {d : Int} (hd : s.did[kd]? = some d) : W.cell? ⟨M.mp, 2 + kd, none⟩ = some (.int .i64 d) ∧ (∀ i, W.frozen? ⟨M.mp, i, none⟩ = false) ∧ W.cell? ⟨M.mp, 9, none⟩ = some (.int .i64 s.pk) ∧ True := by
 refine ⟨?_, fun i => za5 h.m, ?_, trivial⟩
 · rw [h.cell]; exact zp8 hd
 · rw [h.cell]; exact zse h.did
theorem zaz.count (h : zaz W M s N) {kd : Nat} {d : Int} (hd : s.did[kd]? = some d) : zaz ((W.setCell ⟨M.mp, 2 + kd, none⟩ (.int .i64 (wrap64 (d + 1)))).setCell ⟨M.mp, 9, none⟩ (.int .i64 (wrap64 (s.pk + 1)))) M { s with did := s.did.set kd (wrap64 (d + 1)), pk := wrap64 (s.pk + 1) } N := by
 have hl : kd < s.did.length := (yyk.1 hd).1
 have h7 := h.did
 have f : Fr (fun j => j = M.mp) W ((W.setCell ⟨M.mp, 2 + kd, none⟩ (.int .i64 (wrap64 (d + 1)))).setCell ⟨M.mp, 9, none⟩ (.int .i64 (wrap64 (s.pk + 1)))) := Fr.set (S := fun j => j = M.mp) (Fr.set (S := fun j => j = M.mp) (Fr.refl _ _) (p := ⟨M.mp, 2 + kd, none⟩) rfl _) (p := ⟨M.mp, 9, none⟩) rfl _
 refine ⟨h.c.other f h.m (by decide) h.nm, ?_, (f.block _ (zac h.l) (fun e => h.ne e.symm)).trans h.l, h.len, by simp only [List.length_set]; exact h.did, h.nm, h.nl⟩
 rw [zai (zai h.m _) _]
 simp only [List.setIfInBounds_toArray]
 congr 3
 unfold zhg
 rw [Nat.add_comm 2 kd]
 simp only [List.set_cons_succ]
 congr 2
 rw [List.set_append_left _ _ (by simpa using hl), ← List.map_set, List.set_append_right _ _ (by simp [h7])]
 simp [h7]
theorem zsf (W : World) (b o : Nat) (u v : Value) : Fr (fun j => j = b) W ((W.setCell ⟨b, o, none⟩ u).setCell ⟨b, 9, none⟩ v) := Fr.set (S := fun j => j = b) (Fr.set (S := fun j => j = b) (Fr.refl _ _) (p := ⟨b, o, none⟩) rfl _) (p := ⟨b, 9, none⟩) rfl _
def zdp (M : MA) (s : MS) (j : Nat) : Prop := (cOS M.c s.c).own j ∨ j = M.mp ∨ j = M.lb
def mWr (M : MA) (s : MS) (j : Nat) : Prop := (cOS M.c s.c).wr j ∨ j = M.mp ∨ j = M.lb
theorem ze1 {M : MA} {s : MS} {j : Nat} (h : mWr M s j) : zdp M s j := by
 rcases h with ⟨c, hc, hw⟩ | h | h
 · exact .inl ⟨c, hc, c.sub _ hw⟩
 · exact .inr (.inl h)
 · exact .inr (.inr h)
structure za7 (W : World) (M : MA) (s : MS) (W' : World) (s' : MS) (N' : Nat) : Prop where
 at_ : zaz W' M s' N'
 fr : Fr (mWr M s) W W'
 own : ∀ j, zdp M s' j → zdp M s j ∨ W.heap.size ≤ j
 wr : ∀ j, mWr M s' j → mWr M s j ∨ W.heap.size ≤ j
theorem zkk {S1 : CS} {w4 X5 X6 X7 : World} {s5 : MS} (k : zag W M.c s.c w4 S1 N') (f5 : Fr (fun j => j = M.lb) w4 X5) (f6 : Fr (fun j => j = M.mp) X5 X6) (hb : Below X6.heap.size X6 X7) (h : zaz X7 M s5 N') (hs : s5.c = S1) : za7 W M s X7 s5 N' := by
 refine ⟨h, ⟨?_, ?_, ?_, ?_, ?_⟩, ?_, ?_⟩
 · exact ((hb.os.trans f6.os).trans f5.os).trans k.ps.fr.os
 · exact ((hb.tape.trans f6.tape).trans f5.tape).trans k.ps.fr.tape
 · exact ((hb.output.trans f6.output).trans f5.output).trans k.ps.fr.output
 · exact Nat.le_trans k.ps.fr.size (Nat.le_trans f5.size (Nat.le_trans f6.size hb.size))
 ·
  intro j hj hn
  have n1 : ¬ j = M.lb := fun e => hn (.inr (.inr e))
  have n2 : ¬ j = M.mp := fun e => hn (.inr (.inl e))
  have l4 := Nat.lt_of_lt_of_le hj k.ps.fr.size
  have l5 := Nat.lt_of_lt_of_le l4 f5.size
  have l6 := Nat.lt_of_lt_of_le l5 f6.size
  rw [hb.block j l6, f6.block j l5 n2, f5.block j l4 n1]
  exact k.ps.fr.block j hj (fun e => hn (.inl e))
 ·
  rintro j (hj | hj | hj)
  ·
   rw [hs] at hj
   rcases k.ps.own j hj with h | h
   · exact .inl (.inl h)
   · exact .inr h
  · exact .inl (.inr (.inl hj))
  · exact .inl (.inr (.inr hj))
 ·
  rintro j (hj | hj | hj)
  ·
   rw [hs] at hj
   rcases k.ps.wr j hj with h | h
   · exact .inl (.inl h)
   · exact .inr h
  · exact .inl (.inr (.inl hj))
  · exact .inl (.inr (.inr hj))
theorem zye (h : zaz W M s N) (p : Nat) (hp : (p : Int) ≤ top) (T t : Nat) (hT : s.ws.length = T) (hT0 : 0 < T) (hTt : T ≤ 64) (ht : p % T = t) (dr : Int) (w v : Wk) (hw : s.ws[t]? = some w) (kd : Nat) (hkd : kd < 7) {CM' : CM} (HS : ∀ V, Below W.heap.size W V → Calls Tryz.prog 59 #[.pointer (some ⟨M.c.cb, 0, none⟩), .agg #[.int .i64 w.ph, .int .u64 w.e.key, .int .i64 w.e.id, .int .i64 w.pc, .bool w.bad], .int .i64 t, .int .u64 dr] V fun e V' => e = .returned (.tuple #[.agg #[.int .i64 v.ph, .int .u64 v.e.key, .int .i64 v.e.id, .int .i64 v.pc, .bool v.bad], .int .i64 kd]) ∧ ∃ S', zag V M.c s.c V' S' N' ∧ S'.cm M.c = CM') : Calls Tryz.prog 24 #[.pointer (some ⟨M.mp, 0, none⟩), .int .u64 p, .int .u64 dr] W fun e w' => e = .returned (.int .i64 kd) ∧ ∃ s', za7 W M s w' s' N' ∧ s'.c.cm M.c = CM' ∧ s'.ws = s.ws.set t v ∧ s'.pk = wrap64 (s.pk + 1) := by
 obtain ⟨c0, c1⟩ := h.pkS hT
 have hd := h.below (zaf yyr)
 have HS3 := yyh (hd.pkS hT)
 obtain ⟨l0, l1, l2, l3, l4, lz⟩ := hd.row hw
 have htT : t < T := by rw [← ht]; exact Nat.mod_lt _ hT0
 have hm : ((p : Int) % (T : Int)) = (t : Int) := by rw [← ht]; omega
 have hwr : wrap64 (t : Int) = (t : Int) := by unfold wrap64; omega
 have htT' : (t : Int) < (T : Int) := by omega
 have H := yyh h
 have hw' := yyh hw
 have HSS := yyh (HS _ (zaf yyr))
 have HD := yyh hd
 have hT' := yyh hT
 clear h hd hT ht hp hw HS
 go_enter Tryz.func24, Tryz.ntmps24
 go_upto_region 3 with fail
 -- REGION 3 BEGIN
 refine wp_region_held_drew (S := PkS M T) (by kernel_rfl) HS3.out (fun hH => ?_)
 refine tq 0 ?_ rfl ?_ ?_
 rotate_left
 · (rintro w ⟨_, _⟩; go_simp; try with_reducible rfl)
 try simp only [List.getElem_toArray, List.getElem_cons_zero, List.getElem_cons_succ, Act.put, pA, pB, pC]
 refine tq 1 ?_ rfl ?_ ?_
 rotate_left
 · (rintro w ⟨_, _⟩; go_simp; try with_reducible rfl)
 try simp only [List.getElem_toArray, List.getElem_cons_zero, List.getElem_cons_succ, Act.put, pA, pB, pC]
 refine tq 2 ?_ rfl ?_ ?_
 rotate_left
 · (rintro w ⟨_, _⟩; go_simp; try with_reducible rfl)
 try simp only [List.getElem_toArray, List.getElem_cons_zero, List.getElem_cons_succ, Act.put, pA, pB, pC]
 refine tq 3 ?_ rfl ?_ ?_
 rotate_left
 · (rintro w ⟨_, _⟩; go_simp; try with_reducible rfl)
 try simp only [List.getElem_toArray, List.getElem_cons_zero, List.getElem_cons_succ, Act.put, pA, pB, pC]
 refine tq 4 ?_ rfl ?_ ?_
 rotate_left
 · (rintro w ⟨_, _⟩; go_simp; try with_reducible rfl)
 try simp only [List.getElem_toArray, List.getElem_cons_zero, List.getElem_cons_succ, Act.put, pA, pB, pC]
 refine tq 5 ?_ rfl ?_ ?_
 rotate_left
 · (rintro w ⟨_, _⟩; go_simp; try with_reducible rfl)
 try simp only [List.getElem_toArray, List.getElem_cons_zero, List.getElem_cons_succ, Act.put, pA, pB, pC]
 refine tq 6 ?_ rfl ?_ ?_
 rotate_left
 · (rintro w ⟨_, _⟩; go_simp; try with_reducible rfl)
 try simp only [List.getElem_toArray, List.getElem_cons_zero, List.getElem_cons_succ, Act.put, pA, pB, pC]
 refine tq 7 ?_ rfl ?_ ?_
 rotate_left
 · (rintro w ⟨_, _⟩; go_simp; try with_reducible rfl)
 try simp only [List.getElem_toArray, List.getElem_cons_zero, List.getElem_cons_succ, Act.put, pA, pB, pC]
 refine tq 8 ?_ rfl ?_ ?_
 rotate_left
 · (rintro w ⟨_, _⟩; go_simp; try with_reducible rfl)
 try simp only [List.getElem_toArray, List.getElem_cons_zero, List.getElem_cons_succ, Act.put, pA, pB, pC]
 refine tq 9 ?_ rfl ?_ ?_
 rotate_left
 · (rintro w ⟨_, _⟩; go_simp; try with_reducible rfl)
 try simp only [List.getElem_toArray, List.getElem_cons_zero, List.getElem_cons_succ, Act.put, pA, pB, pC]
 refine tq 10 ?_ rfl ?_ ?_
 rotate_left
 · (rintro w ⟨_, _⟩; go_simp; try with_reducible rfl)
 try simp only [List.getElem_toArray, List.getElem_cons_zero, List.getElem_cons_succ, Act.put, pA, pB, pC]
 refine tq 11 ?_ rfl ?_ ?_
 rotate_left
 · (rintro w ⟨_, _⟩; go_simp; try with_reducible rfl)
 try simp only [List.getElem_toArray, List.getElem_cons_zero, List.getElem_cons_succ, Act.put, pA, pB, pC]
 refine tq 12 ?_ rfl ?_ ?_
 rotate_left
 · (rintro w ⟨_, _⟩; go_simp; try with_reducible rfl)
 try simp only [List.getElem_toArray, List.getElem_cons_zero, List.getElem_cons_succ, Act.put, pA, pB, pC]
 refine tq 13 ?_ rfl ?_ ?_
 rotate_left
 · (rintro w ⟨_, _⟩; go_simp; try with_reducible rfl)
 try simp only [List.getElem_toArray, List.getElem_cons_zero, List.getElem_cons_succ, Act.put, pA, pB, pC]
 refine tq 14 ?_ rfl ?_ ?_
 rotate_left
 · (rintro w ⟨_, _⟩; go_simp; try with_reducible rfl)
 try simp only [List.getElem_toArray, List.getElem_cons_zero, List.getElem_cons_succ, Act.put, pA, pB, pC]
 refine tq 16 ?_ rfl ?_ ?_
 rotate_left
 · (rintro w ⟨_, _⟩; go_simp; try with_reducible rfl)
 try simp only [List.getElem_toArray, List.getElem_cons_zero, List.getElem_cons_succ, Act.put, pA, pB, pC]
 refine tq 17 ?_ rfl ?_ ?_
 rotate_left
 · (rintro w ⟨_, _⟩; go_simp; try with_reducible rfl)
 try simp only [List.getElem_toArray, List.getElem_cons_zero, List.getElem_cons_succ, Act.put, pA, pB, pC]
 refine rd 15 (by kernel_rfl) rfl (fun K hK => ?_)
 ·
  (go_simp)
  refine hK.out _ _ ?_ (fun hH => ?_)
  · (try dsimp only); (exact hH)
  clear hK K
  refine rd 18 (by kernel_rfl) rfl (fun K hK => ?_)
  ·
   (go_simp; go_at_call 59; refine HSS.out.mono ?_; rintro e w4 ⟨rfl, S1, k1, hm1⟩; have H1 := yyh (yyi (HD.out.core k1) (yyi hm1 k1)); clear k1 hm1 l0 l1 l2 l3 l4 lz; obtain ⟨l0, l1, l2, l3, l4, lz⟩ := H1.out.1.row hw'.out)
   refine hK.out _ _ ?_ (fun hH => ?_)
   · (try dsimp only); (exact H1.out.1.pkS hT'.out)
   clear hK K
   refine tq 19 ?_ rfl ?_ ?_
   rotate_left
   · (rintro w ⟨_, _⟩; go_simp; try with_reducible rfl)
   try simp only [List.getElem_toArray, List.getElem_cons_zero, List.getElem_cons_succ, Act.put, pA, pB, pC]
   refine tq 20 ?_ rfl ?_ ?_
   rotate_left
   · (rintro w ⟨_, _⟩; go_simp; try with_reducible rfl)
   try simp only [List.getElem_toArray, List.getElem_cons_zero, List.getElem_cons_succ, Act.put, pA, pB, pC]
   refine tq 21 ?_ rfl ?_ ?_
   rotate_left
   · (rintro w ⟨_, _⟩; go_simp; try with_reducible rfl)
   try simp only [List.getElem_toArray, List.getElem_cons_zero, List.getElem_cons_succ, Act.put, pA, pB, pC]
   refine tq 22 ?_ rfl ?_ ?_
   rotate_left
   · (rintro w ⟨_, _⟩; go_simp; try with_reducible rfl)
   try simp only [List.getElem_toArray, List.getElem_cons_zero, List.getElem_cons_succ, Act.put, pA, pB, pC]
   refine rd 23 (by kernel_rfl) rfl (fun K hK => ?_)
   ·
    (go_simp)
    refine hK.out _ _ ?_ (fun hH => ?_)
    · (try dsimp only); (exact (H1.out.1.setRow (by rw [hT'.out]; exact htT) v).pkS (by rw [List.length_set]; exact hT'.out))
    clear hK K
    refine rd 24 (by kernel_rfl) rfl (fun K hK => ?_)
    ·
     (go_simp)
     refine hK.out _ _ ?_ (fun hH => ?_)
     · (try dsimp only); (exact hH)
     clear hK K
     refine wpAnyH_done (by kernel_rfl) ?_ _
     have hM5 := H1.out.1.setRow (t := t) (by show t < s.ws.length; rw [hT'.out]; exact htT) v
     obtain ⟨X5, hX5⟩ : ∃ X, (((((w4.setCell ⟨M.lb, t * 5, none⟩ (.int .i64 v.ph)).setCell ⟨M.lb, t * 5 + 1, none⟩ (.int .u64 v.e.key)).setCell ⟨M.lb, t * 5 + 2, none⟩ (.int .i64 v.e.id)).setCell ⟨M.lb, t * 5 + 3, none⟩ (.int .i64 v.pc)).setCell ⟨M.lb, t * 5 + 4, none⟩ (.bool v.bad)) = X := ⟨_, rfl⟩
     have hF5 := zm0 w4 M.lb (t * 5) (.int .i64 v.ph) (.int .u64 v.e.key) (.int .i64 v.e.id) (.int .i64 v.pc) (.bool v.bad)
     rw [hX5] at hM5 hF5 ⊢
     have HF5 := yyh hF5
     obtain ⟨d, hdd⟩ : ∃ d, s.did[kd]? = some d := ⟨_, yyg (by rw [H.out.did]; exact hkd)⟩
     obtain ⟨d0, d0z, d1, d1z⟩ := zto hM5 hdd
     obtain ⟨b0, b0z, b1, b1z⟩ := zto (hM5.below (zaf yyr)) hdd
     have hk7 : (kd : Int) < 7 := by omega
     have HM5 := yyh hM5
     have HDD := yyh hdd
     clear hM5 hX5 hdd hF5 l0 l1 l2 l3 l4 lz hH HD HS3 HSS
     go_upto_region 4 with fail
     go_region
     all_goals
      go_wp2_with fail
      refine bodyPost_ret (v := .int .i64 kd) (by simp [results, Tryz.results24, go_sem]) rfl ?_
      exact ⟨rfl, _, zkk ((zag.below H.out.c (zaf yyr)).trans H1.out.2.2) HF5.out (zsf _ _ _ _ _) (zaf yyr) ((HM5.out.count HDD.out).below (zaf yyr)) rfl, H1.out.2.1, rfl, rfl⟩
 -- REGION 3 END
end
section
variable {W W' : World} {M : MA} {s s' : MS} {N N' : Nat}
theorem zyf (w : Wk) : Calls Tryz.prog 87 #[.agg #[.int .i64 w.ph, .int .u64 w.e.key, .int .i64 w.e.id, .int .i64 w.pc, .bool w.bad]] W fun e w' => e = .returned (.bool (w.ph == 0)) ∧ Below W.heap.size W w' := by
 go_enter Tryz.func87, Tryz.ntmps87
 go_wp2_with fail
 go_ret
 exact ⟨rfl, zab yyr _⟩
theorem zv8 (w : Wk) : Calls Tryz.prog 86 #[.agg #[.int .i64 w.ph, .int .u64 w.e.key, .int .i64 w.e.id, .int .i64 w.pc, .bool w.bad]] W fun e w' => e = .returned (.bool (!(w.ph == 0))) ∧ Below W.heap.size W w' := by
 obtain ⟨W1, hW1⟩ := yye (W.alloc (wkO w))
 have hb : Below W.heap.size W W1 := by rw [← hW1]; exact zab yyr _
 have x : W1.heap[W.heap.size]? = some (.cells #[.int .i64 w.ph, .int .u64 w.e.key, .int .i64 w.e.id, .int .i64 w.pc, .bool w.bad] 123 (0, 0)) := by rw [← hW1]; exact heap_alloc_new W _
 obtain ⟨s0, s1, s2, s3, s4, -⟩ := za0 x
 obtain ⟨q, hq⟩ : ∃ q, (w.ph == 0) = q := ⟨_, rfl⟩
 have HI := yyh (zyf (W := W1) w)
 rw [hq] at HI ⊢
 have HB := yyh hb
 unfold wkO at hW1
 clear x hq hb
 go_enter Tryz.func86, Tryz.ntmps86
 go_wp2_with fail
 refine HI.out.mono ?_
 rintro e w1 ⟨rfl, hb1⟩
 have HB1 := yyh (zad hb1 HB.out)
 clear hb1
 go_wp2_with fail
 go_ret
 exact ⟨rfl, HB1.out⟩
def zed (s : MS) : Bool := s.ws.all fun w => w.ph == 0
theorem zyg (h : zaz W M s N) (hl : s.ws.length ≤ 64) : Calls Tryz.prog 85 #[.slice (some ⟨M.lb, 0, none⟩) s.ws.length s.ws.length, .func (.func 86) #[] #[]] W fun e w' => e = .returned (.bool (!(zed s))) ∧ Below W.heap.size W w' := by
 refine (znf M.lb 0 s.ws.length s.ws.length (by omega) (by unfold maxLen; omega) (fun i j => (wkC s.ws).getD (5 * i + j) undef) ?_ (fun i => !((s.ws.getD i wk0).ph == 0)) 86 #[] (enters_of Tryz.func86 (by kernel_rfl) rfl) ?_).mono ?_
 ·
  intro i j hi hj
  have h1 := zfx s.ws i s.ws[i] (yyg hi) j hj
  have h2 : (wkF s.ws[i])[j]? = some ((wkF s.ws[i]).getD j undef) := by
   rw [yyd, yyg (by show j < 5; exact hj)]; rfl
  rw [zaa h.l, List.getElem?_toArray, Nat.zero_add, Nat.mul_comm i 5, h1, h2]
  show _ = some ((wkC s.ws).getD (5 * i + j) undef)
  rw [yyd (l := wkC s.ws), h1, h2]
  rfl
 ·
  intro Y i hY hi
  have hg : s.ws.getD i wk0 = s.ws[i] := by rw [yyd, yyg hi]; rfl
  have e : ∀ j (hj : j < 5), (wkC s.ws).getD (5 * i + j) undef = (wkF s.ws[i]).getD j undef := fun j hj => by
   rw [yyd, zfx s.ws i s.ws[i] (yyg hi) j hj, ← yyd]
  rw [e 0 (by omega), e 1 (by omega), e 2 (by omega), e 3 (by omega), e 4 (by omega), hg]
  exact zv8 s.ws[i]
 ·
  rintro e w' ⟨⟨r, rfl, hr⟩, hB⟩
  refine ⟨zid ?_, hB⟩
  rw [Bool.eq_iff_iff, hr]
  unfold zed
  simp only [Bool.not_eq_true', List.all_eq_false]
  constructor
  ·
   rintro ⟨i, hi, h⟩
   refine ⟨s.ws[i], List.getElem_mem _, ?_⟩
   rw [yyd, yyg hi] at h
   simpa using h
  ·
   rintro ⟨x, hx, h⟩
   obtain ⟨i, hi, rfl⟩ := List.getElem_of_mem hx
   refine ⟨i, hi, ?_⟩
   rw [yyd, yyg hi]
   simpa using h
theorem zp9 (h : zaz W M s N) (hl : s.ws.length ≤ 64) : Calls Tryz.prog 45 #[.pointer (some ⟨M.mp, 0, none⟩)] W fun e w' => e = .returned (.bool (zed s)) ∧ Below W.heap.size W w' := by
 obtain ⟨q, hq⟩ := yye (zed s)
 obtain ⟨T, hT⟩ := yye (s.ws.length)
 have HC := yyh (zyg h hl)
 rw [hq, hT] at HC
 rw [hq]
 obtain ⟨c0, c1⟩ := h.pkS hT
 clear h hq hT hl c0
 go_enter Tryz.func45, Tryz.ntmps45
 go_wp2_with fail
 refine HC.out.mono ?_
 rintro e w1 ⟨rfl, hb1⟩
 have HB1 := yyh hb1
 clear hb1
 go_wp2_with fail
 refine bodyPost_ret (v := .bool q) (by simp [results, Tryz.results45, go_sem]) rfl ?_
 exact ⟨rfl, HB1.out⟩
end
section
variable {W W' W2 : World} {M : MA} {s s' s2 : MS} {N N' N2 : Nat}
theorem za7.refl (h : zaz W M s N) : za7 W M s W s N := ⟨h, Fr.refl _ _, fun j hj => .inl hj, fun j hj => .inl hj⟩
theorem za7.below (h : zaz W M s N) (hb : Below W.heap.size W W') : za7 W M s W' s N := ⟨h.below hb, ⟨hb.os, hb.tape, hb.output, hb.size, fun j hj _ => hb.block j hj⟩, fun j hj => .inl hj, fun j hj => .inl hj⟩
theorem zl0 (h : zaz W M s N) {j : Nat} (hj : zdp M s j) : j < W.heap.size := by
 rcases hj with hj | rfl | rfl
 · exact h.c.lt hj
 · exact zac h.m
 · exact zac h.l
theorem za7.trans (a : za7 W M s W' s' N') (b : za7 W' M s' W2 s2 N2) : za7 W M s W2 s2 N2 := by
 refine ⟨b.at_, ⟨b.fr.os.trans a.fr.os, b.fr.tape.trans a.fr.tape, b.fr.output.trans a.fr.output, Nat.le_trans a.fr.size b.fr.size, fun j hj hn => ?_⟩, fun j hj => ?_, fun j hj => ?_⟩
 ·
  have n2 : ¬ mWr M s' j := fun e => by
   rcases a.wr j e with e | e
   · exact hn e
   · omega
  rw [b.fr.block j (Nat.lt_of_lt_of_le hj a.fr.size) n2, a.fr.block j hj hn]
 · rcases b.own j hj with e | e
   · exact a.own j e
   · exact .inr (Nat.le_trans a.fr.size e)
 · rcases b.wr j hj with e | e
   · exact a.wr j e
   · exact .inr (Nat.le_trans a.fr.size e)
theorem za7.kept (k : za7 W M s W' s' N') {j : Nat} {o : Obj} (hn : ¬ zdp M s j) (ho : W.heap[j]? = some o) : W'.heap[j]? = some o ∧ ¬ zdp M s' j := by
 have hl := zac ho
 refine ⟨(k.fr.block j hl (fun e => hn (ze1 e))).trans ho, fun e => ?_⟩
 rcases k.own j e with e | e
 · exact hn e
 · omega
end
section
variable {W : World}
theorem zv9 (a b c : Int) (T k C : Nat) (ha : bits .and .i64 a 7 = (T : Int)) (hb : bits .and .i64 b 15 = (k : Int)) (hc : bits .and .i64 c 63 = (C : Int)) (hT : T ≤ 7) (hC : C ≤ 63) : Calls Tryz.prog 33 #[.int .i64 a, .int .i64 b, .int .i64 c] W fun e w' => e = .returned (.agg #[.int .i64 ((T : Int) + 1), .int .i64 k, .int .i64 ((C : Int) + 1)]) ∧ Below W.heap.size W w' := by
 have w1 : wrap64 ((T : Int) + 1) = (T : Int) + 1 := by unfold wrap64; omega
 have w2 : wrap64 ((C : Int) + 1) = (C : Int) + 1 := by unfold wrap64; omega
 obtain ⟨W2, hW2⟩ := yye (W.alloc (.cells #[.int .i64 ((T : Int) + 1), .int .i64 k, .int .i64 ((C : Int) + 1)] 83))
 have x : W2.heap[W.heap.size]? = some (.cells #[.int .i64 ((T : Int) + 1), .int .i64 k, .int .i64 ((C : Int) + 1)] 83 (0, 0)) := by rw [← hW2]; exact heap_alloc_new W _
 have hb : Below W.heap.size W W2 := by rw [← hW2]; exact zab yyr _
 have HB := yyh hb
 have HX := yyh x
 have HW2 := yyh hW2
 clear x hW2 hb
 go_enter Tryz.func33, Tryz.ntmps33
 go_wp2_with fail
 rw [HW2.out]
 have e0 : W2.cell? ⟨W.heap.size, 0, none⟩ = some (.int .i64 ((T : Int) + 1)) := by rw [zaa HX.out]; rfl
 have e1 : W2.cell? ⟨W.heap.size, 1, none⟩ = some (.int .i64 k) := by rw [zaa HX.out]; rfl
 have e2 : W2.cell? ⟨W.heap.size, 2, none⟩ = some (.int .i64 ((C : Int) + 1)) := by rw [zaa HX.out]; rfl
 refine bodyPost_ret (v := .agg #[.int .i64 ((T : Int) + 1), .int .i64 k, .int .i64 ((C : Int) + 1)]) (by simp [results, Tryz.results33, go_sem, e0, e1, e2]) rfl ?_
 exact ⟨rfl, HB.out⟩
theorem zn2 (x : Int) : bits .and .i64 x 15 = x % 16 := zk2 4 (by decide) x
theorem ztp (a b c : Int) : ∃ T k C : Nat, 1 ≤ T ∧ T ≤ 8 ∧ k ≤ 15 ∧ 1 ≤ C ∧ C ≤ 64 ∧ (T : Int) = a % 8 + 1 ∧ (k : Int) = b % 16 ∧ (C : Int) = c % 64 + 1 ∧ ∀ W, Calls Tryz.prog 33 #[.int .i64 a, .int .i64 b, .int .i64 c] W fun e w' => e = .returned (.agg #[.int .i64 T, .int .i64 k, .int .i64 C]) ∧ Below W.heap.size W w' := by
 refine ⟨(a % 8).toNat + 1, (b % 16).toNat, (c % 64).toNat + 1, by omega, by omega, by omega, by omega, by omega, by omega, by omega, by omega, fun W => ?_⟩
 have := zv9 (W := W) a b c (a % 8).toNat (b % 16).toNat (c % 64).toNat (by rw [zgn]; omega) (by rw [zn2]; omega) (by rw [zm7]; omega) (by omega) (by omega)
 exact this
end
def CM.new (T k : Nat) : CM := ⟨⟨k, List.replicate T none, List.replicate T [], []⟩, false, 0, [], 0, false, []⟩
def NwS (b : Nat) (T k C : Nat) (w : World) : Prop := w.cell? ⟨b, 0, none⟩ = some (.int .i64 (T : Int)) ∧ w.cell? ⟨b, 1, none⟩ = some (.int .i64 (k : Int)) ∧ w.cell? ⟨b, 2, none⟩ = some (.int .i64 (C : Int))
theorem NwS.below {b T k C : Nat} {w w' : World} (h : NwS b T k C w) (hb : Below w.heap.size w w') : NwS b T k C w' := ⟨zae hb h.1, zae hb h.2.1, zae hb h.2.2⟩
theorem zsg {A : CA} {S : CS} {s0 s1 s2 s3 s4 s5 : Nat} (hq : ∀ j, zcx A.q S.q j → s0 ≤ j ∧ j < s1) (hc : ∀ j, zhw A.cc A.cm A.cg j → s1 ≤ j ∧ j < s2) (ht : ∀ j, (tOS A.t S.t).own j → s2 ≤ j ∧ j < s3) (hw : ∀ j, zi9 A.wp A.m1 A.m2 A.m3 j → s3 ≤ j ∧ j < s4) (hd : ∀ j, zdg A.dp A.pm A.nm j → s4 ≤ j ∧ j < s5) (hh : A.cb = s5) (he : S.evv.ownBlock = none) (l01 : s0 ≤ s1) (l12 : s1 ≤ s2) (l23 : s2 ≤ s3) (l34 : s3 ≤ s4) (l45 : s4 ≤ s5) : (zbu A S).Pairwise fun a b => ∀ j, a.os.own j → ¬ b.os.own j := by
 have xh : ∀ j, (PT.hdr A.cb (zlu A S)).os.own j → j = s5 := fun j h => by rw [← hh]; exact h
 have xq : ∀ j, (PT.queue A.q S.q).os.own j → s0 ≤ j ∧ j < s1 := hq
 have xw : ∀ j, (PT.wheel A.wp A.m1 A.m2 A.m3 0).os.own j → s3 ≤ j ∧ j < s4 := hw
 have xd : ∀ j, (PT.dag A.dp A.pm A.nm S.d).os.own j → s4 ≤ j ∧ j < s5 := hd
 have xc : ∀ j, (PT.cred A.cc A.cm A.cg A.C S.o S.m S.K).os.own j → s1 ≤ j ∧ j < s2 := hc
 have xt : ∀ j, (PT.tab A.t S.t).os.own j → s2 ≤ j ∧ j < s3 := ht
 have xe : ∀ j, ¬ (PT.evs S.evv S.evs).os.own j := fun j h => by
  have h : S.evv.ownBlock = some j := h
  rw [he] at h
  cases h
 unfold zbu
 simp only [List.pairwise_cons, List.mem_cons, List.not_mem_nil, or_false, List.Pairwise.nil, and_true, forall_eq_or_imp, forall_eq, false_imp_iff, implies_true]
 refine ⟨⟨?_, ?_, ?_, ?_, ?_, ?_⟩, ⟨?_, ?_, ?_, ?_, ?_⟩, ⟨?_, ?_, ?_, ?_⟩, ⟨?_, ?_, ?_⟩, ⟨?_, ?_⟩, ?_⟩
 all_goals (intro j a b)
 · have := xh j a; have := xq j b; omega
 · have := xh j a; have := xw j b; omega
 · have := xh j a; have := xd j b; omega
 · have := xh j a; have := xc j b; omega
 · have := xh j a; have := xt j b; omega
 · exact xe j b
 · have := xq j a; have := xw j b; omega
 · have := xq j a; have := xd j b; omega
 · have := xq j a; have := xc j b; omega
 · have := xq j a; have := xt j b; omega
 · exact xe j b
 · have := xw j a; have := xd j b; omega
 · have := xw j a; have := xc j b; omega
 · have := xw j a; have := xt j b; omega
 · exact xe j b
 · have := xd j a; have := xc j b; omega
 · have := xd j a; have := xt j b; omega
 · exact xe j b
 · have := xc j a; have := xt j b; omega
 · exact xe j b
 · exact xe j b
theorem zqa {W W1 w1 w2 w3 w4 w5 : World} {T k C : Nat} {qA : QA} {qs : QS} {tA : TA} {tS : TS} {wp m1 m2 m3 dp pm nm : Nat} {X : Prop} (hb1 : Below W.heap.size W W1)
 (h1 : QAt w1 qA qs ∧ qs.q qA.k = ⟨k, List.replicate T none, List.replicate T [], []⟩ ∧ qA.k = k ∧ qA.lp.length = T ∧ (∀ j, zcx qA qs j → W1.heap.size ≤ j) ∧ Below W1.heap.size W1 w1)
 (h2 : zet w2 (w2.heap.size - 1) (w1.heap.size + 1) w1.heap.size (C : Int) 0 0 0 ∧ Below w1.heap.size w1 w2)
 (h3 : zbx w3 tA tS ∧ tS.rows = [] ∧ tS.B = 0 ∧ (∀ j, (tOS tA tS).own j → w2.heap.size ≤ j) ∧ Below w2.heap.size w2 w3 ∧ X)
 (h4 : zk0 w4 wp m1 m2 m3 0 ∧ (∀ j, zi9 wp m1 m2 m3 j → w3.drew.heap.size ≤ j) ∧ Below w3.drew.heap.size w3.drew w4)
 (h5 : zcm w5 dp pm nm false ∧ (∀ j, zdg dp pm nm j → w4.heap.size ≤ j) ∧ Below w4.heap.size w4 w5) :
 ∃ A S, Ending.returned (.tuple #[.pointer (some ⟨w5.heap.size, 0, none⟩), .int .i64 0]) = .returned (.tuple #[.pointer (some ⟨A.cb, 0, none⟩), .int .i64 0]) ∧ zal (w5.alloc (.cells #[.int .i64 (T : Int), .int .i64 (k : Int), .int .i64 (C : Int), .pointer (some ⟨qA.qp, 0, none⟩), .pointer (some ⟨wp, 0, none⟩), .pointer (some ⟨dp, 0, none⟩), .pointer (some ⟨w2.heap.size - 1, 0, none⟩), .pointer (some ⟨tA.t, 0, none⟩), .int .u64 0, .bool false, .slice none 0 0, .slice none 0 0] 100)) A S 0 ∧ S.cm A = CM.new T k ∧ A.q.lp.length = T ∧ A.q.k = k ∧ A.C = C ∧ (∀ j, (cOS A S).own j → W.heap.size ≤ j) ∧ Below W.heap.size W (w5.alloc (.cells #[.int .i64 (T : Int), .int .i64 (k : Int), .int .i64 (C : Int), .pointer (some ⟨qA.qp, 0, none⟩), .pointer (some ⟨wp, 0, none⟩), .pointer (some ⟨dp, 0, none⟩), .pointer (some ⟨w2.heap.size - 1, 0, none⟩), .pointer (some ⟨tA.t, 0, none⟩), .int .u64 0, .bool false, .slice none 0 0, .slice none 0 0] 100)) := by
 obtain ⟨hq, hqm, hqk, hql, hqo, hbq⟩ := h1
 obtain ⟨hc, hbc⟩ := h2
 obtain ⟨ht, htr, htB, hto, hbt, -⟩ := h3
 obtain ⟨hw, hwo, hbw⟩ := h4
 obtain ⟨hd, hdo, hbd⟩ := h5
 obtain ⟨w6, hw6⟩ := yye (w5.alloc (.cells #[.int .i64 (T : Int), .int .i64 (k : Int), .int .i64 (C : Int), .pointer (some ⟨qA.qp, 0, none⟩), .pointer (some ⟨wp, 0, none⟩), .pointer (some ⟨dp, 0, none⟩), .pointer (some ⟨w2.heap.size - 1, 0, none⟩), .pointer (some ⟨tA.t, 0, none⟩), .int .u64 0, .bool false, .slice none 0 0, .slice none 0 0] 100))
 have hx : w6.heap[w5.heap.size]? = some (.cells #[.int .i64 (T : Int), .int .i64 (k : Int), .int .i64 (C : Int), .pointer (some ⟨qA.qp, 0, none⟩), .pointer (some ⟨wp, 0, none⟩), .pointer (some ⟨dp, 0, none⟩), .pointer (some ⟨w2.heap.size - 1, 0, none⟩), .pointer (some ⟨tA.t, 0, none⟩), .int .u64 0, .bool false, .slice none 0 0, .slice none 0 0] 100 (0, 0)) := by rw [← hw6]; exact heap_alloc_new w5 _
 have hb6 : Below w5.heap.size w5 w6 := by rw [← hw6]; exact zab yyr _
 rw [hw6]
 have e3 : w3.drew.heap.size = w3.heap.size := rfl
 have hb34 : Below w3.heap.size w3 w4 := zad hbw (zaf yyr)
 have b46 := zad hb6 hbd
 have b36 := zad b46 hb34
 have b26 := zad b36 hbt
 have b16 := zad b26 hbc
 have z1 := hbq.size
 have z2 := hbc.size
 have z3 := hbt.size
 have z4 := hb34.size
 have z5 := hbd.size
 have z0 := hb1.size
 let A : CA := ⟨w5.heap.size, qA, wp, m1, m2, m3, dp, pm, nm, w2.heap.size - 1, w1.heap.size + 1, w1.heap.size, tA, C⟩
 let S : CS := ⟨qs, false, 0, 0, 0, tS, 0, false, .slice none 0 0, []⟩
 have iq : ∀ j, zcx qA qs j → W1.heap.size ≤ j ∧ j < w1.heap.size := fun j hj => ⟨hqo j hj, hq.lt hj⟩
 have ic : ∀ j, zhw (w2.heap.size - 1) (w1.heap.size + 1) w1.heap.size j → w1.heap.size ≤ j ∧ j < w2.heap.size := fun j hj => by
  have h1 := hc.lt hj
  refine ⟨?_, h1⟩
  have h2 := hc.lt (j := w1.heap.size + 1) (.inr (.inl rfl))
  rcases hj with rfl | rfl | rfl
  · have := hc.cb
    have := hc.cg
    omega
  · omega
  · omega
 have it : ∀ j, (tOS tA tS).own j → w2.heap.size ≤ j ∧ j < w3.heap.size := fun j hj => ⟨hto j hj, ht.lt hj⟩
 have iw : ∀ j, zi9 wp m1 m2 m3 j → w3.heap.size ≤ j ∧ j < w4.heap.size := fun j hj => ⟨by have := hwo j hj; omega, hw.lt hj⟩
 have idd : ∀ j, zdg dp pm nm j → w4.heap.size ≤ j ∧ j < w5.heap.size := fun j hj => ⟨hdo j hj, hd.lt hj⟩
 have hdis := zsg (A := A) (S := S) iq ic it iw idd rfl rfl z1 z2 z3 z4 z5
 have hps : PTs w6 (zbu A S) := by
  refine ⟨fun c hc' => ?_, hdis⟩
  simp only [zbu, List.mem_cons, List.not_mem_nil, or_false] at hc'
  rcases hc' with rfl | rfl | rfl | rfl | rfl | rfl | rfl
  ·
   show w6.heap[w5.heap.size]? = some (.cells (zlu A S) _ (0, 0))
   rw [hx]
   show _ = some (Obj.cells #[.int .i64 ((qA.lp.length : Nat) : Int), .int .i64 (qA.k : Int), _, _, _, _, _, _, _, _, _, _] _ _)
   rw [hql, hqk]
  · exact hq.below b16
  · exact hw.below b46
  · exact hd.below hb6
  · exact hc.frE (Fr.of_below (S := fun _ => False) b26) (fun _ _ h => h)
  · exact ht.below b36
  · exact World.ownsRow_nil _ _ _ _
 refine ⟨A, S, rfl, ⟨hps, ⟨by show (0 : Int) ≤ 0; omega, by show tS.B ≤ 0; omega, by show 0 ≤ 0; omega, by show (0 : Int) ≤ 0; omega, by show (0 : Int) ≤ 0; omega⟩⟩, ?_, hql, hqk, rfl, fun j hj => ?_, zad b16 (zad hbq hb1)⟩
 · show (⟨qs.q qA.k, false, 0, tS.rows, 0, false, []⟩ : CM) = _
   rw [hqm, htr]
   rfl
 ·
  rw [zpz] at hj
  rcases hj with hj | hj | hj | hj | hj | hj | hj
  · have hj : j = w5.heap.size := hj
    omega
  · have := iq j hj; omega
  · have := iw j hj; omega
  · have := idd j hj; omega
  · have := ic j hj; omega
  · have := it j hj; omega
  · cases hj
theorem zzh (T k C : Nat) (h1 : 1 ≤ T) (h8 : T ≤ 8) (hk : k ≤ 16) (c1 : 1 ≤ C) (c64 : C ≤ 64) (W : World) : Calls Tryz.prog 65 #[.agg #[.int .i64 T, .int .i64 k, .int .i64 C]] W fun e w' => ∃ A S, e = .returned (.tuple #[.pointer (some ⟨A.cb, 0, none⟩), .int .i64 0]) ∧ zal w' A S 0 ∧ S.cm A = CM.new T k ∧ A.q.lp.length = T ∧ A.q.k = k ∧ A.C = C ∧ (∀ j, (cOS A S).own j → W.heap.size ≤ j) ∧ Below W.heap.size W w' := by
 obtain ⟨W1, hW1⟩ := yye (W.alloc (.cells #[.int .i64 T, .int .i64 k, .int .i64 C] 83))
 have hb1 : Below W.heap.size W W1 := by rw [← hW1]; exact zab yyr _
 have x1 : W1.heap[W.heap.size]? = some (.cells #[.int .i64 T, .int .i64 k, .int .i64 C] 83 (0, 0)) := by rw [← hW1]; exact heap_alloc_new W _
 have hS : NwS W.heap.size T k C W1 := ⟨by rw [zaa x1]; rfl, by rw [zaa x1]; rfl, by rw [zaa x1]; rfl⟩
 obtain ⟨s1, s2, s3⟩ := id hS
 have HQ := yyh (zy8 T k h1 h8 hk W1)
 have H := yyh (yyi hb1 hS)
 have HC := yyh (fun w => zuc (C : Int) (by omega) (by omega) w)
 clear hb1 x1 hS h1 h8 hk c1 c64
 go_enter Tryz.func65, Tryz.ntmps65
 go_wp2_with fail
 refine HQ.out.mono ?_
 rintro e w1 ⟨qA, qs, rfl, hq, hqm, hqk, hql, hqo, hbq⟩
 obtain ⟨t1, t2, t3⟩ := H.out.2.below hbq
 have H1 := yyh (yyi hq (yyi hqm (yyi hqk (yyi hql (yyi hqo hbq)))))
 clear hq hqm hqk hql hqo hbq
 go_wp2_with fail
 refine (HC.out _).mono ?_
 rintro e w2 ⟨rfl, hc, hbc⟩
 have H2 := yyh (yyi hc hbc)
 have HT := yyh (zzf w2)
 clear hc hbc
 go_wp2_with fail
 refine HT.out.mono ?_
 rintro e w3 ⟨tA, tS, rfl, ht, htr, htB, hto, hbt⟩
 have hb3 : Below W1.heap.size W1 w3 := zad hbt (zad H2.out.2 H1.out.2.2.2.2.2)
 have hs3 := H.out.2.below (zaf hb3)
 have HS3 := yyh hs3
 have H3 := yyh (yyi ht (yyi htr (yyi htB (yyi hto (yyi hbt hb3)))))
 clear ht htr htB hto hbt hb3 hs3
 go_upto_region 10 with fail
 -- REGION 10 BEGIN
 refine wp_region_held_drew (S := NwS W.heap.size T k C) (by kernel_rfl) HS3.out (fun hH => ?_)
 refine tq 0 ?_ rfl ?_ ?_
 rotate_left
 · (rintro w ⟨_, _, _⟩; go_simp; try with_reducible rfl)
 try simp only [Act.put, pA, pB, pC]
 refine tq 1 ?_ rfl ?_ ?_
 rotate_left
 · (rintro w ⟨_, _, _⟩; go_simp; try with_reducible rfl)
 try simp only [Act.put, pA, pB, pC]
 refine tq 4 ?_ rfl ?_ ?_
 rotate_left
 · (rintro w ⟨_, _, _⟩; go_simp; try with_reducible rfl)
 try simp only [Act.put, pA, pB, pC]
 refine tq 5 ?_ rfl ?_ ?_
 rotate_left
 · (rintro w ⟨_, _, _⟩; go_simp; try with_reducible rfl)
 try simp only [Act.put, pA, pB, pC]
 refine rd 2 (by kernel_rfl) rfl (fun K hK => ?_)
 ·
  (go_simp; go_at_call 113; refine (zx1 _).mono ?_; rintro e w4 ⟨wp, m1, m2, m3, rfl, hw4, hwo, hb4⟩; have H4 := yyh (yyi hw4 (yyi hwo hb4)); clear hw4 hwo hb4)
  refine hK.out _ _ ?_ (fun hH => ?_)
  · (try dsimp only); (exact HS3.out.below H4.out.2.2)
  clear hK K
  refine rd 3 (by kernel_rfl) rfl (fun K hK => ?_)
  ·
   (go_simp; go_at_call 114; refine (zy9 _).mono ?_; rintro e w5 ⟨dp, pm, nm, rfl, hd5, hdo, hb5⟩; have H5 := yyh (yyi hd5 (yyi hdo hb5)); clear hd5 hdo hb5)
   refine hK.out _ _ ?_ (fun hH => ?_)
   · (try dsimp only); (exact hH.below H5.out.2.2)
   clear hK K
   refine tq 6 ?_ rfl ?_ ?_
   rotate_left
   · (rintro w ⟨_, _, _⟩; go_simp; try with_reducible rfl)
   try simp only [Act.put, pA, pB, pC]
   refine rd 7 (by kernel_rfl) rfl (fun K hK => ?_)
   ·
    (go_simp)
    refine hK.out _ _ ?_ (fun hH => ?_)
    · (try dsimp only); (exact hH.below (zab yyr _))
    clear hK K
    refine rd 8 (by kernel_rfl) rfl (fun K hK => ?_)
    ·
     (go_simp)
     refine hK.out _ _ ?_ (fun hH => ?_)
     · (try dsimp only); (exact hH)
     clear hK K
     refine rd 9 (by kernel_rfl) rfl (fun K hK => ?_)
     ·
      (go_simp)
      refine hK.out _ _ ?_ (fun hH => ?_)
      · (try dsimp only); (exact hH)
      clear hK K
      refine wpAnyH_done (by kernel_rfl) ?_ _
      go_wp2_with fail
      refine bodyPost_ret (results_tmp2 rfl _ _ _) rfl ?_
      exact zqa H.out.1 H1.out H2.out H3.out H4.out H5.out
 -- REGION 10 END
end Go.Proofs.YtcfhkbcllijnkaaGreat
