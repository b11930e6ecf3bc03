/- Parts of the proof of TopOnce, under no condition. -/
import Derived.Test.YtcfhkbcllijnkaaGreatZTopOnceau
import Derived.Test.YtcfhkbcllijnkaaGreatZTopOncebi
set_option linter.unusedVariables false
set_option linter.unusedSimpArgs false
set_option maxRecDepth 100000
set_option maxHeartbeats 0
namespace Go.Proofs.YtcfhkbcllijnkaaGreat
open Go.RowKit Go.Maps Go.Proofs.YtcfhkbcllijnkaaGreatW.PrintWords
theorem zhc : Keyed Tryz.prog 139 := Keyed.of_law (deep_law_laid zdt (m := 2) (by decide) (of_decide_eq_true (by kernel_rfl)) (by kernel_rfl) (by kernel_rfl))
theorem zvr : Go.WideMaps.ArrKey Tryz.prog 139 3 2 := ⟨by kernel_rfl, by kernel_rfl, by kernel_rfl, by kernel_rfl⟩
theorem zmv (a b : Int) (ha : zbl a) (hb : zbl b) : ∃ l, keyOf Tryz.prog 139 (pk a b) = some l :=
 ⟨_, Go.WideMaps.keyOf_pair zvr Tryz.underlying3 ⟨_, rfl⟩ ha hb⟩
theorem zdf : Keyed Tryz.prog 3 := int_keyed Tryz.underlying3
theorem zlr (a : Int) (ha : zbl a) : keyOf Tryz.prog 3 (.int .i64 a) = some (.int .i64 a) := keyOf_int_mk Tryz.underlying3 ha
theorem zvs (w : World) : (zeroValue 4).run Tryz.prog w = .ok (.bool false) w := by kernel_rfl
structure zcm (W : World) (dp pm nm : Nat) (d : Bool) : Prop where
 hdr : W.heap[dp]? = some (.cells #[.map (some pm), .map (some nm)] 138 (0, 0))
 pairs : ∃ b ck, W.heap[pm]? = some (.map (if d then #[{ key := pk 1 2, val := .bool true, born := b }] else #[]) ck) ∧ (d = true → b < ck)
 num : ∃ b ck, W.heap[nm]? = some (.map (if d then #[{ key := .int .i64 2, val := .int .i64 1, born := b }] else #[]) ck)
 ne : pm ≠ nm
def zdg (dp pm nm : Nat) (j : Nat) : Prop := j = dp ∨ j = pm ∨ j = nm
section
variable {W W' : World} {dp pm nm : Nat} {d : Bool}
theorem zcm.frE {S : Nat → Prop} (h : zcm W dp pm nm d) (f : Fr S W W') (hS : ∀ j, zdg dp pm nm j → ¬ S j) : zcm W' dp pm nm d := by
 obtain ⟨b, ck, h1, h2⟩ := h.pairs
 obtain ⟨b', ck', h3⟩ := h.num
 exact ⟨(f.block _ (zac h.hdr) (hS _ (.inl rfl))).trans h.hdr, ⟨b, ck, (f.block _ (zac h1) (hS _ (.inr (.inl rfl)))).trans h1, h2⟩, ⟨b', ck', (f.block _ (zac h3) (hS _ (.inr (.inr rfl)))).trans h3⟩, h.ne⟩
theorem zcm.below (h : zcm W dp pm nm d) (hb : Below W.heap.size W W') : zcm W' dp pm nm d := h.frE (Fr.of_below (S := fun _ => False) hb) (fun _ _ h => h)
theorem zcm.lt (h : zcm W dp pm nm d) {j : Nat} (hj : zdg dp pm nm j) : j < W.heap.size := by
 obtain ⟨b, ck, h1, h2⟩ := h.pairs
 obtain ⟨b', ck', h3⟩ := h.num
 rcases hj with rfl | rfl | rfl
 · exact zac h.hdr
 · exact zac h1
 · exact zac h3
theorem zcm.noE (h : zcm W dp pm nm d) : NoE W (zdg dp pm nm) := by
 obtain ⟨b, ck, h1, h2⟩ := h.pairs
 obtain ⟨b', ck', h3⟩ := h.num
 refine NoE.of fun j hj => ?_
 rcases hj with rfl | rfl | rfl
 · exact ⟨_, h.hdr, zbe⟩
 · exact ⟨_, h1, zf3⟩
 · exact ⟨_, h3, zf3⟩
def PT.dag (dp pm nm : Nat) (d : Bool) : PT := ⟨fun W => zcm W dp pm nm d, OS.one (zdg dp pm nm), fun j h => h, fun h hj => h.lt hj, fun h => h.noE, fun h f _ hd => h.frE f hd⟩
end
theorem zy9 (W : World) : Calls Tryz.prog 114 #[] W fun e w' => ∃ dp pm nm, e = .returned (.pointer (some ⟨dp, 0, none⟩)) ∧ zcm w' dp pm nm false ∧ (∀ j, zdg dp pm nm j → W.heap.size ≤ j) ∧ Below W.heap.size W w' := by
 have hm1 : ∀ w, (Instr.makeMap 135 none).run Tryz.prog w = .ok (.map (some w.heap.size)) (w.alloc (.map #[] 0)) := fun _ => by rfl
 have hm2 : ∀ w, (Instr.makeMap 136 none).run Tryz.prog w = .ok (.map (some w.heap.size)) (w.alloc (.map #[] 0)) := fun _ => by rfl
 go_enter Tryz.func114, Tryz.ntmps114
 go_wp2_with fail
 go_ret
 have hb : Below W.heap.size W (((W.alloc (.map #[] 0)).alloc (.map #[] 0)).alloc (.cells #[.map (some W.heap.size), .map (some (W.heap.size + 1))] 138)) := zab (zab (zab yyr _) _) _
 refine ⟨W.heap.size + 1 + 1, W.heap.size, W.heap.size + 1, rfl, ⟨zax (by simp), ⟨0, 0, zan (zan (heap_alloc_new W _)), fun h => by cases h⟩, ⟨0, 0, zan (zax (by simp))⟩, by omega⟩, ?_, hb⟩
 rintro j (rfl | rfl | rfl) <;> omega
theorem zza (mb : Nat) (f : Value) (ck : Nat) (W : World) (hm : W.heap[mb]? = some (.map #[] ck)) : Calls Tryz.prog 211 #[.map (some mb), f] W fun e w' => e = .returned (.tuple #[]) ∧ Below W.heap.size W w' := by
 have hr := run_range_map (P := Tryz.prog) W 135 _ _ mb #[] ck Tryz.underlying135 hm
 have hb : Below W.heap.size W (W.alloc (.mapIter (some mb) ck #[] ck)) := zab yyr _
 have hn : ∀ ty, (Instr.next (.pointer (some ⟨W.heap.size, 0, none⟩)) false ty).run Tryz.prog (W.alloc (.mapIter (some mb) ck #[] ck)) = .ok (.tuple #[.bool false]) (W.alloc (.mapIter (some mb) ck #[] ck)) := fun ty => zrk _ ty (heap_alloc_new W _) ((hb.block _ (zac hm)).trans hm) (fun x hx => by simp at hx) yyn (fun x hx => by simp at hx)
 have HB := yyh hb
 clear hb
 go_enter Tryz.func211, Tryz.ntmps211
 go_wp2_with fail
 refine wp_loop_rounds 1 ?_
 rw [rounds_succ]
 go_wp2_with fail
 go_end0
 exact ⟨rfl, HB.out⟩
theorem zvt {W : World} {dp pm nm : Nat} (h : zcm W dp pm nm false) (id at_ : Int) : Calls Tryz.prog 210 #[.pointer (some ⟨dp, 0, none⟩), .int .i64 id, .int .i64 at_] W fun e w' => e = .returned (.slice none 0 0) ∧ Below W.heap.size W w' := by
 obtain ⟨b, ck, hm, -⟩ := h.pairs
 have hm : W.heap[pm]? = some (.map #[] ck) := hm
 have c0 : W.cell? ⟨dp, 0, none⟩ = some (.map (some pm)) := zaa h.hdr
 have hr := run_range_map (P := Tryz.prog) W 135 _ _ pm #[] ck Tryz.underlying135 hm
 have hb : Below W.heap.size W (W.alloc (.mapIter (some pm) ck #[] ck)) := zab yyr _
 have hn : ∀ ty, (Instr.next (.pointer (some ⟨W.heap.size, 0, none⟩)) false ty).run Tryz.prog (W.alloc (.mapIter (some pm) ck #[] ck)) = .ok (.tuple #[.bool false]) (W.alloc (.mapIter (some pm) ck #[] ck)) := fun ty => zrk _ ty (heap_alloc_new W _) ((hb.block _ (zac hm)).trans hm) (fun x hx => by simp at hx) yyn (fun x hx => by simp at hx)
 have HB := yyh hb
 have HS := yyh (zij (a := none) (cap := 0) 0 (by omega) (W.alloc (.mapIter (some pm) ck #[] ck)))
 have HC := yyh (zfo (SlV.nil (W.alloc (.mapIter (some pm) ck #[] ck)) 3 1))
 clear h hb hm
 go_enter Tryz.func210, Tryz.ntmps210
 go_wp2_with fail
 refine wp_loop_rounds 1 ?_
 rw [rounds_succ]
 go_wp2_with fail
 refine HS.out.mono ?_
 rintro e w' ⟨rfl, rfl⟩
 go_wp2_with fail
 refine HC.out.mono ?_
 rintro e w' ⟨v', rfl, hv, ho, rfl⟩
 have hv' : v' = .slice none 0 0 := by
  rcases hv.form with ⟨h, -⟩ | ⟨b, off, cap, h, -⟩
  · exact h
  · rw [h] at ho
    cases ho
 subst hv'
 clear hv ho
 go_wp2_with fail
 go_ret
 exact ⟨rfl, HB.out⟩
section
variable {W W' : World} {dp pm nm : Nat} {d : Bool}
theorem zvu (h : zcm W dp pm nm true) : Calls Tryz.prog 210 #[.pointer (some ⟨dp, 0, none⟩), .int .i64 1, .int .i64 0] W fun e w' => ∃ v, e = .returned v ∧ SlV w' 3 1 v 1 [.int .i64 2] ∧ (∀ c, v.ownBlock = some c → W.heap.size ≤ c) ∧ Below W.heap.size W w' := by
 obtain ⟨b, ck, hm, hlt⟩ := h.pairs
 have hlt := hlt rfl
 have hm : W.heap[pm]? = some (.map #[{ key := pk 1 2, val := .bool true, born := b }] ck) := hm
 have c0 : W.cell? ⟨dp, 0, none⟩ = some (.map (some pm)) := zaa h.hdr
 have hr := run_range_map (P := Tryz.prog) W 135 _ _ pm _ ck Tryz.underlying135 hm
 have hb : Below W.heap.size W (W.alloc (.mapIter (some pm) ck #[] ck)) := zab yyr _
 obtain ⟨w1, hw1, hnx⟩ := next1 (P := Tryz.prog) (W.alloc (.mapIter (some pm) ck #[] ck)) 0 (heap_alloc_new W _) ((hb.block _ (zac hm)).trans hm) hlt yyn
 obtain ⟨X, hX⟩ := yye (World.setBlk w1 W.heap.size (.mapIter (some pm) ck #[b] ck))
 have hw1b : Below W.heap.size W w1 := by rcases hw1 with rfl | rfl; exact hb; exact zaf hb
 have hw1i : w1.heap[W.heap.size]? = some (.mapIter (some pm) ck #[] ck) := by rcases hw1 with rfl | rfl <;> exact heap_alloc_new W _
 have hXb : Below W.heap.size W X := by
  rw [← hX]
  refine ⟨hw1b.os, hw1b.tape, hw1b.output, by rw [zbj]; exact hw1b.size, fun k hk => ?_⟩
  rw [zar _ _ _ _ (by omega)]
  exact hw1b.block k hk
 have hXi : X.heap[W.heap.size]? = some (.mapIter (some pm) ck #[b] ck) := by rw [← hX]; exact zbs _ _ _ _ hw1i
 have hXm : X.heap[pm]? = some (.map #[{ key := pk 1 2, val := .bool true, born := b }] ck) := (hXb.block _ (zac hm)).trans hm
 rw [hX] at hnx
 have hnx' : (Instr.next (.pointer (some ⟨W.heap.size, 0, none⟩)) false 0).run Tryz.prog (W.alloc (.mapIter (some pm) ck #[] ck)) = .ok (.tuple #[.bool true, .agg #[.int .i64 1, .int .i64 2], .bool true]) X := hnx
 have hen : (Instr.entry (.pointer (some ⟨W.heap.size, 0, none⟩))).run Tryz.prog X = .ok (.tuple #[.agg #[.int .i64 1, .int .i64 2], .bool true]) X := run_entry_at (P := Tryz.prog) X W.heap.size pm ck #[] _ ck { key := pk 1 2, val := .bool true, born := b } hXi hXm (by simp) (by simp)
 obtain ⟨X2, hX2⟩ : ∃ X2, (X.alloc (.cells #[.int .i64 1, .int .i64 2] 139)) = X2 := ⟨_, rfl⟩
 have hX2b : Below X.heap.size X X2 := by rw [← hX2]; exact zab yyr _
 have x2 : X2.heap[X.heap.size]? = some (.cells #[.int .i64 1, .int .i64 2] 139 (0, 0)) := by rw [← hX2]; exact heap_alloc_new X _
 obtain ⟨y0, y1, -, -⟩ := zao x2
 clear hnx hX hw1 hw1b hw1i hm h
 have HX := yyh (yyi hXb (yyi hXi (yyi hXm (yyi hX2b hlt))))
 clear hXb hXi hXm hX2b hb hlt
 obtain ⟨i0, hi0, hz0, hz1, hz2⟩ := info_parts zfp
 go_enter Tryz.func210, Tryz.ntmps210
 have HGE := yyh (show W.heap.size ≤ (X2.alloc (.cells #[.int .i64 2] 3)).heap.size from by
  have s1 := HX.out.1.size
  have s2 := HX.out.2.2.2.1.size
  simp
  omega)
 go_wp2_with fail
 refine wp_loop_rounds 2 ?_
 rw [rounds_succ]
 go_wp2_with (at_builtin; refine wpList_append_own_at _ rfl (.tmp 23) (.tmp 28) 33 rfl W.heap.size 3 i0 zue 1 8 Tryz.underlying33 hi0 hz0 hz1 hz2 rfl (by decide) (.slice none 0 0) 0 [] rfl (World.ownsRow_nil _ _ _ _) ⟨X2.heap.size, 0, none⟩ 1 1 [.int .i64 2] rfl rfl (cell_one_new _ _ _) (fun u hu => by simp at hu; subst hu; rfl) (by unfold maxLen; omega) (by omega) HGE.out ?_; intro v' w3 hown3 hg3 hnil3 hblk3; obtain ⟨a3, cap3, rfl, -⟩ := SlV.clip (SlV.of_owns hown3); have H3 := yyh (yyi hown3 (yyi hg3 hblk3)); clear hown3 hg3 hnil3 hblk3)
 have hB3 : Below W.heap.size W w3 ∧ w3.heap[W.heap.size]? = some (.mapIter (some pm) ck #[b] ck) ∧ w3.heap[pm]? = some (.map #[{ key := pk 1 2, val := .bool true, born := b }] ck) := by
  obtain ⟨hXb, hXi, hXm, hX2b, hlt⟩ := HX.out
  have hg := Below.refl X2.heap.size X2
  have h4 : Below X2.heap.size X2 (X2.alloc (.cells #[.int .i64 2] 3)) := zab hg _
  have h5 : Below (X2.alloc (.cells #[.int .i64 2] 3)).heap.size (X2.alloc (.cells #[.int .i64 2] 3)) w3 := ⟨H3.out.2.1.os, H3.out.2.1.tape, H3.out.2.1.output, H3.out.2.1.size, fun k hk => H3.out.2.1.block k hk (fun e => by cases e)⟩
  have h6 : Below X.heap.size X w3 := zad h5 (zad h4 hX2b)
  exact ⟨zad h6 hXb, (h6.block _ (zac hXi)).trans hXi, (h6.block _ (zac hXm)).trans hXm⟩
 have hn3 : ∀ ty, (Instr.next (.pointer (some ⟨W.heap.size, 0, none⟩)) false ty).run Tryz.prog w3 = .ok (.tuple #[.bool false]) w3 := fun ty => zrk _ ty hB3.2.1 hB3.2.2 (fun x hx => by
  have e : x = { key := pk 1 2, val := .bool true, born := b } := by simpa using hx
  rw [e]
  exact HX.out.2.2.2.2) yyn (fun x hx => by
  have e : x = { key := pk 1 2, val := .bool true, born := b } := by simpa using hx
  rw [e]
  simp)
 have hs3 : SlV w3 3 1 (.slice a3 (0 + 1) cap3) 1 [.int .i64 2] := by
  have := SlV.of_owns H3.out.1
  simpa using this
 have HS := yyh (zij (a := a3) (cap := cap3) 1 yyn w3)
 have HC := yyh (zfo hs3)
 have HB3 := yyh hB3.1
 clear hB3 hs3
 rw [rounds_succ]
 go_wp2_with fail
 refine HS.out.mono ?_
 rintro e w' ⟨rfl, rfl⟩
 go_wp2_with fail
 refine HC.out.mono ?_
 rintro e w' ⟨v', rfl, hv, ho, rfl⟩
 have HE := yyh (yyi hv ho)
 clear hv ho
 go_wp2_with fail
 go_ret
 refine ⟨v', rfl, HE.out.1, fun c hc => ?_, HB3.out⟩
 rw [HE.out.2] at hc
 rcases H3.out.1.2 with ⟨h, -⟩ | ⟨g, cap, cur, h, hbg, -⟩
 · rw [h] at hc; cases hc
 ·
  rw [h] at hc
  injection hc with hc
  rw [← hc]
  exact hbg
theorem zpp (h : zcm W dp pm nm false) (id : Int) : Calls Tryz.prog 152 #[.pointer (some ⟨dp, 0, none⟩), .int .i64 id] W fun e w' => e = .returned (.slice none 0 0) ∧ Below W.heap.size W w' := by
 have H := yyh (zvt h id 0)
 clear h
 go_enter Tryz.func152, Tryz.ntmps152
 go_wp2_with fail
 refine H.out.mono ?_
 rintro e w' ⟨rfl, hB⟩
 have HB := yyh hB
 clear hB
 go_wp2_with fail
 go_ret
 exact ⟨rfl, HB.out⟩
theorem zpq (h : zcm W dp pm nm true) : Calls Tryz.prog 152 #[.pointer (some ⟨dp, 0, none⟩), .int .i64 1] W fun e w' => ∃ v, e = .returned v ∧ SlV w' 3 1 v 1 [.int .i64 2] ∧ (∀ c, v.ownBlock = some c → W.heap.size ≤ c) ∧ Below W.heap.size W w' := by
 have H := yyh (zvu h)
 clear h
 go_enter Tryz.func152, Tryz.ntmps152
 go_wp2_with fail
 refine H.out.mono ?_
 rintro e w' ⟨v, rfl, hB⟩
 have HB := yyh hB
 clear hB
 go_wp2_with fail
 go_ret
 exact ⟨v, rfl, HB.out⟩
theorem zvv (hd : W.heap[dp]? = some (.cells #[.map (some pm), .map (some nm)] 138 (0, 0))) {ck ck2 b : Nat} {v : Value} (hm : W.heap[pm]? = some (.map #[] ck)) (hn : W.heap[nm]? = some (.map #[{ key := .int .i64 2, val := v, born := b }] ck2)) (hne : pm ≠ nm) : Calls Tryz.prog 153 #[.pointer (some ⟨dp, 0, none⟩), .int .i64 2] W fun e w' => e = .returned (.tuple #[]) ∧ zcm w' dp pm nm false ∧ Fr (fun j => j = nm) W w' := by
 obtain ⟨X, hX⟩ := yye (W.alloc (.cells #[.int .i64 2] 3))
 have hXb : Below W.heap.size W X := by rw [← hX]; exact zab yyr _
 have x0 : X.heap[W.heap.size]? = some (.cells #[.int .i64 2] 3 (0, 0)) := by rw [← hX]; exact heap_alloc_new W _
 have c0 : X.cell? ⟨dp, 0, none⟩ = some (.map (some pm)) := zae hXb (zaa hd)
 have HD := yyh (fun f => zza pm f ck X ((hXb.block _ (zac hm)).trans hm))
 have H := yyh (yyi hd (yyi hm (yyi hn (yyi hne (yyi hXb x0)))))
 clear hd hm hn hne hXb x0
 go_enter Tryz.func153, Tryz.ntmps153
 go_wp2_with fail
 refine (HD.out _).mono ?_
 rintro e w2 ⟨rfl, hB2⟩
 obtain ⟨hd, hm, hn, hne, hXb, x0⟩ := H.out
 have hWb : Below W.heap.size W w2 := zad hB2 hXb
 have d1 : w2.drew.cell? ⟨dp, 1, none⟩ = some (.map (some nm)) := zae (zaf hWb) (show W.cell? ⟨dp, 1, none⟩ = _ by simp [World.cell?, hd])
 have d1' : w2.cell? ⟨dp, 1, none⟩ = some (.map (some nm)) := d1
 have d2 : w2.drew.cell? ⟨W.heap.size, 0, none⟩ = some (.int .i64 2) := zae (zaf hB2) (zaa x0)
 have d2' : w2.cell? ⟨W.heap.size, 0, none⟩ = some (.int .i64 2) := d2
 have hnd : w2.drew.heap[nm]? = some (.map #[{ key := .int .i64 2, val := v, born := b }] ck2) := (hWb.block _ (zac hn)).trans hn
 have hdel := fun ty => zzn (P := Tryz.prog) zdf Tryz.underlying136 hnd (zlr 2 (by unfold zbl; decide)) rfl ty
 have hend : zcm (World.setBlk w2.drew nm (.map #[] ck2)) dp pm nm false ∧ Fr (fun j => j = nm) W (World.setBlk w2.drew nm (.map #[] ck2)) := by
  have hdn : dp ≠ nm := fun e => by rw [e, hn] at hd; cases hd
  refine ⟨⟨?_, ⟨0, ck, ?_, fun h => by cases h⟩, ⟨0, ck2, zbs _ _ _ _ hnd⟩, hne⟩, ⟨hWb.os, hWb.tape, hWb.output, by rw [zbj]; exact hWb.size, fun k hk hkn => ?_⟩⟩
  · rw [zar _ _ _ _ hdn]; exact (hWb.block _ (zac hd)).trans hd
  · rw [zar _ _ _ _ hne]; exact (hWb.block _ (zac hm)).trans hm
  · rw [zar _ _ _ _ hkn]; exact hWb.block k hk
 have HE := yyh hend
 clear hd hm hn hne hXb x0 hWb hnd hend hB2
 go_wp2_with fail
 go_upto_region 2 with fail
 go_region
 all_goals
  go_wp2_with fail
  go_end0
  exact ⟨rfl, HE.out⟩
theorem zvw (h : zcm W dp pm nm false) (id : Int) : Calls Tryz.prog 220 #[.pointer (some ⟨dp, 0, none⟩), .int .i64 id] W fun e w' => e = .returned (.slice none 0 0) ∧ Below W.heap.size W w' := by
 have H := yyh (zpp h id)
 clear h
 go_enter Tryz.func220, Tryz.ntmps220
 go_wp2_with fail
 refine H.out.mono ?_
 rintro e w1 ⟨rfl, hB⟩
 have HB := yyh hB
 have HC := yyh (zfo (SlV.nil w1 3 1))
 clear hB
 go_wp2_with fail
 refine wp_loop_rounds 1 ?_
 rw [rounds_succ]
 go_wp2_with fail
 refine HC.out.mono ?_
 rintro e w' ⟨v', rfl, hv, ho, rfl⟩
 have hv' : v' = .slice none 0 0 := by
  rcases hv.form with ⟨h, -⟩ | ⟨b, off, cap, h, -⟩
  · exact h
  · rw [h] at ho
    cases ho
 subst hv'
 clear hv ho
 go_wp2_with fail
 go_ret
 exact ⟨rfl, HB.out⟩
end
section
variable {W W' : World} {dp pm nm : Nat} {d : Bool}
theorem zvx (h : zcm W dp pm nm true) : Calls Tryz.prog 220 #[.pointer (some ⟨dp, 0, none⟩), .int .i64 1] W fun e w' => ∃ v, e = .returned v ∧ SlV w' 3 1 v 1 [.int .i64 2] ∧ (∀ c, v.ownBlock = some c → W.heap.size ≤ c) ∧ zcm w' dp pm nm false ∧ Fr (zdg dp pm nm) W w' := by
 have HBh := yyh (zpq h)
 have H := yyh h
 clear h
 obtain ⟨i0, hi0, hz0, hz1, hz2⟩ := info_parts zfp
 go_enter Tryz.func220, Tryz.ntmps220
 go_wp2_with fail
 refine HBh.out.mono ?_
 rintro e w1 ⟨v1, rfl, hv1, ho1, hB1⟩
 rcases hv1.form with ⟨-, hz, -⟩ | ⟨q, off, cap, rfl, hle, hmx, hql, hqc⟩
 · omega
 have q0 : w1.cell? ⟨q, off, none⟩ = some (.int .i64 2) := hqc 0 _ rfl
 have hcap : (cap : Int) ≤ 9223372036854775807 := by unfold maxLen at hmx; omega
 have h1 := H.out.below hB1
 have hd1 := h1.hdr
 obtain ⟨b, ck, hm1, hlt⟩ := h1.pairs
 have hm1 : w1.heap[pm]? = some (.map #[{ key := pk 1 2, val := .bool true, born := b }] ck) := hm1
 obtain ⟨b', ck', hn1⟩ := h1.num
 have hn1 : w1.heap[nm]? = some (.map #[{ key := .int .i64 2, val := .int .i64 1, born := b' }] ck') := hn1
 have hne := h1.ne
 have hdp : dp ≠ pm := fun e => by rw [e, hm1] at hd1; cases hd1
 have hdn : dp ≠ nm := fun e => by rw [e, hn1] at hd1; cases hd1
 obtain ⟨l0, hl0⟩ := zmv 1 2 (by unfold zbl; decide) (by unfold zbl; decide)
 obtain ⟨XA, hXA⟩ := yye (World.setBlk w1 pm (.map #[] ck))
 obtain ⟨XB, hXB⟩ : ∃ XB, World.setBlk XA nm (.map #[{ key := .int .i64 2, val := .int .i64 0, born := b' }] ck') = XB := ⟨_, rfl⟩
 have hdel : ∀ ty, (Builtin.delete_ #[135, 139] ty #[.map (some pm), .agg #[.int .i64 1, .int .i64 2]]).run Tryz.prog w1 = .ok (.tuple #[]) XA := fun ty => by
  rw [← hXA]
  exact zzn (P := Tryz.prog) zhc Tryz.underlying135 hm1 hl0 rfl ty
 have hdA : XA.heap[dp]? = some (.cells #[.map (some pm), .map (some nm)] 138 (0, 0)) := by rw [← hXA, zar _ _ _ _ hdp]; exact hd1
 have hmA : XA.heap[pm]? = some (.map #[] ck) := by rw [← hXA]; exact zbs _ _ _ _ hm1
 have hnA : XA.heap[nm]? = some (.map #[{ key := .int .i64 2, val := .int .i64 1, born := b' }] ck') := by rw [← hXA, zar _ _ _ _ (fun e => hne e.symm)]; exact hn1
 have hdB : XB.heap[dp]? = some (.cells #[.map (some pm), .map (some nm)] 138 (0, 0)) := by rw [← hXB, zar _ _ _ _ hdn]; exact hdA
 have hmB : XB.heap[pm]? = some (.map #[] ck) := by rw [← hXB, zar _ _ _ _ hne]; exact hmA
 have hnB : XB.heap[nm]? = some (.map #[{ key := .int .i64 2, val := .int .i64 0, born := b' }] ck') := by rw [← hXB]; exact zbs _ _ _ _ hnA
 have hk2 := zlr 2 (by unfold zbl; decide)
 have hlA : (Instr.lookup 136 (.map (some nm)) (.int .i64 2) false).run Tryz.prog XA = .ok (.int .i64 1) XA := zuw (P := Tryz.prog) zdf Tryz.underlying136 hnA hk2 rfl
 have huA : (Instr.mapUpdate 136 (.map (some nm)) (.int .i64 2) (.int .i64 0)).run Tryz.prog XA = .ok () XB := by
  rw [← hXB]
  exact zzv (P := Tryz.prog) zdf Tryz.underlying136 hnA hk2 rfl _
 have hlB : (Instr.lookup 136 (.map (some nm)) (.int .i64 2) false).run Tryz.prog XB = .ok (.int .i64 0) XB := zuw (P := Tryz.prog) zdf Tryz.underlying136 hnB hk2 rfl
 have hFB : Fr (zdg dp pm nm) W XB := by
  refine ⟨by rw [← hXB, ← hXA]; exact hB1.os, by rw [← hXB, ← hXA]; exact hB1.tape, by rw [← hXB, ← hXA]; exact hB1.output, by rw [← hXB, ← hXA, zbj, zbj]; exact hB1.size, fun k hk hn => ?_⟩
  rw [← hXB, zar _ _ _ _ (fun e => hn (.inr (.inr e))), ← hXA, zar _ _ _ _ (fun e => hn (.inr (.inl e)))]
  exact hB1.block k hk
 have c0 : w1.cell? ⟨dp, 0, none⟩ = some (.map (some pm)) := (zao hd1).1
 have cA : XA.cell? ⟨dp, 1, none⟩ = some (.map (some nm)) := (zao hdA).2.1
 have cB : XB.cell? ⟨dp, 1, none⟩ = some (.map (some nm)) := (zao hdB).2.1
 have HL := yyh (zvv hdB hmB hnB hne)
 have HF := yyh hFB
 clear hv1 ho1 hB1 hqc h1 hd1 hm1 hn1 hne hdp hdn hl0 hXA hXB hdA hmA hnA hdB hmB hnB hk2 hFB hlt hle hmx hql
 go_wp2_with fail
 refine wp_loop_rounds 2 ?_
 rw [rounds_succ]
 go_wp2_with fail
 refine HL.out.mono ?_
 rintro e w2 ⟨rfl, hD2, hF2⟩
 have H2 := yyh (yyi hD2 hF2)
 have HGE := yyh (show XB.heap.size ≤ (w2.alloc (.cells #[.int .i64 2] 3)).heap.size from by
  have := hF2.size
  simp
  omega)
 clear hD2 hF2
 go_wp2_with (at_builtin; refine wpList_append_own_at _ rfl (.tmp 40) (.tmp 42) 33 rfl XB.heap.size 3 i0 zue 1 8 Tryz.underlying33 hi0 hz0 hz1 hz2 rfl (by decide) (.slice none 0 0) 0 [] rfl (World.ownsRow_nil _ _ _ _) ⟨w2.heap.size, 0, none⟩ 1 1 [.int .i64 2] rfl rfl (cell_one_new _ _ _) (fun u hu => by simp at hu; subst hu; rfl) (by unfold maxLen; omega) (by omega) HGE.out ?_; intro v' w3 hown3 hg3 hnil3 hblk3; obtain ⟨a3, cap3, rfl, -⟩ := SlV.clip (SlV.of_owns hown3); have H3 := yyh (yyi hown3 (yyi hg3 hblk3)); clear hown3 hg3 hnil3 hblk3)
 have hB3 : Below w2.heap.size w2 w3 := by
  have h4 : Below w2.heap.size w2 (w2.alloc (.cells #[.int .i64 2] 3)) := zab yyr _
  have h5 : Below (w2.alloc (.cells #[.int .i64 2] 3)).heap.size (w2.alloc (.cells #[.int .i64 2] 3)) w3 := ⟨H3.out.2.1.os, H3.out.2.1.tape, H3.out.2.1.output, H3.out.2.1.size, fun k hk => H3.out.2.1.block k hk (fun e => by cases e)⟩
  exact zad h5 h4
 have HB3 := yyh hB3
 have HC := yyh (zfo (show SlV w3 3 1 (.slice a3 (0 + 1) cap3) 1 [.int .i64 2] from by
  have := SlV.of_owns H3.out.1
  simpa using this))
 clear hB3
 rw [rounds_succ]
 go_wp2_with fail
 refine HC.out.mono ?_
 rintro e w' ⟨v', rfl, hv, ho, rfl⟩
 have HE := yyh (yyi hv ho)
 clear hv ho
 go_wp2_with fail
 go_ret
 have hsz := HF.out.size
 refine ⟨v', rfl, HE.out.1, fun c hc => ?_, H2.out.1.below HB3.out, HF.out.trans ((H2.out.2.mono (fun j hj => .inr (.inr hj))).trans (Fr.of_below HB3.out))⟩
 rw [HE.out.2] at hc
 rcases H3.out.1.2 with ⟨h, -⟩ | ⟨g, cap, cur, h, hbg, -⟩
 · rw [h] at hc; cases hc
 ·
  rw [h] at hc
  injection hc with hc
  rw [← hc]
  exact Nat.le_trans hsz hbg
theorem zvy {ib : Nat} (hc : W.cell? ⟨ib, 0, none⟩ = some (.int .i64 2)) : Calls Tryz.prog 75 #[.int .i64 1, .pointer (some ⟨ib, 0, none⟩)] W fun e w' => e = .returned (.bool false) ∧ W = w' := by
 go_enter Tryz.func75, Tryz.ntmps75
 go_wp2_with fail
 go_ret
 exact ⟨rfl, rfl⟩
theorem zx0 (h : zcm W dp pm nm false) {q cap : Nat} (hcap : cap ≤ maxLen) (hq : W.cell? ⟨q, 0, none⟩ = some (.int .i64 1)) : Calls Tryz.prog 37 #[.pointer (some ⟨dp, 0, none⟩), .int .i64 2, .slice (some ⟨q, 0, none⟩) 1 cap] W fun e w' => e = .returned (.tuple #[.int .i64 1, .int .i64 0]) ∧ zcm w' dp pm nm true ∧ Fr (zdg dp pm nm) W w' := by
 have hcm : (cap : Int) ≤ 9223372036854775807 := by unfold maxLen at hcap; omega
 obtain ⟨X, hX⟩ := yye (W.alloc (.cells #[.int .i64 2] 3))
 have hXb : Below W.heap.size W X := by rw [← hX]; exact zab yyr _
 have x0 : X.heap[W.heap.size]? = some (.cells #[.int .i64 2] 3 (0, 0)) := by rw [← hX]; exact heap_alloc_new W _
 have x0c : X.cell? ⟨W.heap.size, 0, none⟩ = some (.int .i64 2) := zaa x0
 have hC : Calls Tryz.prog 68 #[.slice (some ⟨q, 0, none⟩) 1 cap, .func (.func 75) #[] #[.pointer (some ⟨W.heap.size, 0, none⟩)]] X fun e w' => e = .returned (.bool false) ∧ Below X.heap.size X w' := by
  refine (zjs q 1 cap (by omega) hcap (fun _ => .int .i64 1) (fun _ Y => Below X.heap.size X Y) (fun _ _ => False) ?_ 75 #[.pointer (some ⟨W.heap.size, 0, none⟩)] (enters_of Tryz.func75 (by kernel_rfl) rfl) yyr ?_).mono ?_
  · intro i Y hY k hk
    obtain rfl : k = 0 := by omega
    exact zae hY (zae hXb hq)
  ·
   intro Y i hY hi
   refine (zvy (zae hY x0c)).mono ?_
   rintro e w' ⟨rfl, rfl⟩
   exact ⟨false, rfl, fun h => by (cases h), fun _ => hY⟩
  · rintro e w' (⟨rfl, hY⟩ | ⟨i, hi, -, hf⟩)
    · exact ⟨rfl, hY⟩
    · exact hf.elim
 have HC := yyh hC
 have H := yyh (yyi h (yyi hXb (yyi x0 hq)))
 clear hC h hXb x0 hq
 go_enter Tryz.func37, Tryz.ntmps37
 go_wp2_with fail
 refine HC.out.mono ?_
 rintro e w2 ⟨rfl, hB2⟩
 obtain ⟨h, hXb, x0, hq⟩ := H.out
 have hB : Below W.heap.size W w2 := zad hB2 hXb
 have h2 := h.below hB
 have hd2 := h2.hdr
 obtain ⟨b, ck, hm2, -⟩ := h2.pairs
 have hm2 : w2.heap[pm]? = some (.map #[] ck) := hm2
 obtain ⟨b', ck', hn2⟩ := h2.num
 have hn2 : w2.heap[nm]? = some (.map #[] ck') := hn2
 have hne := h2.ne
 have k2 := zlr 2 (by unfold zbl; decide)
 obtain ⟨l0, hl0⟩ := zmv 1 2 (by unfold zbl; decide) (by unfold zbl; decide)
 obtain ⟨W3, hW3⟩ := yye (w2.drew)
 obtain ⟨X2, hX2⟩ := yye (W3.alloc (.cells #[.int .i64 1, .int .i64 2] 139))
 obtain ⟨X3, hX3⟩ := yye (X2.drew)
 obtain ⟨X4, hX4⟩ := yye (X3.drew)
 obtain ⟨XA, hXA⟩ : ∃ XA, World.setBlk X4 pm (.map #[{ key := pk 1 2, val := .bool true, born := ck }] (ck + 1)) = XA := ⟨_, rfl⟩
 obtain ⟨XD, hXD⟩ := yye (XA.drew)
 obtain ⟨XB, hXB⟩ : ∃ XB, World.setBlk XD nm (.map #[{ key := .int .i64 2, val := .int .i64 1, born := ck' }] (ck' + 1)) = XB := ⟨_, rfl⟩
 obtain ⟨XC, hXC⟩ := yye (XB.drew)
 have hdp : dp ≠ pm := fun e => by rw [e, hm2] at hd2; cases hd2
 have hdn : dp ≠ nm := fun e => by rw [e, hn2] at hd2; cases hd2
 have e3 : W3.heap = w2.heap := by rw [← hW3]; rfl
 have s2 : Below w2.heap.size w2 X2 := by rw [← hX2, ← hW3]; exact zab (zaf yyr) _
 have x2 : X2.heap[W3.heap.size]? = some (.cells #[.int .i64 1, .int .i64 2] 139 (0, 0)) := by rw [← hX2]; exact heap_alloc_new W3 _
 have e4 : X4.heap = X2.heap := by rw [← hX4, ← hX3]; rfl
 have e3' : X3.heap = X2.heap := by rw [← hX3]; rfl
 have eD : XD.heap = XA.heap := by rw [← hXD]; rfl
 have eC : XC.heap = XB.heap := by rw [← hXC]; rfl
 have hd4 : X2.heap[dp]? = some (.cells #[.map (some pm), .map (some nm)] 138 (0, 0)) := (s2.block _ (zac hd2)).trans hd2
 have hm4 : X2.heap[pm]? = some (.map #[] ck) := (s2.block _ (zac hm2)).trans hm2
 have hn4 : X2.heap[nm]? = some (.map #[] ck') := (s2.block _ (zac hn2)).trans hn2
 have hi2 : w2.heap[W.heap.size]? = some (.cells #[.int .i64 2] 3 (0, 0)) := (hB2.block _ (zac x0)).trans x0
 have hi4 : X2.heap[W.heap.size]? = some (.cells #[.int .i64 2] 3 (0, 0)) := (s2.block _ (zac hi2)).trans hi2
 have hnx : W3.heap.size ≠ pm := fun e => by rw [e, hm4] at x2; cases x2
 have hnxn : W3.heap.size ≠ nm := fun e => by rw [e, hn4] at x2; cases x2
 have hwp : W.heap.size ≠ pm := fun e => by rw [e, hm4] at hi4; cases hi4
 have hwn : W.heap.size ≠ nm := fun e => by rw [e, hn4] at hi4; cases hi4
 have m4 : X4.heap[pm]? = some (.map #[] ck) := by rw [e4]; exact hm4
 have gA : ∀ {j : Nat} {o : Obj}, j ≠ pm → X2.heap[j]? = some o → XA.heap[j]? = some o := fun hj ho => by rw [← hXA, zar _ _ _ _ hj, e4]; exact ho
 have mA : XA.heap[pm]? = some (.map #[{ key := pk 1 2, val := .bool true, born := ck }] (ck + 1)) := by rw [← hXA]; exact zbs _ _ _ _ m4
 have nD : XD.heap[nm]? = some (.map #[] ck') := by rw [eD]; exact gA (fun e => hne e.symm) hn4
 have gB : ∀ {j : Nat} {o : Obj}, j ≠ nm → XA.heap[j]? = some o → XB.heap[j]? = some o := fun hj ho => by rw [← hXB, zar _ _ _ _ hj, eD]; exact ho
 have nB : XB.heap[nm]? = some (.map #[{ key := .int .i64 2, val := .int .i64 1, born := ck' }] (ck' + 1)) := by rw [← hXB]; exact zbs _ _ _ _ nD
 have b2 : W3.cell? ⟨W.heap.size, 0, none⟩ = some (.int .i64 2) := zaa (by rw [e3]; exact hi2)
 have d1 : W3.cell? ⟨dp, 1, none⟩ = some (.map (some nm)) := (zao (by rw [e3]; exact hd2)).2.1
 have q1 : W3.cell? ⟨q, 0, none⟩ = some (.int .i64 1) := by rw [← hW3]; exact zae (zaf hB) hq
 have lk : (Instr.lookup 136 (.map (some nm)) (.int .i64 2) true).run Tryz.prog W3 = .ok (.tuple #[.int .i64 0, .bool false]) W3 := zw2 (P := Tryz.prog) zdf Tryz.underlying136 (by rw [e3]; exact hn2) k2 (zio _)
 have p0 : X3.cell? ⟨dp, 0, none⟩ = some (.map (some pm)) := (zao (by rw [e3']; exact hd4)).1
 have p1 : X3.cell? ⟨W3.heap.size, 0, none⟩ = some (.int .i64 1) := (zao (by rw [e3']; exact x2)).1
 have p2 : X3.cell? ⟨W3.heap.size, 1, none⟩ = some (.int .i64 2) := (zao (by rw [e3']; exact x2)).2.1
 have lk3 : (Instr.lookup 135 (.map (some pm)) (.agg #[.int .i64 1, .int .i64 2]) false).run Tryz.prog X3 = .ok (.bool false) X3 := zw1 (P := Tryz.prog) zhc Tryz.underlying135 (by rw [e3']; exact hm4) hl0 (zvs _)
 have r0 : X4.cell? ⟨dp, 0, none⟩ = some (.map (some pm)) := (zao (by rw [e4]; exact hd4)).1
 have r1 : X4.cell? ⟨W3.heap.size, 0, none⟩ = some (.int .i64 1) := (zao (by rw [e4]; exact x2)).1
 have r2 : X4.cell? ⟨W3.heap.size, 1, none⟩ = some (.int .i64 2) := (zao (by rw [e4]; exact x2)).2.1
 have up4 : (Instr.mapUpdate 135 (.map (some pm)) (.agg #[.int .i64 1, .int .i64 2]) (.bool true)).run Tryz.prog X4 = .ok () XA := by
  rw [← hXA]
  exact zzm (P := Tryz.prog) zhc Tryz.underlying135 m4 hl0 _
 have t1 : XD.cell? ⟨dp, 1, none⟩ = some (.map (some nm)) := (zao (by rw [eD]; exact gA hdp hd4)).2.1
 have t2 : XD.cell? ⟨W.heap.size, 0, none⟩ = some (.int .i64 2) := zaa (by rw [eD]; exact gA hwp hi4)
 have lk5 : (Instr.lookup 136 (.map (some nm)) (.int .i64 2) false).run Tryz.prog XD = .ok (.int .i64 0) XD := zw1 (P := Tryz.prog) zdf Tryz.underlying136 nD k2 (zio _)
 have up5 : (Instr.mapUpdate 136 (.map (some nm)) (.int .i64 2) (.int .i64 1)).run Tryz.prog XD = .ok () XB := by
  rw [← hXB]
  exact zzm (P := Tryz.prog) zdf Tryz.underlying136 nD k2 _
 have v1 : XC.cell? ⟨dp, 1, none⟩ = some (.map (some nm)) := (zao (by rw [eC]; exact gB hdn (gA hdp hd4))).2.1
 have v2 : XC.cell? ⟨W.heap.size, 0, none⟩ = some (.int .i64 2) := zaa (by rw [eC]; exact gB hwn (gA hwp hi4))
 have lk6 : (Instr.lookup 136 (.map (some nm)) (.int .i64 2) false).run Tryz.prog XC = .ok (.int .i64 1) XC := zuw (P := Tryz.prog) zdf Tryz.underlying136 (by rw [eC]; exact nB) k2 rfl
 have hend : zcm XC dp pm nm true ∧ Fr (zdg dp pm nm) W XC := by
  refine ⟨⟨by rw [eC]; exact gB hdn (gA hdp hd4), ⟨ck, ck + 1, by rw [eC]; exact gB hne mA, fun _ => by omega⟩, ⟨ck', ck' + 1, by rw [eC]; exact nB⟩, hne⟩, ?_⟩
  have s0 : Below W.heap.size W X2 := zad s2 hB
  refine ⟨by rw [← hXC, ← hXB, ← hXD, ← hXA, ← hX4, ← hX3]; exact s0.os, by rw [← hXC, ← hXB, ← hXD, ← hXA, ← hX4, ← hX3]; exact s0.tape, by rw [← hXC, ← hXB, ← hXD, ← hXA, ← hX4, ← hX3]; exact s0.output, by rw [eC, ← hXB, zbj, eD, ← hXA, zbj, e4]; exact s0.size, fun k hk hn => ?_⟩
  rw [eC, ← hXB, zar _ _ _ _ (fun e => hn (.inr (.inr e))), eD, ← hXA, zar _ _ _ _ (fun e => hn (.inr (.inl e))), e4]
  exact s0.block k hk
 have HE := yyh hend
 clear h hXb x0 hq hB h2 hd2 hm2 hn2 hne hB2 hdp hdn e3 s2 x2 e4 e3' eD eC hd4 hm4 hn4 hi2 hi4 hnx hnxn hwp hwn m4 gA mA nD gB nB hend hXA hXB hl0 k2
 go_upto_region 3 with fail
 go_region
 go_wp2_with fail
 refine wp_loop_rounds 2 ?_
 rw [rounds_succ]
 go_upto_region 10 with fail
 go_region
 go_upto_region 11 with fail
 go_region
 go_upto_region 12 with fail
 go_region
 go_wp2_with fail
 rw [rounds_succ]
 go_upto_region 14 with fail
 go_region
 go_wp2_with fail
 go_ret2
 exact ⟨rfl, HE.out⟩
end
structure zk0 (W : World) (wp m1 m2 m3 : Nat) (now : Int) : Prop where
 hdr : W.heap[wp]? = some (.cells #[.int .u64 now, .map (some m1), .map (some m2), .map (some m3)] 150 (0, 0))
 a : ∃ ck, W.heap[m1]? = some (.map #[] ck)
 b : ∃ ck, W.heap[m2]? = some (.map #[] ck)
 c : ∃ ck, W.heap[m3]? = some (.map #[] ck)
 nw : 0 ≤ now ∧ now ≤ top
def zi9 (wp m1 m2 m3 : Nat) (j : Nat) : Prop := j = wp ∨ j = m1 ∨ j = m2 ∨ j = m3
section
variable {W W' : World} {wp m1 m2 m3 : Nat} {now : Int}
theorem zk0.frE {S : Nat → Prop} (h : zk0 W wp m1 m2 m3 now) (f : Fr S W W') (hS : ∀ j, zi9 wp m1 m2 m3 j → ¬ S j) : zk0 W' wp m1 m2 m3 now := by
 obtain ⟨c1, h1⟩ := h.a
 obtain ⟨c2, h2⟩ := h.b
 obtain ⟨c3, h3⟩ := h.c
 exact ⟨(f.block _ (zac h.hdr) (hS _ (.inl rfl))).trans h.hdr, ⟨c1, (f.block _ (zac h1) (hS _ (.inr (.inl rfl)))).trans h1⟩, ⟨c2, (f.block _ (zac h2) (hS _ (.inr (.inr (.inl rfl))))).trans h2⟩, ⟨c3, (f.block _ (zac h3) (hS _ (.inr (.inr (.inr rfl))))).trans h3⟩, h.nw⟩
theorem zk0.below (h : zk0 W wp m1 m2 m3 now) (hb : Below W.heap.size W W') : zk0 W' wp m1 m2 m3 now := h.frE (Fr.of_below (S := fun _ => False) hb) (fun _ _ h => h)
theorem zk0.lt (h : zk0 W wp m1 m2 m3 now) {j : Nat} (hj : zi9 wp m1 m2 m3 j) : j < W.heap.size := by
 obtain ⟨c1, h1⟩ := h.a
 obtain ⟨c2, h2⟩ := h.b
 obtain ⟨c3, h3⟩ := h.c
 rcases hj with rfl | rfl | rfl | rfl
 · exact zac h.hdr
 · exact zac h1
 · exact zac h2
 · exact zac h3
theorem zk0.noE (h : zk0 W wp m1 m2 m3 now) : NoE W (zi9 wp m1 m2 m3) := by
 obtain ⟨c1, h1⟩ := h.a
 obtain ⟨c2, h2⟩ := h.b
 obtain ⟨c3, h3⟩ := h.c
 refine NoE.of fun j hj => ?_
 rcases hj with rfl | rfl | rfl | rfl
 · exact ⟨_, h.hdr, zbe⟩
 · exact ⟨_, h1, zf3⟩
 · exact ⟨_, h2, zf3⟩
 · exact ⟨_, h3, zf3⟩
def PT.wheel (wp m1 m2 m3 : Nat) (now : Int) : PT := ⟨fun W => zk0 W wp m1 m2 m3 now, OS.one (zi9 wp m1 m2 m3), fun j h => h, fun h hj => h.lt hj, fun h => h.noE, fun h f _ hd => h.frE f hd⟩
theorem zx1 (W : World) : Calls Tryz.prog 113 #[.int .u64 0] W fun e w' => ∃ wp m1 m2 m3, e = .returned (.pointer (some ⟨wp, 0, none⟩)) ∧ zk0 w' wp m1 m2 m3 0 ∧ (∀ j, zi9 wp m1 m2 m3 j → W.heap.size ≤ j) ∧ Below W.heap.size W w' := by
 have hm1 : ∀ w, (Instr.makeMap 146 none).run Tryz.prog w = .ok (.map (some w.heap.size)) (w.alloc (.map #[] 0)) := fun _ => by rfl
 have hm2 : ∀ w, (Instr.makeMap 147 none).run Tryz.prog w = .ok (.map (some w.heap.size)) (w.alloc (.map #[] 0)) := fun _ => by rfl
 have hm3 : ∀ w, (Instr.makeMap 148 none).run Tryz.prog w = .ok (.map (some w.heap.size)) (w.alloc (.map #[] 0)) := fun _ => by rfl
 have hb : Below W.heap.size W ((((W.alloc (.map #[] 0)).alloc (.map #[] 0)).alloc (.map #[] 0)).alloc (.cells #[.int .u64 0, .map (some W.heap.size), .map (some (W.heap.size + 1)), .map (some (W.heap.size + 1 + 1))] 150)) := zab (zab (zab (zab yyr _) _) _) _
 have HB := yyh hb
 clear hb
 go_enter Tryz.func113, Tryz.ntmps113
 go_wp2_with fail
 go_ret
 refine ⟨W.heap.size + 1 + 1 + 1, W.heap.size, W.heap.size + 1, W.heap.size + 1 + 1, rfl, ⟨zax (by simp), ⟨0, zan (zan (zan (heap_alloc_new W _)))⟩, ⟨0, zan (zan (zax (by simp)))⟩, ⟨0, zan (zax (by simp))⟩, by unfold top; omega⟩, ?_, HB.out⟩
 rintro j (rfl | rfl | rfl | rfl) <;> omega
theorem ztj (h : zk0 W wp m1 m2 m3 now) : Calls Tryz.prog 41 #[.pointer (some ⟨wp, 0, none⟩)] W fun e w' => e = .returned (.int .u64 now) ∧ W = w' := by
 have c0 : W.cell? ⟨wp, 0, none⟩ = some (.int .u64 now) := zaa h.hdr
 clear h
 go_enter Tryz.func41, Tryz.ntmps41
 go_wp2_with fail
 go_ret
 exact ⟨rfl, rfl⟩
theorem zx2 (v f : Value) (m : Int) (W : World) : Calls Tryz.prog 138 #[v, .int .i64 0, .int .i64 0, .int .i64 m, f] W fun e w' => e = .returned (.tuple #[]) ∧ W = w' := by
 have HI := yyh (show Calls Tryz.prog 193 #[v, .int .i64 0, .int .i64 0, f] W fun e w' => e = .returned (.tuple #[]) ∧ W = w' from by
  go_enter Tryz.func193, Tryz.ntmps193
  go_wp2_with fail
  refine wp_loop_rounds 1 ?_
  rw [rounds_succ]
  go_wp2_with fail
  go_end0
  exact ⟨rfl, rfl⟩)
 go_enter Tryz.func138, Tryz.ntmps138
 go_wp2_with fail
 refine wp_loop_rounds 1 ?_
 rw [rounds_succ]
 go_wp2_with fail
 refine HI.out.mono ?_
 rintro e w' ⟨rfl, rfl⟩
 go_wp2_with fail
 refine bodyPost_ret (results_none rfl _ _ _) rfl ?_
 exact ⟨rfl, rfl⟩
theorem zvz (f : Value) (W : World) : Calls Tryz.prog 93 #[.slice none 0 0, f] W fun e w' => e = .returned (.tuple #[]) ∧ W = w' := by
 have HL := yyh (zs1 0 (by omega) W)
 have HP := yyh (zx2 (.slice none 0 0) f 0 W)
 go_enter Tryz.func93, Tryz.ntmps93
 go_wp2_with fail
 refine HL.out.mono ?_
 rintro e w' ⟨rfl, rfl⟩
 go_wp2_with fail
 refine HP.out.mono ?_
 rintro e w' ⟨rfl, rfl⟩
 go_wp2_with fail
 go_end0
 exact ⟨rfl, rfl⟩
theorem ztk (h : zk0 W wp m1 m2 m3 now) : Calls Tryz.prog 51 #[.pointer (some ⟨wp, 0, none⟩)] W fun e w' => e = .returned (.slice none 0 0) ∧ Below W.heap.size W w' := by
 obtain ⟨ck, hm⟩ := h.b
 have c0 : W.cell? ⟨wp, 2, none⟩ = some (.map (some m2)) := by simp [World.cell?, h.hdr]
 have hr := run_range_map (P := Tryz.prog) W 147 _ _ m2 #[] ck Tryz.underlying147 hm
 have hb : Below W.heap.size W (W.alloc (.mapIter (some m2) ck #[] ck)) := zab yyr _
 have hn : ∀ ty, (Instr.next (.pointer (some ⟨W.heap.size, 0, none⟩)) false ty).run Tryz.prog (W.alloc (.mapIter (some m2) ck #[] ck)) = .ok (.tuple #[.bool false]) (W.alloc (.mapIter (some m2) ck #[] ck)) := fun ty => zrk _ ty (heap_alloc_new W _) ((hb.block _ (zac hm)).trans hm) (fun x hx => by simp at hx) yyn (fun x hx => by simp at hx)
 have HB := yyh hb
 have HS := yyh (fun f => zvz f (W.alloc (.mapIter (some m2) ck #[] ck)))
 have HC := yyh (zug (SlV.nil (W.alloc (.mapIter (some m2) ck #[] ck)) 152 2))
 clear h hb hm
 go_enter Tryz.func51, Tryz.ntmps51
 go_wp2_with fail
 refine wp_loop_rounds 1 ?_
 rw [rounds_succ]
 go_wp2_with fail
 refine (HS.out _).mono ?_
 rintro e w' ⟨rfl, rfl⟩
 go_wp2_with fail
 refine HC.out.mono ?_
 rintro e w' ⟨v', rfl, hv, ho, rfl⟩
 have hv' : v' = .slice none 0 0 := by
  rcases hv.form with ⟨h, -⟩ | ⟨b, off, cap, h, -⟩
  · exact h
  · rw [h] at ho
    cases ho
 subst hv'
 clear hv ho
 go_wp2_with fail
 go_ret
 exact ⟨rfl, HB.out⟩
end
end Go.Proofs.YtcfhkbcllijnkaaGreat
