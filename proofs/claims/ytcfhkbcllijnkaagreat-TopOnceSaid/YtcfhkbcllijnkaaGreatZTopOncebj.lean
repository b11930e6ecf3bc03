/- Parts of the proof of TopOnce, under no condition. -/
import Derived.Test.YtcfhkbcllijnkaaGreatZTopOncebi
set_option linter.unusedVariables false
set_option linter.unusedSimpArgs false
set_option maxRecDepth 100000
set_option maxHeartbeats 0
namespace Go.Proofs.YtcfhkbcllijnkaaGreat
open Go.RowKit
section
variable {W W' : World} {A : QA} {s : QS}
theorem QAt.cells (h : QAt W A s) : W.cell? ⟨A.qp, 0, none⟩ = some (.int .i64 A.k) ∧ W.cell? ⟨A.qp, 1, none⟩ = some (.pointer (some ⟨A.sp, 0, none⟩)) ∧ W.cell? ⟨A.qp, 2, none⟩ = some (.slice (some ⟨A.ob, 0, none⟩) A.lp.length A.oc) ∧ W.cell? ⟨A.qp, 3, none⟩ = some (.pointer (some ⟨A.hp, 0, none⟩)) :=
 ⟨zaa h.hdr, zaa h.hdr, zaa h.hdr, zaa h.hdr⟩
theorem QAt.ocell (h : QAt W A s) {t p : Nat} (hp : A.lp[t]? = some p) : W.cell? ⟨A.ob, t, none⟩ = some (.pointer (some ⟨p, 0, none⟩)) := by
 obtain ⟨cur, e, hc⟩ := h.own
 rw [zaa e]
 exact hc t p hp
theorem QAt.thread (h : QAt W A s) {t : Nat} (ht : t < A.lp.length) : ∃ p x y, A.lp[t]? = some p ∧ s.ls[t]? = some x ∧ s.ss[t]? = some y ∧ zbi W p 0 x.1 x.2 := by
 obtain ⟨p, hp⟩ : ∃ p, A.lp[t]? = some p := ⟨_, yyg ht⟩
 obtain ⟨x, hx⟩ : ∃ x, s.ls[t]? = some x := ⟨_, yyg (by rw [h.lsn]; exact ht)⟩
 obtain ⟨y, hy⟩ : ∃ y, s.ss[t]? = some y := ⟨_, yyg (by rw [h.sln]; exact ht)⟩
 exact ⟨p, x, y, hp, hx, hy, h.lsm t p x hp hx⟩
theorem QS.slot_at {k t : Nat} {y : Slt} (hy : s.ss[t]? = some y) : (s.q k).slots[t]? = some (zeo y) := by
 show (s.ss.map zeo)[t]? = _
 rw [List.getElem?_map, hy]
 rfl
theorem QS.own_at {k t : Nat} {x : Value × List Bk} (hx : s.ls[t]? = some x) : (s.q k).own[t]? = some (zaj (zaq x.2)) := by
 show (s.ls.map _)[t]? = _
 rw [List.getElem?_map, hx]
 rfl
theorem QS.sizes {k t : Nat} {y : Slt} {x : Value × List Bk} (hy : s.ss[t]? = some y) (hx : s.ls[t]? = some x) : (zeo y).toList.length + (zaq x.2).length + (zaq s.bs).length ≤ (s.q k).all.length := by
 have := (s.q k).sizes t _ _ (QS.slot_at hy) (QS.own_at hx)
 rw [zam] at this
 have e : (s.q k).sh.length = (zaq s.bs).length := zam _
 omega
theorem zez {p base : Nat} {v : Value} {bs : List Bk} (h : zbi W p base v bs) : bs.length ≤ (zaq bs).length := zck fun b hb => (h.ins b hb).2
theorem zln (h : QAt W A s) (t : Nat) (ht : t < A.lp.length) : Calls Tryz.prog 96 #[.pointer (some ⟨A.qp, 0, none⟩), .int .i64 t] W fun e w' => e = .returned (.bool true) ∧ W = w' := by
 obtain ⟨-, -, c2, -⟩ := h.cells
 have hn := h.num
 clear h
 generalize A.lp.length = n at *
 have g1 : decide ((t : Int) ≥ 0) = true := by simp
 have g2 : decide ((t : Int) < (n : Int)) = true := by rw [decide_eq_true_eq]; omega
 go_enter Tryz.func96, Tryz.ntmps96
 go_wp2_with fail
 go_ret
 exact ⟨by simp [*], rfl⟩
def QC (A : QA) (t p : Nat) (w : World) : Prop := w.cell? ⟨A.qp, 0, none⟩ = some (.int .i64 A.k) ∧ w.cell? ⟨A.qp, 2, none⟩ = some (.slice (some ⟨A.ob, 0, none⟩) A.lp.length A.oc) ∧ w.cell? ⟨A.qp, 3, none⟩ = some (.pointer (some ⟨A.hp, 0, none⟩)) ∧ w.cell? ⟨A.ob, t, none⟩ = some (.pointer (some ⟨p, 0, none⟩))
theorem QAt.qc (h : QAt W A s) {t p : Nat} (hp : A.lp[t]? = some p) : QC A t p W := ⟨h.cells.1, h.cells.2.2.1, h.cells.2.2.2, h.ocell hp⟩
theorem zpg {k t : Nat} {y y' : Slt} {x : Value × List Bk} {v' : Value} {bs' : List Bk} (hy : s.ss[t]? = some y) (hx : s.ls[t]? = some x) (hf : y.full = true) (hf' : y'.full = false) (hp : (zaq bs').Perm (y.e :: zaq x.2)) (hk : (zaq bs').length ≤ k) : ({ ({ s with ss := s.ss.set t y' } : QS) with ls := s.ls.set t (v', bs') } : QS).q k = (s.q k).settle t := by
 have h1 : (s.q k).slots[t]? = some (some y.e) := by rw [QS.slot_at hy]; unfold zeo; rw [if_pos hf]
 have h2 := QS.own_at (k := k) hx
 have e1 : zaj (zaq bs') = zaj (y.e :: zaj (zaq x.2)) := by rw [zf4]; exact zbw hp
 unfold QM.settle
 rw [h1, h2]
 have e2 : ¬ (s.q k).k < (zaj (y.e :: zaj (zaq x.2))).length := by
  rw [← e1, zam]
  show ¬ k < _
  omega
 simp only [if_neg e2]
 show QM.mk k ((s.ss.set t y').map zeo) ((s.ls.set t (v', bs')).map (fun x => zaj (zaq x.2))) (zaj (zaq s.bs)) = _
 rw [List.map_set, List.map_set]
 have e3 : zeo y' = none := by unfold zeo; rw [hf']; rfl
 rw [e3]
 show QM.mk k _ (((s.ls.map fun x => zaj (zaq x.2))).set t (zaj (zaq bs'))) _ = _
 rw [e1]
 rfl
theorem zph {k t : Nat} {y y' : Slt} {x : Value × List Bk} {v' v'' sv' : Value} {bs' sbs : List Bk} (hy : s.ss[t]? = some y) (hx : s.ls[t]? = some x) (hf : y.full = true) (hf' : y'.full = false) (hp : (zaq bs').Perm (y.e :: zaq x.2)) (hk : k < (zaq bs').length) (hs : (zaq sbs).Perm (zaj (zaq bs') ++ zaq s.bs)) : ({ ({ ({ s with ss := s.ss.set t y' } : QS) with ls := (s.ls.set t (v', bs')).set t (v'', []) } : QS) with sv := sv', bs := sbs } : QS).q k = (s.q k).settle t := by
 have h1 : (s.q k).slots[t]? = some (some y.e) := by rw [QS.slot_at hy]; unfold zeo; rw [if_pos hf]
 have h2 := QS.own_at (k := k) hx
 have e1 : zaj (zaq bs') = zaj (y.e :: zaj (zaq x.2)) := by rw [zf4]; exact zbw hp
 unfold QM.settle
 rw [h1, h2]
 have e2 : (s.q k).k < (zaj (y.e :: zaj (zaq x.2))).length := by
  rw [← e1, zam]
  exact hk
 simp only [if_pos e2]
 show QM.mk k ((s.ss.set t y').map zeo) (((s.ls.set t (v', bs')).set t (v'', [])).map (fun x => zaj (zaq x.2))) (zaj (zaq sbs)) = _
 rw [List.set_set, List.map_set, List.map_set]
 have e3 : zeo y' = none := by unfold zeo; rw [hf']; rfl
 rw [e3, zbw hs, e1, ← zft]
 rfl
theorem zpi {k t : Nat} {x : Value × List Bk} (hq : (s.q k).Ok) (hx : s.ls[t]? = some x) : (zaq x.2).length ≤ 16 := by
 have h1 : (s.q k).own[t]? = some (zaj (zaq x.2)) := by
  unfold QS.q
  show (s.ls.map _)[t]? = _
  rw [List.getElem?_map, hx]
  rfl
 have := hq.low _ (List.mem_of_getElem? h1)
 rw [zam] at this
 exact this
theorem zmr (h : QAt W A s) (hq : (s.q A.k).Ok) (t : Nat) (ht : t < A.lp.length) : Calls Tryz.prog 129 #[.pointer (some ⟨A.qp, 0, none⟩), .int .i64 t] W fun e w' => e = .returned (.bool ((s.q A.k).fullAt t)) ∧ ∃ s', zbp W A s w' s' ∧ s'.q A.k = (s.q A.k).settle t := by
 obtain ⟨p, x, y, hp, hx, hy, hL⟩ := h.thread ht
 have hsz := QS.sizes (k := A.k) hy hx
 have hlen := hq.len
 have hbl := yyi (zez hL) (zpi hq hx)
 obtain ⟨c0, c1, c2, c3⟩ := h.cells
 have co := h.ocell hp
 have HG := yyh (zmo h.sl t y hy)
 have H := yyh (yyi h hq)
 have HP := yyh (yyi hp (yyi hx (yyi hy (yyi hsz (yyi hlen hbl)))))
 clear h hq hsz hlen hbl hL
 go_enter Tryz.func129, Tryz.ntmps129
 go_wp2_with fail
 refine HG.out.mono ?_
 rintro e w1 ⟨rfl, hB1⟩
 obtain ⟨h, hq⟩ := H.out
 obtain ⟨hp, hx, hy, hsz, hlen, hbl⟩ := HP.out
 obtain ⟨W1, hW1⟩ := yye (w1.alloc (.cells #[.int .u64 y.e.key, .int .i64 y.e.id] 63))
 have hBB : Below W.heap.size W W1 := by rw [← hW1]; exact zab hB1 _
 have h1 := h.below hBB
 obtain ⟨d0, d1, d2, d3⟩ := h1.cells
 unfold enV
 cases hf : y.full with
 | false =>
  have hfa : (s.q A.k).fullAt t = false := by
   unfold QM.fullAt
   rw [QS.slot_at hy]
   unfold zeo
   rw [hf]
   rfl
  have hset : (s.q A.k).settle t = s.q A.k := by
   unfold QM.settle
   rw [QS.slot_at hy]
   unfold zeo
   rw [hf]
   rfl
  have HF := yyh (yyi hfa (yyi hset (zbp.below h hBB)))
  clear h hq hp hx hy hsz hlen hbl hBB h1 hB1 hfa hset
  go_wp2_with fail
  go_ret
  exact ⟨by rw [HF.out.1]; rfl, s, HF.out.2.2, HF.out.2.1.symm⟩
 | true =>
  have hfa : (s.q A.k).fullAt t = true := by
   unfold QM.fullAt
   rw [QS.slot_at hy]
   unfold zeo
   rw [hf]
   rfl
  have HF := yyh (yyi hfa hf)
  have HTK := yyh (zkc h1.sl t y hy hf)
  have H1 := yyh (yyi h1 hBB)
  clear h hq hp hx hy hsz hlen hbl hBB h1 hB1 hfa hf
  go_wp2_with fail
  refine HTK.out.mono ?_
  rintro e w2 ⟨rfl, hS2, hF2⟩
  have st1 := H1.out.1.setSl hS2 hF2 (by rw [List.length_set])
  obtain ⟨W3, hW3⟩ := yye (w2.alloc (.cells #[.int .u64 y.e.key, .int .i64 y.e.id] 63))
  obtain ⟨xb, hxb⟩ := yye (w2.heap.size)
  have hx3 : W3.drew.heap[xb]? = some (.cells #[.int .u64 y.e.key, .int .i64 y.e.id] 63 (0, 0)) := by rw [← hW3, ← hxb]; exact heap_alloc_new w2 _
  obtain ⟨z0, z1, -, -⟩ := zao hx3
  have hB3 : Below w2.heap.size w2 W3.drew := by rw [← hW3]; exact zaf (zab yyr _)
  have st2 := st1.trans (zbp.below st1.at_ hB3)
  obtain ⟨hp, hx, hy, hsz, hlen, hbl⟩ := HP.out
  obtain ⟨d0, d1, d2, d3⟩ := st2.at_.cells
  have do_ := st2.at_.ocell hp
  have hsz1 : (zeo y).toList.length = 1 := by unfold zeo; rw [HF.out.2]; rfl
  have hPut := zzy y.e (st2.at_.lsm t p x hp hx) (Nat.zero_le _) (by unfold NB at hlen; omega) (by omega)
  have HPut := yyh hPut
  have H2 := yyh st2
  have hn := H1.out.1.num
  have ht2 : (t : Int) < (A.lp.length : Int) := by omega
  have hge0 : decide ((t : Int) < 0) = false := by simp
  have hoc : (A.oc : Int) ≤ 9223372036854775807 := by have := hn.2.2.2.1; unfold maxLen at this; omega
  clear hS2 hF2 st1 hx3 hB3 st2 hp hx hy hsz hlen hbl hsz1 hPut
  unfold enV
  go_upto_region 5 with fail
  clear hW3
  refine wp_region_still_tail 8 (by kernel_rfl) (by kernel_rfl) ?_
  simp only [List.take_succ_cons, List.take_zero, List.drop_succ_cons, List.drop_zero]
  iterate 8 still_step
  refine wpStill_nil ?_
  change wpList _ _ _ _ _ W3.drew
  go_wp2_with fail
  refine HPut.out.mono ?_
  rintro e w4 ⟨rfl, v4, bs4, hL4, hP4, hn4, hv4, hF4⟩
  obtain ⟨hp, hx, hy, hsz, hlen, hbl⟩ := HP.out
  have st3 := H2.out.trans (H2.out.at_.setLs hp hx hL4 hF4 hv4)
  have hp4 : (zaq bs4).length = (zaq x.2).length + 1 := by rw [hP4.length_eq, List.length_cons]
  have hsz1 : (zeo y).toList.length = 1 := by unfold zeo; rw [HF.out.2]; rfl
  have hqc := (st3.at_.below (zaf yyr)).qc hp
  have hx4 : (s.ls.set t (v4, bs4))[t]? = some (v4, bs4) := by
   rw [List.getElem?_set, if_pos rfl, if_pos (yyk.1 hx).1]
  have hLen : ∀ w, Below w4.heap.size w4 w → Calls Tryz.prog 175 #[.pointer (some ⟨p, 0, none⟩)] w fun e w' => e = .returned (.int .i64 (zaq bs4).length) ∧ Below w.heap.size w w' := fun w hb => zzx (hL4.below hb) (by omega) (by unfold NB at hlen; omega)
  obtain ⟨n4, hn4'⟩ : ∃ n4, (zaq bs4).length = n4 := ⟨_, rfl⟩
  rw [hn4'] at hLen
  have HLen := yyh hLen
  have H3 := yyh (yyi st3 (yyi hP4 (yyi hn4' hL4)))
  have HQ := yyh hqc
  have hk4 : n4 ≤ 19 := by unfold NB at hlen; omega
  clear hL4 hP4 hn4 hv4 hF4 hp hx hy hsz hlen hbl st3 hp4 hsz1 hqc hx4 hLen hn4' d0 d1 d2 d3 z0 z1 do_
  go_upto_region 6 with fail
  go_cut [53] (fun v53 w => v53 = .bool (decide (A.k < n4)) ∧ Below w4.heap.size w4 w)
  case first =>
   skip
   -- REGION 6 BEGIN
   refine wp_region_held_drew (S := QC A t p) (by kernel_rfl) HQ.out (fun hH => ?_)
   refine tq 0 ?_ rfl ?_ ?_
   rotate_left
   · (rintro w ⟨_, _, _, _⟩; go_simp; try with_reducible rfl)
   try simp only [Act.put, pA, pB, pC]
   refine tq 1 ?_ rfl ?_ ?_
   rotate_left
   · (rintro w ⟨_, _, _, _⟩; go_simp; try with_reducible rfl)
   try simp only [Act.put, pA, pB, pC]
   refine tq 2 ?_ rfl ?_ ?_
   rotate_left
   · (rintro w ⟨_, _, _, _⟩; go_simp; try with_reducible rfl)
   try simp only [Act.put, pA, pB, pC]
   refine tq 3 ?_ rfl ?_ ?_
   rotate_left
   · (rintro w ⟨_, _, _, _⟩; go_simp; try with_reducible rfl)
   try simp only [Act.put, pA, pB, pC]
   refine tq 4 ?_ rfl ?_ ?_
   rotate_left
   · (rintro w ⟨_, _, _, _⟩; go_simp; try with_reducible rfl)
   try simp only [Act.put, pA, pB, pC]
   refine tq 5 ?_ rfl ?_ ?_
   rotate_left
   · (rintro w ⟨_, _, _, _⟩; go_simp; try with_reducible rfl)
   try simp only [Act.put, pA, pB, pC]
   refine tq 6 ?_ rfl ?_ ?_
   rotate_left
   · (rintro w ⟨_, _, _, _⟩; go_simp; try with_reducible rfl)
   try simp only [Act.put, pA, pB, pC]
   refine tq 8 ?_ rfl ?_ ?_
   rotate_left
   · (rintro w ⟨_, _, _, _⟩; go_simp; try with_reducible rfl)
   try simp only [Act.put, pA, pB, pC]
   refine tq 9 ?_ rfl ?_ ?_
   rotate_left
   · (rintro w ⟨_, _, _, _⟩; go_simp; try with_reducible rfl)
   try simp only [Act.put, pA, pB, pC]
   refine tq 10 ?_ rfl ?_ ?_
   rotate_left
   · (rintro w ⟨_, _, _, _⟩; go_simp; try with_reducible rfl)
   try simp only [Act.put, pA, pB, pC]
   refine tq 11 ?_ rfl ?_ ?_
   rotate_left
   · (rintro w ⟨_, _, _, _⟩; go_simp; try with_reducible rfl)
   try simp only [Act.put, pA, pB, pC]
   refine rd 7 (by kernel_rfl) rfl (fun K hK => ?_)
   ·
    (go_simp; go_at_call 175; refine (HLen.out _ (zaf yyr)).mono ?_; rintro e w5 ⟨rfl, hB5⟩; have HB5 := yyh hB5; clear hB5)
    refine hK.out _ _ ?_ (fun hH => ?_)
    · (try dsimp only); (exact ⟨zae HB5.out hH.1, zae HB5.out hH.2.1, zae HB5.out hH.2.2.1, zae HB5.out hH.2.2.2⟩)
    clear hK K
    refine rd 12 (by kernel_rfl) rfl (fun K hK => ?_)
    ·
     (go_simp)
     refine hK.out _ _ ?_ (fun hH => ?_)
     · (try dsimp only); (exact hH)
     clear hK K
     refine wpAnyH_done (by kernel_rfl) ?_ _
     go_wp2_with fail
     go_meet
     exact ⟨rfl, zad HB5.out (zaf yyr)⟩
   -- REGION 6 END
  case rest =>
   obtain ⟨rfl, hB5⟩ := hcut
   obtain ⟨st3, hP4, hn4', hL4⟩ := H3.out
   obtain ⟨hp, hx, hy, hsz, hlen, hbl⟩ := HP.out
   have st5 := st3.trans (zbp.below st3.at_ hB5)
   by_cases hk : A.k < n4
   ·
    have gk : decide (A.k < n4) = true := by rw [decide_eq_true_eq]; omega
    have st5d := st5.trans (zbp.below st5.at_ (zaf yyr))
    have hx4 : (s.ls.set t (v4, bs4))[t]? = some (v4, bs4) := by
     rw [List.getElem?_set, if_pos rfl, if_pos (yyk.1 hx).1]
    have hsz1 : (zeo y).toList.length = 1 := by unfold zeo; rw [HF.out.2]; rfl
    have hp4 : (zaq bs4).length = (zaq x.2).length + 1 := by rw [hP4.length_eq, List.length_cons]
    have hDr := zxb (st5d.at_.lsm t p _ hp hx4) (by have h9 : bs4.length ≤ (zaq bs4).length := zez (st5d.at_.lsm t p _ hp hx4); unfold NB at hlen; show bs4.length ≤ _; omega) (by unfold NB at hlen; show (zaq bs4).length ≤ _; omega)
    have hAdd : ∀ v6 w6, zay w6 v6 (zaj (zaq bs4)) → zbi w6 p 0 (.slice none 0 0) [] → Fr (fun k => k = p) wc.drew w6 → QC A t p w6 ∧ Calls Tryz.prog 176 #[.pointer (some ⟨A.hp, 0, none⟩), v6] w6 fun e w' => e = .returned (.tuple #[]) ∧ ∃ s', zbp W1 A s w' s' ∧ s'.q A.k = (s.q A.k).settle t := fun v6 w6 hE6 hL6 hF6 => by
     have st6 := st5d.trans (st5d.at_.setLs hp hx4 hL6 (hF6.mono (fun k hk => .inl hk)) (.inr (fun c hc => nomatch hc)))
     refine ⟨st6.at_.qc hp, (zz6 st6.at_.sh hE6 (by rw [zam]; show (zaq bs4).length + (zaq s.bs).length ≤ _; omega)).mono ?_⟩
     rintro e w7 ⟨rfl, v7, bs7, hS7, hP7, hv7, hF7⟩
     exact ⟨rfl, _, st6.trans (st6.at_.setSh hS7 hF7 hv7), zph hy hx HF.out.2 rfl hP4 (by omega) hP7⟩
    have HDr := yyh hDr
    have HAdd := yyh hAdd
    have HQ5 := yyh (st5d.at_.qc hp)
    have HBW := yyh (zbp.below H.out.1 H1.out.2)
    clear st3 hP4 hn4' hL4 hp hx hy hsz hlen hbl st5 hB5 st5d hx4 hsz1 hp4 hDr hAdd
    go_upto_region 7 with fail
    -- REGION 7 BEGIN
    refine wp_region_held_drew (S := QC A t p) (by kernel_rfl) HQ5.out (fun hH => ?_)
    refine tq 0 ?_ rfl ?_ ?_
    rotate_left
    · (rintro w ⟨_, _, _, _⟩; go_simp; try with_reducible rfl)
    try simp only [Act.put, pA, pB, pC]
    refine tq 1 ?_ rfl ?_ ?_
    rotate_left
    · (rintro w ⟨_, _, _, _⟩; go_simp; try with_reducible rfl)
    try simp only [Act.put, pA, pB, pC]
    refine tq 2 ?_ rfl ?_ ?_
    rotate_left
    · (rintro w ⟨_, _, _, _⟩; go_simp; try with_reducible rfl)
    try simp only [Act.put, pA, pB, pC]
    refine tq 3 ?_ rfl ?_ ?_
    rotate_left
    · (rintro w ⟨_, _, _, _⟩; go_simp; try with_reducible rfl)
    try simp only [Act.put, pA, pB, pC]
    refine tq 4 ?_ rfl ?_ ?_
    rotate_left
    · (rintro w ⟨_, _, _, _⟩; go_simp; try with_reducible rfl)
    try simp only [Act.put, pA, pB, pC]
    refine tq 5 ?_ rfl ?_ ?_
    rotate_left
    · (rintro w ⟨_, _, _, _⟩; go_simp; try with_reducible rfl)
    try simp only [Act.put, pA, pB, pC]
    refine tq 6 ?_ rfl ?_ ?_
    rotate_left
    · (rintro w ⟨_, _, _, _⟩; go_simp; try with_reducible rfl)
    try simp only [Act.put, pA, pB, pC]
    refine tq 7 ?_ rfl ?_ ?_
    rotate_left
    · (rintro w ⟨_, _, _, _⟩; go_simp; try with_reducible rfl)
    try simp only [Act.put, pA, pB, pC]
    refine tq 8 ?_ rfl ?_ ?_
    rotate_left
    · (rintro w ⟨_, _, _, _⟩; go_simp; try with_reducible rfl)
    try simp only [Act.put, pA, pB, pC]
    refine tq 9 ?_ rfl ?_ ?_
    rotate_left
    · (rintro w ⟨_, _, _, _⟩; go_simp; try with_reducible rfl)
    try simp only [Act.put, pA, pB, pC]
    refine tq 10 ?_ rfl ?_ ?_
    rotate_left
    · (rintro w ⟨_, _, _, _⟩; go_simp; try with_reducible rfl)
    try simp only [Act.put, pA, pB, pC]
    refine rd 11 (by kernel_rfl) rfl (fun K hK => ?_)
    ·
     (go_simp; go_at_call 177; refine HDr.out.mono ?_; rintro e w6 ⟨v6, rfl, hE6, -, hL6, hF6⟩; have HA6 := yyh (HAdd.out v6 w6 hE6 hL6 hF6); clear hE6 hL6 hF6)
     refine hK.out _ _ ?_ (fun hH => ?_)
     · (try dsimp only); (exact HA6.out.1)
     clear hK K
     refine rd 12 (by kernel_rfl) rfl (fun K hK => ?_)
     ·
      (go_simp; go_at_call 176; refine HA6.out.2.mono ?_; rintro e w7 ⟨rfl, hE7⟩; have HE7 := yyh hE7; clear hE7)
      refine hK.out _ _ ?_ (fun hH => ?_)
      · (try dsimp only); (obtain ⟨s7, e1, e2⟩ := HE7.out; exact e1.at_.qc HP.out.1)
      clear hK K
      refine wpAnyH_done (by kernel_rfl) ?_ _
      go_wp2_with fail
      go_ret
      obtain ⟨s', e1, e2⟩ := HE7.out
      exact ⟨by rw [HF.out.1]; rfl, s', HBW.out.trans e1, e2⟩
    -- REGION 7 END
   ·
    have gk : decide (A.k < n4) = false := by rw [decide_eq_false_iff_not]; omega
    have hmod := zpg (k := A.k) (y' := ⟨⟨0, 0⟩, false, vnx y.ver⟩) (v' := v4) hy hx HF.out.2 rfl hP4 (by omega)
    have HE := yyh (yyi ((zbp.below H.out.1 H1.out.2).trans st5) hmod)
    clear st3 hP4 hn4' hL4 hp hx hy hsz hlen hbl st5 hB5 hmod
    go_wp2_with fail
    go_ret
    exact ⟨by rw [HF.out.1]; rfl, _, HE.out.1, HE.out.2⟩
end
section
variable {W W' : World} {A : QA} {s : QS}
theorem zbp.heap {s' : QS} (k : zbp W A s W' s') {b : Nat} {o : Obj} (hb : ¬ zcx A s b) (hc : W.heap[b]? = some o) : W'.heap[b]? = some o := (k.fr.block _ (zac hc) hb).trans hc
theorem QS.slot_of {k t : Nat} (h : (s.q k).slots[t]? = some none) : ∃ y, s.ss[t]? = some y ∧ y.full = false := by
 change (s.ss.map zeo)[t]? = _ at h
 rw [List.getElem?_map] at h
 obtain ⟨y, hy, e⟩ := Option.map_eq_some_iff.1 h
 refine ⟨y, hy, ?_⟩
 unfold zeo at e
 cases hf : y.full with
 | false => rfl
 | true => rw [hf] at e; cases e
theorem zy0 (h : QAt W A s) (hq : (s.q A.k).Ok) (t : Nat) (ht : t < A.lp.length) (e : En) : Calls Tryz.prog 78 #[.pointer (some ⟨A.qp, 0, none⟩), .int .i64 t, enV e] W fun r w' => r = .returned (.int .i64 0) ∧ ∃ s', zbp W A s w' s' ∧ s'.q A.k = (s.q A.k).put t e := by
 obtain ⟨W1, hW1⟩ := yye (W.alloc (.cells #[.int .u64 e.key, .int .i64 e.id] 63))
 have hB1 : Below W.heap.size W W1 := by rw [← hW1]; exact zab yyr _
 obtain ⟨xb, hxb⟩ := yye (W.heap.size)
 have hx1 : W1.heap[xb]? = some (.cells #[.int .u64 e.key, .int .i64 e.id] 63 (0, 0)) := by rw [← hW1, ← hxb]; exact heap_alloc_new W _
 have h1 := h.below hB1
 have hnx : ¬ zcx A s xb := fun hj => by have := h.lt hj; omega
 have HT := yyh (zln h1 t ht)
 have HS := yyh (zmr h1 hq t ht)
 have H := yyh (yyi h (yyi h1 (yyi hB1 (yyi hx1 hnx))))
 have hln : (s.q A.k).slots.length = A.lp.length ∧ (s.q A.k).own.length = A.lp.length := ⟨by show (s.ss.map _).length = _; rw [List.length_map]; exact h.sln, by show (s.ls.map _).length = _; rw [List.length_map]; exact h.lsn⟩
 have HN := yyh hln
 clear h h1 hB1 hx1 hnx hq hln
 unfold enV
 go_enter Tryz.func78, Tryz.ntmps78
 go_wp2_with fail
 refine HT.out.mono ?_
 rintro e1 w1 ⟨rfl, rfl⟩
 go_wp2_with fail
 refine HS.out.mono ?_
 rintro e2 w2 ⟨rfl, s2, st2, hm2⟩
 obtain ⟨h, h1, hB1, hx1, hnx⟩ := H.out
 have st3 := st2.trans (zbp.below st2.at_ (zaf yyr))
 have hx2 := st3.heap hnx hx1
 obtain ⟨x0, x1, -, -⟩ := zao hx2
 obtain ⟨c0, c1, c2, c3⟩ := st3.at_.cells
 have hsl := zg8 (s.q A.k) t (by rw [HN.out.1]; exact ht) (by rw [HN.out.1, HN.out.2])
 rw [← hm2] at hsl
 obtain ⟨y, hy, hf⟩ := QS.slot_of hsl
 have hPut := zr1 st3.at_.sl t y hy hf e
 unfold enV at hPut
 have HP := yyh hPut
 have HK := yyh (yyi st3 (yyi hm2 hy))
 clear h h1 hB1 hx1 hnx st2 st3 hm2 hx2 hsl hy hf hPut
 go_upto_region 4 with fail
 refine wp_region_still_tail 6 (by kernel_rfl) (by kernel_rfl) ?_
 simp only [List.take_succ_cons, List.take_zero, List.drop_succ_cons, List.drop_zero]
 iterate 6 still_step
 refine wpStill_nil ?_
 change wpList _ _ _ _ _ w2.drew
 go_wp2_with fail
 refine HP.out.mono ?_
 rintro e3 w3 ⟨rfl, hS3, hF3⟩
 have HX := yyh (yyi hS3 hF3)
 clear hS3 hF3
 go_wp2_with fail
 go_ret
 obtain ⟨st3, hm2, hy⟩ := HK.out
 obtain ⟨h, h1, hB1, hx1, hnx⟩ := H.out
 have st4 := st3.trans (st3.at_.setSl HX.out.1 HX.out.2 (by rw [List.length_set]))
 refine ⟨rfl, _, (zbp.below h hB1).trans st4, ?_⟩
 unfold QM.put
 rw [← hm2]
 show QM.mk A.k ((s2.ss.set t _).map zeo) _ _ = QM.mk A.k ((s2.ss.map zeo).set t (some e)) _ _
 rw [List.map_set]
 rfl
end
section
variable {W W' : World} {A : QA} {s : QS}
def zvd (W W' : World) (v : Value) (l : List En) : Prop := zay W' v l ∧ (∀ c, v.ownBlock = some c → W.heap.size ≤ c) ∧ Below W.heap.size W W'
theorem zpj (h : QAt W A s) : Calls Tryz.prog 49 #[.pointer (some ⟨A.qp, 0, none⟩)] W fun e w' => ∃ v, e = .returned v ∧ zvd W w' v (zbc (s.q A.k).slots) := by
 obtain ⟨-, c1, -, -⟩ := h.cells
 have HA := yyh (zmp h.sl)
 clear h
 go_enter Tryz.func49, Tryz.ntmps49
 go_wp2_with fail
 refine HA.out.mono ?_
 rintro e w1 ⟨v, rfl, h1, h2, h3⟩
 have HX := yyh (yyi h1 (yyi h2 h3))
 clear h1 h2 h3
 go_wp2_with fail
 go_ret
 obtain ⟨h1, h2, h3⟩ := HX.out
 exact ⟨v, rfl, by rw [zkd] at h1; exact h1, h2, h3⟩
theorem zms (h : QAt W A s) (hN : (zaq s.bs).length ≤ NB) : Calls Tryz.prog 50 #[.pointer (some ⟨A.qp, 0, none⟩)] W fun e w' => ∃ v, e = .returned v ∧ zvd W w' v (s.q A.k).sh := by
 obtain ⟨-, -, -, c3⟩ := h.cells
 have HA := yyh (zz4 h.sh hN)
 clear h
 go_enter Tryz.func50, Tryz.ntmps50
 go_wp2_with fail
 refine HA.out.mono ?_
 rintro e w1 ⟨v, rfl, h1, h2, h3⟩
 have HX := yyh (yyi h1 (yyi h2 h3))
 clear h1 h2 h3
 go_wp2_with fail
 go_ret
 obtain ⟨h1, h2, h3⟩ := HX.out
 exact ⟨v, rfl, h1, h2, h3⟩
theorem zve (h : QAt W A s) (hN : (s.q A.k).all.length ≤ 1000) (t : Nat) (ht : t < A.lp.length) : Calls Tryz.prog 52 #[.pointer (some ⟨A.qp, 0, none⟩), .int .i64 t] W fun e w' => ∃ v, e = .returned v ∧ zvd W w' v ((s.q A.k).own.getD t []) := by
 obtain ⟨-, -, c2, -⟩ := h.cells
 obtain ⟨p, x, y, hp, hx, hy, hL⟩ := h.thread ht
 have co := h.ocell hp
 have hsz := QS.sizes (k := A.k) hy hx
 have hb := zez hL
 have HA := yyh (zyt hL (by omega) (by omega))
 have hg : (s.q A.k).own.getD t [] = zaj (zaq x.2) := by rw [yyd, QS.own_at hx]; rfl
 have HG := yyh hg
 have HT := yyh (zln h t ht)
 have hn := h.num
 have ht2 : (t : Int) < (A.lp.length : Int) := by omega
 have hge0 : decide ((t : Int) < 0) = false := by simp
 have hoc : (A.oc : Int) ≤ 9223372036854775807 := by have := hn.2.2.2.1; unfold maxLen at this; omega
 clear h hp hx hy hsz hL hb hg hN
 go_enter Tryz.func52, Tryz.ntmps52
 go_wp2_with fail
 refine HT.out.mono ?_
 rintro e1 w1 ⟨rfl, rfl⟩
 go_wp2_with fail
 refine HA.out.mono ?_
 rintro e w1 ⟨v, rfl, h1, h2, h3⟩
 have HX := yyh (yyi h1 (yyi h2 h3))
 clear h1 h2 h3
 go_wp2_with fail
 go_ret
 obtain ⟨h1, h2, h3⟩ := HX.out
 exact ⟨v, rfl, by rw [HG.out]; exact h1, h2, h3⟩
def zkz (q : QM) (i : Nat) : List En := zbc q.slots ++ q.sh ++ (q.own.take i).flatten
theorem zmt (q : QM) (i : Nat) : (zkz q i).length ≤ q.all.length := by
 unfold zkz QM.all
 have h1 : (q.own.take i).flatten.length ≤ q.own.flatten.length := by
  have e : q.own.flatten = (q.own.take i).flatten ++ (q.own.drop i).flatten := by rw [← List.flatten_append, List.take_append_drop]
  rw [e, List.length_append]
  omega
 simp only [List.length_append]
 omega
theorem zkf (q : QM) (i : Nat) (l : List En) (h : q.own[i]? = some l) : zkz q (i + 1) = zkz q i ++ l := by
 unfold zkz
 rw [List.take_add_one, h, List.flatten_append, ← List.append_assoc]
 simp
theorem zr4 (q : QM) : (zkz q q.own.length).Perm q.all := by
 unfold zkz QM.all
 rw [List.take_length, List.append_assoc, List.append_assoc]
 exact List.perm_append_comm.append_left _
theorem zpk {q : QM} {i : Nat} {l : List En} (h : q.own[i]? = some l) (hs : zbh l) : zb6 (zaj (zkz q i)) l = zaj (zkz q (i + 1)) := by
 rw [zkf q i l h, zc1 (zbb _) hs, zdk]
theorem zy1 (h : QAt W A s) (hq : (s.q A.k).Ok) : Calls Tryz.prog 262 #[.pointer (some ⟨A.qp, 0, none⟩)] W fun e w' => ∃ v, e = .returned v ∧ zvd W w' v (zaj (s.q A.k).all) := by
 obtain ⟨-, -, c2, -⟩ := h.cells
 have hlen := hq.len
 have hsl : (zbc (s.q A.k).slots).length ≤ NB ∧ (zaq s.bs).length ≤ NB := by
  have e : (s.q A.k).sh.length = (zaq s.bs).length := zam _
  unfold QM.all at hlen
  simp only [List.length_append] at hlen
  omega
 have HS := yyh (zpj h)
 have HSh := yyh (fun (w : World) (hb : Below W.heap.size W w) => zms (h.below hb) hsl.2)
 have hn := h.num
 have hoc : (A.oc : Int) ≤ 9223372036854775807 := by have := hn.2.2.2.1; unfold maxLen at this; omega
 have H := yyh (yyi h (yyi hq hsl))
 clear h hq hlen hsl
 go_enter Tryz.func262, Tryz.ntmps262
 go_wp2_with fail
 refine HS.out.mono ?_
 rintro e w1 ⟨v1, rfl, h1, h2, h3⟩
 have hSo := zrm H.out.2.2.1 h1
 have HSo := yyh (yyi hSo h3)
 clear h1 h2 h3 hSo
 go_wp2_with fail
 refine HSo.out.1.mono ?_
 rintro e w2 ⟨v2, rfl, hE2, hg2, hB2⟩
 have hB2 := zad hB2 HSo.out.2
 have HSW := yyh (yyi (HSh.out w2 hB2) (yyi hE2 hB2))
 clear hE2 hg2 hB2
 go_wp2_with fail
 refine HSW.out.1.mono ?_
 rintro e w3 ⟨v3, rfl, h1, h2, h3⟩
 obtain ⟨-, hE2, hB2⟩ := HSW.out
 have hM := zoy (W := w3) (by rw [zam]; have e : (s.q A.k).sh.length = (zaq s.bs).length := zam _; have := H.out.2.2; unfold NB at this; omega) (zay.below hE2 h3) h1
 rw [zc1 (zbb _) H.out.2.1.sh, zdk] at hM
 have HM := yyh (yyi hM (zad h3 hB2))
 clear hE2 hB2 h1 h2 h3 hM
 go_wp2_with fail
 refine HM.out.1.mono ?_
 rintro e w4 ⟨v4, rfl, hO4, hB4⟩
 have hB4 := zad hB4 HM.out.2
 have hT4 : zvd W w4 v4 (zaj (zkz (s.q A.k) 0)) := ⟨by
  unfold zkz
  rw [List.take_zero]
  simpa using hO4.es, fun c hc => Nat.le_trans HM.out.2.size (hO4.ge c hc), hB4⟩
 obtain ⟨c20, c21, c22, c23⟩ := (H.out.1.below hB4).cells
 have HT4 := yyh hT4
 clear hO4 hB4 hT4
 go_wp2_with fail
 go_loopg [3, 17] A.lp.length (fun gg v3 v17 wr => ∃ i : Nat, i ≤ A.lp.length ∧ gg = A.lp.length - i ∧ v17 = .int .i64 i ∧ Aside (zvd W wr v3 (zaj (zkz (s.q A.k) i))))
 case atStart => exact ⟨0, by omega, by omega, rfl, (show Aside _ from HT4.out)⟩
 case round =>
  obtain ⟨i, hi, rfl, rfl, A1⟩ := hrel
  obtain ⟨hE, hge, hB⟩ := A1.out
  clear A1
  by_cases hlt : i < A.lp.length
  ·
   obtain ⟨p, x, y, hp, hx, hy, hL⟩ := (H.out.1.below hB).thread hlt
   have co := (H.out.1.below hB).ocell hp
   have hsz := QS.sizes (k := A.k) hy hx
   have hb := zez hL
   have hlen := H.out.2.1.len
   unfold NB at hlen
   have HA := yyh (zyt hL (by omega) (by omega))
   have hi2 : (i : Int) < (A.lp.length : Int) := by omega
   have HX := yyh (yyi hE (yyi hge (yyi hB (yyi hx hlen))))
   clear hE hge hB hp hx hy hL hsz hb hlen
   go_wp2_with fail
   refine HA.out.mono ?_
   rintro e w5 ⟨v5, rfl, hE5, hg5, hB5⟩
   obtain ⟨hE, hge, hB, hx, hlen⟩ := HX.out
   have hI := zmt (s.q A.k) i
   have hI1 := zmt (s.q A.k) (i + 1)
   have hown := QS.own_at (k := A.k) hx
   have hnx := zkf _ _ _ hown
   have hl1 : (zaj (zkz (s.q A.k) i)).length + (zaj (zaq x.2)).length ≤ 1000 := by
    have := congrArg List.length hnx
    rw [List.length_append] at this
    rw [zam (zkz _ _)]
    omega
   have hM := zoy (W := w5) hl1 (zay.below hE hB5) hE5
   rw [zpk hown (zbb _)] at hM
   have HM5 := yyh (yyi hM (zad hB5 hB))
   clear hE hge hB hx hlen hI hI1 hown hnx hl1 hM hE5 hg5 hB5
   go_wp2_with fail
   refine HM5.out.1.mono ?_
   rintro e w6 ⟨v6, rfl, hO6, hB6⟩
   have HO6 := yyh (show zvd W w6 v6 (zaj (zkz (s.q A.k) (i + 1))) from ⟨hO6.es, fun c hc => Nat.le_trans HM5.out.2.size (hO6.ge c hc), zad hB6 HM5.out.2⟩)
   clear hO6 hB6
   go_wp2_with fail
   go_roundg (A.lp.length - (i + 1))
   case measure => omega
   case rel => exact ⟨i + 1, by omega, rfl, by go_num, (show Aside _ from HO6.out)⟩
  ·
   have hie : i = A.lp.length := by omega
   have hol : (s.q A.k).own.length = i := by rw [hie]; show (s.ls.map _).length = _; rw [List.length_map]; exact H.out.1.lsn
   have hfin : zaj (zkz (s.q A.k) i) = zaj (s.q A.k).all := by rw [← hol]; exact zbw (zr4 _)
   rw [hfin] at hE
   have HC := yyh (zh0 hE)
   have HG := yyh (yyi hge hB)
   have hnl : ¬ ((i : Int) < (A.lp.length : Int)) := by omega
   clear hE hge hB hfin hol hie
   go_wp2_with fail
   refine HC.out.mono ?_
   rintro e w5 ⟨v5, rfl, hE5, hv5, rfl⟩
   have HE := yyh (yyi hE5 hv5)
   clear hE5 hv5
   go_wp2_with fail
   go_ret
   exact ⟨v5, rfl, HE.out.1, fun c hc => HG.out.1 c (by rw [← HE.out.2]; exact hc), HG.out.2⟩
end
theorem zfh (l : List En) : zxc l = ziy l.head? := by cases l <;> rfl
theorem zkg (W : World) (v : Value) : (W.alloc (.cells #[v] 42)).cell? ⟨W.heap.size, 0, none⟩ = some v := zda W _ _ 0
section
variable {W W' : World} {A : QA} {s : QS}
theorem zvf (h : QAt W A s) (hq : (s.q A.k).Ok) : Calls Tryz.prog 216 #[.pointer (some ⟨A.qp, 0, none⟩)] W fun e w' => e = .returned (ziy (zaj (s.q A.k).all).head?) ∧ Below W.heap.size W w' := by
 obtain ⟨W1, hW1⟩ := yye (W.alloc (.cells #[.int .u64 0, .int .i64 0] 63))
 have hB1 : Below W.heap.size W W1 := by rw [← hW1]; exact zab yyr _
 obtain ⟨xb, hxb⟩ := yye (W.heap.size)
 have hx1 : W1.heap[xb]? = some (.cells #[.int .u64 0, .int .i64 0] 63 (0, 0)) := by rw [← hW1, ← hxb]; exact heap_alloc_new W _
 have HA := yyh (zy1 (h.below hB1) hq)
 have HS := yyh (yyi hB1 (yyi hxb hx1))
 generalize zaj (s.q A.k).all = l at *
 clear h hq hB1 hx1
 go_enter Tryz.func216, Tryz.ntmps216
 go_wp2_with fail
 refine HA.out.mono ?_
 rintro e w1 ⟨v1, rfl, hE, -, hB⟩
 obtain ⟨hB1, hxb', hx1⟩ := HS.out
 obtain ⟨W2, hW2⟩ := yye (w1.alloc (.cells #[v1] 42))
 have hB2 : Below w1.heap.size w1 W2 := by rw [← hW2]; exact zab yyr _
 have hL := ztb (W := W2) (q := w1.heap.size) (v := v1) (l := l) (by rw [← hW2]; exact zkg w1 v1) (zay.below hE hB2)
 unfold zpe at hL
 have hx2 := (hB2.block _ (zac ((hB.block _ (zac hx1)).trans hx1))).trans ((hB.block _ (zac hx1)).trans hx1)
 have HL := yyh (yyi hL (yyi (zad hB2 (zad hB hB1)) hx2))
 obtain ⟨a1, k1, rfl, -⟩ := SlV.clip hE
 obtain ⟨n1, hn1⟩ := yye (l.length)
 rw [hn1] at hW2 ⊢
 clear hB1 hxb' hx1 hB hE hB2 hL hx2 hn1
 go_wp2_with fail
 refine HL.out.1.mono ?_
 rintro e w3 ⟨rfl, hB3⟩
 have hx3 := (hB3.block _ (zac HL.out.2.2)).trans HL.out.2.2
 obtain ⟨x0, x1, x2, x3⟩ := zao hx3
 have hxl := zac hx3
 have hBW := zad hB3 HL.out.2.1
 have e0 : ziy l.head? = .tuple #[enV (l.headD ⟨0, 0⟩), .bool (!l.isEmpty)] := (zfh l).symm
 have HE := yyh (yyi e0 (yyi hBW hxb))
 unfold enV
 clear hx3 hB3 hBW hxb e0 hW2
 generalize l.headD ⟨0, 0⟩ = x at *
 generalize (!l.isEmpty) = r at *
 have hne : ¬ xb = w3.heap.size := by omega
 go_wp2_with fail
 refine bodyPost_ret (v := .tuple #[.agg #[.int .u64 x.key, .int .i64 x.id], .bool r]) (by simp [results, Tryz.results216, go_sem, x0, x1, hne, hxl]) rfl ?_
 obtain ⟨e0, hBW, hxb⟩ := HE.out
 refine ⟨by rw [e0]; rfl, ?_⟩
 refine zab (zak (zak hBW _ _ _ ?_) _ _ _ ?_) _ <;> omega
end
def QM.look (q : QM) (t i : Nat) : Option En := (q.own.getD ((t + 1 + i) % q.own.length) []).head?
def QM.round (q : QM) (t : Nat) : Option En :=
 match (List.range q.own.length).findSome? (q.look t) with
 | some e => some e
 | none => (zaj (zbc q.slots)).head?
theorem znx {α : Type} (f : Nat → Option α) (n i : Nat) (e : α) (hi : i < n) (h : ∀ j, j < i → f j = none) (he : f i = some e) : (List.range n).findSome? f = some e := by
 have hs : List.range n = List.range i ++ [i] ++ (List.range n).drop (i + 1) := by
  conv => lhs; rw [← List.take_append_drop (i + 1) (List.range n)]
  congr 1
  rw [List.take_range, Nat.min_eq_left (by omega), List.range_succ]
 rw [hs, List.findSome?_append, List.findSome?_append]
 have h1 : (List.range i).findSome? f = none := by
  rw [List.findSome?_eq_none_iff]
  intro j hj
  exact h j (List.mem_range.1 hj)
 rw [h1]
 simp [he]
theorem zpl {α : Type} (f : Nat → Option α) (n : Nat) (h : ∀ j, j < n → f j = none) : (List.range n).findSome? f = none := by
 rw [List.findSome?_eq_none_iff]
 intro j hj
 exact h j (List.mem_range.1 hj)
section
variable {W W' : World} {A : QA} {s : QS}
def RM (wr : World) (x : En) (r : Bool) (v7 v8 : Value) (w : World) : Prop := ∃ yb, v7 = .pointer (some ⟨yb, 0, none⟩) ∧ v8 = .bool r ∧ w.heap[yb]? = some (.cells #[.int .u64 x.key, .int .i64 x.id] 63 (0, 0)) ∧ Below wr.heap.size wr w ∧ wr.heap.size ≤ yb
theorem QC.below {t p : Nat} {w w' : World} (h : QC A t p w) (hb : Below w.heap.size w w') : QC A t p w' := ⟨zae hb h.1, zae hb h.2.1, zae hb h.2.2.1, zae hb h.2.2.2⟩
theorem QC.al {t p : Nat} {w : World} (h : QC A t p w) (o : Obj) : QC A t p (w.alloc o) := h.below (zab yyr _)
theorem QC.set {t p b i : Nat} {w : World} {u : Value} (h : QC A t p w) (hq : A.qp ≠ b) (ho : A.ob ≠ b) : QC A t p (w.setCell ⟨b, i, none⟩ u) := by
 have f : Fr (fun k => k = b) w (w.setCell ⟨b, i, none⟩ u) := Fr.set (S := fun k => k = b) (Fr.refl _ _) (p := ⟨b, i, none⟩) rfl _
 exact ⟨za6 f hq h.1, za6 f hq h.2.1, za6 f hq h.2.2.1, za6 f ho h.2.2.2⟩
theorem QC.lt {t p : Nat} {w : World} (h : QC A t p w) : A.qp < w.heap.size ∧ A.ob < w.heap.size := ⟨World.block_lt_of_cell? w _ h.1, World.block_lt_of_cell? w _ h.2.2.2⟩
def zpm (o : Option En) : En := o.getD ⟨0, 0⟩
theorem QS.own_head {k t : Nat} {x : Value × List Bk} (hx : s.ls[t]? = some x) : (s.q k).own.getD t [] = zaj (zaq x.2) := by rw [yyd, QS.own_at hx]; rfl
theorem zvg (h : QAt W A s) (hq : (s.q A.k).Ok) (t : Nat) (ht : t < A.lp.length) : Calls Tryz.prog 260 #[.pointer (some ⟨A.qp, 0, none⟩), .int .i64 t] W fun e w' => e = .returned (ziy ((s.q A.k).round t)) ∧ Below W.heap.size W w' := by
 obtain ⟨W1, hW1⟩ := yye (W.alloc (.cells #[.int .u64 0, .int .i64 0] 63))
 have hB1 : Below W.heap.size W W1 := by rw [← hW1]; exact zab yyr _
 obtain ⟨xb, hxb⟩ := yye (W.heap.size)
 have hx1 : W1.heap[xb]? = some (.cells #[.int .u64 0, .int .i64 0] 63 (0, 0)) := by rw [← hW1, ← hxb]; exact heap_alloc_new W _
 have h1 := h.below hB1
 obtain ⟨c0, c1, c2, c3⟩ := h1.cells
 have hn := h.num
 have hoc : (A.oc : Int) ≤ 9223372036854775807 := by have := hn.2.2.2.1; unfold maxLen at this; omega
 have hol : (s.q A.k).own.length = A.lp.length := by show (s.ls.map _).length = _; rw [List.length_map]; exact h.lsn
 have H := yyh (yyi h1 (yyi hq (yyi hB1 (yyi hxb (yyi hx1 hol)))))
 obtain ⟨T, hT⟩ := yye (A.lp.length)
 have HT := yyh hT
 rw [hT] at c2 ht hn
 clear h h1 hB1 hx1 hq hol hT
 go_enter Tryz.func260, Tryz.ntmps260
 go_wp2_with fail
 go_loopg [17] T (fun gg v17 wr => ∃ i : Nat, i ≤ T ∧ gg = T - i ∧ v17 = .int .i64 i ∧ Aside (Below W1.heap.size W1 wr ∧ ∀ j, j < i → (s.q A.k).look t j = none))
 case atStart => exact ⟨0, by omega, by omega, rfl, (show Aside _ from ⟨yyr, fun j hj => by omega⟩)⟩
 case round =>
  obtain ⟨i, hi, rfl, rfl, A1⟩ := hrel
  obtain ⟨hB, hno⟩ := A1.out
  clear A1
  by_cases hlt : i < T
  ·
   have hm : (t + 1 + i) % T < T := Nat.mod_lt _ (by omega)
   obtain ⟨m, hmm⟩ : ∃ m, (t + 1 + i) % T = m := ⟨_, rfl⟩
   rw [hmm] at hm
   obtain ⟨p, x, y, hp, hx, hy, hL⟩ := (H.out.1.below hB).thread (t := m) (by rw [HT.out]; exact hm)
   have hBd : Below W1.heap.size W1 wr.drew := zaf hB
   have hsz := QS.sizes (k := A.k) hy hx
   have hb := zez hL
   have hlen := H.out.2.1.len
   obtain ⟨X, hX⟩ := yye (zpm ((s.q A.k).look t i))
   obtain ⟨R, hR⟩ : ∃ R, ((s.q A.k).look t i).isSome = R := ⟨_, rfl⟩
   have HXR := yyh (yyi hX hR)
   have hMin : ∀ w, Below wr.heap.size wr w → Calls Tryz.prog 258 #[.pointer (some ⟨p, 0, none⟩)] w fun e w' => e = .returned (.tuple #[.agg #[.int .u64 X.key, .int .i64 X.id], .bool R]) ∧ Below w.heap.size w w' := fun w hw => by
    have := zzq (hL.below hw) (by unfold NB at hlen; omega) (by omega)
    rw [zfh] at this
    unfold QM.look at hX hR
    rw [H.out.2.2.2.2.2, HT.out, hmm, QS.own_head hx] at hX hR
    unfold ziy enV at this
    unfold zpm at hX
    rw [hX, hR] at this
    exact this
   have HMin := yyh hMin
   have hqc := (H.out.1.below hBd).qc hp
   have HQ := yyh hqc
   have HB := yyh (yyi hB hno)
   have e1 : IntKind.i64.wrap ((t : Int) + 1) = (t : Int) + 1 := by rw [IntKind.wrap_i64]; omega
   have e2 : IntKind.i64.wrap ((t : Int) + 1 + (i : Int)) = (t : Int) + 1 + (i : Int) := by rw [IntKind.wrap_i64]; omega
   have e3 : ((t : Int) + 1 + (i : Int)).tmod (T : Int) = (m : Int) := by
    rw [show ((t : Int) + 1 + (i : Int)) = ((t + 1 + i : Nat) : Int) from by omega, ← hmm]
    rfl
   have e4 : IntKind.i64.wrap (m : Int) = (m : Int) := by rw [IntKind.wrap_i64]; omega
   have e5 : ((T : Int) == 0) = false := by rw [beq_eq_false_iff_ne]; omega
   have e9 : ¬ T = 0 := by omega
   have e6 : (m : Int) < (T : Int) := by omega
   have e7 : (i : Int) < (T : Int) := by omega
   have e8 : decide ((m : Int) < 0) = false := by simp
   clear hB hno hp hx hy hL hBd hsz hb hlen hMin hqc hX hR
   go_upto_region 4 with fail
   go_cut [7, 8] (fun v7 v8 w => RM wr X R v7 v8 w)
   case first =>
    skip
    -- REGION 4 BEGIN
    refine wp_region_held_drew (S := QC A m p) (by kernel_rfl) HQ.out (fun hH => ?_)
    refine tq 0 ?_ rfl ?_ ?_
    rotate_left
    · (intro w hSw; obtain ⟨sw1, sw2, sw3, sw4⟩ := hSw; rw [HT.out] at sw2; go_simp; try with_reducible rfl)
    try simp only [Act.put, pA, pB, pC]
    refine tq 1 ?_ rfl ?_ ?_
    rotate_left
    · (intro w hSw; obtain ⟨sw1, sw2, sw3, sw4⟩ := hSw; rw [HT.out] at sw2; go_simp; try with_reducible rfl)
    try simp only [Act.put, pA, pB, pC]
    refine tq 2 ?_ rfl ?_ ?_
    rotate_left
    · (intro w hSw; obtain ⟨sw1, sw2, sw3, sw4⟩ := hSw; rw [HT.out] at sw2; go_simp; try with_reducible rfl)
    try simp only [Act.put, pA, pB, pC]
    refine tq 3 ?_ rfl ?_ ?_
    rotate_left
    · (intro w hSw; obtain ⟨sw1, sw2, sw3, sw4⟩ := hSw; rw [HT.out] at sw2; go_simp; try with_reducible rfl)
    try simp only [Act.put, pA, pB, pC]
    refine tq 4 ?_ rfl ?_ ?_
    rotate_left
    · (intro w hSw; obtain ⟨sw1, sw2, sw3, sw4⟩ := hSw; rw [HT.out] at sw2; go_simp; try with_reducible rfl)
    try simp only [Act.put, pA, pB, pC]
    refine tq 5 ?_ rfl ?_ ?_
    rotate_left
    · (intro w hSw; obtain ⟨sw1, sw2, sw3, sw4⟩ := hSw; rw [HT.out] at sw2; go_simp; try with_reducible rfl)
    try simp only [Act.put, pA, pB, pC]
    refine tq 6 ?_ rfl ?_ ?_
    rotate_left
    · (intro w hSw; obtain ⟨sw1, sw2, sw3, sw4⟩ := hSw; rw [HT.out] at sw2; go_simp; try with_reducible rfl)
    try simp only [Act.put, pA, pB, pC]
    refine tq 7 ?_ rfl ?_ ?_
    rotate_left
    · (intro w hSw; obtain ⟨sw1, sw2, sw3, sw4⟩ := hSw; rw [HT.out] at sw2; go_simp; try with_reducible rfl)
    try simp only [Act.put, pA, pB, pC]
    refine tq 8 ?_ rfl ?_ ?_
    rotate_left
    · (intro w hSw; obtain ⟨sw1, sw2, sw3, sw4⟩ := hSw; rw [HT.out] at sw2; go_simp; try with_reducible rfl)
    try simp only [Act.put, pA, pB, pC]
    refine tq 9 ?_ rfl ?_ ?_
    rotate_left
    · (intro w hSw; obtain ⟨sw1, sw2, sw3, sw4⟩ := hSw; rw [HT.out] at sw2; go_simp; try with_reducible rfl)
    try simp only [Act.put, pA, pB, pC]
    refine tq 10 ?_ rfl ?_ ?_
    rotate_left
    · (intro w hSw; obtain ⟨sw1, sw2, sw3, sw4⟩ := hSw; rw [HT.out] at sw2; go_simp; try with_reducible rfl)
    try simp only [Act.put, pA, pB, pC]
    refine tq 11 ?_ rfl ?_ ?_
    rotate_left
    · (intro w hSw; obtain ⟨sw1, sw2, sw3, sw4⟩ := hSw; rw [HT.out] at sw2; go_simp; try with_reducible rfl)
    try simp only [Act.put, pA, pB, pC]
    refine tq 12 ?_ rfl ?_ ?_
    rotate_left
    · (intro w hSw; obtain ⟨sw1, sw2, sw3, sw4⟩ := hSw; rw [HT.out] at sw2; go_simp; try with_reducible rfl)
    try simp only [Act.put, pA, pB, pC]
    refine tq 13 ?_ rfl ?_ ?_
    rotate_left
    · (intro w hSw; obtain ⟨sw1, sw2, sw3, sw4⟩ := hSw; rw [HT.out] at sw2; go_simp; try with_reducible rfl)
    try simp only [Act.put, pA, pB, pC]
    refine tq 14 ?_ rfl ?_ ?_
    rotate_left
    · (intro w hSw; obtain ⟨sw1, sw2, sw3, sw4⟩ := hSw; rw [HT.out] at sw2; go_simp; try with_reducible rfl)
    try simp only [Act.put, pA, pB, pC]
    refine tq 15 ?_ rfl ?_ ?_
    rotate_left
    · (intro w hSw; obtain ⟨sw1, sw2, sw3, sw4⟩ := hSw; rw [HT.out] at sw2; go_simp; try with_reducible rfl)
    try simp only [Act.put, pA, pB, pC]
    refine wpAnyH_ready (rs := [16, 20]) (by kernel_rfl) (by simp) ?_
    refine AllReadyH.cons rfl (fun K hK => ?_) ?_
    ·
     (go_simp; go_at_call 258; first | (refine (HMin.out _ (zaf yyr)).mono ?_; rintro e w5 ⟨rfl, hB5⟩; have HB5 := yyh hB5; have HQ5 := yyh (HQ.out.below hB5); clear hB5) | (refine (HMin.out _ (zab (zaf yyr) _)).mono ?_; rintro e w5 ⟨rfl, hB5⟩; have HB5 := yyh hB5; have HQ5 := yyh ((HQ.out.al _).below hB5); have hY5 := (hB5.block wr.heap.size (by simp)).trans (heap_alloc_new wr (.cells #[.int .u64 0, .int .i64 0] 63)); obtain ⟨y50, y51, y52, y53⟩ := zao hY5; have HY5 := yyh hY5; clear hB5 hY5))
     refine hK.out _ _ ?_ (fun hH => ?_)
     · (try dsimp only); (exact HQ5.out)
     clear hK K
     refine tq 17 ?_ rfl ?_ ?_
     rotate_left
     · (intro w hSw; obtain ⟨sw1, sw2, sw3, sw4⟩ := hSw; rw [HT.out] at sw2; go_simp; try with_reducible rfl)
     try simp only [Act.put, pA, pB, pC]
     refine tq 18 ?_ rfl ?_ ?_
     rotate_left
     · (intro w hSw; obtain ⟨sw1, sw2, sw3, sw4⟩ := hSw; rw [HT.out] at sw2; go_simp; try with_reducible rfl)
     try simp only [Act.put, pA, pB, pC]
     refine tq 19 ?_ rfl ?_ ?_
     rotate_left
     · (intro w hSw; obtain ⟨sw1, sw2, sw3, sw4⟩ := hSw; rw [HT.out] at sw2; go_simp; try with_reducible rfl)
     try simp only [Act.put, pA, pB, pC]
     refine rd 20 (by kernel_rfl) rfl (fun K hK => ?_)
     ·
      (go_simp)
      refine hK.out _ _ ?_ (fun hH => ?_)
      · (try dsimp only); (exact hH.al _)
      clear hK K
      refine rd 21 (by kernel_rfl) rfl (fun K hK => ?_)
      ·
       (go_simp)
       refine hK.out _ _ ?_ (fun hH => ?_)
       · (try dsimp only); (first | exact HQ5.out.al _ | (have hl := HQ.out.lt; change _ < wr.heap.size ∧ _ < wr.heap.size at hl; exact (HQ5.out.set (by omega) (by omega)).set (by omega) (by omega)))
       clear hK K
       refine rd 22 (by kernel_rfl) rfl (fun K hK => ?_)
       ·
        (go_simp)
        refine hK.out _ _ ?_ (fun hH => ?_)
        · (try dsimp only); (exact hH)
        clear hK K
        refine wpAnyH_done (by kernel_rfl) ?_ _
        go_wp2_with fail
        go_meet
        first | exact ⟨w5.heap.size, rfl, rfl, heap_alloc_new w5 _, zab (zad HB5.out (zaf yyr)) _, HB5.out.size⟩ | exact ⟨wr.heap.size, rfl, rfl, zcb HY5.out, zak (zak (zad HB5.out (zab (zaf yyr) _)) _ _ _ yyn) _ _ _ yyn, yyn⟩
    refine AllReadyH.cons rfl (fun K hK => ?_) ?_
    ·
     (go_simp)
     refine hK.out _ _ ?_ (fun hH => ?_)
     · (try dsimp only); (exact hH.al _)
     clear hK K
     refine rd 16 (by kernel_rfl) rfl (fun K hK => ?_)
     ·
      (go_simp; go_at_call 258; first | (refine (HMin.out _ (zaf yyr)).mono ?_; rintro e w5 ⟨rfl, hB5⟩; have HB5 := yyh hB5; have HQ5 := yyh (HQ.out.below hB5); clear hB5) | (refine (HMin.out _ (zab (zaf yyr) _)).mono ?_; rintro e w5 ⟨rfl, hB5⟩; have HB5 := yyh hB5; have HQ5 := yyh ((HQ.out.al _).below hB5); have hY5 := (hB5.block wr.heap.size (by simp)).trans (heap_alloc_new wr (.cells #[.int .u64 0, .int .i64 0] 63)); obtain ⟨y50, y51, y52, y53⟩ := zao hY5; have HY5 := yyh hY5; clear hB5 hY5))
      refine hK.out _ _ ?_ (fun hH => ?_)
      · (try dsimp only); (exact HQ5.out)
      clear hK K
      refine tq 17 ?_ rfl ?_ ?_
      rotate_left
      · (intro w hSw; obtain ⟨sw1, sw2, sw3, sw4⟩ := hSw; rw [HT.out] at sw2; go_simp; try with_reducible rfl)
      try simp only [Act.put, pA, pB, pC]
      refine tq 18 ?_ rfl ?_ ?_
      rotate_left
      · (intro w hSw; obtain ⟨sw1, sw2, sw3, sw4⟩ := hSw; rw [HT.out] at sw2; go_simp; try with_reducible rfl)
      try simp only [Act.put, pA, pB, pC]
      refine tq 19 ?_ rfl ?_ ?_
      rotate_left
      · (intro w hSw; obtain ⟨sw1, sw2, sw3, sw4⟩ := hSw; rw [HT.out] at sw2; go_simp; try with_reducible rfl)
      try simp only [Act.put, pA, pB, pC]
      refine rd 21 (by kernel_rfl) rfl (fun K hK => ?_)
      ·
       (go_simp)
       refine hK.out _ _ ?_ (fun hH => ?_)
       · (try dsimp only); (first | exact HQ5.out.al _ | (have hl := HQ.out.lt; change _ < wr.heap.size ∧ _ < wr.heap.size at hl; exact (HQ5.out.set (by omega) (by omega)).set (by omega) (by omega)))
       clear hK K
       refine rd 22 (by kernel_rfl) rfl (fun K hK => ?_)
       ·
        (go_simp)
        refine hK.out _ _ ?_ (fun hH => ?_)
        · (try dsimp only); (exact hH)
        clear hK K
        refine wpAnyH_done (by kernel_rfl) ?_ _
        go_wp2_with fail
        go_meet
        first | exact ⟨w5.heap.size, rfl, rfl, heap_alloc_new w5 _, zab (zad HB5.out (zaf yyr)) _, HB5.out.size⟩ | exact ⟨wr.heap.size, rfl, rfl, zcb HY5.out, zak (zak (zad HB5.out (zab (zaf yyr) _)) _ _ _ yyn) _ _ _ yyn, yyn⟩
    exact AllReadyH.nil
    -- REGION 4 END
   case rest =>
    obtain ⟨yb, rfl, rfl, hY, hBc, hge⟩ := hcut
    obtain ⟨hB, hno⟩ := HB.out
    obtain ⟨h1, hq, hB1, hxb', hx1, hol⟩ := H.out
    obtain ⟨hX, hR⟩ := HXR.out
    have hBW := zad hBc hB
    have hxw := (hBW.block _ (zac hx1)).trans hx1
    obtain ⟨x0, x1, x2, x3⟩ := zao hxw
    obtain ⟨y0, y1, y2, y3⟩ := zao hY
    cases R with
    | true =>
     have hlk : (s.q A.k).look t i = some X := by
      unfold zpm at hX
      cases hl : (s.q A.k).look t i with
      | none => rw [hl] at hR; cases hR
      | some e => rw [hl] at hX; rw [← hX]; rfl
     have hrd : (s.q A.k).round t = some X := by
      unfold QM.round
      rw [znx _ _ i X (by rw [hol, HT.out]; exact hlt) hno hlk]
     have HF := yyh (yyi hrd (yyi (zad hBW hB1) hxb'))
     clear hB hno h1 hq hB1 hx1 hol hX hR hBW hxw hlk hrd hY hBc hxb'
     go_wp2_with fail
     refine bodyPost_ret (v := .tuple #[.agg #[.int .u64 X.key, .int .i64 X.id], .bool true]) (by simp [results, Tryz.results260, go_sem, x0, x1]) rfl ?_
     obtain ⟨hrd, hBW, hxb'⟩ := HF.out
     refine ⟨by rw [hrd]; rfl, ?_⟩
     refine zak (zak hBW _ _ _ ?_) _ _ _ ?_ <;> omega
    | false =>
     have hlk : (s.q A.k).look t i = none := by
      cases hl : (s.q A.k).look t i with
      | none => rfl
      | some e => rw [hl] at hR; cases hR
     have hno' : ∀ j, j < i + 1 → (s.q A.k).look t j = none := fun j hj => by
      by_cases e : j = i
      · rw [e]; exact hlk
      · exact hno j (by omega)
     have HF := yyh (yyi hBW hno')
     clear hB hno h1 hq hB1 hx1 hol hX hR hBW hxw hlk hY hBc hno' hxb'
     go_wp2_with fail
     go_roundg (T - (i + 1))
     case measure => omega
     case rel => exact ⟨i + 1, by omega, rfl, by go_num, (show Aside _ from HF.out)⟩
  ·
   obtain rfl : i = T := by omega
   obtain ⟨h1, hq, hB1, hxb', hx1, hol⟩ := H.out
   have hw := h1.below hB
   obtain ⟨d0, d1, d2, d3⟩ := hw.cells
   have hrd : (s.q A.k).round t = (zaj (zbc (s.q A.k).slots)).head? := by
    unfold QM.round
    rw [zpl _ _ (by rw [hol, HT.out]; exact hno)]
   have hsl : (slE s.ss).length ≤ NB := by
    have := zpd s.ss
    have := hw.sln
    have := h1.num
    unfold NB
    omega
   have HSA := yyh (zmp hw.sl)
   have HR := yyh (yyi hrd (yyi hB (yyi hsl (show slE s.ss = zbc (s.q A.k).slots from zkd _))))
   clear hB hno h1 hq hB1 hx1 hol hw hrd hsl hxb'
   go_wp2_with fail
   refine HSA.out.mono ?_
   rintro e w2 ⟨v2, rfl, hE2, -, hB2⟩
   have hSo := zrm HR.out.2.2.1 hE2
   have HSo := yyh (yyi hSo (zad hB2 HR.out.2.1))
   clear hE2 hB2 hSo
   go_wp2_with fail
   refine HSo.out.1.mono ?_
   rintro e w3 ⟨v3, rfl, hE3, -, hB3⟩
   rw [HR.out.2.2.2] at hE3
   obtain ⟨l, hl⟩ := yye (zaj (zbc (s.q A.k).slots))
   have hrd : (s.q A.k).round t = l.head? := by rw [← hl]; exact HR.out.1
   rw [hl] at hE3
   obtain ⟨W4, hW4⟩ := yye (w3.alloc (.cells #[v3] 42))
   have hB4 : Below w3.heap.size w3 W4 := by rw [← hW4]; exact zab yyr _
   have hL := ztb (W := W4) (q := w3.heap.size) (v := v3) (l := l) (by rw [← hW4]; exact zkg w3 v3) (zay.below hE3 hB4)
   unfold zpe at hL
   have hBW := zad (zad hB4 hB3) HSo.out.2
   have hx4 := (hBW.block _ (zac H.out.2.2.2.2.1)).trans H.out.2.2.2.2.1
   have HL := yyh (yyi hL (yyi hBW hx4))
   obtain ⟨a1, k1, rfl, -⟩ := SlV.clip hE3
   obtain ⟨n1, hn1⟩ := yye (l.length)
   rw [hn1] at hW4 ⊢
   have HRD := yyh hrd
   clear hE3 hB3 hB4 hL hBW hx4 hn1 hl hrd
   go_wp2_with fail
   refine HL.out.1.mono ?_
   rintro e w5 ⟨rfl, hB5⟩
   have hx5 := (hB5.block _ (zac HL.out.2.2)).trans HL.out.2.2
   obtain ⟨x0, x1, x2, x3⟩ := zao hx5
   have hxl := zac hx5
   have e0 : ziy l.head? = .tuple #[enV (l.headD ⟨0, 0⟩), .bool (!l.isEmpty)] := (zfh l).symm
   have HE := yyh (yyi e0 (yyi (zad (zad hB5 HL.out.2.1) H.out.2.2.1) hxb))
   unfold enV
   clear hx5 hB5 hxb e0 hW4
   generalize l.headD ⟨0, 0⟩ = x at *
   generalize (!l.isEmpty) = r at *
   have hne : ¬ xb = w5.heap.size := by omega
   go_wp2_with fail
   refine bodyPost_ret (v := .tuple #[.agg #[.int .u64 x.key, .int .i64 x.id], .bool r]) (by simp [results, Tryz.results260, go_sem, x0, x1, hne, hxl]) rfl ?_
   obtain ⟨e0, hBW, hxb⟩ := HE.out
   refine ⟨by rw [HRD.out, e0]; rfl, ?_⟩
   refine zab (zak (zak hBW _ _ _ ?_) _ _ _ ?_) _ <;> omega
end
def zr5 : Option En → Option En → Option En → Option En
 | none, none, z => z
 | some x, none, _ => some x
 | none, some y, _ => some y
 | some x, some y, _ => if ltE y x then some y else some x
def QM.relaxed (q : QM) (t : Nat) (d : Int) : Option En := zr5 (q.own.getD t []).head? (zgb q.sh q.k d) (q.round t)
section
variable {W W' : World} {A : QA} {s : QS}
theorem ztc {o : Option En} {X : En} {R : Bool} (hX : zpm o = X) (hR : o.isSome = R) : o = if R then some X else none := by
 cases o with
 | none => subst hR; rfl
 | some e => subst hR; subst hX; rfl
theorem zkh (h : QAt W A s) (hq : (s.q A.k).Ok) (t : Nat) (ht : t < A.lp.length) (d : Int) (hd0 : 0 ≤ d) (hdt : d ≤ top) : Calls Tryz.prog 215 #[.pointer (some ⟨A.qp, 0, none⟩), .int .i64 t, .int .u64 d] W fun e w' => e = .returned (ziy ((s.q A.k).relaxed t d)) ∧ Below W.heap.size W w' := by
 obtain ⟨W1, hW1⟩ := yye (W.alloc (.cells #[.int .u64 0, .int .i64 0] 63))
 have hB1 : Below W.heap.size W W1 := by rw [← hW1]; exact zab yyr _
 obtain ⟨xb, hxb⟩ := yye (W.heap.size)
 have hx1 : W1.heap[xb]? = some (.cells #[.int .u64 0, .int .i64 0] 63 (0, 0)) := by rw [← hW1, ← hxb]; exact heap_alloc_new W _
 have h1 := h.below hB1
 obtain ⟨c0, c1, c2, c3⟩ := h1.cells
 obtain ⟨p, x, y, hp, hx, hy, hL⟩ := h1.thread ht
 have co := h1.ocell hp
 have hsz := QS.sizes (k := A.k) hy hx
 have hlen := hq.len
 have hb := zez hL
 have hn := h.num
 have hoc : (A.oc : Int) ≤ 9223372036854775807 := by have := hn.2.2.2.1; unfold maxLen at this; omega
 have ht2 : (t : Int) < (A.lp.length : Int) := by omega
 have hge0 : decide ((t : Int) < 0) = false := by simp
 have HT := yyh (zln h1 t ht)
 have hMin := zzq hL (by unfold NB at hlen; omega) (by omega)
 rw [zfh, ← QS.own_head (k := A.k) hx] at hMin
 obtain ⟨oa, hoa⟩ : ∃ oa, ((s.q A.k).own.getD t []).head? = oa := ⟨_, rfl⟩
 obtain ⟨ob, hob⟩ := yye (zgb (s.q A.k).sh A.k d)
 have hrel : (s.q A.k).relaxed t d = zr5 oa ob ((s.q A.k).round t) := by rw [← hoa, ← hob]; rfl
 rw [hoa] at hMin
 obtain ⟨X, hX⟩ := yye (zpm oa)
 obtain ⟨R, hR⟩ := yye (oa.isSome)
 obtain ⟨Y, hY⟩ := yye (zpm ob)
 obtain ⟨P, hP⟩ := yye (ob.isSome)
 unfold ziy at hMin
 change Calls _ _ _ _ fun e w' => e = .returned (.tuple #[enV (zpm oa), .bool oa.isSome]) ∧ _ at hMin
 rw [hX, hR] at hMin
 unfold enV at hMin
 have HMin := yyh hMin
 have hCand : ∀ w, Below W1.heap.size W1 w → Calls Tryz.prog 259 #[.pointer (some ⟨A.hp, 0, none⟩), .int .i64 A.k, .int .u64 d] w fun e w' => e = .returned (.tuple #[.agg #[.int .u64 Y.key, .int .i64 Y.id], .bool P]) ∧ Below w.heap.size w w' := fun w hw => by
  have := zyv (h1.below hw).sh (by omega) A.k (hn.2.2.2.2) d hd0 hdt
  change Calls _ _ _ _ fun e w' => e = .returned (ziy (zgb (s.q A.k).sh A.k d)) ∧ _ at this
  rw [hob] at this
  unfold ziy at this
  change Calls _ _ _ _ fun e w' => e = .returned (.tuple #[enV (zpm ob), .bool ob.isSome]) ∧ _ at this
  rw [hY, hP] at this
  exact this
 have HCand := yyh hCand
 have H := yyh (yyi h1 (yyi hq (yyi hB1 (yyi hxb (yyi hx1 (yyi hp hrel))))))
 have HXR := yyh (yyi hX (yyi hR (yyi hY hP)))
 clear h h1 hq hB1 hx1 hp hx hy hL hsz hlen hb hMin hCand hoa hob hrel hX hR hY hP hd0 hdt
 go_enter Tryz.func215, Tryz.ntmps215
 go_wp2_with fail
 refine HT.out.mono ?_
 rintro e1 w1 ⟨rfl, rfl⟩
 go_wp2_with fail
 refine HMin.out.mono ?_
 rintro e1 w1 ⟨rfl, hB2⟩
 obtain ⟨wr, hwr⟩ := yye (w1.alloc (.cells #[.int .u64 X.key, .int .i64 X.id] 63))
 obtain ⟨zb, hzb⟩ := yye (w1.heap.size)
 have hz : wr.heap[zb]? = some (.cells #[.int .u64 X.key, .int .i64 X.id] 63 (0, 0)) := by rw [← hwr, ← hzb]; exact heap_alloc_new w1 _
 have hBr : Below W1.heap.size W1 wr := by rw [← hwr]; exact zab hB2 _
 have HQ := yyh ((H.out.1.below (zaf hBr)).qc H.out.2.2.2.2.2.1)
 have HC2 := yyh (fun (w : World) (hw : Below wr.heap.size wr w) => HCand.out w (zad hw hBr))
 have HR := yyh (yyi hBr hz)
 clear hB2 hz hBr
 go_upto_region 4 with fail
 clear hwr
 go_cut [10, 11] (fun v10 v11 w => RM wr Y P v10 v11 w)
 case first =>
  skip
  -- REGION 4 BEGIN
  refine wp_region_held_drew (S := QC A t p) (by kernel_rfl) HQ.out (fun hH => ?_)
  refine tq 0 ?_ rfl ?_ ?_
  rotate_left
  · (rintro w ⟨_, _, _, _⟩; go_simp; try with_reducible rfl)
  try simp only [Act.put, pA, pB, pC]
  refine tq 1 ?_ rfl ?_ ?_
  rotate_left
  · (rintro w ⟨_, _, _, _⟩; go_simp; try with_reducible rfl)
  try simp only [Act.put, pA, pB, pC]
  refine tq 2 ?_ rfl ?_ ?_
  rotate_left
  · (rintro w ⟨_, _, _, _⟩; go_simp; try with_reducible rfl)
  try simp only [Act.put, pA, pB, pC]
  refine tq 3 ?_ rfl ?_ ?_
  rotate_left
  · (rintro w ⟨_, _, _, _⟩; go_simp; try with_reducible rfl)
  try simp only [Act.put, pA, pB, pC]
  refine tq 4 ?_ rfl ?_ ?_
  rotate_left
  · (rintro w ⟨_, _, _, _⟩; go_simp; try with_reducible rfl)
  try simp only [Act.put, pA, pB, pC]
  refine tq 5 ?_ rfl ?_ ?_
  rotate_left
  · (rintro w ⟨_, _, _, _⟩; go_simp; try with_reducible rfl)
  try simp only [Act.put, pA, pB, pC]
  refine tq 6 ?_ rfl ?_ ?_
  rotate_left
  · (rintro w ⟨_, _, _, _⟩; go_simp; try with_reducible rfl)
  try simp only [Act.put, pA, pB, pC]
  refine tq 7 ?_ rfl ?_ ?_
  rotate_left
  · (rintro w ⟨_, _, _, _⟩; go_simp; try with_reducible rfl)
  try simp only [Act.put, pA, pB, pC]
  refine tq 8 ?_ rfl ?_ ?_
  rotate_left
  · (rintro w ⟨_, _, _, _⟩; go_simp; try with_reducible rfl)
  try simp only [Act.put, pA, pB, pC]
  refine wpAnyH_ready (rs := [9, 13]) (by kernel_rfl) (by simp) ?_
  refine AllReadyH.cons rfl (fun K hK => ?_) ?_
  ·
   (go_simp; go_at_call 259; first | (refine (HC2.out _ (zaf yyr)).mono ?_; rintro e w5 ⟨rfl, hB5⟩; have HB5 := yyh hB5; have HQ5 := yyh (HQ.out.below hB5); clear hB5) | (refine (HC2.out _ (zab (zaf yyr) _)).mono ?_; rintro e w5 ⟨rfl, hB5⟩; have HB5 := yyh hB5; have HQ5 := yyh ((HQ.out.al _).below hB5); have hY5 := (hB5.block wr.heap.size (by simp)).trans (heap_alloc_new wr (.cells #[.int .u64 0, .int .i64 0] 63)); obtain ⟨y50, y51, y52, y53⟩ := zao hY5; have HY5 := yyh hY5; clear hB5 hY5))
   refine hK.out _ _ ?_ (fun hH => ?_)
   · (try dsimp only); (exact HQ5.out)
   clear hK K
   refine tq 10 ?_ rfl ?_ ?_
   rotate_left
   · (rintro w ⟨_, _, _, _⟩; go_simp; try with_reducible rfl)
   try simp only [Act.put, pA, pB, pC]
   refine tq 11 ?_ rfl ?_ ?_
   rotate_left
   · (rintro w ⟨_, _, _, _⟩; go_simp; try with_reducible rfl)
   try simp only [Act.put, pA, pB, pC]
   refine tq 12 ?_ rfl ?_ ?_
   rotate_left
   · (rintro w ⟨_, _, _, _⟩; go_simp; try with_reducible rfl)
   try simp only [Act.put, pA, pB, pC]
   refine rd 13 (by kernel_rfl) rfl (fun K hK => ?_)
   ·
    (go_simp)
    refine hK.out _ _ ?_ (fun hH => ?_)
    · (try dsimp only); (exact hH.al _)
    clear hK K
    refine rd 14 (by kernel_rfl) rfl (fun K hK => ?_)
    ·
     (go_simp)
     refine hK.out _ _ ?_ (fun hH => ?_)
     · (try dsimp only); (first | exact HQ5.out.al _ | (have hl := HQ.out.lt; change _ < wr.heap.size ∧ _ < wr.heap.size at hl; exact (HQ5.out.set (by omega) (by omega)).set (by omega) (by omega)))
     clear hK K
     refine rd 15 (by kernel_rfl) rfl (fun K hK => ?_)
     ·
      (go_simp)
      refine hK.out _ _ ?_ (fun hH => ?_)
      · (try dsimp only); (exact hH)
      clear hK K
      refine wpAnyH_done (by kernel_rfl) ?_ _
      go_wp2_with fail
      go_meet
      first | exact ⟨w5.heap.size, rfl, rfl, heap_alloc_new w5 _, zab (zad HB5.out (zaf yyr)) _, HB5.out.size⟩ | exact ⟨wr.heap.size, rfl, rfl, zcb HY5.out, zak (zak (zad HB5.out (zab (zaf yyr) _)) _ _ _ yyn) _ _ _ yyn, yyn⟩
  refine AllReadyH.cons rfl (fun K hK => ?_) ?_
  ·
   (go_simp)
   refine hK.out _ _ ?_ (fun hH => ?_)
   · (try dsimp only); (exact hH.al _)
   clear hK K
   refine rd 9 (by kernel_rfl) rfl (fun K hK => ?_)
   ·
    (go_simp; go_at_call 259; first | (refine (HC2.out _ (zaf yyr)).mono ?_; rintro e w5 ⟨rfl, hB5⟩; have HB5 := yyh hB5; have HQ5 := yyh (HQ.out.below hB5); clear hB5) | (refine (HC2.out _ (zab (zaf yyr) _)).mono ?_; rintro e w5 ⟨rfl, hB5⟩; have HB5 := yyh hB5; have HQ5 := yyh ((HQ.out.al _).below hB5); have hY5 := (hB5.block wr.heap.size (by simp)).trans (heap_alloc_new wr (.cells #[.int .u64 0, .int .i64 0] 63)); obtain ⟨y50, y51, y52, y53⟩ := zao hY5; have HY5 := yyh hY5; clear hB5 hY5))
    refine hK.out _ _ ?_ (fun hH => ?_)
    · (try dsimp only); (exact HQ5.out)
    clear hK K
    refine tq 10 ?_ rfl ?_ ?_
    rotate_left
    · (rintro w ⟨_, _, _, _⟩; go_simp; try with_reducible rfl)
    try simp only [Act.put, pA, pB, pC]
    refine tq 11 ?_ rfl ?_ ?_
    rotate_left
    · (rintro w ⟨_, _, _, _⟩; go_simp; try with_reducible rfl)
    try simp only [Act.put, pA, pB, pC]
    refine tq 12 ?_ rfl ?_ ?_
    rotate_left
    · (rintro w ⟨_, _, _, _⟩; go_simp; try with_reducible rfl)
    try simp only [Act.put, pA, pB, pC]
    refine rd 14 (by kernel_rfl) rfl (fun K hK => ?_)
    ·
     (go_simp)
     refine hK.out _ _ ?_ (fun hH => ?_)
     · (try dsimp only); (first | exact HQ5.out.al _ | (have hl := HQ.out.lt; change _ < wr.heap.size ∧ _ < wr.heap.size at hl; exact (HQ5.out.set (by omega) (by omega)).set (by omega) (by omega)))
     clear hK K
     refine rd 15 (by kernel_rfl) rfl (fun K hK => ?_)
     ·
      (go_simp)
      refine hK.out _ _ ?_ (fun hH => ?_)
      · (try dsimp only); (exact hH)
      clear hK K
      refine wpAnyH_done (by kernel_rfl) ?_ _
      go_wp2_with fail
      go_meet
      first | exact ⟨w5.heap.size, rfl, rfl, heap_alloc_new w5 _, zab (zad HB5.out (zaf yyr)) _, HB5.out.size⟩ | exact ⟨wr.heap.size, rfl, rfl, zcb HY5.out, zak (zak (zad HB5.out (zab (zaf yyr) _)) _ _ _ yyn) _ _ _ yyn, yyn⟩
  exact AllReadyH.nil
  -- REGION 4 END
 case rest =>
  obtain ⟨yb, rfl, rfl, hY, hBc, hge⟩ := hcut
  obtain ⟨h1, hq, hB1, hxb', hx1, hp, hrel⟩ := H.out
  obtain ⟨hX, hR, hYY, hP⟩ := HXR.out
  have hoa := ztc hX hR
  have hob := ztc hYY hP
  have hB2 := zad hBc HR.out.1
  have hxw := (hB2.block _ (zac hx1)).trans hx1
  have hzw := (hBc.block _ (zac HR.out.2)).trans HR.out.2
  obtain ⟨x0, x1, x2, x3⟩ := zao hxw
  obtain ⟨y0, y1, y2, y3⟩ := zao hY
  obtain ⟨z0, z1, z2, z3⟩ := zao hzw
  have hBW := zad hB2 hB1
  cases R with
  | false =>
   cases P with
   | false =>
    have hrd := zvg (h1.below hB2) hq t ht
    have hres : (s.q A.k).relaxed t d = (s.q A.k).round t := by rw [hrel, hoa, hob]; rfl
    obtain ⟨o, ho⟩ : ∃ o, (s.q A.k).round t = o := ⟨_, rfl⟩
    rw [ho] at hrd hres
    obtain ⟨Z, hZ⟩ := yye (zpm o)
    obtain ⟨B, hB⟩ := yye (o.isSome)
    have hres2 : ziy ((s.q A.k).relaxed t d) = .tuple #[enV Z, .bool B] := by rw [hres, ← hZ, ← hB]; rfl
    have e : ziy o = .tuple #[.agg #[.int .u64 Z.key, .int .i64 Z.id], .bool B] := by rw [← hZ, ← hB]; rfl
    rw [e] at hrd
    have HF := yyh (yyi hrd (yyi hres2 (yyi hBW (yyi hxb' hxw))))
    clear h1 hq hB1 hxb' hx1 hp hrel hX hR hYY hP hoa hob hB2 hxw hzw hBW hrd hres ho hZ hB hres2 e hY hBc
    go_wp2_with fail
    refine HF.out.1.mono ?_
    rintro e w6 ⟨rfl, hB6⟩
    have hx6 := (hB6.block _ (zac HF.out.2.2.2.2)).trans HF.out.2.2.2.2
    obtain ⟨x0, x1, x2, x3⟩ := zao hx6
    have HG := yyh (zad hB6 HF.out.2.2.1)
    clear hB6 hx6
    go_wp2_with fail
    refine bodyPost_ret (v := .tuple #[.agg #[.int .u64 Z.key, .int .i64 Z.id], .bool B]) (by simp [results, Tryz.results215, go_sem, x0, x1]) rfl ?_
    obtain ⟨-, hres2, -, hxb', -⟩ := HF.out
    refine ⟨by rw [hres2]; rfl, ?_⟩
    refine zak (zak HG.out _ _ _ ?_) _ _ _ ?_ <;> omega
   | true =>
    have hres : ziy ((s.q A.k).relaxed t d) = .tuple #[enV Y, .bool true] := by rw [hrel, hoa, hob]; rfl
    have HF := yyh (yyi hres (yyi hBW hxb'))
    clear h1 hq hB1 hxb' hx1 hp hrel hX hR hYY hP hoa hob hB2 hxw hzw hBW hres hY hBc
    go_wp2_with fail
    refine bodyPost_ret (v := .tuple #[.agg #[.int .u64 Y.key, .int .i64 Y.id], .bool true]) (by simp [results, Tryz.results215, go_sem, x0, x1]) rfl ?_
    obtain ⟨hres2, hBW, hxb'⟩ := HF.out
    refine ⟨by rw [hres2]; rfl, ?_⟩
    refine zak (zak hBW _ _ _ ?_) _ _ _ ?_ <;> omega
  | true =>
   cases P with
   | false =>
    have hres : ziy ((s.q A.k).relaxed t d) = .tuple #[enV X, .bool true] := by rw [hrel, hoa, hob]; rfl
    have HF := yyh (yyi hres (yyi hBW hxb'))
    clear h1 hq hB1 hxb' hx1 hp hrel hX hR hYY hP hoa hob hB2 hxw hzw hBW hres hY hBc
    go_wp2_with fail
    refine bodyPost_ret (v := .tuple #[.agg #[.int .u64 X.key, .int .i64 X.id], .bool true]) (by simp [results, Tryz.results215, go_sem, x0, x1]) rfl ?_
    obtain ⟨hres2, hBW, hxb'⟩ := HF.out
    refine ⟨by rw [hres2]; rfl, ?_⟩
    refine zak (zak hBW _ _ _ ?_) _ _ _ ?_ <;> omega
   | true =>
    have hres : (s.q A.k).relaxed t d = if ltE Y X then some Y else some X := by rw [hrel, hoa, hob]; rfl
    have hLs := zmc Y X wc
    unfold enV at hLs
    obtain ⟨B, hB⟩ := yye (ltE Y X)
    rw [hB] at hres hLs
    have HF := yyh (yyi hLs (yyi hres (yyi hBW (yyi hxb' (yyi hxw (yyi hzw hY))))))
    clear h1 hq hB1 hxb' hx1 hp hrel hX hR hYY hP hoa hob hB2 hxw hzw hBW hres hY hBc hLs hB
    go_wp2_with fail
    refine HF.out.1.mono ?_
    rintro e w6 ⟨rfl, hG6⟩
    have hB6 := hG6.below
    obtain ⟨-, hres, hBW, hxb', hxw, hzw, hY⟩ := HF.out
    obtain ⟨x0, x1, x2, x3⟩ := zao ((hB6.block _ (zac hxw)).trans hxw)
    obtain ⟨y0, y1, y2, y3⟩ := zao ((hB6.block _ (zac hY)).trans hY)
    obtain ⟨z0, z1, z2, z3⟩ := zao ((hB6.block _ (zac hzw)).trans hzw)
    have HG := yyh (zad hB6 hBW)
    cases B with
    | false =>
     have hres2 : ziy ((s.q A.k).relaxed t d) = .tuple #[enV X, .bool true] := by rw [hres]; rfl
     have HR2 := yyh (yyi hres2 hxb')
     clear hG6 hB6 hres hBW hxb' hxw hzw hY hres2
     go_wp2_with fail
     refine bodyPost_ret (v := .tuple #[.agg #[.int .u64 X.key, .int .i64 X.id], .bool true]) (by simp [results, Tryz.results215, go_sem, x0, x1]) rfl ?_
     obtain ⟨hres2, hxb'⟩ := HR2.out
     refine ⟨by rw [hres2]; rfl, ?_⟩
     refine zak (zak HG.out _ _ _ ?_) _ _ _ ?_ <;> omega
    | true =>
     have hres2 : ziy ((s.q A.k).relaxed t d) = .tuple #[enV Y, .bool true] := by rw [hres]; rfl
     have HR2 := yyh (yyi hres2 hxb')
     clear hG6 hB6 hres hBW hxb' hxw hzw hY hres2
     go_wp2_with fail
     refine bodyPost_ret (v := .tuple #[.agg #[.int .u64 Y.key, .int .i64 Y.id], .bool true]) (by simp [results, Tryz.results215, go_sem, x0, x1]) rfl ?_
     obtain ⟨hres2, hxb'⟩ := HR2.out
     refine ⟨by rw [hres2]; rfl, ?_⟩
     refine zak (zak HG.out _ _ _ ?_) _ _ _ ?_ <;> omega
end
def zpn (id : Int) (o : Option En) : Bool := match o with | some e => e.id == id | none => false
def woO (id : Int) (o : Option En) : Option En := if zpn id o then none else o
def zc8 (id : Int) (l : List En) : Bool := l.any fun x => x.id == id
def QM.take (q : QM) (id : Int) : QM := ⟨q.k, q.slots.map (woO id), q.own.map (wo id), wo id q.sh⟩
def QM.has (q : QM) (id : Int) : Bool := zc8 id q.all
def QM.hasS (q : QM) (id : Int) (t : Nat) : Bool := zpn id (q.slots.getD t none)
def QM.hasW (q : QM) (id : Int) (t : Nat) : Bool := zc8 id (q.own.getD t [])
def QM.tS (q : QM) (id : Int) (t : Nat) : QM := { q with slots := q.slots.set t none }
def QM.tW (q : QM) (id : Int) (t : Nat) : QM := { q with own := q.own.set t (wo id (q.own.getD t [])) }
def QM.tH (q : QM) (id : Int) : QM := { q with sh := wo id q.sh }
theorem zpo (id : Int) (l : List En) : zaj (wo id l) = wo id (zaj l) := ze6 (zu5 (za2 l)) ((zbb l).filter _)
theorem zbk (id : Int) (l m : List En) : zc8 id (l ++ m) = (zc8 id l || zc8 id m) := List.any_append
theorem zc6 {id : Int} {l m : List En} (h : l.Perm m) : zc8 id l = zc8 id m := by
 unfold zc8
 exact h.any_eq
theorem zdm (id : Int) (l : List (Option En)) : zc8 id (zbc l) = l.any (zpn id) := by
 unfold zc8 zbc
 induction l with
 | nil => rfl
 | cons o l ih => cases o <;> simp [zpn, ih]
theorem zd9 (id : Int) (l : List (List En)) : zc8 id l.flatten = l.any (zc8 id) := by
 unfold zc8
 induction l with
 | nil => rfl
 | cons o l ih => simp [ih]
theorem zi5 {id : Int} {l : List (Option En)} (h : l.any (zpn id) = false) : l.map (woO id) = l := by
 have : ∀ o ∈ l, woO id o = o := fun o ho => by
  have := List.any_eq_false.1 h o ho
  unfold woO
  rw [if_neg (by simpa using this)]
 exact (List.map_congr_left this).trans (List.map_id _)
theorem zi6 {id : Int} {l : List (List En)} (h : l.any (zc8 id) = false) : l.map (wo id) = l := by
 have : ∀ o ∈ l, wo id o = o := fun o ho => by
  have h1 := List.any_eq_false.1 h o ho
  exact zcw (by unfold zc8 at h1; simpa using h1)
 exact (List.map_congr_left this).trans (List.map_id _)
theorem zr6 {q : QM} {id : Int} (h : q.has id = false) : q.take id = q := by
 unfold QM.has QM.all at h
 rw [zbk, zbk, zdm, zd9] at h
 simp only [Bool.or_eq_false_iff] at h
 unfold QM.take
 rw [zi5 h.1.1, zi6 h.1.2, zcw h.2]
theorem zi7 {id : Int} {l m : List En} (hn : ((l ++ m).map (·.id)).Nodup) (hl : zc8 id l = true) : zc8 id m = false := by
 cases hm : zc8 id m with
 | false => rfl
 | true =>
  obtain ⟨x, hx, hxi⟩ := List.any_eq_true.1 hl
  obtain ⟨y, hy, hyi⟩ := List.any_eq_true.1 hm
  rw [List.map_append, List.nodup_append] at hn
  have hxi : x.id = id := by simpa using hxi
  have hyi : y.id = id := by simpa using hyi
  exact absurd (hxi.trans hyi.symm) (hn.2.2 x.id (List.mem_map_of_mem hx) y.id (List.mem_map_of_mem hy))
theorem zcl {l m : List En} (h : l.Perm m) (hn : (l.map (·.id)).Nodup) : (m.map (·.id)).Nodup := (h.map _).nodup_iff.1 hn
theorem zmu {α : Type} {l : List α} {t : Nat} {o : α} (f : α → α) (p : α → Bool) (hp : ∀ x, p x = false → f x = x) (ht : l[t]? = some o) (h : (l.take t ++ l.drop (t + 1)).any p = false) : l.map f = l.set t (f o) := by
 apply List.ext_getElem?
 intro j
 rw [List.getElem?_map, List.getElem?_set]
 have hlt : t < l.length := (yyk.1 ht).1
 by_cases hj : t = j
 · subst hj
   rw [if_pos rfl, if_pos hlt, ht]
   rfl
 ·
  rw [if_neg hj]
  cases hx : l[j]? with
  | none => rfl
  | some x =>
   have hm : x ∈ l.take t ++ l.drop (t + 1) := by
    rw [List.mem_append]
    by_cases hlt2 : j < t
    · exact .inl (List.mem_of_getElem? (i := j) (by rw [List.getElem?_take, if_pos hlt2]; exact hx))
    · exact .inr (List.mem_of_getElem? (i := j - (t + 1)) (by rw [List.getElem?_drop]; rw [show t + 1 + (j - (t + 1)) = j from by omega]; exact hx))
   have := List.any_eq_false.1 h x hm
   show some (f x) = some x
   rw [hp x (by simpa using this)]
theorem zr7 {q : QM} {id : Int} (hq : q.Ok) {t : Nat} {e : En} (ht : q.slots[t]? = some (some e)) (he : (e.id == id) = true) : q.has id = true ∧ q.take id = q.tS id t := by
 have hp : q.all.Perm ([e] ++ (zbc (q.slots.take t ++ q.slots.drop (t + 1)) ++ (q.own.flatten ++ q.sh))) := by
  unfold QM.all
  rw [List.append_assoc]
  exact ((zfg _ _ _ ht).append_right _).trans (by rw [List.append_assoc]; rfl)
 have h1 : zc8 id [e] = true := by simp [zc8, he]
 have h2 := zi7 (zcl hp hq.ids) h1
 rw [zbk, zbk, zdm, zd9] at h2
 simp only [Bool.or_eq_false_iff] at h2
 refine ⟨?_, ?_⟩
 · unfold QM.has
   rw [zc6 hp, zbk, h1]
   rfl
 ·
  unfold QM.take QM.tS
  rw [zmu (woO id) (zpn id) (fun x hx => by unfold woO; rw [if_neg (by simpa using hx)]) ht h2.1, zi6 h2.2.1, zcw h2.2.2]
  congr 2
  show (if (e.id == id) = true then none else some e) = none
  rw [if_pos he]
theorem zvh {q : QM} {id : Int} (hq : q.Ok) {t : Nat} {l : List En} (ht : q.own[t]? = some l) (he : zc8 id l = true) : q.has id = true ∧ q.take id = q.tW id t := by
 have hp : q.all.Perm (l ++ (zbc q.slots ++ ((q.own.take t ++ q.own.drop (t + 1)).flatten ++ q.sh))) := by
  unfold QM.all
  refine (((zi3 _ _ _ ht).append_left _).append_right _).trans ?_
  rw [List.append_assoc, List.append_assoc]
  refine (List.perm_append_comm_assoc _ _ _).trans ?_
  exact List.Perm.refl _
 have h2 := zi7 (zcl hp hq.ids) he
 rw [zbk, zbk, zdm, zd9] at h2
 simp only [Bool.or_eq_false_iff] at h2
 refine ⟨?_, ?_⟩
 · unfold QM.has
   rw [zc6 hp, zbk, he]
   rfl
 ·
  unfold QM.take QM.tW
  rw [zmu (wo id) (zc8 id) (fun x hx => zcw (by unfold zc8 at hx; exact hx)) ht h2.2.1, zi5 h2.1, zcw h2.2.2]
  have e : q.own.getD t [] = l := by rw [yyd, ht]; rfl
  rw [e]
theorem zxs {q : QM} {id : Int} (hq : q.Ok) (he : zc8 id q.sh = true) : q.has id = true ∧ q.take id = q.tH id := by
 have hp : q.all.Perm (q.sh ++ (zbc q.slots ++ q.own.flatten)) := List.perm_append_comm
 have h2 := zi7 (zcl hp hq.ids) he
 rw [zbk, zdm, zd9] at h2
 simp only [Bool.or_eq_false_iff] at h2
 refine ⟨?_, ?_⟩
 · unfold QM.has
   rw [zc6 hp, zbk, he]
   rfl
 · unfold QM.take QM.tH
   rw [zi5 h2.1, zi6 h2.2]
theorem zxt {q : QM} {id : Int} (h1 : ∀ t, t < q.slots.length → q.hasS id t = false) (h2 : ∀ t, t < q.own.length → q.hasW id t = false) (h3 : zc8 id q.sh = false) : q.has id = false := by
 unfold QM.has QM.all
 rw [zbk, zbk, zdm, zd9, h3]
 have a1 : q.slots.any (zpn id) = false := by
  rw [List.any_eq_false]
  intro o ho
  obtain ⟨t, ht, rfl⟩ := List.getElem_of_mem ho
  have := h1 t ht
  unfold QM.hasS at this
  rw [yyd, yyg ht] at this
  simpa using this
 have a2 : q.own.any (zc8 id) = false := by
  rw [List.any_eq_false]
  intro o ho
  obtain ⟨t, ht, rfl⟩ := List.getElem_of_mem ho
  have := h2 t ht
  unfold QM.hasW at this
  rw [yyd, yyg ht] at this
  simpa using this
 rw [a1, a2]
 rfl
theorem zgi (q : QM) (id : Int) : (q.take id).all = wo id q.all := by
 unfold QM.take QM.all
 rw [zfb, zfb]
 congr 2
 ·
  unfold zbc wo
  induction q.slots with
  | nil => rfl
  | cons o l ih =>
   cases o with
   | none => simpa [woO, zpn] using ih
   | some e =>
    cases he : e.id == id with
    | true => simpa [woO, zpn, he] using ih
    | false => simpa [woO, zpn, he] using ih
 ·
  unfold wo
  induction q.own with
  | nil => rfl
  | cons o l ih =>
   rw [List.map_cons, List.flatten_cons, List.flatten_cons, List.filter_append, ih]
theorem zvi {q : QM} (h : q.Ok) (id : Int) : (q.take id).Ok := by
 have e := zgi q id
 refine ⟨by rw [e]; exact Nat.le_trans (List.length_filter_le _ _) h.len, ?_, h.k16, ?_, ?_, ?_⟩
 · rw [e]
   exact h.ids.sublist (List.Sublist.map _ List.filter_sublist)
 · intro l hl
   obtain ⟨m, hm, rfl⟩ := List.mem_map.1 hl
   exact (h.own m hm).filter _
 · exact h.sh.filter _
 · intro l hl
   obtain ⟨m, hm, rfl⟩ := List.mem_map.1 hl
   exact Nat.le_trans (List.length_filter_le _ _) (h.low m hm)
section
variable {W W' : World} {A : QA} {s : QS}
def SC (A : QA) (t qb tb : Nat) (w : World) : Prop := w.cell? ⟨qb, 0, none⟩ = some (.pointer (some ⟨A.qp, 0, none⟩)) ∧ w.cell? ⟨A.qp, 1, none⟩ = some (.pointer (some ⟨A.sp, 0, none⟩)) ∧ w.cell? ⟨tb, 0, none⟩ = some (.int .i64 t)
theorem SC.below {t qb tb : Nat} {w w' : World} (h : SC A t qb tb w) (hb : Below w.heap.size w w') : SC A t qb tb w' := ⟨zae hb h.1, zae hb h.2.1, zae hb h.2.2⟩
theorem SC.al {t qb tb : Nat} {w : World} (h : SC A t qb tb w) (o : Obj) : SC A t qb tb (w.alloc o) := h.below (zab yyr _)
theorem SC.set {t qb tb b i : Nat} {w : World} {u : Value} (h : SC A t qb tb w) (hq : A.qp ≠ b) (h1 : qb ≠ b) (h2 : tb ≠ b) : SC A t qb tb (w.setCell ⟨b, i, none⟩ u) := by
 have f : Fr (fun k => k = b) w (w.setCell ⟨b, i, none⟩ u) := Fr.set (S := fun k => k = b) (Fr.refl _ _) (p := ⟨b, i, none⟩) rfl _
 exact ⟨za6 f h1 h.1, za6 f hq h.2.1, za6 f h2 h.2.2⟩
theorem SC.lt {t qb tb : Nat} {w : World} (h : SC A t qb tb w) : A.qp < w.heap.size ∧ qb < w.heap.size ∧ tb < w.heap.size := ⟨World.block_lt_of_cell? w _ h.2.1, World.block_lt_of_cell? w _ h.1, World.block_lt_of_cell? w _ h.2.2⟩
def QM.aS (q : QM) (id : Int) (t : Nat) : QM := if q.hasS id t then q.tS id t else q
def RG (wr : World) (y : Slt) (F : Bool) (v5 v6 v7 : Value) (w : World) : Prop := ∃ yb, v5 = .pointer (some ⟨yb, 0, none⟩) ∧ v6 = .int .u64 y.ver ∧ v7 = .bool F ∧ w.heap[yb]? = some (.cells #[.int .u64 y.e.key, .int .i64 y.e.id] 63 (0, 0)) ∧ Below wr.heap.size wr w ∧ wr.heap.size ≤ yb
theorem QS.hasS_at {k t : Nat} {y : Slt} {id : Int} (hy : s.ss[t]? = some y) : (s.q k).hasS id t = (y.full && (y.e.id == id)) := by
 unfold QM.hasS
 rw [yyd, QS.slot_at hy]
 show zpn id (zeo y) = _
 unfold zeo
 cases y.full <;> rfl
theorem QS.tS_at {k t : Nat} {y' : Slt} {id : Int} (hf : y'.full = false) : ({ s with ss := s.ss.set t y' } : QS).q k = (s.q k).tS id t := by
 show QM.mk k ((s.ss.set t y').map zeo) _ _ = QM.mk k ((s.ss.map zeo).set t none) _ _
 rw [List.map_set]
 have : zeo y' = none := by unfold zeo; rw [hf]; rfl
 rw [this]
 rfl
theorem zy2 (h : QAt W A s) (t : Nat) (ht : t < A.lp.length) (qb tb : Nat) (hc : SC A t qb tb W) (hqo : ¬ zcx A s qb) (hto : ¬ zcx A s tb) (id : Int) : Calls Tryz.prog 206 #[.int .i64 id, .pointer (some ⟨qb, 0, none⟩), .pointer (some ⟨tb, 0, none⟩)] W fun e w' => e = .returned (.bool ((s.q A.k).hasS id t)) ∧ ∃ s', zbp W A s w' s' ∧ s'.q A.k = (s.q A.k).aS id t := by
 obtain ⟨p, x, y, hp, hx, hy, hL⟩ := h.thread ht
 obtain ⟨F, hF⟩ := yye (y.full)
 have hG : ∀ w, Below W.heap.size W w → Calls Tryz.prog 172 #[.pointer (some ⟨A.sp, 0, none⟩), .int .i64 t] w fun r w' => r = .returned (.tuple #[.agg #[.int .u64 y.e.key, .int .i64 y.e.id], .int .u64 y.ver, .bool F]) ∧ Below w.heap.size w w' := fun w hw => by rw [← hF]; exact zmo (h.below hw).sl t y hy
 have HG := yyh hG
 have HS := yyh (show SC A t qb tb W.drew from hc)
 have hq := QS.hasS_at (k := A.k) (id := id) hy
 rw [hF] at hq
 have HO := yyh (yyi hqo hto)
 have H := yyh (yyi h (yyi hy (yyi hq hF)))
 clear h hp hx hL hG hq hqo hto hF hy
 go_enter Tryz.func206, Tryz.ntmps206
 go_upto_region 1 with fail
 go_cut [5, 6, 7] (fun v5 v6 v7 w => RG W y F v5 v6 v7 w)
 case first =>
  skip
  -- REGION 1 BEGIN
  refine wp_region_held_drew (S := SC A t qb tb) (by kernel_rfl) HS.out (fun hH => ?_)
  refine tq 0 ?_ rfl ?_ ?_
  rotate_left
  · (rintro w ⟨_, _, _⟩; go_simp; try with_reducible rfl)
  try simp only [Act.put, pA, pB, pC]
  refine tq 1 ?_ rfl ?_ ?_
  rotate_left
  · (rintro w ⟨_, _, _⟩; go_simp; try with_reducible rfl)
  try simp only [Act.put, pA, pB, pC]
  refine tq 2 ?_ rfl ?_ ?_
  rotate_left
  · (rintro w ⟨_, _, _⟩; go_simp; try with_reducible rfl)
  try simp only [Act.put, pA, pB, pC]
  refine tq 3 ?_ rfl ?_ ?_
  rotate_left
  · (rintro w ⟨_, _, _⟩; go_simp; try with_reducible rfl)
  try simp only [Act.put, pA, pB, pC]
  refine tq 4 ?_ rfl ?_ ?_
  rotate_left
  · (rintro w ⟨_, _, _⟩; go_simp; try with_reducible rfl)
  try simp only [Act.put, pA, pB, pC]
  refine wpAnyH_ready (rs := [5, 10]) (by kernel_rfl) (by simp) ?_
  refine AllReadyH.cons rfl (fun K hK => ?_) ?_
  ·
   (go_simp; go_at_call 172; first | (refine (HG.out _ (zaf yyr)).mono ?_; rintro e w5 ⟨rfl, hB5⟩; have HB5 := yyh hB5; have HQ5 := yyh (HS.out.below hB5); clear hB5) | (refine (HG.out _ (zab (zaf yyr) _)).mono ?_; rintro e w5 ⟨rfl, hB5⟩; have HB5 := yyh hB5; have HQ5 := yyh ((HS.out.al _).below hB5); have hY5 := (hB5.block W.heap.size (by simp)).trans (heap_alloc_new W (.cells #[.int .u64 0, .int .i64 0] 63)); obtain ⟨y50, y51, y52, y53⟩ := zao hY5; have HY5 := yyh hY5; clear hB5 hY5))
   refine hK.out _ _ ?_ (fun hH => ?_)
   · (try dsimp only); (exact HQ5.out)
   clear hK K
   refine tq 6 ?_ rfl ?_ ?_
   rotate_left
   · (rintro w ⟨_, _, _⟩; go_simp; try with_reducible rfl)
   try simp only [Act.put, pA, pB, pC]
   refine tq 7 ?_ rfl ?_ ?_
   rotate_left
   · (rintro w ⟨_, _, _⟩; go_simp; try with_reducible rfl)
   try simp only [Act.put, pA, pB, pC]
   refine tq 8 ?_ rfl ?_ ?_
   rotate_left
   · (rintro w ⟨_, _, _⟩; go_simp; try with_reducible rfl)
   try simp only [Act.put, pA, pB, pC]
   refine tq 9 ?_ rfl ?_ ?_
   rotate_left
   · (rintro w ⟨_, _, _⟩; go_simp; try with_reducible rfl)
   try simp only [Act.put, pA, pB, pC]
   refine rd 10 (by kernel_rfl) rfl (fun K hK => ?_)
   ·
    (go_simp)
    refine hK.out _ _ ?_ (fun hH => ?_)
    · (try dsimp only); (exact hH.al _)
    clear hK K
    refine rd 11 (by kernel_rfl) rfl (fun K hK => ?_)
    ·
     (go_simp)
     refine hK.out _ _ ?_ (fun hH => ?_)
     · (try dsimp only); (first | exact HQ5.out.al _ | (have hl := HS.out.lt; change _ < W.heap.size ∧ _ < W.heap.size ∧ _ < W.heap.size at hl; exact (HQ5.out.set (by omega) (by omega) (by omega)).set (by omega) (by omega) (by omega)))
     clear hK K
     refine rd 12 (by kernel_rfl) rfl (fun K hK => ?_)
     ·
      (go_simp)
      refine hK.out _ _ ?_ (fun hH => ?_)
      · (try dsimp only); (exact hH)
      clear hK K
      refine rd 13 (by kernel_rfl) rfl (fun K hK => ?_)
      ·
       (go_simp)
       refine hK.out _ _ ?_ (fun hH => ?_)
       · (try dsimp only); (exact hH)
       clear hK K
       refine wpAnyH_done (by kernel_rfl) ?_ _
       go_wp2_with fail
       go_meet
       first | exact ⟨w5.heap.size, rfl, rfl, rfl, heap_alloc_new w5 _, zab (zad HB5.out (zaf yyr)) _, HB5.out.size⟩ | exact ⟨W.heap.size, rfl, rfl, rfl, zcb HY5.out, zak (zak (zad HB5.out (zab (zaf yyr) _)) _ _ _ yyn) _ _ _ yyn, yyn⟩
  refine AllReadyH.cons rfl (fun K hK => ?_) ?_
  ·
   (go_simp)
   refine hK.out _ _ ?_ (fun hH => ?_)
   · (try dsimp only); (exact hH.al _)
   clear hK K
   refine rd 5 (by kernel_rfl) rfl (fun K hK => ?_)
   ·
    (go_simp; go_at_call 172; first | (refine (HG.out _ (zaf yyr)).mono ?_; rintro e w5 ⟨rfl, hB5⟩; have HB5 := yyh hB5; have HQ5 := yyh (HS.out.below hB5); clear hB5) | (refine (HG.out _ (zab (zaf yyr) _)).mono ?_; rintro e w5 ⟨rfl, hB5⟩; have HB5 := yyh hB5; have HQ5 := yyh ((HS.out.al _).below hB5); have hY5 := (hB5.block W.heap.size (by simp)).trans (heap_alloc_new W (.cells #[.int .u64 0, .int .i64 0] 63)); obtain ⟨y50, y51, y52, y53⟩ := zao hY5; have HY5 := yyh hY5; clear hB5 hY5))
    refine hK.out _ _ ?_ (fun hH => ?_)
    · (try dsimp only); (exact HQ5.out)
    clear hK K
    refine tq 6 ?_ rfl ?_ ?_
    rotate_left
    · (rintro w ⟨_, _, _⟩; go_simp; try with_reducible rfl)
    try simp only [Act.put, pA, pB, pC]
    refine tq 7 ?_ rfl ?_ ?_
    rotate_left
    · (rintro w ⟨_, _, _⟩; go_simp; try with_reducible rfl)
    try simp only [Act.put, pA, pB, pC]
    refine tq 8 ?_ rfl ?_ ?_
    rotate_left
    · (rintro w ⟨_, _, _⟩; go_simp; try with_reducible rfl)
    try simp only [Act.put, pA, pB, pC]
    refine tq 9 ?_ rfl ?_ ?_
    rotate_left
    · (rintro w ⟨_, _, _⟩; go_simp; try with_reducible rfl)
    try simp only [Act.put, pA, pB, pC]
    refine rd 11 (by kernel_rfl) rfl (fun K hK => ?_)
    ·
     (go_simp)
     refine hK.out _ _ ?_ (fun hH => ?_)
     · (try dsimp only); (first | exact HQ5.out.al _ | (have hl := HS.out.lt; change _ < W.heap.size ∧ _ < W.heap.size ∧ _ < W.heap.size at hl; exact (HQ5.out.set (by omega) (by omega) (by omega)).set (by omega) (by omega) (by omega)))
     clear hK K
     refine rd 12 (by kernel_rfl) rfl (fun K hK => ?_)
     ·
      (go_simp)
      refine hK.out _ _ ?_ (fun hH => ?_)
      · (try dsimp only); (exact hH)
      clear hK K
      refine rd 13 (by kernel_rfl) rfl (fun K hK => ?_)
      ·
       (go_simp)
       refine hK.out _ _ ?_ (fun hH => ?_)
       · (try dsimp only); (exact hH)
       clear hK K
       refine wpAnyH_done (by kernel_rfl) ?_ _
       go_wp2_with fail
       go_meet
       first | exact ⟨w5.heap.size, rfl, rfl, rfl, heap_alloc_new w5 _, zab (zad HB5.out (zaf yyr)) _, HB5.out.size⟩ | exact ⟨W.heap.size, rfl, rfl, rfl, zcb HY5.out, zak (zak (zad HB5.out (zab (zaf yyr) _)) _ _ _ yyn) _ _ _ yyn, yyn⟩
  exact AllReadyH.nil
  -- REGION 1 END
 case rest =>
  obtain ⟨yb, rfl, rfl, rfl, hY, hB, hge⟩ := hcut
  obtain ⟨h, hy, hq, hF⟩ := H.out
  obtain ⟨y0, y1, y2, y3⟩ := zao hY
  by_cases hyes : F = true ∧ y.e.id = id
  ·
   obtain ⟨rfl, rfl⟩ := hyes
   have hd := h.below (zaf hB)
   have hTk := zkc hd.sl t y hy hF
   have hsc := SC.below (w := W) (w' := wc.drew) HS.out (zaf hB)
   obtain ⟨d0, d1, d2⟩ := hsc
   have gi : (y.e.id != y.e.id) = false := by simp
   have hyes : (s.q A.k).hasS y.e.id t = true := by rw [hq]; simp
   have st := (zbp.below h (zaf hB))
   have HTk := yyh hTk
   have HS4 := yyh (show SC A t qb tb wc.drew from ⟨d0, d1, d2⟩)
   have HN := yyh (show qb ≠ A.sg ∧ tb ≠ A.sg ∧ A.qp ≠ A.sg from ⟨fun e => HO.out.1 (by rw [e]; simp [zcx]), fun e => HO.out.2 (by rw [e]; simp [zcx]), h.tq.ne h.tsg (by decide)⟩)
   have HST := yyh (yyi st hyes)
   clear h hy hq hF hY hB hd hTk st hyes
   go_upto_region 4 with fail
   -- REGION 4 BEGIN
   refine wp_region_held_drew (S := SC A t qb tb) (by kernel_rfl) HS4.out (fun hH => ?_)
   refine tq 0 ?_ rfl ?_ ?_
   rotate_left
   · (rintro w ⟨_, _, _⟩; go_simp; try with_reducible rfl)
   try simp only [Act.put, pA, pB, pC]
   refine tq 1 ?_ rfl ?_ ?_
   rotate_left
   · (rintro w ⟨_, _, _⟩; go_simp; try with_reducible rfl)
   try simp only [Act.put, pA, pB, pC]
   refine tq 2 ?_ rfl ?_ ?_
   rotate_left
   · (rintro w ⟨_, _, _⟩; go_simp; try with_reducible rfl)
   try simp only [Act.put, pA, pB, pC]
   refine tq 3 ?_ rfl ?_ ?_
   rotate_left
   · (rintro w ⟨_, _, _⟩; go_simp; try with_reducible rfl)
   try simp only [Act.put, pA, pB, pC]
   refine tq 4 ?_ rfl ?_ ?_
   rotate_left
   · (rintro w ⟨_, _, _⟩; go_simp; try with_reducible rfl)
   try simp only [Act.put, pA, pB, pC]
   refine tq 5 ?_ rfl ?_ ?_
   rotate_left
   · (rintro w ⟨_, _, _⟩; go_simp; try with_reducible rfl)
   try simp only [Act.put, pA, pB, pC]
   refine rd 6 (by kernel_rfl) rfl (fun K hK => ?_)
   ·
    (go_simp; go_at_call 173; refine HTk.out.mono ?_; rintro e w6 ⟨rfl, hS6, hF6⟩; have HX := yyh (yyi hS6 hF6); clear hS6 hF6; unfold enV)
    refine hK.out _ _ ?_ (fun hH => ?_)
    · (try dsimp only); (exact ⟨za6 HX.out.2 HN.out.1 hH.1, za6 HX.out.2 HN.out.2.2 hH.2.1, za6 HX.out.2 HN.out.2.1 hH.2.2⟩)
    clear hK K
    refine tq 7 ?_ rfl ?_ ?_
    rotate_left
    · (rintro w ⟨_, _, _⟩; go_simp; try with_reducible rfl)
    try simp only [Act.put, pA, pB, pC]
    refine tq 8 ?_ rfl ?_ ?_
    rotate_left
    · (rintro w ⟨_, _, _⟩; go_simp; try with_reducible rfl)
    try simp only [Act.put, pA, pB, pC]
    refine tq 9 ?_ rfl ?_ ?_
    rotate_left
    · (rintro w ⟨_, _, _⟩; go_simp; try with_reducible rfl)
    try simp only [Act.put, pA, pB, pC]
    refine rd 10 (by kernel_rfl) rfl (fun K hK => ?_)
    ·
     (go_simp)
     refine hK.out _ _ ?_ (fun hH => ?_)
     · (try dsimp only); (exact hH)
     clear hK K
     refine wpAnyH_done (by kernel_rfl) ?_ _
     go_wp2_with fail
     go_ret
     have st6 := HST.out.1.trans (HST.out.1.at_.setSl HX.out.1 HX.out.2 (by rw [List.length_set]))
     exact ⟨by rw [HST.out.2]; rfl, _, st6, by unfold QM.aS; rw [HST.out.2, if_pos rfl]; exact QS.tS_at (id := y.e.id) rfl⟩
   -- REGION 4 END
  ·
   have hno : (s.q A.k).hasS id t = false := by
    rw [hq]
    cases F with
    | false => rfl
    | true =>
     show (y.e.id == id) = false
     rw [beq_eq_false_iff_ne]
     intro e
     exact hyes ⟨rfl, e⟩
   have HST := yyh (yyi (zbp.below h hB) hno)
   have gi : F = true → (y.e.id != id) = true := fun hf => by
    rw [bne_iff_ne]
    intro e
    exact hyes ⟨hf, e⟩
   clear h hy hq hF hY hB hyes hno
   cases F with
   | false =>
    go_wp2_with fail
    go_ret
    exact ⟨by rw [HST.out.2]; rfl, s, HST.out.1, by unfold QM.aS; rw [HST.out.2]; rfl⟩
   | true =>
    have gi := gi rfl
    go_wp2_with fail
    go_ret
    exact ⟨by rw [HST.out.2]; rfl, s, HST.out.1, by unfold QM.aS; rw [HST.out.2]; rfl⟩
end
section
variable {W : World}
theorem zvj (b n cap : Nat) (hn : n ≤ 100000) (hcap : cap ≤ maxLen) (c : Nat → Nat → Value) (P R : Nat → World → Prop) (hP : ∀ i X, P i X → ∀ k j, k < n → j < 2 → X.cell? ⟨b, k * 2 + j, none⟩ = some (c k j)) (g : Nat) (lb : Array Value) (eg : ∀ args w, (callFunc g args).run Tryz.prog w = .ok (.enter g args) w) (h0 : P 0 W)
 (hp : ∀ (X : World) (i : Nat), P i X → i < n → Calls Tryz.prog g (#[.agg #[c i 0, c i 1]] ++ lb) X fun e w' => ∃ r, e = .returned (.bool r) ∧ (r = true → R i w') ∧ (r = false → P (i + 1) w')) :
 Calls Tryz.prog 209 #[.slice (some ⟨b, 0, none⟩) n cap, .func (.func g) #[] lb] W fun e w' => (e = .returned (.int .i64 (-1)) ∧ P n w') ∨ ∃ i : Nat, i < n ∧ e = .returned (.int .i64 i) ∧ R i w' := by
 have hm : (cap : Int) ≤ 9223372036854775807 := by unfold maxLen at hcap; omega
 have HC := yyh hP
 have HP := yyh hp
 have H0 := yyh h0
 clear hP hp h0
 go_enter Tryz.func209, Tryz.ntmps209
 go_wp2_with fail
 go_loopg [5, 8] n (fun gg _ s8 wr => ∃ i : Nat, i ≤ n ∧ gg = n - i ∧ s8 = .int .i64 i ∧ Aside (P i wr))
 case atStart => exact ⟨0, Nat.zero_le _, by omega, rfl, H0.out⟩
 case round =>
  obtain ⟨i, hi, rfl, rfl, A⟩ := hrel
  by_cases hlt : i < n
  ·
   have hltz : (i : Int) < (n : Int) := by omega
   have l0 : wr.cell? ⟨b, i * 2, none⟩ = some (c i 0) := HC.out i wr A.out i 0 hlt (by omega)
   have l1 : wr.cell? ⟨b, i * 2 + 1, none⟩ = some (c i 1) := HC.out i wr A.out i 1 hlt (by omega)
   have hcall := HP.out wr i A.out hlt
   have HCL := yyh hcall
   clear hcall
   go_wp2_with fail
   go_at_fn g
   refine HCL.out.mono ?_
   rintro e w' ⟨r, rfl, hR, hN⟩
   cases r with
   | true =>
    have HR := yyh (hR rfl)
    clear hR hN
    go_wp2_with fail
    go_ret
    exact .inr ⟨i, hlt, rfl, HR.out⟩
   | false =>
    have HN := yyh (hN rfl)
    clear hR hN
    go_wp2_with fail
    go_roundg (n - (i + 1))
    case measure => omega
    case rel => exact ⟨i + 1, by omega, rfl, by go_num, HN.out⟩
  ·
   have hltz : ¬ (i : Int) < (n : Int) := by omega
   obtain rfl : i = n := by omega
   go_wp2_with fail
   go_ret
   exact .inl ⟨rfl, A.out⟩
theorem zny (b n cap : Nat) (hn : n ≤ 100000) (hcap : cap ≤ maxLen) (c : Nat → Nat → Value) (P R : Nat → World → Prop) (hP : ∀ i X, P i X → ∀ k j, k < n → j < 2 → X.cell? ⟨b, k * 2 + j, none⟩ = some (c k j)) (g : Nat) (lb : Array Value) (eg : ∀ args w, (callFunc g args).run Tryz.prog w = .ok (.enter g args) w) (h0 : P 0 W)
 (hp : ∀ (X : World) (i : Nat), P i X → i < n → Calls Tryz.prog g (#[.agg #[c i 0, c i 1]] ++ lb) X fun e w' => ∃ r, e = .returned (.bool r) ∧ (r = true → R i w') ∧ (r = false → P (i + 1) w')) :
 Calls Tryz.prog 150 #[.slice (some ⟨b, 0, none⟩) n cap, .func (.func g) #[] lb] W fun e w' => (e = .returned (.bool false) ∧ P n w') ∨ ∃ i : Nat, i < n ∧ e = .returned (.bool true) ∧ R i w' := by
 have H := yyh (zvj b n cap hn hcap c P R hP g lb eg h0 hp)
 clear hP hp h0
 go_enter Tryz.func150, Tryz.ntmps150
 go_wp2_with fail
 refine H.out.mono ?_
 rintro e w' (⟨rfl, hh⟩ | ⟨i, hi, rfl, hh⟩)
 ·
  have HH := yyh hh
  clear hh
  go_wp2_with fail
  go_ret
  exact .inl ⟨rfl, HH.out⟩
 ·
  have HH := yyh hh
  clear hh
  have h1 : (0 : Int) ≤ (i : Int) := by omega
  go_wp2_with fail
  go_ret
  refine .inr ⟨i, hi, ?_, HH.out⟩
  simp
end
end Go.Proofs.YtcfhkbcllijnkaaGreat
