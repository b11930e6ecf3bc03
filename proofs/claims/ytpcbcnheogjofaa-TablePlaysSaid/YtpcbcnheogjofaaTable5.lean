/- Contracts of package table, fifth part: making a task that does nothing. -/
import Derived.Test.YtpcbcnheogjofaaTable3
import Derived.Deep.AppendLies
import Derived.Deep.RegionHeldLaw
import Derived.Deep.RegionLaw
namespace Go.Proofs.Ytpcbcnheogjofaa
open Go.RowKit Go.Maps Go.Proofs.YtpcbcnheogjofaaW.PrintWords
set_option linter.unusedVariables false
set_option linter.unusedSimpArgs false

set_option maxRecDepth 100000 in
theorem Clone_nil (w : World) : Calls Try.prog 94 #[.slice none 0 0] w fun e w' => e = .returned (.slice none 0 0) ∧ w = w' := by
  have he : ∀ w, (binOp .eql 105 (.slice none 0 0) (.slice none 0 0)).run Try.prog w = .ok (.bool true) w := fun _ => by kernel_rfl
  go_enter Try.func94, Try.ntmps94
  go_wp2
  go_ret
  exact ⟨rfl, rfl⟩
set_option maxRecDepth 100000 in
theorem ClipOp_nil (w : World) : Calls Try.prog 93 #[.slice none 0 0] w fun e w' => e = .returned (.slice none 0 0) ∧ w = w' := by
  go_enter Try.func93, Try.ntmps93
  go_wp2
  go_ret
  exact ⟨rfl, rfl⟩
set_option maxRecDepth 100000 in
theorem Index_nil (f : Value) (w : World) : Calls Try.prog 116 #[.slice none 0 0, f] w fun e w' => e = .returned (.int .i64 (-1)) ∧ w = w' := by
  go_enter Try.func116, Try.ntmps116
  go_wp2_with fail
  refine wp_loop_rounds 1 ?_
  rw [rounds_succ]
  go_wp2_with fail
  go_ret
  exact ⟨rfl, rfl⟩
set_option maxRecDepth 100000 in
theorem Contains_nil (f : Value) (w : World) : Calls Try.prog 111 #[.slice none 0 0, f] w fun e w' => e = .returned (.bool false) ∧ w = w' := by
  go_enter Try.func111, Try.ntmps111
  go_wp2_with fail
  refine (Index_nil f _).mono ?_
  rintro e w1 ⟨rfl, rfl⟩
  go_wp2_with fail
  go_ret
  exact ⟨rfl, rfl⟩
set_option maxRecDepth 100000 in
theorem BodyOk_nil (w : World) : Calls Try.prog 92 #[.slice none 0 0] w fun e w' => e = .returned (.bool true) ∧ Below w.heap.size w w' := by
  go_enter Try.func92, Try.ntmps92
  go_wp2_with fail
  refine (spans_any _).mono ?_
  rintro e w1 ⟨es, clock, rfl, rfl, hE⟩
  go_wp2_with fail
  refine (Contains_nil _ _).mono ?_
  rintro e w2 ⟨rfl, rfl⟩
  go_wp2_with fail
  go_ret
  exact ⟨rfl, below_al (below_dr (below_al (Below.refl _ _) _)) _⟩
def rowL (id pr d f p r m : Int) : List Value := [.int .i64 id, .int .i64 pr, .int .i64 0, .int .u64 d, .int .u64 0, .int .u64 0, .int .u64 0, .slice none 0 0, .int .u64 f, .int .u64 p, .int .u64 d, .int .u64 r, .int .u64 m]
theorem rowL_one (id pr d f p r m : Int) : ∀ u ∈ rowL id pr d f p r m, u.oneCell' = true := by
  intro u hu
  simp only [rowL, List.mem_cons, List.not_mem_nil, or_false] at hu
  rcases hu with rfl | rfl | rfl | rfl | rfl | rfl | rfl | rfl | rfl | rfl | rfl | rfl | rfl <;> rfl
def rowZ : Value := .agg #[.int .i64 0, .int .i64 0, .int .i64 0, .int .u64 0, .int .u64 0, .int .u64 0, .int .u64 0, .slice none 0 0, .int .u64 0, .int .u64 0, .int .u64 0, .int .u64 0, .int .u64 0]
theorem rowInfo : (Try.prog.info? 137).map (fun i => (i.zero, i.size, i.bytes)) = some (some rowZ, 13, 120) := by kernel_rfl
section
variable {W W' : World} {t a b g mb : Nat} {ws : List Int} {B : Int} {rv : Value} {n : Nat} {R : List Value} {C : Int → Int → Int} {base : Nat}
/-- Behind the appended row, before it is stored: what stands. -/
theorem TbAt.grown (h : TbAt W t a b g mb ws B rv n R C base) {rv' : Value} {n' : Nat} {R' : List Value} (hg : W.grownBy W' rv.ownBlock) (hown : W'.ownsRow base 137 13 rv' n' R') : TbAt (W'.setCell ⟨t, 1, none⟩ rv') t a b g mb ws B rv' n' R' C base := by
  obtain ⟨l1, l2, l3, l4, l5⟩ := h.lt
  obtain ⟨n1, n2, n3, n4, n5, n6, n7⟩ := h.ne
  have hno : ∀ k, k < base → some k ≠ rv.ownBlock := fun k hk e => by have := (h.rows.lt k e.symm).1; omega
  obtain ⟨f, ⟨es, clock, h1, h2⟩, hf⟩ := h.map
  have ht : W'.heap[t]? = W.heap[t]? := hg.block t (Array.getElem?_eq_some_iff.1 h.hdr).1 (hno t l1)
  have hmb : W'.heap[mb]? = W.heap[mb]? := hg.block mb (Array.getElem?_eq_some_iff.1 h1).1 (hno mb l5)
  have hF : Fr (fun k => some k = rv.ownBlock) W W' := ⟨hg.os, hg.tape, hg.output, hg.size, fun k hk hn => hg.block k hk hn⟩
  have hA : ArAt W' a b g ws B := h.ar.fr hF (hno a l2) (hno b l3) (hno g l4)
  refine ⟨by rw [heap_set (ht.trans h.hdr)]; rfl, hA.put (Ne.symm n1) (Ne.symm n2) (Ne.symm n3) _, ?_, CntM.of_block ⟨f, ⟨es, clock, hmb.trans h1, h2⟩, hf⟩ (Below.heap_setCell W' ⟨t, 1, none⟩ _ mb (by show mb ≠ t; omega)), h.lt, h.ne⟩
  refine hown.kept (row := some t) ⟨rfl, rfl, rfl, by simp, fun k _ hn => Below.heap_setCell W' ⟨t, 1, none⟩ rv' k (fun e => hn (by rw [e]))⟩ ?_
  cases hv : rv'.ownBlock with
  | none => exact .inl rfl
  | some x =>
    right
    have := (hown.lt x hv).1
    intro e
    injection e with e
    omega
set_option maxRecDepth 100000 in
set_option maxHeartbeats 40000000 in
theorem TMake_ok (h : TbAt W t a b g mb ws B rv n R C base) (hbs : base ≤ W.heap.size) (hn : n ≤ 5000) (hB : B ≤ 800000000) (hkn : n < ws.length) (hpre : ∀ j, j < n → (ws.getD j 0 % 8 == 0) = false) (hfree : (ws.getD n 0 % 8 == 0) = true)
    (PR s f p d r m : Int) (p0 : 0 ≤ PR) (p1 : PR ≤ 7) (hsw : (Lit.int .i64 s).wf = true) (hcan : canB 0 s = true) (f0 : 0 ≤ f) (f1 : f ≤ top) (pp0 : 0 ≤ p) (d0 : 0 ≤ d) (d1 : d ≤ top) (hok : p = 0 ∨ (0 < p ∧ okB f p d = true)) (hC : ∀ x y, 0 ≤ C x y ∧ C x y ≤ 1000000) :
    Calls Try.prog 65 #[.pointer (some ⟨t, 0, none⟩), .int .i64 PR, .slice none 0 0, .agg #[.int .u64 f, .int .u64 p, .int .u64 d, .int .u64 r, .int .u64 m], .int .i64 s] W fun e w' => ∃ q cap, e = .returned (.tuple #[.int .i64 ((n : Int) + 1), .int .i64 0]) ∧ TbAt w' t a b g mb (ws.set n (nextI (ws.getD n 0) s)) (B + n + 2) (.slice (some ⟨q, 0, none⟩) (n + 1) cap) (n + 1) (R ++ rowL ((n : Int) + 1) PR d f p r m) (updC C s PR (C s PR + 1)) base ∧ Fr (fun x => own2 b g x ∨ x = mb ∨ x = t ∨ some x = rv.ownBlock) W w' := by
  obtain ⟨jb, hjb⟩ : ∃ jb, W.heap.size = jb := ⟨_, rfl⟩
  obtain ⟨W0, hW0⟩ : ∃ W0, W.alloc (.cells #[.int .u64 f, .int .u64 p, .int .u64 d, .int .u64 r, .int .u64 m] 57) = W0 := ⟨_, rfl⟩
  have h0 : TbAt W0 t a b g mb ws B rv n R C base := by rw [← hW0]; exact h.al _
  have hj0 : W0.heap[jb]? = some (.cells #[.int .u64 f, .int .u64 p, .int .u64 d, .int .u64 r, .int .u64 m] 57 (0, 0)) := by rw [← hW0, ← hjb]; exact heap_alloc_new W _
  have hb0 : Below W.heap.size W W0 := by rw [← hW0]; exact below_al (Below.refl _ _) _
  have hs0 : base ≤ W0.heap.size := Nat.le_trans hbs hb0.size
  have q1 : decide (PR < 0) = false := by simp; omega
  have q2 : decide (PR > 7) = false := by simp; omega
  have q3 : decide (7 < PR) = false := by simp; omega
  have HCAN := Lib.hid (fun w => can_any 0 s (show (Lit.int .i64 0).wf = true from by decide) hsw w)
  rw [hcan] at HCAN
  have HAL := Lib.hid (fun (w : World) (hA : ArAt w a b g ws B) => Alloc_at hA (by omega) s hsw hcan n hkn hpre hfree)
  have i2 : In64 PR := by show (Lit.int .i64 PR).wf = true; simp [Lit.wf, IntKind.min, IntKind.max, IntKind.signed, IntKind.bits]; omega
  have I2 := Lib.hid i2
  have I3 := Lib.hid (show In64 s from hsw)
  have HCB := Lib.hid hC
  have HOK := Lib.hid hok
  obtain ⟨WS, hWS⟩ : ∃ WS, ws.set n (nextI (ws.getD n 0) s) = WS := ⟨_, rfl⟩
  rw [hWS] at HAL
  rw [hWS]
  have HJ := Lib.hid (show jb ≠ t ∧ ¬ own2 b g jb ∧ some jb ≠ rv.ownBlock from by
    obtain ⟨l1, l2, l3, l4, l5⟩ := h.lt
    refine ⟨by omega, fun hh => by rcases hh with hh | hh <;> omega, fun e => ?_⟩
    have := (h.rows.lt jb e.symm).2
    omega)
  have HH0 := Lib.hid h0
  have HB0 := Lib.hid hb0
  have HS0 := Lib.hid hs0
  clear h h0 hb0 hs0 hpre hfree hcan hok hC hsw i2 hWS hkn
  go_enter Try.func65, Try.ntmps65
  go_upto_region 1 with fail
  try rw [hW0]
  try rw [hjb]
  clear hW0
  obtain ⟨j0, j1, j2, j3, j4⟩ : W0.cell? ⟨jb, 0, none⟩ = some (.int .u64 f) ∧ W0.cell? ⟨jb, 1, none⟩ = some (.int .u64 p) ∧ W0.cell? ⟨jb, 2, none⟩ = some (.int .u64 d) ∧ W0.cell? ⟨jb, 3, none⟩ = some (.int .u64 r) ∧ W0.cell? ⟨jb, 4, none⟩ = some (.int .u64 m) := by
    refine ⟨?_, ?_, ?_, ?_, ?_⟩ <;> simp [World.cell?, hj0]
  go_cut [39] (fun v39 wx => v39 = .bool false ∧ Below W0.heap.size W0 wx)
  case first =>
    go_wp2_with fail
    refine (BodyOk_nil _).mono ?_
    rintro e w1 ⟨rfl, hB1⟩
    go_wp2_with fail
    refine (HCAN.out _).mono ?_
    rintro e w2 ⟨rfl, hB2⟩
    have hB3 := below_step hB2 hB1
    have hj2 : w2.heap[jb]? = some (.cells #[.int .u64 f, .int .u64 p, .int .u64 d, .int .u64 r, .int .u64 m] 57 (0, 0)) := (hB3.block jb (Array.getElem?_eq_some_iff.1 hj0).1).trans hj0
    clear j0 j1 j2 j3 j4
    obtain ⟨j0, j1, j2, j3, j4⟩ : w2.cell? ⟨jb, 0, none⟩ = some (.int .u64 f) ∧ w2.cell? ⟨jb, 1, none⟩ = some (.int .u64 p) ∧ w2.cell? ⟨jb, 2, none⟩ = some (.int .u64 d) ∧ w2.cell? ⟨jb, 3, none⟩ = some (.int .u64 r) ∧ w2.cell? ⟨jb, 4, none⟩ = some (.int .u64 m) := by
      refine ⟨?_, ?_, ?_, ?_, ?_⟩ <;> simp [World.cell?, hj2]
    rcases HOK.out with rfl | ⟨hp, hok⟩
    · go_wp2_with fail
      go_meet
      exact ⟨rfl, hB3⟩
    · have g1 : decide (p > 0) = true := by simpa using hp
      have g2 : decide (0 < p) = true := by simpa using hp
      go_wp2_with fail
      refine (GOk_any f p d r m f0 pp0 d0 d1 _).mono ?_
      rintro e w3 ⟨rfl, rfl⟩
      rw [hok]
      go_wp2_with fail
      go_meet
      exact ⟨rfl, below_al hB3 _⟩
  case rest =>
  obtain ⟨rfl, hB1⟩ := hcut
  have h1 := HH0.out.below hB1
  have hj1 : wc.heap[jb]? = some (.cells #[.int .u64 f, .int .u64 p, .int .u64 d, .int .u64 r, .int .u64 m] 57 (0, 0)) := (hB1.block jb (Array.getElem?_eq_some_iff.1 hj0).1).trans hj0
  have hF1 : Fr (fun x => own2 b g x ∨ x = mb ∨ x = t ∨ some x = rv.ownBlock) W wc := Fr.of_below (below_step hB1 HB0.out)
  have hs1 : base ≤ wc.heap.size := Nat.le_trans HS0.out hB1.size
  obtain ⟨k0, k1, k2⟩ := h1.cells
  have H1 := Lib.hid h1
  clear h1 hj0 hB1 j0 j1 j2 j3 j4
  go_wp2_with fail
  refine (HAL.out _ H1.out.ar).mono ?_
  rintro e w4 ⟨rfl, hA4, hF4⟩
  have h4 := H1.out.arFr hF4 hA4
  have hj4 : w4.heap[jb]? = some (.cells #[.int .u64 f, .int .u64 p, .int .u64 d, .int .u64 r, .int .u64 m] 57 (0, 0)) := (hF4.block jb (Array.getElem?_eq_some_iff.1 hj1).1 HJ.out.2.1).trans hj1
  have hF5 : Fr (fun x => own2 b g x ∨ x = mb ∨ x = t ∨ some x = rv.ownBlock) W w4 := hF1.trans (hF4.mono (fun k hk => Or.inl hk))
  have hs4 : base ≤ w4.heap.size := Nat.le_trans hs1 hF4.size
  clear hj1 hF1 hF4 hA4 hs1 k0 k1 k2
  obtain ⟨k0, k1, k2⟩ := h4.cells
  obtain ⟨j0, j1, j2, j3, j4⟩ : w4.cell? ⟨jb, 0, none⟩ = some (.int .u64 f) ∧ w4.cell? ⟨jb, 1, none⟩ = some (.int .u64 p) ∧ w4.cell? ⟨jb, 2, none⟩ = some (.int .u64 d) ∧ w4.cell? ⟨jb, 3, none⟩ = some (.int .u64 r) ∧ w4.cell? ⟨jb, 4, none⟩ = some (.int .u64 m) := by
    refine ⟨?_, ?_, ?_, ?_, ?_⟩ <;> simp [World.cell?, hj4]
  have H4 := Lib.hid h4
  clear h4
  go_upto_region 6 with fail
  go_cut [] (fun wx => ∃ q cap, TbAt wx t a b g mb WS (B + n + 2) (.slice (some ⟨q, 0, none⟩) (n + 1) cap) (n + 1) (R ++ rowL ((n : Int) + 1) PR d f p r m) C base ∧ Fr (fun x => own2 b g x ∨ x = mb ∨ x = t ∨ some x = rv.ownBlock) W wx)
  case first =>
    obtain ⟨i0, hi0, hz0, hz1, hz2⟩ := info_parts rowInfo
    have h4d := H4.out.dr
    obtain ⟨o, ho⟩ : ∃ o : Obj, Obj.cells #[.int .i64 ((n : Int) + 1), .int .i64 PR, .int .i64 0, .int .u64 d, .int .u64 0, .int .u64 0, .int .u64 0, .slice none 0 0, .int .u64 f, .int .u64 p, .int .u64 d, .int .u64 r, .int .u64 m] 137 = o := ⟨_, rfl⟩
    have hown2 : ((w4.alloc o).drew).ownsRow base 137 13 rv n R := World.ownsRow.drew (H4.out.rows.alloc o)
    have hnb : ((w4.alloc o).drew).heap[w4.heap.size]? = some (.cells #[.int .i64 ((n : Int) + 1), .int .i64 PR, .int .i64 0, .int .u64 d, .int .u64 0, .int .u64 0, .int .u64 0, .slice none 0 0, .int .u64 f, .int .u64 p, .int .u64 d, .int .u64 r, .int .u64 m] 137) := by rw [← ho]; exact heap_alloc_new w4 _
    have hnews : ∀ j u, (rowL ((n : Int) + 1) PR d f p r m)[j]? = some u → ((w4.alloc o).drew).cell? ((⟨w4.heap.size, 0, none⟩ : Addr).add j) = some u := World.news_of_block hnb
    clear hnb
    have HOWN := Lib.hid hown2
    have HNEWS := Lib.hid hnews
    have h4o : TbAt ((w4.alloc o).drew) t a b g mb WS (B + n + 2) rv n R C base := (H4.out.al o).dr
    have HTC := Lib.hid h4o.cells.2.1
    have HTF := Lib.hid (show ((w4.alloc o).drew).frozen? ⟨t, 1, none⟩ = false from by simp only [World.frozen?, h4o.hdr]; rfl)
    have HTL := Lib.hid (show t < ((w4.alloc o).drew).heap.size from (Array.getElem?_eq_some_iff.1 h4o.hdr).1)
    have HTN := Lib.hid (show some t ≠ rv.ownBlock from fun e => by have := (h4o.rows.lt t e.symm).1; have := h4o.lt.1; omega)
    have k1o : (w4.alloc o).cell? ⟨t, 1, none⟩ = some rv := (H4.out.al o).cells.2.1
    have H4O := Lib.hid h4o
    clear h4o
    have H4D := Lib.hid h4d
    clear hown2 hnews h4d
    have SD : w4.drew.cell? ⟨t, 1, none⟩ = some rv ∧ w4.drew.cell? ⟨jb, 0, none⟩ = some (.int .u64 f) ∧ w4.drew.cell? ⟨jb, 1, none⟩ = some (.int .u64 p) ∧ w4.drew.cell? ⟨jb, 2, none⟩ = some (.int .u64 d) ∧ w4.drew.cell? ⟨jb, 3, none⟩ = some (.int .u64 r) ∧ w4.drew.cell? ⟨jb, 4, none⟩ = some (.int .u64 m) := ⟨k1, j0, j1, j2, j3, j4⟩
    have SO : ((w4.alloc o).drew).cell? ⟨t, 1, none⟩ = some rv ∧ ((w4.alloc o).drew).cell? ⟨jb, 0, none⟩ = some (.int .u64 f) ∧ ((w4.alloc o).drew).cell? ⟨jb, 1, none⟩ = some (.int .u64 p) ∧ ((w4.alloc o).drew).cell? ⟨jb, 2, none⟩ = some (.int .u64 d) ∧ ((w4.alloc o).drew).cell? ⟨jb, 3, none⟩ = some (.int .u64 r) ∧ ((w4.alloc o).drew).cell? ⟨jb, 4, none⟩ = some (.int .u64 m) := by
      refine ⟨k1o, ?_, ?_, ?_, ?_, ?_⟩ <;> exact cell_goes (below_dr (below_al (Below.refl _ w4) o)) (by assumption)
    have HSD := Lib.hid SD
    have HSO := Lib.hid SO
    have HJ2 := Lib.hid (show jb < ((w4.alloc o).drew).heap.size from World.block_lt_of_cell? _ _ SO.2.1)
    clear SD SO
    refine wp_region_held_drew (S := (fun X => X.cell? ⟨jb, 0, none⟩ = some (.int .u64 f) ∧ X.cell? ⟨jb, 1, none⟩ = some (.int .u64 p) ∧ X.cell? ⟨jb, 2, none⟩ = some (.int .u64 d) ∧ X.cell? ⟨jb, 3, none⟩ = some (.int .u64 r) ∧ X.cell? ⟨jb, 4, none⟩ = some (.int .u64 m))) (by kernel_rfl) ?_ (fun hHeld => ?_)
    · (try dsimp only); (first | exact HSD.out.2 | exact HSO.out.2 | assumption | exact ⟨(hgrow.cell_far ⟨jb, 0, none⟩ HJ2.out HJ.out.2.2).trans HSO.out.2.1, (hgrow.cell_far ⟨jb, 1, none⟩ HJ2.out HJ.out.2.2).trans HSO.out.2.2.1, (hgrow.cell_far ⟨jb, 2, none⟩ HJ2.out HJ.out.2.2).trans HSO.out.2.2.2.1, (hgrow.cell_far ⟨jb, 3, none⟩ HJ2.out HJ.out.2.2).trans HSO.out.2.2.2.2.1, (hgrow.cell_far ⟨jb, 4, none⟩ HJ2.out HJ.out.2.2).trans HSO.out.2.2.2.2.2⟩ | exact ⟨cellFr ((Fr.refl (own1 t) _).set (p := ⟨t, 1, none⟩) (show own1 t t from rfl) _) HJ.out.1 ((hgrow.cell_far ⟨jb, 0, none⟩ HJ2.out HJ.out.2.2).trans HSO.out.2.1), cellFr ((Fr.refl (own1 t) _).set (p := ⟨t, 1, none⟩) (show own1 t t from rfl) _) HJ.out.1 ((hgrow.cell_far ⟨jb, 1, none⟩ HJ2.out HJ.out.2.2).trans HSO.out.2.2.1), cellFr ((Fr.refl (own1 t) _).set (p := ⟨t, 1, none⟩) (show own1 t t from rfl) _) HJ.out.1 ((hgrow.cell_far ⟨jb, 2, none⟩ HJ2.out HJ.out.2.2).trans HSO.out.2.2.2.1), cellFr ((Fr.refl (own1 t) _).set (p := ⟨t, 1, none⟩) (show own1 t t from rfl) _) HJ.out.1 ((hgrow.cell_far ⟨jb, 3, none⟩ HJ2.out HJ.out.2.2).trans HSO.out.2.2.2.2.1), cellFr ((Fr.refl (own1 t) _).set (p := ⟨t, 1, none⟩) (show own1 t t from rfl) _) HJ.out.1 ((hgrow.cell_far ⟨jb, 4, none⟩ HJ2.out HJ.out.2.2).trans HSO.out.2.2.2.2.2)⟩)
    refine wpAnyH_take (i := 0) (v := ?_) rfl (by kernel_rfl) (by kernel_rfl) (by kernel_rfl) (fun _ _ _ h => h) (Or.inl ⟨by rfl, ?_⟩) (by assumption) ?_
    rotate_left
    · (intro w hSw; (try dsimp only at hSw); go_simp; try with_reducible rfl)
    (try simp only [Act.put, List.setIfInBounds_toArray, List.set_cons_zero, List.set_cons_succ])
    refine wpAnyH_take (i := 1) (v := ?_) rfl (by kernel_rfl) (by kernel_rfl) (by kernel_rfl) (fun _ _ _ h => h) (Or.inl ⟨by rfl, ?_⟩) (by assumption) ?_
    rotate_left
    · (intro w hSw; (try dsimp only at hSw); go_simp; try with_reducible rfl)
    (try simp only [Act.put, List.setIfInBounds_toArray, List.set_cons_zero, List.set_cons_succ])
    refine wpAnyH_take (i := 2) (v := ?_) rfl (by kernel_rfl) (by kernel_rfl) (by kernel_rfl) (fun _ _ _ h => h) (Or.inl ⟨by rfl, ?_⟩) (by assumption) ?_
    rotate_left
    · (intro w hSw; (try dsimp only at hSw); go_simp; try with_reducible rfl)
    (try simp only [Act.put, List.setIfInBounds_toArray, List.set_cons_zero, List.set_cons_succ])
    refine wpAnyH_take (i := 3) (v := ?_) rfl (by kernel_rfl) (by kernel_rfl) (by kernel_rfl) (fun _ _ _ h => h) (Or.inl ⟨by rfl, ?_⟩) (by assumption) ?_
    rotate_left
    · (intro w hSw; (try dsimp only at hSw); go_simp; try with_reducible rfl)
    (try simp only [Act.put, List.setIfInBounds_toArray, List.set_cons_zero, List.set_cons_succ])
    refine wpAnyH_take (i := 5) (v := ?_) rfl (by kernel_rfl) (by kernel_rfl) (by kernel_rfl) (fun _ _ _ h => h) (Or.inl ⟨by rfl, ?_⟩) (by assumption) ?_
    rotate_left
    · (intro w hSw; (try dsimp only at hSw); go_simp; try with_reducible rfl)
    (try simp only [Act.put, List.setIfInBounds_toArray, List.set_cons_zero, List.set_cons_succ])
    refine wpAnyH_take (i := 6) (v := ?_) rfl (by kernel_rfl) (by kernel_rfl) (by kernel_rfl) (fun _ _ _ h => h) (Or.inl ⟨by rfl, ?_⟩) (by assumption) ?_
    rotate_left
    · (intro w hSw; (try dsimp only at hSw); go_simp; try with_reducible rfl)
    (try simp only [Act.put, List.setIfInBounds_toArray, List.set_cons_zero, List.set_cons_succ])
    refine wpAnyH_take (i := 7) (v := ?_) rfl (by kernel_rfl) (by kernel_rfl) (by kernel_rfl) (fun _ _ _ h => h) (Or.inl ⟨by rfl, ?_⟩) (by assumption) ?_
    rotate_left
    · (intro w hSw; (try dsimp only at hSw); go_simp; try with_reducible rfl)
    (try simp only [Act.put, List.setIfInBounds_toArray, List.set_cons_zero, List.set_cons_succ])
    refine wpAnyH_take (i := 8) (v := ?_) rfl (by kernel_rfl) (by kernel_rfl) (by kernel_rfl) (fun _ _ _ h => h) (Or.inl ⟨by rfl, ?_⟩) (by assumption) ?_
    rotate_left
    · (intro w hSw; (try dsimp only at hSw); go_simp; try with_reducible rfl)
    (try simp only [Act.put, List.setIfInBounds_toArray, List.set_cons_zero, List.set_cons_succ])
    refine wpAnyH_take (i := 9) (v := ?_) rfl (by kernel_rfl) (by kernel_rfl) (by kernel_rfl) (fun _ _ _ h => h) (Or.inl ⟨by rfl, ?_⟩) (by assumption) ?_
    rotate_left
    · (intro w hSw; (try dsimp only at hSw); go_simp; try with_reducible rfl)
    (try simp only [Act.put, List.setIfInBounds_toArray, List.set_cons_zero, List.set_cons_succ])
    refine wpAnyH_take (i := 10) (v := ?_) rfl (by kernel_rfl) (by kernel_rfl) (by kernel_rfl) (fun _ _ _ h => h) (Or.inl ⟨by rfl, ?_⟩) (by assumption) ?_
    rotate_left
    · (intro w hSw; (try dsimp only at hSw); go_simp; try with_reducible rfl)
    (try simp only [Act.put, List.setIfInBounds_toArray, List.set_cons_zero, List.set_cons_succ])
    refine wpAnyH_take (i := 13) (v := ?_) rfl (by kernel_rfl) (by kernel_rfl) (by kernel_rfl) (fun _ _ _ h => h) (Or.inl ⟨by rfl, ?_⟩) (by assumption) ?_
    rotate_left
    · (intro w hSw; (try dsimp only at hSw); go_simp; try with_reducible rfl)
    (try simp only [Act.put, List.setIfInBounds_toArray, List.set_cons_zero, List.set_cons_succ])
    refine wpAnyH_ready (rs := [4, 11]) (by kernel_rfl) (by simp) ?_
    refine AllReadyH.cons rfl (fun K hK => ?_) ?_
    · skip
      go_simp
      refine hK.out _ _ ?_ (fun hHeld => ?_)
      · (try dsimp only); (first | exact HSD.out.2 | exact HSO.out.2 | assumption | exact ⟨(hgrow.cell_far ⟨jb, 0, none⟩ HJ2.out HJ.out.2.2).trans HSO.out.2.1, (hgrow.cell_far ⟨jb, 1, none⟩ HJ2.out HJ.out.2.2).trans HSO.out.2.2.1, (hgrow.cell_far ⟨jb, 2, none⟩ HJ2.out HJ.out.2.2).trans HSO.out.2.2.2.1, (hgrow.cell_far ⟨jb, 3, none⟩ HJ2.out HJ.out.2.2).trans HSO.out.2.2.2.2.1, (hgrow.cell_far ⟨jb, 4, none⟩ HJ2.out HJ.out.2.2).trans HSO.out.2.2.2.2.2⟩ | exact ⟨cellFr ((Fr.refl (own1 t) _).set (p := ⟨t, 1, none⟩) (show own1 t t from rfl) _) HJ.out.1 ((hgrow.cell_far ⟨jb, 0, none⟩ HJ2.out HJ.out.2.2).trans HSO.out.2.1), cellFr ((Fr.refl (own1 t) _).set (p := ⟨t, 1, none⟩) (show own1 t t from rfl) _) HJ.out.1 ((hgrow.cell_far ⟨jb, 1, none⟩ HJ2.out HJ.out.2.2).trans HSO.out.2.2.1), cellFr ((Fr.refl (own1 t) _).set (p := ⟨t, 1, none⟩) (show own1 t t from rfl) _) HJ.out.1 ((hgrow.cell_far ⟨jb, 2, none⟩ HJ2.out HJ.out.2.2).trans HSO.out.2.2.2.1), cellFr ((Fr.refl (own1 t) _).set (p := ⟨t, 1, none⟩) (show own1 t t from rfl) _) HJ.out.1 ((hgrow.cell_far ⟨jb, 3, none⟩ HJ2.out HJ.out.2.2).trans HSO.out.2.2.2.2.1), cellFr ((Fr.refl (own1 t) _).set (p := ⟨t, 1, none⟩) (show own1 t t from rfl) _) HJ.out.1 ((hgrow.cell_far ⟨jb, 4, none⟩ HJ2.out HJ.out.2.2).trans HSO.out.2.2.2.2.2)⟩)
      clear hK K
      refine wpAnyH_ready (rs := [11]) (by kernel_rfl) (by simp) ?_
      refine AllReadyH.cons rfl (fun K hK => ?_) ?_
      · skip
        (go_simp; go_at_call 94; refine (Clone_nil _).mono ?_; rintro e w5 ⟨rfl, rfl⟩)
        refine hK.out _ _ ?_ (fun hHeld => ?_)
        · (try dsimp only); (first | exact HSD.out.2 | exact HSO.out.2 | assumption | exact ⟨(hgrow.cell_far ⟨jb, 0, none⟩ HJ2.out HJ.out.2.2).trans HSO.out.2.1, (hgrow.cell_far ⟨jb, 1, none⟩ HJ2.out HJ.out.2.2).trans HSO.out.2.2.1, (hgrow.cell_far ⟨jb, 2, none⟩ HJ2.out HJ.out.2.2).trans HSO.out.2.2.2.1, (hgrow.cell_far ⟨jb, 3, none⟩ HJ2.out HJ.out.2.2).trans HSO.out.2.2.2.2.1, (hgrow.cell_far ⟨jb, 4, none⟩ HJ2.out HJ.out.2.2).trans HSO.out.2.2.2.2.2⟩ | exact ⟨cellFr ((Fr.refl (own1 t) _).set (p := ⟨t, 1, none⟩) (show own1 t t from rfl) _) HJ.out.1 ((hgrow.cell_far ⟨jb, 0, none⟩ HJ2.out HJ.out.2.2).trans HSO.out.2.1), cellFr ((Fr.refl (own1 t) _).set (p := ⟨t, 1, none⟩) (show own1 t t from rfl) _) HJ.out.1 ((hgrow.cell_far ⟨jb, 1, none⟩ HJ2.out HJ.out.2.2).trans HSO.out.2.2.1), cellFr ((Fr.refl (own1 t) _).set (p := ⟨t, 1, none⟩) (show own1 t t from rfl) _) HJ.out.1 ((hgrow.cell_far ⟨jb, 2, none⟩ HJ2.out HJ.out.2.2).trans HSO.out.2.2.2.1), cellFr ((Fr.refl (own1 t) _).set (p := ⟨t, 1, none⟩) (show own1 t t from rfl) _) HJ.out.1 ((hgrow.cell_far ⟨jb, 3, none⟩ HJ2.out HJ.out.2.2).trans HSO.out.2.2.2.2.1), cellFr ((Fr.refl (own1 t) _).set (p := ⟨t, 1, none⟩) (show own1 t t from rfl) _) HJ.out.1 ((hgrow.cell_far ⟨jb, 4, none⟩ HJ2.out HJ.out.2.2).trans HSO.out.2.2.2.2.2)⟩)
        clear hK K
        refine wpAnyH_ready (rs := [12]) (by kernel_rfl) (by simp) ?_
        refine AllReadyH.cons rfl (fun K hK => ?_) ?_
        · skip
          (go_simp; go_at_call 93; refine (ClipOp_nil _).mono ?_; rintro e w5 ⟨rfl, rfl⟩)
          refine hK.out _ _ ?_ (fun hHeld => ?_)
          · (try dsimp only); (first | exact HSD.out.2 | exact HSO.out.2 | assumption | exact ⟨(hgrow.cell_far ⟨jb, 0, none⟩ HJ2.out HJ.out.2.2).trans HSO.out.2.1, (hgrow.cell_far ⟨jb, 1, none⟩ HJ2.out HJ.out.2.2).trans HSO.out.2.2.1, (hgrow.cell_far ⟨jb, 2, none⟩ HJ2.out HJ.out.2.2).trans HSO.out.2.2.2.1, (hgrow.cell_far ⟨jb, 3, none⟩ HJ2.out HJ.out.2.2).trans HSO.out.2.2.2.2.1, (hgrow.cell_far ⟨jb, 4, none⟩ HJ2.out HJ.out.2.2).trans HSO.out.2.2.2.2.2⟩ | exact ⟨cellFr ((Fr.refl (own1 t) _).set (p := ⟨t, 1, none⟩) (show own1 t t from rfl) _) HJ.out.1 ((hgrow.cell_far ⟨jb, 0, none⟩ HJ2.out HJ.out.2.2).trans HSO.out.2.1), cellFr ((Fr.refl (own1 t) _).set (p := ⟨t, 1, none⟩) (show own1 t t from rfl) _) HJ.out.1 ((hgrow.cell_far ⟨jb, 1, none⟩ HJ2.out HJ.out.2.2).trans HSO.out.2.2.1), cellFr ((Fr.refl (own1 t) _).set (p := ⟨t, 1, none⟩) (show own1 t t from rfl) _) HJ.out.1 ((hgrow.cell_far ⟨jb, 2, none⟩ HJ2.out HJ.out.2.2).trans HSO.out.2.2.2.1), cellFr ((Fr.refl (own1 t) _).set (p := ⟨t, 1, none⟩) (show own1 t t from rfl) _) HJ.out.1 ((hgrow.cell_far ⟨jb, 3, none⟩ HJ2.out HJ.out.2.2).trans HSO.out.2.2.2.2.1), cellFr ((Fr.refl (own1 t) _).set (p := ⟨t, 1, none⟩) (show own1 t t from rfl) _) HJ.out.1 ((hgrow.cell_far ⟨jb, 4, none⟩ HJ2.out HJ.out.2.2).trans HSO.out.2.2.2.2.2)⟩)
          clear hK K
          refine wpAnyH_take (i := 14) (v := ?_) rfl (by kernel_rfl) (by kernel_rfl) (by kernel_rfl) (fun _ _ _ h => h) (Or.inl ⟨by rfl, ?_⟩) (by assumption) ?_
          rotate_left
          · (intro w hSw; (try dsimp only at hSw); go_simp; try with_reducible rfl)
          (try simp only [Act.put, List.setIfInBounds_toArray, List.set_cons_zero, List.set_cons_succ])
          refine wpAnyH_ready (rs := [15]) (by kernel_rfl) (by simp) ?_
          refine AllReadyH.cons rfl (fun K hK => ?_) ?_
          · skip
            go_simp
            refine hK.out _ _ ?_ (fun hHeld => ?_)
            · (try dsimp only); (first | exact HSD.out.2 | exact HSO.out.2 | assumption | exact ⟨(hgrow.cell_far ⟨jb, 0, none⟩ HJ2.out HJ.out.2.2).trans HSO.out.2.1, (hgrow.cell_far ⟨jb, 1, none⟩ HJ2.out HJ.out.2.2).trans HSO.out.2.2.1, (hgrow.cell_far ⟨jb, 2, none⟩ HJ2.out HJ.out.2.2).trans HSO.out.2.2.2.1, (hgrow.cell_far ⟨jb, 3, none⟩ HJ2.out HJ.out.2.2).trans HSO.out.2.2.2.2.1, (hgrow.cell_far ⟨jb, 4, none⟩ HJ2.out HJ.out.2.2).trans HSO.out.2.2.2.2.2⟩ | exact ⟨cellFr ((Fr.refl (own1 t) _).set (p := ⟨t, 1, none⟩) (show own1 t t from rfl) _) HJ.out.1 ((hgrow.cell_far ⟨jb, 0, none⟩ HJ2.out HJ.out.2.2).trans HSO.out.2.1), cellFr ((Fr.refl (own1 t) _).set (p := ⟨t, 1, none⟩) (show own1 t t from rfl) _) HJ.out.1 ((hgrow.cell_far ⟨jb, 1, none⟩ HJ2.out HJ.out.2.2).trans HSO.out.2.2.1), cellFr ((Fr.refl (own1 t) _).set (p := ⟨t, 1, none⟩) (show own1 t t from rfl) _) HJ.out.1 ((hgrow.cell_far ⟨jb, 2, none⟩ HJ2.out HJ.out.2.2).trans HSO.out.2.2.2.1), cellFr ((Fr.refl (own1 t) _).set (p := ⟨t, 1, none⟩) (show own1 t t from rfl) _) HJ.out.1 ((hgrow.cell_far ⟨jb, 3, none⟩ HJ2.out HJ.out.2.2).trans HSO.out.2.2.2.2.1), cellFr ((Fr.refl (own1 t) _).set (p := ⟨t, 1, none⟩) (show own1 t t from rfl) _) HJ.out.1 ((hgrow.cell_far ⟨jb, 4, none⟩ HJ2.out HJ.out.2.2).trans HSO.out.2.2.2.2.2)⟩)
            clear hK K
            refine wpAnyH_ready (rs := [16]) (by kernel_rfl) (by simp) ?_
            refine AllReadyH.cons rfl (fun K hK => ?_) ?_
            · skip
              (refine step_append_lies _ rfl (.tmp 56) (.tmp 67) 129 rfl base 137 i0 rowZ 13 120 Try.underlying129 hi0 hz0 hz1 hz2 rfl (by decide) rv n R (by simp [Act.eval, Act.put]) HOWN.out ⟨w4.heap.size, 0, none⟩ 1 1 (rowL ((n : Int) + 1) PR d f p r m) (by simp [Act.eval, Act.put]) rfl HNEWS.out (rowL_one _ _ _ _ _ _ _) (by decide) (by unfold maxLen; omega) (by omega) (by simp; omega) (w4.heap.size + 1) (by simp) ?_; intro q cap w6 hown hgrow hat hlt; have tc := (hgrow.cell_far ⟨t, 1, none⟩ HTL.out HTN.out).trans HTC.out; have tf := (hgrow.frozen_far ⟨t, 1, none⟩ HTL.out HTN.out).trans HTF.out)
              refine hK.out _ _ ?_ (fun hHeld => ?_)
              · (try dsimp only); (first | exact HSD.out.2 | exact HSO.out.2 | assumption | exact ⟨(hgrow.cell_far ⟨jb, 0, none⟩ HJ2.out HJ.out.2.2).trans HSO.out.2.1, (hgrow.cell_far ⟨jb, 1, none⟩ HJ2.out HJ.out.2.2).trans HSO.out.2.2.1, (hgrow.cell_far ⟨jb, 2, none⟩ HJ2.out HJ.out.2.2).trans HSO.out.2.2.2.1, (hgrow.cell_far ⟨jb, 3, none⟩ HJ2.out HJ.out.2.2).trans HSO.out.2.2.2.2.1, (hgrow.cell_far ⟨jb, 4, none⟩ HJ2.out HJ.out.2.2).trans HSO.out.2.2.2.2.2⟩ | exact ⟨cellFr ((Fr.refl (own1 t) _).set (p := ⟨t, 1, none⟩) (show own1 t t from rfl) _) HJ.out.1 ((hgrow.cell_far ⟨jb, 0, none⟩ HJ2.out HJ.out.2.2).trans HSO.out.2.1), cellFr ((Fr.refl (own1 t) _).set (p := ⟨t, 1, none⟩) (show own1 t t from rfl) _) HJ.out.1 ((hgrow.cell_far ⟨jb, 1, none⟩ HJ2.out HJ.out.2.2).trans HSO.out.2.2.1), cellFr ((Fr.refl (own1 t) _).set (p := ⟨t, 1, none⟩) (show own1 t t from rfl) _) HJ.out.1 ((hgrow.cell_far ⟨jb, 2, none⟩ HJ2.out HJ.out.2.2).trans HSO.out.2.2.2.1), cellFr ((Fr.refl (own1 t) _).set (p := ⟨t, 1, none⟩) (show own1 t t from rfl) _) HJ.out.1 ((hgrow.cell_far ⟨jb, 3, none⟩ HJ2.out HJ.out.2.2).trans HSO.out.2.2.2.2.1), cellFr ((Fr.refl (own1 t) _).set (p := ⟨t, 1, none⟩) (show own1 t t from rfl) _) HJ.out.1 ((hgrow.cell_far ⟨jb, 4, none⟩ HJ2.out HJ.out.2.2).trans HSO.out.2.2.2.2.2)⟩)
              clear hK K
              refine wpAnyH_take (i := 17) (v := ?_) rfl (by kernel_rfl) (by kernel_rfl) (by kernel_rfl) (fun _ _ _ h => h) (Or.inl ⟨by rfl, ?_⟩) (by assumption) ?_
              rotate_left
              · (intro w hSw; (try dsimp only at hSw); go_simp; try with_reducible rfl)
              (try simp only [Act.put, List.setIfInBounds_toArray, List.set_cons_zero, List.set_cons_succ])
              refine wpAnyH_take (i := 18) (v := ?_) rfl (by kernel_rfl) (by kernel_rfl) (by kernel_rfl) (fun _ _ _ h => h) (Or.inl ⟨by rfl, ?_⟩) (by assumption) ?_
              rotate_left
              · (intro w hSw; (try dsimp only at hSw); go_simp; try with_reducible rfl)
              (try simp only [Act.put, List.setIfInBounds_toArray, List.set_cons_zero, List.set_cons_succ])
              refine wpAnyH_ready (rs := [19]) (by kernel_rfl) (by simp) ?_
              refine AllReadyH.cons rfl (fun K hK => ?_) ?_
              · skip
                go_simp
                refine hK.out _ _ ?_ (fun hHeld => ?_)
                · (try dsimp only); (first | exact HSD.out.2 | exact HSO.out.2 | assumption | exact ⟨(hgrow.cell_far ⟨jb, 0, none⟩ HJ2.out HJ.out.2.2).trans HSO.out.2.1, (hgrow.cell_far ⟨jb, 1, none⟩ HJ2.out HJ.out.2.2).trans HSO.out.2.2.1, (hgrow.cell_far ⟨jb, 2, none⟩ HJ2.out HJ.out.2.2).trans HSO.out.2.2.2.1, (hgrow.cell_far ⟨jb, 3, none⟩ HJ2.out HJ.out.2.2).trans HSO.out.2.2.2.2.1, (hgrow.cell_far ⟨jb, 4, none⟩ HJ2.out HJ.out.2.2).trans HSO.out.2.2.2.2.2⟩ | exact ⟨cellFr ((Fr.refl (own1 t) _).set (p := ⟨t, 1, none⟩) (show own1 t t from rfl) _) HJ.out.1 ((hgrow.cell_far ⟨jb, 0, none⟩ HJ2.out HJ.out.2.2).trans HSO.out.2.1), cellFr ((Fr.refl (own1 t) _).set (p := ⟨t, 1, none⟩) (show own1 t t from rfl) _) HJ.out.1 ((hgrow.cell_far ⟨jb, 1, none⟩ HJ2.out HJ.out.2.2).trans HSO.out.2.2.1), cellFr ((Fr.refl (own1 t) _).set (p := ⟨t, 1, none⟩) (show own1 t t from rfl) _) HJ.out.1 ((hgrow.cell_far ⟨jb, 2, none⟩ HJ2.out HJ.out.2.2).trans HSO.out.2.2.2.1), cellFr ((Fr.refl (own1 t) _).set (p := ⟨t, 1, none⟩) (show own1 t t from rfl) _) HJ.out.1 ((hgrow.cell_far ⟨jb, 3, none⟩ HJ2.out HJ.out.2.2).trans HSO.out.2.2.2.2.1), cellFr ((Fr.refl (own1 t) _).set (p := ⟨t, 1, none⟩) (show own1 t t from rfl) _) HJ.out.1 ((hgrow.cell_far ⟨jb, 4, none⟩ HJ2.out HJ.out.2.2).trans HSO.out.2.2.2.2.2)⟩)
                clear hK K
                refine wpAnyH_done (by kernel_rfl) ?_ _
                go_wp2_with fail
                go_meet
                exact ⟨q, cap, H4O.out.grown hgrow hown, (hF5.trans (((Fr.refl _ _).al o).dr)).trans ((show Fr (fun x => own2 b g x ∨ x = mb ∨ x = t ∨ some x = rv.ownBlock) ((w4.alloc o).drew) w6 from ⟨hgrow.os, hgrow.tape, hgrow.output, hgrow.size, fun k hk hn => hgrow.block k hk (fun e => hn (.inr (.inr (.inr e))))⟩).set (p := ⟨t, 1, none⟩) (.inr (.inr (.inl rfl))) _)⟩
              exact AllReadyH.nil
            exact AllReadyH.nil
          exact AllReadyH.nil
        exact AllReadyH.nil
      exact AllReadyH.nil
    refine AllReadyH.cons rfl (fun K hK => ?_) ?_
    · skip
      (go_simp; go_at_call 94; refine (Clone_nil _).mono ?_; rintro e w5 ⟨rfl, rfl⟩)
      refine hK.out _ _ ?_ (fun hHeld => ?_)
      · (try dsimp only); (first | exact HSD.out.2 | exact HSO.out.2 | assumption | exact ⟨(hgrow.cell_far ⟨jb, 0, none⟩ HJ2.out HJ.out.2.2).trans HSO.out.2.1, (hgrow.cell_far ⟨jb, 1, none⟩ HJ2.out HJ.out.2.2).trans HSO.out.2.2.1, (hgrow.cell_far ⟨jb, 2, none⟩ HJ2.out HJ.out.2.2).trans HSO.out.2.2.2.1, (hgrow.cell_far ⟨jb, 3, none⟩ HJ2.out HJ.out.2.2).trans HSO.out.2.2.2.2.1, (hgrow.cell_far ⟨jb, 4, none⟩ HJ2.out HJ.out.2.2).trans HSO.out.2.2.2.2.2⟩ | exact ⟨cellFr ((Fr.refl (own1 t) _).set (p := ⟨t, 1, none⟩) (show own1 t t from rfl) _) HJ.out.1 ((hgrow.cell_far ⟨jb, 0, none⟩ HJ2.out HJ.out.2.2).trans HSO.out.2.1), cellFr ((Fr.refl (own1 t) _).set (p := ⟨t, 1, none⟩) (show own1 t t from rfl) _) HJ.out.1 ((hgrow.cell_far ⟨jb, 1, none⟩ HJ2.out HJ.out.2.2).trans HSO.out.2.2.1), cellFr ((Fr.refl (own1 t) _).set (p := ⟨t, 1, none⟩) (show own1 t t from rfl) _) HJ.out.1 ((hgrow.cell_far ⟨jb, 2, none⟩ HJ2.out HJ.out.2.2).trans HSO.out.2.2.2.1), cellFr ((Fr.refl (own1 t) _).set (p := ⟨t, 1, none⟩) (show own1 t t from rfl) _) HJ.out.1 ((hgrow.cell_far ⟨jb, 3, none⟩ HJ2.out HJ.out.2.2).trans HSO.out.2.2.2.2.1), cellFr ((Fr.refl (own1 t) _).set (p := ⟨t, 1, none⟩) (show own1 t t from rfl) _) HJ.out.1 ((hgrow.cell_far ⟨jb, 4, none⟩ HJ2.out HJ.out.2.2).trans HSO.out.2.2.2.2.2)⟩)
      clear hK K
      refine wpAnyH_ready (rs := [4, 12]) (by kernel_rfl) (by simp) ?_
      refine AllReadyH.cons rfl (fun K hK => ?_) ?_
      · skip
        go_simp
        refine hK.out _ _ ?_ (fun hHeld => ?_)
        · (try dsimp only); (first | exact HSD.out.2 | exact HSO.out.2 | assumption | exact ⟨(hgrow.cell_far ⟨jb, 0, none⟩ HJ2.out HJ.out.2.2).trans HSO.out.2.1, (hgrow.cell_far ⟨jb, 1, none⟩ HJ2.out HJ.out.2.2).trans HSO.out.2.2.1, (hgrow.cell_far ⟨jb, 2, none⟩ HJ2.out HJ.out.2.2).trans HSO.out.2.2.2.1, (hgrow.cell_far ⟨jb, 3, none⟩ HJ2.out HJ.out.2.2).trans HSO.out.2.2.2.2.1, (hgrow.cell_far ⟨jb, 4, none⟩ HJ2.out HJ.out.2.2).trans HSO.out.2.2.2.2.2⟩ | exact ⟨cellFr ((Fr.refl (own1 t) _).set (p := ⟨t, 1, none⟩) (show own1 t t from rfl) _) HJ.out.1 ((hgrow.cell_far ⟨jb, 0, none⟩ HJ2.out HJ.out.2.2).trans HSO.out.2.1), cellFr ((Fr.refl (own1 t) _).set (p := ⟨t, 1, none⟩) (show own1 t t from rfl) _) HJ.out.1 ((hgrow.cell_far ⟨jb, 1, none⟩ HJ2.out HJ.out.2.2).trans HSO.out.2.2.1), cellFr ((Fr.refl (own1 t) _).set (p := ⟨t, 1, none⟩) (show own1 t t from rfl) _) HJ.out.1 ((hgrow.cell_far ⟨jb, 2, none⟩ HJ2.out HJ.out.2.2).trans HSO.out.2.2.2.1), cellFr ((Fr.refl (own1 t) _).set (p := ⟨t, 1, none⟩) (show own1 t t from rfl) _) HJ.out.1 ((hgrow.cell_far ⟨jb, 3, none⟩ HJ2.out HJ.out.2.2).trans HSO.out.2.2.2.2.1), cellFr ((Fr.refl (own1 t) _).set (p := ⟨t, 1, none⟩) (show own1 t t from rfl) _) HJ.out.1 ((hgrow.cell_far ⟨jb, 4, none⟩ HJ2.out HJ.out.2.2).trans HSO.out.2.2.2.2.2)⟩)
        clear hK K
        refine wpAnyH_ready (rs := [12]) (by kernel_rfl) (by simp) ?_
        refine AllReadyH.cons rfl (fun K hK => ?_) ?_
        · skip
          (go_simp; go_at_call 93; refine (ClipOp_nil _).mono ?_; rintro e w5 ⟨rfl, rfl⟩)
          refine hK.out _ _ ?_ (fun hHeld => ?_)
          · (try dsimp only); (first | exact HSD.out.2 | exact HSO.out.2 | assumption | exact ⟨(hgrow.cell_far ⟨jb, 0, none⟩ HJ2.out HJ.out.2.2).trans HSO.out.2.1, (hgrow.cell_far ⟨jb, 1, none⟩ HJ2.out HJ.out.2.2).trans HSO.out.2.2.1, (hgrow.cell_far ⟨jb, 2, none⟩ HJ2.out HJ.out.2.2).trans HSO.out.2.2.2.1, (hgrow.cell_far ⟨jb, 3, none⟩ HJ2.out HJ.out.2.2).trans HSO.out.2.2.2.2.1, (hgrow.cell_far ⟨jb, 4, none⟩ HJ2.out HJ.out.2.2).trans HSO.out.2.2.2.2.2⟩ | exact ⟨cellFr ((Fr.refl (own1 t) _).set (p := ⟨t, 1, none⟩) (show own1 t t from rfl) _) HJ.out.1 ((hgrow.cell_far ⟨jb, 0, none⟩ HJ2.out HJ.out.2.2).trans HSO.out.2.1), cellFr ((Fr.refl (own1 t) _).set (p := ⟨t, 1, none⟩) (show own1 t t from rfl) _) HJ.out.1 ((hgrow.cell_far ⟨jb, 1, none⟩ HJ2.out HJ.out.2.2).trans HSO.out.2.2.1), cellFr ((Fr.refl (own1 t) _).set (p := ⟨t, 1, none⟩) (show own1 t t from rfl) _) HJ.out.1 ((hgrow.cell_far ⟨jb, 2, none⟩ HJ2.out HJ.out.2.2).trans HSO.out.2.2.2.1), cellFr ((Fr.refl (own1 t) _).set (p := ⟨t, 1, none⟩) (show own1 t t from rfl) _) HJ.out.1 ((hgrow.cell_far ⟨jb, 3, none⟩ HJ2.out HJ.out.2.2).trans HSO.out.2.2.2.2.1), cellFr ((Fr.refl (own1 t) _).set (p := ⟨t, 1, none⟩) (show own1 t t from rfl) _) HJ.out.1 ((hgrow.cell_far ⟨jb, 4, none⟩ HJ2.out HJ.out.2.2).trans HSO.out.2.2.2.2.2)⟩)
          clear hK K
          refine wpAnyH_take (i := 14) (v := ?_) rfl (by kernel_rfl) (by kernel_rfl) (by kernel_rfl) (fun _ _ _ h => h) (Or.inl ⟨by rfl, ?_⟩) (by assumption) ?_
          rotate_left
          · (intro w hSw; (try dsimp only at hSw); go_simp; try with_reducible rfl)
          (try simp only [Act.put, List.setIfInBounds_toArray, List.set_cons_zero, List.set_cons_succ])
          refine wpAnyH_ready (rs := [15]) (by kernel_rfl) (by simp) ?_
          refine AllReadyH.cons rfl (fun K hK => ?_) ?_
          · skip
            go_simp
            refine hK.out _ _ ?_ (fun hHeld => ?_)
            · (try dsimp only); (first | exact HSD.out.2 | exact HSO.out.2 | assumption | exact ⟨(hgrow.cell_far ⟨jb, 0, none⟩ HJ2.out HJ.out.2.2).trans HSO.out.2.1, (hgrow.cell_far ⟨jb, 1, none⟩ HJ2.out HJ.out.2.2).trans HSO.out.2.2.1, (hgrow.cell_far ⟨jb, 2, none⟩ HJ2.out HJ.out.2.2).trans HSO.out.2.2.2.1, (hgrow.cell_far ⟨jb, 3, none⟩ HJ2.out HJ.out.2.2).trans HSO.out.2.2.2.2.1, (hgrow.cell_far ⟨jb, 4, none⟩ HJ2.out HJ.out.2.2).trans HSO.out.2.2.2.2.2⟩ | exact ⟨cellFr ((Fr.refl (own1 t) _).set (p := ⟨t, 1, none⟩) (show own1 t t from rfl) _) HJ.out.1 ((hgrow.cell_far ⟨jb, 0, none⟩ HJ2.out HJ.out.2.2).trans HSO.out.2.1), cellFr ((Fr.refl (own1 t) _).set (p := ⟨t, 1, none⟩) (show own1 t t from rfl) _) HJ.out.1 ((hgrow.cell_far ⟨jb, 1, none⟩ HJ2.out HJ.out.2.2).trans HSO.out.2.2.1), cellFr ((Fr.refl (own1 t) _).set (p := ⟨t, 1, none⟩) (show own1 t t from rfl) _) HJ.out.1 ((hgrow.cell_far ⟨jb, 2, none⟩ HJ2.out HJ.out.2.2).trans HSO.out.2.2.2.1), cellFr ((Fr.refl (own1 t) _).set (p := ⟨t, 1, none⟩) (show own1 t t from rfl) _) HJ.out.1 ((hgrow.cell_far ⟨jb, 3, none⟩ HJ2.out HJ.out.2.2).trans HSO.out.2.2.2.2.1), cellFr ((Fr.refl (own1 t) _).set (p := ⟨t, 1, none⟩) (show own1 t t from rfl) _) HJ.out.1 ((hgrow.cell_far ⟨jb, 4, none⟩ HJ2.out HJ.out.2.2).trans HSO.out.2.2.2.2.2)⟩)
            clear hK K
            refine wpAnyH_ready (rs := [16]) (by kernel_rfl) (by simp) ?_
            refine AllReadyH.cons rfl (fun K hK => ?_) ?_
            · skip
              (refine step_append_lies _ rfl (.tmp 56) (.tmp 67) 129 rfl base 137 i0 rowZ 13 120 Try.underlying129 hi0 hz0 hz1 hz2 rfl (by decide) rv n R (by simp [Act.eval, Act.put]) HOWN.out ⟨w4.heap.size, 0, none⟩ 1 1 (rowL ((n : Int) + 1) PR d f p r m) (by simp [Act.eval, Act.put]) rfl HNEWS.out (rowL_one _ _ _ _ _ _ _) (by decide) (by unfold maxLen; omega) (by omega) (by simp; omega) (w4.heap.size + 1) (by simp) ?_; intro q cap w6 hown hgrow hat hlt; have tc := (hgrow.cell_far ⟨t, 1, none⟩ HTL.out HTN.out).trans HTC.out; have tf := (hgrow.frozen_far ⟨t, 1, none⟩ HTL.out HTN.out).trans HTF.out)
              refine hK.out _ _ ?_ (fun hHeld => ?_)
              · (try dsimp only); (first | exact HSD.out.2 | exact HSO.out.2 | assumption | exact ⟨(hgrow.cell_far ⟨jb, 0, none⟩ HJ2.out HJ.out.2.2).trans HSO.out.2.1, (hgrow.cell_far ⟨jb, 1, none⟩ HJ2.out HJ.out.2.2).trans HSO.out.2.2.1, (hgrow.cell_far ⟨jb, 2, none⟩ HJ2.out HJ.out.2.2).trans HSO.out.2.2.2.1, (hgrow.cell_far ⟨jb, 3, none⟩ HJ2.out HJ.out.2.2).trans HSO.out.2.2.2.2.1, (hgrow.cell_far ⟨jb, 4, none⟩ HJ2.out HJ.out.2.2).trans HSO.out.2.2.2.2.2⟩ | exact ⟨cellFr ((Fr.refl (own1 t) _).set (p := ⟨t, 1, none⟩) (show own1 t t from rfl) _) HJ.out.1 ((hgrow.cell_far ⟨jb, 0, none⟩ HJ2.out HJ.out.2.2).trans HSO.out.2.1), cellFr ((Fr.refl (own1 t) _).set (p := ⟨t, 1, none⟩) (show own1 t t from rfl) _) HJ.out.1 ((hgrow.cell_far ⟨jb, 1, none⟩ HJ2.out HJ.out.2.2).trans HSO.out.2.2.1), cellFr ((Fr.refl (own1 t) _).set (p := ⟨t, 1, none⟩) (show own1 t t from rfl) _) HJ.out.1 ((hgrow.cell_far ⟨jb, 2, none⟩ HJ2.out HJ.out.2.2).trans HSO.out.2.2.2.1), cellFr ((Fr.refl (own1 t) _).set (p := ⟨t, 1, none⟩) (show own1 t t from rfl) _) HJ.out.1 ((hgrow.cell_far ⟨jb, 3, none⟩ HJ2.out HJ.out.2.2).trans HSO.out.2.2.2.2.1), cellFr ((Fr.refl (own1 t) _).set (p := ⟨t, 1, none⟩) (show own1 t t from rfl) _) HJ.out.1 ((hgrow.cell_far ⟨jb, 4, none⟩ HJ2.out HJ.out.2.2).trans HSO.out.2.2.2.2.2)⟩)
              clear hK K
              refine wpAnyH_take (i := 17) (v := ?_) rfl (by kernel_rfl) (by kernel_rfl) (by kernel_rfl) (fun _ _ _ h => h) (Or.inl ⟨by rfl, ?_⟩) (by assumption) ?_
              rotate_left
              · (intro w hSw; (try dsimp only at hSw); go_simp; try with_reducible rfl)
              (try simp only [Act.put, List.setIfInBounds_toArray, List.set_cons_zero, List.set_cons_succ])
              refine wpAnyH_take (i := 18) (v := ?_) rfl (by kernel_rfl) (by kernel_rfl) (by kernel_rfl) (fun _ _ _ h => h) (Or.inl ⟨by rfl, ?_⟩) (by assumption) ?_
              rotate_left
              · (intro w hSw; (try dsimp only at hSw); go_simp; try with_reducible rfl)
              (try simp only [Act.put, List.setIfInBounds_toArray, List.set_cons_zero, List.set_cons_succ])
              refine wpAnyH_ready (rs := [19]) (by kernel_rfl) (by simp) ?_
              refine AllReadyH.cons rfl (fun K hK => ?_) ?_
              · skip
                go_simp
                refine hK.out _ _ ?_ (fun hHeld => ?_)
                · (try dsimp only); (first | exact HSD.out.2 | exact HSO.out.2 | assumption | exact ⟨(hgrow.cell_far ⟨jb, 0, none⟩ HJ2.out HJ.out.2.2).trans HSO.out.2.1, (hgrow.cell_far ⟨jb, 1, none⟩ HJ2.out HJ.out.2.2).trans HSO.out.2.2.1, (hgrow.cell_far ⟨jb, 2, none⟩ HJ2.out HJ.out.2.2).trans HSO.out.2.2.2.1, (hgrow.cell_far ⟨jb, 3, none⟩ HJ2.out HJ.out.2.2).trans HSO.out.2.2.2.2.1, (hgrow.cell_far ⟨jb, 4, none⟩ HJ2.out HJ.out.2.2).trans HSO.out.2.2.2.2.2⟩ | exact ⟨cellFr ((Fr.refl (own1 t) _).set (p := ⟨t, 1, none⟩) (show own1 t t from rfl) _) HJ.out.1 ((hgrow.cell_far ⟨jb, 0, none⟩ HJ2.out HJ.out.2.2).trans HSO.out.2.1), cellFr ((Fr.refl (own1 t) _).set (p := ⟨t, 1, none⟩) (show own1 t t from rfl) _) HJ.out.1 ((hgrow.cell_far ⟨jb, 1, none⟩ HJ2.out HJ.out.2.2).trans HSO.out.2.2.1), cellFr ((Fr.refl (own1 t) _).set (p := ⟨t, 1, none⟩) (show own1 t t from rfl) _) HJ.out.1 ((hgrow.cell_far ⟨jb, 2, none⟩ HJ2.out HJ.out.2.2).trans HSO.out.2.2.2.1), cellFr ((Fr.refl (own1 t) _).set (p := ⟨t, 1, none⟩) (show own1 t t from rfl) _) HJ.out.1 ((hgrow.cell_far ⟨jb, 3, none⟩ HJ2.out HJ.out.2.2).trans HSO.out.2.2.2.2.1), cellFr ((Fr.refl (own1 t) _).set (p := ⟨t, 1, none⟩) (show own1 t t from rfl) _) HJ.out.1 ((hgrow.cell_far ⟨jb, 4, none⟩ HJ2.out HJ.out.2.2).trans HSO.out.2.2.2.2.2)⟩)
                clear hK K
                refine wpAnyH_done (by kernel_rfl) ?_ _
                go_wp2_with fail
                go_meet
                exact ⟨q, cap, H4O.out.grown hgrow hown, (hF5.trans (((Fr.refl _ _).al o).dr)).trans ((show Fr (fun x => own2 b g x ∨ x = mb ∨ x = t ∨ some x = rv.ownBlock) ((w4.alloc o).drew) w6 from ⟨hgrow.os, hgrow.tape, hgrow.output, hgrow.size, fun k hk hn => hgrow.block k hk (fun e => hn (.inr (.inr (.inr e))))⟩).set (p := ⟨t, 1, none⟩) (.inr (.inr (.inl rfl))) _)⟩
              exact AllReadyH.nil
            exact AllReadyH.nil
          exact AllReadyH.nil
        exact AllReadyH.nil
      refine AllReadyH.cons rfl (fun K hK => ?_) ?_
      · skip
        (go_simp; go_at_call 93; refine (ClipOp_nil _).mono ?_; rintro e w5 ⟨rfl, rfl⟩)
        refine hK.out _ _ ?_ (fun hHeld => ?_)
        · (try dsimp only); (first | exact HSD.out.2 | exact HSO.out.2 | assumption | exact ⟨(hgrow.cell_far ⟨jb, 0, none⟩ HJ2.out HJ.out.2.2).trans HSO.out.2.1, (hgrow.cell_far ⟨jb, 1, none⟩ HJ2.out HJ.out.2.2).trans HSO.out.2.2.1, (hgrow.cell_far ⟨jb, 2, none⟩ HJ2.out HJ.out.2.2).trans HSO.out.2.2.2.1, (hgrow.cell_far ⟨jb, 3, none⟩ HJ2.out HJ.out.2.2).trans HSO.out.2.2.2.2.1, (hgrow.cell_far ⟨jb, 4, none⟩ HJ2.out HJ.out.2.2).trans HSO.out.2.2.2.2.2⟩ | exact ⟨cellFr ((Fr.refl (own1 t) _).set (p := ⟨t, 1, none⟩) (show own1 t t from rfl) _) HJ.out.1 ((hgrow.cell_far ⟨jb, 0, none⟩ HJ2.out HJ.out.2.2).trans HSO.out.2.1), cellFr ((Fr.refl (own1 t) _).set (p := ⟨t, 1, none⟩) (show own1 t t from rfl) _) HJ.out.1 ((hgrow.cell_far ⟨jb, 1, none⟩ HJ2.out HJ.out.2.2).trans HSO.out.2.2.1), cellFr ((Fr.refl (own1 t) _).set (p := ⟨t, 1, none⟩) (show own1 t t from rfl) _) HJ.out.1 ((hgrow.cell_far ⟨jb, 2, none⟩ HJ2.out HJ.out.2.2).trans HSO.out.2.2.2.1), cellFr ((Fr.refl (own1 t) _).set (p := ⟨t, 1, none⟩) (show own1 t t from rfl) _) HJ.out.1 ((hgrow.cell_far ⟨jb, 3, none⟩ HJ2.out HJ.out.2.2).trans HSO.out.2.2.2.2.1), cellFr ((Fr.refl (own1 t) _).set (p := ⟨t, 1, none⟩) (show own1 t t from rfl) _) HJ.out.1 ((hgrow.cell_far ⟨jb, 4, none⟩ HJ2.out HJ.out.2.2).trans HSO.out.2.2.2.2.2)⟩)
        clear hK K
        refine wpAnyH_take (i := 14) (v := ?_) rfl (by kernel_rfl) (by kernel_rfl) (by kernel_rfl) (fun _ _ _ h => h) (Or.inl ⟨by rfl, ?_⟩) (by assumption) ?_
        rotate_left
        · (intro w hSw; (try dsimp only at hSw); go_simp; try with_reducible rfl)
        (try simp only [Act.put, List.setIfInBounds_toArray, List.set_cons_zero, List.set_cons_succ])
        refine wpAnyH_ready (rs := [4, 15]) (by kernel_rfl) (by simp) ?_
        refine AllReadyH.cons rfl (fun K hK => ?_) ?_
        · skip
          go_simp
          refine hK.out _ _ ?_ (fun hHeld => ?_)
          · (try dsimp only); (first | exact HSD.out.2 | exact HSO.out.2 | assumption | exact ⟨(hgrow.cell_far ⟨jb, 0, none⟩ HJ2.out HJ.out.2.2).trans HSO.out.2.1, (hgrow.cell_far ⟨jb, 1, none⟩ HJ2.out HJ.out.2.2).trans HSO.out.2.2.1, (hgrow.cell_far ⟨jb, 2, none⟩ HJ2.out HJ.out.2.2).trans HSO.out.2.2.2.1, (hgrow.cell_far ⟨jb, 3, none⟩ HJ2.out HJ.out.2.2).trans HSO.out.2.2.2.2.1, (hgrow.cell_far ⟨jb, 4, none⟩ HJ2.out HJ.out.2.2).trans HSO.out.2.2.2.2.2⟩ | exact ⟨cellFr ((Fr.refl (own1 t) _).set (p := ⟨t, 1, none⟩) (show own1 t t from rfl) _) HJ.out.1 ((hgrow.cell_far ⟨jb, 0, none⟩ HJ2.out HJ.out.2.2).trans HSO.out.2.1), cellFr ((Fr.refl (own1 t) _).set (p := ⟨t, 1, none⟩) (show own1 t t from rfl) _) HJ.out.1 ((hgrow.cell_far ⟨jb, 1, none⟩ HJ2.out HJ.out.2.2).trans HSO.out.2.2.1), cellFr ((Fr.refl (own1 t) _).set (p := ⟨t, 1, none⟩) (show own1 t t from rfl) _) HJ.out.1 ((hgrow.cell_far ⟨jb, 2, none⟩ HJ2.out HJ.out.2.2).trans HSO.out.2.2.2.1), cellFr ((Fr.refl (own1 t) _).set (p := ⟨t, 1, none⟩) (show own1 t t from rfl) _) HJ.out.1 ((hgrow.cell_far ⟨jb, 3, none⟩ HJ2.out HJ.out.2.2).trans HSO.out.2.2.2.2.1), cellFr ((Fr.refl (own1 t) _).set (p := ⟨t, 1, none⟩) (show own1 t t from rfl) _) HJ.out.1 ((hgrow.cell_far ⟨jb, 4, none⟩ HJ2.out HJ.out.2.2).trans HSO.out.2.2.2.2.2)⟩)
          clear hK K
          refine wpAnyH_ready (rs := [15]) (by kernel_rfl) (by simp) ?_
          refine AllReadyH.cons rfl (fun K hK => ?_) ?_
          · skip
            go_simp
            refine hK.out _ _ ?_ (fun hHeld => ?_)
            · (try dsimp only); (first | exact HSD.out.2 | exact HSO.out.2 | assumption | exact ⟨(hgrow.cell_far ⟨jb, 0, none⟩ HJ2.out HJ.out.2.2).trans HSO.out.2.1, (hgrow.cell_far ⟨jb, 1, none⟩ HJ2.out HJ.out.2.2).trans HSO.out.2.2.1, (hgrow.cell_far ⟨jb, 2, none⟩ HJ2.out HJ.out.2.2).trans HSO.out.2.2.2.1, (hgrow.cell_far ⟨jb, 3, none⟩ HJ2.out HJ.out.2.2).trans HSO.out.2.2.2.2.1, (hgrow.cell_far ⟨jb, 4, none⟩ HJ2.out HJ.out.2.2).trans HSO.out.2.2.2.2.2⟩ | exact ⟨cellFr ((Fr.refl (own1 t) _).set (p := ⟨t, 1, none⟩) (show own1 t t from rfl) _) HJ.out.1 ((hgrow.cell_far ⟨jb, 0, none⟩ HJ2.out HJ.out.2.2).trans HSO.out.2.1), cellFr ((Fr.refl (own1 t) _).set (p := ⟨t, 1, none⟩) (show own1 t t from rfl) _) HJ.out.1 ((hgrow.cell_far ⟨jb, 1, none⟩ HJ2.out HJ.out.2.2).trans HSO.out.2.2.1), cellFr ((Fr.refl (own1 t) _).set (p := ⟨t, 1, none⟩) (show own1 t t from rfl) _) HJ.out.1 ((hgrow.cell_far ⟨jb, 2, none⟩ HJ2.out HJ.out.2.2).trans HSO.out.2.2.2.1), cellFr ((Fr.refl (own1 t) _).set (p := ⟨t, 1, none⟩) (show own1 t t from rfl) _) HJ.out.1 ((hgrow.cell_far ⟨jb, 3, none⟩ HJ2.out HJ.out.2.2).trans HSO.out.2.2.2.2.1), cellFr ((Fr.refl (own1 t) _).set (p := ⟨t, 1, none⟩) (show own1 t t from rfl) _) HJ.out.1 ((hgrow.cell_far ⟨jb, 4, none⟩ HJ2.out HJ.out.2.2).trans HSO.out.2.2.2.2.2)⟩)
            clear hK K
            refine wpAnyH_ready (rs := [16]) (by kernel_rfl) (by simp) ?_
            refine AllReadyH.cons rfl (fun K hK => ?_) ?_
            · skip
              (refine step_append_lies _ rfl (.tmp 56) (.tmp 67) 129 rfl base 137 i0 rowZ 13 120 Try.underlying129 hi0 hz0 hz1 hz2 rfl (by decide) rv n R (by simp [Act.eval, Act.put]) HOWN.out ⟨w4.heap.size, 0, none⟩ 1 1 (rowL ((n : Int) + 1) PR d f p r m) (by simp [Act.eval, Act.put]) rfl HNEWS.out (rowL_one _ _ _ _ _ _ _) (by decide) (by unfold maxLen; omega) (by omega) (by simp; omega) (w4.heap.size + 1) (by simp) ?_; intro q cap w6 hown hgrow hat hlt; have tc := (hgrow.cell_far ⟨t, 1, none⟩ HTL.out HTN.out).trans HTC.out; have tf := (hgrow.frozen_far ⟨t, 1, none⟩ HTL.out HTN.out).trans HTF.out)
              refine hK.out _ _ ?_ (fun hHeld => ?_)
              · (try dsimp only); (first | exact HSD.out.2 | exact HSO.out.2 | assumption | exact ⟨(hgrow.cell_far ⟨jb, 0, none⟩ HJ2.out HJ.out.2.2).trans HSO.out.2.1, (hgrow.cell_far ⟨jb, 1, none⟩ HJ2.out HJ.out.2.2).trans HSO.out.2.2.1, (hgrow.cell_far ⟨jb, 2, none⟩ HJ2.out HJ.out.2.2).trans HSO.out.2.2.2.1, (hgrow.cell_far ⟨jb, 3, none⟩ HJ2.out HJ.out.2.2).trans HSO.out.2.2.2.2.1, (hgrow.cell_far ⟨jb, 4, none⟩ HJ2.out HJ.out.2.2).trans HSO.out.2.2.2.2.2⟩ | exact ⟨cellFr ((Fr.refl (own1 t) _).set (p := ⟨t, 1, none⟩) (show own1 t t from rfl) _) HJ.out.1 ((hgrow.cell_far ⟨jb, 0, none⟩ HJ2.out HJ.out.2.2).trans HSO.out.2.1), cellFr ((Fr.refl (own1 t) _).set (p := ⟨t, 1, none⟩) (show own1 t t from rfl) _) HJ.out.1 ((hgrow.cell_far ⟨jb, 1, none⟩ HJ2.out HJ.out.2.2).trans HSO.out.2.2.1), cellFr ((Fr.refl (own1 t) _).set (p := ⟨t, 1, none⟩) (show own1 t t from rfl) _) HJ.out.1 ((hgrow.cell_far ⟨jb, 2, none⟩ HJ2.out HJ.out.2.2).trans HSO.out.2.2.2.1), cellFr ((Fr.refl (own1 t) _).set (p := ⟨t, 1, none⟩) (show own1 t t from rfl) _) HJ.out.1 ((hgrow.cell_far ⟨jb, 3, none⟩ HJ2.out HJ.out.2.2).trans HSO.out.2.2.2.2.1), cellFr ((Fr.refl (own1 t) _).set (p := ⟨t, 1, none⟩) (show own1 t t from rfl) _) HJ.out.1 ((hgrow.cell_far ⟨jb, 4, none⟩ HJ2.out HJ.out.2.2).trans HSO.out.2.2.2.2.2)⟩)
              clear hK K
              refine wpAnyH_take (i := 17) (v := ?_) rfl (by kernel_rfl) (by kernel_rfl) (by kernel_rfl) (fun _ _ _ h => h) (Or.inl ⟨by rfl, ?_⟩) (by assumption) ?_
              rotate_left
              · (intro w hSw; (try dsimp only at hSw); go_simp; try with_reducible rfl)
              (try simp only [Act.put, List.setIfInBounds_toArray, List.set_cons_zero, List.set_cons_succ])
              refine wpAnyH_take (i := 18) (v := ?_) rfl (by kernel_rfl) (by kernel_rfl) (by kernel_rfl) (fun _ _ _ h => h) (Or.inl ⟨by rfl, ?_⟩) (by assumption) ?_
              rotate_left
              · (intro w hSw; (try dsimp only at hSw); go_simp; try with_reducible rfl)
              (try simp only [Act.put, List.setIfInBounds_toArray, List.set_cons_zero, List.set_cons_succ])
              refine wpAnyH_ready (rs := [19]) (by kernel_rfl) (by simp) ?_
              refine AllReadyH.cons rfl (fun K hK => ?_) ?_
              · skip
                go_simp
                refine hK.out _ _ ?_ (fun hHeld => ?_)
                · (try dsimp only); (first | exact HSD.out.2 | exact HSO.out.2 | assumption | exact ⟨(hgrow.cell_far ⟨jb, 0, none⟩ HJ2.out HJ.out.2.2).trans HSO.out.2.1, (hgrow.cell_far ⟨jb, 1, none⟩ HJ2.out HJ.out.2.2).trans HSO.out.2.2.1, (hgrow.cell_far ⟨jb, 2, none⟩ HJ2.out HJ.out.2.2).trans HSO.out.2.2.2.1, (hgrow.cell_far ⟨jb, 3, none⟩ HJ2.out HJ.out.2.2).trans HSO.out.2.2.2.2.1, (hgrow.cell_far ⟨jb, 4, none⟩ HJ2.out HJ.out.2.2).trans HSO.out.2.2.2.2.2⟩ | exact ⟨cellFr ((Fr.refl (own1 t) _).set (p := ⟨t, 1, none⟩) (show own1 t t from rfl) _) HJ.out.1 ((hgrow.cell_far ⟨jb, 0, none⟩ HJ2.out HJ.out.2.2).trans HSO.out.2.1), cellFr ((Fr.refl (own1 t) _).set (p := ⟨t, 1, none⟩) (show own1 t t from rfl) _) HJ.out.1 ((hgrow.cell_far ⟨jb, 1, none⟩ HJ2.out HJ.out.2.2).trans HSO.out.2.2.1), cellFr ((Fr.refl (own1 t) _).set (p := ⟨t, 1, none⟩) (show own1 t t from rfl) _) HJ.out.1 ((hgrow.cell_far ⟨jb, 2, none⟩ HJ2.out HJ.out.2.2).trans HSO.out.2.2.2.1), cellFr ((Fr.refl (own1 t) _).set (p := ⟨t, 1, none⟩) (show own1 t t from rfl) _) HJ.out.1 ((hgrow.cell_far ⟨jb, 3, none⟩ HJ2.out HJ.out.2.2).trans HSO.out.2.2.2.2.1), cellFr ((Fr.refl (own1 t) _).set (p := ⟨t, 1, none⟩) (show own1 t t from rfl) _) HJ.out.1 ((hgrow.cell_far ⟨jb, 4, none⟩ HJ2.out HJ.out.2.2).trans HSO.out.2.2.2.2.2)⟩)
                clear hK K
                refine wpAnyH_done (by kernel_rfl) ?_ _
                go_wp2_with fail
                go_meet
                exact ⟨q, cap, H4O.out.grown hgrow hown, (hF5.trans (((Fr.refl _ _).al o).dr)).trans ((show Fr (fun x => own2 b g x ∨ x = mb ∨ x = t ∨ some x = rv.ownBlock) ((w4.alloc o).drew) w6 from ⟨hgrow.os, hgrow.tape, hgrow.output, hgrow.size, fun k hk hn => hgrow.block k hk (fun e => hn (.inr (.inr (.inr e))))⟩).set (p := ⟨t, 1, none⟩) (.inr (.inr (.inl rfl))) _)⟩
              exact AllReadyH.nil
            exact AllReadyH.nil
          exact AllReadyH.nil
        refine AllReadyH.cons rfl (fun K hK => ?_) ?_
        · skip
          go_simp
          refine hK.out _ _ ?_ (fun hHeld => ?_)
          · (try dsimp only); (first | exact HSD.out.2 | exact HSO.out.2 | assumption | exact ⟨(hgrow.cell_far ⟨jb, 0, none⟩ HJ2.out HJ.out.2.2).trans HSO.out.2.1, (hgrow.cell_far ⟨jb, 1, none⟩ HJ2.out HJ.out.2.2).trans HSO.out.2.2.1, (hgrow.cell_far ⟨jb, 2, none⟩ HJ2.out HJ.out.2.2).trans HSO.out.2.2.2.1, (hgrow.cell_far ⟨jb, 3, none⟩ HJ2.out HJ.out.2.2).trans HSO.out.2.2.2.2.1, (hgrow.cell_far ⟨jb, 4, none⟩ HJ2.out HJ.out.2.2).trans HSO.out.2.2.2.2.2⟩ | exact ⟨cellFr ((Fr.refl (own1 t) _).set (p := ⟨t, 1, none⟩) (show own1 t t from rfl) _) HJ.out.1 ((hgrow.cell_far ⟨jb, 0, none⟩ HJ2.out HJ.out.2.2).trans HSO.out.2.1), cellFr ((Fr.refl (own1 t) _).set (p := ⟨t, 1, none⟩) (show own1 t t from rfl) _) HJ.out.1 ((hgrow.cell_far ⟨jb, 1, none⟩ HJ2.out HJ.out.2.2).trans HSO.out.2.2.1), cellFr ((Fr.refl (own1 t) _).set (p := ⟨t, 1, none⟩) (show own1 t t from rfl) _) HJ.out.1 ((hgrow.cell_far ⟨jb, 2, none⟩ HJ2.out HJ.out.2.2).trans HSO.out.2.2.2.1), cellFr ((Fr.refl (own1 t) _).set (p := ⟨t, 1, none⟩) (show own1 t t from rfl) _) HJ.out.1 ((hgrow.cell_far ⟨jb, 3, none⟩ HJ2.out HJ.out.2.2).trans HSO.out.2.2.2.2.1), cellFr ((Fr.refl (own1 t) _).set (p := ⟨t, 1, none⟩) (show own1 t t from rfl) _) HJ.out.1 ((hgrow.cell_far ⟨jb, 4, none⟩ HJ2.out HJ.out.2.2).trans HSO.out.2.2.2.2.2)⟩)
          clear hK K
          refine wpAnyH_ready (rs := [4]) (by kernel_rfl) (by simp) ?_
          refine AllReadyH.cons rfl (fun K hK => ?_) ?_
          · skip
            go_simp
            refine hK.out _ _ ?_ (fun hHeld => ?_)
            · (try dsimp only); (first | exact HSD.out.2 | exact HSO.out.2 | assumption | exact ⟨(hgrow.cell_far ⟨jb, 0, none⟩ HJ2.out HJ.out.2.2).trans HSO.out.2.1, (hgrow.cell_far ⟨jb, 1, none⟩ HJ2.out HJ.out.2.2).trans HSO.out.2.2.1, (hgrow.cell_far ⟨jb, 2, none⟩ HJ2.out HJ.out.2.2).trans HSO.out.2.2.2.1, (hgrow.cell_far ⟨jb, 3, none⟩ HJ2.out HJ.out.2.2).trans HSO.out.2.2.2.2.1, (hgrow.cell_far ⟨jb, 4, none⟩ HJ2.out HJ.out.2.2).trans HSO.out.2.2.2.2.2⟩ | exact ⟨cellFr ((Fr.refl (own1 t) _).set (p := ⟨t, 1, none⟩) (show own1 t t from rfl) _) HJ.out.1 ((hgrow.cell_far ⟨jb, 0, none⟩ HJ2.out HJ.out.2.2).trans HSO.out.2.1), cellFr ((Fr.refl (own1 t) _).set (p := ⟨t, 1, none⟩) (show own1 t t from rfl) _) HJ.out.1 ((hgrow.cell_far ⟨jb, 1, none⟩ HJ2.out HJ.out.2.2).trans HSO.out.2.2.1), cellFr ((Fr.refl (own1 t) _).set (p := ⟨t, 1, none⟩) (show own1 t t from rfl) _) HJ.out.1 ((hgrow.cell_far ⟨jb, 2, none⟩ HJ2.out HJ.out.2.2).trans HSO.out.2.2.2.1), cellFr ((Fr.refl (own1 t) _).set (p := ⟨t, 1, none⟩) (show own1 t t from rfl) _) HJ.out.1 ((hgrow.cell_far ⟨jb, 3, none⟩ HJ2.out HJ.out.2.2).trans HSO.out.2.2.2.2.1), cellFr ((Fr.refl (own1 t) _).set (p := ⟨t, 1, none⟩) (show own1 t t from rfl) _) HJ.out.1 ((hgrow.cell_far ⟨jb, 4, none⟩ HJ2.out HJ.out.2.2).trans HSO.out.2.2.2.2.2)⟩)
            clear hK K
            refine wpAnyH_ready (rs := [16]) (by kernel_rfl) (by simp) ?_
            refine AllReadyH.cons rfl (fun K hK => ?_) ?_
            · skip
              (refine step_append_lies _ rfl (.tmp 56) (.tmp 67) 129 rfl base 137 i0 rowZ 13 120 Try.underlying129 hi0 hz0 hz1 hz2 rfl (by decide) rv n R (by simp [Act.eval, Act.put]) HOWN.out ⟨w4.heap.size, 0, none⟩ 1 1 (rowL ((n : Int) + 1) PR d f p r m) (by simp [Act.eval, Act.put]) rfl HNEWS.out (rowL_one _ _ _ _ _ _ _) (by decide) (by unfold maxLen; omega) (by omega) (by simp; omega) (w4.heap.size + 1) (by simp) ?_; intro q cap w6 hown hgrow hat hlt; have tc := (hgrow.cell_far ⟨t, 1, none⟩ HTL.out HTN.out).trans HTC.out; have tf := (hgrow.frozen_far ⟨t, 1, none⟩ HTL.out HTN.out).trans HTF.out)
              refine hK.out _ _ ?_ (fun hHeld => ?_)
              · (try dsimp only); (first | exact HSD.out.2 | exact HSO.out.2 | assumption | exact ⟨(hgrow.cell_far ⟨jb, 0, none⟩ HJ2.out HJ.out.2.2).trans HSO.out.2.1, (hgrow.cell_far ⟨jb, 1, none⟩ HJ2.out HJ.out.2.2).trans HSO.out.2.2.1, (hgrow.cell_far ⟨jb, 2, none⟩ HJ2.out HJ.out.2.2).trans HSO.out.2.2.2.1, (hgrow.cell_far ⟨jb, 3, none⟩ HJ2.out HJ.out.2.2).trans HSO.out.2.2.2.2.1, (hgrow.cell_far ⟨jb, 4, none⟩ HJ2.out HJ.out.2.2).trans HSO.out.2.2.2.2.2⟩ | exact ⟨cellFr ((Fr.refl (own1 t) _).set (p := ⟨t, 1, none⟩) (show own1 t t from rfl) _) HJ.out.1 ((hgrow.cell_far ⟨jb, 0, none⟩ HJ2.out HJ.out.2.2).trans HSO.out.2.1), cellFr ((Fr.refl (own1 t) _).set (p := ⟨t, 1, none⟩) (show own1 t t from rfl) _) HJ.out.1 ((hgrow.cell_far ⟨jb, 1, none⟩ HJ2.out HJ.out.2.2).trans HSO.out.2.2.1), cellFr ((Fr.refl (own1 t) _).set (p := ⟨t, 1, none⟩) (show own1 t t from rfl) _) HJ.out.1 ((hgrow.cell_far ⟨jb, 2, none⟩ HJ2.out HJ.out.2.2).trans HSO.out.2.2.2.1), cellFr ((Fr.refl (own1 t) _).set (p := ⟨t, 1, none⟩) (show own1 t t from rfl) _) HJ.out.1 ((hgrow.cell_far ⟨jb, 3, none⟩ HJ2.out HJ.out.2.2).trans HSO.out.2.2.2.2.1), cellFr ((Fr.refl (own1 t) _).set (p := ⟨t, 1, none⟩) (show own1 t t from rfl) _) HJ.out.1 ((hgrow.cell_far ⟨jb, 4, none⟩ HJ2.out HJ.out.2.2).trans HSO.out.2.2.2.2.2)⟩)
              clear hK K
              refine wpAnyH_take (i := 17) (v := ?_) rfl (by kernel_rfl) (by kernel_rfl) (by kernel_rfl) (fun _ _ _ h => h) (Or.inl ⟨by rfl, ?_⟩) (by assumption) ?_
              rotate_left
              · (intro w hSw; (try dsimp only at hSw); go_simp; try with_reducible rfl)
              (try simp only [Act.put, List.setIfInBounds_toArray, List.set_cons_zero, List.set_cons_succ])
              refine wpAnyH_take (i := 18) (v := ?_) rfl (by kernel_rfl) (by kernel_rfl) (by kernel_rfl) (fun _ _ _ h => h) (Or.inl ⟨by rfl, ?_⟩) (by assumption) ?_
              rotate_left
              · (intro w hSw; (try dsimp only at hSw); go_simp; try with_reducible rfl)
              (try simp only [Act.put, List.setIfInBounds_toArray, List.set_cons_zero, List.set_cons_succ])
              refine wpAnyH_ready (rs := [19]) (by kernel_rfl) (by simp) ?_
              refine AllReadyH.cons rfl (fun K hK => ?_) ?_
              · skip
                go_simp
                refine hK.out _ _ ?_ (fun hHeld => ?_)
                · (try dsimp only); (first | exact HSD.out.2 | exact HSO.out.2 | assumption | exact ⟨(hgrow.cell_far ⟨jb, 0, none⟩ HJ2.out HJ.out.2.2).trans HSO.out.2.1, (hgrow.cell_far ⟨jb, 1, none⟩ HJ2.out HJ.out.2.2).trans HSO.out.2.2.1, (hgrow.cell_far ⟨jb, 2, none⟩ HJ2.out HJ.out.2.2).trans HSO.out.2.2.2.1, (hgrow.cell_far ⟨jb, 3, none⟩ HJ2.out HJ.out.2.2).trans HSO.out.2.2.2.2.1, (hgrow.cell_far ⟨jb, 4, none⟩ HJ2.out HJ.out.2.2).trans HSO.out.2.2.2.2.2⟩ | exact ⟨cellFr ((Fr.refl (own1 t) _).set (p := ⟨t, 1, none⟩) (show own1 t t from rfl) _) HJ.out.1 ((hgrow.cell_far ⟨jb, 0, none⟩ HJ2.out HJ.out.2.2).trans HSO.out.2.1), cellFr ((Fr.refl (own1 t) _).set (p := ⟨t, 1, none⟩) (show own1 t t from rfl) _) HJ.out.1 ((hgrow.cell_far ⟨jb, 1, none⟩ HJ2.out HJ.out.2.2).trans HSO.out.2.2.1), cellFr ((Fr.refl (own1 t) _).set (p := ⟨t, 1, none⟩) (show own1 t t from rfl) _) HJ.out.1 ((hgrow.cell_far ⟨jb, 2, none⟩ HJ2.out HJ.out.2.2).trans HSO.out.2.2.2.1), cellFr ((Fr.refl (own1 t) _).set (p := ⟨t, 1, none⟩) (show own1 t t from rfl) _) HJ.out.1 ((hgrow.cell_far ⟨jb, 3, none⟩ HJ2.out HJ.out.2.2).trans HSO.out.2.2.2.2.1), cellFr ((Fr.refl (own1 t) _).set (p := ⟨t, 1, none⟩) (show own1 t t from rfl) _) HJ.out.1 ((hgrow.cell_far ⟨jb, 4, none⟩ HJ2.out HJ.out.2.2).trans HSO.out.2.2.2.2.2)⟩)
                clear hK K
                refine wpAnyH_done (by kernel_rfl) ?_ _
                go_wp2_with fail
                go_meet
                exact ⟨q, cap, H4O.out.grown hgrow hown, (hF5.trans (((Fr.refl _ _).al o).dr)).trans ((show Fr (fun x => own2 b g x ∨ x = mb ∨ x = t ∨ some x = rv.ownBlock) ((w4.alloc o).drew) w6 from ⟨hgrow.os, hgrow.tape, hgrow.output, hgrow.size, fun k hk hn => hgrow.block k hk (fun e => hn (.inr (.inr (.inr e))))⟩).set (p := ⟨t, 1, none⟩) (.inr (.inr (.inl rfl))) _)⟩
              exact AllReadyH.nil
            exact AllReadyH.nil
          exact AllReadyH.nil
        exact AllReadyH.nil
      exact AllReadyH.nil
    exact AllReadyH.nil
  case rest =>
  clear hj4 hF5 hs4 k0 k1 k2 j0 j1 j2 j3 j4
  obtain ⟨q, cap, h5, hF6⟩ := hcut
  obtain ⟨k0, k1, k2⟩ := h5.cells
  have H5 := Lib.hid h5
  clear h5
  go_upto_region 7 with fail
  go_cut [] (fun wx => TbAt wx t a b g mb WS (B + n + 2) (.slice (some ⟨q, 0, none⟩) (n + 1) cap) (n + 1) (R ++ rowL ((n : Int) + 1) PR d f p r m) (updC C s PR (C s PR + 1)) base ∧ Fr (fun x => own2 b g x ∨ x = mb ∨ x = t ∨ some x = rv.ownBlock) W wx)
  case first =>
    have h2d := H5.out.dr
    obtain ⟨f0', f1', f2'⟩ := h2d.cells
    have hl1 := h2d.map.look s PR I3.out I2.out
    obtain ⟨st1, es1, ck1, hen1, hmid, hst1⟩ := h2d.map.entry s PR I3.out I2.out
    have h2m := h2d.setMap hmid
    obtain ⟨g0, g1, g2⟩ := h2m.cells
    have hl2 := hmid.look s PR I3.out I2.out
    have hcb := HCB.out s PR
    obtain ⟨C0, hC0⟩ : ∃ z, C s PR = z := ⟨_, rfl⟩
    rw [hC0] at hl1 hl2 hen1 hcb
    have hwr : IntKind.i64.wrap (C0 + 1) = C0 + 1 := by rw [IntKind.wrap_i64]; omega
    obtain ⟨es2, ck2, hes1, hcm1⟩ := hst1 (C0 + 1)
    have H2D := Lib.hid h2d
    have HCM1 := Lib.hid hcm1
    have HC0 := Lib.hid hC0
    clear h2d h2m hmid hst1 hcm1 hC0 k0 k1 k2
    go_region
    all_goals
      go_wp2_with fail
      go_meet
      rw [HC0.out]
      exact ⟨H2D.out.setMap HCM1.out, (hF6.dr).trans (Fr.of_setBlk _ _ _ (.inr (.inl rfl)))⟩
  case rest =>
  clear k0 k1 k2 hF6
  obtain ⟨h6, hF7⟩ := hcut
  go_wp2_with fail
  go_ret2
  exact ⟨q, cap, rfl, h6, hF7⟩
end
end Go.Proofs.Ytpcbcnheogjofaa
