/- Does a table stand as the statement's rows: the statement's own same. Printed by gen/gensame.py. -/
import Derived.Test.YtpcbcnheogjofaaTable14
import Derived.Deep.RegionHeld3
import Derived.Deep.CutBlock
namespace Go.Proofs.Ytpcbcnheogjofaa
open Go.RowKit Go.Maps Go.Shelf Go.Proofs.YtpcbcnheogjofaaW.PrintWords
set_option linter.unusedVariables false
set_option linter.unusedSimpArgs false

abbrev stOf (ws : List Int) : Nat → Int := fun j => ws.getD j 0 % 8
abbrev prOf (TT : Nat → Tk) : Nat → Int := fun j => (TT j).pr
/-- What stands in the world: the table, the statement's rows, the bodies of both. -/
structure SI (w X : World) (t a b g mb : Nat) (ws : List Int) (B : Int) (q n cap : Nat) (R : List Value) (TT : Nat → Tk) (base lq : Nat) (bv lv : Nat → Value) : Prop where
  tb : TbAt X t a b g mb ws B (.slice (some ⟨q, 0, none⟩) n cap) n R (CG (stOf ws) (prOf TT) n) base
  lc : ∀ k, k < n → ∀ j, j < 14 → X.cell? ⟨lq, k * 14 + j, none⟩ = (lawRow k (ws.getD k 0 % 8) (TT k) (lv k))[j]?
  bb : ∀ k, k < n → OpsV X (bv k) (TT k).L
  lb : ∀ k, k < n → OpsV X (lv k) (TT k).L
  fr : Fr (own2 b g) w X
  lt : lq < X.heap.size
  bl : ∀ k, k < n → (∀ c, (bv k).ownBlock = some c → c < X.heap.size) ∧ (∀ c, (lv k).ownBlock = some c → c < X.heap.size)
/-- What does not hang on the world. -/
structure SN (b g n lq : Nat) (bv lv : Nat → Value) (TT : Nat → Tk) (R : List Value) (ws : List Int) : Prop where
  nl : ¬ own2 b g lq
  nb : ∀ k, k < n → ∀ c, (bv k).ownBlock = some c → ¬ own2 b g c
  nv : ∀ k, k < n → ∀ c, (lv k).ownBlock = some c → ¬ own2 b g c
  rr : Blk R 13 n (fun k => tabRow k (TT k) (bv k))
  pr : ∀ k, k < n → 0 ≤ (TT k).pr ∧ (TT k).pr ≤ 7 ∧ 0 ≤ (TT k).p ∧ (TT k).L.length ≤ 1000
  ln : n ≤ ws.length
section
variable {w X X' : World} {t a b g mb : Nat} {ws : List Int} {B : Int} {q n cap : Nat} {R : List Value} {TT : Nat → Tk} {base lq : Nat} {bv lv : Nat → Value}
theorem SI.to (h : SI w X t a b g mb ws B q n cap R TT base lq bv lv) (s : SN b g n lq bv lv TT R ws) {B' : Int} (f : Fr (own2 b g) X X') (ht : TbAt X' t a b g mb ws B' (.slice (some ⟨q, 0, none⟩) n cap) n R (CG (stOf ws) (prOf TT) n) base) : SI w X' t a b g mb ws B' q n cap R TT base lq bv lv := by
  refine ⟨ht, fun k hk j hj => ?_, fun k hk => (h.bb k hk).fr f (s.nb k hk), fun k hk => (h.lb k hk).fr f (s.nv k hk), h.fr.trans f, Nat.lt_of_lt_of_le h.lt f.size, fun k hk => ⟨fun c hc => Nat.lt_of_lt_of_le ((h.bl k hk).1 c hc) f.size, fun c hc => Nat.lt_of_lt_of_le ((h.bl k hk).2 c hc) f.size⟩⟩
  have h1 := h.lc k hk j hj
  rw [← h1]
  simp only [World.cell?, f.block lq h.lt s.nl]
theorem SI.below (h : SI w X t a b g mb ws B q n cap R TT base lq bv lv) (s : SN b g n lq bv lv TT R ws) (hb : Below X.heap.size X X') : SI w X' t a b g mb ws B q n cap R TT base lq bv lv := h.to s (Fr.of_below hb) (h.tb.below hb)
theorem SI.al (h : SI w X t a b g mb ws B q n cap R TT base lq bv lv) (s : SN b g n lq bv lv TT R ws) (o : Obj) : SI w (X.alloc o) t a b g mb ws B q n cap R TT base lq bv lv := h.below s (below_al (Below.refl _ _) o)
theorem SI.dr (h : SI w X t a b g mb ws B q n cap R TT base lq bv lv) : SI w X.drew t a b g mb ws B q n cap R TT base lq bv lv := ⟨h.tb.dr, h.lc, h.bb, h.lb, h.fr.dr, h.lt, h.bl⟩
theorem SI.drN (h : SI w X t a b g mb ws B q n cap R TT base lq bv lv) (m : Nat) : SI w (X.drewN m) t a b g mb ws B q n cap R TT base lq bv lv := ⟨h.tb.drN m, h.lc, h.bb, h.lb, h.fr.drN m, h.lt, h.bl⟩
theorem SI.le (h : SI w X t a b g mb ws B q n cap R TT base lq bv lv) {B' : Int} (hl : B ≤ B') : SI w X t a b g mb ws B' q n cap R TT base lq bv lv := ⟨⟨h.tb.hdr, h.tb.ar.le hl, h.tb.rows, h.tb.map, h.tb.lt, h.tb.ne⟩, h.lc, h.bb, h.lb, h.fr, h.lt, h.bl⟩
def cntL (S : Nat → Int) (i : Nat) : List Int := (List.range 8).map (fun (s : Nat) => cntG S i (s : Int))
theorem cntL_at (S : Nat → Int) (i s : Nat) (h : s < 8) : (cntL S i).getD s 0 = cntG S i s := by
  rw [List.getD_eq_getElem?_getD]
  simp [cntL, List.getElem?_map, List.getElem?_range h]
theorem cntL_zero (S : Nat → Int) : cntL S 0 = List.replicate 8 0 := rfl
theorem cntL_step (S : Nat → Int) (i s : Nat) (h : S i = s) (h8 : s < 8) : cntL S (i + 1) = (cntL S i).set s (cntG S i s + 1) := by
  apply List.ext_getElem?
  intro j
  rw [List.getElem?_set]
  unfold cntL
  simp only [List.getElem?_map, List.length_map, List.length_range]
  by_cases hj : j < 8
  · rw [List.getElem?_range hj]
    simp only [Option.map_some, cntG]
    by_cases e : s = j
    · subst e
      rw [if_pos rfl, if_pos h8, if_pos h]
    · rw [if_neg e, if_neg (by omega), Int.add_zero]
  · have hn : (List.range 8)[j]? = none := List.getElem?_eq_none (by simpa using hj)
    rw [hn]
    have : ¬ s = j := by omega
    simp [this]
/-- What stands while a row is looked at. -/
structure SR (w X : World) (t a b g mb : Nat) (ws : List Int) (B : Int) (q n cap : Nat) (R : List Value) (TT : Nat → Tk) (base lq : Nat) (bv lv : Nat → Value) (ac cb i : Nat) : Prop where
  si : SI w X t a b g mb ws B q n cap R TT base lq bv lv
  al : ∀ j, j < n * 7 → X.cell? ⟨ac, j, none⟩ = (allV (stOf ws) TT n)[j]?
  ct : RowI .i64 144 X cb (cntL (stOf ws) i)
  nac : ¬ own2 b g ac ∧ ac < X.heap.size ∧ w.heap.size ≤ ac
  ncb : ¬ own2 b g cb ∧ w.heap.size ≤ cb
theorem SR.to {ac cb i : Nat} (h : SR w X t a b g mb ws B q n cap R TT base lq bv lv ac cb i) (s : SN b g n lq bv lv TT R ws) {B' : Int} (f : Fr (own2 b g) X X') (ht : TbAt X' t a b g mb ws B' (.slice (some ⟨q, 0, none⟩) n cap) n R (CG (stOf ws) (prOf TT) n) base) : SR w X' t a b g mb ws B' q n cap R TT base lq bv lv ac cb i := by
  refine ⟨h.si.to s f ht, fun j hj => ?_, h.ct.fr f h.ncb.1, ⟨h.nac.1, Nat.lt_of_lt_of_le h.nac.2.1 f.size, h.nac.2.2⟩, h.ncb⟩
  rw [← h.al j hj]
  simp only [World.cell?, f.block ac h.nac.2.1 h.nac.1]
theorem SR.below {ac cb i : Nat} (h : SR w X t a b g mb ws B q n cap R TT base lq bv lv ac cb i) (s : SN b g n lq bv lv TT R ws) (hb : Below X.heap.size X X') : SR w X' t a b g mb ws B q n cap R TT base lq bv lv ac cb i := h.to s (Fr.of_below hb) (h.si.tb.below hb)
theorem SR.al_ {ac cb i : Nat} (h : SR w X t a b g mb ws B q n cap R TT base lq bv lv ac cb i) (s : SN b g n lq bv lv TT R ws) (o : Obj) : SR w (X.alloc o) t a b g mb ws B q n cap R TT base lq bv lv ac cb i := h.below s (below_al (Below.refl _ _) o)
theorem SR.dr {ac cb i : Nat} (h : SR w X t a b g mb ws B q n cap R TT base lq bv lv ac cb i) : SR w X.drew t a b g mb ws B q n cap R TT base lq bv lv ac cb i := ⟨h.si.dr, h.al, h.ct, h.nac, h.ncb⟩
theorem SR.count {ac cb i : Nat} (h : SR w X t a b g mb ws B q n cap R TT base lq bv lv ac cb i) (hal : ac ≠ cb) (hlc : lq ≠ cb) (hq : q ≠ cb) (hcb : base ≤ cb) (hbb : ∀ k, k < n → (bv k).ownBlock ≠ some cb ∧ (lv k).ownBlock ≠ some cb) (s : Nat) (v : Int) {L' : List Int} (hL : L' = (cntL (stOf ws) i).set s v) (hi : L' = cntL (stOf ws) (i + 1)) : SR w (X.setCell ⟨cb, s, none⟩ (.int .i64 v)) t a b g mb ws B q n cap R TT base lq bv lv ac cb (i + 1) := by
  have f1 : Fr (fun k => k = cb) X (X.setCell ⟨cb, s, none⟩ (.int .i64 v)) := Fr.set (S := fun k => k = cb) (Fr.refl _ X) (p := ⟨cb, s, none⟩) rfl _
  refine ⟨⟨h.si.tb.other hcb hq _, fun k hk j hj => ?_, fun k hk => (h.si.bb k hk).fr f1 (fun c hc e => (hbb k hk).1 (by rw [hc, e])), fun k hk => (h.si.lb k hk).fr f1 (fun c hc e => (hbb k hk).2 (by rw [hc, e])), ?_, by simpa using h.si.lt, fun k hk => ⟨fun c hc => by simpa using (h.si.bl k hk).1 c hc, fun c hc => by simpa using (h.si.bl k hk).2 c hc⟩⟩, fun j hj => ?_, by rw [← hi, hL]; exact h.ct.set s v, ⟨h.nac.1, by simpa using h.nac.2.1, h.nac.2.2⟩, h.ncb⟩
  · rw [← h.si.lc k hk j hj]
    simp only [World.cell?, f1.block lq h.si.lt hlc]
  · have := h.si.fr
    refine ⟨this.os, this.tape, this.output, by simpa using this.size, fun k hk hn => ?_⟩
    rw [← this.block k hk hn]
    exact f1.block k (Nat.lt_of_lt_of_le hk this.size) (fun e => by have := h.ncb.2; omega)
  · rw [← h.al j hj]
    simp only [World.cell?, f1.block ac h.nac.2.1 hal]
def TaskB (X : World) (x : Nat) (c0 c1 c2 c3 c4 c5 c6 : Int) : Prop := X.heap[x]? = some (.cells #[.int .i64 c0, .int .i64 c1, .int .i64 c2, .int .u64 c3, .int .u64 c4, .int .u64 c5, .int .u64 c6] 98 (0, 0))
def JobB (X : World) (x : Nat) (c0 c1 c2 c3 c4 : Int) : Prop := X.heap[x]? = some (.cells #[.int .u64 c0, .int .u64 c1, .int .u64 c2, .int .u64 c3, .int .u64 c4] 57 (0, 0))
/-- .. and behind the loads of it. -/
structure SH (w X : World) (t a b g mb : Nat) (ws : List Int) (B : Int) (q n cap : Nat) (R : List Value) (TT : Nat → Tk) (base lq : Nat) (bv lv : Nat → Value) (ac cb i x y : Nat) (PR S0 DU KE RU MI : Int) (LV : Value) (ag : Bool) (f p d r m : Int) : Prop where
  sr : SR w X t a b g mb ws B q n cap R TT base lq bv lv ac cb i
  xb : TaskB X x ((i : Int) + 1) PR S0 DU KE RU MI
  yb : JobB X y f p d r m
  xn : ¬ own2 b g x ∧ ¬ own2 b g y
  hi : i < n
  row : lawRow i (ws.getD i 0 % 8) (TT i) (lv i) = [.int .i64 ((i : Int) + 1), .int .i64 PR, .int .i64 S0, .int .u64 DU, .int .u64 KE, .int .u64 RU, .int .u64 MI, LV, .bool ag, .int .u64 f, .int .u64 p, .int .u64 d, .int .u64 r, .int .u64 m]
theorem SH.below {ac cb i x y : Nat} {PR S0 DU KE RU MI : Int} {LV : Value} {ag : Bool} {f p d r m : Int} (h : SH w X t a b g mb ws B q n cap R TT base lq bv lv ac cb i x y PR S0 DU KE RU MI LV ag f p d r m) (s : SN b g n lq bv lv TT R ws) (hb : Below X.heap.size X X') : SH w X' t a b g mb ws B q n cap R TT base lq bv lv ac cb i x y PR S0 DU KE RU MI LV ag f p d r m :=
  ⟨h.sr.below s hb, (hb.block x (Array.getElem?_eq_some_iff.1 h.xb).1).trans h.xb, (hb.block y (Array.getElem?_eq_some_iff.1 h.yb).1).trans h.yb, h.xn, h.hi, h.row⟩
theorem SH.dr {ac cb i x y : Nat} {PR S0 DU KE RU MI : Int} {LV : Value} {ag : Bool} {f p d r m : Int} (h : SH w X t a b g mb ws B q n cap R TT base lq bv lv ac cb i x y PR S0 DU KE RU MI LV ag f p d r m) : SH w X.drew t a b g mb ws B q n cap R TT base lq bv lv ac cb i x y PR S0 DU KE RU MI LV ag f p d r m := ⟨h.sr.dr, h.xb, h.yb, h.xn, h.hi, h.row⟩
theorem sheld {ac cb i x y : Nat} {PR S0 DU KE RU MI : Int} {LV : Value} {ag : Bool} {f p d r m : Int} (h : SH w X t a b g mb ws B q n cap R TT base lq bv lv ac cb i x y PR S0 DU KE RU MI LV ag f p d r m) :
    X.cell? ⟨x, 0, none⟩ = some (.int .i64 ((i : Int) + 1)) ∧ X.cell? ⟨x, 1, none⟩ = some (.int .i64 PR) ∧ X.cell? ⟨x, 2, none⟩ = some (.int .i64 S0) ∧ X.cell? ⟨x, 3, none⟩ = some (.int .u64 DU) ∧ X.cell? ⟨x, 4, none⟩ = some (.int .u64 KE) ∧ X.cell? ⟨x, 5, none⟩ = some (.int .u64 RU) ∧ X.cell? ⟨x, 6, none⟩ = some (.int .u64 MI) ∧ X.cell? ⟨lq, i * 14, none⟩ = some (.int .i64 ((i : Int) + 1)) ∧ X.cell? ⟨lq, i * 14 + 1, none⟩ = some (.int .i64 PR) ∧ X.cell? ⟨lq, i * 14 + 2, none⟩ = some (.int .i64 S0) ∧ X.cell? ⟨lq, i * 14 + 3, none⟩ = some (.int .u64 DU) ∧ X.cell? ⟨lq, i * 14 + 4, none⟩ = some (.int .u64 KE) ∧ X.cell? ⟨lq, i * 14 + 5, none⟩ = some (.int .u64 RU) ∧ X.cell? ⟨lq, i * 14 + 6, none⟩ = some (.int .u64 MI) ∧ X.cell? ⟨lq, i * 14 + 7, none⟩ = some (LV) ∧ X.cell? ⟨lq, i * 14 + 8, none⟩ = some (.bool ag) ∧ X.cell? ⟨lq, i * 14 + 9, none⟩ = some (.int .u64 f) ∧ X.cell? ⟨lq, i * 14 + 10, none⟩ = some (.int .u64 p) ∧ X.cell? ⟨lq, i * 14 + 11, none⟩ = some (.int .u64 d) ∧ X.cell? ⟨lq, i * 14 + 12, none⟩ = some (.int .u64 r) ∧ X.cell? ⟨lq, i * 14 + 13, none⟩ = some (.int .u64 m) ∧ X.cell? ⟨ac, i * 7, none⟩ = some (.int .i64 ((i : Int) + 1)) ∧ X.cell? ⟨ac, i * 7 + 1, none⟩ = some (.int .i64 PR) ∧ X.cell? ⟨ac, i * 7 + 2, none⟩ = some (.int .i64 S0) ∧ X.cell? ⟨ac, i * 7 + 3, none⟩ = some (.int .u64 DU) ∧ X.cell? ⟨ac, i * 7 + 4, none⟩ = some (.int .u64 KE) ∧ X.cell? ⟨ac, i * 7 + 5, none⟩ = some (.int .u64 RU) ∧ X.cell? ⟨ac, i * 7 + 6, none⟩ = some (.int .u64 MI) ∧ X.cell? ⟨y, 0, none⟩ = some (.int .u64 f) ∧ X.cell? ⟨y, 1, none⟩ = some (.int .u64 p) ∧ X.cell? ⟨y, 2, none⟩ = some (.int .u64 d) ∧ X.cell? ⟨y, 3, none⟩ = some (.int .u64 r) ∧ X.cell? ⟨y, 4, none⟩ = some (.int .u64 m) ∧ SH w X t a b g mb ws B q n cap R TT base lq bv lv ac cb i x y PR S0 DU KE RU MI LV ag f p d r m := by
  have h1 := h.xb
  have h2 := h.yb
  unfold TaskB at h1
  unfold JobB at h2
  have h3 : ∀ j, j < 14 → X.cell? ⟨lq, i * 14 + j, none⟩ = ([.int .i64 ((i : Int) + 1), .int .i64 PR, .int .i64 S0, .int .u64 DU, .int .u64 KE, .int .u64 RU, .int .u64 MI, LV, .bool ag, .int .u64 f, .int .u64 p, .int .u64 d, .int .u64 r, .int .u64 m] : List Value)[j]? := fun j hj => by rw [h.sr.si.lc i h.hi j hj, h.row]
  have h4 : ∀ j, j < 7 → X.cell? ⟨ac, i * 7 + j, none⟩ = ([.int .i64 ((i : Int) + 1), .int .i64 PR, .int .i64 S0, .int .u64 DU, .int .u64 KE, .int .u64 RU, .int .u64 MI] : List Value)[j]? := fun j hj => by
    rw [h.sr.al (i * 7 + j) (by have := h.hi; omega), allV_at (stOf ws) TT n i j h.hi hj]
    have h5 := congrArg (List.take 7) h.row
    simp only [lawRow, List.take_succ_cons, List.take_zero] at h5
    show (taskV i (ws.getD i 0 % 8) (TT i))[j]? = _
    unfold taskV
    rw [h5]
  refine ⟨?_, ?_, ?_, ?_, ?_, ?_, ?_, ?_, ?_, ?_, ?_, ?_, ?_, ?_, ?_, ?_, ?_, ?_, ?_, ?_, ?_, ?_, ?_, ?_, ?_, ?_, ?_, ?_, ?_, ?_, ?_, ?_, ?_, h⟩
  · simp [World.cell?, h1]
  · simp [World.cell?, h1]
  · simp [World.cell?, h1]
  · simp [World.cell?, h1]
  · simp [World.cell?, h1]
  · simp [World.cell?, h1]
  · simp [World.cell?, h1]
  · exact h3 0 (by decide)
  · exact h3 1 (by decide)
  · exact h3 2 (by decide)
  · exact h3 3 (by decide)
  · exact h3 4 (by decide)
  · exact h3 5 (by decide)
  · exact h3 6 (by decide)
  · exact h3 7 (by decide)
  · exact h3 8 (by decide)
  · exact h3 9 (by decide)
  · exact h3 10 (by decide)
  · exact h3 11 (by decide)
  · exact h3 12 (by decide)
  · exact h3 13 (by decide)
  · exact h4 0 (by decide)
  · exact h4 1 (by decide)
  · exact h4 2 (by decide)
  · exact h4 3 (by decide)
  · exact h4 4 (by decide)
  · exact h4 5 (by decide)
  · exact h4 6 (by decide)
  · simp [World.cell?, h2]
  · simp [World.cell?, h2]
  · simp [World.cell?, h2]
  · simp [World.cell?, h2]
  · simp [World.cell?, h2]
end
section
variable {W : World} {t a b g mb : Nat} {ws : List Int} {B : Int} {q n cap : Nat} {R : List Value} {TT : Nat → Tk} {base lq : Nat} {bv lv : Nat → Value}
set_option maxRecDepth 100000 in
set_option maxHeartbeats 40000000 in
theorem same_in (h : SI W W t a b g mb ws B q n cap R TT base lq bv lv) (s : SN b g n lq bv lv TT R ws) (hbs : base ≤ W.heap.size) (n0 : 0 < n) (hn : n ≤ 40) (hB : B ≤ 600000000) (lcap : Nat) (id : Int) : Calls Try.prog 76 #[.pointer (some ⟨t, 0, none⟩), .slice (some ⟨lq, 0, none⟩) n lcap, .int .i64 id] W fun e w' => e = .returned (.bool true) ∧ TbAt w' t a b g mb ws (B + 81) (.slice (some ⟨q, 0, none⟩) n cap) n R (CG (stOf ws) (prOf TT) n) base ∧ Fr (own2 b g) W w' := by
  have HH := Lib.hid h
  have HS := Lib.hid s
  have HALL := Lib.hid (TAll_in h.tb hbs (by omega) (by omega) s.ln TT (fun k hk => ⟨(s.pr k hk).2.2.1, _, s.rr.rowP k hk⟩))
  have HLT := Lib.hid (show b < W.heap.size ∧ g < W.heap.size ∧ q < W.heap.size ∧ lq < W.heap.size from ⟨by have := h.tb.lt; omega, by have := h.tb.lt; omega, h.tb.q_ge.2, h.lt⟩)
  have HBL := Lib.hid h.bl
  clear h s
  go_enter Try.func76, Try.ntmps76
  go_wp2_with fail
  refine HALL.out.mono ?_
  rintro e w1 ⟨⟨va, rfl, hTA⟩, hT1, hF1⟩
  rcases hTA with ⟨h0, _⟩ | ⟨ac, rfl, hac, hacl, hcs⟩
  · omega
  have h1 := HH.out.to HS.out hF1 hT1
  have HTL := Lib.hid (TLen_any hT1 (by omega))
  have HHa := Lib.hid h1
  have HCS := Lib.hid hcs
  have NAC := Lib.hid (show ¬ own2 b g ac from fun hh => by have := HLT.out; rcases hh with hh | hh <;> omega)
  have HSZ := Lib.hid (show W.heap.size ≤ w1.heap.size from hF1.size)
  clear hcs hT1 hF1 h1
  go_wp2_with fail
  refine HTL.out.mono ?_
  rintro e w2 ⟨rfl, rfl⟩
  go_upto_region 5 with fail
  obtain ⟨cb, hcb⟩ : ∃ cb, w1.heap.size = cb := ⟨_, rfl⟩
  obtain ⟨W2, hW2⟩ : ∃ W2, w1.alloc (.cells #[.int .i64 0, .int .i64 0, .int .i64 0, .int .i64 0, .int .i64 0, .int .i64 0, .int .i64 0, .int .i64 0] 144) = W2 := ⟨_, rfl⟩
  have hR2 : SR W W2 t a b g mb ws (B + n) q n cap R TT base lq bv lv ac cb 0 := by
    rw [← hW2]
    refine ⟨HHa.out.al HS.out _, fun j hj => ?_, ?_, ⟨NAC.out, by simp; omega, hac⟩, ⟨fun hh => by have := HLT.out; have := HSZ.out; rcases hh with hh | hh <;> omega, by have := HSZ.out; omega⟩⟩
    · exact (Below.cell (p := ⟨ac, j, none⟩) (below_al (Below.refl w1.heap.size w1) _) hacl).trans (HCS.out j hj)
    · unfold RowI
      rw [alloc_at hcb.symm]
      rfl
  have NB := Lib.hid (show ∀ k, k < n → (bv k).ownBlock ≠ some cb ∧ (lv k).ownBlock ≠ some cb from fun k hk => ⟨fun e => by have := (HBL.out k hk).1 cb e; have := HSZ.out; omega, fun e => by have := (HBL.out k hk).2 cb e; have := HSZ.out; omega⟩)
  have HNE := Lib.hid (show ac ≠ cb ∧ lq ≠ cb ∧ q ≠ cb ∧ base ≤ cb ∧ b ≠ cb ∧ g ≠ cb from ⟨by omega, by have := HLT.out; have := HSZ.out; omega, by have := HLT.out; have := HSZ.out; omega, by have := HSZ.out; omega, by have := HLT.out; have := HSZ.out; omega, by have := HLT.out; have := HSZ.out; omega⟩)
  try rw [hcb]
  rw [hW2]
  clear hW2 hcb hacl hac
  go_wp2_with fail
  go_loopg [9, 10, 11, 12, 13] n (fun gg v9 v10 v11 v12 v13 wr => ∃ i : Nat, gg = n - i ∧ i ≤ n ∧ v9 = .int .i64 i ∧ SR W wr t a b g mb ws (B + n + i) q n cap R TT base lq bv lv ac cb i)
  case atStart => exact ⟨0, by omega, by omega, rfl, by simpa using hR2⟩
  case round =>
    clear hR2
    obtain ⟨i, rfl, hi, rfl, hR⟩ := hrel
    by_cases hlt : i < n
    · obtain ⟨pr0, pr7, pp0, hL1000⟩ := HS.out.pr i hlt
      have HGET := Lib.hid (TGet_any hR.si.tb (by omega) i hlt (by have := HS.out.ln; omega) (by omega) (TT i) (bv i) pp0 (HS.out.rr.rowP i hlt))
      have HRP := Lib.hid (HS.out.rr.rowP i hlt)
      obtain ⟨T, hT⟩ : ∃ T, TT i = T := ⟨_, rfl⟩
      obtain ⟨S0, hS0, sb0, sb7⟩ : ∃ z, ws.getD i 0 % 8 = z ∧ 0 ≤ z ∧ z ≤ 7 := ⟨_, rfl, by omega, by omega⟩
      obtain ⟨s0, rfl⟩ := Int.eq_ofNat_of_zero_le sb0
      obtain ⟨LV, hLV⟩ : ∃ z, lv i = z := ⟨_, rfl⟩
      rw [hT, hS0] at HGET
      rw [hT] at HRP
      rw [hT] at pp0 hL1000
      obtain ⟨PR, DU, KE, ru, f, p, d, r, m, L⟩ := T
      simp only at HGET HRP pp0 hL1000
      obtain ⟨RU, hRU⟩ : ∃ z, Tk.RU ⟨PR, DU, KE, ru, f, p, d, r, m, L⟩ = z := ⟨_, rfl⟩
      obtain ⟨MI, hMI⟩ : ∃ z, Tk.MI ⟨PR, DU, KE, ru, f, p, d, r, m, L⟩ = z := ⟨_, rfl⟩
      rw [hRU, hMI] at HGET
      have HT := Lib.hid hT
      have HS0 := Lib.hid hS0
      have HLV := Lib.hid hLV
      have HRU := Lib.hid hRU
      have HMI := Lib.hid hMI
      have HR := Lib.hid hR
      have HL1 := Lib.hid hL1000
      clear hT hS0 hLV hRU hMI hR hL1000 pr0 pr7
      go_wp2_with fail
      refine HGET.out.mono ?_
      rintro e w3 ⟨rfl, hT3, hF3⟩
      have hR3 := HR.out.to HS.out hF3 hT3
      clear hT3 hF3
      go_upto_region 9 with fail
      obtain ⟨x, hx⟩ : ∃ x, w3.heap.size = x := ⟨_, rfl⟩
      obtain ⟨W4, hW4⟩ : ∃ W4, w3.alloc (.cells #[.int .i64 ((i : Int) + 1), .int .i64 PR, .int .i64 (s0 : Int), .int .u64 DU, .int .u64 KE, .int .u64 RU, .int .u64 MI] 98) = W4 := ⟨_, rfl⟩
      have hR4 : SR W W4 t a b g mb ws (B + n + i + 1) q n cap R TT base lq bv lv ac cb i := by rw [← hW4]; exact hR3.al_ HS.out _
      have hx4 : TaskB W4 x ((i : Int) + 1) PR s0 DU KE RU MI := by rw [← hW4]; exact alloc_at hx.symm
      have NX := Lib.hid (show ¬ own2 b g x from fun hh => by have h5 := HLT.out; have h6 : W.heap.size ≤ w3.heap.size := hR3.si.fr.size; rcases hh with hh | hh <;> omega)
      try rw [hx]
      rw [hW4]
      clear hW4 hR3
      have HR4 := Lib.hid hR4
      have HX4 := Lib.hid hx4
      have HJOB := Lib.hid (TJob_any hR4.si.tb i hlt (by omega) f p d r m HRP.out.2.2)
      have hsz4 : W.heap.size ≤ W4.heap.size := hR4.si.fr.size
      clear hR4 hx4 hx
      by_cases hp : p = 0
      · subst hp
        rw [if_pos rfl] at HJOB
        have g1 : (!((0 : Int) == 0)) = false := rfl
        rw [g1] at HJOB
        have hrow : lawRow i (ws.getD i 0 % 8) (TT i) (lv i) = [.int .i64 ((i : Int) + 1), .int .i64 PR, .int .i64 (s0 : Int), .int .u64 DU, .int .u64 KE, .int .u64 RU, .int .u64 MI, LV, .bool false, .int .u64 0, .int .u64 0, .int .u64 0, .int .u64 0, .int .u64 0] := by
          rw [HT.out, HS0.out, HLV.out, ← HRU.out, ← HMI.out]
          rfl
        have HROW := Lib.hid hrow
        clear hrow g1
        go_wp2_with fail
        refine HJOB.out.mono ?_
        rintro e w5 ⟨rfl, hB5⟩
        go_upto_region 10 with fail
        obtain ⟨y, hy⟩ : ∃ y, w5.heap.size = y := ⟨_, rfl⟩
        obtain ⟨W6, hW6⟩ : ∃ W6, w5.alloc (.cells #[.int .u64 0, .int .u64 0, .int .u64 0, .int .u64 0, .int .u64 0] 57) = W6 := ⟨_, rfl⟩
        have hsz5 : W4.heap.size ≤ w5.heap.size := hB5.size
        have hH : SH W W6 t a b g mb ws (B + n + i + 1) q n cap R TT base lq bv lv ac cb i x y PR s0 DU KE RU MI LV false 0 0 0 0 0 := by
          rw [← hW6]
          refine ⟨(HR4.out.below HS.out hB5).al_ HS.out _, ?_, alloc_at hy.symm, ⟨NX.out, fun hh => by have h5 := HLT.out; rcases hh with hh | hh <;> omega⟩, hlt, HROW.out⟩
          exact (Below.block (below_al (Below.refl _ w5) _) x (Nat.lt_of_lt_of_le (Array.getElem?_eq_some_iff.1 HX4.out).1 hsz5)).trans ((hB5.block x (Array.getElem?_eq_some_iff.1 HX4.out).1).trans HX4.out)
        try rw [hy]
        rw [hW6]
        clear hW6 hB5 hsz5 hy
        have hHd := hH.dr
        obtain ⟨c0, c1, c2, c3, c4, c5, c6, c7, c8, c9, c10, c11, c12, c13, c14, c15, c16, c17, c18, c19, c20, c21, c22, c23, c24, c25, c26, c27, c28, c29, c30, c31, c32, _⟩ := sheld hH
        have q1 : IntKind.i64.wrap ((i : Int) + 1) = (i : Int) + 1 := by rw [IntKind.wrap_i64]; omega
        have HHD := Lib.hid hHd
        have HHH := Lib.hid hH
        clear hH
        go_cut [107] (fun v107 wx => v107 = .bool false ∧ SH W wx t a b g mb ws (B + n + i + 1) q n cap R TT base lq bv lv ac cb i x y PR s0 DU KE RU MI LV false 0 0 0 0 0)
        case first =>
          refine wp_region_held_drew (S := (fun X => X.cell? ⟨x, 0, none⟩ = some (.int .i64 ((i : Int) + 1)) ∧ X.cell? ⟨x, 1, none⟩ = some (.int .i64 PR) ∧ X.cell? ⟨x, 2, none⟩ = some (.int .i64 (s0 : Int)) ∧ X.cell? ⟨x, 3, none⟩ = some (.int .u64 DU) ∧ X.cell? ⟨x, 4, none⟩ = some (.int .u64 KE) ∧ X.cell? ⟨x, 5, none⟩ = some (.int .u64 RU) ∧ X.cell? ⟨x, 6, none⟩ = some (.int .u64 MI) ∧ X.cell? ⟨lq, i * 14, none⟩ = some (.int .i64 ((i : Int) + 1)) ∧ X.cell? ⟨lq, i * 14 + 1, none⟩ = some (.int .i64 PR) ∧ X.cell? ⟨lq, i * 14 + 2, none⟩ = some (.int .i64 (s0 : Int)) ∧ X.cell? ⟨lq, i * 14 + 3, none⟩ = some (.int .u64 DU) ∧ X.cell? ⟨lq, i * 14 + 4, none⟩ = some (.int .u64 KE) ∧ X.cell? ⟨lq, i * 14 + 5, none⟩ = some (.int .u64 RU) ∧ X.cell? ⟨lq, i * 14 + 6, none⟩ = some (.int .u64 MI) ∧ X.cell? ⟨lq, i * 14 + 7, none⟩ = some (LV) ∧ X.cell? ⟨lq, i * 14 + 8, none⟩ = some (.bool false) ∧ X.cell? ⟨lq, i * 14 + 9, none⟩ = some (.int .u64 0) ∧ X.cell? ⟨lq, i * 14 + 10, none⟩ = some (.int .u64 0) ∧ X.cell? ⟨lq, i * 14 + 11, none⟩ = some (.int .u64 0) ∧ X.cell? ⟨lq, i * 14 + 12, none⟩ = some (.int .u64 0) ∧ X.cell? ⟨lq, i * 14 + 13, none⟩ = some (.int .u64 0) ∧ X.cell? ⟨ac, i * 7, none⟩ = some (.int .i64 ((i : Int) + 1)) ∧ X.cell? ⟨ac, i * 7 + 1, none⟩ = some (.int .i64 PR) ∧ X.cell? ⟨ac, i * 7 + 2, none⟩ = some (.int .i64 (s0 : Int)) ∧ X.cell? ⟨ac, i * 7 + 3, none⟩ = some (.int .u64 DU) ∧ X.cell? ⟨ac, i * 7 + 4, none⟩ = some (.int .u64 KE) ∧ X.cell? ⟨ac, i * 7 + 5, none⟩ = some (.int .u64 RU) ∧ X.cell? ⟨ac, i * 7 + 6, none⟩ = some (.int .u64 MI) ∧ X.cell? ⟨y, 0, none⟩ = some (.int .u64 0) ∧ X.cell? ⟨y, 1, none⟩ = some (.int .u64 0) ∧ X.cell? ⟨y, 2, none⟩ = some (.int .u64 0) ∧ X.cell? ⟨y, 3, none⟩ = some (.int .u64 0) ∧ X.cell? ⟨y, 4, none⟩ = some (.int .u64 0) ∧ SH W X t a b g mb ws (B + n + i + 1) q n cap R TT base lq bv lv ac cb i x y PR s0 DU KE RU MI LV false 0 0 0 0 0)) (by kernel_rfl) ?_ (fun hHeld => ?_)
          · (try dsimp only); (first | exact sheld (by assumption))
          refine wpAnyH_take (i := 0) (oi := { dst := some 51, op := Op.move (Operand.tmp 11), type := 4, pos := "law.go:142", after := #[], guard := none }) (v := ?_) rfl (by kernel_rfl) (by kernel_rfl) (by kernel_rfl) (fun _ _ _ h => h) (Or.inl ⟨by rfl, ?_⟩) (by assumption) ?_
          rotate_left
          · (intro w hSw; (try dsimp only at hSw); go_simp; try with_reducible rfl)
          (try simp only [Act.put, List.setIfInBounds_toArray, List.set_cons_zero, List.set_cons_succ])
          refine wpAnyH_take (i := 1) (oi := { dst := some 52, op := Op.unOp UnOp.not 4 (Operand.tmp 51), type := 4, pos := "law.go:142", after := #[{ on := 0, ground := Ground.data }], guard := none }) (v := ?_) rfl (by kernel_rfl) (by kernel_rfl) (by kernel_rfl) (fun _ _ _ h => h) (Or.inl ⟨by rfl, ?_⟩) (by assumption) ?_
          rotate_left
          · (intro w hSw; (try dsimp only at hSw); go_simp; try with_reducible rfl)
          (try simp only [Act.put, List.setIfInBounds_toArray, List.set_cons_zero, List.set_cons_succ])
          refine wpAnyH_take (i := 2) (oi := { dst := some 53, op := Op.move (Operand.tmp 52), type := 4, pos := "law.go:142", after := #[{ on := 1, ground := Ground.data }], guard := none }) (v := ?_) rfl (by kernel_rfl) (by kernel_rfl) (by kernel_rfl) (fun _ _ _ h => h) (Or.inl ⟨by rfl, ?_⟩) (by assumption) ?_
          rotate_left
          · (intro w hSw; (try dsimp only at hSw); go_simp; try with_reducible rfl)
          (try simp only [Act.put, List.setIfInBounds_toArray, List.set_cons_zero, List.set_cons_succ])
          refine wpAnyH_take (i := 3) (oi := { dst := some 54, op := Op.load 98 (Operand.tmp 10), type := 98, pos := "law.go:142", after := #[{ on := 2, ground := Ground.guard }], guard := some (2, false) }) (v := ?_) rfl (by kernel_rfl) (by kernel_rfl) (by kernel_rfl) (fun _ _ _ h => h) (Or.inl ⟨by rfl, ?_⟩) (by assumption) ?_
          rotate_left
          · (intro w hSw; (try dsimp only at hSw); go_simp; try with_reducible rfl)
          (try simp only [Act.put, List.setIfInBounds_toArray, List.set_cons_zero, List.set_cons_succ])
          refine wpAnyH_take (i := 4) (oi := { dst := some 55, op := Op.move (Operand.tmp 1), type := 104, pos := "law.go:142", after := #[{ on := 2, ground := Ground.guard }], guard := some (2, false) }) (v := ?_) rfl (by kernel_rfl) (by kernel_rfl) (by kernel_rfl) (fun _ _ _ h => h) (Or.inl ⟨by rfl, ?_⟩) (by assumption) ?_
          rotate_left
          · (intro w hSw; (try dsimp only at hSw); go_simp; try with_reducible rfl)
          (try simp only [Act.put, List.setIfInBounds_toArray, List.set_cons_zero, List.set_cons_succ])
          refine wpAnyH_take (i := 5) (oi := { dst := some 56, op := Op.move (Operand.tmp 9), type := 3, pos := "law.go:142", after := #[{ on := 2, ground := Ground.guard }], guard := some (2, false) }) (v := ?_) rfl (by kernel_rfl) (by kernel_rfl) (by kernel_rfl) (fun _ _ _ h => h) (Or.inl ⟨by rfl, ?_⟩) (by assumption) ?_
          rotate_left
          · (intro w hSw; (try dsimp only at hSw); go_simp; try with_reducible rfl)
          (try simp only [Act.put, List.setIfInBounds_toArray, List.set_cons_zero, List.set_cons_succ])
          refine wpAnyH_take (i := 6) (oi := { dst := some 57, op := Op.indexAddr 104 (Operand.tmp 55) (Operand.tmp 56), type := 0, pos := "law.go:142", after := #[{ on := 4, ground := Ground.data }, { on := 5, ground := Ground.data }, { on := 2, ground := Ground.guard }], guard := some (2, false) }) (v := ?_) rfl (by kernel_rfl) (by kernel_rfl) (by kernel_rfl) (fun _ _ _ h => h) (Or.inl ⟨by rfl, ?_⟩) (by assumption) ?_
          rotate_left
          · (intro w hSw; (try dsimp only at hSw); go_simp; try with_reducible rfl)
          (try simp only [Act.put, List.setIfInBounds_toArray, List.set_cons_zero, List.set_cons_succ])
          refine wpAnyH_take (i := 7) (oi := { dst := some 58, op := Op.fieldAddr 110 (Operand.tmp 57) 0, type := 0, pos := "law.go:142", after := #[{ on := 6, ground := Ground.data }, { on := 2, ground := Ground.guard }], guard := some (2, false) }) (v := ?_) rfl (by kernel_rfl) (by kernel_rfl) (by kernel_rfl) (fun _ _ _ h => h) (Or.inl ⟨by rfl, ?_⟩) (by assumption) ?_
          rotate_left
          · (intro w hSw; (try dsimp only at hSw); go_simp; try with_reducible rfl)
          (try simp only [Act.put, List.setIfInBounds_toArray, List.set_cons_zero, List.set_cons_succ])
          refine wpAnyH_take (i := 8) (oi := { dst := some 59, op := Op.load 98 (Operand.tmp 58), type := 98, pos := "law.go:142", after := #[{ on := 7, ground := Ground.data }, { on := 2, ground := Ground.guard }], guard := some (2, false) }) (v := ?_) rfl (by kernel_rfl) (by kernel_rfl) (by kernel_rfl) (fun _ _ _ h => h) (Or.inl ⟨by rfl, ?_⟩) (by assumption) ?_
          rotate_left
          · (intro w hSw; (try dsimp only at hSw); go_simp; try with_reducible rfl)
          (try simp only [Act.put, List.setIfInBounds_toArray, List.set_cons_zero, List.set_cons_succ])
          refine wpAnyH_take (i := 9) (oi := { dst := some 60, op := Op.binOp BinOp.neq 98 (Operand.tmp 54) (Operand.tmp 59) 98, type := 4, pos := "law.go:142", after := #[{ on := 3, ground := Ground.data }, { on := 8, ground := Ground.data }, { on := 2, ground := Ground.guard }], guard := some (2, false) }) (v := ?_) rfl (by kernel_rfl) (by kernel_rfl) (by kernel_rfl) (fun _ _ _ h => h) (Or.inl ⟨by rfl, ?_⟩) (by assumption) ?_
          rotate_left
          · (intro w hSw; (try dsimp only at hSw); go_simp; try with_reducible rfl)
          (try simp only [Act.put, List.setIfInBounds_toArray, List.set_cons_zero, List.set_cons_succ])
          refine wpAnyH_take (i := 10) (oi := { dst := some 61, op := Op.pick (Operand.tmp 53) (Operand.const (Value.bool true)) (Operand.tmp 60), type := 4, pos := "law.go:142", after := #[{ on := 2, ground := Ground.data }, { on := 9, ground := Ground.data }], guard := none }) (v := ?_) rfl (by kernel_rfl) (by kernel_rfl) (by kernel_rfl) (fun _ _ _ h => h) (Or.inl ⟨by rfl, ?_⟩) (by assumption) ?_
          rotate_left
          · (intro w hSw; (try dsimp only at hSw); go_simp; try with_reducible rfl)
          (try simp only [Act.put, List.setIfInBounds_toArray, List.set_cons_zero, List.set_cons_succ])
          refine wpAnyH_take (i := 11) (oi := { dst := some 62, op := Op.move (Operand.tmp 61), type := 4, pos := "law.go:142", after := #[{ on := 10, ground := Ground.data }, { on := 2, ground := Ground.chain }], guard := none }) (v := ?_) rfl (by kernel_rfl) (by kernel_rfl) (by kernel_rfl) (fun _ _ _ h => h) (Or.inl ⟨by rfl, ?_⟩) (by assumption) ?_
          rotate_left
          · (intro w hSw; (try dsimp only at hSw); go_simp; try with_reducible rfl)
          (try simp only [Act.put, List.setIfInBounds_toArray, List.set_cons_zero, List.set_cons_succ])
          refine wpAnyH_take (i := 12) (oi := { dst := some 63, op := Op.move (Operand.tmp 7), type := 142, pos := "law.go:142", after := #[{ on := 11, ground := Ground.guard }], guard := some (11, false) }) (v := ?_) rfl (by kernel_rfl) (by kernel_rfl) (by kernel_rfl) (fun _ _ _ h => h) (Or.inl ⟨by rfl, ?_⟩) (by assumption) ?_
          rotate_left
          · (intro w hSw; (try dsimp only at hSw); go_simp; try with_reducible rfl)
          (try simp only [Act.put, List.setIfInBounds_toArray, List.set_cons_zero, List.set_cons_succ])
          refine wpAnyH_take (i := 13) (oi := { dst := some 64, op := Op.move (Operand.tmp 9), type := 3, pos := "law.go:142", after := #[{ on := 11, ground := Ground.guard }], guard := some (11, false) }) (v := ?_) rfl (by kernel_rfl) (by kernel_rfl) (by kernel_rfl) (fun _ _ _ h => h) (Or.inl ⟨by rfl, ?_⟩) (by assumption) ?_
          rotate_left
          · (intro w hSw; (try dsimp only at hSw); go_simp; try with_reducible rfl)
          (try simp only [Act.put, List.setIfInBounds_toArray, List.set_cons_zero, List.set_cons_succ])
          refine wpAnyH_take (i := 14) (oi := { dst := some 65, op := Op.indexAddr 142 (Operand.tmp 63) (Operand.tmp 64), type := 0, pos := "law.go:142", after := #[{ on := 12, ground := Ground.data }, { on := 13, ground := Ground.data }, { on := 11, ground := Ground.guard }], guard := some (11, false) }) (v := ?_) rfl (by kernel_rfl) (by kernel_rfl) (by kernel_rfl) (fun _ _ _ h => h) (Or.inl ⟨by rfl, ?_⟩) (by assumption) ?_
          rotate_left
          · (intro w hSw; (try dsimp only at hSw); go_simp; try with_reducible rfl)
          (try simp only [Act.put, List.setIfInBounds_toArray, List.set_cons_zero, List.set_cons_succ])
          refine wpAnyH_take (i := 15) (oi := { dst := some 66, op := Op.load 98 (Operand.tmp 65), type := 98, pos := "law.go:142", after := #[{ on := 14, ground := Ground.data }, { on := 11, ground := Ground.guard }], guard := some (11, false) }) (v := ?_) rfl (by kernel_rfl) (by kernel_rfl) (by kernel_rfl) (fun _ _ _ h => h) (Or.inl ⟨by rfl, ?_⟩) (by assumption) ?_
          rotate_left
          · (intro w hSw; (try dsimp only at hSw); go_simp; try with_reducible rfl)
          (try simp only [Act.put, List.setIfInBounds_toArray, List.set_cons_zero, List.set_cons_succ])
          refine wpAnyH_take (i := 16) (oi := { dst := some 67, op := Op.move (Operand.tmp 1), type := 104, pos := "law.go:142", after := #[{ on := 11, ground := Ground.guard }], guard := some (11, false) }) (v := ?_) rfl (by kernel_rfl) (by kernel_rfl) (by kernel_rfl) (fun _ _ _ h => h) (Or.inl ⟨by rfl, ?_⟩) (by assumption) ?_
          rotate_left
          · (intro w hSw; (try dsimp only at hSw); go_simp; try with_reducible rfl)
          (try simp only [Act.put, List.setIfInBounds_toArray, List.set_cons_zero, List.set_cons_succ])
          refine wpAnyH_take (i := 17) (oi := { dst := some 68, op := Op.move (Operand.tmp 9), type := 3, pos := "law.go:142", after := #[{ on := 11, ground := Ground.guard }], guard := some (11, false) }) (v := ?_) rfl (by kernel_rfl) (by kernel_rfl) (by kernel_rfl) (fun _ _ _ h => h) (Or.inl ⟨by rfl, ?_⟩) (by assumption) ?_
          rotate_left
          · (intro w hSw; (try dsimp only at hSw); go_simp; try with_reducible rfl)
          (try simp only [Act.put, List.setIfInBounds_toArray, List.set_cons_zero, List.set_cons_succ])
          refine wpAnyH_take (i := 18) (oi := { dst := some 69, op := Op.indexAddr 104 (Operand.tmp 67) (Operand.tmp 68), type := 0, pos := "law.go:142", after := #[{ on := 16, ground := Ground.data }, { on := 17, ground := Ground.data }, { on := 11, ground := Ground.guard }], guard := some (11, false) }) (v := ?_) rfl (by kernel_rfl) (by kernel_rfl) (by kernel_rfl) (fun _ _ _ h => h) (Or.inl ⟨by rfl, ?_⟩) (by assumption) ?_
          rotate_left
          · (intro w hSw; (try dsimp only at hSw); go_simp; try with_reducible rfl)
          (try simp only [Act.put, List.setIfInBounds_toArray, List.set_cons_zero, List.set_cons_succ])
          refine wpAnyH_take (i := 19) (oi := { dst := some 70, op := Op.fieldAddr 110 (Operand.tmp 69) 0, type := 0, pos := "law.go:142", after := #[{ on := 18, ground := Ground.data }, { on := 11, ground := Ground.guard }], guard := some (11, false) }) (v := ?_) rfl (by kernel_rfl) (by kernel_rfl) (by kernel_rfl) (fun _ _ _ h => h) (Or.inl ⟨by rfl, ?_⟩) (by assumption) ?_
          rotate_left
          · (intro w hSw; (try dsimp only at hSw); go_simp; try with_reducible rfl)
          (try simp only [Act.put, List.setIfInBounds_toArray, List.set_cons_zero, List.set_cons_succ])
          refine wpAnyH_take (i := 20) (oi := { dst := some 71, op := Op.load 98 (Operand.tmp 70), type := 98, pos := "law.go:142", after := #[{ on := 19, ground := Ground.data }, { on := 11, ground := Ground.guard }], guard := some (11, false) }) (v := ?_) rfl (by kernel_rfl) (by kernel_rfl) (by kernel_rfl) (fun _ _ _ h => h) (Or.inl ⟨by rfl, ?_⟩) (by assumption) ?_
          rotate_left
          · (intro w hSw; (try dsimp only at hSw); go_simp; try with_reducible rfl)
          (try simp only [Act.put, List.setIfInBounds_toArray, List.set_cons_zero, List.set_cons_succ])
          refine wpAnyH_take (i := 21) (oi := { dst := some 72, op := Op.binOp BinOp.neq 98 (Operand.tmp 66) (Operand.tmp 71) 98, type := 4, pos := "law.go:142", after := #[{ on := 15, ground := Ground.data }, { on := 20, ground := Ground.data }, { on := 11, ground := Ground.guard }], guard := some (11, false) }) (v := ?_) rfl (by kernel_rfl) (by kernel_rfl) (by kernel_rfl) (fun _ _ _ h => h) (Or.inl ⟨by rfl, ?_⟩) (by assumption) ?_
          rotate_left
          · (intro w hSw; (try dsimp only at hSw); go_simp; try with_reducible rfl)
          (try simp only [Act.put, List.setIfInBounds_toArray, List.set_cons_zero, List.set_cons_succ])
          refine wpAnyH_take (i := 22) (oi := { dst := some 73, op := Op.pick (Operand.tmp 62) (Operand.const (Value.bool true)) (Operand.tmp 72), type := 4, pos := "law.go:142", after := #[{ on := 11, ground := Ground.data }, { on := 21, ground := Ground.data }], guard := none }) (v := ?_) rfl (by kernel_rfl) (by kernel_rfl) (by kernel_rfl) (fun _ _ _ h => h) (Or.inl ⟨by rfl, ?_⟩) (by assumption) ?_
          rotate_left
          · (intro w hSw; (try dsimp only at hSw); go_simp; try with_reducible rfl)
          (try simp only [Act.put, List.setIfInBounds_toArray, List.set_cons_zero, List.set_cons_succ])
          refine wpAnyH_take (i := 23) (oi := { dst := some 74, op := Op.move (Operand.tmp 73), type := 4, pos := "law.go:142", after := #[{ on := 22, ground := Ground.data }, { on := 11, ground := Ground.chain }], guard := none }) (v := ?_) rfl (by kernel_rfl) (by kernel_rfl) (by kernel_rfl) (fun _ _ _ h => h) (Or.inl ⟨by rfl, ?_⟩) (by assumption) ?_
          rotate_left
          · (intro w hSw; (try dsimp only at hSw); go_simp; try with_reducible rfl)
          (try simp only [Act.put, List.setIfInBounds_toArray, List.set_cons_zero, List.set_cons_succ])
          refine wpAnyH_take (i := 24) (oi := { dst := some 75, op := Op.move (Operand.tmp 0), type := 89, pos := "law.go:142", after := #[{ on := 23, ground := Ground.guard }], guard := some (23, false) }) (v := ?_) rfl (by kernel_rfl) (by kernel_rfl) (by kernel_rfl) (fun _ _ _ h => h) (Or.inl ⟨by rfl, ?_⟩) (by assumption) ?_
          rotate_left
          · (intro w hSw; (try dsimp only at hSw); go_simp; try with_reducible rfl)
          (try simp only [Act.put, List.setIfInBounds_toArray, List.set_cons_zero, List.set_cons_succ])
          refine wpAnyH_take (i := 25) (oi := { dst := some 76, op := Op.move (Operand.tmp 9), type := 3, pos := "law.go:142", after := #[{ on := 23, ground := Ground.guard }], guard := some (23, false) }) (v := ?_) rfl (by kernel_rfl) (by kernel_rfl) (by kernel_rfl) (fun _ _ _ h => h) (Or.inl ⟨by rfl, ?_⟩) (by assumption) ?_
          rotate_left
          · (intro w hSw; (try dsimp only at hSw); go_simp; try with_reducible rfl)
          (try simp only [Act.put, List.setIfInBounds_toArray, List.set_cons_zero, List.set_cons_succ])
          refine wpAnyH_take (i := 26) (oi := { dst := some 77, op := Op.binOp BinOp.add 3 (Operand.tmp 76) (Operand.const (Value.int IntKind.i64 1)) 3, type := 3, pos := "law.go:142", after := #[{ on := 25, ground := Ground.data }, { on := 23, ground := Ground.guard }], guard := some (23, false) }) (v := ?_) rfl (by kernel_rfl) (by kernel_rfl) (by kernel_rfl) (fun _ _ _ h => h) (Or.inl ⟨by rfl, ?_⟩) (by assumption) ?_
          rotate_left
          · (intro w hSw; (try dsimp only at hSw); go_simp; try with_reducible rfl)
          (try simp only [Act.put, List.setIfInBounds_toArray, List.set_cons_zero, List.set_cons_succ])
          refine wpAnyH_take (i := 28) (oi := { dst := some 79, op := Op.move (Operand.tmp 1), type := 104, pos := "law.go:142", after := #[{ on := 23, ground := Ground.guard }], guard := some (23, false) }) (v := ?_) rfl (by kernel_rfl) (by kernel_rfl) (by kernel_rfl) (fun _ _ _ h => h) (Or.inl ⟨by rfl, ?_⟩) (by assumption) ?_
          rotate_left
          · (intro w hSw; (try dsimp only at hSw); go_simp; try with_reducible rfl)
          (try simp only [Act.put, List.setIfInBounds_toArray, List.set_cons_zero, List.set_cons_succ])
          refine wpAnyH_take (i := 29) (oi := { dst := some 80, op := Op.move (Operand.tmp 9), type := 3, pos := "law.go:142", after := #[{ on := 23, ground := Ground.guard }], guard := some (23, false) }) (v := ?_) rfl (by kernel_rfl) (by kernel_rfl) (by kernel_rfl) (fun _ _ _ h => h) (Or.inl ⟨by rfl, ?_⟩) (by assumption) ?_
          rotate_left
          · (intro w hSw; (try dsimp only at hSw); go_simp; try with_reducible rfl)
          (try simp only [Act.put, List.setIfInBounds_toArray, List.set_cons_zero, List.set_cons_succ])
          refine wpAnyH_take (i := 30) (oi := { dst := some 81, op := Op.indexAddr 104 (Operand.tmp 79) (Operand.tmp 80), type := 0, pos := "law.go:142", after := #[{ on := 28, ground := Ground.data }, { on := 29, ground := Ground.data }, { on := 23, ground := Ground.guard }], guard := some (23, false) }) (v := ?_) rfl (by kernel_rfl) (by kernel_rfl) (by kernel_rfl) (fun _ _ _ h => h) (Or.inl ⟨by rfl, ?_⟩) (by assumption) ?_
          rotate_left
          · (intro w hSw; (try dsimp only at hSw); go_simp; try with_reducible rfl)
          (try simp only [Act.put, List.setIfInBounds_toArray, List.set_cons_zero, List.set_cons_succ])
          refine wpAnyH_take (i := 31) (oi := { dst := some 82, op := Op.fieldAddr 110 (Operand.tmp 81) 1, type := 0, pos := "law.go:142", after := #[{ on := 30, ground := Ground.data }, { on := 23, ground := Ground.guard }], guard := some (23, false) }) (v := ?_) rfl (by kernel_rfl) (by kernel_rfl) (by kernel_rfl) (fun _ _ _ h => h) (Or.inl ⟨by rfl, ?_⟩) (by assumption) ?_
          rotate_left
          · (intro w hSw; (try dsimp only at hSw); go_simp; try with_reducible rfl)
          (try simp only [Act.put, List.setIfInBounds_toArray, List.set_cons_zero, List.set_cons_succ])
          refine wpAnyH_take (i := 32) (oi := { dst := some 83, op := Op.load 105 (Operand.tmp 82), type := 105, pos := "law.go:142", after := #[{ on := 31, ground := Ground.data }, { on := 23, ground := Ground.guard }], guard := some (23, false) }) (v := ?_) rfl (by kernel_rfl) (by kernel_rfl) (by kernel_rfl) (fun _ _ _ h => h) (Or.inl ⟨by rfl, ?_⟩) (by assumption) ?_
          rotate_left
          · (intro w hSw; (try dsimp only at hSw); go_simp; try with_reducible rfl)
          (try simp only [Act.put, List.setIfInBounds_toArray, List.set_cons_zero, List.set_cons_succ])
          refine wpAnyH_ready (rs := [27]) (by kernel_rfl) (by simp) ?_
          refine AllReadyH.cons (o := { dst := some 78, op := Op.call { callee := Callee.value (Operand.func 100), args := #[Operand.tmp 75, Operand.tmp 77], argTypes := #[89, 3] }, type := 105, pos := "law.go:142", after := #[{ on := 24, ground := Ground.data }, { on := 26, ground := Ground.data }, { on := 23, ground := Ground.chain }, { on := 23, ground := Ground.guard }], guard := some (23, false) }) rfl (fun K hK => ?_) ?_
          rotate_left
          · exact AllReadyH.nil
          go_simp
          (go_at_call 100; refine (TBody_in hHd.sr.si.tb _ i rfl hlt (by omega) (bv i) L (HRP.out.2.1) HL1.out (by have := hHd.sr.si.bb i hlt; rw [HT.out] at this; exact this)).mono ?_; rintro e wA ⟨vA, rfl, hOA, hBA⟩; have hHA := SH.below (by assumption) HS.out hBA)
          refine hK.out _ _ ?_ (fun hHeld => ?_)
          · (try dsimp only); (first | exact sheld (by assumption))
          clear hK K
          (try simp only [Act.put, List.setIfInBounds_toArray, List.set_cons_zero, List.set_cons_succ])
          refine wpAnyH_ready (rs := [33]) (by kernel_rfl) (by simp) ?_
          refine AllReadyH.cons (o := { dst := some 84, op := Op.call { callee := Callee.value (Operand.func 99), args := #[Operand.tmp 78, Operand.tmp 83], argTypes := #[105, 105] }, type := 4, pos := "law.go:142", after := #[{ on := 27, ground := Ground.data }, { on := 32, ground := Ground.data }, { on := 27, ground := Ground.chain }, { on := 23, ground := Ground.guard }], guard := some (23, false) }) rfl (fun K hK => ?_) ?_
          rotate_left
          · exact AllReadyH.nil
          go_simp
          (go_at_call 99; refine (SameBody_any HL1.out hOA (by have := (SH.sr hHA).si.lb i hlt; rw [HT.out, HLV.out] at this; exact this)).mono ?_; rintro e wB ⟨rfl, hBB⟩; have hHB := SH.below hHA HS.out hBB)
          refine hK.out _ _ ?_ (fun hHeld => ?_)
          · (try dsimp only); (first | exact sheld (by assumption))
          clear hK K
          (try simp only [Act.put, List.setIfInBounds_toArray, List.set_cons_zero, List.set_cons_succ])
          refine wpAnyH_take (i := 34) (oi := { dst := some 85, op := Op.unOp UnOp.not 4 (Operand.tmp 84), type := 4, pos := "law.go:142", after := #[{ on := 33, ground := Ground.data }, { on := 23, ground := Ground.guard }], guard := some (23, false) }) (v := ?_) rfl (by kernel_rfl) (by kernel_rfl) (by kernel_rfl) (fun _ _ _ h => h) (Or.inl ⟨by rfl, ?_⟩) (by assumption) ?_
          rotate_left
          · (intro w hSw; (try dsimp only at hSw); go_simp; try with_reducible rfl)
          (try simp only [Act.put, List.setIfInBounds_toArray, List.set_cons_zero, List.set_cons_succ])
          refine wpAnyH_take (i := 35) (oi := { dst := some 86, op := Op.pick (Operand.tmp 74) (Operand.const (Value.bool true)) (Operand.tmp 85), type := 4, pos := "law.go:142", after := #[{ on := 23, ground := Ground.data }, { on := 34, ground := Ground.data }], guard := none }) (v := ?_) rfl (by kernel_rfl) (by kernel_rfl) (by kernel_rfl) (fun _ _ _ h => h) (Or.inl ⟨by rfl, ?_⟩) (by assumption) ?_
          rotate_left
          · (intro w hSw; (try dsimp only at hSw); go_simp; try with_reducible rfl)
          (try simp only [Act.put, List.setIfInBounds_toArray, List.set_cons_zero, List.set_cons_succ])
          refine wpAnyH_take (i := 36) (oi := { dst := some 87, op := Op.move (Operand.tmp 86), type := 4, pos := "law.go:142", after := #[{ on := 35, ground := Ground.data }, { on := 33, ground := Ground.chain }], guard := none }) (v := ?_) rfl (by kernel_rfl) (by kernel_rfl) (by kernel_rfl) (fun _ _ _ h => h) (Or.inl ⟨by rfl, ?_⟩) (by assumption) ?_
          rotate_left
          · (intro w hSw; (try dsimp only at hSw); go_simp; try with_reducible rfl)
          (try simp only [Act.put, List.setIfInBounds_toArray, List.set_cons_zero, List.set_cons_succ])
          refine wpAnyH_take (i := 37) (oi := { dst := some 88, op := Op.move (Operand.tmp 13), type := 4, pos := "law.go:142", after := #[{ on := 36, ground := Ground.guard }], guard := some (36, false) }) (v := ?_) rfl (by kernel_rfl) (by kernel_rfl) (by kernel_rfl) (fun _ _ _ h => h) (Or.inl ⟨by rfl, ?_⟩) (by assumption) ?_
          rotate_left
          · (intro w hSw; (try dsimp only at hSw); go_simp; try with_reducible rfl)
          (try simp only [Act.put, List.setIfInBounds_toArray, List.set_cons_zero, List.set_cons_succ])
          refine wpAnyH_take (i := 38) (oi := { dst := some 89, op := Op.move (Operand.tmp 1), type := 104, pos := "law.go:142", after := #[{ on := 36, ground := Ground.guard }], guard := some (36, false) }) (v := ?_) rfl (by kernel_rfl) (by kernel_rfl) (by kernel_rfl) (fun _ _ _ h => h) (Or.inl ⟨by rfl, ?_⟩) (by assumption) ?_
          rotate_left
          · (intro w hSw; (try dsimp only at hSw); go_simp; try with_reducible rfl)
          (try simp only [Act.put, List.setIfInBounds_toArray, List.set_cons_zero, List.set_cons_succ])
          refine wpAnyH_take (i := 39) (oi := { dst := some 90, op := Op.move (Operand.tmp 9), type := 3, pos := "law.go:142", after := #[{ on := 36, ground := Ground.guard }], guard := some (36, false) }) (v := ?_) rfl (by kernel_rfl) (by kernel_rfl) (by kernel_rfl) (fun _ _ _ h => h) (Or.inl ⟨by rfl, ?_⟩) (by assumption) ?_
          rotate_left
          · (intro w hSw; (try dsimp only at hSw); go_simp; try with_reducible rfl)
          (try simp only [Act.put, List.setIfInBounds_toArray, List.set_cons_zero, List.set_cons_succ])
          refine wpAnyH_take (i := 40) (oi := { dst := some 91, op := Op.indexAddr 104 (Operand.tmp 89) (Operand.tmp 90), type := 0, pos := "law.go:142", after := #[{ on := 38, ground := Ground.data }, { on := 39, ground := Ground.data }, { on := 36, ground := Ground.guard }], guard := some (36, false) }) (v := ?_) rfl (by kernel_rfl) (by kernel_rfl) (by kernel_rfl) (fun _ _ _ h => h) (Or.inl ⟨by rfl, ?_⟩) (by assumption) ?_
          rotate_left
          · (intro w hSw; (try dsimp only at hSw); go_simp; try with_reducible rfl)
          (try simp only [Act.put, List.setIfInBounds_toArray, List.set_cons_zero, List.set_cons_succ])
          refine wpAnyH_take (i := 41) (oi := { dst := some 92, op := Op.fieldAddr 110 (Operand.tmp 91) 2, type := 0, pos := "law.go:142", after := #[{ on := 40, ground := Ground.data }, { on := 36, ground := Ground.guard }], guard := some (36, false) }) (v := ?_) rfl (by kernel_rfl) (by kernel_rfl) (by kernel_rfl) (fun _ _ _ h => h) (Or.inl ⟨by rfl, ?_⟩) (by assumption) ?_
          rotate_left
          · (intro w hSw; (try dsimp only at hSw); go_simp; try with_reducible rfl)
          (try simp only [Act.put, List.setIfInBounds_toArray, List.set_cons_zero, List.set_cons_succ])
          refine wpAnyH_take (i := 42) (oi := { dst := some 93, op := Op.load 4 (Operand.tmp 92), type := 4, pos := "law.go:142", after := #[{ on := 41, ground := Ground.data }, { on := 36, ground := Ground.guard }], guard := some (36, false) }) (v := ?_) rfl (by kernel_rfl) (by kernel_rfl) (by kernel_rfl) (fun _ _ _ h => h) (Or.inl ⟨by rfl, ?_⟩) (by assumption) ?_
          rotate_left
          · (intro w hSw; (try dsimp only at hSw); go_simp; try with_reducible rfl)
          (try simp only [Act.put, List.setIfInBounds_toArray, List.set_cons_zero, List.set_cons_succ])
          refine wpAnyH_take (i := 43) (oi := { dst := some 94, op := Op.binOp BinOp.neq 4 (Operand.tmp 88) (Operand.tmp 93) 4, type := 4, pos := "law.go:142", after := #[{ on := 37, ground := Ground.data }, { on := 42, ground := Ground.data }, { on := 36, ground := Ground.guard }], guard := some (36, false) }) (v := ?_) rfl (by kernel_rfl) (by kernel_rfl) (by kernel_rfl) (fun _ _ _ h => h) (Or.inl ⟨by rfl, ?_⟩) (by assumption) ?_
          rotate_left
          · (intro w hSw; (try dsimp only at hSw); go_simp; try with_reducible rfl)
          (try simp only [Act.put, List.setIfInBounds_toArray, List.set_cons_zero, List.set_cons_succ])
          refine wpAnyH_take (i := 44) (oi := { dst := some 95, op := Op.pick (Operand.tmp 87) (Operand.const (Value.bool true)) (Operand.tmp 94), type := 4, pos := "law.go:142", after := #[{ on := 36, ground := Ground.data }, { on := 43, ground := Ground.data }], guard := none }) (v := ?_) rfl (by kernel_rfl) (by kernel_rfl) (by kernel_rfl) (fun _ _ _ h => h) (Or.inl ⟨by rfl, ?_⟩) (by assumption) ?_
          rotate_left
          · (intro w hSw; (try dsimp only at hSw); go_simp; try with_reducible rfl)
          (try simp only [Act.put, List.setIfInBounds_toArray, List.set_cons_zero, List.set_cons_succ])
          refine wpAnyH_take (i := 45) (oi := { dst := some 96, op := Op.move (Operand.tmp 95), type := 4, pos := "law.go:142", after := #[{ on := 44, ground := Ground.data }, { on := 36, ground := Ground.chain }], guard := none }) (v := ?_) rfl (by kernel_rfl) (by kernel_rfl) (by kernel_rfl) (fun _ _ _ h => h) (Or.inl ⟨by rfl, ?_⟩) (by assumption) ?_
          rotate_left
          · (intro w hSw; (try dsimp only at hSw); go_simp; try with_reducible rfl)
          (try simp only [Act.put, List.setIfInBounds_toArray, List.set_cons_zero, List.set_cons_succ])
          refine wpAnyH_take (i := 46) (oi := { dst := some 97, op := Op.move (Operand.tmp 13), type := 4, pos := "law.go:142", after := #[{ on := 45, ground := Ground.guard }], guard := some (45, false) }) (v := ?_) rfl (by kernel_rfl) (by kernel_rfl) (by kernel_rfl) (fun _ _ _ h => h) (Or.inl ⟨by rfl, ?_⟩) (by assumption) ?_
          rotate_left
          · (intro w hSw; (try dsimp only at hSw); go_simp; try with_reducible rfl)
          (try simp only [Act.put, List.setIfInBounds_toArray, List.set_cons_zero, List.set_cons_succ])
          refine wpAnyH_take (i := 47) (oi := { dst := some 98, op := Op.move (Operand.tmp 97), type := 4, pos := "law.go:142", after := #[{ on := 46, ground := Ground.data }, { on := 45, ground := Ground.chain }, { on := 45, ground := Ground.guard }], guard := some (45, false) }) (v := ?_) rfl (by kernel_rfl) (by kernel_rfl) (by kernel_rfl) (fun _ _ _ h => h) (Or.inl ⟨by rfl, ?_⟩) (by assumption) ?_
          rotate_left
          · (intro w hSw; (try dsimp only at hSw); go_simp; try with_reducible rfl)
          (try simp only [Act.put, List.setIfInBounds_toArray, List.set_cons_zero, List.set_cons_succ])
          refine wpAnyH_take (i := 48) (oi := { dst := some 99, op := Op.load 57 (Operand.tmp 12), type := 57, pos := "law.go:142", after := #[{ on := 47, ground := Ground.guard }], guard := some (47, true) }) (v := undef) rfl (by kernel_rfl) (by kernel_rfl) (by kernel_rfl) (fun _ _ _ h => h) (Or.inr ⟨by rfl, rfl⟩) (by assumption) ?_
          (try simp only [Act.put, List.setIfInBounds_toArray, List.set_cons_zero, List.set_cons_succ])
          refine wpAnyH_take (i := 49) (oi := { dst := some 100, op := Op.move (Operand.tmp 1), type := 104, pos := "law.go:142", after := #[{ on := 47, ground := Ground.guard }], guard := some (47, true) }) (v := undef) rfl (by kernel_rfl) (by kernel_rfl) (by kernel_rfl) (fun _ _ _ h => h) (Or.inr ⟨by rfl, rfl⟩) (by assumption) ?_
          (try simp only [Act.put, List.setIfInBounds_toArray, List.set_cons_zero, List.set_cons_succ])
          refine wpAnyH_take (i := 50) (oi := { dst := some 101, op := Op.move (Operand.tmp 9), type := 3, pos := "law.go:142", after := #[{ on := 47, ground := Ground.guard }], guard := some (47, true) }) (v := undef) rfl (by kernel_rfl) (by kernel_rfl) (by kernel_rfl) (fun _ _ _ h => h) (Or.inr ⟨by rfl, rfl⟩) (by assumption) ?_
          (try simp only [Act.put, List.setIfInBounds_toArray, List.set_cons_zero, List.set_cons_succ])
          refine wpAnyH_take (i := 51) (oi := { dst := some 102, op := Op.indexAddr 104 (Operand.tmp 100) (Operand.tmp 101), type := 0, pos := "law.go:142", after := #[{ on := 49, ground := Ground.data }, { on := 50, ground := Ground.data }, { on := 47, ground := Ground.guard }], guard := some (47, true) }) (v := undef) rfl (by kernel_rfl) (by kernel_rfl) (by kernel_rfl) (fun _ _ _ h => h) (Or.inr ⟨by rfl, rfl⟩) (by assumption) ?_
          (try simp only [Act.put, List.setIfInBounds_toArray, List.set_cons_zero, List.set_cons_succ])
          refine wpAnyH_take (i := 52) (oi := { dst := some 103, op := Op.fieldAddr 110 (Operand.tmp 102) 3, type := 0, pos := "law.go:142", after := #[{ on := 51, ground := Ground.data }, { on := 47, ground := Ground.guard }], guard := some (47, true) }) (v := undef) rfl (by kernel_rfl) (by kernel_rfl) (by kernel_rfl) (fun _ _ _ h => h) (Or.inr ⟨by rfl, rfl⟩) (by assumption) ?_
          (try simp only [Act.put, List.setIfInBounds_toArray, List.set_cons_zero, List.set_cons_succ])
          refine wpAnyH_take (i := 53) (oi := { dst := some 104, op := Op.load 57 (Operand.tmp 103), type := 57, pos := "law.go:142", after := #[{ on := 52, ground := Ground.data }, { on := 47, ground := Ground.guard }], guard := some (47, true) }) (v := undef) rfl (by kernel_rfl) (by kernel_rfl) (by kernel_rfl) (fun _ _ _ h => h) (Or.inr ⟨by rfl, rfl⟩) (by assumption) ?_
          (try simp only [Act.put, List.setIfInBounds_toArray, List.set_cons_zero, List.set_cons_succ])
          refine wpAnyH_take (i := 54) (oi := { dst := some 105, op := Op.binOp BinOp.neq 57 (Operand.tmp 99) (Operand.tmp 104) 57, type := 4, pos := "law.go:142", after := #[{ on := 48, ground := Ground.data }, { on := 53, ground := Ground.data }, { on := 47, ground := Ground.guard }], guard := some (47, true) }) (v := undef) rfl (by kernel_rfl) (by kernel_rfl) (by kernel_rfl) (fun _ _ _ h => h) (Or.inr ⟨by rfl, rfl⟩) (by assumption) ?_
          (try simp only [Act.put, List.setIfInBounds_toArray, List.set_cons_zero, List.set_cons_succ])
          refine wpAnyH_take (i := 55) (oi := { dst := some 106, op := Op.pick (Operand.tmp 98) (Operand.tmp 105) (Operand.const (Value.bool false)), type := 4, pos := "law.go:142", after := #[{ on := 47, ground := Ground.data }, { on := 54, ground := Ground.data }, { on := 45, ground := Ground.guard }], guard := some (45, false) }) (v := ?_) rfl (by kernel_rfl) (by kernel_rfl) (by kernel_rfl) (fun _ _ _ h => h) (Or.inl ⟨by rfl, ?_⟩) (by assumption) ?_
          rotate_left
          · (intro w hSw; (try dsimp only at hSw); go_simp; try with_reducible rfl)
          (try simp only [Act.put, List.setIfInBounds_toArray, List.set_cons_zero, List.set_cons_succ])
          refine wpAnyH_take (i := 56) (oi := { dst := some 107, op := Op.pick (Operand.tmp 96) (Operand.const (Value.bool true)) (Operand.tmp 106), type := 4, pos := "law.go:142", after := #[{ on := 45, ground := Ground.data }, { on := 55, ground := Ground.data }], guard := none }) (v := ?_) rfl (by kernel_rfl) (by kernel_rfl) (by kernel_rfl) (fun _ _ _ h => h) (Or.inl ⟨by rfl, ?_⟩) (by assumption) ?_
          rotate_left
          · (intro w hSw; (try dsimp only at hSw); go_simp; try with_reducible rfl)
          (try simp only [Act.put, List.setIfInBounds_toArray, List.set_cons_zero, List.set_cons_succ])
          refine wpAnyH_done (by kernel_rfl) ?_ _
          all_goals
            go_wp2_with fail
            go_meet
            exact ⟨rfl, by assumption⟩
        case rest =>
        obtain ⟨rfl, hH2⟩ := hcut
        clear c0 c1 c2 c3 c4 c5 c6 c7 c8 c9 c10 c11 c12 c13 c14 c15 c16 c17 c18 c19 c20 c21 c22 c23 c24 c25 c26 c27 c28 c29 c30 c31 c32 hHd q1
        obtain ⟨c0, c1, c2, c3, c4, c5, c6, c7, c8, c9, c10, c11, c12, c13, c14, c15, c16, c17, c18, c19, c20, c21, c22, c23, c24, c25, c26, c27, c28, c29, c30, c31, c32, _⟩ := sheld hH2
        clear c0 c1 c2 c3 c4 c5 c6 c7 c8 c10 c11 c12 c13 c14 c15 c16 c17 c18 c19 c20 c21 c22 c23 c24 c25 c26 c27 c28 c29 c30 c31 c32
        have hs8 : s0 < 8 := by omega
        have e1 := hH2.sr.ct.cell s0 (by simp [cntL]; omega)
        have e2 := hH2.sr.ct.free s0
        rw [cntL_at _ i s0 hs8] at e1
        have hcb := cntG_bd (stOf ws) i s0
        obtain ⟨CN, hCN⟩ : ∃ z, cntG (stOf ws) i (s0 : Int) = z := ⟨_, rfl⟩
        rw [hCN] at e1 hcb
        have HCN := Lib.hid hCN
        have HH2 := Lib.hid hH2
        clear hCN hH2
        go_wp2_with fail
        have hfin : SR W (wc.setCell ⟨cb, s0, none⟩ (.int .i64 (CN + 1))) t a b g mb ws (B + n + i + 1) q n cap R TT base lq bv lv ac cb (i + 1) := by
          have h5 := HNE.out
          refine HH2.out.sr.count h5.1 h5.2.1 h5.2.2.1 h5.2.2.2.1 (fun k hk => NB.out k hk) s0 (CN + 1) rfl ?_
          rw [← HCN.out]
          exact (cntL_step (stOf ws) i s0 HS0.out hs8).symm
        go_roundg (n - (i + 1))
        case measure => omega
        case rel => exact ⟨i + 1, rfl, by omega, by go_num, by rw [show B + (n : Int) + ((i + 1 : Nat) : Int) = B + n + i + 1 from by omega]; exact hfin⟩
      · rw [if_neg hp] at HJOB
        have g0 : (p == 0) = false := by simpa using hp
        have g1 : (!(p == 0)) = true := by rw [g0]; rfl
        rw [g1] at HJOB
        have hrow : lawRow i (ws.getD i 0 % 8) (TT i) (lv i) = [.int .i64 ((i : Int) + 1), .int .i64 PR, .int .i64 (s0 : Int), .int .u64 DU, .int .u64 KE, .int .u64 RU, .int .u64 MI, LV, .bool true, .int .u64 f, .int .u64 p, .int .u64 d, .int .u64 r, .int .u64 m] := by
          rw [HT.out, HS0.out, HLV.out, ← HRU.out, ← HMI.out]
          simp [lawRow, hp, g0]
        have HROW := Lib.hid hrow
        clear hrow g1 g0
        go_wp2_with fail
        refine HJOB.out.mono ?_
        rintro e w5 ⟨rfl, hB5⟩
        go_upto_region 10 with fail
        obtain ⟨y, hy⟩ : ∃ y, w5.heap.size = y := ⟨_, rfl⟩
        obtain ⟨W6, hW6⟩ : ∃ W6, w5.alloc (.cells #[.int .u64 f, .int .u64 p, .int .u64 d, .int .u64 r, .int .u64 m] 57) = W6 := ⟨_, rfl⟩
        have hsz5 : W4.heap.size ≤ w5.heap.size := hB5.size
        have hH : SH W W6 t a b g mb ws (B + n + i + 1) q n cap R TT base lq bv lv ac cb i x y PR s0 DU KE RU MI LV true f p d r m := by
          rw [← hW6]
          refine ⟨(HR4.out.below HS.out hB5).al_ HS.out _, ?_, alloc_at hy.symm, ⟨NX.out, fun hh => by have h5 := HLT.out; rcases hh with hh | hh <;> omega⟩, hlt, HROW.out⟩
          exact (Below.block (below_al (Below.refl _ w5) _) x (Nat.lt_of_lt_of_le (Array.getElem?_eq_some_iff.1 HX4.out).1 hsz5)).trans ((hB5.block x (Array.getElem?_eq_some_iff.1 HX4.out).1).trans HX4.out)
        try rw [hy]
        rw [hW6]
        clear hW6 hB5 hsz5 hy
        have hHd := hH.dr
        obtain ⟨c0, c1, c2, c3, c4, c5, c6, c7, c8, c9, c10, c11, c12, c13, c14, c15, c16, c17, c18, c19, c20, c21, c22, c23, c24, c25, c26, c27, c28, c29, c30, c31, c32, _⟩ := sheld hH
        have q1 : IntKind.i64.wrap ((i : Int) + 1) = (i : Int) + 1 := by rw [IntKind.wrap_i64]; omega
        have HHD := Lib.hid hHd
        have HHH := Lib.hid hH
        clear hH
        go_cut [107] (fun v107 wx => v107 = .bool false ∧ SH W wx t a b g mb ws (B + n + i + 1) q n cap R TT base lq bv lv ac cb i x y PR s0 DU KE RU MI LV true f p d r m)
        case first =>
          go_region_held3 (fun X => X.cell? ⟨x, 0, none⟩ = some (.int .i64 ((i : Int) + 1)) ∧ X.cell? ⟨x, 1, none⟩ = some (.int .i64 PR) ∧ X.cell? ⟨x, 2, none⟩ = some (.int .i64 (s0 : Int)) ∧ X.cell? ⟨x, 3, none⟩ = some (.int .u64 DU) ∧ X.cell? ⟨x, 4, none⟩ = some (.int .u64 KE) ∧ X.cell? ⟨x, 5, none⟩ = some (.int .u64 RU) ∧ X.cell? ⟨x, 6, none⟩ = some (.int .u64 MI) ∧ X.cell? ⟨lq, i * 14, none⟩ = some (.int .i64 ((i : Int) + 1)) ∧ X.cell? ⟨lq, i * 14 + 1, none⟩ = some (.int .i64 PR) ∧ X.cell? ⟨lq, i * 14 + 2, none⟩ = some (.int .i64 (s0 : Int)) ∧ X.cell? ⟨lq, i * 14 + 3, none⟩ = some (.int .u64 DU) ∧ X.cell? ⟨lq, i * 14 + 4, none⟩ = some (.int .u64 KE) ∧ X.cell? ⟨lq, i * 14 + 5, none⟩ = some (.int .u64 RU) ∧ X.cell? ⟨lq, i * 14 + 6, none⟩ = some (.int .u64 MI) ∧ X.cell? ⟨lq, i * 14 + 7, none⟩ = some (LV) ∧ X.cell? ⟨lq, i * 14 + 8, none⟩ = some (.bool true) ∧ X.cell? ⟨lq, i * 14 + 9, none⟩ = some (.int .u64 f) ∧ X.cell? ⟨lq, i * 14 + 10, none⟩ = some (.int .u64 p) ∧ X.cell? ⟨lq, i * 14 + 11, none⟩ = some (.int .u64 d) ∧ X.cell? ⟨lq, i * 14 + 12, none⟩ = some (.int .u64 r) ∧ X.cell? ⟨lq, i * 14 + 13, none⟩ = some (.int .u64 m) ∧ X.cell? ⟨ac, i * 7, none⟩ = some (.int .i64 ((i : Int) + 1)) ∧ X.cell? ⟨ac, i * 7 + 1, none⟩ = some (.int .i64 PR) ∧ X.cell? ⟨ac, i * 7 + 2, none⟩ = some (.int .i64 (s0 : Int)) ∧ X.cell? ⟨ac, i * 7 + 3, none⟩ = some (.int .u64 DU) ∧ X.cell? ⟨ac, i * 7 + 4, none⟩ = some (.int .u64 KE) ∧ X.cell? ⟨ac, i * 7 + 5, none⟩ = some (.int .u64 RU) ∧ X.cell? ⟨ac, i * 7 + 6, none⟩ = some (.int .u64 MI) ∧ X.cell? ⟨y, 0, none⟩ = some (.int .u64 f) ∧ X.cell? ⟨y, 1, none⟩ = some (.int .u64 p) ∧ X.cell? ⟨y, 2, none⟩ = some (.int .u64 d) ∧ X.cell? ⟨y, 3, none⟩ = some (.int .u64 r) ∧ X.cell? ⟨y, 4, none⟩ = some (.int .u64 m) ∧ SH W X t a b g mb ws (B + n + i + 1) q n cap R TT base lq bv lv ac cb i x y PR s0 DU KE RU MI LV true f p d r m) ((first | exact sheld (by assumption))) (first | (go_at_call 100; refine (TBody_in hHd.sr.si.tb _ i rfl hlt (by omega) (bv i) L (HRP.out.2.1) HL1.out (by have := hHd.sr.si.bb i hlt; rw [HT.out] at this; exact this)).mono ?_; rintro e wA ⟨vA, rfl, hOA, hBA⟩; have hHA := SH.below (by assumption) HS.out hBA) | (go_at_call 99; refine (SameBody_any HL1.out hOA (by have := (SH.sr hHA).si.lb i hlt; rw [HT.out, HLV.out] at this; exact this)).mono ?_; rintro e wB ⟨rfl, hBB⟩; have hHB := SH.below hHA HS.out hBB))
          all_goals
            go_wp2_with fail
            go_meet
            exact ⟨rfl, by assumption⟩
        case rest =>
        obtain ⟨rfl, hH2⟩ := hcut
        clear c0 c1 c2 c3 c4 c5 c6 c7 c8 c9 c10 c11 c12 c13 c14 c15 c16 c17 c18 c19 c20 c21 c22 c23 c24 c25 c26 c27 c28 c29 c30 c31 c32 hHd q1
        obtain ⟨c0, c1, c2, c3, c4, c5, c6, c7, c8, c9, c10, c11, c12, c13, c14, c15, c16, c17, c18, c19, c20, c21, c22, c23, c24, c25, c26, c27, c28, c29, c30, c31, c32, _⟩ := sheld hH2
        clear c0 c1 c2 c3 c4 c5 c6 c7 c8 c10 c11 c12 c13 c14 c15 c16 c17 c18 c19 c20 c21 c22 c23 c24 c25 c26 c27 c28 c29 c30 c31 c32
        have hs8 : s0 < 8 := by omega
        have e1 := hH2.sr.ct.cell s0 (by simp [cntL]; omega)
        have e2 := hH2.sr.ct.free s0
        rw [cntL_at _ i s0 hs8] at e1
        have hcb := cntG_bd (stOf ws) i s0
        obtain ⟨CN, hCN⟩ : ∃ z, cntG (stOf ws) i (s0 : Int) = z := ⟨_, rfl⟩
        rw [hCN] at e1 hcb
        have HCN := Lib.hid hCN
        have HH2 := Lib.hid hH2
        clear hCN hH2
        go_wp2_with fail
        have hfin : SR W (wc.setCell ⟨cb, s0, none⟩ (.int .i64 (CN + 1))) t a b g mb ws (B + n + i + 1) q n cap R TT base lq bv lv ac cb (i + 1) := by
          have h5 := HNE.out
          refine HH2.out.sr.count h5.1 h5.2.1 h5.2.2.1 h5.2.2.2.1 (fun k hk => NB.out k hk) s0 (CN + 1) rfl ?_
          rw [← HCN.out]
          exact (cntL_step (stOf ws) i s0 HS0.out hs8).symm
        go_roundg (n - (i + 1))
        case measure => omega
        case rel => exact ⟨i + 1, rfl, by omega, by go_num, by rw [show B + (n : Int) + ((i + 1 : Nat) : Int) = B + n + i + 1 from by omega]; exact hfin⟩
    · obtain rfl : i = n := by omega
      have HR := Lib.hid hR
      have HPN := Lib.hid (fun (x : Int) => sumC_CG (S := stOf ws) (P := prOf TT) i (fun j hj => ⟨(HS.out.pr j hj).1, by have := (HS.out.pr j hj).2.1; show (TT j).pr < 8; omega⟩) x)
      clear hR
      go_wp2_with fail
      go_loopg [14] 8 (fun gg v14 wx => ∃ s : Nat, gg = 8 - s ∧ s ≤ 8 ∧ v14 = .int .i64 s ∧ SR W wx t a b g mb ws (B + i + i) q i cap R TT base lq bv lv ac cb i)
      case atStart => exact ⟨0, rfl, by omega, rfl, HR.out⟩
      case round =>
        obtain ⟨s, rfl, hs8, rfl, hR⟩ := hrel
        by_cases hlt3 : s < 8
        · have e1 := hR.ct.cell s (by simp [cntL]; omega)
          rw [cntL_at _ i s hlt3] at e1
          have hcb := cntG_bd (stOf ws) i s
          have HCT := Lib.hid (fun n2 : Nat => TCount_any (hR.si.tb.drN n2) (fun x y => by have := CG_bd (stOf ws) (prOf TT) i x y; omega) (s : Int) (In64_small _ (by omega) (by omega)))
          rw [HPN.out (s : Int)] at HCT
          obtain ⟨CN, hCN⟩ : ∃ z, cntG (stOf ws) i (s : Int) = z := ⟨_, rfl⟩
          rw [hCN] at e1 HCT
          have HR2 := Lib.hid hR
          clear hCN hR hcb
          go_wp2_with fail
          go_quiet ((go_at_call 68; exact Calls.quiet_of_same (same_eq (HCT.out _))))
          go_wp2_with fail
          go_roundg (8 - (s + 1))
          case measure => omega
          case rel => exact ⟨s + 1, rfl, by omega, by go_num, ⟨HR2.out.si.drN _, HR2.out.al, HR2.out.ct, HR2.out.nac, HR2.out.ncb⟩⟩
        · obtain rfl : s = 8 := by omega
          have HR2 := Lib.hid hR
          clear hR
          by_cases hid : 1 ≤ id ∧ id ≤ i
          · obtain ⟨id1, id2⟩ := hid
            obtain ⟨k, rfl⟩ : ∃ k : Nat, id = (k : Int) + 1 := ⟨(id - 1).toNat, by omega⟩
            have hk : k < i := by omega
            have HGET := Lib.hid (TGet_any HR2.out.si.tb (by omega) k hk (by have := HS.out.ln; omega) (by omega) (TT k) (bv k) (HS.out.pr k hk).2.2.1 (HS.out.rr.rowP k hk))
            go_wp2_with fail
            refine HGET.out.mono ?_
            rintro e w9 ⟨rfl, hT9, hF9⟩
            have hR9 := HR2.out.to HS.out hF9 hT9
            have HR9 := Lib.hid hR9
            clear hT9 hF9 hR9
            have g5 : decide ((k : Int) + 1 ≥ 1) = true := by simp; omega
            have g6 : decide (1 ≤ (k : Int) + 1) = true := by simp; omega
            have g7 : decide ((k : Int) + 1 ≤ i) = true := by simp; omega
            go_wp2_with fail
            go_ret
            refine ⟨rfl, ?_, ?_⟩
            · exact ((HR9.out.al_ HS.out _).si.le (by omega)).tb
            · exact (HR9.out.al_ HS.out _).si.fr
          · have hout : id < 1 ∨ (i : Int) < id := by omega
            have HGET := Lib.hid (TGet_out HR2.out.si.tb id hout (by omega))
            go_wp2_with fail
            refine HGET.out.mono ?_
            rintro e w9 ⟨rfl, hB9⟩
            have hR9 := HR2.out.below HS.out hB9
            have HR9 := Lib.hid hR9
            clear hB9 hR9
            rcases hout with ho | ho
            · have g5 : decide (id ≥ 1) = false := by simp; omega
              have g6 : decide (1 ≤ id) = false := by simp; omega
              go_wp2_with fail
              go_ret
              exact ⟨rfl, ((HR9.out.al_ HS.out _).si.le (by omega)).tb, (HR9.out.al_ HS.out _).si.fr⟩
            · have g5 : decide (id ≥ 1) = true := by simp; omega
              have g6 : decide (1 ≤ id) = true := by simp; omega
              have g7 : decide (id ≤ i) = false := by simp; omega
              go_wp2_with fail
              go_ret
              exact ⟨rfl, ((HR9.out.al_ HS.out _).si.le (by omega)).tb, (HR9.out.al_ HS.out _).si.fr⟩
end
end Go.Proofs.Ytpcbcnheogjofaa
