/- TablePlays: what stands between two calls: the table's part, the statement's rows' part, that they lie apart. -/
import Derived.Test.YtpcbcnheogjofaaTable16
namespace Go.Proofs.Ytpcbcnheogjofaa
open Go.RowKit Go.Maps Go.Shelf Go.Proofs.YtpcbcnheogjofaaW.PrintWords
set_option linter.unusedVariables false
set_option linter.unusedSimpArgs false

def TkOk (T : Tk) : Prop := (0 ≤ T.pr ∧ T.pr ≤ 7) ∧ (0 ≤ T.f ∧ T.f ≤ top) ∧ (0 ≤ T.p ∧ T.p ≤ top) ∧ (0 ≤ T.d ∧ T.d ≤ top) ∧ (0 ≤ T.r ∧ T.r ≤ top) ∧ (0 ≤ T.m ∧ T.m ≤ top) ∧ T.L.length ≤ 1000
structure TI (X : World) (t a b g mb : Nat) (ws : List Int) (B : Int) (rv : Value) (n : Nat) (R : List Value) (TT : Nat → Tk) (base : Nat) (bv : Nat → Value) : Prop where
  tb : TbAt X t a b g mb ws B rv n R (CG (stOf ws) (prOf TT) n) base
  rr : Blk R 13 n (fun k => tabRow k (TT k) (bv k))
  bb : ∀ k, k < n → OpsV X (bv k) (TT k).L
  bl : ∀ k, k < n → ∀ c, (bv k).ownBlock = some c → base ≤ c ∧ c < X.heap.size
  ok : ∀ k, k < n → TkOk (TT k)
structure WI (X : World) (base : Nat) (st : Nat → Int) (Lv : Value) (n : Nat) (XS : List Value) (TT : Nat → Tk) (lv : Nat → Value) : Prop where
  lw : X.ownsRow base 110 14 Lv n XS
  xx : Blk XS 14 n (fun k => lawRow k (st k) (TT k) (lv k))
  lb : ∀ k, k < n → OpsV X (lv k) (TT k).L
  ll : ∀ k, k < n → ∀ c, (lv k).ownBlock = some c → base ≤ c ∧ c < X.heap.size
structure NI (rv Lv : Value) (bv lv : Nat → Value) (n : Nat) : Prop where
  a1 : ∀ c, rv.ownBlock = some c → Lv.ownBlock ≠ some c
  a2 : ∀ k, k < n → ∀ c, (bv k).ownBlock = some c → rv.ownBlock ≠ some c ∧ Lv.ownBlock ≠ some c
  a3 : ∀ k, k < n → ∀ c, (lv k).ownBlock = some c → rv.ownBlock ≠ some c ∧ Lv.ownBlock ≠ some c
section
variable {X X' : World} {t a b g mb : Nat} {ws : List Int} {B : Int} {rv Lv : Value} {n : Nat} {R XS : List Value} {TT : Nat → Tk} {base : Nat} {bv lv : Nat → Value} {st : Nat → Int} {q cap lq lcap : Nat}
theorem TI.to (h : TI X t a b g mb ws B rv n R TT base bv) {S : Nat → Prop} (f : Fr S X X') {B' : Int} (ht : TbAt X' t a b g mb ws B' rv n R (CG (stOf ws) (prOf TT) n) base) (hS : ∀ k, k < n → ∀ c, (bv k).ownBlock = some c → ¬ S c) : TI X' t a b g mb ws B' rv n R TT base bv :=
  ⟨ht, h.rr, fun k hk => (h.bb k hk).fr f (hS k hk), fun k hk c hc => ⟨(h.bl k hk c hc).1, Nat.lt_of_lt_of_le (h.bl k hk c hc).2 f.size⟩, h.ok⟩
theorem TI.low (h : TI X t a b g mb ws B rv n R TT base bv) {S : Nat → Prop} (f : Fr S X X') {B' : Int} (ht : TbAt X' t a b g mb ws B' rv n R (CG (stOf ws) (prOf TT) n) base) (hS : ∀ c, S c → c < base) : TI X' t a b g mb ws B' rv n R TT base bv :=
  h.to f ht (fun k hk c hc hs => by have := (h.bl k hk c hc).1; have := hS c hs; omega)
theorem TI.below (h : TI X t a b g mb ws B rv n R TT base bv) (hb : Below X.heap.size X X') : TI X' t a b g mb ws B rv n R TT base bv := h.to (S := fun _ => False) (Fr.of_below hb) (h.tb.below hb) (fun _ _ _ _ hs => hs)
theorem TI.al (h : TI X t a b g mb ws B rv n R TT base bv) (o : Obj) : TI (X.alloc o) t a b g mb ws B rv n R TT base bv := h.below (below_al (Below.refl _ _) o)
theorem TI.dr (h : TI X t a b g mb ws B rv n R TT base bv) : TI X.drew t a b g mb ws B rv n R TT base bv := h.below (below_dr (Below.refl _ _))
theorem TI.drN (h : TI X t a b g mb ws B rv n R TT base bv) (m : Nat) : TI (X.drewN m) t a b g mb ws B rv n R TT base bv := h.below (below_drN (Below.refl _ _) m)
theorem TI.le (h : TI X t a b g mb ws B rv n R TT base bv) {B' : Int} (hl : B ≤ B') : TI X t a b g mb ws B' rv n R TT base bv := ⟨⟨h.tb.hdr, h.tb.ar.le hl, h.tb.rows, h.tb.map, h.tb.lt, h.tb.ne⟩, h.rr, h.bb, h.bl, h.ok⟩
theorem TI.oset (h : TI X t a b g mb ws B (.slice (some ⟨q, 0, none⟩) n cap) n R TT base bv) {c j : Nat} (hc : base ≤ c) (hq : q ≠ c) (hb : ∀ k, k < n → (bv k).ownBlock ≠ some c) (v : Value) : TI (X.setCell ⟨c, j, none⟩ v) t a b g mb ws B (.slice (some ⟨q, 0, none⟩) n cap) n R TT base bv :=
  h.to (S := fun k => k = c) (Fr.set (S := fun k => k = c) (Fr.refl _ X) (p := ⟨c, j, none⟩) rfl _) (h.tb.other hc hq v) (fun k hk x hx e => hb k hk (by rw [hx, e]))
theorem TI.oset0 (h : TI X t a b g mb ws B (.slice none 0 0) 0 R TT base bv) {c j : Nat} (hc : base ≤ c) (v : Value) : TI (X.setCell ⟨c, j, none⟩ v) t a b g mb ws B (.slice none 0 0) 0 R TT base bv := by
  have f : Fr (fun k => k = c) X (X.setCell ⟨c, j, none⟩ v) := Fr.set (S := fun k => k = c) (Fr.refl _ X) (p := ⟨c, j, none⟩) rfl _
  refine h.to f (h.tb.frAll f (fun x hx e => ?_)) (fun k hk => absurd hk (Nat.not_lt_zero _))
  have hl := h.tb.lt
  rcases hx with hx | hx | hx | hx | hx | hx
  · omega
  · omega
  · omega
  · omega
  · omega
  · cases hx
theorem WI.to (h : WI X base st Lv n XS TT lv) {S : Nat → Prop} (f : Fr S X X') (h1 : ∀ c, Lv.ownBlock = some c → ¬ S c) (h2 : ∀ k, k < n → ∀ c, (lv k).ownBlock = some c → ¬ S c) : WI X' base st Lv n XS TT lv :=
  ⟨ownsRow_fr h.lw f h1, h.xx, fun k hk => (h.lb k hk).fr f (h2 k hk), fun k hk c hc => ⟨(h.ll k hk c hc).1, Nat.lt_of_lt_of_le (h.ll k hk c hc).2 f.size⟩⟩
theorem WI.fr (h : WI X base st Lv n XS TT lv) (hN : NI rv Lv bv lv n) {S : Nat → Prop} (f : Fr S X X') (hS : ∀ c, S c → c < base ∨ rv.ownBlock = some c) : WI X' base st Lv n XS TT lv :=
  h.to f (fun c hc hs => by
    rcases hS c hs with h1 | h1
    · have := (h.lw.lt c hc).1; omega
    · exact hN.a1 c h1 hc) (fun k hk c hc hs => by
    rcases hS c hs with h1 | h1
    · have := (h.ll k hk c hc).1; omega
    · exact (hN.a3 k hk c hc).1 h1)
theorem WI.below (h : WI X base st Lv n XS TT lv) (hb : Below X.heap.size X X') : WI X' base st Lv n XS TT lv := h.to (S := fun _ => False) (Fr.of_below hb) (fun _ _ hs => hs) (fun _ _ _ _ hs => hs)
theorem WI.al (h : WI X base st Lv n XS TT lv) (o : Obj) : WI (X.alloc o) base st Lv n XS TT lv := h.below (below_al (Below.refl _ _) o)
theorem WI.dr (h : WI X base st Lv n XS TT lv) : WI X.drew base st Lv n XS TT lv := h.below (below_dr (Below.refl _ _))
theorem WI.drN (h : WI X base st Lv n XS TT lv) (m : Nat) : WI (X.drewN m) base st Lv n XS TT lv := h.below (below_drN (Below.refl _ _) m)
theorem WI.oset (h : WI X base st Lv n XS TT lv) {c j : Nat} (h1 : Lv.ownBlock ≠ some c) (h2 : ∀ k, k < n → (lv k).ownBlock ≠ some c) (v : Value) : WI (X.setCell ⟨c, j, none⟩ v) base st Lv n XS TT lv :=
  h.to (S := fun k => k = c) (Fr.set (S := fun k => k = c) (Fr.refl _ X) (p := ⟨c, j, none⟩) rfl _) (fun x hx e => h1 (by rw [hx, e])) (fun k hk x hx e => h2 k hk (by rw [hx, e]))
theorem WI.cell (h : WI X base st (.slice (some ⟨lq, 0, none⟩) n lcap) n XS TT lv) (k : Nat) (hk : k < n) (j : Nat) (hj : j < 14) : X.cell? ⟨lq, k * 14 + j, none⟩ = (lawRow k (st k) (TT k) (lv k))[j]? :=
  (h.lw.cellAt (k * 14 + j) (by omega)).trans (h.xx.at_ k hk j hj)
theorem WI.free (h : WI X base st (.slice (some ⟨lq, 0, none⟩) n lcap) n XS TT lv) (j : Nat) : X.frozen? ⟨lq, j, none⟩ = false := h.lw.frozenAt j
theorem WI.at_ (h : WI X base st (.slice (some ⟨lq, 0, none⟩) n lcap) n XS TT lv) : base ≤ lq ∧ lq < X.heap.size := h.lw.lt lq rfl
theorem WI.put (h : WI X base st (.slice (some ⟨lq, 0, none⟩) n lcap) n XS TT lv) (hN : NI rv (.slice (some ⟨lq, 0, none⟩) n lcap) bv lv n) {k j : Nat} (hk : k < n) (hj : j < 14) (v : Value) {st' : Nat → Int} {TT' : Nat → Tk} (hrow : lawRow k (st' k) (TT' k) (lv k) = (lawRow k (st k) (TT k) (lv k)).set j v) (ho : ∀ i, i ≠ k → st' i = st i ∧ TT' i = TT i) (hL : (TT' k).L = (TT k).L) :
    WI (X.setCell ⟨lq, k * 14 + j, none⟩ v) base st' (.slice (some ⟨lq, 0, none⟩) n lcap) n (XS.set (k * 14 + j) v) TT' lv := by
  have f : Fr (fun x => x = lq) X (X.setCell ⟨lq, k * 14 + j, none⟩ v) := Fr.set (S := fun x => x = lq) (Fr.refl _ X) (p := ⟨lq, k * 14 + j, none⟩) rfl _
  refine ⟨(h.lw.stored (k * 14 + j) v).1, h.xx.set hk hj hrow (fun i hi => by rw [(ho i hi).1, (ho i hi).2]), fun i hi => ?_, fun i hi c hc => ⟨(h.ll i hi c hc).1, by simpa using (h.ll i hi c hc).2⟩⟩
  have := (h.lb i hi).fr f (fun c hc e => (hN.a3 i hi c hc).2 (by rw [e]; rfl))
  by_cases e : i = k
  · subst e; rw [hL]; exact this
  · rw [(ho i e).2]; exact this
/-- The table's own row is written by the table. -/
theorem TI.put (h : TI X t a b g mb ws B (.slice (some ⟨q, 0, none⟩) n cap) n R TT base bv) (hN : NI (.slice (some ⟨q, 0, none⟩) n cap) Lv bv lv n) {k j : Nat} (hk : k < n) (hj : j < 13) (v : Value) {TT' : Nat → Tk} (hrow : tabRow k (TT' k) (bv k) = (tabRow k (TT k) (bv k)).set j v) (ho : ∀ i, i ≠ k → TT' i = TT i) (hL : (TT' k).L = (TT k).L) (hp : (TT' k).pr = (TT k).pr) (hok : TkOk (TT' k)) :
    TI (X.setCell ⟨q, k * 13 + j, none⟩ v) t a b g mb ws B (.slice (some ⟨q, 0, none⟩) n cap) n (R.set (k * 13 + j) v) TT' base bv := by
  have f : Fr (fun x => x = q) X (X.setCell ⟨q, k * 13 + j, none⟩ v) := Fr.set (S := fun x => x = q) (Fr.refl _ X) (p := ⟨q, k * 13 + j, none⟩) rfl _
  have hc : CG (stOf ws) (prOf TT) n = CG (stOf ws) (prOf TT') n := CG_congr n (fun i hi => ⟨rfl, by
    show (TT i).pr = (TT' i).pr
    by_cases e : i = k
    · rw [e, hp]
    · rw [ho i e]⟩)
  refine ⟨by rw [← hc]; exact h.tb.rset (k * 13 + j) v, h.rr.set hk hj hrow (fun i hi => by rw [ho i hi]), fun i hi => ?_, fun i hi c hc => ⟨(h.bl i hi c hc).1, by simpa using (h.bl i hi c hc).2⟩, fun i hi => ?_⟩
  · have := (h.bb i hi).fr f (fun c hc e => (hN.a2 i hi c hc).1 (by rw [e]; rfl))
    by_cases e : i = k
    · subst e; rw [hL]; exact this
    · rw [ho i e]; exact this
  · by_cases e : i = k
    · rw [e]; exact hok
    · rw [ho i e]; exact h.ok i hi
theorem TI.si (h : TI X t a b g mb ws B (.slice (some ⟨q, 0, none⟩) n cap) n R TT base bv) (hw : WI X base (stOf ws) (.slice (some ⟨lq, 0, none⟩) n lcap) n XS TT lv) : SI X X t a b g mb ws B q n cap R TT base lq bv lv :=
  ⟨h.tb, fun k hk j hj => hw.cell k hk j hj, h.bb, hw.lb, Fr.refl _ _, hw.at_.2, fun k hk => ⟨fun c hc => (h.bl k hk c hc).2, fun c hc => (hw.ll k hk c hc).2⟩⟩
theorem TI.sn (h : TI X t a b g mb ws B (.slice (some ⟨q, 0, none⟩) n cap) n R TT base bv) (hw : WI X base (stOf ws) (.slice (some ⟨lq, 0, none⟩) n lcap) n XS TT lv) (hl : n ≤ ws.length) : SN b g n lq bv lv TT R ws := by
  have hlt := h.tb.lt
  have hn : ∀ c, base ≤ c → ¬ own2 b g c := fun c hc hh => by rcases hh with hh | hh <;> omega
  exact ⟨hn lq hw.at_.1, fun k hk c hc => hn c (h.bl k hk c hc).1, fun k hk c hc => hn c (hw.ll k hk c hc).1, h.rr, fun k hk => ⟨(h.ok k hk).1.1, (h.ok k hk).1.2, (h.ok k hk).2.2.1.1, (h.ok k hk).2.2.2.2.2.2⟩, hl⟩
theorem own2_low (h : TI X t a b g mb ws B rv n R TT base bv) : ∀ c, own2 b g c → c < base := fun c hc => by have := h.tb.lt; rcases hc with hc | hc <;> omega
end
end Go.Proofs.Ytpcbcnheogjofaa
