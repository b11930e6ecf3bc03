/- TablePlays: what stands at a round's switch; how a new task is laid beside the others. -/
import Derived.Test.YtpcbcnheogjofaaTable17
import Derived.Test.YtpcbcnheogjofaaOpenActs
import Derived.Deep.CutBlock
import Derived.Deep.RegionHeld3
namespace Go.Proofs.Ytpcbcnheogjofaa
open Go.RowKit Go.Maps Go.Shelf Go.Proofs.YtpcbcnheogjofaaW.PrintWords
set_option linter.unusedVariables false
set_option linter.unusedSimpArgs false

/-- The block of a number within a code. -/
def blockOf (n : Nat) : Code → Option Code
  | .block i c => if i = n then some (.block i c) else blockOf n c
  | .seq x y => match blockOf n x with
    | some c => some c
    | none => blockOf n y
  | .cond _ x y => match blockOf n x with
    | some c => some c
    | none => blockOf n y
  | .loop c => blockOf n c
  | .scope c => blockOf n c
  | _ => none
noncomputable def swC : Code := (Try.f17.body.bind (blockOf 2)).getD .skip
/-- What stands between two calls. -/
def PI (w X : World) (t a b g mb M base : Nat) (B : Int) (k : Nat) (Lv : Value) : Prop := ∃ (n : Nat) (ws : List Int) (R XS : List Value) (TT : Nat → Tk) (bv lv : Nat → Value) (rv : Value),
  n ≤ k ∧ ws.length = M ∧ n ≤ M ∧ (∀ j, j < n → 1 ≤ ws.getD j 0 % 8 ∧ ws.getD j 0 % 8 ≤ 6) ∧ (∀ j, n ≤ j → ws.getD j 0 = 0) ∧ TI X t a b g mb ws B rv n R TT base bv ∧ WI X base (stOf ws) Lv n XS TT lv ∧ NI rv Lv bv lv n ∧ (n = 0 → rv = .slice none 0 0 ∧ Lv = .slice none 0 0) ∧ base ≤ X.heap.size ∧ Below w.heap.size w X
theorem PI.al {w X : World} {t a b g mb M base k : Nat} {B : Int} {Lv : Value} (h : PI w X t a b g mb M base B k Lv) (o : Obj) : PI w (X.alloc o) t a b g mb M base B k Lv := by
  obtain ⟨n, ws, R, XS, TT, bv, lv, rv, h1, h2, h3, h4, h5, h6, h7, h8, h9, h10, h11⟩ := h
  exact ⟨n, ws, R, XS, TT, bv, lv, rv, h1, h2, h3, h4, h5, h6.al o, h7.al o, h8, h9, by simp; omega, below_al h11 o⟩
theorem PI.sz {w X : World} {t a b g mb M base k : Nat} {B : Int} {Lv : Value} (h : PI w X t a b g mb M base B k Lv) : base ≤ X.heap.size := by
  obtain ⟨n, ws, R, XS, TT, bv, lv, rv, h1, h2, h3, h4, h5, h6, h7, h8, h9, h10, h11⟩ := h
  exact h10
theorem PI.bel {w X : World} {t a b g mb M base k : Nat} {B : Int} {Lv : Value} (h : PI w X t a b g mb M base B k Lv) : Below w.heap.size w X := by
  obtain ⟨n, ws, R, XS, TT, bv, lv, rv, h1, h2, h3, h4, h5, h6, h7, h8, h9, h10, h11⟩ := h
  exact h11
theorem opc {X : World} {dd : Nat} {v0 v1 v2 v3 v4 v5 v6 v7 v8 v9 v10 : Value} {ty : TypeId} (h : X.heap[dd]? = some (.cells #[v0, v1, v2, v3, v4, v5, v6, v7, v8, v9, v10] ty (0, 0))) : X.cell? ⟨dd, 0, none⟩ = some v0 ∧ X.cell? ⟨dd, 1, none⟩ = some v1 ∧ X.cell? ⟨dd, 2, none⟩ = some v2 ∧ X.cell? ⟨dd, 3, none⟩ = some v3 ∧ X.cell? ⟨dd, 4, none⟩ = some v4 ∧ X.cell? ⟨dd, 5, none⟩ = some v5 ∧ X.cell? ⟨dd, 6, none⟩ = some v6 ∧ X.cell? ⟨dd, 7, none⟩ = some v7 ∧ X.cell? ⟨dd, 8, none⟩ = some v8 ∧ X.cell? ⟨dd, 9, none⟩ = some v9 ∧ X.cell? ⟨dd, 10, none⟩ = some v10 := by
  refine ⟨?_, ?_, ?_, ?_, ?_, ?_, ?_, ?_, ?_, ?_, ?_⟩ <;> simp [World.cell?, h]
/-- What stands ahead of the switch. -/
structure SwI (w W5 : World) (M k n dd t a b g mb base lcap rcap PB PO cb : Nat) (LA RA A : Option Addr) (IN : Bool) (KD ID PR ST NN f p d r m : Int) (L : List Op3) (ws : List Int) (R XS : List Value) (TT : Nat → Tk) (bv lv : Nat → Value) : Prop where
  hM : 1 ≤ M ∧ M ≤ 1000
  hk : k < 40
  hnk : n ≤ k
  hwl : ws.length = M
  hnM : n ≤ M
  hws : ∀ j, j < n → 1 ≤ ws.getD j 0 % 8 ∧ ws.getD j 0 % 8 ≤ 6
  hws0 : ∀ j, n ≤ j → ws.getD j 0 = 0
  ti : TI W5 t a b g mb ws (2000 * k) (.slice RA n rcap) n R TT base bv
  wi : WI W5 base (stOf ws) (.slice LA n lcap) n XS TT lv
  ni : NI (.slice RA n rcap) (.slice LA n lcap) bv lv n
  n0 : n = 0 → (Value.slice RA n rcap) = .slice none 0 0 ∧ (Value.slice LA n lcap) = .slice none 0 0
  rb : W5.heap[dd + 1]? = some (.cells #[.int .i64 0, .int .i64 0, .int .i64 0, .int .u64 0, .int .u64 0, .int .u64 0, .int .u64 0, .slice none 0 0, .bool false, .int .u64 0, .int .u64 0, .int .u64 0, .int .u64 0, .int .u64 0] 110 (0, 0))
  d6 : W5.heap[dd]? = some (.cells #[.int .i64 KD, .int .i64 ID, .int .i64 PR, .int .i64 ST, .int .u64 NN, .int .u64 f, .int .u64 p, .int .u64 d, .int .u64 r, .int .u64 m, .slice A L.length cb] 107 (0, 0))
  bel : Below w.heap.size w W5
  s5 : W5.heap.size = dd + 2
  hdb : base ≤ dd
  lo : w.heap.size ≤ base
  l5 : w.heap.size ≤ t ∧ w.heap.size ≤ b ∧ w.heap.size ≤ g ∧ w.heap.size ≤ mb
  bx : ∀ i, i < n → (∀ c, (bv i).ownBlock = some c → c < dd) ∧ (∀ c, (lv i).ownBlock = some c → c < dd)
  lx : (∀ c, (Value.slice RA n rcap).ownBlock = some c → c < dd) ∧ (∀ c, (Value.slice LA n lcap).ownBlock = some c → c < dd)
  ov : OpsV W5 (.slice A L.length cb) L
  ob : L = [] ∨ ∀ c, (Value.slice A L.length cb).ownBlock = some c → c < w.heap.size
  hl : L.length ≤ 30
  bd : (Lit.int .i64 ST).wf = true ∧ (0 ≤ f ∧ f ≤ top) ∧ (0 ≤ p ∧ p ≤ top) ∧ (0 ≤ d ∧ d ≤ top) ∧ (0 ≤ r ∧ r ≤ top) ∧ (0 ≤ m ∧ m ≤ top) ∧ (0 ≤ NN ∧ NN ≤ top) ∧ (Lit.int .i64 ID).wf = true
  hq : (IN = true ∧ ∃ kk : Nat, kk < n ∧ ID = (kk : Int) + 1 ∧ (∃ lq, LA = some ⟨lq, 0, none⟩ ∧ PB = lq) ∧ PO = kk * 14) ∨ (IN = false ∧ (ID < 1 ∨ (n : Int) < ID) ∧ PB = dd + 1 ∧ PO = 0)
section
variable {w W5 : World} {M k n dd t a b g mb base lcap rcap PB PO cb : Nat} {LA RA A : Option Addr} {IN : Bool} {KD ID PR ST NN f p d r m : Int} {L : List Op3} {ws : List Int} {R XS : List Value} {TT : Nat → Tk} {bv lv : Nat → Value}
/-- Nothing but what is new, and blocks below base or the dummy, was written. -/
theorem SwI.same (h : SwI w W5 M k n dd t a b g mb base lcap rcap PB PO cb LA RA A IN KD ID PR ST NN f p d r m L ws R XS TT bv lv) {S : Nat → Prop} {X : World} (F : Fr S W5 X) (hS : ∀ c, S c → (c < base ∧ w.heap.size ≤ c) ∨ c = dd + 1) {B : Int} (hB : B ≤ 2000 * k + 1500) (ht : TbAt X t a b g mb ws B (.slice RA n rcap) n R (CG (stOf ws) (prOf TT) n) base) :
    PI w X t a b g mb M base (2000 * k + 1500) (k + 1) (.slice LA n lcap) ∧ X.heap[dd]? = some (.cells #[.int .i64 KD, .int .i64 ID, .int .i64 PR, .int .i64 ST, .int .u64 NN, .int .u64 f, .int .u64 p, .int .u64 d, .int .u64 r, .int .u64 m, .slice A L.length cb] 107 (0, 0)) := by
  have hdb := h.hdb
  have hlo := h.lo
  have hn : ∀ c, base ≤ c → c ≤ dd → ¬ S c := fun c h1 h2 hs => by rcases hS c hs with h3 | h3 <;> omega
  refine ⟨⟨n, ws, R, XS, TT, bv, lv, .slice RA n rcap, by have := h.hnk; omega, h.hwl, h.hnM, h.hws, h.hws0, (h.ti.to F ht (fun i hi c hc => hn c (h.ti.bl i hi c hc).1 (by have := (h.bx i hi).1 c hc; omega))).le hB, h.wi.to F (fun c hc => hn c (h.wi.lw.lt c hc).1 (by have := h.lx.2 c hc; omega)) (fun i hi c hc => hn c (h.wi.ll i hi c hc).1 (by have := (h.bx i hi).2 c hc; omega)), h.ni, h.n0, by have := F.size; have := h.s5; omega, F.below h.bel (fun c hs => by rcases hS c hs with h3 | h3 <;> omega)⟩, ?_⟩
  rw [← h.d6]
  exact F.block dd (by have := h.s5; omega) (hn dd hdb (Nat.le_refl _))
theorem SwI.below (h : SwI w W5 M k n dd t a b g mb base lcap rcap PB PO cb LA RA A IN KD ID PR ST NN f p d r m L ws R XS TT bv lv) {X : World} (hb : Below W5.heap.size W5 X) :
    PI w X t a b g mb M base (2000 * k + 1500) (k + 1) (.slice LA n lcap) ∧ X.heap[dd]? = some (.cells #[.int .i64 KD, .int .i64 ID, .int .i64 PR, .int .i64 ST, .int .u64 NN, .int .u64 f, .int .u64 p, .int .u64 d, .int .u64 r, .int .u64 m, .slice A L.length cb] 107 (0, 0)) :=
  h.same (S := fun _ => False) (Fr.of_below hb) (fun c hc => hc.elim) (by omega) (h.ti.tb.below hb)
theorem SwI.low2 (h : SwI w W5 M k n dd t a b g mb base lcap rcap PB PO cb LA RA A IN KD ID PR ST NN f p d r m L ws R XS TT bv lv) : ∀ c, own2 b g c → (c < base ∧ w.heap.size ≤ c) ∨ c = dd + 1 := fun c hc => by
  have h1 := h.ti.tb.lt
  have h2 := h.l5
  rcases hc with hc | hc <;> omega
/-- The table where the dummy is written. -/
theorem SwI.dummy (h : SwI w W5 M k n dd t a b g mb base lcap rcap PB PO cb LA RA A IN KD ID PR ST NN f p d r m L ws R XS TT bv lv) (j : Nat) (v : Value) : TbAt (W5.setCell ⟨dd + 1, j, none⟩ v) t a b g mb ws (2000 * k) (.slice RA n rcap) n R (CG (stOf ws) (prOf TT) n) base := by
  have f : Fr (fun x => x = dd + 1) W5 (W5.setCell ⟨dd + 1, j, none⟩ v) := Fr.set (S := fun x => x = dd + 1) (Fr.refl _ W5) (p := ⟨dd + 1, j, none⟩) rfl _
  refine h.ti.tb.frAll f (fun x hx e => ?_)
  have hl := h.ti.tb.lt
  have hd := h.hdb
  rcases hx with hx | hx | hx | hx | hx | hx
  · omega
  · omega
  · omega
  · omega
  · omega
  · have := h.lx.1 x hx; omega
/-- The slices' forms where the number is one of a task. -/
theorem SwI.form (h : SwI w W5 M k n dd t a b g mb base lcap rcap PB PO cb LA RA A IN KD ID PR ST NN f p d r m L ws R XS TT bv lv) (n0 : 0 < n) : ∃ q lq, RA = some ⟨q, 0, none⟩ ∧ LA = some ⟨lq, 0, none⟩ ∧ q ≠ lq ∧ q < dd ∧ lq < dd ∧ base ≤ q ∧ base ≤ lq := by
  rcases h.ti.tb.rows.2 with ⟨_, h1⟩ | ⟨q, c1, cur1, e1, b1, _⟩
  · omega
  rcases h.wi.lw.2 with ⟨_, h1⟩ | ⟨lq, c2, cur2, e2, b2, _⟩
  · omega
  simp only [Value.slice.injEq] at e1 e2
  obtain ⟨rfl, _⟩ := e1
  obtain ⟨rfl, _⟩ := e2
  exact ⟨q, lq, rfl, rfl, fun e => h.ni.a1 q rfl (by rw [e]; rfl), h.lx.1 q rfl, h.lx.2 lq rfl, b1, b2⟩
/-- A task's fields turned, the table's row and the statement's row told. -/
theorem SwI.fin (h : SwI w W5 M k n dd t a b g mb base lcap rcap PB PO cb LA RA A IN KD ID PR ST NN f p d r m L ws R XS TT bv lv) {X : World} {ws' : List Int} {R' XS' : List Value} {TT' : Nat → Tk} {B : Int} (hB : B ≤ 2000 * k + 1500)
    (ht : TI X t a b g mb ws' B (.slice RA n rcap) n R' TT' base bv) (hw : WI X base (stOf ws') (.slice LA n lcap) n XS' TT' lv) (hl : ws'.length = M) (h1 : ∀ j, j < n → 1 ≤ ws'.getD j 0 % 8 ∧ ws'.getD j 0 % 8 ≤ 6) (h0 : ∀ j, n ≤ j → ws'.getD j 0 = 0) (hs : base ≤ X.heap.size) (hb : Below w.heap.size w X) : PI w X t a b g mb M base (2000 * k + 1500) (k + 1) (.slice LA n lcap) :=
  ⟨n, ws', R', XS', TT', bv, lv, .slice RA n rcap, by have := h.hnk; omega, hl, h.hnM, h1, h0, ht.le hB, hw, h.ni, h.n0, hs, hb⟩
theorem set_dd {X : World} {dd c j : Nat} {o : Obj} (h : X.heap[dd]? = some o) (hc : dd ≠ c) (v : Value) : (X.setCell ⟨c, j, none⟩ v).heap[dd]? = some o := (Below.heap_setCell X ⟨c, j, none⟩ v dd hc).trans h
theorem SwI.put2 {q lq kk : Nat} (h : SwI w W5 M k n dd t a b g mb base lcap rcap PB PO cb (some ⟨lq, 0, none⟩) (some ⟨q, 0, none⟩) A IN KD ID PR ST NN f p d r m L ws R XS TT bv lv) (hkk : kk < n) {j j' : Nat} (hj : j < 13) (hj' : j' < 14) (v : Value) (T' : Tk)
    (r1 : tabRow kk T' (bv kk) = (tabRow kk (TT kk) (bv kk)).set j v) (r2 : lawRow kk (ws.getD kk 0 % 8) T' (lv kk) = (lawRow kk (ws.getD kk 0 % 8) (TT kk) (lv kk)).set j' v) (hL : T'.L = (TT kk).L) (hp : T'.pr = (TT kk).pr) (hok : TkOk T') :
    PI w ((W5.setCell ⟨q, kk * 13 + j, none⟩ v).setCell ⟨lq, kk * 14 + j', none⟩ v) t a b g mb M base (2000 * k + 1500) (k + 1) (.slice (some ⟨lq, 0, none⟩) n lcap) ∧ ((W5.setCell ⟨q, kk * 13 + j, none⟩ v).setCell ⟨lq, kk * 14 + j', none⟩ v).heap[dd]? = some (.cells #[.int .i64 KD, .int .i64 ID, .int .i64 PR, .int .i64 ST, .int .u64 NN, .int .u64 f, .int .u64 p, .int .u64 d, .int .u64 r, .int .u64 m, .slice A L.length cb] 107 (0, 0)) := by
  obtain ⟨q', lq', e1, e2, hne, hq, hlq, bq, blq⟩ := h.form (by omega)
  simp only [Option.some.injEq, Addr.mk.injEq, and_true] at e1 e2
  subst e1 e2
  have hlo := h.lo
  have t1 := h.ti.put h.ni hkk hj v (TT' := upd TT kk T') (by rw [upd_self]; exact r1) (fun i hi => upd_ne _ _ _ hi) (by rw [upd_self]; exact hL) (by rw [upd_self]; exact hp) (by rw [upd_self]; exact hok)
  have t2 := t1.oset (c := lq) (j := kk * 14 + j') blq hne (fun i hi e => (h.ni.a2 i hi lq e).2 rfl) v
  have w1 := h.wi.oset (c := q) (j := kk * 13 + j) (fun e => h.ni.a1 q rfl e) (fun i hi e => (h.ni.a3 i hi q e).1 rfl) v
  have w2 := w1.put h.ni hkk hj' v (st' := stOf ws) (TT' := upd TT kk T') (by rw [upd_self]; exact r2) (fun i hi => ⟨rfl, upd_ne _ _ _ hi⟩) (by rw [upd_self]; exact hL)
  exact ⟨h.fin (by omega) t2 w2 h.hwl h.hws h.hws0 (by simp; have := h.s5; omega) ((h.bel.setCell (p := (⟨q, kk * 13 + j, none⟩ : Addr)) (by show w.heap.size ≤ q; omega) _).setCell (p := (⟨lq, kk * 14 + j', none⟩ : Addr)) (by show w.heap.size ≤ lq; omega) _), set_dd (set_dd h.d6 (by omega) _) (by omega) _⟩
theorem can45 {x s : Int} (h : canB x s = true) (hs : s = 4 ∨ s = 5) : x = 3 := by
  have := (can_cases x s).2 h
  omega
theorem getD_set_at {ws : List Int} {k : Nat} (hk : k < ws.length) (y : Int) : (ws.set k y).getD k 0 = y := by
  rw [List.getD_eq_getElem?_getD, List.getElem?_set_self hk]; rfl
theorem getD_set_off {ws : List Int} {k j : Nat} (hj : j ≠ k) (y : Int) : (ws.set k y).getD j 0 = ws.getD j 0 := by
  rw [List.getD_eq_getElem?_getD, List.getElem?_set_ne (fun e => hj e.symm), ← List.getD_eq_getElem?_getD]
def turnT (T : Tk) (s : Int) : Tk := if s = 4 ∨ s = 5 then { T with ru := IntKind.u64.wrap (T.ru + 1) } else T
theorem turnT_L (T : Tk) (s : Int) : (turnT T s).L = T.L ∧ (turnT T s).pr = T.pr ∧ (TkOk T → TkOk (turnT T s)) := by
  unfold turnT
  split
  · exact ⟨rfl, rfl, fun h => ⟨h.1, h.2.1, h.2.2.1, h.2.2.2.1, h.2.2.2.2.1, h.2.2.2.2.2.1, h.2.2.2.2.2.2⟩⟩
  · exact ⟨rfl, rfl, id⟩
theorem SwI.turnTI {q lq kk : Nat} (h : SwI w W5 M k n dd t a b g mb base lcap rcap PB PO cb (some ⟨lq, 0, none⟩) (some ⟨q, 0, none⟩) A IN KD ID PR ST NN f p d r m L ws R XS TT bv lv) (hkk : kk < n) (s1 : 1 ≤ ST) (s6 : ST ≤ 6) {X : World} {B : Int} (F : Fr (own3 b g mb q) W5 X)
    (ht : TbAt X t a b g mb (ws.set kk (nextI (ws.getD kk 0) ST)) B (.slice (some ⟨q, 0, none⟩) n rcap) n (if ST = 4 ∨ ST = 5 then R.set (kk * 13 + 5) (.int .u64 (IntKind.u64.wrap ((TT kk).ru + 1))) else R) (turnC (CG (stOf ws) (prOf TT) n) (ws.getD kk 0 % 8) ST (TT kk).pr) base) :
    TI X t a b g mb (ws.set kk (nextI (ws.getD kk 0) ST)) B (.slice (some ⟨q, 0, none⟩) n rcap) n (if ST = 4 ∨ ST = 5 then R.set (kk * 13 + 5) (.int .u64 (IntKind.u64.wrap ((TT kk).ru + 1))) else R) (upd TT kk (turnT (TT kk) ST)) base bv := by
  have hwl := h.hwl
  have hnM := h.hnM
  obtain ⟨hTL, hTp, hTo⟩ := turnT_L (TT kk) ST
  have hst : ∀ i, i ≠ kk → stOf (ws.set kk (nextI (ws.getD kk 0) ST)) i = stOf ws i := fun i hi => by show (ws.set kk _).getD i 0 % 8 = ws.getD i 0 % 8; rw [getD_set_off hi]
  have hsk : stOf (ws.set kk (nextI (ws.getD kk 0) ST)) kk = ST := by show (ws.set kk _).getD kk 0 % 8 = ST; rw [getD_set_at (by omega), next_mod _ ST (by omega) (by omega)]
  have hpr : prOf (upd TT kk (turnT (TT kk) ST)) = prOf TT := by
    funext i
    show (upd TT kk (turnT (TT kk) ST) i).pr = (TT i).pr
    by_cases e : i = kk
    · rw [e, upd_self, hTp]
    · rw [upd_ne _ _ _ e]
  have hnS : ∀ i, i < n → ∀ c, (bv i).ownBlock = some c → ¬ own3 b g mb q c := fun i hi c hc hs => by
    have h1 := (h.ti.bl i hi c hc).1
    have h2 := h.ti.tb.lt
    have h3 := (h.ni.a2 i hi c hc).1
    rcases hs with hs | hs | hs
    · rcases hs with hs | hs <;> omega
    · omega
    · exact h3 (by rw [hs]; rfl)
  refine ⟨?_, ?_, fun i hi => ?_, fun i hi c hc => ⟨(h.ti.bl i hi c hc).1, Nat.lt_of_lt_of_le (h.ti.bl i hi c hc).2 F.size⟩, fun i hi => ?_⟩
  · rw [hpr, CG_turn kk hst n hkk, hsk]
    exact ht
  · by_cases h45 : ST = 4 ∨ ST = 5
    · rw [if_pos h45]
      exact h.ti.rr.set hkk (by decide) (by rw [upd_self, turnT, if_pos h45]; rfl) (fun i hi => by rw [upd_ne _ _ _ hi])
    · rw [if_neg h45]
      refine h.ti.rr.to (fun i hi => ?_)
      by_cases e : i = kk
      · rw [e, upd_self, turnT, if_neg h45]
      · rw [upd_ne _ _ _ e]
  · have h1 := (h.ti.bb i hi).fr F (hnS i hi)
    by_cases e : i = kk
    · subst e; rw [upd_self, hTL]; exact h1
    · rw [upd_ne _ _ _ e]; exact h1
  · by_cases e : i = kk
    · subst e; rw [upd_self]; exact hTo (h.ti.ok i hi)
    · rw [upd_ne _ _ _ e]; exact h.ti.ok i hi
theorem SwI.turnWI {q lq kk : Nat} (h : SwI w W5 M k n dd t a b g mb base lcap rcap PB PO cb (some ⟨lq, 0, none⟩) (some ⟨q, 0, none⟩) A IN KD ID PR ST NN f p d r m L ws R XS TT bv lv) (hkk : kk < n) (s1 : 1 ≤ ST) (s6 : ST ≤ 6) {X : World} (F : Fr (own3 b g mb q) W5 X) :
    WI X base (stOf ws) (.slice (some ⟨lq, 0, none⟩) n lcap) n XS TT lv ∧ X.heap[dd]? = W5.heap[dd]? := by
  have hl := h.ti.tb.lt
  obtain ⟨q', lq', e1, e2, hne, hq, hlq, bq, blq⟩ := h.form (by omega)
  simp only [Option.some.injEq, Addr.mk.injEq, and_true] at e1 e2
  subst e1 e2
  have hdb := h.hdb
  have hs5 := h.s5
  refine ⟨h.wi.fr h.ni F (fun c hs => ?_), F.block dd (by omega) (fun hs => ?_)⟩
  · rcases hs with hs | hs | hs
    · rcases hs with hs | hs
      · exact .inl (by omega)
      · exact .inl (by omega)
    · exact .inl (by omega)
    · exact .inr (by rw [hs]; rfl)
  · rcases hs with hs | hs | hs
    · rcases hs with hs | hs <;> omega
    · omega
    · omega
/-- The end of a turn: the statement's row has its new state (and one run more). -/
theorem SwI.turnPI {q lq kk : Nat} (h : SwI w W5 M k n dd t a b g mb base lcap rcap PB PO cb (some ⟨lq, 0, none⟩) (some ⟨q, 0, none⟩) A IN KD ID PR ST NN f p d r m L ws R XS TT bv lv) (hkk : kk < n) (s1 : 1 ≤ ST) (s6 : ST ≤ 6) {X : World} {B : Int} (hB : B ≤ 2000 * k + 1500) (F : Fr (own3 b g mb q) W5 X)
    (ht : TbAt X t a b g mb (ws.set kk (nextI (ws.getD kk 0) ST)) B (.slice (some ⟨q, 0, none⟩) n rcap) n (if ST = 4 ∨ ST = 5 then R.set (kk * 13 + 5) (.int .u64 (IntKind.u64.wrap ((TT kk).ru + 1))) else R) (turnC (CG (stOf ws) (prOf TT) n) (ws.getD kk 0 % 8) ST (TT kk).pr) base)
    {Y : World} (hY : (Y = X.setCell ⟨lq, kk * 14 + 2, none⟩ (.int .i64 ST) ∧ ((TT kk).p ≠ 0 ∨ ¬ (ST = 4 ∨ ST = 5))) ∨ (Y = (X.setCell ⟨lq, kk * 14 + 5, none⟩ (.int .u64 (IntKind.u64.wrap ((TT kk).ru + 1)))).setCell ⟨lq, kk * 14 + 2, none⟩ (.int .i64 ST) ∧ (TT kk).p = 0 ∧ (ST = 4 ∨ ST = 5))) :
    PI w Y t a b g mb M base (2000 * k + 1500) (k + 1) (.slice (some ⟨lq, 0, none⟩) n lcap) ∧ Y.heap[dd]? = some (.cells #[.int .i64 KD, .int .i64 ID, .int .i64 PR, .int .i64 ST, .int .u64 NN, .int .u64 f, .int .u64 p, .int .u64 d, .int .u64 r, .int .u64 m, .slice A L.length cb] 107 (0, 0)) := by
  have t1 := h.turnTI hkk s1 s6 F ht
  obtain ⟨w1, hdd⟩ := h.turnWI hkk s1 s6 F
  obtain ⟨hTL, hTp, hTo⟩ := turnT_L (TT kk) ST
  obtain ⟨q', lq', e1, e2, hne, hq, hlq, bq, blq⟩ := h.form (by omega)
  simp only [Option.some.injEq, Addr.mk.injEq, and_true] at e1 e2
  subst e1 e2
  have hwl := h.hwl
  have hnM := h.hnM
  have hlo := h.lo
  have hl := h.ti.tb.lt
  have hl5 := h.l5
  have hst : ∀ i, i ≠ kk → stOf (ws.set kk (nextI (ws.getD kk 0) ST)) i = stOf ws i := fun i hi => by show (ws.set kk _).getD i 0 % 8 = ws.getD i 0 % 8; rw [getD_set_off hi]
  have hsk : stOf (ws.set kk (nextI (ws.getD kk 0) ST)) kk = ST := by show (ws.set kk _).getD kk 0 % 8 = ST; rw [getD_set_at (by omega), next_mod _ ST (by omega) (by omega)]
  have hbX : Below w.heap.size w X := F.below h.bel (fun c hs => by
    rcases hs with hs | hs | hs
    · rcases hs with hs | hs <;> omega
    · omega
    · omega)
  have hsX : base ≤ X.heap.size := by have := F.size; have := h.s5; have := h.hdb; omega
  have hw1 : ∀ j, j < n → 1 ≤ (ws.set kk (nextI (ws.getD kk 0) ST)).getD j 0 % 8 ∧ (ws.set kk (nextI (ws.getD kk 0) ST)).getD j 0 % 8 ≤ 6 := fun j hj => by
    by_cases e : j = kk
    · rw [e, getD_set_at (by omega), next_mod _ ST (by omega) (by omega)]; omega
    · rw [getD_set_off e]; exact h.hws j hj
  have hw0 : ∀ j, n ≤ j → (ws.set kk (nextI (ws.getD kk 0) ST)).getD j 0 = 0 := fun j hj => by rw [getD_set_off (by omega)]; exact h.hws0 j hj
  have hX : X.heap[dd]? = some (.cells #[.int .i64 KD, .int .i64 ID, .int .i64 PR, .int .i64 ST, .int .u64 NN, .int .u64 f, .int .u64 p, .int .u64 d, .int .u64 r, .int .u64 m, .slice A L.length cb] 107 (0, 0)) := hdd.trans h.d6
  rcases hY with ⟨rfl, hc⟩ | ⟨rfl, hp0, h45⟩
  · have hr : lawRow kk ST (turnT (TT kk) ST) (lv kk) = (lawRow kk (ws.getD kk 0 % 8) (TT kk) (lv kk)).set 2 (.int .i64 ST) := by
      unfold turnT
      by_cases h45 : ST = 4 ∨ ST = 5
      · have hp : (TT kk).p ≠ 0 := by rcases hc with h1 | h1; exact h1; exact absurd h45 h1
        rw [if_pos h45]
        simp [lawRow, Tk.RU, Tk.MI, hp]
      · rw [if_neg h45]; rfl
    have w2 := w1.put h.ni hkk (j := 2) (by decide) (.int .i64 ST) (st' := stOf (ws.set kk (nextI (ws.getD kk 0) ST))) (TT' := upd TT kk (turnT (TT kk) ST)) (by rw [hsk, upd_self]; exact hr) (fun i hi => ⟨hst i hi, upd_ne _ _ _ hi⟩) (by rw [upd_self]; exact hTL)
    exact ⟨h.fin hB (t1.oset (c := lq) (j := kk * 14 + 2) blq hne (fun i hi e => (h.ni.a2 i hi lq e).2 rfl) _) w2 (by rw [List.length_set]; exact hwl) hw1 hw0 (by simp; omega) (hbX.setCell (p := (⟨lq, kk * 14 + 2, none⟩ : Addr)) (by show w.heap.size ≤ lq; omega) _), set_dd hX (by omega) _⟩
  · have hr1 : lawRow kk (ws.getD kk 0 % 8) (turnT (TT kk) ST) (lv kk) = (lawRow kk (ws.getD kk 0 % 8) (TT kk) (lv kk)).set 5 (.int .u64 (IntKind.u64.wrap ((TT kk).ru + 1))) := by
      unfold turnT
      rw [if_pos h45]
      simp [lawRow, Tk.RU, Tk.MI, hp0]
    have w2 := w1.put h.ni hkk (j := 5) (by decide) (.int .u64 (IntKind.u64.wrap ((TT kk).ru + 1))) (st' := stOf ws) (TT' := upd TT kk (turnT (TT kk) ST)) (by rw [upd_self]; exact hr1) (fun i hi => ⟨rfl, upd_ne _ _ _ hi⟩) (by rw [upd_self]; exact hTL)
    have w3 := w2.put h.ni hkk (j := 2) (by decide) (.int .i64 ST) (st' := stOf (ws.set kk (nextI (ws.getD kk 0) ST))) (TT' := upd TT kk (turnT (TT kk) ST)) (by rw [hsk]; rfl) (fun i hi => ⟨hst i hi, rfl⟩) rfl
    have t2 := t1.oset (c := lq) (j := kk * 14 + 5) blq hne (fun i hi e => (h.ni.a2 i hi lq e).2 rfl) (.int .u64 (IntKind.u64.wrap ((TT kk).ru + 1)))
    have t3 := t2.oset (c := lq) (j := kk * 14 + 2) blq hne (fun i hi e => (h.ni.a2 i hi lq e).2 rfl) (.int .i64 ST)
    exact ⟨h.fin hB t3 w3 (by rw [List.length_set]; exact hwl) hw1 hw0 (by simp; omega) ((hbX.setCell (p := (⟨lq, kk * 14 + 5, none⟩ : Addr)) (by show w.heap.size ≤ lq; omega) _).setCell (p := (⟨lq, kk * 14 + 2, none⟩ : Addr)) (by show w.heap.size ≤ lq; omega) _), set_dd (set_dd hX (by omega) _) (by omega) _⟩
theorem SwI.ovfr (h : SwI w W5 M k n dd t a b g mb base lcap rcap PB PO cb LA RA A IN KD ID PR ST NN f p d r m L ws R XS TT bv lv) {X : World} (F : Fr (own2 b g) W5 X) : OpsAt X A L := by
  have h1 : OpsV X (.slice A L.length cb) L := h.ov.frOr F (by
    rcases h.ob with e | e
    · exact .inl e
    · exact .inr (fun c hc hs => by
        have := e c hc
        have := h.l5
        rcases hs with hs | hs <;> omega))
  obtain ⟨A2, c2, e2, h2⟩ := h1.form
  simp only [Value.slice.injEq] at e2
  obtain ⟨rfl, _⟩ := e2
  exact h2
theorem PI_below {X Y : World} {B : Int} {Lv : Value} {o : Obj} (h : PI w X t a b g mb M base B k Lv ∧ X.heap[dd]? = some o) (hb : Below X.heap.size X Y) : PI w Y t a b g mb M base B k Lv ∧ Y.heap[dd]? = some o := by
  obtain ⟨⟨n, ws, R, XS, TT, bv, lv, rv, h1, h2, h3, h4, h5, h6, h7, h8, h9, h10, h11⟩, hd⟩ := h
  exact ⟨⟨n, ws, R, XS, TT, bv, lv, rv, h1, h2, h3, h4, h5, h6.below hb, h7.below hb, h8, h9, Nat.le_trans h10 hb.size, below_step hb h11⟩, (hb.block dd (Array.getElem?_eq_some_iff.1 hd).1).trans hd⟩
def agT (T : Tk) (D R' M' : Int) : Tk := { T with d := D, r := R', m := M' }
/-- The statement's rows, cell by cell. -/
structure WJ (X : World) (base : Nat) (Lv : Value) (n : Nat) (XS : List Value) (lr : Nat → List Value) (TT : Nat → Tk) (lv : Nat → Value) : Prop where
  lw : X.ownsRow base 110 14 Lv n XS
  xx : Blk XS 14 n lr
  lb : ∀ k, k < n → OpsV X (lv k) (TT k).L
  ll : ∀ k, k < n → ∀ c, (lv k).ownBlock = some c → base ≤ c ∧ c < X.heap.size
structure AgI (w X : World) (t a b g mb base : Nat) (ws : List Int) (B : Int) (q lq n rcap lcap : Nat) (R XS : List Value) (TT TU : Nat → Tk) (lr : Nat → List Value) (bv lv : Nat → Value) (dd xb : Nat) (KD ID PR ST NN f p d r m : Int) (A : Option Addr) (ll cb : Nat) : Prop where
  ti : TI X t a b g mb ws B (.slice (some ⟨q, 0, none⟩) n rcap) n R TT base bv
  wi : WJ X base (.slice (some ⟨lq, 0, none⟩) n lcap) n XS lr TU lv
  dh : X.heap[dd]? = some (.cells #[.int .i64 KD, .int .i64 ID, .int .i64 PR, .int .i64 ST, .int .u64 NN, .int .u64 f, .int .u64 p, .int .u64 d, .int .u64 r, .int .u64 m, .slice A ll cb] 107 (0, 0))
  bel : Below w.heap.size w X
  sz : dd < X.heap.size ∧ xb < X.heap.size
  ne : xb ≠ q ∧ xb ≠ lq ∧ xb ≠ dd ∧ base ≤ xb ∧ w.heap.size ≤ xb
  nq : q ≠ lq ∧ dd ≠ lq ∧ base ≤ lq ∧ w.heap.size ≤ lq
  nb : ∀ i, i < n → (bv i).ownBlock ≠ some xb ∧ (lv i).ownBlock ≠ some xb
  nl : ∀ i, i < n → (bv i).ownBlock ≠ some lq ∧ (lv i).ownBlock ≠ some lq
section
variable {X Y : World} {B : Int} {q lq xb ll : Nat} {TU : Nat → Tk} {lr : Nat → List Value}
theorem AgI.below (h : AgI w X t a b g mb base ws B q lq n rcap lcap R XS TT TU lr bv lv dd xb KD ID PR ST NN f p d r m A ll cb) (hb : Below X.heap.size X Y) : AgI w Y t a b g mb base ws B q lq n rcap lcap R XS TT TU lr bv lv dd xb KD ID PR ST NN f p d r m A ll cb := by
  have f1 : Fr (fun _ => False) X Y := Fr.of_below hb
  exact ⟨h.ti.below hb, ⟨ownsRow_fr h.wi.lw f1 (fun _ _ hs => hs), h.wi.xx, fun i hi => (h.wi.lb i hi).fr f1 (fun _ _ hs => hs), fun i hi c hc => ⟨(h.wi.ll i hi c hc).1, Nat.lt_of_lt_of_le (h.wi.ll i hi c hc).2 hb.size⟩⟩, (hb.block dd h.sz.1).trans h.dh, below_step hb h.bel, ⟨Nat.lt_of_lt_of_le h.sz.1 hb.size, Nat.lt_of_lt_of_le h.sz.2 hb.size⟩, h.ne, h.nq, h.nb, h.nl⟩
theorem AgI.dr (h : AgI w X t a b g mb base ws B q lq n rcap lcap R XS TT TU lr bv lv dd xb KD ID PR ST NN f p d r m A ll cb) : AgI w X.drew t a b g mb base ws B q lq n rcap lcap R XS TT TU lr bv lv dd xb KD ID PR ST NN f p d r m A ll cb := h.below (below_dr (Below.refl _ _))
theorem AgI.xset (h : AgI w X t a b g mb base ws B q lq n rcap lcap R XS TT TU lr bv lv dd xb KD ID PR ST NN f p d r m A ll cb) (j : Nat) (v : Value) : AgI w (X.setCell ⟨xb, j, none⟩ v) t a b g mb base ws B q lq n rcap lcap R XS TT TU lr bv lv dd xb KD ID PR ST NN f p d r m A ll cb := by
  obtain ⟨n1, n2, n3, n4, n5⟩ := h.ne
  have f1 : Fr (fun k => k = xb) X (X.setCell ⟨xb, j, none⟩ v) := Fr.set (S := fun k => k = xb) (Fr.refl _ X) (p := ⟨xb, j, none⟩) rfl _
  exact ⟨h.ti.oset n4 (fun e => n1 e.symm) (fun i hi => (h.nb i hi).1) v, ⟨ownsRow_fr h.wi.lw f1 (fun c hc e => by simp [Value.ownBlock] at hc; omega), h.wi.xx, fun i hi => (h.wi.lb i hi).fr f1 (fun c hc e => (h.nb i hi).2 (by rw [hc, e])), fun i hi c hc => ⟨(h.wi.ll i hi c hc).1, by simpa using (h.wi.ll i hi c hc).2⟩⟩, set_dd h.dh (fun e => n3 e.symm) v, h.bel.setCell (p := (⟨xb, j, none⟩ : Addr)) n5 v, by simpa using h.sz, h.ne, h.nq, h.nb, h.nl⟩
theorem AgI.lset (h : AgI w X t a b g mb base ws B q lq n rcap lcap R XS TT TU lr bv lv dd xb KD ID PR ST NN f p d r m A ll cb) {kk j : Nat} (hkk : kk < n) (hj : j < 14) (v : Value) :
    AgI w (X.setCell ⟨lq, kk * 14 + j, none⟩ v) t a b g mb base ws B q lq n rcap lcap R (XS.set (kk * 14 + j) v) TT TU (upd lr kk ((lr kk).set j v)) bv lv dd xb KD ID PR ST NN f p d r m A ll cb := by
  obtain ⟨n1, n2, n3, n4⟩ := h.nq
  have f1 : Fr (fun k => k = lq) X (X.setCell ⟨lq, kk * 14 + j, none⟩ v) := Fr.set (S := fun k => k = lq) (Fr.refl _ X) (p := ⟨lq, kk * 14 + j, none⟩) rfl _
  exact ⟨h.ti.oset n3 n1 (fun i hi => (h.nl i hi).1) v, ⟨(h.wi.lw.stored (kk * 14 + j) v).1, h.wi.xx.set hkk hj (upd_self _ _ _) (fun i hi => upd_ne _ _ _ hi), fun i hi => (h.wi.lb i hi).fr f1 (fun c hc e => (h.nl i hi).2 (by rw [hc, e])), fun i hi c hc => ⟨(h.wi.ll i hi c hc).1, by simpa using (h.wi.ll i hi c hc).2⟩⟩, set_dd h.dh n2 v, h.bel.setCell (p := (⟨lq, kk * 14 + j, none⟩ : Addr)) n4 v, by simpa using h.sz, h.ne, h.nq, h.nb, h.nl⟩
theorem AgI.cell (h : AgI w X t a b g mb base ws B q lq n rcap lcap R XS TT TU lr bv lv dd xb KD ID PR ST NN f p d r m A ll cb) {kk j : Nat} (hkk : kk < n) (hj : j < 14) : X.cell? ⟨lq, kk * 14 + j, none⟩ = (lr kk)[j]? := (h.wi.lw.cellAt (kk * 14 + j) (by omega)).trans (h.wi.xx.at_ kk hkk j hj)
theorem AgI.free (h : AgI w X t a b g mb base ws B q lq n rcap lcap R XS TT TU lr bv lv dd xb KD ID PR ST NN f p d r m A ll cb) (j : Nat) : X.frozen? ⟨lq, j, none⟩ = false := h.wi.lw.frozenAt j
end
/-- How it begins. -/
theorem SwI.ag {q lq kk xb : Nat} (h : SwI w W5 M k n dd t a b g mb base lcap rcap PB PO cb (some ⟨lq, 0, none⟩) (some ⟨q, 0, none⟩) A IN KD ID PR ST NN f p d r m L ws R XS TT bv lv) (hkk : kk < n) {D R' M' : Int} (hok : TkOk (agT (TT kk) D R' M')) {X : World} (F : Fr (own1 q) W5 X)
    (ht : TbAt X t a b g mb ws (2000 * k) (.slice (some ⟨q, 0, none⟩) n rcap) n (setJob R kk (TT kk).f (TT kk).p D R' M') (CG (stOf ws) (prOf TT) n) base) {o : Obj} (hxb : xb = X.heap.size) :
    AgI w (X.alloc o) t a b g mb base ws (2000 * k) q lq n rcap lcap (setJob R kk (TT kk).f (TT kk).p D R' M') XS (upd TT kk (agT (TT kk) D R' M')) TT (fun i => lawRow i (ws.getD i 0 % 8) (TT i) (lv i)) bv lv dd xb KD ID PR ST NN f p d r m A L.length cb := by
  obtain ⟨q', lq', e1, e2, hne, hq, hlq, bq, blq⟩ := h.form (by omega)
  simp only [Option.some.injEq, Addr.mk.injEq, and_true] at e1 e2
  subst e1 e2
  have hsz := F.size
  have hs5 := h.s5
  have hlo := h.lo
  have hdb := h.hdb
  have F2 : Fr (own1 q) W5 (X.alloc o) := F.al o
  have hb : Below X.heap.size X (X.alloc o) := below_al (Below.refl _ _) o
  have hpr : prOf (upd TT kk (agT (TT kk) D R' M')) = prOf TT := by
    funext i
    show (upd TT kk (agT (TT kk) D R' M') i).pr = (TT i).pr
    by_cases e : i = kk
    · rw [e, upd_self]; rfl
    · rw [upd_ne _ _ _ e]
  have hw := h.wi.fr h.ni F2 (fun c hc => .inr (by rw [show c = q from hc]; rfl))
  refine ⟨⟨by rw [hpr]; exact ht.below hb, ?_, fun i hi => ?_, fun i hi c hc => ⟨(h.ti.bl i hi c hc).1, Nat.lt_of_lt_of_le (h.ti.bl i hi c hc).2 F2.size⟩, fun i hi => ?_⟩, ⟨hw.lw, hw.xx, hw.lb, hw.ll⟩, ?_, F2.below h.bel (fun c hc => by have : c = q := hc; omega), ⟨by simp; omega, by simp; omega⟩, ⟨by omega, by omega, by omega, by omega, by omega⟩, ⟨hne, by omega, blq, by omega⟩, fun i hi => ⟨fun e => by have := (h.bx i hi).1 xb e; omega, fun e => by have := (h.bx i hi).2 xb e; omega⟩, fun i hi => ⟨fun e => (h.ni.a2 i hi lq e).2 rfl, fun e => (h.ni.a3 i hi lq e).2 rfl⟩⟩
  · unfold setJob
    have h1 := h.ti.rr.set (row' := upd (fun i => tabRow i (TT i) (bv i)) kk ((tabRow kk (TT kk) (bv kk)).set 8 (.int .u64 (TT kk).f))) hkk (show 8 < 13 by decide) (v := .int .u64 (TT kk).f) (upd_self _ _ _) (fun i hi => upd_ne _ _ _ hi)
    have h2 := h1.set (row' := upd (fun i => tabRow i (TT i) (bv i)) kk (((tabRow kk (TT kk) (bv kk)).set 8 (.int .u64 (TT kk).f)).set 9 (.int .u64 (TT kk).p))) hkk (show 9 < 13 by decide) (v := .int .u64 (TT kk).p) (by rw [upd_self, upd_self]) (fun i hi => by rw [upd_ne _ _ _ hi, upd_ne _ _ _ hi])
    have h3 := h2.set (row' := upd (fun i => tabRow i (TT i) (bv i)) kk ((((tabRow kk (TT kk) (bv kk)).set 8 (.int .u64 (TT kk).f)).set 9 (.int .u64 (TT kk).p)).set 10 (.int .u64 D))) hkk (show 10 < 13 by decide) (v := .int .u64 D) (by rw [upd_self, upd_self]) (fun i hi => by rw [upd_ne _ _ _ hi, upd_ne _ _ _ hi])
    have h4 := h3.set (row' := upd (fun i => tabRow i (TT i) (bv i)) kk (((((tabRow kk (TT kk) (bv kk)).set 8 (.int .u64 (TT kk).f)).set 9 (.int .u64 (TT kk).p)).set 10 (.int .u64 D)).set 11 (.int .u64 R'))) hkk (show 11 < 13 by decide) (v := .int .u64 R') (by rw [upd_self, upd_self]) (fun i hi => by rw [upd_ne _ _ _ hi, upd_ne _ _ _ hi])
    have h5 := h4.set (row' := fun i => tabRow i (upd TT kk (agT (TT kk) D R' M') i) (bv i)) hkk (show 12 < 13 by decide) (v := .int .u64 M') (by rw [upd_self, upd_self]; rfl) (fun i hi => by rw [upd_ne _ _ _ hi, upd_ne _ _ _ hi])
    exact h5
  · have h1 := (h.ti.bb i hi).fr F2 (fun c hc e => (h.ni.a2 i hi c hc).1 (by rw [show c = q from e]; rfl))
    by_cases e : i = kk
    · subst e; rw [upd_self]; exact h1
    · rw [upd_ne _ _ _ e]; exact h1
  · by_cases e : i = kk
    · subst e; rw [upd_self]; exact hok
    · rw [upd_ne _ _ _ e]; exact h.ti.ok i hi
  · rw [← h.d6]
    exact F2.block dd (by omega) (fun e => by have : dd = q := e; omega)
/-- How it ends. -/
theorem SwI.agEnd {q lq kk xb : Nat} (h : SwI w W5 M k n dd t a b g mb base lcap rcap PB PO cb (some ⟨lq, 0, none⟩) (some ⟨q, 0, none⟩) A IN KD ID PR ST NN f p d r m L ws R XS TT bv lv) (hkk : kk < n) (hp : (TT kk).p ≠ 0) {D R' M' : Int} {X : World} {R2 XS2 : List Value} {lr : Nat → List Value}
    (hA : AgI w X t a b g mb base ws (2000 * k) q lq n rcap lcap R2 XS2 (upd TT kk (agT (TT kk) D R' M')) TT lr bv lv dd xb KD ID PR ST NN f p d r m A L.length cb)
    (hr : lr kk = lawRow kk (ws.getD kk 0 % 8) (agT (TT kk) D R' M') (lv kk)) (ho : ∀ i, i ≠ kk → lr i = lawRow i (ws.getD i 0 % 8) (TT i) (lv i)) :
    PI w X t a b g mb M base (2000 * k + 1500) (k + 1) (.slice (some ⟨lq, 0, none⟩) n lcap) ∧ X.heap[dd]? = some (.cells #[.int .i64 KD, .int .i64 ID, .int .i64 PR, .int .i64 ST, .int .u64 NN, .int .u64 f, .int .u64 p, .int .u64 d, .int .u64 r, .int .u64 m, .slice A L.length cb] 107 (0, 0)) := by
  refine ⟨h.fin (by omega) hA.ti ⟨hA.wi.lw, hA.wi.xx.to (fun i hi => ?_), fun i hi => ?_, hA.wi.ll⟩ h.hwl h.hws h.hws0 (by have := hA.sz; have := h.hdb; omega) hA.bel, hA.dh⟩
  · by_cases e : i = kk
    · subst e; rw [upd_self]; exact hr.symm
    · rw [upd_ne _ _ _ e]; exact (ho i e).symm
  · by_cases e : i = kk
    · subst e; rw [upd_self]; exact hA.wi.lb i hi
    · rw [upd_ne _ _ _ e]; exact hA.wi.lb i hi
end
theorem job5 {X : World} {xb : Nat} {v0 v1 v2 v3 v4 : Value} {ty : TypeId} (h : X.heap[xb]? = some (.cells #[v0, v1, v2, v3, v4] ty (0, 0))) : X.cell? ⟨xb, 0, none⟩ = some v0 ∧ X.cell? ⟨xb, 1, none⟩ = some v1 ∧ X.cell? ⟨xb, 2, none⟩ = some v2 ∧ X.cell? ⟨xb, 3, none⟩ = some v3 ∧ X.cell? ⟨xb, 4, none⟩ = some v4 := by
  refine ⟨?_, ?_, ?_, ?_, ?_⟩ <;> simp [World.cell?, h]
theorem job5f {X : World} {xb : Nat} {v0 v1 v2 v3 v4 : Value} {ty : TypeId} (h : X.heap[xb]? = some (.cells #[v0, v1, v2, v3, v4] ty (0, 0))) (j : Nat) : X.frozen? ⟨xb, j, none⟩ = false := by
  simp [World.frozen?, h]
/-- The end of a coming again, whatever the order of the last two stores. -/
def AgF (X w : World) (t a b g mb base : Nat) (ws : List Int) (k q lq n rcap lcap : Nat) (R : List Value) (TT : Nat → Tk) (bv lv : Nat → Value) (dd xb : Nat) (KD : Int) (kk : Nat) (PR ST NN f p d r m : Int) (A : Option Addr) (ll cb : Nat) (D R' M' : Int) : Prop :=
  ∃ (R2 XS2 : List Value) (lr : Nat → List Value), AgI w X t a b g mb base ws (2000 * k) q lq n rcap lcap R2 XS2 (upd TT kk (agT (TT kk) D R' M')) TT lr bv lv dd xb KD ((kk : Int) + 1) PR ST NN f p d r m A ll cb ∧
    lr kk = lawRow kk (ws.getD kk 0 % 8) (agT (TT kk) D R' M') (lv kk) ∧ ∀ i, i ≠ kk → lr i = lawRow i (ws.getD i 0 % 8) (TT i) (lv i)
section
variable {w W5 X : World} {M k n dd t a b g mb base lcap rcap PB PO cb q lq xb ll kk : Nat} {LA RA A : Option Addr} {IN : Bool} {KD ID PR ST NN f p d r m D R' M' : Int} {L : List Op3} {ws : List Int} {R XS R2 XS2 : List Value} {TT : Nat → Tk} {bv lv : Nat → Value} {lr : Nat → List Value}
theorem agf (h : AgI w X t a b g mb base ws (2000 * k) q lq n rcap lcap R2 XS2 (upd TT kk (agT (TT kk) D R' M')) TT lr bv lv dd xb KD ((kk : Int) + 1) PR ST NN f p d r m A ll cb) (h1 : lr kk = lawRow kk (ws.getD kk 0 % 8) (agT (TT kk) D R' M') (lv kk)) (h2 : ∀ i, i ≠ kk → lr i = lawRow i (ws.getD i 0 % 8) (TT i) (lv i)) :
    AgF X w t a b g mb base ws k q lq n rcap lcap R TT bv lv dd xb KD kk PR ST NN f p d r m A ll cb D R' M' := ⟨R2, XS2, lr, h, h1, h2⟩
theorem agfin (h : SwI w W5 M k n dd t a b g mb base lcap rcap PB PO cb (some ⟨lq, 0, none⟩) (some ⟨q, 0, none⟩) A IN KD ((kk : Int) + 1) PR ST NN f p d r m L ws R XS TT bv lv) (hkk : kk < n) (hp : (TT kk).p ≠ 0) (hA : AgF X w t a b g mb base ws k q lq n rcap lcap R TT bv lv dd xb KD kk PR ST NN f p d r m A L.length cb D R' M') :
    PI w X t a b g mb M base (2000 * k + 1500) (k + 1) (.slice (some ⟨lq, 0, none⟩) n lcap) ∧ X.heap[dd]? = some (.cells #[.int .i64 KD, .int .i64 ((kk : Int) + 1), .int .i64 PR, .int .i64 ST, .int .u64 NN, .int .u64 f, .int .u64 p, .int .u64 d, .int .u64 r, .int .u64 m, .slice A L.length cb] 107 (0, 0)) := by
  obtain ⟨R2, XS2, lr, h1, h2, h3⟩ := hA
  exact h.agEnd hkk hp h1 h2 h3
end
end Go.Proofs.Ytpcbcnheogjofaa
