/- TablePlays: a new task beside the others. -/
import Derived.Test.YtpcbcnheogjofaaTable18
namespace Go.Proofs.Ytpcbcnheogjofaa
open Go.RowKit Go.Maps Go.Shelf Go.Proofs.YtpcbcnheogjofaaW.PrintWords
set_option linter.unusedVariables false
set_option linter.unusedSimpArgs false

def newT (PR d f p r m : Int) (L : List Op3) : Tk := ⟨PR, d, 0, 0, f, p, d, r, m, L⟩
section
variable {w W5 : World} {M k n dd t a b g mb base lcap rcap PB PO cb : Nat} {LA RA A : Option Addr} {IN : Bool} {KD ID PR ST NN f p d r m : Int} {L : List Op3} {ws : List Int} {R XS : List Value} {TT : Nat → Tk} {bv lv : Nat → Value}
theorem SwI.made1 (h : SwI w W5 M k n dd t a b g mb base lcap rcap PB PO cb LA RA A IN KD ID PR ST NN f p d r m L ws R XS TT bv lv) (hlt : n < M) (s1 : 1 ≤ ST) (s6 : ST ≤ 6) (hok : TkOk (newT PR d f p r m L)) {X : World} {q cap : Nat} {bvn : Value} {B : Int}
    (F : Fr (fun x => own2 b g x ∨ x = mb ∨ x = t ∨ some x = (Value.slice RA n rcap).ownBlock) W5 X)
    (ht : TbAt X t a b g mb (ws.set n (nextI (ws.getD n 0) ST)) B (.slice (some ⟨q, 0, none⟩) (n + 1) cap) (n + 1) (R ++ rowB ((n : Int) + 1) PR d f p r m bvn) (updC (CG (stOf ws) (prOf TT) n) ST PR (CG (stOf ws) (prOf TT) n ST PR + 1)) base)
    (hO : OpsV X bvn L) (hf : ∀ c, bvn.ownBlock = some c → W5.heap.size ≤ c ∧ c < X.heap.size ∧ c ≠ q) :
    TI X t a b g mb (ws.set n (nextI (ws.getD n 0) ST)) B (.slice (some ⟨q, 0, none⟩) (n + 1) cap) (n + 1) (R ++ rowB ((n : Int) + 1) PR d f p r m bvn) (upd TT n (newT PR d f p r m L)) base (upd bv n bvn) ∧ WI X base (stOf ws) (.slice LA n lcap) n XS TT lv ∧
    X.heap[dd]? = some (.cells #[.int .i64 KD, .int .i64 ID, .int .i64 PR, .int .i64 ST, .int .u64 NN, .int .u64 f, .int .u64 p, .int .u64 d, .int .u64 r, .int .u64 m, .slice A L.length cb] 107 (0, 0)) ∧ Below w.heap.size w X := by
  have hwl := h.hwl
  have hl := h.ti.tb.lt
  have hl5 := h.l5
  have hlo := h.lo
  have hdb := h.hdb
  have hs5 := h.s5
  have hst : ∀ i, i ≠ n → stOf (ws.set n (nextI (ws.getD n 0) ST)) i = stOf ws i := fun i hi => by show (ws.set n _).getD i 0 % 8 = ws.getD i 0 % 8; rw [getD_set_off hi]
  have hsk : stOf (ws.set n (nextI (ws.getD n 0) ST)) n = ST := by show (ws.set n _).getD n 0 % 8 = ST; rw [getD_set_at (by omega), next_mod _ ST (by omega) (by omega)]
  have hnS : ∀ c, base ≤ c → (Value.slice RA n rcap).ownBlock ≠ some c → ¬ (own2 b g c ∨ c = mb ∨ c = t ∨ some c = (Value.slice RA n rcap).ownBlock) := fun c hc hr hs => by
    rcases hs with hs | hs | hs | hs
    · rcases hs with hs | hs <;> omega
    · omega
    · omega
    · exact hr hs.symm
  refine ⟨⟨?_, ?_, fun i hi => ?_, fun i hi c hc => ?_, fun i hi => ?_⟩, h.wi.fr h.ni F (fun c hs => ?_), ?_, F.below h.bel (fun c hs => ?_)⟩
  · have e := CG_made (S := stOf ws) (P := prOf TT) (S' := stOf (ws.set n (nextI (ws.getD n 0) ST))) (P' := prOf (upd TT n (newT PR d f p r m L))) n (fun j hj => ⟨(hst j (by omega)).symm, by show (TT j).pr = (upd TT n _ j).pr; rw [upd_ne _ _ _ (by omega)]⟩)
    rw [hsk, show prOf (upd TT n (newT PR d f p r m L)) n = PR from by show (upd TT n _ n).pr = PR; rw [upd_self]; rfl] at e
    rw [e]
    exact ht
  · exact h.ti.rr.push rfl (by show tabRow n (upd TT n _ n) (upd bv n bvn n) = _; rw [upd_self, upd_self]; rfl) (fun i hi => by show tabRow i (upd TT n _ i) (upd bv n bvn i) = _; rw [upd_ne _ _ _ (by omega), upd_ne _ _ _ (by omega)])
  · by_cases e : i = n
    · rw [e, upd_self, upd_self]; exact hO
    · rw [upd_ne _ _ _ e, upd_ne _ _ _ e]
      exact (h.ti.bb i (by omega)).fr F (fun c hc => hnS c (h.ti.bl i (by omega) c hc).1 (h.ni.a2 i (by omega) c hc).1)
  · by_cases e : i = n
    · rw [e, upd_self] at hc
      have := hf c hc
      omega
    · rw [upd_ne _ _ _ e] at hc
      exact ⟨(h.ti.bl i (by omega) c hc).1, Nat.lt_of_lt_of_le (h.ti.bl i (by omega) c hc).2 F.size⟩
  · by_cases e : i = n
    · rw [e, upd_self]; exact hok
    · rw [upd_ne _ _ _ e]; exact h.ti.ok i (by omega)
  · rcases hs with hs | hs | hs | hs
    · rcases hs with hs | hs
      · exact .inl (by omega)
      · exact .inl (by omega)
    · exact .inl (by omega)
    · exact .inl (by omega)
    · exact .inr hs.symm
  · rw [← h.d6]
    exact F.block dd (by omega) (hnS dd hdb (fun e => by have := h.lx.1 dd e; omega))
  · rcases hs with hs | hs | hs | hs
    · rcases hs with hs | hs <;> omega
    · omega
    · omega
    · have := (h.ti.tb.rows.lt c hs.symm).1; omega
theorem SwI.made2 (h : SwI w W5 M k n dd t a b g mb base lcap rcap PB PO cb LA RA A IN KD ID PR ST NN f p d r m L ws R XS TT bv lv) (hlt : n < M) (s1 : 1 ≤ ST) (s6 : ST ≤ 6) {Y Z : World} {q cap lq' cap' : Nat} {bvn lvn : Value} {B : Int} {R' : List Value} (hB : B ≤ 2000 * k + 1500)
    (hT : TI Y t a b g mb (ws.set n (nextI (ws.getD n 0) ST)) B (.slice (some ⟨q, 0, none⟩) (n + 1) cap) (n + 1) R' (upd TT n (newT PR d f p r m L)) base (upd bv n bvn)) (hW : WI Y base (stOf ws) (.slice LA n lcap) n XS TT lv)
    (hdd : Y.heap[dd]? = some (.cells #[.int .i64 KD, .int .i64 ID, .int .i64 PR, .int .i64 ST, .int .u64 NN, .int .u64 f, .int .u64 p, .int .u64 d, .int .u64 r, .int .u64 m, .slice A L.length cb] 107 (0, 0))) (hb : Below w.heap.size w Y)
    (hq : (Value.slice RA n rcap).ownBlock = some q ∨ W5.heap.size ≤ q) (hbn : ∀ c, bvn.ownBlock = some c → W5.heap.size ≤ c ∧ c ≠ q)
    (hO : OpsV Y lvn L) (hln : ∀ c, lvn.ownBlock = some c → W5.heap.size ≤ c ∧ c < Y.heap.size ∧ c ≠ q) (hsz : W5.heap.size ≤ Y.heap.size)
    (hown : Z.ownsRow base 110 14 (.slice (some ⟨lq', 0, none⟩) (n + 1) cap') (n + 1) (XS ++ lawRow n ST (newT PR d f p r m L) lvn)) (hg : Y.grownBy Z (Value.slice LA n lcap).ownBlock) (hat : (Value.slice LA n lcap).ownBlock = some lq' ∨ Y.heap.size ≤ lq') :
    PI w Z t a b g mb M base (2000 * k + 1500) (k + 1) (.slice (some ⟨lq', 0, none⟩) (n + 1) cap') ∧ Z.heap[dd]? = some (.cells #[.int .i64 KD, .int .i64 ID, .int .i64 PR, .int .i64 ST, .int .u64 NN, .int .u64 f, .int .u64 p, .int .u64 d, .int .u64 r, .int .u64 m, .slice A L.length cb] 107 (0, 0)) := by
  have F : Fr (fun x => some x = (Value.slice LA n lcap).ownBlock) Y Z := Fr.of_grown hg
  have hwl := h.hwl
  have hl := h.ti.tb.lt
  have hlo := h.lo
  have hdb := h.hdb
  have hs5 := h.s5
  have hst : ∀ i, i ≠ n → stOf (ws.set n (nextI (ws.getD n 0) ST)) i = stOf ws i := fun i hi => by show (ws.set n _).getD i 0 % 8 = ws.getD i 0 % 8; rw [getD_set_off hi]
  have hsk : stOf (ws.set n (nextI (ws.getD n 0) ST)) n = ST := by show (ws.set n _).getD n 0 % 8 = ST; rw [getD_set_at (by omega), next_mod _ ST (by omega) (by omega)]
  have hLb : ∀ c, (Value.slice LA n lcap).ownBlock = some c → base ≤ c ∧ c < dd := fun c hc => ⟨(h.wi.lw.lt c hc).1, h.lx.2 c hc⟩
  have hqL : ∀ c, (Value.slice LA n lcap).ownBlock = some c → c ≠ q := fun c hc e => by
    rcases hq with h1 | h1
    · exact h.ni.a1 q h1 (by rw [hc, e])
    · have := (hLb c hc).2; omega
  have hqY : q < Y.heap.size := (hT.tb.rows.lt q rfl).2
  have hbvL : ∀ i, i < n + 1 → ∀ c, (upd bv n bvn i).ownBlock = some c → (Value.slice LA n lcap).ownBlock ≠ some c := fun i hi c hc e => by
    by_cases e2 : i = n
    · rw [e2, upd_self] at hc
      have := (hbn c hc).1
      have := (hLb c e).2
      omega
    · rw [upd_ne _ _ _ e2] at hc
      exact (h.ni.a2 i (by omega) c hc).2 e
  have ht : TbAt Z t a b g mb (ws.set n (nextI (ws.getD n 0) ST)) B (.slice (some ⟨q, 0, none⟩) (n + 1) cap) (n + 1) R' (CG (stOf (ws.set n (nextI (ws.getD n 0) ST))) (prOf (upd TT n (newT PR d f p r m L))) (n + 1)) base := hT.tb.frAll F (fun x hx e => by
    have h1 := hLb x e.symm
    rcases hx with hx | hx | hx | hx | hx | hx
    · omega
    · omega
    · omega
    · omega
    · omega
    · exact hqL x e.symm (by simp [Value.ownBlock] at hx; exact hx.symm))
  have hTZ := (hT.to F ht (fun i hi c hc e => hbvL i hi c hc e.symm)).le hB
  have hlvL : ∀ i, i < n → ∀ c, (lv i).ownBlock = some c → ¬ some c = (Value.slice LA n lcap).ownBlock := fun i hi c hc e => (h.ni.a3 i hi c hc).2 e.symm
  refine ⟨⟨n + 1, _, _, _, upd TT n (newT PR d f p r m L), upd bv n bvn, upd lv n lvn, _, by have := h.hnk; omega, by rw [List.length_set]; exact hwl, hlt, fun j hj => ?_, fun j hj => ?_, hTZ, ⟨hown, ?_, fun i hi => ?_, fun i hi c hc => ?_⟩, ⟨fun c hc e => ?_, fun i hi c hc => ?_, fun i hi c hc => ?_⟩, fun h0 => absurd h0 (by omega), by have := F.size; omega, F.below hb (fun c hs => by have := (hLb c hs.symm).1; omega)⟩, ?_⟩
  · by_cases e : j = n
    · rw [e, getD_set_at (by omega), next_mod _ ST (by omega) (by omega)]; omega
    · rw [getD_set_off e]; exact h.hws j (by omega)
  · rw [getD_set_off (by omega)]; exact h.hws0 j (by omega)
  · exact hW.xx.push rfl (by show lawRow n (stOf _ n) (upd TT n _ n) (upd lv n lvn n) = _; rw [hsk, upd_self, upd_self]) (fun i hi => by show lawRow i (stOf _ i) (upd TT n _ i) (upd lv n lvn i) = _; rw [hst i (by omega), upd_ne _ _ _ (by omega), upd_ne _ _ _ (by omega)])
  · by_cases e : i = n
    · rw [e, upd_self, upd_self]
      exact hO.fr F (fun c hc e2 => by have := (hln c hc).1; have := (hLb c e2.symm).2; omega)
    · rw [upd_ne _ _ _ e, upd_ne _ _ _ e]
      exact (hW.lb i (by omega)).fr F (hlvL i (by omega))
  · by_cases e : i = n
    · rw [e, upd_self] at hc
      have := hln c hc
      have := F.size
      omega
    · rw [upd_ne _ _ _ e] at hc
      exact ⟨(hW.ll i (by omega) c hc).1, Nat.lt_of_lt_of_le (hW.ll i (by omega) c hc).2 F.size⟩
  · simp only [Value.ownBlock, Option.some.injEq] at hc e
    rcases hat with h1 | h1
    · exact hqL lq' h1 (by omega)
    · omega
  · simp only [Value.ownBlock, ne_eq, Option.some.injEq]
    by_cases e : i = n
    · rw [e, upd_self] at hc
      have h1 := hbn c hc
      have h2 := (hT.bl n (by omega) c (by rw [upd_self]; exact hc)).2
      refine ⟨fun e2 => h1.2 e2.symm, fun e2 => ?_⟩
      rcases hat with h3 | h3
      · have := (hLb lq' h3).2; omega
      · omega
    · have hc2 := hc
      rw [upd_ne _ _ _ e] at hc
      have h2 := (hT.bl i hi c hc2).2
      have h4 := (h.bx i (by omega)).1 c hc
      refine ⟨fun e2 => ?_, fun e2 => ?_⟩
      · rcases hq with h3 | h3
        · exact (h.ni.a2 i (by omega) c hc).1 (by rw [h3, e2])
        · omega
      · rcases hat with h3 | h3
        · exact (h.ni.a2 i (by omega) c hc).2 (by rw [h3, e2])
        · omega
  · simp only [Value.ownBlock, ne_eq, Option.some.injEq]
    by_cases e : i = n
    · rw [e, upd_self] at hc
      have h1 := hln c hc
      refine ⟨fun e2 => h1.2.2 e2.symm, fun e2 => ?_⟩
      rcases hat with h3 | h3
      · have := (hLb lq' h3).2; omega
      · omega
    · rw [upd_ne _ _ _ e] at hc
      have h2 := (hW.ll i (by omega) c hc).2
      have h4 := (h.bx i (by omega)).2 c hc
      refine ⟨fun e2 => ?_, fun e2 => ?_⟩
      · rcases hq with h3 | h3
        · exact (h.ni.a3 i (by omega) c hc).1 (by rw [h3, e2])
        · omega
      · rcases hat with h3 | h3
        · exact (h.ni.a3 i (by omega) c hc).2 (by rw [h3, e2])
        · omega
  · rw [← hdd]
    exact F.block dd (Array.getElem?_eq_some_iff.1 hdd).1 (fun e => by have := (hLb dd e.symm).2; omega)
theorem SwI.ovfrS (h : SwI w W5 M k n dd t a b g mb base lcap rcap PB PO cb LA RA A IN KD ID PR ST NN f p d r m L ws R XS TT bv lv) {X : World} (F : Fr (fun x => own2 b g x ∨ x = mb ∨ x = t ∨ some x = (Value.slice RA n rcap).ownBlock) W5 X) : OpsV X (.slice A L.length cb) L ∧ OpsAt X A L := by
  have h1 : OpsV X (.slice A L.length cb) L := h.ov.frOr F (by
    rcases h.ob with e | e
    · exact .inl e
    · exact .inr (fun c hc hs => by
        have h1 := e c hc
        have h2 := h.l5
        have h3 := h.lo
        rcases hs with hs | hs | hs | hs
        · rcases hs with hs | hs <;> omega
        · omega
        · omega
        · have := (h.ti.tb.rows.lt c hs.symm).1; omega))
  refine ⟨h1, ?_⟩
  obtain ⟨A2, c2, e2, h2⟩ := h1.form
  simp only [Value.slice.injEq] at e2
  obtain ⟨rfl, _⟩ := e2
  exact h2
end
end Go.Proofs.Ytpcbcnheogjofaa
