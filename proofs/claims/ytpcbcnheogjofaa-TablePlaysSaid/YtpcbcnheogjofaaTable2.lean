/- Contracts of package table, second part: what is set, what comes again, what is told of a task. -/
import Derived.Test.YtpcbcnheogjofaaTable
import Derived.Test.YtpcbcnheogjofaaGrid3
namespace Go.Proofs.Ytpcbcnheogjofaa
open Go.RowKit Go.Maps Go.Proofs.YtpcbcnheogjofaaW.PrintWords
set_option linter.unusedVariables false
set_option linter.unusedSimpArgs false

section
variable {W W' : World} {t a b g mb : Nat} {ws : List Int} {B : Int} {rv : Value} {n : Nat} {R : List Value} {C : Int → Int → Int} {base : Nat} {q cap : Nat}
theorem TbAt.q_ge (h : TbAt W t a b g mb ws B (.slice (some ⟨q, 0, none⟩) n cap) n R C base) : base ≤ q ∧ q < W.heap.size := h.rows.lt q rfl
theorem TbAt.rset (h : TbAt W t a b g mb ws B (.slice (some ⟨q, 0, none⟩) n cap) n R C base) (j : Nat) (v : Value) : TbAt (W.setCell ⟨q, j, none⟩ v) t a b g mb ws B (.slice (some ⟨q, 0, none⟩) n cap) n (R.set j v) C base := by
  obtain ⟨hq, _⟩ := h.q_ge
  obtain ⟨l1, l2, l3, l4, l5⟩ := h.lt
  refine ⟨heap_set_ne h.hdr (by omega) v, h.ar.put (by omega) (by omega) (by omega) v, (h.rows.stored j v).1, h.map.of_block (Below.heap_setCell W ⟨q, j, none⟩ v mb (by show mb ≠ q; omega)), h.lt, h.ne⟩
theorem TbAt.below (h : TbAt W t a b g mb ws B rv n R C base) (hb : Below W.heap.size W W') : TbAt W' t a b g mb ws B rv n R C base := by
  obtain ⟨f, ⟨es, clock, h1, h2⟩, hf⟩ := h.map
  refine ⟨(hb.block t (Array.getElem?_eq_some_iff.1 h.hdr).1).trans h.hdr, h.ar.below hb, ?_, h.map.of_block (hb.block mb (Array.getElem?_eq_some_iff.1 h1).1), h.lt, h.ne⟩
  refine h.rows.kept (row := none) ⟨hb.os, hb.tape, hb.output, hb.size, fun k hk _ => hb.block k hk⟩ ?_
  cases hv : rv.ownBlock with
  | none => exact .inl rfl
  | some x => exact .inr (by simp)
theorem TbAt.al (h : TbAt W t a b g mb ws B rv n R C base) (o : Obj) : TbAt (W.alloc o) t a b g mb ws B rv n R C base := h.below (below_al (Below.refl _ _) o)
theorem TbAt.dr (h : TbAt W t a b g mb ws B rv n R C base) : TbAt W.drew t a b g mb ws B rv n R C base := h.below (below_dr (Below.refl _ _))
theorem TbAt.drN (h : TbAt W t a b g mb ws B rv n R C base) (m : Nat) : TbAt (W.drewN m) t a b g mb ws B rv n R C base := h.below (below_drN (Below.refl _ _) m)
theorem TbAt.rcell (h : TbAt W t a b g mb ws B (.slice (some ⟨q, 0, none⟩) n cap) n R C base) (j : Nat) (hj : j < n * 13) (v : Value) (hv : R[j]? = some v) : W.cell? ⟨q, j, none⟩ = some v := (h.rows.cellAt j hj).trans hv
theorem TbAt.rfree (h : TbAt W t a b g mb ws B (.slice (some ⟨q, 0, none⟩) n cap) n R C base) (j : Nat) : W.frozen? ⟨q, j, none⟩ = false := h.rows.frozenAt j
set_option maxRecDepth 100000 in
theorem TSet_in (h : TbAt W t a b g mb ws B (.slice (some ⟨q, 0, none⟩) n cap) n R C base) (id : Int) (k : Nat) (hid : id = k + 1) (hk : k < n) (hn : n ≤ 5000) (old due : Int) (hR : R[k * 13 + 3]? = some (.int .u64 old)) : Calls Try.prog 73 #[.pointer (some ⟨t, 0, none⟩), .int .i64 id, .int .u64 due] W fun e w' => e = .returned (.int .i64 0) ∧ w' = W.setCell ⟨q, k * 13 + 3, none⟩ (.int .u64 due) := by
  subst hid
  have hat := at_in h ((k : Int) + 1) k rfl hk hn
  have c3 := h.rcell (k * 13 + 3) (by omega) _ hR
  have f3 := h.rfree (k * 13 + 3)
  have HAT := Lib.hid hat
  clear h hat hR
  go_enter Try.func73, Try.ntmps73
  go_wp2_with fail
  refine HAT.out.mono ?_
  rintro e w' ⟨rfl, rfl⟩
  go_wp2_with fail
  go_ret
  exact ⟨rfl, rfl⟩
set_option maxRecDepth 100000 in
theorem TSet_out {A : Option Addr} (h : TbAt W t a b g mb ws B (.slice A n cap) n R C base) (id : Int) (ho : id < 1 ∨ (n : Int) < id) (hn : n ≤ 5000) (due : Int) : Calls Try.prog 73 #[.pointer (some ⟨t, 0, none⟩), .int .i64 id, .int .u64 due] W fun e w' => e = .returned (.int .i64 1) ∧ W = w' := by
  have HAT := Lib.hid (at_out h id ho hn)
  clear h
  go_enter Try.func73, Try.ntmps73
  go_wp2_with fail
  refine HAT.out.mono ?_
  rintro e w' ⟨rfl, rfl⟩
  go_wp2_with fail
  go_ret
  exact ⟨rfl, rfl⟩
set_option maxRecDepth 100000 in
theorem TAgain_out {A : Option Addr} (h : TbAt W t a b g mb ws B (.slice A n cap) n R C base) (id now : Int) (ho : id < 1 ∨ (n : Int) < id) (hn : n ≤ 5000) : Calls Try.prog 71 #[.pointer (some ⟨t, 0, none⟩), .int .i64 id, .int .u64 now] W fun e w' => e = .returned (.tuple #[.int .u64 0, .bool false]) ∧ W = w' := by
  have HAT := Lib.hid (at_out h id ho hn)
  clear h
  go_enter Try.func71, Try.ntmps71
  go_wp2_with fail
  refine HAT.out.mono ?_
  rintro e w' ⟨rfl, rfl⟩
  go_wp2_with fail
  go_ret2
  exact ⟨rfl, rfl⟩
/-- The five cells of a row's job. -/
def JobR (R : List Value) (k : Nat) (f p d r m : Int) : Prop := R[k * 13 + 8]? = some (.int .u64 f) ∧ R[k * 13 + 9]? = some (.int .u64 p) ∧ R[k * 13 + 10]? = some (.int .u64 d) ∧ R[k * 13 + 11]? = some (.int .u64 r) ∧ R[k * 13 + 12]? = some (.int .u64 m)
def setJob (R : List Value) (k : Nat) (f p d r m : Int) : List Value := ((((R.set (k * 13 + 8) (.int .u64 f)).set (k * 13 + 9) (.int .u64 p)).set (k * 13 + 10) (.int .u64 d)).set (k * 13 + 11) (.int .u64 r)).set (k * 13 + 12) (.int .u64 m)
set_option maxRecDepth 100000 in
set_option maxHeartbeats 4000000 in
theorem TAgain_in (h : TbAt W t a b g mb ws B (.slice (some ⟨q, 0, none⟩) n cap) n R C base) (id now : Int) (k : Nat) (hid : id = k + 1) (hk : k < n) (hn : n ≤ 5000) (f p d r m D R' M : Int) (o : Bool) (hp : (p == 0) = false) (hR : JobR R k f p d r m)
    (hA : ∀ w, Calls Try.prog 43 #[.agg #[.int .u64 f, .int .u64 p, .int .u64 d, .int .u64 r, .int .u64 m], .int .u64 now] w fun e w' => e = .returned (.tuple #[.agg #[.int .u64 f, .int .u64 p, .int .u64 D, .int .u64 R', .int .u64 M], .bool o]) ∧ Below w.heap.size w w') :
    Calls Try.prog 71 #[.pointer (some ⟨t, 0, none⟩), .int .i64 id, .int .u64 now] W fun e w' => e = .returned (.tuple #[.int .u64 (if o then D else 0), .bool o]) ∧ TbAt w' t a b g mb ws B (.slice (some ⟨q, 0, none⟩) n cap) n (setJob R k f p D R' M) C base ∧ Fr (own1 q) W w' := by
  subst hid
  have hat := at_in h ((k : Int) + 1) k rfl hk hn
  obtain ⟨h8, h9, h10, h11, h12⟩ := hR
  have c8 := h.rcell (k * 13 + 8) (by omega) _ h8
  have c9 := h.rcell (k * 13 + 9) (by omega) _ h9
  have c10 := h.rcell (k * 13 + 10) (by omega) _ h10
  have c11 := h.rcell (k * 13 + 11) (by omega) _ h11
  have c12 := h.rcell (k * 13 + 12) (by omega) _ h12
  have HAT := Lib.hid hat
  have HA := Lib.hid hA
  have HH := Lib.hid h
  have HRR := Lib.hid (show R[k * 13 + 8]? = some (.int .u64 f) ∧ R[k * 13 + 9]? = some (.int .u64 p) ∧ R[k * 13 + 10]? = some (.int .u64 d) ∧ R[k * 13 + 11]? = some (.int .u64 r) ∧ R[k * 13 + 12]? = some (.int .u64 m) from ⟨h8, h9, h10, h11, h12⟩)
  clear h hat hA h8 h9 h10 h11 h12
  go_enter Try.func71, Try.ntmps71
  go_wp2_with fail
  refine HAT.out.mono ?_
  rintro e w1 ⟨rfl, rfl⟩
  go_wp2_with fail
  refine (HA.out _).mono ?_
  rintro e w2 ⟨rfl, hB⟩
  have h2 := HH.out.below hB
  have e8 := h2.rcell (k * 13 + 8) (by omega) _ HRR.out.1
  have e9 := h2.rcell (k * 13 + 9) (by omega) _ HRR.out.2.1
  have e10 := h2.rcell (k * 13 + 10) (by omega) _ HRR.out.2.2.1
  have e11 := h2.rcell (k * 13 + 11) (by omega) _ HRR.out.2.2.2.1
  have e12 := h2.rcell (k * 13 + 12) (by omega) _ HRR.out.2.2.2.2
  have f8 := h2.rfree (k * 13 + 8)
  have f9 := h2.rfree (k * 13 + 9)
  have f10 := h2.rfree (k * 13 + 10)
  have f11 := h2.rfree (k * 13 + 11)
  have f12 := h2.rfree (k * 13 + 12)
  have H2 := Lib.hid h2
  clear h2 c8 c9 c10 c11 c12
  have hF : Fr (own1 q) W ((((( w2.setCell ⟨q, k * 13 + 8, none⟩ (.int .u64 f)).setCell ⟨q, k * 13 + 9, none⟩ (.int .u64 p)).setCell ⟨q, k * 13 + 10, none⟩ (.int .u64 D)).setCell ⟨q, k * 13 + 11, none⟩ (.int .u64 R')).setCell ⟨q, k * 13 + 12, none⟩ (.int .u64 M)) :=
    (((((Fr.of_below hB).set (p := ⟨q, k * 13 + 8, none⟩) (show own1 q q from rfl) _).set (p := ⟨q, k * 13 + 9, none⟩) (show own1 q q from rfl) _).set (p := ⟨q, k * 13 + 10, none⟩) (show own1 q q from rfl) _).set (p := ⟨q, k * 13 + 11, none⟩) (show own1 q q from rfl) _).set (p := ⟨q, k * 13 + 12, none⟩) (show own1 q q from rfl) _
  cases o
  · go_wp2_with fail
    go_ret2
    exact ⟨rfl, ((((H2.out.rset _ _).rset _ _).rset _ _).rset _ _).rset _ _, hF⟩
  · go_wp2_with fail
    go_ret2
    exact ⟨rfl, ((((H2.out.rset _ _).rset _ _).rset _ _).rset _ _).rset _ _, hF⟩
end
end Go.Proofs.Ytpcbcnheogjofaa
