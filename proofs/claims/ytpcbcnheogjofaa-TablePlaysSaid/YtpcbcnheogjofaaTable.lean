/- Contracts of package table: tasks, told by the arena's words, the rows' cells, the counts. -/
import Derived.Test.YtpcbcnheogjofaaArenaBoth
import Derived.Test.YtpcbcnheogjofaaMaps2
import Derived.Test.YtpcbcnheogjofaaSpans
import Derived.Laws.OwnMore
import Derived.OwnWalk
import Derived.StillTailTactics
namespace Go.Proofs.Ytpcbcnheogjofaa
open Go.RowKit Go.Maps Go.Proofs.YtpcbcnheogjofaaW.PrintWords
set_option linter.unusedVariables false
set_option linter.unusedSimpArgs false

/-- A map of counts: what is not there is 0. -/
def CntM (W : World) (mb : Nat) (C : Int → Int → Int) : Prop := ∃ f, PMap W mb f ∧ ∀ x y, (f x y).getD (.int .i64 0) = .int .i64 (C x y)
def updC (C : Int → Int → Int) (x y : Int) (v : Int) : Int → Int → Int := fun a b => if a = x ∧ b = y then v else C a b
/-- A table: its header's block t, its arena's blocks a, b, g, its counts' block mb, its rows' slice rv of n rows of 13 cells. -/
structure TbAt (W : World) (t a b g mb : Nat) (ws : List Int) (B : Int) (rv : Value) (n : Nat) (R : List Value) (C : Int → Int → Int) (base : Nat) : Prop where
  hdr : W.heap[t]? = some (.cells #[.pointer (some ⟨a, 0, none⟩), rv, .map (some mb)] 131 (0, 0))
  ar : ArAt W a b g ws B
  rows : W.ownsRow base 137 13 rv n R
  map : CntM W mb C
  lt : t < base ∧ a < base ∧ b < base ∧ g < base ∧ mb < base
  ne : t ≠ a ∧ t ≠ b ∧ t ≠ g ∧ t ≠ mb ∧ mb ≠ a ∧ mb ≠ b ∧ mb ≠ g
theorem keyedClass : Keyed Try.prog 139 := Keyed.of_law (deep_law_laid laidOutM (m := 2) (by decide) (of_decide_eq_true (by kernel_rfl)) (by kernel_rfl) (by kernel_rfl))
theorem arrClass : Go.WideMaps.ArrKey Try.prog 139 3 2 := ⟨by kernel_rfl, by kernel_rfl, by kernel_rfl, by kernel_rfl⟩
theorem key_class (a b : Int) (ha : In64 a) (hb : In64 b) : ∃ l, keyOf Try.prog 139 (pk a b) = some l :=
  ⟨_, Go.WideMaps.keyOf_pair arrClass Try.underlying3 ⟨_, rfl⟩ ha hb⟩
theorem zeroInt (w : World) : (zeroValue 3).run Try.prog w = .ok (.int .i64 0) w := by kernel_rfl
section
variable {W W' : World} {t a b g mb : Nat} {ws : List Int} {B : Int} {rv : Value} {n : Nat} {R : List Value} {C : Int → Int → Int} {base : Nat}
set_option maxRecDepth 100000 in
theorem CntM.look (h : CntM W mb C) (x y : Int) (hx : In64 x) (hy : In64 y) : (Instr.lookup 128 (.map (some mb)) (.agg #[.int .i64 x, .int .i64 y]) false).run Try.prog W = .ok (.int .i64 (C x y)) W := by
  obtain ⟨f, hM, hf⟩ := h
  have := hM.lookup keyedClass key_class Try.underlying128 (.int .i64 0) (zeroInt W) x y hx hy
  rw [hf] at this
  exact this
theorem CntM.of_block (h : CntM W mb C) (hb : W'.heap[mb]? = W.heap[mb]?) : CntM W' mb C := by
  obtain ⟨f, ⟨es, clock, h1, h2⟩, hf⟩ := h
  exact ⟨f, ⟨es, clock, hb.trans h1, h2⟩, hf⟩
theorem updC_of (f : Int → Int → Option Value) (C : Int → Int → Int) (hf : ∀ x y, (f x y).getD (.int .i64 0) = .int .i64 (C x y)) (x y v : Int) : ∀ p q, (updF f x y (.int .i64 v) p q).getD (.int .i64 0) = .int .i64 (updC C x y v p q) := by
  intro p q
  unfold updF updC
  split
  · rfl
  · exact hf p q
set_option maxRecDepth 100000 in
/-- The entry of a count, and a store into it. -/
theorem CntM.entry (h : CntM W mb C) (x y : Int) (hx : In64 x) (hy : In64 y) : ∃ (st : Nat) (es : Array MapEntry) (clock : Nat), (Instr.mapEntry 128 (.map (some mb)) (.agg #[.int .i64 x, .int .i64 y])).run Try.prog W = .ok (.tuple #[.int .i64 (C x y), .int .i64 (st : Int)]) (World.setBlk W mb (.map es clock)) ∧ CntM (World.setBlk W mb (.map es clock)) mb C ∧
    (∀ v : Int, ∃ es' clock', (Instr.entryStore 128 (.map (some mb)) (.int .i64 (st : Int)) (.int .i64 v)).run Try.prog (World.setBlk W mb (.map es clock)) = .ok () (World.setBlk W mb (.map es' clock')) ∧ CntM (World.setBlk W mb (.map es' clock')) mb (updC C x y v)) := by
  obtain ⟨f, hM, hf⟩ := h
  obtain ⟨es0, clock0, hb0, hE0⟩ := id hM
  obtain ⟨st, es, clock, h1, hmid, h2⟩ := hM.entry keyedClass key_class Try.underlying128 (.int .i64 0) (zeroInt W) x y hx hy
  rw [hf] at h1
  refine ⟨st, es, clock, h1, ⟨_, ⟨es, clock, setBlk_get W mb _ _ hb0, hmid⟩, ?_⟩, fun v => ?_⟩
  · intro p q
    unfold updF
    split
    · rename_i hh
      rw [hh.1, hh.2, ← hf]
      rfl
    · exact hf p q
  have hg := setBlk_get W mb (.map es clock) _ hb0
  obtain ⟨es', clock', q1, q2⟩ := h2 _ (.int .i64 v) hg
  have e : World.setBlk (World.setBlk W mb (.map es clock)) mb (.map es' clock') = World.setBlk W mb (.map es' clock') := by
    have e2 : ∀ A B : Obj, (W.heap.setIfInBounds mb A).setIfInBounds mb B = W.heap.setIfInBounds mb B := by
      intro A B
      apply Array.ext_getElem?
      intro i
      simp only [Array.getElem?_setIfInBounds, Array.size_setIfInBounds]
      split <;> rfl
    unfold World.setBlk
    simp only [e2]
  rw [e] at q1
  exact ⟨es', clock', q1, _, ⟨es', clock', setBlk_get W mb _ _ hb0, q2⟩, updC_of f C hf x y v⟩
theorem TbAt.cells (h : TbAt W t a b g mb ws B rv n R C base) : W.cell? ⟨t, 0, none⟩ = some (.pointer (some ⟨a, 0, none⟩)) ∧ W.cell? ⟨t, 1, none⟩ = some rv ∧ W.cell? ⟨t, 2, none⟩ = some (.map (some mb)) := by
  refine ⟨?_, ?_, ?_⟩ <;> simp [World.cell?, h.hdr]
set_option maxRecDepth 100000 in
theorem at_in {q cap : Nat} (h : TbAt W t a b g mb ws B (.slice (some ⟨q, 0, none⟩) n cap) n R C base) (id : Int) (k : Nat) (hid : id = k + 1) (hk : k < n) (hn : n ≤ 5000) : Calls Try.prog 95 #[.pointer (some ⟨t, 0, none⟩), .int .i64 id] W fun e w' => e = .returned (.pointer (some ⟨q, k * 13, none⟩)) ∧ W = w' := by
  subst hid
  obtain ⟨c0, c1, c2⟩ := h.cells
  have g1 : decide ((k : Int) + 1 < 1) = false := by simp; omega
  have g2 : decide ((k : Int) + 1 > n) = false := by simp; omega
  have g3 : decide ((n : Int) < (k : Int) + 1) = false := by simp; omega
  clear h
  go_enter Try.func95, Try.ntmps95
  go_wp2_with fail
  go_ret
  exact ⟨by simp, rfl⟩
set_option maxRecDepth 100000 in
theorem at_out {A : Option Addr} {cap : Nat} (h : TbAt W t a b g mb ws B (.slice A n cap) n R C base) (id : Int) (ho : id < 1 ∨ (n : Int) < id) (hn : n ≤ 5000) : Calls Try.prog 95 #[.pointer (some ⟨t, 0, none⟩), .int .i64 id] W fun e w' => e = .returned (.pointer none) ∧ W = w' := by
  obtain ⟨c0, c1, c2⟩ := h.cells
  clear h
  rcases ho with ho | ho
  · have g1 : decide (id < 1) = true := by simpa using ho
    go_enter Try.func95, Try.ntmps95
    go_wp2_with fail
    go_ret
    exact ⟨rfl, rfl⟩
  · have g1 : decide (id < 1) = false := by simp; omega
    have g2 : decide (id > n) = true := by simpa using ho
    have g3 : decide ((n : Int) < id) = true := by simpa using ho
    go_enter Try.func95, Try.ntmps95
    go_wp2_with fail
    go_ret
    exact ⟨rfl, rfl⟩
def sumC (C : Int → Int → Int) (s : Int) : Nat → Int
  | 0 => 0
  | k + 1 => sumC C s k + C s k
theorem sumC_bd (C : Int → Int → Int) (s : Int) (hC : ∀ x y, 0 ≤ C x y ∧ C x y ≤ 1000000) (k : Nat) : 0 ≤ sumC C s k ∧ sumC C s k ≤ 1000000 * k := by
  induction k with
  | zero => simp [sumC]
  | succ k ih =>
    have := hC s k
    simp only [sumC]
    omega
set_option maxRecDepth 100000 in
set_option maxHeartbeats 4000000 in
theorem TCount_any (h : TbAt W t a b g mb ws B rv n R C base) (hC : ∀ x y, 0 ≤ C x y ∧ C x y ≤ 1000000) (s : Int) (hs : In64 s) : Calls Try.prog 68 #[.pointer (some ⟨t, 0, none⟩), .int .i64 s] W fun e w' => e = .returned (.int .i64 (sumC C s 8)) ∧ W = w' := by
  obtain ⟨c0, c1, c2⟩ := h.cells
  have HM := Lib.hid h.map
  have HC := Lib.hid hC
  have HS := Lib.hid hs
  clear h hC hs
  go_enter Try.func68, Try.ntmps68
  go_wp2_with fail
  go_loopg [5, 6, 7] 8 (fun gg v5 v6 v7 wr => ∃ i : Nat, gg = 8 - i ∧ i ≤ 8 ∧ v7 = .int .i64 i ∧ v5 = .int .i64 (sumC C s i) ∧ W = wr)
  case atStart => exact ⟨0, rfl, by omega, rfl, rfl, rfl⟩
  case round =>
    obtain ⟨i, rfl, hi, rfl, rfl, rfl⟩ := hrel
    by_cases hlt : i < 8
    · have hb := sumC_bd C s HC.out i
      have hc := HC.out s i
      have hl := HM.out.look s i HS.out (show (Lit.int .i64 (i : Int)).wf = true from by simp [Lit.wf, IntKind.min, IntKind.max, IntKind.signed, IntKind.bits]; omega)
      have hS : sumC C s (i + 1) = sumC C s i + C s i := rfl
      obtain ⟨X, hX⟩ : ∃ X, sumC C s i = X := ⟨_, rfl⟩
      obtain ⟨Y, hY⟩ : ∃ Y, C s i = Y := ⟨_, rfl⟩
      rw [hX] at hb hS ⊢
      rw [hY] at hc hl hS
      have HSS := Lib.hid hS
      clear hX hY hS
      go_wp2_with fail
      go_roundg (8 - (i + 1))
      case measure => omega
      case rel => exact ⟨i + 1, rfl, by omega, by go_num, by rw [HSS.out], rfl⟩
    · obtain rfl : i = 8 := by omega
      go_wp2_with fail
      go_ret
      exact ⟨rfl, rfl⟩
end
end Go.Proofs.Ytpcbcnheogjofaa
