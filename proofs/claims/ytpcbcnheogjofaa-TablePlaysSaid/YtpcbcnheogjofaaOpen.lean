/- What came in, opened: slices of structs of whole numbers, slices of bools. -/
import Derived.Test.YtpcbcnheogjofaaBase
import Derived.Deep.Slices
import Derived.Deep.Fields
import Derived.Deep.Grids
import Derived.ChangeSame
import Derived.Lib.SmallJoins
namespace Go.Proofs.Ytpcbcnheogjofaa
open Go.ChangeShapes Go.WideShapes Go.RowKit Go.Deep
set_option linter.unusedVariables false
set_option linter.unusedSimpArgs false

/-- A slice of structs of whole numbers: empty, or at a plain address; field j of element i is F i j. -/
def IsOps (nf : Nat) (kd : Nat → IntKind) (w : World) (a : Option Addr) (len : Nat) : Prop :=
  len = 0 ∨ ∃ (b off : Nat) (F : Nat → Nat → Int), a = some ⟨b, off, none⟩ ∧ len ≤ 9223372036854775807 ∧ b < w.heap.size ∧
    ∀ i j, i < len → j < nf → w.cell? ⟨b, off + (i * nf + j), none⟩ = some (.int (kd j) (F i j)) ∧ (Lit.int (kd j) (F i j)).wf = true
/-- A slice of bools: empty, or at a plain address. -/
def IsBools (w : World) (a : Option Addr) (len : Nat) : Prop :=
  len = 0 ∨ ∃ (b off : Nat) (F : Nat → Bool), a = some ⟨b, off, none⟩ ∧ len ≤ 9223372036854775807 ∧ b < w.heap.size ∧ ∀ i, i < len → w.cell? ⟨b, off + i, none⟩ = some (.bool (F i))
theorem array5 {α : Type} {cs : Array α} (h : cs.size = 5) : ∃ c0 c1 c2 c3 c4, cs = #[c0, c1, c2, c3, c4] := by
  obtain ⟨l⟩ := cs
  match l, h with
  | [c0, c1, c2, c3, c4], _ => exact ⟨c0, c1, c2, c3, c4, rfl⟩
section
variable {H : Type} {enc : TypeId × Value → H} {P : Program} {w : World} {base : Nat} {spare : Nat → Bool} {held : Bool}
theorem isOps_of {t e : TypeId} {fs : Array Field} {fuel : Nat} {a : Option Addr} {len cap : Nat} {x : DataW H × List MemPlace} (kd : Nat → IntKind) (ht : P.underlying t = some (.slice e)) (he : P.underlying e = some (.struct fs))
    (hone : oneCellFields P fs = true) (hC : P.cellsOf e = fs.size) (h0 : 0 < fs.size) (hk : ∀ j f, fs[j]? = some f → P.underlying f.type = some (.int (kd j))) (h : DataW.trod enc P w base spare held fuel t [.slice a len cap] = some x) : IsOps fs.size kd w a len := by
  rcases open_slice ht h with ⟨hcs, _⟩ | ⟨a', len', cap', m, n, D, Pl, hcs, hb, hl, hm, hmm, hx, hi⟩
  · simp at hcs
    exact .inl hcs.2.1
  · simp at hcs
    obtain ⟨rfl, rfl, rfl⟩ := hcs
    rcases Nat.eq_zero_or_pos len with hz | hp
    · exact .inl hz
    right
    have hlm : len ≤ m := by rw [hmm]; split <;> omega
    have key' : ∀ i j, i < len → j < fs.size → ∃ z, w.cell? ((a'.add (i * fs.size)).add j) = some (.int (kd j) z) ∧ (Lit.int (kd j) z).wf = true := by
      intro i j hil hj
      obtain ⟨cs', hc, ht'⟩ := hi i (by omega)
      rw [hC] at hc
      obtain ⟨ys, n', _, _, hlen, hyl, hf⟩ := DataW.trod_struct he ht'
      obtain ⟨_, hcl, hat⟩ := World.cells?_some hc
      have hfj : fs[j]? = some fs[j] := Array.getElem?_eq_getElem hj
      obtain ⟨ho, h1⟩ := hone_of hone j _ hfj
      have hr := hf j _ hfj
      rw [ho, h1, List.drop_eq_getElem_cons (by omega)] at hr
      have hy : ys[j]? = some (ys[j]'(by omega)) := List.getElem?_eq_getElem (by omega)
      rw [hy] at hr
      obtain ⟨z, hz, _, hw⟩ := DataW.trod_int (hk j _ hfj) (show DataW.trod enc P w base spare held n' fs[j].type [cs'[j]'(by omega)] = some _ from hr)
      simp at hz
      exact ⟨z, by rw [hat j hj, List.getElem?_eq_getElem (by omega), hz], hw⟩
    have key : ∀ i j, ∃ z, i < len → j < fs.size → w.cell? ((a'.add (i * fs.size)).add j) = some (.int (kd j) z) ∧ (Lit.int (kd j) z).wf = true := by
      intro i j
      by_cases hh : i < len ∧ j < fs.size
      · obtain ⟨z, hz⟩ := key' i j hh.1 hh.2
        exact ⟨z, fun _ _ => hz⟩
      · exact ⟨0, fun x y => absurd ⟨x, y⟩ hh⟩
    obtain ⟨b, off, spot⟩ := a'
    have hspot : spot = none := by
      obtain ⟨z, hz, _⟩ := key' 0 0 hp h0
      simpa [Addr.add] using World.cell?_spot hz
    subst hspot
    obtain ⟨z, hz, _⟩ := key' 0 0 hp h0
    refine ⟨b, off, fun i j => Classical.choose (key i j), rfl, by unfold maxLen at hm; omega, ?_, ?_⟩
    · rw [Go.WideShapes.add_plain, Go.WideShapes.add_plain] at hz
      exact World.block_lt_of_cell? w _ hz
    · intro i j hil hj
      have hs := (Classical.choose_spec (key i j)) hil hj
      simp only [Go.WideShapes.add_plain, Nat.add_assoc] at hs ⊢
      exact hs
theorem isBools_of {t e : TypeId} {fuel : Nat} {a : Option Addr} {len cap : Nat} {x : DataW H × List MemPlace} (ht : P.underlying t = some (.slice e)) (he : P.underlying e = some .bool) (hc : P.cellsOf e = 1)
    (h : DataW.trod enc P w base (fun _ => true) held fuel t [.slice a len cap] = some x) : IsBools w a len := by
  rcases open_bools ht he hc h with ⟨hcs, _⟩ | ⟨a', len', cap', B, hcs, hb, hl, hm, hx, hi⟩
  · simp at hcs
    exact .inl hcs.2.1
  · simp at hcs
    obtain ⟨rfl, rfl, rfl⟩ := hcs
    rcases Nat.eq_zero_or_pos len with hz | hp
    · exact .inl hz
    right
    obtain ⟨b, off, spot⟩ := a'
    have hspot : spot = none := by
      simpa [Addr.add] using World.cell?_spot (hi 0 (by omega))
    subst hspot
    refine ⟨b, off, B, rfl, by unfold maxLen at hm; omega, ?_, ?_⟩
    · have := hi 0 (by omega)
      rw [Go.WideShapes.add_plain] at this
      exact World.block_lt_of_cell? w _ this
    · intro i hil
      have := hi i (by omega)
      rwa [Go.WideShapes.add_plain] at this
/-- A struct of whole numbers by value. -/
theorem open_nums {r : Reach} {b0 : Nat} {t : TypeId} {fs : Array Field} {v : Value} {d : DataW H} {p : List MemPlace} (kd : Nat → IntKind) (hs : P.underlying t = some (.struct fs)) (hone : oneCellFields P fs = true) (hC : P.cellsOf t = fs.size) (hk : ∀ j f, fs[j]? = some f → P.underlying f.type = some (.int (kd j)))
    (hv : Value.okWide P w r b0 t v) (h : DataW.Trod enc P w base spare held t v d p) :
    ∃ cs : Array Value, v = .agg cs ∧ cs.size = fs.size ∧ ∀ j, j < fs.size → ∃ z, cs[j]? = some (.int (kd j) z) ∧ (Lit.int (kd j) z).wf = true := by
  obtain ⟨cs, rfl, hsz⟩ := okWide_struct hs hv
  obtain ⟨fuel, hf⟩ := h
  obtain ⟨ys, n', _, _, hlen, hyl, hff⟩ := DataW.trod_struct hs hf
  refine ⟨cs, rfl, hsz.trans hC, fun j hj => ?_⟩
  have hfj : fs[j]? = some fs[j] := Array.getElem?_eq_getElem hj
  obtain ⟨ho, h1⟩ := hone_of hone j _ hfj
  have hr := hff j _ hfj
  simp only [Value.cells] at hr
  rw [ho, h1, List.drop_eq_getElem_cons (by simp; omega)] at hr
  have hy : ys[j]? = some (ys[j]'(by omega)) := List.getElem?_eq_getElem (by omega)
  rw [hy] at hr
  obtain ⟨z, hz, _, hw⟩ := DataW.trod_int (hk j _ hfj) (show DataW.trod enc P w base spare held n' fs[j].type [cs.toList[j]'(by simp; omega)] = some _ from hr)
  simp at hz
  exact ⟨z, by rw [Array.getElem?_eq_getElem (by omega), hz], hw⟩
end
end Go.Proofs.Ytpcbcnheogjofaa
