/- What came in, opened: a slice of calls, each a struct of numbers, a job, and a body. -/
import Derived.Test.YtpcbcnheogjofaaTable14
namespace Go.Proofs.Ytpcbcnheogjofaa
open Go.ChangeShapes Go.WideShapes Go.RowKit Go.Deep
set_option linter.unusedVariables false
set_option linter.unusedSimpArgs false

/-- A slice of calls: empty, or at a plain address: number j of call i is F i j, its body reads as O i. -/
def IsActs (kd : Nat → IntKind) (w : World) (a : Option Addr) (len : Nat) : Prop :=
  len = 0 ∨ ∃ (b off : Nat) (F : Nat → Nat → Int) (V : Nat → Value) (O : Nat → List Op3), a = some ⟨b, off, none⟩ ∧ len ≤ 9223372036854775807 ∧ b < w.heap.size ∧
    ∀ i, i < len → (∀ j, j < 10 → w.cell? ⟨b, off + (i * 11 + j), none⟩ = some (.int (kd j) (F i j)) ∧ (Lit.int (kd j) (F i j)).wf = true) ∧ w.cell? ⟨b, off + (i * 11 + 10), none⟩ = some (V i) ∧ OpsV w (V i) (O i)
section
variable {H : Type} {enc : TypeId × Value → H} {P : Program} {w : World} {base : Nat} {spare : Nat → Bool} {held : Bool}
theorem opsV_of {t e : TypeId} {fs : Array Field} {fuel : Nat} {v : Value} {x : DataW H × List MemPlace} (ht : P.underlying t = some (.slice e)) (he : P.underlying e = some (.struct fs))
    (hone : oneCellFields P fs = true) (hC : P.cellsOf e = fs.size) (hs : fs.size = 3) (hk : ∀ (j : Nat) (f : Field), fs[j]? = some f → P.underlying f.type = some (.int .i64)) (h : DataW.trod enc P w base spare held fuel t [v] = some x) : ∃ L, OpsV w v L := by
  rcases DataW.trod_slice ht h with ⟨hv, _⟩ | ⟨a, len, cap, _, _, n, _, hv, _, _, hl, hm, _⟩
  · simp at hv
    exact ⟨[], .inl ⟨hv, rfl⟩⟩
  · simp at hv
    subst hv
    have hI := isOps_of (fun _ => .i64) ht he hone hC (by omega) hk h
    rcases hI with h0 | ⟨b, off, F, ha, _, hb, hc⟩
    · subst h0
      exact ⟨[], .inr ⟨a, cap, rfl, Nat.zero_le _, hm, .inl rfl⟩⟩
    · simp at ha
      subst ha
      have hlen : ((List.range len).map (fun i => ((F i 0, F i 1, F i 2) : Op3))).length = len := by simp
      refine ⟨(List.range len).map (fun i => (F i 0, F i 1, F i 2)), .inr ⟨_, cap, by rw [hlen], by rw [hlen]; exact hl, hm, .inr ⟨b, off, rfl, hb, fun j hj => ?_⟩⟩⟩
      rw [hlen] at hj
      have hq : j / 3 < len := by omega
      have hg : ((List.range len).map (fun i => ((F i 0, F i 1, F i 2) : Op3))).getD (j / 3) (0, 0, 0) = (F (j / 3) 0, F (j / 3) 1, F (j / 3) 2) := by
        rw [List.getD_eq_getElem?_getD, List.getElem?_map, List.getElem?_range hq]
        rfl
      have hr := (hc (j / 3) (j % 3) hq (by omega)).1
      rw [hs, show j / 3 * 3 + j % 3 = j from by omega] at hr
      rw [hr]
      unfold opC
      rw [hg]
      rcases (show j % 3 = 0 ∨ j % 3 = 1 ∨ j % 3 = 2 from by omega) with e | e | e <;> simp [e]
theorem take_drop_get {α : Type} {l : List α} {o c i : Nat} (hi : i < c) : ((l.drop o).take c)[i]? = l[o + i]? := by
  rw [List.getElem?_take_of_lt hi, List.getElem?_drop]
theorem isActs_of {t e to_ : TypeId} {fs fj fo : Array Field} {fuel : Nat} {a : Option Addr} {len cap : Nat} {x : DataW H × List MemPlace} (kd : Nat → IntKind) (ht : P.underlying t = some (.slice e)) (he : P.underlying e = some (.struct fs)) (hC : P.cellsOf e = 11)
    (hf : ∀ i, i < 5 → ∃ f : Field, fs[i]? = some f ∧ f.offset = i ∧ P.cellsOf f.type = 1 ∧ P.underlying f.type = some (.int (kd i)))
    (hJ : ∃ f : Field, fs[5]? = some f ∧ f.offset = 5 ∧ P.cellsOf f.type = 5 ∧ P.underlying f.type = some (.struct fj)) (hj : ∀ j, j < 5 → ∃ f : Field, fj[j]? = some f ∧ f.offset = j ∧ P.cellsOf f.type = 1 ∧ P.underlying f.type = some (.int (kd (5 + j))))
    (hB : ∃ f : Field, fs[6]? = some f ∧ f.offset = 10 ∧ P.cellsOf f.type = 1 ∧ P.underlying f.type = some (.slice to_)) (ho : P.underlying to_ = some (.struct fo)) (hone : oneCellFields P fo = true) (hoC : P.cellsOf to_ = fo.size) (hos : fo.size = 3) (hok : ∀ (j : Nat) (f : Field), fo[j]? = some f → P.underlying f.type = some (.int .i64))
    (h : DataW.trod enc P w base spare held fuel t [.slice a len cap] = some x) : IsActs kd w a len := by
  rcases open_slice ht h with ⟨hcs, _⟩ | ⟨a', len', cap', m, n, D, Pl, hcs, hb, hl, hm, hmm, hx, hi⟩
  · simp at hcs
    exact .inl hcs.2.1
  · simp at hcs
    obtain ⟨rfl, rfl, rfl⟩ := hcs
    rcases Nat.eq_zero_or_pos len with hz | hp
    · exact .inl hz
    right
    have hlm : len ≤ m := by rw [hmm]; split <;> omega
    have key : ∀ i, ∃ (G : Nat → Int) (V : Value) (O : List Op3), i < len → (∀ j, j < 10 → w.cell? ((a'.add (i * 11)).add j) = some (.int (kd j) (G j)) ∧ (Lit.int (kd j) (G j)).wf = true) ∧ w.cell? ((a'.add (i * 11)).add 10) = some V ∧ OpsV w V O := by
      intro i
      by_cases hil : i < len
      · obtain ⟨cs', hc, ht'⟩ := hi i (by omega)
        rw [hC] at hc
        obtain ⟨ys, n', _, _, hlen, hyl, hff⟩ := DataW.trod_struct he ht'
        obtain ⟨_, hcl, hat⟩ := World.cells?_some hc
        have hnum : ∀ j, ∃ z, j < 10 → cs'[j]? = some (.int (kd j) z) ∧ (Lit.int (kd j) z).wf = true := by
          intro j
          by_cases h10 : j < 10
          · rcases Nat.lt_or_ge j 5 with h5 | h5
            · obtain ⟨f, f1, f2, f3, f4⟩ := hf j h5
              have hr := hff j f f1
              have hlt : j < ys.length := by rw [hyl]; exact (Array.getElem?_eq_some_iff.1 f1).1
              rw [List.getElem?_eq_getElem hlt, f2, f3] at hr
              obtain ⟨z, hz, _, hw⟩ := DataW.trod_int f4 hr
              have := take_drop_get (l := cs') (o := j) (c := 1) (i := 0) (by decide)
              rw [hz] at this
              simp at this
              exact ⟨z, fun _ => ⟨this.symm, hw⟩⟩
            · obtain ⟨f, f1, f2, f3, f4⟩ := hJ
              have hr := hff 5 f f1
              have hlt : 5 < ys.length := by rw [hyl]; exact (Array.getElem?_eq_some_iff.1 f1).1
              rw [List.getElem?_eq_getElem hlt, f2, f3] at hr
              obtain ⟨zs, n2, _, _, hlen2, hzl, hfz⟩ := DataW.trod_struct f4 hr
              obtain ⟨g, g1, g2, g3, g4⟩ := hj (j - 5) (by omega)
              have hr2 := hfz (j - 5) g g1
              have hlt2 : j - 5 < zs.length := by rw [hzl]; exact (Array.getElem?_eq_some_iff.1 g1).1
              rw [List.getElem?_eq_getElem hlt2, g2, g3] at hr2
              obtain ⟨z, hz, _, hw⟩ := DataW.trod_int g4 hr2
              rw [show 5 + (j - 5) = j from by omega] at hz hw
              have e1 := take_drop_get (l := (cs'.drop 5).take 5) (o := j - 5) (c := 1) (i := 0) (by decide)
              rw [hz] at e1
              rw [Nat.add_zero, take_drop_get (l := cs') (o := 5) (c := 5) (i := j - 5) (by omega), show 5 + (j - 5) = j from by omega] at e1
              simp at e1
              exact ⟨z, fun _ => ⟨e1.symm, hw⟩⟩
          · exact ⟨0, fun h => absurd h h10⟩
        obtain ⟨f, f1, f2, f3, f4⟩ := hB
        have hr := hff 6 f f1
        have hlt : 6 < ys.length := by rw [hyl]; exact (Array.getElem?_eq_some_iff.1 f1).1
        rw [List.getElem?_eq_getElem hlt, f2, f3] at hr
        have hten : cs'[10]? = some (cs'[10]'(by omega)) := List.getElem?_eq_getElem _
        have e1 : (cs'.drop 10).take 1 = [cs'[10]'(by omega)] := by
          rw [List.drop_eq_getElem_cons (by omega)]
          rfl
        rw [e1] at hr
        obtain ⟨L, hL⟩ := opsV_of f4 ho hone hoC hos hok hr
        refine ⟨fun j => Classical.choose (hnum j), _, L, fun _ => ⟨fun j h10 => ?_, ?_, hL⟩⟩
        · have hs := Classical.choose_spec (hnum j) h10
          exact ⟨by rw [hat j (by omega)]; exact hs.1, hs.2⟩
        · rw [hat 10 (by omega)]
          exact hten
      · exact ⟨fun _ => 0, .slice none 0 0, [], fun h => absurd h hil⟩
    obtain ⟨G, V, O, hk⟩ : ∃ (G : Nat → Nat → Int) (V : Nat → Value) (O : Nat → List Op3), ∀ i, i < len → (∀ j, j < 10 → w.cell? ((a'.add (i * 11)).add j) = some (.int (kd j) (G i j)) ∧ (Lit.int (kd j) (G i j)).wf = true) ∧ w.cell? ((a'.add (i * 11)).add 10) = some (V i) ∧ OpsV w (V i) (O i) :=
      ⟨fun i => Classical.choose (key i), fun i => Classical.choose (Classical.choose_spec (key i)), fun i => Classical.choose (Classical.choose_spec (Classical.choose_spec (key i))), fun i hil => (Classical.choose_spec (Classical.choose_spec (Classical.choose_spec (key i)))) hil⟩
    clear key
    obtain ⟨b, off, spot⟩ := a'
    have h00 := hk 0 hp
    have hspot : spot = none := by
      have := (h00.1 0 (by decide)).1
      simpa [Addr.add] using World.cell?_spot this
    subst hspot
    refine ⟨b, off, G, V, O, rfl, by unfold maxLen at hm; omega, ?_, ?_⟩
    · have := (h00.1 0 (by decide)).1
      rw [Go.WideShapes.add_plain, Go.WideShapes.add_plain] at this
      exact World.block_lt_of_cell? w _ this
    · intro i hil
      have hs := hk i hil
      simp only [Go.WideShapes.add_plain, Nat.add_assoc] at hs
      exact hs
end
end Go.Proofs.Ytpcbcnheogjofaa
