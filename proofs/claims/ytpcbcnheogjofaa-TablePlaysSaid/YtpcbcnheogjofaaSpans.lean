/- body.spans: the map of the four spans, whatever order it is filled in. -/
import Derived.Test.YtpcbcnheogjofaaSteps
namespace Go.Proofs.Ytpcbcnheogjofaa
open Go.RowKit Go.Maps
set_option linter.unusedVariables false
set_option linter.unusedSimpArgs false

def spA (k : Nat) : Int := [2, 3, 3, 4].getD k 0
def spB (k : Nat) : Int := [0, 0, 1, 0].getD k 0
def spV (k : Nat) : Value := pk ([0, 0, 0, 1].getD k 0) ([7, 7, 1000000, 1000].getD k 0)
def spanF : Int → Int → Option Value := fun x y => if x = 2 ∧ y = 0 then some (pk 0 7) else if x = 3 ∧ y = 0 then some (pk 0 7) else if x = 3 ∧ y = 1 then some (pk 0 1000000) else if x = 4 ∧ y = 0 then some (pk 1 1000) else none
def laidS (l : Array Bool) : Int → Int → Option Value := fun x y => if l.getD 3 false = true ∧ x = 2 ∧ y = 0 then some (pk 0 7) else if l.getD 6 false = true ∧ x = 3 ∧ y = 0 then some (pk 0 7) else if l.getD 9 false = true ∧ x = 3 ∧ y = 1 then some (pk 0 1000000) else if l.getD 12 false = true ∧ x = 4 ∧ y = 0 then some (pk 1 1000) else none
theorem keyedShape : Keyed Try.prog 162 := Keyed.of_law (deep_law_laid laidOutM (m := 2) (by decide) (of_decide_eq_true (by kernel_rfl)) (by kernel_rfl) (by kernel_rfl))
theorem arrShape : Go.WideMaps.ArrKey Try.prog 162 3 2 := ⟨by kernel_rfl, by kernel_rfl, by kernel_rfl, by kernel_rfl⟩
theorem key_shape (a b : Int) (ha : In64 a) (hb : In64 b) : ∃ l, keyOf Try.prog 162 (pk a b) = some l :=
  ⟨_, Go.WideMaps.keyOf_pair arrShape Try.underlying3 ⟨_, rfl⟩ ha hb⟩
theorem In64_sp (k : Nat) (hk : k < 4) : In64 (spA k) ∧ In64 (spB k) := by
  have h : ∀ k : Fin 4, (Lit.int .i64 (spA k)).wf = true ∧ (Lit.int .i64 (spB k)).wf = true := by decide
  exact h ⟨k, hk⟩
theorem laidS_other (l : Array Bool) (i : Nat) (h : i < l.size) (h1 : i ≠ 3) (h2 : i ≠ 6) (h3 : i ≠ 9) (h4 : i ≠ 12) : laidS (l.setIfInBounds i true) = laidS l := by
  funext x y
  simp only [laidS, getD_set _ _ _ h, if_neg h1, if_neg h2, if_neg h3, if_neg h4]
theorem laidS_in (l : Array Bool) (hs : l.size = 15) (k : Nat) (hk : k < 4) : laidS (l.setIfInBounds (3 * k + 3) true) = updF (laidS l) (spA k) (spB k) (spV k) := by
  funext x y
  rcases (show k = 0 ∨ k = 1 ∨ k = 2 ∨ k = 3 from by omega) with rfl | rfl | rfl | rfl
  · simp only [laidS, updF, getD_set l 3 _ (by omega), show 3 * 0 + 3 = 3 from rfl, show spA 0 = 2 from rfl, show spB 0 = 0 from rfl, show spV 0 = pk 0 7 from rfl]
    by_cases h : x = 2 ∧ y = 0
    · simp [h]
    · simp [h]
  · simp only [laidS, updF, getD_set l 6 _ (by omega), show 3 * 1 + 3 = 6 from rfl, show spA 1 = 3 from rfl, show spB 1 = 0 from rfl, show spV 1 = pk 0 7 from rfl]
    by_cases h : x = 3 ∧ y = 0
    · simp [h]
    · simp [h]
  · simp only [laidS, updF, getD_set l 9 _ (by omega), show 3 * 2 + 3 = 9 from rfl, show spA 2 = 3 from rfl, show spB 2 = 1 from rfl, show spV 2 = pk 0 1000000 from rfl]
    by_cases h : x = 3 ∧ y = 1
    · simp [h]
    · simp [h]
  · simp only [laidS, updF, getD_set l 12 _ (by omega), show 3 * 3 + 3 = 12 from rfl, show spA 3 = 4 from rfl, show spB 3 = 0 from rfl, show spV 3 = pk 1 1000 from rfl]
    by_cases h : x = 4 ∧ y = 0
    · simp [h]
    · simp [h]
theorem laidS_no (l : Array Bool) (h : ∀ k, k < 4 → l.getD (3 * k + 3) false = false) : laidS l = fun _ _ => none := by
  funext x y
  have h0 := h 0 (by decide)
  have h1 := h 1 (by decide)
  have h2 := h 2 (by decide)
  have h3 := h 3 (by decide)
  simp only [show 3 * 0 + 3 = 3 from rfl, show 3 * 1 + 3 = 6 from rfl, show 3 * 2 + 3 = 9 from rfl, show 3 * 3 + 3 = 12 from rfl] at h0 h1 h2 h3
  simp [laidS, h0, h1, h2, h3]
theorem laidS_all (l : Array Bool) (h : ∀ k, k < 4 → l.getD (3 * k + 3) false = true) : laidS l = spanF := by
  funext x y
  have h0 := h 0 (by decide)
  have h1 := h 1 (by decide)
  have h2 := h 2 (by decide)
  have h3 := h 3 (by decide)
  simp only [show 3 * 0 + 3 = 3 from rfl, show 3 * 1 + 3 = 6 from rfl, show 3 * 2 + 3 = 9 from rfl, show 3 * 3 + 3 = 12 from rfl] at h0 h1 h2 h3
  simp [laidS, spanF, h0, h1, h2, h3]

structure LayS (w1 : World) (l : Array Bool) (a : Act) (w : World) : Prop where
  size : l.size = 15
  defers : a.defers = []
  tmps : a.tmps.size = 11
  before : l.getD 0 false = false → w = w1 ∧ (∀ k, k < 4 → l.getD (3 * k + 3) false = false) ∧ l.getD 13 false = false ∧ l.getD 14 false = false
  behind : l.getD 0 false = true → ∃ es clock, w = w1.alloc (.map es clock) ∧ PMapE es clock (laidS l) ∧ a.tmps.getD 1 undef = .map (some w1.heap.size)
  keys : ∀ k, k < 4 → l.getD (3 * k + 1) false = true → a.tmps.getD (2 * k + 2) undef = pk (spA k) (spB k)
  vals : ∀ k, k < 4 → l.getD (3 * k + 2) false = true → a.tmps.getD (2 * k + 3) undef = spV k
  t10 : l.getD 13 false = true → a.tmps.getD 10 undef = .map (some w1.heap.size)
  t0 : l.getD 14 false = true → a.tmps.getD 0 undef = .map (some w1.heap.size)
section
variable {w1 : World} {l : Array Bool} {a : Act} {w : World}
theorem LayS.make (h : LayS w1 l a w) (h0 : l.getD 0 true = false) :
    w = w1 ∧ LayS w1 (l.setIfInBounds 0 true) (a.put (some 1) (.map (some w1.heap.size))) (w1.alloc (.map #[] 0)) := by
  have hs := h.size
  have ht := h.tmps
  obtain ⟨hw, hno, h13, h14⟩ := h.before (no_both 0 h0)
  have hF : laidS (l.setIfInBounds 0 true) = fun _ _ => none := by rw [laidS_other l 0 (by omega) (by omega) (by omega) (by omega) (by omega)]; exact laidS_no l hno
  refine ⟨hw, by simp [hs], h.defers, by simp [Act.put, ht], fun hc => ?_, fun _ => ⟨#[], 0, rfl, by rw [hF]; exact PMapE.empty, ?_⟩, fun k hk' hl => ?_, fun k hk' hl => ?_, fun hl => ?_, fun hl => ?_⟩
  · rw [getD_set _ _ _ (by omega)] at hc; simp at hc
  · rw [put_getD _ _ _ _ (by omega)]; simp
  · rw [getD_set _ _ _ (by omega), if_neg (by omega)] at hl
    rw [put_getD _ _ _ _ (by omega), if_neg (by omega)]
    exact h.keys k hk' hl
  · rw [getD_set _ _ _ (by omega), if_neg (by omega)] at hl
    rw [put_getD _ _ _ _ (by omega), if_neg (by omega)]
    exact h.vals k hk' hl
  · rw [getD_set _ _ _ (by omega), if_neg (by omega), h13] at hl
    cases hl
  · rw [getD_set _ _ _ (by omega), if_neg (by omega), h14] at hl
    cases hl
/-- An operation that only writes a scratch slot of a key or a value. -/
theorem LayS.slot (h : LayS w1 l a w) (i d : Nat) (v : Value) (hi : i < 15) (i0 : i ≠ 0) (i3 : i ≠ 3) (i6 : i ≠ 6) (i9 : i ≠ 9) (i12 : i ≠ 12) (i13 : i ≠ 13) (i14 : i ≠ 14) (hd : 2 ≤ d) (hd2 : d ≤ 9)
    (hk : ∀ k, k < 4 → (i = 3 * k + 1 → d = 2 * k + 2 ∧ v = pk (spA k) (spB k)) ∧ (i ≠ 3 * k + 1 → d ≠ 2 * k + 2)) (hv : ∀ k, k < 4 → (i = 3 * k + 2 → d = 2 * k + 3 ∧ v = spV k) ∧ (i ≠ 3 * k + 2 → d ≠ 2 * k + 3)) : LayS w1 (l.setIfInBounds i true) (a.put (some d) v) w := by
  have hs := h.size
  have ht := h.tmps
  have hF := laidS_other l i (by omega) i3 i6 i9 i12
  refine ⟨by simp [hs], h.defers, by simp [Act.put, ht], fun hc => ?_, fun hc => ?_, fun j hj hl => ?_, fun j hj hl => ?_, fun hl => ?_, fun hl => ?_⟩
  · rw [getD_set _ _ _ (by omega), if_neg (by omega)] at hc
    obtain ⟨b1, b2, b3, b4⟩ := h.before hc
    exact ⟨b1, fun j hj => by rw [getD_set _ _ _ (by omega), if_neg (by omega)]; exact b2 j hj, by rw [getD_set _ _ _ (by omega), if_neg (by omega)]; exact b3, by rw [getD_set _ _ _ (by omega), if_neg (by omega)]; exact b4⟩
  · rw [getD_set _ _ _ (by omega), if_neg (by omega)] at hc
    rw [hF, put_getD _ _ _ _ (by omega), if_neg (by omega)]
    exact h.behind hc
  · rw [put_getD _ _ _ _ (by omega)]
    rw [getD_set _ _ _ (by omega)] at hl
    by_cases e : i = 3 * j + 1
    · obtain ⟨e1, e2⟩ := (hk j hj).1 e
      rw [if_pos e1, e2]
    · rw [if_neg e] at hl
      rw [if_neg ((hk j hj).2 e)]
      exact h.keys j hj hl
  · rw [put_getD _ _ _ _ (by omega)]
    rw [getD_set _ _ _ (by omega)] at hl
    by_cases e : i = 3 * j + 2
    · obtain ⟨e1, e2⟩ := (hv j hj).1 e
      rw [if_pos e1, e2]
    · rw [if_neg e] at hl
      rw [if_neg ((hv j hj).2 e)]
      exact h.vals j hj hl
  · rw [getD_set _ _ _ (by omega), if_neg (by omega)] at hl
    rw [put_getD _ _ _ _ (by omega), if_neg (by omega)]
    exact h.t10 hl
  · rw [getD_set _ _ _ (by omega), if_neg (by omega)] at hl
    rw [put_getD _ _ _ _ (by omega), if_neg (by omega)]
    exact h.t0 hl
theorem LayS.key (h : LayS w1 l a w) (k : Nat) (hk : k < 4) : LayS w1 (l.setIfInBounds (3 * k + 1) true) (a.put (some (2 * k + 2)) (pk (spA k) (spB k))) w :=
  h.slot (3 * k + 1) (2 * k + 2) _ (by omega) (by omega) (by omega) (by omega) (by omega) (by omega) (by omega) (by omega) (by omega) (by omega) (fun j hj => ⟨fun e => by (obtain rfl : k = j := (by omega)); exact ⟨rfl, rfl⟩, fun e => by omega⟩) (fun j hj => ⟨fun e => by omega, fun e => by omega⟩)
theorem LayS.val (h : LayS w1 l a w) (k : Nat) (hk : k < 4) : LayS w1 (l.setIfInBounds (3 * k + 2) true) (a.put (some (2 * k + 3)) (spV k)) w :=
  h.slot (3 * k + 2) (2 * k + 3) _ (by omega) (by omega) (by omega) (by omega) (by omega) (by omega) (by omega) (by omega) (by omega) (by omega) (fun j hj => ⟨fun e => by omega, fun e => by omega⟩) (fun j hj => ⟨fun e => by (obtain rfl : k = j := (by omega)); exact ⟨rfl, rfl⟩, fun e => by omega⟩)
theorem LayS.insert (h : LayS w1 l a w) (k : Nat) (hk : k < 4) (h0 : l.getD 0 false = true) (h1 : l.getD (3 * k + 1) false = true) (h2 : l.getD (3 * k + 2) false = true) :
    ∃ w', (Instr.mapUpdate 156 (a.eval (.tmp 1)) (a.eval (.tmp (2 * k + 2))) (a.eval (.tmp (2 * k + 3)))).run Try.prog w = .ok () w' ∧ LayS w1 (l.setIfInBounds (3 * k + 3) true) a w' := by
  have hs := h.size
  obtain ⟨es, clock, rfl, hE, h1'⟩ := h.behind h0
  have hM : PMap (w1.alloc (.map es clock)) w1.heap.size (laidS l) := ⟨es, clock, heap_alloc_new w1 _, hE⟩
  obtain ⟨es', clock', hr, hE'⟩ := hM.update keyedShape key_shape Try.underlying156 (spA k) (spB k) (In64_sp k hk).1 (In64_sp k hk).2 (spV k)
  have e1 : a.eval (.tmp 1) = .map (some w1.heap.size) := h1'
  have e2 : a.eval (.tmp (2 * k + 2)) = pk (spA k) (spB k) := h.keys k hk h1
  have e3 : a.eval (.tmp (2 * k + 3)) = spV k := h.vals k hk h2
  rw [setBlk_alloc] at hr
  refine ⟨_, by rw [e1, e2, e3]; exact hr, ?_⟩
  rw [← laidS_in l hs k hk] at hE'
  refine ⟨by simp [hs], h.defers, h.tmps, fun hc => ?_, fun hc => ⟨es', clock', rfl, hE', h1'⟩, fun j hj hl => ?_, fun j hj hl => ?_, fun hl => ?_, fun hl => ?_⟩
  · rw [getD_set _ _ _ (by omega), if_neg (by omega)] at hc; rw [h0] at hc; cases hc
  · rw [getD_set _ _ _ (by omega), if_neg (by omega)] at hl
    exact h.keys j hj hl
  · rw [getD_set _ _ _ (by omega), if_neg (by omega)] at hl
    exact h.vals j hj hl
  · rw [getD_set _ _ _ (by omega), if_neg (by omega)] at hl
    exact h.t10 hl
  · rw [getD_set _ _ _ (by omega), if_neg (by omega)] at hl
    exact h.t0 hl
theorem LayS.move (h : LayS w1 l a w) (h0 : l.getD 0 false = true) : LayS w1 (l.setIfInBounds 13 true) (a.put (some 10) (a.eval (.tmp 1))) w := by
  have hs := h.size
  have ht := h.tmps
  have hF := laidS_other l 13 (by omega) (by omega) (by omega) (by omega) (by omega)
  obtain ⟨es, clock, hw, hE, h1'⟩ := h.behind h0
  refine ⟨by simp [hs], h.defers, by simp [Act.put, ht], fun hc => ?_, fun hc => ⟨es, clock, hw, by rw [hF]; exact hE, ?_⟩, fun j hj hl => ?_, fun j hj hl => ?_, fun hl => ?_, fun hl => ?_⟩
  · rw [getD_set _ _ _ (by omega), if_neg (by omega)] at hc; rw [h0] at hc; cases hc
  · rw [put_getD _ _ _ _ (by omega), if_neg (by omega)]; exact h1'
  · rw [getD_set _ _ _ (by omega), if_neg (by omega)] at hl
    rw [put_getD _ _ _ _ (by omega), if_neg (by omega)]
    exact h.keys j hj hl
  · rw [getD_set _ _ _ (by omega), if_neg (by omega)] at hl
    rw [put_getD _ _ _ _ (by omega), if_neg (by omega)]
    exact h.vals j hj hl
  · rw [put_getD _ _ _ _ (by omega), if_pos rfl]; exact h1'
  · rw [getD_set _ _ _ (by omega), if_neg (by omega)] at hl
    rw [put_getD _ _ _ _ (by omega), if_neg (by omega)]
    exact h.t0 hl
theorem LayS.assign (h : LayS w1 l a w) (h0 : l.getD 0 false = true) (h13 : l.getD 13 false = true) : LayS w1 (l.setIfInBounds 14 true) (a.put (some 0) (a.eval (.tmp 10))) w := by
  have hs := h.size
  have ht := h.tmps
  have hF := laidS_other l 14 (by omega) (by omega) (by omega) (by omega) (by omega)
  have e := h.t10 h13
  refine ⟨by simp [hs], h.defers, by simp [Act.put, ht], fun hc => ?_, fun hc => ?_, fun j hj hl => ?_, fun j hj hl => ?_, fun hl => ?_, fun hl => ?_⟩
  · rw [getD_set _ _ _ (by omega), if_neg (by omega)] at hc; rw [h0] at hc; cases hc
  · rw [hF, put_getD _ _ _ _ (by omega), if_neg (by omega)]
    exact h.behind h0
  · rw [getD_set _ _ _ (by omega), if_neg (by omega)] at hl
    rw [put_getD _ _ _ _ (by omega), if_neg (by omega)]
    exact h.keys j hj hl
  · rw [getD_set _ _ _ (by omega), if_neg (by omega)] at hl
    rw [put_getD _ _ _ _ (by omega), if_neg (by omega)]
    exact h.vals j hj hl
  · rw [getD_set _ _ _ (by omega), if_neg (by omega)] at hl
    rw [put_getD _ _ _ _ (by omega), if_neg (by omega)]
    exact h.t10 hl
  · rw [put_getD _ _ _ _ (by omega), if_pos rfl]; exact e
end
theorem spans_any (w : World) : Calls Try.prog 110 #[] w fun e w' => ∃ es clock, e = .returned (.map (some w.heap.size)) ∧ w' = (w.alloc (.map es clock)).drew ∧ PMapE es clock spanF := by
  go_enter Try.func110, Try.ntmps110
  go_wp2_with fail
  refine wp_region_any (by kernel_rfl) ?_
  refine wpAny_inv (LayS w.drew) ?_ ?_ _ _ _ _ ?_ (by decide)
  · intro l a w' i hI hi
    obtain ⟨h1, h2, o, ho, hd⟩ := ready_spec hi
    have h3 : i < 15 := h1
    rcases (show i = 0 ∨ (i = 1 ∨ i = 4 ∨ i = 7 ∨ i = 10) ∨ (i = 2 ∨ i = 5 ∨ i = 8 ∨ i = 11) ∨ (i = 3 ∨ i = 6 ∨ i = 9 ∨ i = 12) ∨ i = 13 ∨ i = 14 from by omega) with rfl | (rfl | rfl | rfl | rfl) | (rfl | rfl | rfl | rfl) | (rfl | rfl | rfl | rfl) | rfl | rfl
    · obtain ⟨rfl, hL⟩ := hI.make h2
      exact wpOp_value (o := { dst := some 1, op := .makeMap 156 none, type := 156, pos := "body.go:31", after := #[], guard := none }) rfl rfl (v := .map (some w.drew.heap.size)) (by rfl) hL
    · exact wpOp_value (o := { dst := some 2, op := .build 162 #[(0, .const (.int .i64 2)), (1, .const (.int .i64 0))], type := 162, pos := "body.go:31", after := #[], guard := none }) rfl rfl (v := pk (spA 0) (spB 0)) (by kernel_rfl) (hI.key 0 (by decide))
    · exact wpOp_value (o := { dst := some 4, op := .build 162 #[(0, .const (.int .i64 3)), (1, .const (.int .i64 0))], type := 162, pos := "body.go:31", after := #[], guard := none }) rfl rfl (v := pk (spA 1) (spB 1)) (by kernel_rfl) (hI.key 1 (by decide))
    · exact wpOp_value (o := { dst := some 6, op := .build 162 #[(0, .const (.int .i64 3)), (1, .const (.int .i64 1))], type := 162, pos := "body.go:31", after := #[], guard := none }) rfl rfl (v := pk (spA 2) (spB 2)) (by kernel_rfl) (hI.key 2 (by decide))
    · exact wpOp_value (o := { dst := some 8, op := .build 162 #[(0, .const (.int .i64 4)), (1, .const (.int .i64 0))], type := 162, pos := "body.go:31", after := #[], guard := none }) rfl rfl (v := pk (spA 3) (spB 3)) (by kernel_rfl) (hI.key 3 (by decide))
    · exact wpOp_value (o := { dst := some 3, op := .build 164 #[(0, .const (.int .i64 0)), (1, .const (.int .i64 7))], type := 164, pos := "body.go:31", after := #[], guard := none }) rfl rfl (v := spV 0) (by kernel_rfl) (hI.val 0 (by decide))
    · exact wpOp_value (o := { dst := some 5, op := .build 164 #[(0, .const (.int .i64 0)), (1, .const (.int .i64 7))], type := 164, pos := "body.go:31", after := #[], guard := none }) rfl rfl (v := spV 1) (by kernel_rfl) (hI.val 1 (by decide))
    · exact wpOp_value (o := { dst := some 7, op := .build 164 #[(0, .const (.int .i64 0)), (1, .const (.int .i64 1000000))], type := 164, pos := "body.go:31", after := #[], guard := none }) rfl rfl (v := spV 2) (by kernel_rfl) (hI.val 2 (by decide))
    · exact wpOp_value (o := { dst := some 9, op := .build 164 #[(0, .const (.int .i64 1)), (1, .const (.int .i64 1000))], type := 164, pos := "body.go:31", after := #[], guard := none }) rfl rfl (v := spV 3) (by kernel_rfl) (hI.val 3 (by decide))
    · have ho' : #[ (⟨0, .data⟩ : Edge), ⟨1, .data⟩, ⟨2, .data⟩] = o.after := congrArg Oper.after (Option.some.inj ho)
      obtain ⟨w2, hr, hL⟩ := hI.insert 0 (by decide) (hd ⟨0, .data⟩ (by rw [← ho']; simp) rfl) (hd ⟨1, .data⟩ (by rw [← ho']; simp) rfl) (hd ⟨2, .data⟩ (by rw [← ho']; simp) rfl)
      exact wpOp_skip (o := { dst := none, op := .insert 156 (.tmp 1) (.tmp 2) (.tmp 3), type := 0, pos := "body.go:31", after := #[⟨0, .data⟩, ⟨1, .data⟩, ⟨2, .data⟩], guard := none }) rfl rfl (run_insert hr) hL
    · have ho' : #[ (⟨0, .data⟩ : Edge), ⟨4, .data⟩, ⟨5, .data⟩] = o.after := congrArg Oper.after (Option.some.inj ho)
      obtain ⟨w2, hr, hL⟩ := hI.insert 1 (by decide) (hd ⟨0, .data⟩ (by rw [← ho']; simp) rfl) (hd ⟨4, .data⟩ (by rw [← ho']; simp) rfl) (hd ⟨5, .data⟩ (by rw [← ho']; simp) rfl)
      exact wpOp_skip (o := { dst := none, op := .insert 156 (.tmp 1) (.tmp 4) (.tmp 5), type := 0, pos := "body.go:31", after := #[⟨0, .data⟩, ⟨4, .data⟩, ⟨5, .data⟩], guard := none }) rfl rfl (run_insert hr) hL
    · have ho' : #[ (⟨0, .data⟩ : Edge), ⟨7, .data⟩, ⟨8, .data⟩] = o.after := congrArg Oper.after (Option.some.inj ho)
      obtain ⟨w2, hr, hL⟩ := hI.insert 2 (by decide) (hd ⟨0, .data⟩ (by rw [← ho']; simp) rfl) (hd ⟨7, .data⟩ (by rw [← ho']; simp) rfl) (hd ⟨8, .data⟩ (by rw [← ho']; simp) rfl)
      exact wpOp_skip (o := { dst := none, op := .insert 156 (.tmp 1) (.tmp 6) (.tmp 7), type := 0, pos := "body.go:31", after := #[⟨0, .data⟩, ⟨7, .data⟩, ⟨8, .data⟩], guard := none }) rfl rfl (run_insert hr) hL
    · have ho' : #[ (⟨0, .data⟩ : Edge), ⟨10, .data⟩, ⟨11, .data⟩] = o.after := congrArg Oper.after (Option.some.inj ho)
      obtain ⟨w2, hr, hL⟩ := hI.insert 3 (by decide) (hd ⟨0, .data⟩ (by rw [← ho']; simp) rfl) (hd ⟨10, .data⟩ (by rw [← ho']; simp) rfl) (hd ⟨11, .data⟩ (by rw [← ho']; simp) rfl)
      exact wpOp_skip (o := { dst := none, op := .insert 156 (.tmp 1) (.tmp 8) (.tmp 9), type := 0, pos := "body.go:31", after := #[⟨0, .data⟩, ⟨10, .data⟩, ⟨11, .data⟩], guard := none }) rfl rfl (run_insert hr) hL
    · have h0 : l.getD 0 false = true := hd ⟨0, .data⟩ (by rw [← congrArg Oper.after (Option.some.inj ho)]; simp) rfl
      exact wpOp_value (o := _) rfl rfl (v := a.eval (.tmp 1)) (by rfl) (hI.move h0)
    · have h0 : l.getD 0 false = true := hd ⟨0, .phase⟩ (by rw [← congrArg Oper.after (Option.some.inj ho)]; simp) rfl
      have h13 : l.getD 13 false = true := hd ⟨13, .data⟩ (by rw [← congrArg Oper.after (Option.some.inj ho)]; simp) rfl
      exact wpOp_value (o := _) rfl rfl (v := a.eval (.tmp 10)) (by rfl) (hI.assign h0 h13)
  · intro l a w' hI hr
    have hall := all_done (by kernel_rfl) hI.size hr
    obtain ⟨es, clock, hw, hE, h1⟩ := hI.behind (hall 0 (by decide))
    rw [laidS_all l (fun k hk => hall (3 * k + 3) (show 3 * k + 3 < 15 by omega))] at hE
    have h0 := hI.t0 (hall 14 (by decide))
    have hd := hI.defers
    clear hall hr hI
    rename_i Q' K hK
    refine hK a w' (wp_ret ?_)
    refine ⟨hd, .map (some w.heap.size), ?_, es, clock, rfl, hw, hE⟩
    rw [results_tmp Try.results110]
    exact congrArg (Result.ok · w') h0
  · refine ⟨rfl, rfl, rfl, fun _ => ⟨rfl, by decide, by decide, by decide⟩, fun h => by simp at h, fun k hk h => ?_, fun k hk h => ?_, fun h => by simp at h, fun h => by simp at h⟩
    all_goals
      exfalso
      have hh : ∀ j : Nat, (Array.replicate 15 false).getD j false = false := by
        intro j
        simp only [Array.getD_eq_getD_getElem?, Array.getElem?_replicate]
        split <;> rfl
      exact absurd ((hh _).symm.trans h) (by decide)
end Go.Proofs.Ytpcbcnheogjofaa
