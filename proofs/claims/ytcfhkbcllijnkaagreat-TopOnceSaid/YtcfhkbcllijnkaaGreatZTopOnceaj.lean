/- Parts of the proof of TopOnce, under no condition. -/
import Derived.Test.YtcfhkbcllijnkaaGreatZTopOnceah
import Derived.Orders
import Derived.Outline
set_option linter.unusedVariables false
set_option linter.unusedSimpArgs false
set_option maxRecDepth 100000
set_option maxHeartbeats 0
namespace Go.Proofs.YtcfhkbcllijnkaaGreat
open Go.RowKit Go.Maps
theorem zdh {md : Region.Mode} {ops : Array Oper} {l : Array Bool} {i : Nat} (h : i ∈ Region.ready md ops l) :
 i < ops.size ∧ l.getD i true = false ∧ ∃ o, ops[i]? = some o ∧ ∀ e ∈ o.after, Region.binds md e = true → l.getD e.on false = true := by
 simp only [Region.ready, List.mem_filter, List.mem_range, Bool.and_eq_true, Bool.not_eq_true'] at h
 obtain ⟨h1, h2, h3⟩ := h
 refine ⟨h1, h2, ops[i], by simp [h1], fun e he hb => ?_⟩
 rw [Array.getElem?_eq_getElem h1] at h3
 simp only [Option.map_some, Option.getD_some, Array.all_eq_true'] at h3
 have := h3 e he
 rw [hb] at this
 simpa using this
theorem zq0 {md : Region.Mode} {ops : Array Oper} {l : Array Bool} {i : Nat} {o : Oper} (h : ops[i]? = some o) (hl : l.getD i true = false) (ha : ∀ e ∈ o.after, l.getD e.on false = true) : i ∈ Region.ready md ops l := by
 have hi := (yya.1 h).1
 simp only [Region.ready, List.mem_filter, List.mem_range, Bool.and_eq_true, Bool.not_eq_true']
 refine ⟨hi, hl, ?_⟩
 rw [h]
 simp only [Option.map_some, Option.getD_some, Array.all_eq_true']
 intro e he
 rw [ha e he]; simp
theorem zif {md : Region.Mode} {ops : Array Oper} {l : Array Bool} (hlow : (ops.toList.zipIdx.all fun (o, i) => o.after.all fun e => decide (e.on < i)) = true) (hs : l.size = ops.size) (h : Region.ready md ops l = []) :
 ∀ i, i < ops.size → l.getD i false = true := by
 intro i
 induction i using Nat.strongRecOn with
 | ind i ih =>
  intro hi
  have ho : ops[i]? = some ops[i] := by simp [hi]
  have hd : ∀ e ∈ ops[i].after, l.getD e.on false = true := by
   intro e he
   have h1 := List.all_eq_true.1 hlow (ops[i], i) (by rw [List.mem_zipIdx_iff_getElem?]; simp [hi])
   simp only [Array.all_eq_true'] at h1
   have h2 := h1 e he
   simp only [decide_eq_true_eq] at h2
   exact ih e.on h2 (by omega)
  have hli : i < l.size := by omega
  cases hb : l[i] with
  | true => simp [Array.getD, hli, hb]
  | false =>
   have := zq0 (md := md) ho (by simp [Array.getD, hli, hb]) hd
   rw [h] at this
   cases this
def zl8 (l : Array Bool) : Nat := l.toList.count false
theorem zhy {l : Array Bool} {i : Nat} (h : l.getD i true = false) : zl8 (l.setIfInBounds i true) + 1 = zl8 l := by
 have hi : i < l.size := by
  rcases Nat.lt_or_ge i l.size with h' | h'
  · exact h'
  · simp [Array.getD, Nat.not_lt.2 h'] at h
 have hb : l.toList[i]'(by simpa using hi) = false := by simp [Array.getD, hi] at h; simp [h]
 unfold zl8
 have hc : 0 < l.toList.count false := List.count_pos_iff.2 (by rw [← hb]; exact List.getElem_mem _)
 have e := List.count_set (a := true) (b := false) (l := l.toList) (i := i) (by simpa using hi)
 rw [hb, show (if (false == false) = true then 1 else 0) = 1 from rfl, show (if (true == false) = true then 1 else 0) = 0 from rfl] at e
 rw [Array.toList_setIfInBounds, e]
 omega
theorem zgr {P : Program} {ops : Array Oper} {Q : Exit → Act → World → Prop} {md : Region.Mode} (Inv : Array Bool → Act → World → Prop)
 (hstep : ∀ l a w i, Inv l a w → i ∈ Region.ready md ops l → wpOp P ops Q i (fun a' w' => Inv (l.setIfInBounds i true) a' w') a w)
 (hend : ∀ l a w, Inv l a w → Region.ready md ops l = [] → Q .normal a w) :
 ∀ fuel l a w, Inv l a w → zl8 l ≤ fuel → wpAny P md ops Q fuel l a w := by
 intro fuel
 induction fuel with
 | zero =>
  intro l a w hI hu
  have hr : Region.ready md ops l = [] := by
   cases hr : Region.ready md ops l with
   | nil => rfl
   | cons i r =>
    have := zhy (zdh (md := md) (ops := ops) (l := l) (i := i) (by rw [hr]; simp)).2.1
    omega
  exact ⟨hr, hend l a w hI hr⟩
 | succ fuel ih =>
  intro l a w hI hu
  refine ⟨hend l a w hI, fun i hi => ?_⟩
  refine wpOp_mono (fun a' w' h' => ih _ a' w' h' ?_) (hstep l a w i hI hi)
  have := zhy (zdh hi).2.1
  omega
theorem zas {P : Program} {ops : Array Oper} {Q : Exit → Act → World → Prop} {K : Act → World → Prop} {a : Act} {w w' : World} {i : Nat} {o : Oper} (ho : ops[i]? = some o) (hg : o.guard = none) {v : Value}
 (hr : (execOp a.eval o).run P w = .ok (.value v) w') (hK : K (a.put o.dst v) w') : wpOp P ops Q i K a w := by
 unfold wpOp
 rw [ho]
 simp only [Region.wanted, hg, if_true]
 left
 unfold Oper.wp
 rw [hr]
 exact hK
theorem zbd {P : Program} {ops : Array Oper} {Q : Exit → Act → World → Prop} {K : Act → World → Prop} {a : Act} {w w' : World} {i : Nat} {o : Oper} (ho : ops[i]? = some o) (hg : o.guard = none)
 (hr : (execOp a.eval o).run P w = .ok .skip w') (hK : K (a.put o.dst undef) w') : wpOp P ops Q i K a w := by
 unfold wpOp
 rw [ho]
 simp only [Region.wanted, hg, if_true]
 left
 unfold Oper.wp
 rw [hr]
 exact hK
def zoh : List (Int × Int) := [(0, 1), (0, 2), (0, 6), (1, 2), (1, 6), (2, 3), (2, 6), (3, 1), (3, 4), (3, 5)]
def canB (a b : Int) : Bool := zoh.contains (a, b)
def zna : Int → Int → Option Value := fun a b => if canB a b then some (.bool true) else none
theorem zdt : laidOutB Tryz.prog = true := by kernel_rfl
theorem zjp : Keyed Tryz.prog 261 := Keyed.of_law (deep_law_laid zdt (m := 2) (by decide) (of_decide_eq_true (by kernel_rfl)) (by kernel_rfl) (by kernel_rfl))
theorem zt2 : Go.WideMaps.ArrKey Tryz.prog 261 3 2 := ⟨by kernel_rfl, by kernel_rfl, by kernel_rfl, by kernel_rfl⟩
theorem zl9 (a b : Int) (ha : zbl a) (hb : zbl b) : ∃ l, keyOf Tryz.prog 261 (pk a b) = some l :=
 ⟨_, Go.WideMaps.keyOf_pair zt2 Tryz.underlying3 ⟨_, rfl⟩ ha hb⟩
def stA (k : Nat) : Int := (zoh.getD k (0, 0)).1
def stB (k : Nat) : Int := (zoh.getD k (0, 0)).2
def ze8 (l : Array Bool) : Int → Int → Option Value := fun x y => if (List.range 10).any (fun k => l.getD (2 * k + 2) false && stA k == x && stB k == y) then some (.bool true) else none
theorem zoi (k : Nat) (hk : k < 10) : zbl (stA k) ∧ zbl (stB k) := by
 have h : ∀ k : Fin 10, (Lit.int .i64 (stA k)).wf = true ∧ (Lit.int .i64 (stB k)).wf = true := by decide
 exact h ⟨k, hk⟩
theorem zk6 {l : Array Bool} (j : Nat) (h : l.getD j true = false) : l.getD j false = false := by
 simp only [Array.getD_eq_getD_getElem?] at h ⊢
 cases hg : l[j]? with
 | none => rfl
 | some b => rw [hg] at h; simpa using h
structure zkv (w1 : World) (l : Array Bool) (a : Act) (w : World) : Prop where
 size : l.size = 23
 defers : a.defers = []
 tmps : a.tmps.size = 13
 before : l.getD 0 false = false → w = w1 ∧ (∀ k, k < 10 → l.getD (2 * k + 2) false = false) ∧ l.getD 21 false = false ∧ l.getD 22 false = false
 behind : l.getD 0 false = true → ∃ es clock, w = w1.alloc (.map es clock) ∧ zca es clock (ze8 l) ∧ a.tmps.getD 1 undef = .map (some w1.heap.size)
 keys : ∀ k, k < 10 → l.getD (2 * k + 1) false = true → a.tmps.getD (k + 2) undef = pk (stA k) (stB k)
 t12 : l.getD 21 false = true → a.tmps.getD 12 undef = .map (some w1.heap.size)
 t0 : l.getD 22 false = true → a.tmps.getD 0 undef = .map (some w1.heap.size)
theorem zah (l : Array Bool) (i j : Nat) (h : i < l.size) : (l.setIfInBounds i true).getD j false = if i = j then true else l.getD j false := by
 simp only [Array.getD_eq_getD_getElem?, Array.getElem?_setIfInBounds]
 split <;> simp_all
theorem zat (a : Act) (d j : Nat) (v : Value) (h : d < a.tmps.size) : (a.put (some d) v).tmps.getD j undef = if d = j then v else a.tmps.getD j undef := by
 simp only [Act.put, Array.getD_eq_getD_getElem?, Array.getElem?_setIfInBounds]
 split <;> simp_all
theorem zgs {l : List Nat} {p q : Nat → Bool} (h : ∀ k ∈ l, p k = q k) : l.any p = l.any q := by
 rw [Bool.eq_iff_iff, List.any_eq_true, List.any_eq_true]
 constructor <;> rintro ⟨k, hk, h'⟩
 · exact ⟨k, hk, by rw [← h k hk]; exact h'⟩
 · exact ⟨k, hk, by rw [h k hk]; exact h'⟩
theorem zdu (l : Array Bool) (i : Nat) (h : i < l.size) (hi : ∀ k, k < 10 → i ≠ 2 * k + 2) : ze8 (l.setIfInBounds i true) = ze8 l := by
 funext x y
 unfold ze8
 rw [zgs (q := fun k => l.getD (2 * k + 2) false && stA k == x && stB k == y) (fun k hk => by rw [zah _ _ _ h, if_neg (hi k (List.mem_range.1 hk))])]
theorem zq1 (l : Array Bool) (k : Nat) (hk : k < 10) (h : 2 * k + 2 < l.size) : ze8 (l.setIfInBounds (2 * k + 2) true) = zds (ze8 l) (stA k) (stB k) (.bool true) := by
 funext x y
 unfold zds
 by_cases hc : x = stA k ∧ y = stB k
 ·
  rw [if_pos hc]
  unfold ze8
  rw [if_pos]
  rw [List.any_eq_true]
  exact ⟨k, List.mem_range.2 hk, by rw [zah _ _ _ h, if_pos rfl]; simp [hc.1, hc.2]⟩
 ·
  rw [if_neg hc]
  unfold ze8
  rw [zgs (q := fun k => l.getD (2 * k + 2) false && stA k == x && stB k == y) (fun j hj => ?_)]
  rw [zah _ _ _ h]
  by_cases e : 2 * k + 2 = 2 * j + 2
  ·
   obtain rfl : k = j := by omega
   have : (stA k == x && stB k == y) = false := by
    rw [Bool.eq_false_iff]
    intro h'
    simp at h'
    exact hc ⟨h'.1.symm, h'.2.symm⟩
   rw [Bool.and_assoc, Bool.and_assoc, this]
   simp
  · rw [if_neg e]
theorem zq2 (l : Array Bool) (h : ∀ k, k < 10 → l.getD (2 * k + 2) false = false) : ze8 l = fun _ _ => none := by
 funext x y
 unfold ze8
 rw [if_neg]
 intro hc
 rw [List.any_eq_true] at hc
 obtain ⟨j, hj, h'⟩ := hc
 rw [h j (List.mem_range.1 hj)] at h'
 simp at h'
section
variable {w1 : World} {l : Array Bool} {a : Act} {w : World}
theorem zkv.make (h : zkv w1 l a w) (h0 : l.getD 0 true = false) :
 w = w1 ∧ zkv w1 (l.setIfInBounds 0 true) (a.put (some 1) (.map (some w1.heap.size))) (w1.alloc (.map #[] 0)) := by
 have hs := h.size
 have ht := h.tmps
 obtain ⟨hw, hno, h21, h22⟩ := h.before (zk6 0 h0)
 have hF : ze8 (l.setIfInBounds 0 true) = fun _ _ => none := by rw [zdu l 0 (by omega) (by intro k _; omega)]; exact zq2 l hno
 refine ⟨hw, by simp [hs], h.defers, by simp [Act.put, ht], fun hc => ?_, fun _ => ⟨#[], 0, rfl, by rw [hF]; exact zca.empty, ?_⟩, fun k hk' hl => ?_, fun hl => ?_, fun hl => ?_⟩
 · rw [zah _ _ _ (by omega)] at hc; simp at hc
 · rw [zat _ _ _ _ (by omega)]; simp
 · rw [zah _ _ _ (by omega), if_neg (by omega)] at hl
   rw [zat _ _ _ _ (by omega), if_neg (by omega)]
   exact h.keys k hk' hl
 · rw [zah _ _ _ (by omega), if_neg (by omega), h21] at hl
   cases hl
 · rw [zah _ _ _ (by omega), if_neg (by omega), h22] at hl
   cases hl
theorem zkv.build (h : zkv w1 l a w) (k : Nat) (hk : k < 10) : zkv w1 (l.setIfInBounds (2 * k + 1) true) (a.put (some (k + 2)) (pk (stA k) (stB k))) w := by
 have hs := h.size
 have ht := h.tmps
 have hF := zdu l (2 * k + 1) (by omega) (by intro j _; omega)
 refine ⟨by simp [hs], h.defers, by simp [Act.put, ht], fun hc => ?_, fun hc => ?_, fun j hj hl => ?_, fun hl => ?_, fun hl => ?_⟩
 · rw [zah _ _ _ (by omega), if_neg (by omega)] at hc
   obtain ⟨b1, b2, b3, b4⟩ := h.before hc
   exact ⟨b1, fun j hj => by rw [zah _ _ _ (by omega), if_neg (by omega)]; exact b2 j hj, by rw [zah _ _ _ (by omega), if_neg (by omega)]; exact b3, by rw [zah _ _ _ (by omega), if_neg (by omega)]; exact b4⟩
 · rw [zah _ _ _ (by omega), if_neg (by omega)] at hc
   rw [hF, zat _ _ _ _ (by omega), if_neg (by omega)]
   exact h.behind hc
 ·
  rw [zat _ _ _ _ (by omega)]
  rw [zah _ _ _ (by omega)] at hl
  by_cases e : k = j
  · subst e; simp
  · rw [if_neg (by omega)] at hl ⊢
    exact h.keys j hj hl
 · rw [zah _ _ _ (by omega), if_neg (by omega)] at hl
   rw [zat _ _ _ _ (by omega), if_neg (by omega)]
   exact h.t12 hl
 · rw [zah _ _ _ (by omega), if_neg (by omega)] at hl
   rw [zat _ _ _ _ (by omega), if_neg (by omega)]
   exact h.t0 hl
theorem zd6 (w : World) (o o' : Obj) : World.setBlk (w.alloc o) w.heap.size o' = w.alloc o' := by
 have e : (w.heap.push o).setIfInBounds w.heap.size o' = w.heap.push o' := by
  apply Array.ext_getElem?
  intro i
  simp only [Array.getElem?_setIfInBounds, Array.getElem?_push, Array.size_push]
  by_cases h : w.heap.size = i
  · subst h; simp
  · rw [if_neg h, if_neg (Ne.symm h), if_neg (Ne.symm h)]
 show ({ w with heap := (w.heap.push o).setIfInBounds w.heap.size o' } : World) = { w with heap := w.heap.push o' }
 rw [e]
theorem zkv.insert (h : zkv w1 l a w) (k : Nat) (hk : k < 10) (h0 : l.getD 0 false = true) (h1 : l.getD (2 * k + 1) false = true) :
 ∃ w', (Instr.mapUpdate 259 (a.eval (.tmp 1)) (a.eval (.tmp (k + 2))) (.bool true)).run Tryz.prog w = .ok () w' ∧ zkv w1 (l.setIfInBounds (2 * k + 2) true) a w' := by
 have hs := h.size
 obtain ⟨es, clock, rfl, hE, h1'⟩ := h.behind h0
 have hM : zdo (w1.alloc (.map es clock)) w1.heap.size (ze8 l) := ⟨es, clock, heap_alloc_new w1 _, hE⟩
 obtain ⟨es', clock', hr, hE'⟩ := hM.update zjp zl9 Tryz.underlying259 (stA k) (stB k) (zoi k hk).1 (zoi k hk).2 (.bool true)
 have e1 : a.eval (.tmp 1) = .map (some w1.heap.size) := h1'
 have e2 : a.eval (.tmp (k + 2)) = pk (stA k) (stB k) := h.keys k hk h1
 rw [zd6] at hr
 refine ⟨_, by rw [e1, e2]; exact hr, ?_⟩
 rw [← zq1 l k hk (by omega)] at hE'
 refine ⟨by simp [hs], h.defers, h.tmps, fun hc => ?_, fun hc => ⟨es', clock', rfl, hE', h1'⟩, fun j hj hl => ?_, fun hl => ?_, fun hl => ?_⟩
 · rw [zah _ _ _ (by omega), if_neg (by omega)] at hc; rw [h0] at hc; cases hc
 · rw [zah _ _ _ (by omega), if_neg (by omega)] at hl
   exact h.keys j hj hl
 ·
  rw [zah _ _ _ (by omega)] at hl
  by_cases e : 2 * k + 2 = 21
  · omega
  · rw [if_neg e] at hl; exact h.t12 hl
 ·
  rw [zah _ _ _ (by omega)] at hl
  by_cases e : 2 * k + 2 = 22
  · omega
  · rw [if_neg e] at hl; exact h.t0 hl
theorem zkv.move (h : zkv w1 l a w) (h0 : l.getD 0 false = true) : zkv w1 (l.setIfInBounds 21 true) (a.put (some 12) (a.eval (.tmp 1))) w := by
 have hs := h.size
 have ht := h.tmps
 have hF := zdu l 21 (by omega) (by intro j _; omega)
 obtain ⟨es, clock, hw, hE, h1'⟩ := h.behind h0
 refine ⟨by simp [hs], h.defers, by simp [Act.put, ht], fun hc => ?_, fun hc => ⟨es, clock, hw, by rw [hF]; exact hE, ?_⟩, fun j hj hl => ?_, fun hl => ?_, fun hl => ?_⟩
 · rw [zah _ _ _ (by omega), if_neg (by omega)] at hc; rw [h0] at hc; cases hc
 · rw [zat _ _ _ _ (by omega), if_neg (by omega)]; exact h1'
 · rw [zah _ _ _ (by omega), if_neg (by omega)] at hl
   rw [zat _ _ _ _ (by omega), if_neg (by omega)]
   exact h.keys j hj hl
 · rw [zat _ _ _ _ (by omega), if_pos rfl]; exact h1'
 · rw [zah _ _ _ (by omega), if_neg (by omega)] at hl
   rw [zat _ _ _ _ (by omega), if_neg (by omega)]
   exact h.t0 hl
theorem zkv.assign (h : zkv w1 l a w) (h0 : l.getD 0 false = true) (h21 : l.getD 21 false = true) : zkv w1 (l.setIfInBounds 22 true) (a.put (some 0) (a.eval (.tmp 12))) w := by
 have hs := h.size
 have ht := h.tmps
 have hne : ∀ k, k < 10 → (22 : Nat) ≠ 2 * k + 2 := by intro k hk; omega
 have hF := zdu l 22 (by omega) hne
 have e := h.t12 h21
 refine ⟨by simp [hs], h.defers, by simp [Act.put, ht], fun hc => ?_, fun hc => ?_, fun j hj hl => ?_, fun hl => ?_, fun hl => ?_⟩
 · rw [zah _ _ _ (by omega), if_neg (by omega)] at hc; rw [h0] at hc; cases hc
 · rw [hF, zat _ _ _ _ (by omega), if_neg (by omega)]
   exact h.behind h0
 · rw [zah _ _ _ (by omega), if_neg (by omega)] at hl
   rw [zat _ _ _ _ (by omega), if_neg (by omega)]
   exact h.keys j hj hl
 · rw [zah _ _ _ (by omega), if_neg (by omega)] at hl
   rw [zat _ _ _ _ (by omega), if_neg (by omega)]
   exact h.t12 hl
 · rw [zat _ _ _ _ (by omega), if_pos rfl]; exact e
end
theorem za8 {a : Act} {x y z : Operand} {w w' : World} {t : TypeId} {d : Option Tmp} {ty : TypeId} {p : String} {af : Array Edge} {g : Option (Nat × Bool)} (h : (Instr.mapUpdate t (a.eval x) (a.eval y) (a.eval z)).run Tryz.prog w = .ok () w') :
 (execOp a.eval { dst := d, op := .insert t x y z, type := ty, pos := p, after := af, guard := g }).run Tryz.prog w = .ok .skip w' := by
 simp only [execOp, Sem.run_bind, h, Result.andThen]
 rfl
theorem zoj (l : Array Bool) (h : ∀ k, k < 10 → l.getD (2 * k + 2) false = true) : ze8 l = zna := by
 funext x y
 unfold ze8 zna canB
 rw [zgs (q := fun k => stA k == x && stB k == y) (fun k hk => by rw [h k (List.mem_range.1 hk)]; simp)]
 congr 1
 rw [eq_iff_iff]
 constructor
 ·
  intro hc
  rw [List.any_eq_true] at hc
  obtain ⟨k, hk, h'⟩ := hc
  simp only [Bool.and_eq_true, beq_iff_eq] at h'
  obtain ⟨rfl, rfl⟩ := h'
  have hh : ∀ k : Fin 10, zoh.contains (stA k, stB k) = true := by decide
  exact hh ⟨k, List.mem_range.1 hk⟩
 ·
  intro hc
  rw [List.contains_iff_mem] at hc
  have hh : ∀ p ∈ zoh, (List.range 10).any (fun k => stA k == p.1 && stB k == p.2) = true := by decide
  exact hh _ hc
theorem zok (w : World) : Calls Tryz.prog 167 #[] w fun e w' => ∃ es clock, e = .returned (.map (some w.heap.size)) ∧ w' = (w.alloc (.map es clock)).drew ∧ zca es clock zna := by
 go_enter Tryz.func167, Tryz.ntmps167
 go_wp2_with fail
 refine wp_region_any (by kernel_rfl) ?_
 refine zgr (zkv w.drew) ?_ ?_ _ _ _ _ ?_ (by decide)
 ·
  intro l a w' i hI hi
  obtain ⟨h1, h2, o, ho, hd⟩ := zdh hi
  have h3 : i < 23 := h1
  rcases (show i = 0 ∨ ((i = 1 ∨ i = 3 ∨ i = 5 ∨ i = 7 ∨ i = 9) ∨ (i = 11 ∨ i = 13 ∨ i = 15 ∨ i = 17 ∨ i = 19)) ∨ ((i = 2 ∨ i = 4 ∨ i = 6 ∨ i = 8 ∨ i = 10) ∨ (i = 12 ∨ i = 14 ∨ i = 16 ∨ i = 18 ∨ i = 20)) ∨ i = 21 ∨ i = 22 from by omega) with rfl | ((rfl | rfl | rfl | rfl | rfl) | (rfl | rfl | rfl | rfl | rfl)) | ((rfl | rfl | rfl | rfl | rfl) | (rfl | rfl | rfl | rfl | rfl)) | rfl | rfl
  · obtain ⟨rfl, hL⟩ := hI.make h2
    exact zas (o := { dst := some 1, op := .makeMap 259 none, type := 259, pos := "word.go:35", after := #[], guard := none }) rfl rfl (v := .map (some w.drew.heap.size)) (by rfl) hL
  · exact zas (o := { dst := some 2, op := .build 261 #[(0, .const (.int .i64 0)), (1, .const (.int .i64 1))], type := 261, pos := "word.go:35", after := #[], guard := none }) rfl rfl (v := pk (stA 0) (stB 0)) (by kernel_rfl) (hI.build 0 (by decide))
  · exact zas (o := { dst := some 3, op := .build 261 #[(0, .const (.int .i64 0)), (1, .const (.int .i64 2))], type := 261, pos := "word.go:35", after := #[], guard := none }) rfl rfl (v := pk (stA 1) (stB 1)) (by kernel_rfl) (hI.build 1 (by decide))
  · exact zas (o := { dst := some 4, op := .build 261 #[(0, .const (.int .i64 0)), (1, .const (.int .i64 6))], type := 261, pos := "word.go:35", after := #[], guard := none }) rfl rfl (v := pk (stA 2) (stB 2)) (by kernel_rfl) (hI.build 2 (by decide))
  · exact zas (o := { dst := some 5, op := .build 261 #[(0, .const (.int .i64 1)), (1, .const (.int .i64 2))], type := 261, pos := "word.go:35", after := #[], guard := none }) rfl rfl (v := pk (stA 3) (stB 3)) (by kernel_rfl) (hI.build 3 (by decide))
  · exact zas (o := { dst := some 6, op := .build 261 #[(0, .const (.int .i64 1)), (1, .const (.int .i64 6))], type := 261, pos := "word.go:35", after := #[], guard := none }) rfl rfl (v := pk (stA 4) (stB 4)) (by kernel_rfl) (hI.build 4 (by decide))
  · exact zas (o := { dst := some 7, op := .build 261 #[(0, .const (.int .i64 2)), (1, .const (.int .i64 3))], type := 261, pos := "word.go:35", after := #[], guard := none }) rfl rfl (v := pk (stA 5) (stB 5)) (by kernel_rfl) (hI.build 5 (by decide))
  · exact zas (o := { dst := some 8, op := .build 261 #[(0, .const (.int .i64 2)), (1, .const (.int .i64 6))], type := 261, pos := "word.go:35", after := #[], guard := none }) rfl rfl (v := pk (stA 6) (stB 6)) (by kernel_rfl) (hI.build 6 (by decide))
  · exact zas (o := { dst := some 9, op := .build 261 #[(0, .const (.int .i64 3)), (1, .const (.int .i64 1))], type := 261, pos := "word.go:35", after := #[], guard := none }) rfl rfl (v := pk (stA 7) (stB 7)) (by kernel_rfl) (hI.build 7 (by decide))
  · exact zas (o := { dst := some 10, op := .build 261 #[(0, .const (.int .i64 3)), (1, .const (.int .i64 4))], type := 261, pos := "word.go:35", after := #[], guard := none }) rfl rfl (v := pk (stA 8) (stB 8)) (by kernel_rfl) (hI.build 8 (by decide))
  · exact zas (o := { dst := some 11, op := .build 261 #[(0, .const (.int .i64 3)), (1, .const (.int .i64 5))], type := 261, pos := "word.go:35", after := #[], guard := none }) rfl rfl (v := pk (stA 9) (stB 9)) (by kernel_rfl) (hI.build 9 (by decide))
  · have ho' : #[ (⟨0, .data⟩ : Edge), ⟨1, .data⟩] = o.after := congrArg Oper.after (Option.some.inj ho)
    obtain ⟨w2, hr, hL⟩ := hI.insert 0 (by decide) (hd ⟨0, .data⟩ (by rw [← ho']; simp) rfl) (hd ⟨1, .data⟩ (by rw [← ho']; simp) rfl)
    exact zbd (o := { dst := none, op := .insert 259 (.tmp 1) (.tmp 2) (.const (.bool true)), type := 0, pos := "word.go:35", after := #[⟨0, .data⟩, ⟨1, .data⟩], guard := none }) rfl rfl (za8 hr) hL
  · have ho' : #[ (⟨0, .data⟩ : Edge), ⟨3, .data⟩] = o.after := congrArg Oper.after (Option.some.inj ho)
    obtain ⟨w2, hr, hL⟩ := hI.insert 1 (by decide) (hd ⟨0, .data⟩ (by rw [← ho']; simp) rfl) (hd ⟨3, .data⟩ (by rw [← ho']; simp) rfl)
    exact zbd (o := { dst := none, op := .insert 259 (.tmp 1) (.tmp 3) (.const (.bool true)), type := 0, pos := "word.go:35", after := #[⟨0, .data⟩, ⟨3, .data⟩], guard := none }) rfl rfl (za8 hr) hL
  · have ho' : #[ (⟨0, .data⟩ : Edge), ⟨5, .data⟩] = o.after := congrArg Oper.after (Option.some.inj ho)
    obtain ⟨w2, hr, hL⟩ := hI.insert 2 (by decide) (hd ⟨0, .data⟩ (by rw [← ho']; simp) rfl) (hd ⟨5, .data⟩ (by rw [← ho']; simp) rfl)
    exact zbd (o := { dst := none, op := .insert 259 (.tmp 1) (.tmp 4) (.const (.bool true)), type := 0, pos := "word.go:35", after := #[⟨0, .data⟩, ⟨5, .data⟩], guard := none }) rfl rfl (za8 hr) hL
  · have ho' : #[ (⟨0, .data⟩ : Edge), ⟨7, .data⟩] = o.after := congrArg Oper.after (Option.some.inj ho)
    obtain ⟨w2, hr, hL⟩ := hI.insert 3 (by decide) (hd ⟨0, .data⟩ (by rw [← ho']; simp) rfl) (hd ⟨7, .data⟩ (by rw [← ho']; simp) rfl)
    exact zbd (o := { dst := none, op := .insert 259 (.tmp 1) (.tmp 5) (.const (.bool true)), type := 0, pos := "word.go:35", after := #[⟨0, .data⟩, ⟨7, .data⟩], guard := none }) rfl rfl (za8 hr) hL
  · have ho' : #[ (⟨0, .data⟩ : Edge), ⟨9, .data⟩] = o.after := congrArg Oper.after (Option.some.inj ho)
    obtain ⟨w2, hr, hL⟩ := hI.insert 4 (by decide) (hd ⟨0, .data⟩ (by rw [← ho']; simp) rfl) (hd ⟨9, .data⟩ (by rw [← ho']; simp) rfl)
    exact zbd (o := { dst := none, op := .insert 259 (.tmp 1) (.tmp 6) (.const (.bool true)), type := 0, pos := "word.go:35", after := #[⟨0, .data⟩, ⟨9, .data⟩], guard := none }) rfl rfl (za8 hr) hL
  · have ho' : #[ (⟨0, .data⟩ : Edge), ⟨11, .data⟩] = o.after := congrArg Oper.after (Option.some.inj ho)
    obtain ⟨w2, hr, hL⟩ := hI.insert 5 (by decide) (hd ⟨0, .data⟩ (by rw [← ho']; simp) rfl) (hd ⟨11, .data⟩ (by rw [← ho']; simp) rfl)
    exact zbd (o := { dst := none, op := .insert 259 (.tmp 1) (.tmp 7) (.const (.bool true)), type := 0, pos := "word.go:35", after := #[⟨0, .data⟩, ⟨11, .data⟩], guard := none }) rfl rfl (za8 hr) hL
  · have ho' : #[ (⟨0, .data⟩ : Edge), ⟨13, .data⟩] = o.after := congrArg Oper.after (Option.some.inj ho)
    obtain ⟨w2, hr, hL⟩ := hI.insert 6 (by decide) (hd ⟨0, .data⟩ (by rw [← ho']; simp) rfl) (hd ⟨13, .data⟩ (by rw [← ho']; simp) rfl)
    exact zbd (o := { dst := none, op := .insert 259 (.tmp 1) (.tmp 8) (.const (.bool true)), type := 0, pos := "word.go:35", after := #[⟨0, .data⟩, ⟨13, .data⟩], guard := none }) rfl rfl (za8 hr) hL
  · have ho' : #[ (⟨0, .data⟩ : Edge), ⟨15, .data⟩] = o.after := congrArg Oper.after (Option.some.inj ho)
    obtain ⟨w2, hr, hL⟩ := hI.insert 7 (by decide) (hd ⟨0, .data⟩ (by rw [← ho']; simp) rfl) (hd ⟨15, .data⟩ (by rw [← ho']; simp) rfl)
    exact zbd (o := { dst := none, op := .insert 259 (.tmp 1) (.tmp 9) (.const (.bool true)), type := 0, pos := "word.go:35", after := #[⟨0, .data⟩, ⟨15, .data⟩], guard := none }) rfl rfl (za8 hr) hL
  · have ho' : #[ (⟨0, .data⟩ : Edge), ⟨17, .data⟩] = o.after := congrArg Oper.after (Option.some.inj ho)
    obtain ⟨w2, hr, hL⟩ := hI.insert 8 (by decide) (hd ⟨0, .data⟩ (by rw [← ho']; simp) rfl) (hd ⟨17, .data⟩ (by rw [← ho']; simp) rfl)
    exact zbd (o := { dst := none, op := .insert 259 (.tmp 1) (.tmp 10) (.const (.bool true)), type := 0, pos := "word.go:35", after := #[⟨0, .data⟩, ⟨17, .data⟩], guard := none }) rfl rfl (za8 hr) hL
  · have ho' : #[ (⟨0, .data⟩ : Edge), ⟨19, .data⟩] = o.after := congrArg Oper.after (Option.some.inj ho)
    obtain ⟨w2, hr, hL⟩ := hI.insert 9 (by decide) (hd ⟨0, .data⟩ (by rw [← ho']; simp) rfl) (hd ⟨19, .data⟩ (by rw [← ho']; simp) rfl)
    exact zbd (o := { dst := none, op := .insert 259 (.tmp 1) (.tmp 11) (.const (.bool true)), type := 0, pos := "word.go:35", after := #[⟨0, .data⟩, ⟨19, .data⟩], guard := none }) rfl rfl (za8 hr) hL
  · have h0 : l.getD 0 false = true := hd ⟨0, .data⟩ (by rw [← congrArg Oper.after (Option.some.inj ho)]; simp) rfl
    exact zas (o := _) rfl rfl (v := a.eval (.tmp 1)) (by rfl) (hI.move h0)
  · have h0 : l.getD 0 false = true := hd ⟨0, .phase⟩ (by rw [← congrArg Oper.after (Option.some.inj ho)]; simp) rfl
    have h21 : l.getD 21 false = true := hd ⟨21, .data⟩ (by rw [← congrArg Oper.after (Option.some.inj ho)]; simp) rfl
    exact zas (o := _) rfl rfl (v := a.eval (.tmp 12)) (by rfl) (hI.assign h0 h21)
 ·
  intro l a w' hI hr
  have hall := zif (by kernel_rfl) hI.size hr
  obtain ⟨es, clock, hw, hE, h1⟩ := hI.behind (hall 0 (by decide))
  rw [zoj l (fun k hk => hall (2 * k + 2) (show 2 * k + 2 < 23 by omega))] at hE
  have h0 := hI.t0 (hall 22 (by decide))
  have hd := hI.defers
  clear hall hr hI
  rename_i Q' K hK
  refine hK a w' (wp_ret ?_)
  refine ⟨hd, .map (some w.heap.size), ?_, es, clock, rfl, hw, hE⟩
  rw [results_tmp Tryz.results167]
  exact congrArg (Result.ok · w') h0
 ·
  refine ⟨rfl, rfl, rfl, fun _ => ⟨rfl, by decide, by decide, by decide⟩, fun h => by simp at h, fun k hk h => ?_, fun h => by simp at h, fun h => by simp at h⟩
  exfalso
  have hh : ∀ j : Nat, (Array.replicate 23 false).getD j false = false := by
   intro j
   simp only [Array.getD_eq_getD_getElem?, Array.getElem?_replicate]
   split <;> rfl
  have := (hh (2 * k + 1)).symm.trans h
  cases this
theorem zq3 (w : World) : (zeroValue 4).run Tryz.prog w = .ok (.bool false) w := by kernel_rfl
theorem zk7 (a b : Int) (ha : zbl a) (hb : zbl b) (w : World) : Calls Tryz.prog 120 #[.int .i64 a, .int .i64 b] w fun e w' => e = .returned (.bool (canB a b)) ∧ Below w.heap.size w w' := by
 have hlook : ∀ es clock, zca es clock zna → (Instr.lookup 259 (.map (some w.heap.size)) (.agg #[.int .i64 a, .int .i64 b]) false).run Tryz.prog ((w.alloc (.map es clock)).drew) = .ok (.bool (canB a b)) ((w.alloc (.map es clock)).drew) := fun es clock hE => by
  have h : zdo ((w.alloc (.map es clock)).drew) w.heap.size zna := ⟨es, clock, heap_alloc_new w.drew _, hE⟩
  have := h.lookup zjp zl9 Tryz.underlying259 (.bool false) (zq3 _) a b ha hb
  refine this.trans ?_
  unfold zna
  cases canB a b <;> rfl
 go_enter Tryz.func120, Tryz.ntmps120
 go_wp2_with (go_at_call 167; refine (zok _).mono ?_; rintro e w' ⟨es, clock, rfl, rfl, hE⟩; have hl := hlook es clock hE; clear hlook)
 go_ret
 exact ⟨rfl, (yyr.alloc yyn _).drew⟩
def spA (k : Nat) : Int := [2, 3, 3, 4].getD k 0
def spB (k : Nat) : Int := [0, 0, 1, 0].getD k 0
def spV (k : Nat) : Value := pk ([0, 0, 0, 1].getD k 0) ([7, 7, 1000000, 1000].getD k 0)
def zho : Int → Int → Option Value := fun x y => if x = 2 ∧ y = 0 then some (pk 0 7) else if x = 3 ∧ y = 0 then some (pk 0 7) else if x = 3 ∧ y = 1 then some (pk 0 1000000) else if x = 4 ∧ y = 0 then some (pk 1 1000) else none
def zem (l : Array Bool) : Int → Int → Option Value := fun x y => if l.getD 3 false = true ∧ x = 2 ∧ y = 0 then some (pk 0 7) else if l.getD 6 false = true ∧ x = 3 ∧ y = 0 then some (pk 0 7) else if l.getD 9 false = true ∧ x = 3 ∧ y = 1 then some (pk 0 1000000) else if l.getD 12 false = true ∧ x = 4 ∧ y = 0 then some (pk 1 1000) else none
theorem zhz : Keyed Tryz.prog 255 := Keyed.of_law (deep_law_laid zdt (m := 2) (by decide) (of_decide_eq_true (by kernel_rfl)) (by kernel_rfl) (by kernel_rfl))
theorem zq4 : Go.WideMaps.ArrKey Tryz.prog 255 3 2 := ⟨by kernel_rfl, by kernel_rfl, by kernel_rfl, by kernel_rfl⟩
theorem zjq (a b : Int) (ha : zbl a) (hb : zbl b) : ∃ l, keyOf Tryz.prog 255 (pk a b) = some l :=
 ⟨_, Go.WideMaps.keyOf_pair zq4 Tryz.underlying3 ⟨_, rfl⟩ ha hb⟩
theorem zol (k : Nat) (hk : k < 4) : zbl (spA k) ∧ zbl (spB k) := by
 have h : ∀ k : Fin 4, (Lit.int .i64 (spA k)).wf = true ∧ (Lit.int .i64 (spB k)).wf = true := by decide
 exact h ⟨k, hk⟩
theorem zdv (l : Array Bool) (i : Nat) (h : i < l.size) (h1 : i ≠ 3) (h2 : i ≠ 6) (h3 : i ≠ 9) (h4 : i ≠ 12) : zem (l.setIfInBounds i true) = zem l := by
 funext x y
 simp only [zem, zah _ _ _ h, if_neg h1, if_neg h2, if_neg h3, if_neg h4]
theorem zq5 (l : Array Bool) (hs : l.size = 15) (k : Nat) (hk : k < 4) : zem (l.setIfInBounds (3 * k + 3) true) = zds (zem l) (spA k) (spB k) (spV k) := by
 funext x y
 rcases (show k = 0 ∨ k = 1 ∨ k = 2 ∨ k = 3 from by omega) with rfl | rfl | rfl | rfl
 ·
  simp only [zem, zds, zah l 3 _ (by omega), show 3 * 0 + 3 = 3 from rfl, show spA 0 = 2 from rfl, show spB 0 = 0 from rfl, show spV 0 = pk 0 7 from rfl]
  by_cases h : x = 2 ∧ y = 0
  · simp [h]
  · simp [h]
 ·
  simp only [zem, zds, zah l 6 _ (by omega), show 3 * 1 + 3 = 6 from rfl, show spA 1 = 3 from rfl, show spB 1 = 0 from rfl, show spV 1 = pk 0 7 from rfl]
  by_cases h : x = 3 ∧ y = 0
  · simp [h]
  · simp [h]
 ·
  simp only [zem, zds, zah l 9 _ (by omega), show 3 * 2 + 3 = 9 from rfl, show spA 2 = 3 from rfl, show spB 2 = 1 from rfl, show spV 2 = pk 0 1000000 from rfl]
  by_cases h : x = 3 ∧ y = 1
  · simp [h]
  · simp [h]
 ·
  simp only [zem, zds, zah l 12 _ (by omega), show 3 * 3 + 3 = 12 from rfl, show spA 3 = 4 from rfl, show spB 3 = 0 from rfl, show spV 3 = pk 1 1000 from rfl]
  by_cases h : x = 4 ∧ y = 0
  · simp [h]
  · simp [h]
theorem zq6 (l : Array Bool) (h : ∀ k, k < 4 → l.getD (3 * k + 3) false = false) : zem l = fun _ _ => none := by
 funext x y
 have h0 := h 0 (by decide)
 have h1 := h 1 (by decide)
 have h2 := h 2 (by decide)
 have h3 := h 3 (by decide)
 simp only [show 3 * 0 + 3 = 3 from rfl, show 3 * 1 + 3 = 6 from rfl, show 3 * 2 + 3 = 9 from rfl, show 3 * 3 + 3 = 12 from rfl] at h0 h1 h2 h3
 simp [zem, h0, h1, h2, h3]
theorem zom (l : Array Bool) (h : ∀ k, k < 4 → l.getD (3 * k + 3) false = true) : zem l = zho := by
 funext x y
 have h0 := h 0 (by decide)
 have h1 := h 1 (by decide)
 have h2 := h 2 (by decide)
 have h3 := h 3 (by decide)
 simp only [show 3 * 0 + 3 = 3 from rfl, show 3 * 1 + 3 = 6 from rfl, show 3 * 2 + 3 = 9 from rfl, show 3 * 3 + 3 = 12 from rfl] at h0 h1 h2 h3
 simp [zem, zho, h0, h1, h2, h3]
structure zhm (w1 : World) (l : Array Bool) (a : Act) (w : World) : Prop where
 size : l.size = 15
 defers : a.defers = []
 tmps : a.tmps.size = 11
 before : l.getD 0 false = false → w = w1 ∧ (∀ k, k < 4 → l.getD (3 * k + 3) false = false) ∧ l.getD 13 false = false ∧ l.getD 14 false = false
 behind : l.getD 0 false = true → ∃ es clock, w = w1.alloc (.map es clock) ∧ zca es clock (zem l) ∧ a.tmps.getD 1 undef = .map (some w1.heap.size)
 keys : ∀ k, k < 4 → l.getD (3 * k + 1) false = true → a.tmps.getD (2 * k + 2) undef = pk (spA k) (spB k)
 vals : ∀ k, k < 4 → l.getD (3 * k + 2) false = true → a.tmps.getD (2 * k + 3) undef = spV k
 t10 : l.getD 13 false = true → a.tmps.getD 10 undef = .map (some w1.heap.size)
 t0 : l.getD 14 false = true → a.tmps.getD 0 undef = .map (some w1.heap.size)
section
variable {w1 : World} {l : Array Bool} {a : Act} {w : World}
theorem zhm.make (h : zhm w1 l a w) (h0 : l.getD 0 true = false) :
 w = w1 ∧ zhm w1 (l.setIfInBounds 0 true) (a.put (some 1) (.map (some w1.heap.size))) (w1.alloc (.map #[] 0)) := by
 have hs := h.size
 have ht := h.tmps
 obtain ⟨hw, hno, h13, h14⟩ := h.before (zk6 0 h0)
 have hF : zem (l.setIfInBounds 0 true) = fun _ _ => none := by rw [zdv l 0 (by omega) (by omega) (by omega) (by omega) (by omega)]; exact zq6 l hno
 refine ⟨hw, by simp [hs], h.defers, by simp [Act.put, ht], fun hc => ?_, fun _ => ⟨#[], 0, rfl, by rw [hF]; exact zca.empty, ?_⟩, fun k hk' hl => ?_, fun k hk' hl => ?_, fun hl => ?_, fun hl => ?_⟩
 · rw [zah _ _ _ (by omega)] at hc; simp at hc
 · rw [zat _ _ _ _ (by omega)]; simp
 · rw [zah _ _ _ (by omega), if_neg (by omega)] at hl
   rw [zat _ _ _ _ (by omega), if_neg (by omega)]
   exact h.keys k hk' hl
 · rw [zah _ _ _ (by omega), if_neg (by omega)] at hl
   rw [zat _ _ _ _ (by omega), if_neg (by omega)]
   exact h.vals k hk' hl
 · rw [zah _ _ _ (by omega), if_neg (by omega), h13] at hl
   cases hl
 · rw [zah _ _ _ (by omega), if_neg (by omega), h14] at hl
   cases hl
theorem zhm.slot (h : zhm w1 l a w) (i d : Nat) (v : Value) (hi : i < 15) (i0 : i ≠ 0) (i3 : i ≠ 3) (i6 : i ≠ 6) (i9 : i ≠ 9) (i12 : i ≠ 12) (i13 : i ≠ 13) (i14 : i ≠ 14) (hd : 2 ≤ d) (hd2 : d ≤ 9)
 (hk : ∀ k, k < 4 → (i = 3 * k + 1 → d = 2 * k + 2 ∧ v = pk (spA k) (spB k)) ∧ (i ≠ 3 * k + 1 → d ≠ 2 * k + 2)) (hv : ∀ k, k < 4 → (i = 3 * k + 2 → d = 2 * k + 3 ∧ v = spV k) ∧ (i ≠ 3 * k + 2 → d ≠ 2 * k + 3)) : zhm w1 (l.setIfInBounds i true) (a.put (some d) v) w := by
 have hs := h.size
 have ht := h.tmps
 have hF := zdv l i (by omega) i3 i6 i9 i12
 refine ⟨by simp [hs], h.defers, by simp [Act.put, ht], fun hc => ?_, fun hc => ?_, fun j hj hl => ?_, fun j hj hl => ?_, fun hl => ?_, fun hl => ?_⟩
 · rw [zah _ _ _ (by omega), if_neg (by omega)] at hc
   obtain ⟨b1, b2, b3, b4⟩ := h.before hc
   exact ⟨b1, fun j hj => by rw [zah _ _ _ (by omega), if_neg (by omega)]; exact b2 j hj, by rw [zah _ _ _ (by omega), if_neg (by omega)]; exact b3, by rw [zah _ _ _ (by omega), if_neg (by omega)]; exact b4⟩
 · rw [zah _ _ _ (by omega), if_neg (by omega)] at hc
   rw [hF, zat _ _ _ _ (by omega), if_neg (by omega)]
   exact h.behind hc
 ·
  rw [zat _ _ _ _ (by omega)]
  rw [zah _ _ _ (by omega)] at hl
  by_cases e : i = 3 * j + 1
  · obtain ⟨e1, e2⟩ := (hk j hj).1 e
    rw [if_pos e1, e2]
  · rw [if_neg e] at hl
    rw [if_neg ((hk j hj).2 e)]
    exact h.keys j hj hl
 ·
  rw [zat _ _ _ _ (by omega)]
  rw [zah _ _ _ (by omega)] at hl
  by_cases e : i = 3 * j + 2
  · obtain ⟨e1, e2⟩ := (hv j hj).1 e
    rw [if_pos e1, e2]
  · rw [if_neg e] at hl
    rw [if_neg ((hv j hj).2 e)]
    exact h.vals j hj hl
 · rw [zah _ _ _ (by omega), if_neg (by omega)] at hl
   rw [zat _ _ _ _ (by omega), if_neg (by omega)]
   exact h.t10 hl
 · rw [zah _ _ _ (by omega), if_neg (by omega)] at hl
   rw [zat _ _ _ _ (by omega), if_neg (by omega)]
   exact h.t0 hl
theorem zhm.key (h : zhm w1 l a w) (k : Nat) (hk : k < 4) : zhm w1 (l.setIfInBounds (3 * k + 1) true) (a.put (some (2 * k + 2)) (pk (spA k) (spB k))) w :=
 h.slot (3 * k + 1) (2 * k + 2) _ (by omega) (by omega) (by omega) (by omega) (by omega) (by omega) (by omega) (by omega) (by omega) (by omega) (fun j hj => ⟨fun e => by (obtain rfl : k = j := (by omega)); exact ⟨rfl, rfl⟩, fun e => by omega⟩) (fun j hj => ⟨fun e => by omega, fun e => by omega⟩)
theorem zhm.val (h : zhm w1 l a w) (k : Nat) (hk : k < 4) : zhm w1 (l.setIfInBounds (3 * k + 2) true) (a.put (some (2 * k + 3)) (spV k)) w :=
 h.slot (3 * k + 2) (2 * k + 3) _ (by omega) (by omega) (by omega) (by omega) (by omega) (by omega) (by omega) (by omega) (by omega) (by omega) (fun j hj => ⟨fun e => by omega, fun e => by omega⟩) (fun j hj => ⟨fun e => by (obtain rfl : k = j := (by omega)); exact ⟨rfl, rfl⟩, fun e => by omega⟩)
theorem zhm.insert (h : zhm w1 l a w) (k : Nat) (hk : k < 4) (h0 : l.getD 0 false = true) (h1 : l.getD (3 * k + 1) false = true) (h2 : l.getD (3 * k + 2) false = true) :
 ∃ w', (Instr.mapUpdate 192 (a.eval (.tmp 1)) (a.eval (.tmp (2 * k + 2))) (a.eval (.tmp (2 * k + 3)))).run Tryz.prog w = .ok () w' ∧ zhm w1 (l.setIfInBounds (3 * k + 3) true) a w' := by
 have hs := h.size
 obtain ⟨es, clock, rfl, hE, h1'⟩ := h.behind h0
 have hM : zdo (w1.alloc (.map es clock)) w1.heap.size (zem l) := ⟨es, clock, heap_alloc_new w1 _, hE⟩
 obtain ⟨es', clock', hr, hE'⟩ := hM.update zhz zjq Tryz.underlying192 (spA k) (spB k) (zol k hk).1 (zol k hk).2 (spV k)
 have e1 : a.eval (.tmp 1) = .map (some w1.heap.size) := h1'
 have e2 : a.eval (.tmp (2 * k + 2)) = pk (spA k) (spB k) := h.keys k hk h1
 have e3 : a.eval (.tmp (2 * k + 3)) = spV k := h.vals k hk h2
 rw [zd6] at hr
 refine ⟨_, by rw [e1, e2, e3]; exact hr, ?_⟩
 rw [← zq5 l hs k hk] at hE'
 refine ⟨by simp [hs], h.defers, h.tmps, fun hc => ?_, fun hc => ⟨es', clock', rfl, hE', h1'⟩, fun j hj hl => ?_, fun j hj hl => ?_, fun hl => ?_, fun hl => ?_⟩
 · rw [zah _ _ _ (by omega), if_neg (by omega)] at hc; rw [h0] at hc; cases hc
 · rw [zah _ _ _ (by omega), if_neg (by omega)] at hl
   exact h.keys j hj hl
 · rw [zah _ _ _ (by omega), if_neg (by omega)] at hl
   exact h.vals j hj hl
 · rw [zah _ _ _ (by omega), if_neg (by omega)] at hl
   exact h.t10 hl
 · rw [zah _ _ _ (by omega), if_neg (by omega)] at hl
   exact h.t0 hl
theorem zhm.move (h : zhm w1 l a w) (h0 : l.getD 0 false = true) : zhm w1 (l.setIfInBounds 13 true) (a.put (some 10) (a.eval (.tmp 1))) w := by
 have hs := h.size
 have ht := h.tmps
 have hF := zdv l 13 (by omega) (by omega) (by omega) (by omega) (by omega)
 obtain ⟨es, clock, hw, hE, h1'⟩ := h.behind h0
 refine ⟨by simp [hs], h.defers, by simp [Act.put, ht], fun hc => ?_, fun hc => ⟨es, clock, hw, by rw [hF]; exact hE, ?_⟩, fun j hj hl => ?_, fun j hj hl => ?_, fun hl => ?_, fun hl => ?_⟩
 · rw [zah _ _ _ (by omega), if_neg (by omega)] at hc; rw [h0] at hc; cases hc
 · rw [zat _ _ _ _ (by omega), if_neg (by omega)]; exact h1'
 · rw [zah _ _ _ (by omega), if_neg (by omega)] at hl
   rw [zat _ _ _ _ (by omega), if_neg (by omega)]
   exact h.keys j hj hl
 · rw [zah _ _ _ (by omega), if_neg (by omega)] at hl
   rw [zat _ _ _ _ (by omega), if_neg (by omega)]
   exact h.vals j hj hl
 · rw [zat _ _ _ _ (by omega), if_pos rfl]; exact h1'
 · rw [zah _ _ _ (by omega), if_neg (by omega)] at hl
   rw [zat _ _ _ _ (by omega), if_neg (by omega)]
   exact h.t0 hl
theorem zhm.assign (h : zhm w1 l a w) (h0 : l.getD 0 false = true) (h13 : l.getD 13 false = true) : zhm w1 (l.setIfInBounds 14 true) (a.put (some 0) (a.eval (.tmp 10))) w := by
 have hs := h.size
 have ht := h.tmps
 have hF := zdv l 14 (by omega) (by omega) (by omega) (by omega) (by omega)
 have e := h.t10 h13
 refine ⟨by simp [hs], h.defers, by simp [Act.put, ht], fun hc => ?_, fun hc => ?_, fun j hj hl => ?_, fun j hj hl => ?_, fun hl => ?_, fun hl => ?_⟩
 · rw [zah _ _ _ (by omega), if_neg (by omega)] at hc; rw [h0] at hc; cases hc
 · rw [hF, zat _ _ _ _ (by omega), if_neg (by omega)]
   exact h.behind h0
 · rw [zah _ _ _ (by omega), if_neg (by omega)] at hl
   rw [zat _ _ _ _ (by omega), if_neg (by omega)]
   exact h.keys j hj hl
 · rw [zah _ _ _ (by omega), if_neg (by omega)] at hl
   rw [zat _ _ _ _ (by omega), if_neg (by omega)]
   exact h.vals j hj hl
 · rw [zah _ _ _ (by omega), if_neg (by omega)] at hl
   rw [zat _ _ _ _ (by omega), if_neg (by omega)]
   exact h.t10 hl
 · rw [zat _ _ _ _ (by omega), if_pos rfl]; exact e
end
theorem zon (w : World) : Calls Tryz.prog 115 #[] w fun e w' => ∃ es clock, e = .returned (.map (some w.heap.size)) ∧ w' = (w.alloc (.map es clock)).drew ∧ zca es clock zho := by
 go_enter Tryz.func115, Tryz.ntmps115
 go_wp2_with fail
 refine wp_region_any (by kernel_rfl) ?_
 refine zgr (zhm w.drew) ?_ ?_ _ _ _ _ ?_ (by decide)
 ·
  intro l a w' i hI hi
  obtain ⟨h1, h2, o, ho, hd⟩ := zdh hi
  have h3 : i < 15 := h1
  rcases (show i = 0 ∨ (i = 1 ∨ i = 4 ∨ i = 7 ∨ i = 10) ∨ (i = 2 ∨ i = 5 ∨ i = 8 ∨ i = 11) ∨ (i = 3 ∨ i = 6 ∨ i = 9 ∨ i = 12) ∨ i = 13 ∨ i = 14 from by omega) with rfl | (rfl | rfl | rfl | rfl) | (rfl | rfl | rfl | rfl) | (rfl | rfl | rfl | rfl) | rfl | rfl
  · obtain ⟨rfl, hL⟩ := hI.make h2
    exact zas (o := { dst := some 1, op := .makeMap 192 none, type := 192, pos := "body.go:31", after := #[], guard := none }) rfl rfl (v := .map (some w.drew.heap.size)) (by rfl) hL
  · exact zas (o := { dst := some 2, op := .build 255 #[(0, .const (.int .i64 2)), (1, .const (.int .i64 0))], type := 255, pos := "body.go:31", after := #[], guard := none }) rfl rfl (v := pk (spA 0) (spB 0)) (by kernel_rfl) (hI.key 0 (by decide))
  · exact zas (o := { dst := some 4, op := .build 255 #[(0, .const (.int .i64 3)), (1, .const (.int .i64 0))], type := 255, pos := "body.go:31", after := #[], guard := none }) rfl rfl (v := pk (spA 1) (spB 1)) (by kernel_rfl) (hI.key 1 (by decide))
  · exact zas (o := { dst := some 6, op := .build 255 #[(0, .const (.int .i64 3)), (1, .const (.int .i64 1))], type := 255, pos := "body.go:31", after := #[], guard := none }) rfl rfl (v := pk (spA 2) (spB 2)) (by kernel_rfl) (hI.key 2 (by decide))
  · exact zas (o := { dst := some 8, op := .build 255 #[(0, .const (.int .i64 4)), (1, .const (.int .i64 0))], type := 255, pos := "body.go:31", after := #[], guard := none }) rfl rfl (v := pk (spA 3) (spB 3)) (by kernel_rfl) (hI.key 3 (by decide))
  · exact zas (o := { dst := some 3, op := .build 257 #[(0, .const (.int .i64 0)), (1, .const (.int .i64 7))], type := 257, pos := "body.go:31", after := #[], guard := none }) rfl rfl (v := spV 0) (by kernel_rfl) (hI.val 0 (by decide))
  · exact zas (o := { dst := some 5, op := .build 257 #[(0, .const (.int .i64 0)), (1, .const (.int .i64 7))], type := 257, pos := "body.go:31", after := #[], guard := none }) rfl rfl (v := spV 1) (by kernel_rfl) (hI.val 1 (by decide))
  · exact zas (o := { dst := some 7, op := .build 257 #[(0, .const (.int .i64 0)), (1, .const (.int .i64 1000000))], type := 257, pos := "body.go:31", after := #[], guard := none }) rfl rfl (v := spV 2) (by kernel_rfl) (hI.val 2 (by decide))
  · exact zas (o := { dst := some 9, op := .build 257 #[(0, .const (.int .i64 1)), (1, .const (.int .i64 1000))], type := 257, pos := "body.go:31", after := #[], guard := none }) rfl rfl (v := spV 3) (by kernel_rfl) (hI.val 3 (by decide))
  · have ho' : #[ (⟨0, .data⟩ : Edge), ⟨1, .data⟩, ⟨2, .data⟩] = o.after := congrArg Oper.after (Option.some.inj ho)
    obtain ⟨w2, hr, hL⟩ := hI.insert 0 (by decide) (hd ⟨0, .data⟩ (by rw [← ho']; simp) rfl) (hd ⟨1, .data⟩ (by rw [← ho']; simp) rfl) (hd ⟨2, .data⟩ (by rw [← ho']; simp) rfl)
    exact zbd (o := { dst := none, op := .insert 192 (.tmp 1) (.tmp 2) (.tmp 3), type := 0, pos := "body.go:31", after := #[⟨0, .data⟩, ⟨1, .data⟩, ⟨2, .data⟩], guard := none }) rfl rfl (za8 hr) hL
  · have ho' : #[ (⟨0, .data⟩ : Edge), ⟨4, .data⟩, ⟨5, .data⟩] = o.after := congrArg Oper.after (Option.some.inj ho)
    obtain ⟨w2, hr, hL⟩ := hI.insert 1 (by decide) (hd ⟨0, .data⟩ (by rw [← ho']; simp) rfl) (hd ⟨4, .data⟩ (by rw [← ho']; simp) rfl) (hd ⟨5, .data⟩ (by rw [← ho']; simp) rfl)
    exact zbd (o := { dst := none, op := .insert 192 (.tmp 1) (.tmp 4) (.tmp 5), type := 0, pos := "body.go:31", after := #[⟨0, .data⟩, ⟨4, .data⟩, ⟨5, .data⟩], guard := none }) rfl rfl (za8 hr) hL
  · have ho' : #[ (⟨0, .data⟩ : Edge), ⟨7, .data⟩, ⟨8, .data⟩] = o.after := congrArg Oper.after (Option.some.inj ho)
    obtain ⟨w2, hr, hL⟩ := hI.insert 2 (by decide) (hd ⟨0, .data⟩ (by rw [← ho']; simp) rfl) (hd ⟨7, .data⟩ (by rw [← ho']; simp) rfl) (hd ⟨8, .data⟩ (by rw [← ho']; simp) rfl)
    exact zbd (o := { dst := none, op := .insert 192 (.tmp 1) (.tmp 6) (.tmp 7), type := 0, pos := "body.go:31", after := #[⟨0, .data⟩, ⟨7, .data⟩, ⟨8, .data⟩], guard := none }) rfl rfl (za8 hr) hL
  · have ho' : #[ (⟨0, .data⟩ : Edge), ⟨10, .data⟩, ⟨11, .data⟩] = o.after := congrArg Oper.after (Option.some.inj ho)
    obtain ⟨w2, hr, hL⟩ := hI.insert 3 (by decide) (hd ⟨0, .data⟩ (by rw [← ho']; simp) rfl) (hd ⟨10, .data⟩ (by rw [← ho']; simp) rfl) (hd ⟨11, .data⟩ (by rw [← ho']; simp) rfl)
    exact zbd (o := { dst := none, op := .insert 192 (.tmp 1) (.tmp 8) (.tmp 9), type := 0, pos := "body.go:31", after := #[⟨0, .data⟩, ⟨10, .data⟩, ⟨11, .data⟩], guard := none }) rfl rfl (za8 hr) hL
  · have h0 : l.getD 0 false = true := hd ⟨0, .data⟩ (by rw [← congrArg Oper.after (Option.some.inj ho)]; simp) rfl
    exact zas (o := _) rfl rfl (v := a.eval (.tmp 1)) (by rfl) (hI.move h0)
  · have h0 : l.getD 0 false = true := hd ⟨0, .phase⟩ (by rw [← congrArg Oper.after (Option.some.inj ho)]; simp) rfl
    have h13 : l.getD 13 false = true := hd ⟨13, .data⟩ (by rw [← congrArg Oper.after (Option.some.inj ho)]; simp) rfl
    exact zas (o := _) rfl rfl (v := a.eval (.tmp 10)) (by rfl) (hI.assign h0 h13)
 ·
  intro l a w' hI hr
  have hall := zif (by kernel_rfl) hI.size hr
  obtain ⟨es, clock, hw, hE, h1⟩ := hI.behind (hall 0 (by decide))
  rw [zom l (fun k hk => hall (3 * k + 3) (show 3 * k + 3 < 15 by omega))] at hE
  have h0 := hI.t0 (hall 14 (by decide))
  have hd := hI.defers
  clear hall hr hI
  rename_i Q' K hK
  refine hK a w' (wp_ret ?_)
  refine ⟨hd, .map (some w.heap.size), ?_, es, clock, rfl, hw, hE⟩
  rw [results_tmp Tryz.results115]
  exact congrArg (Result.ok · w') h0
 ·
  refine ⟨rfl, rfl, rfl, fun _ => ⟨rfl, by decide, by decide, by decide⟩, fun h => by simp at h, fun k hk h => ?_, fun k hk h => ?_, fun h => by simp at h, fun h => by simp at h⟩
  all_goals
   exfalso
   have hh : ∀ j : Nat, (Array.replicate 15 false).getD j false = false := by
    intro j
    simp only [Array.getD_eq_getD_getElem?, Array.getElem?_replicate]
    split <;> rfl
   exact absurd ((hh _).symm.trans h) (by decide)
end Go.Proofs.YtcfhkbcllijnkaaGreat
