/- Contracts and plain laws that the proof of TopPairs goes by, under no condition. -/
import Derived.Test.YtcfhkbcllijnkaaGreatZTopPairsbm
import Derived.Test.YtcfhkbcllijnkaaGreatZTopPairsau
import Derived.Test.YtcfhkbcllijnkaaGreatZTopPairsbl
set_option linter.unusedVariables false
set_option linter.unusedSimpArgs false
set_option maxRecDepth 100000
set_option maxHeartbeats 40000000
namespace Go.Proofs.YtcfhkbcllijnkaaGreat
open Go.RowKit
structure MM where
 c : CM
 ws : List Wk
def MS.mm (M : MA) (s : MS) : MM := ⟨s.c.cm M.c, s.ws⟩
def rowOf (c : CM) (id : Int) : Option (Int × Tk) := c.rows[(id - 1).toNat]?
def CM.finish (c : CM) (t k : Nat) (x : Int × Tk) : CM :=
 if c.d then match c.rows[1]? with
  | some y => (c.fin t k x).wake t y.2
  | none => c.fin t k x
 else c.fin t k x
def CM.wstep (c : CM) (t : Nat) (d : Int) (w : Wk) : CM × Wk × Nat :=
 if w.ph = 0 then
  if c.q.fullAt t then ({ c with q := c.q.settle t }, w, 1)
  else match c.look t d with
   | none => (c, w, 0)
   | some en => ({ c with evs := c.evs ++ [⟨10, t, en.id, en.key, c.tick⟩] }, ⟨1, en, w.pc, w.bad⟩, 2)
 else if w.ph = 1 then match rowOf c w.e.id with
  | none => (c, w, 0)
  | some x => if x.1 == 2 && x.2.ke == w.e.key then (c.claim t (w.e.id - 1).toNat x w.e.key, ⟨2, w.e, 0, false⟩, 3) else (c, wk0, 4)
 else match rowOf c w.e.id with
  | none => (c, w, 0)
  | some x => match x.2.L[w.pc.toNat]? with
   | none => (c.finish t (w.e.id - 1).toNat x, wk0, 6)
   | some o => (c.sub t o.2.1 [], { w with pc := w.pc + 1, bad := false }, 5)
def MM.step (m : MM) (t : Nat) (d : Int) : MM := match m.ws[t]? with
 | none => m
 | some w => ⟨(m.c.wstep t d w).1, m.ws.set t (m.c.wstep t d w).2.1⟩
def MM.rndN (m : MM) (d : Int) : Nat → MM
 | 0 => m
 | i + 1 => (m.rndN d i).step i d
def MM.rnd (m : MM) (T : Nat) (d : Int) : MM := m.rndN d T
def MM.rest (m : MM) (T : Nat) (d : Int) : Nat → MM
 | 0 => m
 | j + 1 => (m.rest T d j).rnd T d
def MM.quiet (m : MM) : Bool := m.c.q.all.isEmpty && m.ws.all fun w => w.ph == 0
theorem relaxed_mem {q : QM} {t : Nat} {d : Int} {e : En} (h : q.relaxed t d = some e) : e ∈ q.all := by
 have own : ∀ j e, (q.own.getD j []).head? = some e → e ∈ q.all := fun j e he => by
  unfold QM.all
  refine List.mem_append_left _ (List.mem_append_right _ ?_)
  rw [List.getD_eq_getElem?_getD] at he
  cases hj : q.own[j]? with
  | none => rw [hj] at he; cases he
  | some l =>
   rw [hj] at he
   exact List.mem_flatten.2 ⟨l, List.mem_of_getElem? hj, List.mem_of_mem_head? he⟩
 unfold QM.relaxed at h
 have hsh : ∀ e, candV q.sh q.k d = some e → e ∈ q.all := fun e he => by
  unfold QM.all
  refine List.mem_append_right _ ?_
  unfold candV candL at he
  exact List.mem_of_mem_take (List.mem_of_getElem? he)
 have hrd : ∀ e, q.round t = some e → e ∈ q.all := fun e he => by
  unfold QM.round at he
  split at he
  ·
   rename_i x hx
   cases he
   obtain ⟨j, -, hj⟩ := List.exists_of_findSome?_eq_some hx
   exact own _ _ hj
  · unfold QM.all
    refine List.mem_append_left _ (List.mem_append_left _ ?_)
    exact (sortE_perm _).mem_iff.1 (List.mem_of_mem_head? he)
 cases ha : (q.own.getD t []).head? with
 | none =>
  rw [ha] at h
  cases hb : candV q.sh q.k d with
  | none => rw [hb] at h; exact hrd _ h
  | some y => rw [hb] at h; cases h; exact hsh _ hb
 | some x =>
  rw [ha] at h
  cases hb : candV q.sh q.k d with
  | none => rw [hb] at h; cases h; exact own _ _ ha
  | some y =>
   rw [hb] at h
   unfold pickE at h
   dsimp only at h
   split at h
   · cases h; exact hsh _ hb
   · cases h; exact own _ _ ha
theorem relaxed_none {q : QM} {t : Nat} {d : Int} (h : q.relaxed t d = none) : q.all = [] := by
 unfold QM.relaxed at h
 cases ha : (q.own.getD t []).head? with
 | some x =>
  rw [ha] at h
  cases hb : candV q.sh q.k d with
  | none => rw [hb] at h; cases h
  | some y => rw [hb] at h; unfold pickE at h; dsimp only at h; split at h <;> cases h
 | none =>
  rw [ha] at h
  cases hb : candV q.sh q.k d with
  | some y => rw [hb] at h; cases h
  | none =>
   rw [hb] at h
   have h : q.round t = none := h
   have hsh : q.sh = [] := by
    unfold candV at hb
    rw [List.getElem?_eq_none_iff] at hb
    have hl : (candL q.sh q.k).length = min (min q.k q.sh.length + 1) q.sh.length := by unfold candL; simp
    cases hs : q.sh with
    | nil => rfl
    | cons x l =>
     have hp : 0 < (candL q.sh q.k).length := by rw [hl, hs]; simp only [List.length_cons]; omega
     have h1 := Int.emod_lt_of_pos d (b := ((candL q.sh q.k).length : Int)) (by omega)
     have h2 := Int.emod_nonneg d (b := ((candL q.sh q.k).length : Int)) (by omega)
     omega
   unfold QM.round at h
   split at h
   · cases h
   ·
    rename_i hn
    have hslot : slotE q.slots = [] := by
     have h1 : sortE (slotE q.slots) = [] := by
      cases hs : sortE (slotE q.slots) with
      | nil => rfl
      | cons x l => rw [hs] at h; cases h
     have h2 := sortE_length (slotE q.slots)
     rw [h1] at h2
     exact List.length_eq_zero_iff.1 h2.symm
    have hown : q.own.flatten = [] := by
     rw [List.flatten_eq_nil_iff]
     intro l hl
     obtain ⟨j, hj⟩ := List.mem_iff_getElem?.1 hl
     have hjl : j < q.own.length := (List.getElem?_eq_some_iff.1 hj).1
     rw [List.findSome?_eq_none_iff] at hn
     obtain ⟨i, hi, hij⟩ : ∃ i, i < q.own.length ∧ (t + 1 + i) % q.own.length = j := by
      have hm := Nat.mod_lt (t + 1) (show 0 < q.own.length by omega)
      rcases Nat.lt_or_ge j ((t + 1) % q.own.length) with hlt | hge
      · refine ⟨j + q.own.length - (t + 1) % q.own.length, by omega, ?_⟩
        rw [Nat.add_mod, Nat.mod_eq_of_lt (a := j + q.own.length - (t + 1) % q.own.length) (by omega), show (t + 1) % q.own.length + (j + q.own.length - (t + 1) % q.own.length) = j + q.own.length by omega, Nat.add_mod_right, Nat.mod_eq_of_lt hjl]
      · refine ⟨j - (t + 1) % q.own.length, by omega, ?_⟩
        rw [Nat.add_mod, Nat.mod_eq_of_lt (a := j - (t + 1) % q.own.length) (by omega), show (t + 1) % q.own.length + (j - (t + 1) % q.own.length) = j by omega, Nat.mod_eq_of_lt hjl]
     have h1 := hn i (List.mem_range.2 hi)
     unfold QM.look at h1
     rw [hij, List.getD_eq_getElem?_getD, hj] at h1
     cases l with
     | nil => rfl
     | cons x l => cases h1
    unfold QM.all
    rw [hslot, hown, hsh]
    rfl
theorem look_mem {c : CM} {t : Nat} {d : Int} {e : En} (h : c.look t d = some e) : e ∈ c.q.all := by
 unfold CM.look at h
 split at h
 · cases h
 ·
  rename_i r hr
  have hm := relaxed_mem hr
  cases h
  unfold chooseE
  split
  ·
   have hne : sortE c.q.all ≠ [] := fun e0 => by
    have h2 := sortE_length c.q.all
    rw [e0] at h2
    rw [List.length_eq_zero_iff.1 h2.symm] at hm
    cases hm
   cases hs : sortE c.q.all with
   | nil => exact absurd hs hne
   | cons x l => exact (sortE_perm _).mem_iff.1 (by rw [hs]; exact List.mem_cons_self)
  · exact hm
theorem look_none {c : CM} {t : Nat} {d : Int} (h : c.look t d = none) : c.q.all = [] := by
 unfold CM.look at h
 split at h
 · rename_i hr; exact relaxed_none hr
 · cases h
theorem fullAt_mem {q : QM} {t : Nat} (h : q.fullAt t = true) : ∃ e, q.slots[t]? = some (some e) := by
 unfold QM.fullAt at h
 split at h
 · exact ⟨_, by assumption⟩
 · cases h
theorem settle_slotE {q : QM} {t : Nat} (h : q.fullAt t = true) (ho : q.own.length = q.slots.length) : (slotE (q.settle t).slots).length + 1 = (slotE q.slots).length := by
 obtain ⟨e, he⟩ := fullAt_mem h
 have ht := (List.getElem?_eq_some_iff.1 he).1
 obtain ⟨l, hl⟩ : ∃ l, q.own[t]? = some l := ⟨_, List.getElem?_eq_getElem (by omega)⟩
 have p1 := (slotE_at _ _ _ he).length_eq
 have p2 := (slotE_set q.slots t none ht).length_eq
 rw [List.length_append] at p1 p2
 unfold QM.settle
 rw [he, hl]
 dsimp only
 split
 ·
  show (slotE (q.slots.set t none)).length + 1 = _
  rw [p1, p2]
  simp only [Option.toList_none, Option.toList_some, List.length_nil, List.length_cons]
  omega
 ·
  show (slotE (q.slots.set t none)).length + 1 = _
  rw [p1, p2]
  simp only [Option.toList_none, Option.toList_some, List.length_nil, List.length_cons]
  omega
theorem slots_take_le (id : Int) (l : List (Option En)) : (slotE (l.map (woO id))).length ≤ (slotE l).length := by
 have h1 : ∀ (o : Option En) (l : List (Option En)), slotE (o :: l) = o.toList ++ slotE l := fun o l => by cases o <;> rfl
 induction l with
 | nil => exact Nat.le_refl _
 | cons o l ih =>
  rw [List.map_cons, h1, h1, List.length_append, List.length_append]
  have h2 : (woO id o).toList.length ≤ o.toList.length := by
   unfold woO
   split
   · exact Nat.zero_le _
   · exact Nat.le_refl _
  omega
theorem wo_len {id : Int} {l : List En} (hn : (l.map (·.id)).Nodup) (h : hasL id l = true) : (wo id l).length + 1 = l.length := by
 induction l with
 | nil => cases h
 | cons x l ih =>
  rw [List.map_cons, List.nodup_cons] at hn
  unfold wo
  rw [List.filter_cons]
  by_cases hx : x.id = id
  ·
   have hb : (x.id == id) = true := beq_iff_eq.2 hx
   rw [hb]
   have hno : (l.any fun y => y.id == id) = false := by
    rw [List.any_eq_false]
    intro y hy hyi
    have hyi : y.id = id := by simpa using hyi
    exact hn.1 (hx.trans hyi.symm ▸ List.mem_map_of_mem hy)
   have := wo_none hno
   unfold wo at this
   show (l.filter _).length + 1 = _
   rw [this]
   rfl
  ·
   have hb : (x.id == id) = false := beq_eq_false_iff_ne.2 hx
   rw [hb]
   have hh : hasL id l = true := by
    unfold hasL at *
    rw [List.any_cons, hb] at h
    exact h
   have := ih hn.2 hh
   unfold wo at this
   show (x :: l.filter _).length + 1 = _
   rw [List.length_cons, this]
   rfl
theorem mem_wo {id : Int} {l : List En} {e : En} : e ∈ wo id l ↔ e ∈ l ∧ e.id ≠ id := by
 unfold wo
 rw [List.mem_filter]
 simp
theorem hasL_iff {id : Int} {l : List En} : hasL id l = true ↔ ∃ e ∈ l, e.id = id := by
 unfold hasL
 rw [List.any_eq_true]
 simp
theorem sum_set {α : Type} (f : α → Nat) {l : List α} {t : Nat} {w : α} (h : l[t]? = some w) (v : α) : ((l.set t v).map f).sum + f w = (l.map f).sum + f v := by
 induction l generalizing t with
 | nil => simp at h
 | cons x l ih =>
  cases t with
  | zero =>
   have h : x = w := by simpa using h
   subst h
   simp only [List.set_cons_zero, List.map_cons, List.sum_cons]
   omega
  | succ t =>
   have := ih (t := t) (by simpa using h)
   simp only [List.set_cons_succ, List.map_cons, List.sum_cons]
   omega
theorem sum_le {α : Type} (f g : α → Nat) (n : Nat) {l : List α} (h : ∀ w ∈ l, f w ≤ g w + n) : (l.map f).sum ≤ (l.map g).sum + n * l.length := by
 induction l with
 | nil => exact Nat.zero_le _
 | cons x l ih =>
  have h1 := h x List.mem_cons_self
  have h2 := ih fun w hw => h w (List.mem_cons_of_mem _ hw)
  simp only [List.map_cons, List.sum_cons, List.length_cons]
  rw [Nat.mul_add]
  omega
theorem sum_ge {α : Type} (f : α → Nat) {l : List α} {t : Nat} {w : α} (h : l[t]? = some w) : f w ≤ (l.map f).sum := by
 have := sum_set f h w
 induction l generalizing t with
 | nil => simp at h
 | cons x l ih =>
  simp only [List.map_cons, List.sum_cons]
  cases t with
  | zero =>
   have h : x = w := by simpa using h
   subst h
   omega
  | succ t =>
   have h' : l[t]? = some w := by simpa using h
   have := ih (t := t) h' (sum_set f h' w)
   omega
def runN (w : Wk) : Nat := if w.ph = 2 then 1 else 0
def MM.runs (m : MM) : Nat := (m.ws.map runN).sum
def fW (c : CM) (w : Wk) : Nat := if w.ph = 0 then 1 else if w.ph = 1 then (match rowOf c w.e.id with | some x => if x.1 = 2 then 0 else 2 | none => 2) else 2
def MM.phi (m : MM) : Nat := 19 * m.c.q.all.length + (slotE m.c.q.slots).length + (m.ws.map (fW m.c)).sum
theorem fW_le (c : CM) (w : Wk) : fW c w ≤ 2 := by
 unfold fW
 split
 · omega
 ·
  split
  · split
    · split <;> omega
    · omega
  · omega
theorem rowOf_set {c : CM} {k : Nat} (hk : k < c.rows.length) (x : Int × Tk) (c' : CM) (h : c'.rows = c.rows.set k x) (id : Int) : rowOf c' id = if (id - 1).toNat = k then some x else rowOf c id := by
 unfold rowOf
 rw [h, List.getElem?_set]
 by_cases e : (id - 1).toNat = k
 · rw [if_pos e.symm, if_pos e, if_pos hk]
 · rw [if_neg (fun h => e h.symm), if_neg e]
theorem wstep_closed (c : CM) (t : Nat) (d : Int) (w : Wk) : (c.wstep t d w).1.closed = c.closed := by
 unfold CM.wstep CM.finish
 repeat' split
 all_goals rfl
theorem step_closed (m : MM) (t : Nat) (d : Int) : (m.step t d).c.closed = m.c.closed := by
 unfold MM.step
 split
 · rfl
 · exact wstep_closed _ _ _ _
theorem rndN_closed (m : MM) (d : Int) (i : Nat) : (m.rndN d i).c.closed = m.c.closed := by
 induction i with
 | zero => rfl
 | succ i ih => exact (step_closed _ _ _).trans ih
theorem rest_closed (m : MM) (T : Nat) (d : Int) (j : Nat) : (m.rest T d j).c.closed = m.c.closed := by
 induction j with
 | zero => rfl
 | succ j ih => exact (rndN_closed _ _ _).trans ih
structure J (al : Int → Prop) (T k : Nat) (m : MM) : Prop where
 sl : m.c.q.slots.length = T
 ow : m.c.q.own.length = T
 k : m.c.q.k = k
 wl : m.ws.length = T
 ok : m.c.q.Ok
 qr : ∀ e ∈ m.c.q.all, 1 ≤ e.id ∧ ∃ y, rowOf m.c e.id = some (2, y) ∧ y.ke = e.key
 rq : ∀ (i : Nat) y, m.c.rows[i]? = some (2, y) → hasL ((i : Int) + 1) m.c.q.all = true
 ro : ∀ (i : Nat) x, m.c.rows[i]? = some x → (x.1 = 2 ∨ x.1 = 3 ∨ al x.1) ∧ x.2.L = []
 wk : ∀ (t : Nat) w, m.ws[t]? = some w → w.ph = 0 ∨ (w.ph = 1 ∧ 1 ≤ w.e.id ∧ ∃ x, rowOf m.c w.e.id = some x ∧ (x.1 = 2 → x.2.ke = w.e.key)) ∨ (w.ph = 2 ∧ 1 ≤ w.e.id ∧ (∃ y, rowOf m.c w.e.id = some (3, y)) ∧ w.pc = 0 ∧ w.bad = false)
 inj : ∀ (t t' : Nat) w w', m.ws[t]? = some w → m.ws[t']? = some w' → w.ph = 2 → w'.ph = 2 → w.e.id = w'.e.id → t = t'
 cr : ∀ (i : Nat) y, m.c.rows[i]? = some (3, y) → ∃ (t : Nat) (w : Wk), m.ws[t]? = some w ∧ w.ph = 2 ∧ w.e.id = (i : Int) + 1
 o : m.c.o = ((m.c.q.all.length + m.runs : Nat) : Int)
 d : m.c.d = false
 al : al 4 ∧ ¬ al 2 ∧ ¬ al 3
theorem id_nat {id : Int} (h : 1 ≤ id) : (((id - 1).toNat : Nat) : Int) + 1 = id := by omega
theorem set_cases {α : Type} {l : List α} {t t' : Nat} {v x : α} (h : (l.set t v)[t']? = some x) : (t' = t ∧ x = v) ∨ (t' ≠ t ∧ l[t']? = some x) := by
 rw [List.getElem?_set] at h
 by_cases e : t = t'
 ·
  rw [if_pos e] at h
  split at h
  · exact .inl ⟨e.symm, (Option.some.inj h).symm⟩
  · cases h
 · rw [if_neg e] at h
   exact .inr ⟨fun h => e h.symm, h⟩
theorem set_at {α : Type} {l : List α} {t : Nat} {w v : α} (h : l[t]? = some w) : (l.set t v)[t]? = some v := by
 rw [List.getElem?_set, if_pos rfl, if_pos (List.getElem?_eq_some_iff.1 h).1]
theorem set_other {α : Type} {l : List α} {t t' : Nat} {v x : α} (h : l[t']? = some x) (hn : t' ≠ t) : (l.set t v)[t']? = some x := by
 rw [List.getElem?_set, if_neg (fun e => hn e.symm)]
 exact h
variable {al : Int → Prop} {T k : Nat} {m : MM}
theorem J.settle (h : J al T k m) (t : Nat) : J al T k ⟨{ m.c with q := m.c.q.settle t }, m.ws⟩ := by
 have hp := settle_all m.c.q t
 refine ⟨(settle_lens _ _).1.trans h.sl, (settle_lens _ _).2.trans h.ow, (settle_k _ _).trans h.k, h.wl, settle_Ok h.ok t, fun e he => h.qr e (hp.mem_iff.1 he), fun i y hy => ?_, h.ro, h.wk, h.inj, h.cr, ?_, h.d, h.al⟩
 · show hasL _ (m.c.q.settle t).all = true
   rw [hasL_perm hp]
   exact h.rq i y hy
 · show m.c.o = (((m.c.q.settle t).all.length + m.runs : Nat) : Int)
   rw [hp.length_eq]
   exact h.o
theorem J.worker (h : J al T k m) {t : Nat} {w v : Wk} (hw : m.ws[t]? = some w) (hwp : w.ph ≠ 2) (hv : v.ph = 0 ∨ (v.ph = 1 ∧ 1 ≤ v.e.id ∧ ∃ x, rowOf m.c v.e.id = some x ∧ (x.1 = 2 → x.2.ke = v.e.key))) (E : List Ev) : J al T k ⟨{ m.c with evs := E }, m.ws.set t v⟩ := by
 have hvp : v.ph ≠ 2 := by rcases hv with h | h <;> omega
 refine ⟨h.sl, h.ow, h.k, (List.length_set ..).trans h.wl, h.ok, h.qr, h.rq, h.ro, fun t' x hx => ?_, fun t1 t2 x y hx hy px py e => ?_, fun i y hy => ?_, ?_, h.d, h.al⟩
 ·
  rcases set_cases hx with ⟨rfl, rfl⟩ | ⟨hn, hx⟩
  · rcases hv with hv | hv
    · exact .inl hv
    · exact .inr (.inl hv)
  · exact h.wk t' x hx
 ·
  rcases set_cases hx with ⟨rfl, rfl⟩ | ⟨hn, hx⟩
  · exact absurd px hvp
  · rcases set_cases hy with ⟨rfl, rfl⟩ | ⟨hn, hy⟩
    · exact absurd py hvp
    · exact h.inj t1 t2 x y hx hy px py e
 ·
  obtain ⟨t', x, hx, px, e⟩ := h.cr i y hy
  refine ⟨t', x, set_other hx (fun et => ?_), px, e⟩
  subst et
  rw [hw] at hx
  cases hx
  exact hwp px
 ·
  have hs := sum_set runN hw v
  have e1 : runN w = 0 := if_neg hwp
  have e2 : runN v = 0 := if_neg hvp
  show m.c.o = ((m.c.q.all.length + ((m.ws.set t v).map runN).sum : Nat) : Int)
  have ho := h.o
  unfold MM.runs at ho
  omega
theorem J.claim (h : J al T k m) {t : Nat} {w : Wk} {y : Tk} {key : Int} (hw : m.ws[t]? = some w) (hwp : w.ph = 1) (hid : 1 ≤ w.e.id) (hr : rowOf m.c w.e.id = some (2, y)) : J al T k ⟨m.c.claim t (w.e.id - 1).toNat (2, y) key, m.ws.set t ⟨2, w.e, 0, false⟩⟩ := by
 have hk : (w.e.id - 1).toNat < m.c.rows.length := (List.getElem?_eq_some_iff.1 hr).1
 have hn := id_nat hid
 have hro := rowOf_set (c := m.c) hk (3, y) (m.c.claim t (w.e.id - 1).toNat (2, y) key) rfl
 have hall : (m.c.claim t (w.e.id - 1).toNat (2, y) key).q.all = wo w.e.id m.c.q.all := by
  show (m.c.q.take _).all = _
  rw [hn]
  exact take_all _ _
 have hin : hasL w.e.id m.c.q.all = true := by
  have := h.rq _ _ hr
  rwa [hn] at this
 have hlen := wo_len h.ok.ids hin
 refine ⟨(List.length_map ..).trans h.sl, (List.length_map ..).trans h.ow, h.k, (List.length_set ..).trans h.wl, take_Ok h.ok _, fun e he => ?_, fun i z hz => ?_, fun i x hx => ?_, fun t' x hx => ?_, fun t1 t2 x z hx hz px pz e => ?_, fun i z hz => ?_, ?_, h.d, h.al⟩
 ·
  rw [hall, mem_wo] at he
  obtain ⟨h1, z, hz, hke⟩ := h.qr e he.1
  refine ⟨h1, z, ?_, hke⟩
  rw [hro, if_neg (by have := he.2; omega)]
  exact hz
 ·
  rw [hall]
  rcases set_cases hz with ⟨-, hz⟩ | ⟨hni, hz⟩
  · cases hz
  ·
   have h1 := h.rq i z hz
   rw [hasL_iff] at h1 ⊢
   obtain ⟨e, he, hei⟩ := h1
   exact ⟨e, mem_wo.2 ⟨he, by omega⟩, hei⟩
 · rcases set_cases hx with ⟨-, rfl⟩ | ⟨hni, hx⟩
   · exact ⟨.inr (.inl rfl), (h.ro _ _ hr).2⟩
   · exact h.ro i x hx
 ·
  rcases set_cases hx with ⟨rfl, rfl⟩ | ⟨hni, hx⟩
  · refine .inr (.inr ⟨rfl, hid, ⟨y, ?_⟩, rfl, rfl⟩)
    rw [hro, if_pos rfl]
  ·
   rcases h.wk t' x hx with h0 | ⟨h1, h2, z, hz, h3⟩ | ⟨h1, h2, ⟨z, hz⟩, h3⟩
   · exact .inl h0
   ·
    refine .inr (.inl ⟨h1, h2, ?_⟩)
    by_cases e : (x.e.id - 1).toNat = (w.e.id - 1).toNat
    · exact ⟨(3, y), by rw [hro, if_pos e], fun e => absurd e (show ¬ (3 : Int) = 2 by decide)⟩
    · exact ⟨z, by rw [hro, if_neg e]; exact hz, h3⟩
   ·
    refine .inr (.inr ⟨h1, h2, ⟨z, ?_⟩, h3⟩)
    rw [hro, if_neg (fun e => ?_)]
    · exact hz
    · unfold rowOf at hz hr
      rw [e, hr] at hz
      cases hz
 ·
  have hkey : ∀ (t' : Nat) (x : Wk), m.ws[t']? = some x → x.ph = 2 → x.e.id ≠ w.e.id := fun t' x hx px e => by
   rcases h.wk t' x hx with h0 | ⟨h1, -⟩ | ⟨-, -, ⟨z, hz⟩, -⟩
   · omega
   · omega
   · rw [e, hr] at hz
     cases hz
  rcases set_cases hx with ⟨rfl, rfl⟩ | ⟨hn1, hx2⟩
  · rcases set_cases hz with ⟨rfl, rfl⟩ | ⟨hn2, hz2⟩
    · rfl
    · exact absurd e.symm (hkey _ _ hz2 pz)
  · rcases set_cases hz with ⟨rfl, rfl⟩ | ⟨hn2, hz2⟩
    · exact absurd e (hkey _ _ hx2 px)
    · exact h.inj t1 t2 x z hx2 hz2 px pz e
 ·
  rcases set_cases hz with ⟨rfl, -⟩ | ⟨hni, hz⟩
  · exact ⟨t, _, set_at hw, rfl, (show w.e.id = (((w.e.id - 1).toNat : Nat) : Int) + 1 by omega)⟩
  ·
   obtain ⟨t', x, hx, px, e⟩ := h.cr i z hz
   refine ⟨t', x, set_other hx (fun et => ?_), px, e⟩
   subst et
   rw [hw] at hx
   cases hx
   omega
 ·
  have hs := sum_set runN hw ⟨2, w.e, 0, false⟩
  have e1 : runN w = 0 := if_neg (by omega)
  have e2 : runN ⟨2, w.e, 0, false⟩ = 1 := if_pos rfl
  have ho := h.o
  unfold MM.runs at ho
  show m.c.o = (((m.c.claim t (w.e.id - 1).toNat (2, y) key).q.all.length + ((m.ws.set t ⟨2, w.e, 0, false⟩).map runN).sum : Nat) : Int)
  rw [hall]
  omega
theorem J.fin (h : J al T k m) {t : Nat} {w : Wk} {y : Tk} (hw : m.ws[t]? = some w) (hwp : w.ph = 2) (hid : 1 ≤ w.e.id) (hr : rowOf m.c w.e.id = some (3, y)) : J al T k ⟨m.c.fin t (w.e.id - 1).toNat (3, y), m.ws.set t wk0⟩ := by
 have hk : (w.e.id - 1).toNat < m.c.rows.length := (List.getElem?_eq_some_iff.1 hr).1
 have hn := id_nat hid
 have hro := rowOf_set (c := m.c) hk (4, y.ran) (m.c.fin t (w.e.id - 1).toNat (3, y)) rfl
 have hne : ∀ {i : Int} {z : Int × Tk}, rowOf m.c i = some z → z.1 ≠ 3 → (i - 1).toNat ≠ (w.e.id - 1).toNat := fun {i z} hz h3 e => by
  unfold rowOf at hz hr
  rw [e, hr] at hz
  cases hz
  exact h3 rfl
 refine ⟨h.sl, h.ow, h.k, (List.length_set ..).trans h.wl, h.ok, fun e he => ?_, fun i z hz => ?_, fun i x hx => ?_, fun t' x hx => ?_, fun t1 t2 x z hx hz px pz e => ?_, fun i z hz => ?_, ?_, h.d, h.al⟩
 · obtain ⟨h1, z, hz, hke⟩ := h.qr e he
   exact ⟨h1, z, by rw [hro, if_neg (hne hz (show (2 : Int) ≠ 3 by decide))]; exact hz, hke⟩
 · rcases set_cases hz with ⟨-, hz⟩ | ⟨hni, hz⟩
   · cases hz
   · exact h.rq i z hz
 · rcases set_cases hx with ⟨-, rfl⟩ | ⟨hni, hx⟩
   · exact ⟨.inr (.inr h.al.1), (h.ro _ _ hr).2⟩
   · exact h.ro i x hx
 ·
  rcases set_cases hx with ⟨rfl, rfl⟩ | ⟨hni, hx⟩
  · exact .inl rfl
  ·
   rcases h.wk t' x hx with h0 | ⟨h1, h2, z, hz, h3⟩ | ⟨h1, h2, ⟨z, hz⟩, h3⟩
   · exact .inl h0
   ·
    refine .inr (.inl ⟨h1, h2, ?_⟩)
    by_cases e : (x.e.id - 1).toNat = (w.e.id - 1).toNat
    · exact ⟨(4, y.ran), by rw [hro, if_pos e], fun e => absurd e (show ¬ (4 : Int) = 2 by decide)⟩
    · exact ⟨z, by rw [hro, if_neg e]; exact hz, h3⟩
   · refine .inr (.inr ⟨h1, h2, ⟨z, ?_⟩, h3⟩)
     rw [hro, if_neg (fun e => hni (h.inj t' t x w hx hw h1 hwp (by omega)))]
     exact hz
 ·
  rcases set_cases hx with ⟨rfl, rfl⟩ | ⟨hn1, hx⟩
  · exact absurd px (by decide)
  · rcases set_cases hz with ⟨rfl, rfl⟩ | ⟨hn2, hz⟩
    · exact absurd pz (by decide)
    · exact h.inj t1 t2 x z hx hz px pz e
 ·
  rcases set_cases hz with ⟨-, hz2⟩ | ⟨hni, hz⟩
  · cases hz2
  ·
   obtain ⟨t', x, hx, px, e⟩ := h.cr i z hz
   refine ⟨t', x, set_other hx (fun et => ?_), px, e⟩
   subst et
   rw [hw] at hx
   cases hx
   omega
 ·
  have hs := sum_set runN hw wk0
  have e1 : runN w = 1 := if_pos hwp
  have e2 : runN wk0 = 0 := if_neg (by decide)
  have ho := h.o
  unfold MM.runs at ho
  show m.c.o - 1 = ((m.c.q.all.length + ((m.ws.set t wk0).map runN).sum : Nat) : Int)
  omega
theorem J.step (h : J al T k m) (h8 : T ≤ 8) {t : Nat} (ht : t < T) (d : Int) : J al T k (m.step t d) ∧ (m.step t d).c.rows.length = m.c.rows.length ∧ ((m.step t d).phi < m.phi ∨ (m.step t d = m ∧ m.c.q.all = [] ∧ ∀ w, m.ws[t]? = some w → w.ph = 0)) := by
 obtain ⟨w, hw⟩ : ∃ w, m.ws[t]? = some w := ⟨_, List.getElem?_eq_getElem (by rw [h.wl]; exact ht)⟩
 have hstep : m.step t d = ⟨(m.c.wstep t d w).1, m.ws.set t (m.c.wstep t d w).2.1⟩ := by unfold MM.step; rw [hw]
 rw [hstep]
 rcases h.wk t w hw with h0 | ⟨h1, hid, x, hx, hke⟩ | ⟨h2, hid, ⟨y, hy⟩, hpc, hbad⟩
 ·
  by_cases hf : m.c.q.fullAt t = true
  ·
   have e : m.c.wstep t d w = ({ m.c with q := m.c.q.settle t }, w, 1) := by unfold CM.wstep; rw [if_pos h0, if_pos hf]
   rw [e]
   show J al T k ⟨_, m.ws.set t w⟩ ∧ _ ∧ _
   rw [set_self hw]
   refine ⟨h.settle t, rfl, .inl ?_⟩
   have h1 := settle_slotE hf (h.ow.trans h.sl.symm)
   have h2 := (settle_all m.c.q t).length_eq
   show 19 * (m.c.q.settle t).all.length + (slotE (m.c.q.settle t).slots).length + (m.ws.map (fW m.c)).sum < m.phi
   unfold MM.phi
   omega
  ·
   have hff : m.c.q.fullAt t = false := by simpa using hf
   cases hl : m.c.look t d with
   | none =>
    have e : m.c.wstep t d w = (m.c, w, 0) := by unfold CM.wstep; rw [if_pos h0, if_neg hf, hl]
    rw [e]
    show J al T k ⟨m.c, m.ws.set t w⟩ ∧ _ ∧ _
    rw [set_self hw]
    exact ⟨h, rfl, .inr ⟨rfl, look_none hl, fun x hx => by rw [hw] at hx; cases hx; exact h0⟩⟩
   | some en =>
    have e : m.c.wstep t d w = ({ m.c with evs := m.c.evs ++ [⟨10, t, en.id, en.key, m.c.tick⟩] }, ⟨1, en, w.pc, w.bad⟩, 2) := by unfold CM.wstep; rw [if_pos h0, if_neg hf, hl]
    rw [e]
    obtain ⟨g1, z, hz, hzk⟩ := h.qr en (look_mem hl)
    refine ⟨h.worker hw (by omega) (.inr ⟨rfl, g1, _, hz, fun _ => hzk⟩) _, rfl, .inl ?_⟩
    have hs := sum_set (fW m.c) hw ⟨1, en, w.pc, w.bad⟩
    have e1 : fW m.c w = 1 := if_pos h0
    have e2 : fW m.c ⟨1, en, w.pc, w.bad⟩ = 0 := by
     unfold fW
     rw [if_neg (show ¬ (1 : Int) = 0 by decide), if_pos rfl, hz]
     exact if_pos rfl
    show 19 * m.c.q.all.length + (slotE m.c.q.slots).length + ((m.ws.set t ⟨1, en, w.pc, w.bad⟩).map (fW m.c)).sum < m.phi
    unfold MM.phi
    omega
 ·
  have hn0 : ¬ w.ph = 0 := by omega
  by_cases hs2 : x.1 = 2
  ·
   obtain ⟨s, y⟩ := x
   have hs2 : s = 2 := hs2
   subst hs2
   have hk := hke rfl
   have e : m.c.wstep t d w = (m.c.claim t (w.e.id - 1).toNat (2, y) w.e.key, ⟨2, w.e, 0, false⟩, 3) := by
    unfold CM.wstep
    rw [if_neg hn0, if_pos h1, hx]
    dsimp only
    rw [if_pos (by rw [hk]; simp)]
   rw [e]
   refine ⟨h.claim hw h1 hid hx, List.length_set .., .inl ?_⟩
   have hin : hasL w.e.id m.c.q.all = true := by
    have := h.rq _ _ hx
    rwa [id_nat hid] at this
   have hlen := wo_len h.ok.ids hin
   have hs := sum_set (fW m.c) hw ⟨2, w.e, 0, false⟩
   have hle := sum_le (fW (m.c.claim t (w.e.id - 1).toNat (2, y) w.e.key)) (fW m.c) 2 (l := m.ws.set t ⟨2, w.e, 0, false⟩) (fun v _ => by have := fW_le (m.c.claim t (w.e.id - 1).toNat (2, y) w.e.key) v; omega)
   have e2 : fW m.c ⟨2, w.e, 0, false⟩ = 2 := rfl
   have hsl := slots_take_le w.e.id m.c.q.slots
   rw [List.length_set, h.wl] at hle
   show 19 * (m.c.q.take (((w.e.id - 1).toNat : Nat) + 1)).all.length + (slotE (m.c.q.take (((w.e.id - 1).toNat : Nat) + 1)).slots).length + ((m.ws.set t ⟨2, w.e, 0, false⟩).map (fW (m.c.claim t (w.e.id - 1).toNat (2, y) w.e.key))).sum < m.phi
   rw [id_nat hid, take_all]
   have : slotE (m.c.q.take w.e.id).slots = slotE (m.c.q.slots.map (woO w.e.id)) := rfl
   rw [this]
   unfold MM.phi
   omega
  ·
   have e : m.c.wstep t d w = (m.c, wk0, 4) := by
    unfold CM.wstep
    rw [if_neg hn0, if_pos h1, hx]
    dsimp only
    rw [if_neg (by simp [hs2])]
   rw [e]
   refine ⟨h.worker hw (by omega) (.inl rfl) m.c.evs, rfl, .inl ?_⟩
   have hs := sum_set (fW m.c) hw wk0
   have e1 : fW m.c w = 2 := by
    unfold fW
    rw [if_neg hn0, if_pos h1, hx]
    exact if_neg hs2
   have e2 : fW m.c wk0 = 1 := rfl
   show 19 * m.c.q.all.length + (slotE m.c.q.slots).length + ((m.ws.set t wk0).map (fW m.c)).sum < m.phi
   unfold MM.phi
   omega
 ·
  have hn0 : ¬ w.ph = 0 := by omega
  have hn1 : ¬ w.ph = 1 := by omega
  have hL := (h.ro _ _ hy).2
  have e : m.c.wstep t d w = (m.c.fin t (w.e.id - 1).toNat (3, y), wk0, 6) := by
   unfold CM.wstep
   rw [if_neg hn0, if_neg hn1, hy]
   dsimp only
   have hL : y.L = [] := hL
   rw [hL]
   show (m.c.finish t (w.e.id - 1).toNat (3, y), wk0, 6) = _
   unfold CM.finish
   rw [h.d]
   rfl
  rw [e]
  refine ⟨h.fin hw h2 hid hy, List.length_set .., .inl ?_⟩
  have hk : (w.e.id - 1).toNat < m.c.rows.length := (List.getElem?_eq_some_iff.1 hy).1
  have hro := rowOf_set (c := m.c) hk (4, y.ran) (m.c.fin t (w.e.id - 1).toNat (3, y)) rfl
  have hfe : ∀ v, fW (m.c.fin t (w.e.id - 1).toNat (3, y)) v = fW m.c v := fun v => by
   unfold fW
   rw [hro]
   by_cases ev : (v.e.id - 1).toNat = (w.e.id - 1).toNat
   · have hv : rowOf m.c v.e.id = some (3, y) := by unfold rowOf; rw [ev]; exact hy
     rw [if_pos ev, hv]
     rfl
   · rw [if_neg ev]
  have hs := sum_set (fW m.c) hw wk0
  have e1 : fW m.c w = 2 := by unfold fW; rw [if_neg hn0, if_neg hn1]
  have e2 : fW m.c wk0 = 1 := rfl
  show 19 * m.c.q.all.length + (slotE m.c.q.slots).length + ((m.ws.set t wk0).map (fW (m.c.fin t (w.e.id - 1).toNat (3, y)))).sum < m.phi
  rw [show fW (m.c.fin t (w.e.id - 1).toNat (3, y)) = fW m.c from funext hfe]
  unfold MM.phi
  omega
theorem J.rndN (h : J al T k m) (h8 : T ≤ 8) (d : Int) (i : Nat) (hi : i ≤ T) : J al T k (m.rndN d i) ∧ (m.rndN d i).c.rows.length = m.c.rows.length ∧ ((m.rndN d i).phi < m.phi ∨ (m.rndN d i = m ∧ ∀ j, j < i → m.c.q.all = [] ∧ ∀ w, m.ws[j]? = some w → w.ph = 0)) := by
 induction i with
 | zero => exact ⟨h, rfl, .inr ⟨rfl, fun j hj => by omega⟩⟩
 | succ i ih =>
  obtain ⟨h1, h2, h3⟩ := ih (by omega)
  obtain ⟨g1, g2, g3⟩ := h1.step h8 (show i < T by omega) d
  refine ⟨g1, g2.trans h2, ?_⟩
  show ((m.rndN d i).step i d).phi < m.phi ∨ ((m.rndN d i).step i d = m ∧ _)
  rcases h3 with h3 | ⟨h3, h4⟩
  · rcases g3 with g3 | ⟨g3, -⟩
    · exact .inl (by omega)
    · rw [g3]; exact .inl h3
  ·
   rw [h3] at g3 ⊢
   rcases g3 with g3 | ⟨g3, g4, g5⟩
   · exact .inl g3
   ·
    refine .inr ⟨g3, fun j hj => ?_⟩
    rcases Nat.lt_or_ge j i with hji | hji
    · exact h4 j hji
    · obtain rfl : j = i := by omega
      exact ⟨g4, g5⟩
theorem J.rnd (h : J al T k m) (h8 : T ≤ 8) (h1 : 1 ≤ T) (d : Int) : J al T k (m.rnd T d) ∧ (m.rnd T d).c.rows.length = m.c.rows.length ∧ (m.quiet = false → (m.rnd T d).phi < m.phi) := by
 obtain ⟨g1, g2, g3⟩ := h.rndN h8 d T (Nat.le_refl _)
 refine ⟨g1, g2, fun hq => ?_⟩
 rcases g3 with g3 | ⟨-, g4⟩
 · exact g3
 ·
  have : m.quiet = true := by
   unfold MM.quiet
   rw [(g4 0 (by omega)).1, Bool.and_eq_true]
   refine ⟨rfl, List.all_eq_true.2 fun w hw => ?_⟩
   obtain ⟨j, hj⟩ := List.mem_iff_getElem?.1 hw
   have hjl := (List.getElem?_eq_some_iff.1 hj).1
   rw [h.wl] at hjl
   exact beq_iff_eq.2 ((g4 j hjl).2 w hj)
  rw [this] at hq
  cases hq
theorem rest_shift (m : MM) (T : Nat) (d : Int) (j : Nat) : m.rest T d (j + 1) = (m.rnd T d).rest T d j := by
 induction j with
 | zero => rfl
 | succ j ih =>
  show (m.rest T d (j + 1)).rnd T d = ((m.rnd T d).rest T d j).rnd T d
  rw [ih]
theorem J.rest (h8 : T ≤ 8) (h1 : 1 ≤ T) (d : Int) (n : Nat) : ∀ m : MM, J al T k m → m.phi ≤ n → ∃ K, K ≤ n ∧ (m.rest T d K).quiet = true ∧ (∀ j, j < K → (m.rest T d j).quiet = false) ∧ ∀ j, j ≤ K → J al T k (m.rest T d j) ∧ (m.rest T d j).c.rows.length = m.c.rows.length := by
 induction n with
 | zero =>
  intro m h hn
  refine ⟨0, Nat.le_refl _, ?_, fun j hj => by omega, fun j hj => ?_⟩
  · cases hq : m.quiet with
    | true => exact hq
    | false => have := (h.rnd h8 h1 d).2.2 hq; omega
  · obtain rfl : j = 0 := by omega
    exact ⟨h, rfl⟩
 | succ n ih =>
  intro m h hn
  cases hq : m.quiet with
  | true => exact ⟨0, Nat.zero_le _, hq, fun j hj => by omega, fun j hj => by obtain rfl : j = 0 := (by omega); exact ⟨h, rfl⟩⟩
  | false =>
   obtain ⟨g1, g2, g3⟩ := h.rnd h8 h1 d
   have := g3 hq
   obtain ⟨K, hK, a1, a2, a3⟩ := ih (m.rnd T d) g1 (by omega)
   refine ⟨K + 1, by omega, by rw [rest_shift]; exact a1, fun j hj => ?_, fun j hj => ?_⟩
   · cases j with
     | zero => exact hq
     | succ j => rw [rest_shift]; exact a2 j (by omega)
   · cases j with
     | zero => exact ⟨h, rfl⟩
     | succ j => rw [rest_shift]; obtain ⟨b1, b2⟩ := a3 j (by omega); exact ⟨b1, b2.trans g2⟩
theorem J.quiet (h : J al T k m) (hq : m.quiet = true) : m.c.q.all = [] ∧ (∀ w ∈ m.ws, w.ph = 0) ∧ m.c.o = 0 ∧ ∀ x ∈ m.c.rows, al x.1 := by
 unfold MM.quiet at hq
 rw [Bool.and_eq_true] at hq
 have ha : m.c.q.all = [] := List.isEmpty_iff.1 hq.1
 have hw : ∀ w ∈ m.ws, w.ph = 0 := fun w hw => beq_iff_eq.1 (List.all_eq_true.1 hq.2 w hw)
 refine ⟨ha, hw, ?_, fun x hx => ?_⟩
 ·
  have ho := h.o
  have : m.runs = 0 := by
   unfold MM.runs
   rw [List.sum_eq_zero_iff_forall_eq_nat]
   intro x hx
   obtain ⟨w, hwm, rfl⟩ := List.mem_map.1 hx
   exact if_neg (by rw [hw w hwm]; decide)
  rw [ha, this] at ho
  exact ho
 ·
  obtain ⟨i, hi⟩ := List.mem_iff_getElem?.1 hx
  obtain ⟨s, y⟩ := x
  rcases (h.ro i _ hi).1 with h2 | h3 | h4
  ·
   have h2 : s = 2 := h2
   subst h2
   have := h.rq i y hi
   rw [ha] at this
   cases this
  ·
   have h3 : s = 3 := h3
   subst h3
   obtain ⟨t, w, hwt, hp, -⟩ := h.cr i y hi
   have := hw w (List.mem_of_getElem? hwt)
   omega
  · exact h4
theorem J.sub (h : J al T k m) {t : Nat} (ht : t < T) (prio : Int) (hl : m.c.q.all.length < NB) : J al T k ⟨m.c.sub t prio [], m.ws⟩ ∧ (m.c.sub t prio []).rows.length = m.c.rows.length + 1 ∧ (m.c.sub t prio []).o = m.c.o + 1 := by
 obtain ⟨key, hkey⟩ : ∃ key, aAddI m.c.tick (slackI (mkTk prio []).pr) = key := ⟨_, rfl⟩
 have hrows : (m.c.sub t prio []).rows = m.c.rows ++ [(2, { mkTk prio [] with ke := key })] := by
  rw [← hkey]
  show (m.c.rows ++ [(2, mkTk prio [])]).set m.c.rows.length _ = _
  rw [List.set_append_right _ _ (Nat.le_refl _), Nat.sub_self]
  rfl
 have hq : (m.c.sub t prio []).q = m.c.q.put t ⟨key, (m.c.rows.length : Int) + 1⟩ := by
  rw [← hkey]
  rfl
 have hp : (m.c.sub t prio []).q.all.Perm (⟨key, (m.c.rows.length : Int) + 1⟩ :: m.c.q.all) := by
  rw [hq]
  exact put_all _ _ _ (by rw [h.sl]; exact ht) (h.ow.trans h.sl.symm)
 have hids : ∀ e ∈ m.c.q.all, 1 ≤ e.id ∧ e.id ≤ m.c.rows.length := fun e he => by
  obtain ⟨h1, z, hz, -⟩ := h.qr e he
  have := (List.getElem?_eq_some_iff.1 hz).1
  omega
 have hrow : ∀ (id : Int) x, rowOf m.c id = some x → rowOf (m.c.sub t prio []) id = some x := fun id x hx => by
  unfold rowOf at *
  rw [hrows, List.getElem?_append_left (List.getElem?_eq_some_iff.1 hx).1]
  exact hx
 have hnew : rowOf (m.c.sub t prio []) ((m.c.rows.length : Int) + 1) = some (2, { mkTk prio [] with ke := key }) := by
  unfold rowOf
  rw [hrows, show (((m.c.rows.length : Int) + 1 - 1).toNat) = m.c.rows.length by omega, List.getElem?_append_right (Nat.le_refl _), Nat.sub_self]
  rfl
 have hcase : ∀ (i : Nat) x, (m.c.sub t prio []).rows[i]? = some x → m.c.rows[i]? = some x ∨ (i = m.c.rows.length ∧ x = (2, { mkTk prio [] with ke := key })) := fun i x hx => by
  rw [hrows] at hx
  exact snoc_at hx
 have hset := settle_lens m.c.q t
 refine ⟨⟨?_, ?_, ?_, h.wl, ?_, fun e he => ?_, fun i y hy => ?_, fun i x hx => ?_, fun t' w hw => ?_, h.inj, fun i y hy => ?_, ?_, h.d, h.al⟩, by rw [hrows]; simp, rfl⟩
 ·
  show (m.c.sub t prio []).q.slots.length = T
  rw [hq]
  show ((m.c.q.settle t).slots.set t _).length = T
  rw [List.length_set, hset.1]
  exact h.sl
 · show (m.c.sub t prio []).q.own.length = T
   rw [hq]
   exact hset.2.trans h.ow
 · show (m.c.sub t prio []).q.k = k
   rw [hq]
   exact (settle_k _ _).trans h.k
 ·
  have hs := settle_Ok h.ok t
  refine ⟨?_, ?_, ?_, ?_, ?_⟩
  · show (m.c.sub t prio []).q.all.length ≤ NB
    rw [hp.length_eq]
    exact hl
  ·
   refine nodup_perm hp.symm ?_
   rw [List.map_cons, List.nodup_cons]
   refine ⟨fun hin => ?_, h.ok.ids⟩
   obtain ⟨e, he, hei⟩ := List.mem_map.1 hin
   have := hids e he
   have hei : e.id = (m.c.rows.length : Int) + 1 := hei
   omega
  · show (m.c.sub t prio []).q.k ≤ 16
    rw [hq]
    exact hs.k16
  · show ∀ l ∈ (m.c.sub t prio []).q.own, SortedE l
    rw [hq]
    exact hs.own
  · show SortedE (m.c.sub t prio []).q.sh
    rw [hq]
    exact hs.sh
 ·
  rcases List.mem_cons.1 (hp.mem_iff.1 he) with rfl | he
  · exact ⟨by show 1 ≤ (m.c.rows.length : Int) + 1; omega, _, hnew, rfl⟩
  · obtain ⟨h1, z, hz, hk⟩ := h.qr e he
    exact ⟨h1, z, hrow _ _ hz, hk⟩
 ·
  show hasL _ (m.c.sub t prio []).q.all = true
  rw [hasL_perm hp]
  rcases hcase i _ hy with hy | ⟨rfl, -⟩
  ·
   have := h.rq i y hy
   rw [hasL_iff] at this ⊢
   obtain ⟨e, he, hei⟩ := this
   exact ⟨e, List.mem_cons_of_mem _ he, hei⟩
  · rw [hasL_iff]
    exact ⟨_, List.mem_cons_self, rfl⟩
 · rcases hcase i _ hx with hx | ⟨-, rfl⟩
   · exact h.ro i x hx
   · exact ⟨.inl rfl, rfl⟩
 ·
  rcases h.wk t' w hw with h0 | ⟨h1, h2, z, hz, h3⟩ | ⟨h1, h2, ⟨z, hz⟩, h3⟩
  · exact .inl h0
  · exact .inr (.inl ⟨h1, h2, z, hrow _ _ hz, h3⟩)
  · exact .inr (.inr ⟨h1, h2, ⟨z, hrow _ _ hz⟩, h3⟩)
 · rcases hcase i _ hy with hy | ⟨-, hy⟩
   · exact h.cr i y hy
   · cases hy
 ·
  show m.c.o + 1 = (((m.c.sub t prio []).q.all.length + m.runs : Nat) : Int)
  have ho := h.o
  rw [hp.length_eq, List.length_cons]
  omega
theorem J.new (hal : al 4 ∧ ¬ al 2 ∧ ¬ al 3) (h1 : 1 ≤ T) (hk : k ≤ 16) : J al T k ⟨CM.new T k, List.replicate T wk0⟩ := by
 have hall : (CM.new T k).q.all = [] := by
  have h1 : slotE (List.replicate T (none : Option En)) = [] := by
   unfold slotE
   induction T with
   | zero => rfl
   | succ n ih =>
    rw [List.replicate_succ, List.filterMap_cons]
    cases n with
    | zero => rfl
    | succ n => exact ih (by omega)
  show slotE (List.replicate T none) ++ (List.replicate T []).flatten ++ [] = []
  rw [h1]
  simp
 have hr : ∀ i : Nat, (CM.new T k).rows[i]? = none := fun i => by show ([] : List (Int × Tk))[i]? = none; simp
 have hw : ∀ (t : Nat) w, (List.replicate T wk0)[t]? = some w → w = wk0 := fun t w h => List.eq_of_mem_replicate (List.mem_of_getElem? h)
 refine ⟨List.length_replicate, List.length_replicate, rfl, List.length_replicate, ⟨?_, ?_, hk, ?_, List.Pairwise.nil⟩, fun e he => ?_, fun i y hy => ?_, fun i x hx => ?_, fun t w h => ?_, fun t t' w w' h h' p => ?_, fun i y hy => ?_, ?_, rfl, hal⟩
 · show (CM.new T k).q.all.length ≤ NB
   rw [hall]
   exact Nat.zero_le _
 · show ((CM.new T k).q.all.map _).Nodup
   rw [hall]
   exact List.nodup_nil
 · intro l hl
   rw [List.eq_of_mem_replicate hl]
   exact List.Pairwise.nil
 · have he : e ∈ (CM.new T k).q.all := he
   rw [hall] at he
   cases he
 · rw [hr] at hy; cases hy
 · rw [hr] at hx; cases hx
 · exact .inl (by rw [hw t w h]; rfl)
 · rw [hw t w h] at p
   exact absurd p (by decide)
 · rw [hr] at hy; cases hy
 · show (0 : Int) = (((CM.new T k).q.all.length + ((List.replicate T wk0).map runN).sum : Nat) : Int)
   rw [hall, List.map_replicate, show runN wk0 = 0 from rfl]
   simp
theorem slotE_le (l : List (Option En)) : (slotE l).length ≤ l.length := List.length_filterMap_le ..
end Go.Proofs.YtcfhkbcllijnkaaGreat
namespace Go.Proofs.YtcfhkbcllijnkaaGreat
open Go.RowKit Go.Maps Go.Shelf Go.Proofs.YtcfhkbcllijnkaaGreatW.PrintWords
def wkA (w : Wk) : Value := .agg #[.int .i64 w.ph, .int .u64 w.e.key, .int .i64 w.e.id, .int .i64 w.pc, .bool w.bad]
section
variable {W W' : World} {A : CA} {S S' : CS} {N N' : Nat}
def StepTold (W : World) (A : CA) (S : CS) (N t : Nat) (d : Int) (w : Wk) (r : CM × Wk × Nat) : Prop := r.2.2 < 7 ∧ Calls Tryz.prog 59 #[.pointer (some ⟨A.cb, 0, none⟩), wkA w, .int .i64 t, .int .u64 d] W fun e w' => e = .returned (.tuple #[wkA r.2.1, .int .i64 r.2.2]) ∧ ∃ S', CStep W A S w' S' (N + 300) ∧ S'.cm A = r.1
theorem q_same {S0 : CS} (e0 : S0.cm A = S.cm A) : S0.q.q A.q.k = S.q.q A.q.k := congrArg CM.q e0
theorem rows_same {S0 : CS} (e0 : S0.cm A = S.cm A) : S0.t.rows = S.t.rows := congrArg CM.rows e0
theorem W_StepM0 (h : CoreAt W A S N) (hN : N ≤ 290000000) (t : Nat) (ht : t < A.q.lp.length) (d : Int) (d0 : 0 ≤ d) (d1 : d ≤ top) (w : Wk) (hq : (S.cm A).q.Ok) (h0 : w.ph = 0) : StepTold W A S N t d w ((S.cm A).wstep t d w) := by
 obtain ⟨ph, ⟨key, id⟩, pc, bad⟩ := w
 have h0 : ph = 0 := h0
 subst h0
 unfold CM.wstep
 rw [if_pos rfl]
 cases hf : (S.cm A).q.fullAt t with
 | true =>
  rw [if_pos rfl]
  refine ⟨(by decide : (1 : Nat) < 7), (W_StepS h t ht hq hf d key id pc bad).mono ?_⟩
  rintro e w' ⟨he, S', k, hm⟩
  exact ⟨he, S', k.up (by omega), hm⟩
 | false =>
  rw [if_neg (by decide)]
  cases hl : (S.cm A).look t d with
  | none =>
   refine ⟨(by decide : (0 : Nat) < 7), (W_Step0 (N' := N) h t ht hq hf d key id pc bad 0 key id pc bad 0 (by unfold In64; decide) ((0 : Nat) : Int) rfl (M := S.cm A) fun w S0 k0 e0 => (W_idle_none k0.at_ (by rw [q_same e0]; exact hq) t ht d d0 d1 (by rw [e0]; exact hl) ⟨0, ⟨key, id⟩, pc, bad⟩).mono ?_).mono ?_⟩
   · rintro e w' ⟨he, hb⟩
     exact ⟨he, S0, CStep.below k0.at_ hb, e0⟩
   · rintro e w' ⟨he, S', k, hm⟩
     exact ⟨he, S', k.up (by omega), hm⟩
  | some en =>
   have hne : (S.q.q A.q.k).all ≠ [] := fun e => by
    have := look_mem hl
    have e : (S.cm A).q.all = [] := e
    rw [e] at this
    cases this
   refine ⟨(by decide : (2 : Nat) < 7), (W_Step0 (N' := N + 1) h t ht hq hf d key id pc bad 1 en.key en.id pc bad 1 (by unfold In64; decide) ((2 : Nat) : Int) rfl (M := { S.cm A with evs := (S.cm A).evs ++ [⟨10, t, en.id, en.key, (S.cm A).tick⟩] }) fun w S0 k0 e0 => (W_idle k0.at_ (by omega) (by rw [q_same e0]; exact hq) t ht d d0 d1 en (by rw [e0]; exact hl) (by rw [q_same e0]; exact hne) ⟨0, ⟨key, id⟩, pc, bad⟩).mono ?_).mono ?_⟩
   ·
    rintro e w' ⟨he, S', k, hm⟩
    refine ⟨he, S', k, hm.trans ?_⟩
    show ({ S0.cm A with evs := (S0.cm A).evs ++ [(⟨10, t, en.id, en.key, (S0.cm A).tick⟩ : Ev)] } : CM) = _
    rw [e0]
   · rintro e w' ⟨he, S', k, hm⟩
     exact ⟨he, S', k.up (by omega), hm⟩
theorem W_StepM1 (h : CoreAt W A S N) (hN : N ≤ 290000000) (t : Nat) (ht : t < A.q.lp.length) (d : Int) (w : Wk) (hq : (S.cm A).q.Ok) (h1 : w.ph = 1) (hid : 1 ≤ w.e.id) {x : Int × Tk} (hx : rowOf (S.cm A) w.e.id = some x) : StepTold W A S N t d w ((S.cm A).wstep t d w) := by
 obtain ⟨ph, ⟨key, id⟩, pc, bad⟩ := w
 have h1 : ph = 1 := h1
 subst h1
 obtain ⟨k, rfl⟩ : ∃ k : Nat, id = (k : Int) + 1 := ⟨(id - 1).toNat, by have hid : 1 ≤ id := hid; omega⟩
 have hk : ((k : Int) + 1 - 1).toNat = k := by omega
 unfold CM.wstep
 rw [if_neg (show ¬ (1 : Int) = 0 by decide), if_pos rfl, hx]
 have hx' : S.t.rows[k]? = some x := by
  unfold rowOf at hx
  dsimp only at hx
  rw [hk] at hx
  exact hx
 dsimp only
 rw [hk]
 cases hh : (x.1 == 2 && x.2.ke == key) with
 | true =>
  rw [if_pos rfl]
  refine ⟨(by decide : (3 : Nat) < 7), (W_Step1 (N' := N + 5) h t ht d key ((k : Int) + 1) pc bad 2 key ((k : Int) + 1) 0 false 1 (by unfold In64; decide) ((3 : Nat) : Int) rfl (M := (S.cm A).claim t k x key) fun w S0 k0 e0 => (W_claim k0.at_ (by omega) (by rw [q_same e0]; exact hq) t ht k x (by rw [rows_same e0]; exact hx') 1 key pc bad true hh.symm).mono ?_).mono ?_⟩
  · rintro e w' ⟨he, S', k', hm⟩
    rw [if_pos rfl, e0] at hm
    exact ⟨he, S', k', hm⟩
  · rintro e w' ⟨he, S', k', hm⟩
    exact ⟨he, S', k'.up (by omega), hm⟩
 | false =>
  rw [if_neg (by decide)]
  refine ⟨(by decide : (4 : Nat) < 7), (W_Step1 (N' := N + 5) h t ht d key ((k : Int) + 1) pc bad 0 0 0 0 false 0 (by unfold In64; decide) ((4 : Nat) : Int) rfl (M := S.cm A) fun w S0 k0 e0 => (W_claim k0.at_ (by omega) (by rw [q_same e0]; exact hq) t ht k x (by rw [rows_same e0]; exact hx') 1 key pc bad false hh.symm).mono ?_).mono ?_⟩
  · rintro e w' ⟨he, S', k', hm⟩
    rw [if_neg (by decide), e0] at hm
    exact ⟨he, S', k', hm⟩
  · rintro e w' ⟨he, S', k', hm⟩
    exact ⟨he, S', k'.up (by omega), hm⟩
theorem W_StepM2 (h : CoreAt W A S N) (hN : N ≤ 290000000) (t : Nat) (ht : t < A.q.lp.length) (d : Int) (w : Wk) (hq : (S.cm A).q.Ok) (h2 : w.ph = 2) (hid : 1 ≤ w.e.id) (hbad : w.bad = false) (hpc : 0 ≤ w.pc) {x : Tk} (hx : rowOf (S.cm A) w.e.id = some (3, x)) (hL : (x.L.length : Int) ≤ w.pc) (ho : 0 < (S.cm A).o) (hd : (S.cm A).d = false ∨ ((S.cm A).d = true ∧ w.e.id = 1 ∧ ∃ y, (S.cm A).rows[1]? = some (1, y))) : StepTold W A S N t d w ((S.cm A).wstep t d w) := by
 obtain ⟨ph, ⟨key, id⟩, pc, bad⟩ := w
 have h2 : ph = 2 := h2
 subst h2
 have hbad : bad = false := hbad
 subst hbad
 obtain ⟨k, rfl⟩ : ∃ k : Nat, id = (k : Int) + 1 := ⟨(id - 1).toNat, by have hid : 1 ≤ id := hid; omega⟩
 have hk : ((k : Int) + 1 - 1).toNat = k := by omega
 have hpc : 0 ≤ pc := hpc
 have hL : (x.L.length : Int) ≤ pc := hL
 unfold CM.wstep
 rw [if_neg (show ¬ (2 : Int) = 0 by decide), if_neg (show ¬ (2 : Int) = 1 by decide), hx]
 have hx' : S.t.rows[k]? = some (3, x) := by
  unfold rowOf at hx
  dsimp only at hx
  rw [hk] at hx
  exact hx
 dsimp only
 rw [hk, List.getElem?_eq_none (by omega)]
 refine ⟨(by decide : (6 : Nat) < 7), (W_Step2 (N' := N + 20) h t ht d key ((k : Int) + 1) pc false 0 0 0 0 false 0 (by unfold In64; decide) ((6 : Nat) : Int) rfl (M := (S.cm A).finish t k (3, x)) fun w S0 k0 e0 => (W_run_end (N' := N + 20) (M := (S.cm A).finish t k (3, x)) k0.at_ t k (3, x) (by rw [rows_same e0]; exact hx') 2 key pc hpc hL ?_).mono ?_).mono ?_⟩
 ·
  intro w2 hb2
  have h0 := k0.at_.below hb2
  have ho0 : 0 < S0.o := by
   have : S0.o = S.o := congrArg CM.o e0
   rw [this]; exact ho
  have hd0 : S0.d = S.d := congrArg CM.d e0
  unfold CM.finish
  rcases hd with hd | ⟨hd, hi, y, hy⟩
  ·
   refine (C_Finish0 h0 (by omega) t ht k x (by rw [rows_same e0]; exact hx') ho0 (hd0.trans hd)).mono ?_
   rintro e w' ⟨he, S', k', hm⟩
   rw [if_neg (by rw [hd]; decide), ← e0]
   exact ⟨he, S', k'.up (by omega), hm⟩
  ·
   have hk0 : k = 0 := by have hi : (k : Int) + 1 = 1 := hi; omega
   subst hk0
   refine (C_Finish1 h0 (by omega) t ht x y (by rw [rows_same e0]; exact hx') (by rw [rows_same e0]; exact hy) ho0 (hd0.trans hd) (by rw [q_same e0]; exact hq)).mono ?_
   rintro e w' ⟨he, S', k', hm⟩
   rw [if_pos hd, hy, ← e0]
   exact ⟨he, S', k', hm⟩
 · rintro e w' ⟨he, S', k', hm⟩
   exact ⟨he, S', k', hm⟩
 · rintro e w' ⟨he, S', k', hm⟩
   exact ⟨he, S', k'.up (by omega), hm⟩
end
theorem keyedClassD : Keyed Tryz.prog 111 := Keyed.of_law (deep_law_laid laidOutM (m := 2) (by decide) (of_decide_eq_true (by kernel_rfl)) (by kernel_rfl) (by kernel_rfl))
theorem arrClassD : Go.WideMaps.ArrKey Tryz.prog 111 3 2 := ⟨by kernel_rfl, by kernel_rfl, by kernel_rfl, by kernel_rfl⟩
theorem key_classD (a b : Int) (ha : In64 a) (hb : In64 b) : ∃ l, keyOf Tryz.prog 111 (pk a b) = some l :=
 ⟨_, Go.WideMaps.keyOf_pair arrClassD Tryz.underlying3 ⟨_, rfl⟩ ha hb⟩
def ovr (s : Int) : Prop := s = 4 ∨ s = 5 ∨ s = 6
theorem over_done (s : Int) (h : ovr s) (w : World) : Calls Tryz.prog 88 #[.int .i64 s] w fun e w' => e = .returned (.bool true) ∧ w' = w := by
 rcases h with rfl | rfl | rfl <;>
 ·
  go_enter Tryz.func88, Tryz.ntmps88
  go_wp2_with fail
  go_ret
  exact ⟨rfl, rfl⟩
def cntP (rows : List (Int × Tk)) (i : Nat) (a : Int) : Nat := ((rows.take i).filter fun x => x.1 == a).length
theorem cntP_next {rows : List (Int × Tk)} {i : Nat} {x : Int × Tk} (h : rows[i]? = some x) (a : Int) : cntP rows (i + 1) a = cntP rows i a + if x.1 = a then 1 else 0 := by
 unfold cntP
 rw [List.take_add_one, h, List.filter_append, List.length_append]
 by_cases e : x.1 = a
 · simp [e]
 · simp [e]
theorem cntP_le (rows : List (Int × Tk)) (i : Nat) (a : Int) : cntP rows i a ≤ rows.length := by
 unfold cntP
 refine Nat.le_trans (List.length_filter_le _ _) ?_
 rw [List.length_take]
 omega
def clF (n : Int → Nat) (vs : Int → Value) : Int → Int → Option Value := fun a b => if b = 1 ∧ 0 < n a then some (vs a) else none
def upV {α : Type} (vs : Int → α) (s : Int) (v : α) : Int → α := fun a => if a = s then v else vs a
structure SrtAt (W : World) (A : CA) (S : CS) (S1 : CS) (N : Nat) (ta : Option Addr) (n i : Nat) (vs : Int → Value) (xs : Int → List Value) (w : World) : Prop where
 st : CStep W A S w S1 N
 map : PMap w W.heap.size (clF (cntP S.t.rows i) vs)
 own : ∀ a, w.ownsRow (W.heap.size + 1) 3 1 (vs a) (cntP S.t.rows i a) (xs a)
 dis : ∀ a b c, a ≠ b → (vs a).ownBlock = some c → (vs b).ownBlock ≠ some c
 nm : ¬ (cOS A S1).own W.heap.size
 nv : ∀ a c, (vs a).ownBlock = some c → ¬ (cOS A S1).own c
 tk : 0 < n → ∃ b, ta = some ⟨b, 0, none⟩ ∧ W.heap.size < b ∧ (∀ a c, (vs a).ownBlock = some c → c ≠ b) ∧ ∀ j x, (tasksV S.t.rows)[j]? = some x → w.cell? ⟨b, j, none⟩ = some x
 z : ∀ a, cntP S.t.rows i a = 0 → vs a = .slice none 0 0
theorem state_field (x0 x1 x2 x3 x4 x5 x6 x7 x8 : Value) (w : World) : (Instr.field 46 (Value.agg #[x0, x1, x2, x3, x4, x5, x6, x7, x8]) 4).run Tryz.prog w = .ok x4 w := by kernel_rfl
theorem clF_at {n : Int → Nat} {vs : Int → Value} {s : Int} (h : n s = 0 → vs s = .slice none 0 0) : (clF n vs s 1).getD (.slice none 0 0) = vs s := by
 unfold clF
 by_cases hi : 0 < n s
 · rw [if_pos ⟨rfl, hi⟩]; rfl
 · rw [if_neg (fun e => hi e.2), h (by omega)]; rfl
theorem clF_next {n n' : Int → Nat} (vs : Int → Value) (s : Int) (v' : Value) (h : ∀ a, n' a = n a + if s = a then 1 else 0) : updF (clF n vs) s 1 v' = clF n' (upV vs s v') := by
 funext a b
 unfold updF clF upV
 have h := h a
 by_cases e : a = s
 ·
  subst e
  rw [if_pos rfl] at h
  by_cases eb : b = 1
  · rw [if_pos ⟨rfl, eb⟩, if_pos ⟨eb, by omega⟩, if_pos rfl]
  · rw [if_neg (fun x => eb x.2), if_neg (fun x => eb x.1), if_neg (fun x => eb x.1)]
 ·
  rw [if_neg (fun x => e x.1), if_neg e]
  rw [if_neg (fun x => e x.symm)] at h
  rw [h]
  rfl
theorem clF_0 (rows : List (Int × Tk)) (vs : Int → Value) : clF (cntP rows 0) vs = fun _ _ => none := by funext a b; simp [clF, cntP]
section
variable {W W' w5 w6 : World} {A : CA} {S S' : CS} {N N' : Nat}
theorem CStep.boxG (k : CStep W A S w5 S' N') {b : Nat} (f : Fr (fun j => j = b) w5 w6) {o : Obj} (hb : w5.heap[b]? = some o) (him : ∀ (cur : Array Value) (u : TypeId), o = .cells cur u (0, 0) → u ≠ 63) (hge : W.heap.size ≤ b) (hno : ¬ (cOS A S').own b) : CStep W A S w6 S' N' := by
 have hn : NoE w5 (fun j => j = b) := NoE.of fun j hj => by
  have hj : j = b := hj
  rw [hj]
  exact ⟨_, hb, him⟩
 refine ⟨⟨k.at_.ps.keep f hn (fun j hj e => hno (by have e : j = b := e; rw [← e]; exact hj)), k.at_.bnd⟩, ⟨f.os.trans k.ps.fr.os, f.tape.trans k.ps.fr.tape, f.output.trans k.ps.fr.output, Nat.le_trans k.ps.fr.size f.size, fun j hj hnn => ?_⟩, k.ps.wr, k.ps.own⟩
 exact (f.block j (Nat.lt_of_lt_of_le hj k.ps.fr.size) (fun e => by have e : j = b := e; omega)).trans (k.ps.fr.block j hj hnn)
theorem CStep.grow (k : CStep W A S w5 S' N') {v : Value} {n base : Nat} {xs : List Value} (ho : w5.ownsRow base 3 1 v n xs) (hg : w5.grownBy w6 v.ownBlock) (hge : W.heap.size ≤ base) (hno : ∀ c, v.ownBlock = some c → ¬ (cOS A S').own c) : CStep W A S w6 S' N' := by
 cases hv : v.ownBlock with
 | none =>
  rw [hv] at hg
  exact k.trans (CStep.below k.at_ ⟨hg.os, hg.tape, hg.output, hg.size, fun j hj => hg.block j hj (by simp)⟩)
 | some c =>
  have hl := ho.lt c hv
  rw [hv] at hg
  obtain ⟨cur, hb⟩ := owns_type ho hv
  exact k.boxG ⟨hg.os, hg.tape, hg.output, hg.size, fun j hj hne => hg.block j hj (fun e => hne (Option.some.inj e))⟩ hb (cells_im (by decide)) (by omega) (hno c hv)
theorem task_cell {rows : List (Int × Tk)} {i : Nat} {x : Int × Tk} (hx : rows[i]? = some x) : ∀ j, j < 7 → (tasksV rows)[i * 7 + j]? = (taskV i x.1 x.2)[j]? := by
 intro j hj
 have hi := (List.getElem?_eq_some_iff.1 hx).1
 unfold tasksV
 rw [allV_at _ _ _ _ _ hi hj]
 have : rows.getD i tk0 = x := by rw [List.getD_eq_getElem?_getD, hx]; rfl
 rw [this]
theorem D_sorted (h : CoreAt W A S N) (hN : N ≤ 300000000) (hq : (S.q.q A.q.k).Ok) (h4 : ∀ x ∈ S.t.rows, ovr x.1) : Calls Tryz.prog 46 #[.pointer (some ⟨A.cb, 0, none⟩)] W fun e w' => ∃ mb v S', e = .returned (.map (some mb)) ∧ CStep W A S w' S' (N + 1260) ∧ S'.cm A = S.cm A ∧ PMap w' mb (clF (cntP S.t.rows S.t.rows.length) v) ∧ (∀ s, ∃ a c, v s = .slice a (cntP S.t.rows S.t.rows.length s) c) ∧ ∀ s, cntP S.t.rows S.t.rows.length s = 0 → v s = .slice none 0 0 := by
 have hmm : ∀ w, (Instr.makeMap 108 none).run Tryz.prog w = .ok (.map (some w.heap.size)) (w.alloc (.map #[] 0)) := fun _ => by rfl
 obtain ⟨W1, hW1⟩ : ∃ W1, W.alloc (.map #[] 0) = W1 := ⟨_, rfl⟩
 have hb1 : Below W.heap.size W W1 := by rw [← hW1]; exact below_al (Below.refl _ _) _
 have xm : W1.heap[W.heap.size]? = some (.map #[] 0) := by rw [← hW1]; exact heap_alloc_new W _
 have HS := Lib.hid (C_State (h.below hb1) hN hq)
 have H := Lib.hid (And.intro h (And.intro hb1 (And.intro xm h4)))
 obtain ⟨n, hn⟩ : ∃ n, S.t.rows.length = n := ⟨_, rfl⟩
 have hnl : n ≤ 200 := by rw [← hn]; exact h.t.len.2
 rw [hn]
 have HN := Lib.hid hn
 have HW1 := Lib.hid hW1
 obtain ⟨i0, hi0, hz0, hz1, hz2⟩ := info_parts infoInt
 clear h hb1 xm hq h4 hn hW1
 go_enter Tryz.func46, Tryz.ntmps46
 go_upto_region 2 with fail
 rw [HW1.out]
 go_wp2_with fail
 refine HS.out.mono ?_
 rintro e w2 ⟨tv, sv, lv, hv, rfl, hp, hloc⟩
 unfold stC
 obtain ⟨S1, k1, hcm, -, -⟩ := hp.core
 obtain ⟨lo', hlo, ht'⟩ := hp.t (by omega)
 have hts : ∃ tb, tv = .slice tb n n ∧ (0 < n → ∃ b, tb = some ⟨b, 0, none⟩ ∧ W1.heap.size ≤ b ∧ ∀ j, j < n * 7 → w2.cell? ⟨b, j, none⟩ = (tasksV S.t.rows)[j]?) := by
  rcases ht' with ⟨h1, h2⟩ | ⟨c, h1, h2, h3, h4⟩
  · rw [HN.out] at h1; exact ⟨none, by rw [h2, h1], fun h => by omega⟩
  · rw [HN.out] at h1 h4; exact ⟨_, h1, fun _ => ⟨c, rfl, by omega, h4⟩⟩
 obtain ⟨ta, rfl, hta⟩ := hts
 have hxm : w2.heap[W.heap.size]? = some (.map #[] 0) := CStep.kept (H.out.1.below H.out.2.1) k1 (fun e => by have := H.out.1.lt e; omega) H.out.2.2.1
 have hnm : ¬ (cOS A S1).own W.heap.size := CStep.stays k1 (fun e => by have := H.out.1.lt e; omega) (heap_lt H.out.2.2.1)
 have hs12 := H.out.2.1.size
 have hl1 := heap_lt H.out.2.2.1
 have HK1 : CStep W A S w2 S1 (N + 1260) := (CStep.below H.out.1 H.out.2.1).trans (k1.up (by omega))
 have H0 : SrtAt W A S S1 (N + 1260) ta n 0 (fun _ => .slice none 0 0) (fun _ => []) w2 := ⟨HK1, ⟨#[], 0, hxm, by rw [clF_0]; exact PMapE.empty⟩, fun a => World.ownsRow_nil _ _ _ _, fun a b c _ hc => (by cases hc), hnm, fun a c hc => (by cases hc), fun hn => by
  obtain ⟨b, h1, h2, h3⟩ := hta hn
  exact ⟨b, h1, by omega, fun a c hc => (by cases hc), fun j x hx => (h3 j (by
   have := (List.getElem?_eq_some_iff.1 hx).1
   unfold tasksV at this
   rw [allV_len, HN.out] at this
   exact this)).trans hx⟩, fun a _ => rfl⟩
 have HS0 := Lib.hid H0
 have HCM := Lib.hid hcm
 have hsf := fun w => state_field (.int .u64 0) (.int .u64 S.tick) (.bool S.closed) (.int .i64 ((A.C : Int) - S.o)) (.slice ta n n) sv lv hv (.slice none 0 0) w
 clear hp hloc ht' k1 hcm hlo hxm hnm hta hs12 hl1 HK1 HS H0
 go_wp2_with fail
 go_loopg [5, 6, 12] n (fun gg s5 s6 s12 wr => ∃ (i : Nat) (vs : Int → Value) (xs : Int → List Value), i ≤ n ∧ gg = n - i ∧ s12 = .int .i64 i ∧ Aside (SrtAt W A S S1 (N + 1260) ta n i vs xs wr))
 case atStart => exact ⟨0, _, _, Nat.zero_le _, by omega, rfl, HS0.out⟩
 case round =>
  obtain ⟨i, vs, xs, hi, rfl, rfl, hR⟩ := hrel
  by_cases hlt : i < n
  ·
   have hltz : (i : Int) < (n : Int) := by omega
   obtain ⟨b, rfl, hb, hvb, hc⟩ := hR.out.tk (by omega)
   obtain ⟨x, hx⟩ : ∃ x, S.t.rows[i]? = some x := ⟨_, List.getElem?_eq_getElem (by rw [HN.out]; exact hlt)⟩
   have hT := task_cell hx
   have hov := H.out.2.2.2 x (List.mem_of_getElem? hx)
   have hcn := cntP_next hx
   obtain ⟨s, T⟩ := x
   obtain ⟨v, hv⟩ : ∃ v, vs s = v := ⟨_, rfl⟩
   obtain ⟨m, hm⟩ : ∃ m, cntP S.t.rows i s = m := ⟨_, rfl⟩
   have hml : m ≤ 200 := by rw [← hm]; exact Nat.le_trans (cntP_le _ _ _) (by rw [HN.out]; exact hnl)
   have hsI : In64 s := by rcases hov with e | e | e <;> (have e : s = _ := e; subst e; unfold In64; decide)
   have c0 : wr.cell? ⟨b, i * 7, none⟩ = some (.int .i64 ((i : Int) + 1)) := hc (i * 7) _ (hT 0 (by omega))
   have c1 : wr.cell? ⟨b, i * 7 + 1, none⟩ = some (.int .i64 T.pr) := hc (i * 7 + 1) _ (hT 1 (by omega))
   have c2 : wr.cell? ⟨b, i * 7 + 2, none⟩ = some (.int .i64 s) := hc (i * 7 + 2) _ (hT 2 (by omega))
   have c3 : wr.cell? ⟨b, i * 7 + 3, none⟩ = some (.int .u64 T.du) := hc (i * 7 + 3) _ (hT 3 (by omega))
   have c4 : wr.cell? ⟨b, i * 7 + 4, none⟩ = some (.int .u64 T.ke) := hc (i * 7 + 4) _ (hT 4 (by omega))
   have c5 : wr.cell? ⟨b, i * 7 + 5, none⟩ = some (.int .u64 T.RU) := hc (i * 7 + 5) _ (hT 5 (by omega))
   have c6 : wr.cell? ⟨b, i * 7 + 6, none⟩ = some (.int .u64 T.MI) := hc (i * 7 + 6) _ (hT 6 (by omega))
   have HR := Lib.hid (And.intro hR.out (And.intro hb (And.intro hvb hc)))
   have HV := Lib.hid (And.intro hv (And.intro hm (And.intro hcn hx)))
   have HOV := Lib.hid hov
   clear hR hb hvb hc hT hx hov hcn hv hm
   go_wp2_with fail
   refine (over_done s HOV.out _).mono ?_
   rintro e X ⟨rfl, hX⟩
   obtain ⟨hR, hb, hvb, hc⟩ := HR.out
   have hbX : Below wr.heap.size wr X := by rw [hX]; exact below_al (below_al (Below.refl _ _) _) _
   have hsX : X.heap.size = wr.heap.size + 2 := by rw [hX]; simp
   have x5 : X.heap[wr.heap.size]? = some (.cells #[.int .i64 ((i : Int) + 1), .int .i64 T.pr, .int .i64 s, .int .u64 T.du, .int .u64 T.ke, .int .u64 T.RU, .int .u64 T.MI] 49 (0, 0)) := by rw [hX]; exact alloc_old (heap_alloc_new wr _)
   have x6 : X.heap[wr.heap.size + 1]? = some (.cells #[.int .i64 s, .int .i64 0] 111 (0, 0)) := by rw [hX]; exact alloc_at (by simp)
   have k0 : X.cell? ⟨wr.heap.size, 0, none⟩ = some (.int .i64 ((i : Int) + 1)) := by rw [cell_of_heap x5]; rfl
   obtain ⟨a0, a1, -, za⟩ := cells2 x6
   have x62 := heap_set (o := 1) x6 (.int .i64 1)
   have f2 : Fr (fun j => j = wr.heap.size + 1) X (X.setCell ⟨wr.heap.size + 1, 1, none⟩ (.int .i64 1)) := Fr.set (S := fun j => j = wr.heap.size + 1) (Fr.refl _ _) (p := ⟨wr.heap.size + 1, 1, none⟩) rfl _
   have hszr : W.heap.size < wr.heap.size := by obtain ⟨es, ck, h1, -⟩ := hR.map; exact heap_lt h1
   have nX : ¬ (cOS A S1).own (wr.heap.size + 1) := fun e => by have := hR.st.at_.lt e; omega
   have kX : CStep W A S X S1 (N + 1260) := hR.st.trans (CStep.below hR.st.at_ hbX)
   have k2 := kX.boxG f2 x6 (cells_im (by decide)) (by omega) nX
   obtain ⟨X3, hX3⟩ : ∃ X3, (X.setCell ⟨wr.heap.size + 1, 1, none⟩ (.int .i64 1)).alloc (.cells #[.int .i64 ((i : Int) + 1)] 3) = X3 := ⟨_, rfl⟩
   have hs2 : (X.setCell ⟨wr.heap.size + 1, 1, none⟩ (.int .i64 1)).heap.size = X.heap.size := by simp
   have hb3 : Below (X.setCell ⟨wr.heap.size + 1, 1, none⟩ (.int .i64 1)).heap.size (X.setCell ⟨wr.heap.size + 1, 1, none⟩ (.int .i64 1)) X3 := by rw [← hX3]; exact below_al (Below.refl _ _) _
   have x3 : X3.heap[X.heap.size]? = some (.cells #[.int .i64 ((i : Int) + 1)] 3 (0, 0)) := by rw [← hX3]; exact alloc_at (by simp)
   have k3 : CStep W A S X3 S1 (N + 1260) := k2.trans (CStep.below k2.at_ hb3)
   have hm3 : PMap X3 W.heap.size (clF (cntP S.t.rows i) vs) := by
    obtain ⟨es, ck, h1, h2⟩ := hR.map
    refine ⟨es, ck, (hb3.block _ (by rw [hs2]; omega)).trans ((f2.block _ (by omega) (by omega)).trans ((hbX.block _ hszr).trans h1)), h2⟩
   obtain ⟨st, es, ck, hen, hE1, hst⟩ := hm3.entry keyedClassD key_classD Tryz.underlying108 (.slice none 0 0) (by kernel_rfl) s 1 hsI (by unfold In64; decide)
   rw [clF_at (hR.z s), HV.out.1] at hen
   have hen' : (Instr.mapEntry 108 (.map (some W.heap.size)) (.agg #[.int .i64 s, .int .i64 1])).run Tryz.prog X3 = .ok (.tuple #[v, .int .i64 st]) (World.setBlk X3 W.heap.size (.map es ck)) := hen
   obtain ⟨X4, hX4⟩ : ∃ X4, World.setBlk X3 W.heap.size (.map es ck) = X4 := ⟨_, rfl⟩
   rw [hX4] at hen'
   obtain ⟨es0, ck0, h30, -⟩ := hm3
   have f4 : Fr (fun j => j = W.heap.size) X3 X4 := by rw [← hX4]; exact Fr.of_setBlk _ _ _ rfl
   have hs3 : X3.heap.size = X.heap.size + 1 := by rw [← hX3]; simp
   have hs4 : X4.heap.size = X3.heap.size := by rw [← hX4]; exact setBlk_size _ _ _
   have m4 : X4.heap[W.heap.size]? = some (.map es ck) := by rw [← hX4]; exact setBlk_get _ _ _ _ h30
   have x4 := (f4.block _ (heap_lt x3) (by omega)).trans x3
   have k4 : CStep W A S X4 S1 (N + 1260) := k3.boxG f4 h30 map_im (Nat.le_refl _) hR.nm
   have kp4 : ∀ c o, W.heap.size < c → wr.heap[c]? = some o → X4.heap[c]? = some o := fun c o hc ho => by
    have hl := heap_lt ho
    exact (f4.block c (by omega) (by omega)).trans ((hb3.block c (by omega)).trans ((f2.block c (by omega) (by omega)).trans ((hbX.block c hl).trans ho)))
   have ow4 : ∀ a, X4.ownsRow (W.heap.size + 1) 3 1 (vs a) (cntP S.t.rows i a) (xs a) := fun a => own_keep (hR.own a) fun c o hv ho => kp4 c o (by have := (hR.own a).lt c hv; omega) ho
   have own4 : X4.ownsRow (W.heap.size + 1) 3 1 v m (xs s) := by have := ow4 s; rw [HV.out.1, HV.out.2.1] at this; exact this
   have HOWN := Lib.hid own4
   have HNEWS := Lib.hid (show ∀ j u, [Value.int .i64 ((i : Int) + 1)][j]? = some u → X4.cell? ((⟨X.heap.size, 0, none⟩ : Addr).add j) = some u from fun j u hu => by
    cases j with
    | zero =>
     have hu : Value.int .i64 ((i : Int) + 1) = u := by simpa using hu
     rw [← hu]
     show X4.cell? ⟨X.heap.size, 0 + 0, none⟩ = _
     rw [cell_of_heap x4]
     rfl
    | succ j => simp at hu)
   have HGE := Lib.hid (show W.heap.size + 1 ≤ X4.heap.size by omega)
   have HST := Lib.hid (fun w2 v1 h => hst w2 v1 h)
   have HEND := Lib.hid (And.intro hR (And.intro hb (And.intro hvb (And.intro hc (And.intro m4 (And.intro k4 (And.intro kp4 (And.intro ow4 (And.intro hs4 (And.intro hs3 (And.intro hsX hszr)))))))))))
   have HX3 := Lib.hid hX3
   clear hR hb hvb hc hbX hsX x5 x6 x62 f2 hszr nX kX k2 hX3 hs2 hb3 x3 k3 hst hE1 hen hX4 h30 f4 hs3 hs4 m4 x4 k4 kp4 own4 ow4 hX
   go_upto_region 8 with fail
   rw [← HX3.out] at hen'
   go_wp2_with (at_builtin; refine wpList_append_own_at _ rfl (.tmp 25) (.tmp 28) 33 rfl (W.heap.size + 1) 3 i0 zInt 1 8 Tryz.underlying33 hi0 hz0 hz1 hz2 rfl (by decide) v m (xs s) rfl HOWN.out ⟨X.heap.size, 0, none⟩ 1 1 [.int .i64 ((i : Int) + 1)] rfl rfl HNEWS.out (fun u hu => by simp at hu; subst hu; rfl) (by unfold maxLen; omega) (by omega) HGE.out ?_; intro v' w6 hown6 hg6 hnil6 hblk6; have m6 := (hg6.block _ (heap_lt HEND.out.2.2.2.2.1) (fun e => by have := (HOWN.out.lt _ e.symm).1; omega)).trans HEND.out.2.2.2.2.1; obtain ⟨es', ck', hes, hE6⟩ := HST.out w6 v' m6; have hes' : (Instr.entryStore 108 (.map (some W.heap.size)) (.int .i64 st) v').run Tryz.prog w6 = .ok () (World.setBlk w6 W.heap.size (.map es' ck')) := hes; have H6 := Lib.hid (And.intro hown6 (And.intro hg6 (And.intro hblk6 (And.intro m6 hE6)))); clear hown6 hg6 hnil6 hblk6 m6 hE6 hes)
   have hnr : SrtAt W A S S1 (N + 1260) (some ⟨b, 0, none⟩) n (i + 1) (upV vs s v') (upV xs s (xs s ++ [.int .i64 ((i : Int) + 1)])) (World.setBlk w6 W.heap.size (.map es' ck')) := by
    obtain ⟨hR, hb, hvb, hc, m4, k4, kp4, ow4, hs4, hs3, hsX, hszr⟩ := HEND.out
    obtain ⟨hown6, hg6, hblk6, m6, hE6⟩ := H6.out
    obtain ⟨hv, hm, hcn, hx⟩ := HV.out
    have hcs : cntP S.t.rows (i + 1) s = m + 1 := by rw [hcn s, hm]; simp
    have hco : ∀ a, a ≠ s → cntP S.t.rows (i + 1) a = cntP S.t.rows i a := fun a ha => by rw [hcn a, if_neg (fun e => ha e.symm)]; rfl
    have us : ∀ {α : Type} (f : Int → α) (y : α), upV f s y s = y := fun f y => if_pos rfl
    have uo : ∀ {α : Type} (f : Int → α) (y : α) (a : Int), a ≠ s → upV f s y a = f a := fun f y a ha => if_neg ha
    have own4 := HOWN.out
    have hnv : ∀ c, v.ownBlock = some c → ¬ (cOS A S1).own c := fun c hc => hR.nv s c (by rw [hv]; exact hc)
    have k6 := k4.grow own4 hg6 (by omega) hnv
    have f7 : Fr (fun j => j = W.heap.size) w6 (World.setBlk w6 W.heap.size (.map es' ck')) := Fr.of_setBlk _ _ _ rfl
    have k7 := k6.boxG f7 m6 map_im (Nat.le_refl _) hR.nm
    have hge : ∀ c, v'.ownBlock = some c → W.heap.size < c := fun c hc => (hown6.lt c hc).1
    have hbl := World.block_lt_of_cell? wr _ c0
    have hbl : b < wr.heap.size := hbl
    obtain ⟨ob, hob⟩ : ∃ o, wr.heap[b]? = some o := ⟨_, Array.getElem?_eq_getElem hbl⟩
    have hb4 := kp4 b ob hb hob
    have hb7 : (World.setBlk w6 W.heap.size (.map es' ck')).heap[b]? = some ob := (f7.block b (by have := hg6.size; omega) (by omega)).trans ((hg6.block b (heap_lt hb4) (fun e => hvb s b (by rw [hv]; exact e.symm) rfl)).trans hb4)
    -- a block of another state's row
    have hoth : ∀ a c, a ≠ s → (vs a).ownBlock = some c → v.ownBlock ≠ some c := fun a c ha hc => by rw [← hv]; exact hR.dis a s c ha hc
    have hnew : ∀ a c, a ≠ s → (vs a).ownBlock = some c → v'.ownBlock ≠ some c := fun a c ha hc e => by
     rcases hblk6 with e2 | e2
     · exact hoth a c ha hc (e2.symm.trans e)
     ·
      rw [e] at e2
      have e2 := Option.some.inj e2
      have := (ow4 a).lt c hc
      obtain ⟨cur, hcur⟩ := own_block (ow4 a) hc
      have := heap_lt hcur
      omega
    refine ⟨k7, ⟨es', ck', setBlk_get _ _ _ _ m6, by rw [← clF_next vs s v' hcn]; exact hE6⟩, fun a => ?_, fun a b' c hab hca hcb => ?_, hR.nm, fun a c hc' => ?_, fun _ => ⟨b, rfl, hb, fun a c hc' e => ?_, fun j x hx => ?_⟩, fun a e => ?_⟩
    ·
     by_cases ha : a = s
     · subst ha
       rw [us, us, hcs]
       exact own_keep hown6 fun c o hv ho => (f7.block c (heap_lt ho) (by have := hge c hv; omega)).trans ho
     ·
      rw [uo _ _ a ha, uo _ _ a ha, hco a ha]
      refine own_keep (ow4 a) fun c o hv2 ho => ?_
      have h1 := (hg6.block c (heap_lt ho) (fun e => hoth a c ha hv2 e.symm)).trans ho
      exact (f7.block c (heap_lt h1) (by have := ((ow4 a).lt c hv2).1; omega)).trans h1
    ·
     by_cases ha : a = s
     ·
      subst ha
      rw [us] at hca
      rw [uo _ _ b' (fun e => hab e.symm)] at hcb
      exact hnew b' c (fun e => hab e.symm) hcb hca
     ·
      rw [uo _ _ a ha] at hca
      by_cases hb' : b' = s
      · subst hb'
        rw [us] at hcb
        exact hnew a c ha hca hcb
      · rw [uo _ _ b' hb'] at hcb
        exact hR.dis a b' c hab hca hcb
    ·
     by_cases ha : a = s
     ·
      subst ha
      rw [us] at hc'
      rcases hblk6 with e | e
      · exact hnv c (e.symm.trans hc')
      ·
       rw [hc'] at e
       have e := Option.some.inj e
       intro ho
       have := k4.at_.lt ho
       omega
     · rw [uo _ _ a ha] at hc'
       exact hR.nv a c hc'
    ·
     by_cases ha : a = s
     ·
      subst ha
      rw [us] at hc'
      rcases hblk6 with e2 | e2
      · exact hvb a c (by rw [hv]; exact e2.symm.trans hc') e
      · rw [hc'] at e2
        have e2 := Option.some.inj e2
        omega
     · rw [uo _ _ a ha] at hc'
       exact hvb a c hc' e
    · have h1 := hc j x hx
      rw [← h1]
      simp [World.cell?, hb7, hob]
    ·
     by_cases ha : a = s
     · subst ha
       omega
     · rw [uo _ _ a ha]
       exact hR.z a (by rw [← hco a ha]; exact e)
   go_roundg (n - (i + 1))
   case measure => omega
   case rel => exact ⟨i + 1, _, _, by omega, rfl, by go_num, (show Aside (SrtAt W A S S1 (N + 1260) (some ⟨b, 0, none⟩) n (i + 1) (upV vs s v') _ _) from hnr)⟩
  ·
   obtain rfl : i = n := by omega
   have hltz : ¬ (i : Int) < (i : Int) := by omega
   have HR := Lib.hid hR.out
   clear hR
   go_wp2_with fail
   go_ret
   have hfin : ∀ s, ∃ a c, vs s = .slice a (cntP S.t.rows i s) c := fun s => by
    obtain ⟨a5, c5, h5, -⟩ := SlV.clip (SlV.of_owns (HR.out.own s))
    exact ⟨a5, c5, h5⟩
   exact ⟨W.heap.size, rfl, vs, S1, HR.out.st, HCM.out, HR.out.map, hfin, HR.out.z⟩
end
structure ClsAt (W : World) (M : MA) (s : MS) (B : Nat → Nat) (R : Nat → MS → Prop) (b4 b7 : Nat) (a : Option Addr) (cap j : Nat) (sj : MS) (w : World) : Prop where
 st : MStep W M s w sj (B j)
 r : R j sj
 x4 : w.heap[b4]? = some (.cells #[.int .i64 0, .int .i64 0, .int .i64 0, .slice none 0 0, .int .i64 0] 35 (0, 0))
 x7 : w.heap[b7]? = some (.cells #[.int .i64 0, .int .i64 0, .int .i64 0, .slice a 0 cap, .int .i64 j] 35 (0, 0))
 n4 : ¬ mOwn M sj b4
 n7 : ¬ mOwn M sj b7
 ne : W.heap.size ≤ b4 ∧ W.heap.size ≤ b7 ∧ b4 ≠ b7
section
variable {W W' : World} {M : MA} {s s' : MS} {N N' : Nat}
theorem MStep.box {w5 w6 : World} (k : MStep W M s w5 s' N') {b : Nat} (f : Fr (fun j => j = b) w5 w6) {c : Array Value} {t : TypeId} (hb : w5.heap[b]? = some (.cells c t (0, 0))) (ht : t ≠ 63) (hge : W.heap.size ≤ b) (hno : ¬ mOwn M s' b) : MStep W M s w6 s' N' := by
 have hc := k.at_
 refine ⟨⟨hc.c.other f hb ht (fun e => hno (.inl e)), (f.block _ (heap_lt hc.m) (fun e => hno (.inr (.inl (by have e : M.mp = b := e; omega))))).trans hc.m, (f.block _ (heap_lt hc.l) (fun e => hno (.inr (.inr (by have e : M.lb = b := e; omega))))).trans hc.l, hc.len, hc.did, hc.nm, hc.nl⟩, ⟨f.os.trans k.fr.os, f.tape.trans k.fr.tape, f.output.trans k.fr.output, Nat.le_trans k.fr.size f.size, fun j hj hn => ?_⟩, k.own⟩
 exact (f.block j (Nat.lt_of_lt_of_le hj k.fr.size) (fun e => by have e : j = b := e; omega)).trans (k.fr.block j hj hn)
theorem D_Close (h : MachAt W M s N) (hN : N ≤ 300000000) (hcl : s.c.closed = false) (d : Int) (K : Nat) (hK : K < 100000) (B : Nat → Nat) (hB : B 0 = N + 1) (hBK : B K ≤ 290000000) (R : Nat → MS → Prop) (hR0 : ∀ S', S'.cm M.c = (s.c.cm M.c).shut → R 0 { s with c := S' })
 (HQ : ∀ j V sj, j ≤ K → MachAt V M sj (B j) → R j sj → sj.c.closed = true ∧ sj.ws.length ≤ 64 ∧ ((sj.c.cm M.c).drained && wkIdle sj) = decide (j = K))
 (HR : ∀ j V sj, j < K → MachAt V M sj (B j) → R j sj → Calls Tryz.prog 39 #[.pointer (some ⟨M.mp, 0, none⟩), .int .u64 d] V fun e V' => ∃ v s', e = .returned v ∧ MStep V M sj V' s' (B (j + 1)) ∧ R (j + 1) s')
 (HF : ∀ V sj, MachAt V M sj (B K) → R K sj → (sj.c.q.q M.c.q.k).Ok ∧ ∀ x ∈ sj.c.t.rows, ovr x.1) : Calls Tryz.prog 15 #[.pointer (some ⟨M.mp, 0, none⟩), .int .u64 d] W fun e w' => ∃ sK s' a cap, e = .returned (.tuple #[.agg #[.int .i64 (cntP sK.c.t.rows sK.c.t.rows.length 4), .int .i64 (cntP sK.c.t.rows sK.c.t.rows.length 5), .int .i64 (cntP sK.c.t.rows sK.c.t.rows.length 6), .slice a 0 cap, .int .i64 K], .bool true]) ∧ R K sK ∧ MStep W M s w' s' (B K + 1260) ∧ s'.mm M = sK.mm M := by
 obtain ⟨W1, hW1⟩ : ∃ W1, W.alloc (.cells #[.int .i64 0, .int .i64 0, .int .i64 0, .slice none 0 0, .int .i64 0] 35) = W1 := ⟨_, rfl⟩
 have hb1 : Below W.heap.size W W1 := by rw [← hW1]; exact below_al (Below.refl _ _) _
 have x1 : W1.heap[W.heap.size]? = some (.cells #[.int .i64 0, .int .i64 0, .int .i64 0, .slice none 0 0, .int .i64 0] 35 (0, 0)) := by rw [← hW1]; exact heap_alloc_new W _
 have h1 := h.below hb1
 have n1 : ¬ mOwn M s W.heap.size := fun e => by have := mOwn_lt h e; omega
 have HC := Lib.hid (M_Core h1)
 have HS := Lib.hid (C_Shutdown h1.c (by omega) hcl)
 have H := Lib.hid (And.intro h (And.intro hb1 (And.intro h1 (And.intro x1 n1))))
 have HW1 := Lib.hid hW1
 have HHQ := Lib.hid HQ
 have HHR := Lib.hid HR
 have HHF := Lib.hid HF
 have HR0 := Lib.hid hR0
 have HB := Lib.hid (And.intro hB hBK)
 clear h hb1 x1 h1 n1 hW1 HQ HR HF hR0 hcl hB hBK
 go_enter Tryz.func15, Tryz.ntmps15
 go_upto_region 1 with fail
 rw [HW1.out]
 go_wp2_with fail
 refine HC.out.mono ?_
 rintro e w1 ⟨rfl, rfl⟩
 go_wp2_with fail
 refine HS.out.mono ?_
 rintro e w2 ⟨⟨a, cap, rfl⟩, S2, k2, hm2⟩
 obtain ⟨W3, hW3⟩ : ∃ W3, w2.alloc (.cells #[.int .i64 0, .int .i64 0, .int .i64 0, .slice a 0 cap, .int .i64 0] 35) = W3 := ⟨_, rfl⟩
 have hHC : ClsAt W M s B R W.heap.size w2.heap.size a cap 0 { s with c := S2 } W3 := by
  obtain ⟨h, hb1, h1, x1, n1⟩ := H.out
  have st2 := (MStep.below h hb1).trans (MStep.core h1 k2)
  obtain ⟨x2, n2⟩ := (MStep.core h1 k2).kept n1 x1
  have hb3 : Below w2.heap.size w2 W3 := by rw [← hW3]; exact below_al (Below.refl _ _) _
  have hl := heap_lt x2
  have hsz : W.heap.size ≤ w2.heap.size := st2.fr.size
  refine ⟨?_, HR0.out S2 hm2, (hb3.block _ hl).trans x2, by rw [← hW3]; exact heap_alloc_new w2 _, n2, fun e => ?_, Nat.le_refl _, hsz, by omega⟩
  · rw [HB.out.1]
    exact st2.trans (MStep.below st2.at_ hb3)
  · have := mOwn_lt st2.at_ e
    omega
 have hl4 : W.heap.size ≠ w2.heap.size := hHC.ne.2.2
 have HC0 := Lib.hid hHC
 have HW3 := Lib.hid hW3
 obtain ⟨b4, hb4⟩ : ∃ b, W.heap.size = b := ⟨_, rfl⟩
 obtain ⟨b7, hb7⟩ : ∃ b, w2.heap.size = b := ⟨_, rfl⟩
 clear hHC k2 hm2 hW3
 go_upto_region 3 with fail
 rw [HW3.out]
 rw [hb4, hb7] at HC0 hl4
 have HB47 := Lib.hid (And.intro hb4 hb7)
 clear hb4 hb7
 go_loopg [] K (fun gg wr => ∃ (j : Nat) (sj : MS), j ≤ K ∧ gg = K - j ∧ Aside (ClsAt W M s B R b4 b7 a cap j sj wr))
 case atStart => exact ⟨0, _, Nat.zero_le _, by omega, HC0.out⟩
 case round =>
  obtain ⟨j, sj, hj, rfl, hR⟩ := hrel
  obtain ⟨hclo, hlen, hfl⟩ := HHQ.out j wr sj hj hR.out.st.at_ hR.out.r
  have HD := Lib.hid (C_Drained hR.out.st.at_.c hclo)
  have HR := Lib.hid hR.out
  have HL := Lib.hid hlen
  have hjm : (((j : Int)) == 100000) = false := by rw [beq_eq_false_iff_ne]; omega
  have hx := Lib.hid (fun (w : World) (hb : Below wr.heap.size wr w) => (show _ from And.intro hb (And.intro ((hb.block _ (heap_lt HR.out.x4)).trans HR.out.x4) ((hb.block _ (heap_lt HR.out.x7)).trans HR.out.x7))))
  clear hR hclo hlen
  by_cases hlt : j < K
  ·
   rw [decide_eq_false (show ¬ j = K by omega)] at hfl
   cases hdr : (sj.c.cm M.c).drained with
   | false =>
    rw [hdr] at HD
    clear hfl hdr
    go_wp2_with fail
    refine HD.out.mono ?_
    rintro e w1 ⟨rfl, hb⟩
    have HX := Lib.hid (hx.out w1 hb)
    clear hb
    obtain ⟨hx4, hx7⟩ := HX.out.2
    obtain ⟨q0, q1, q2, q3, q4, qz⟩ := cells5 hx7
    have hat := HR.out.st.at_.below HX.out.1
    have HRD := Lib.hid (HHR.out j w1 sj hlt hat HR.out.r)
    clear hx4 hx7 hat
    go_wp2_with fail
    refine HRD.out.mono ?_
    rintro e w5 ⟨v5, s5, rfl, k5, r5⟩
    obtain ⟨y4, m4⟩ := k5.kept HR.out.n4 HX.out.2.1
    obtain ⟨y7, m7⟩ := k5.kept HR.out.n7 HX.out.2.2
    obtain ⟨p0, p1, p2, p3, p4, pz⟩ := cells5 y7
    have hwr : IntKind.i64.wrap ((j : Int) + 1) = (j : Int) + 1 := wrap_small (by omega) (by omega)
    have f5 : Fr (fun k => k = b7) w5 (w5.setCell ⟨b7, 4, none⟩ (.int .i64 ((j : Int) + 1))) := Fr.set (S := fun k => k = b7) (Fr.refl _ _) (p := ⟨b7, 4, none⟩) rfl _
    have st5 := (HR.out.st.trans (MStep.below HR.out.st.at_ HX.out.1)).trans k5
    have HN := Lib.hid (show ClsAt W M s B R b4 b7 a cap (j + 1) s5 (w5.setCell ⟨b7, 4, none⟩ (.int .i64 ((j : Int) + 1))) from ⟨st5.box f5 y7 (by decide) HR.out.ne.2.1 m7, r5, (f5.block _ (heap_lt y4) HR.out.ne.2.2).trans y4, by rw [heap_set y7]; rfl, m4, m7, HR.out.ne⟩)
    clear y4 m4 y7 m7 f5 st5 k5 r5 q0 q1 q2 q3 q4 qz
    go_wp2_with fail
    go_roundg (K - (j + 1))
    case measure => omega
    case rel => exact ⟨j + 1, s5, by omega, rfl, (show Aside _ from HN.out)⟩
   | true =>
    rw [hdr, Bool.true_and] at hfl
    rw [hdr] at HD
    clear hdr
    go_wp2_with fail
    refine HD.out.mono ?_
    rintro e w1 ⟨rfl, hb⟩
    have HI := Lib.hid (M_Idle (HR.out.st.at_.below hb) HL.out)
    rw [hfl] at HI
    have HB1 := Lib.hid hb
    clear hb hfl
    go_wp2_with fail
    refine HI.out.mono ?_
    rintro e w2 ⟨rfl, hb⟩
    have HX := Lib.hid (hx.out w2 (below_step hb HB1.out))
    clear hb
    obtain ⟨hx4, hx7⟩ := HX.out.2
    obtain ⟨q0, q1, q2, q3, q4, qz⟩ := cells5 hx7
    have hat := HR.out.st.at_.below HX.out.1
    have HRD := Lib.hid (HHR.out j w2 sj hlt hat HR.out.r)
    clear hx4 hx7 hat
    go_wp2_with fail
    refine HRD.out.mono ?_
    rintro e w5 ⟨v5, s5, rfl, k5, r5⟩
    obtain ⟨y4, m4⟩ := k5.kept HR.out.n4 HX.out.2.1
    obtain ⟨y7, m7⟩ := k5.kept HR.out.n7 HX.out.2.2
    obtain ⟨p0, p1, p2, p3, p4, pz⟩ := cells5 y7
    have hwr : IntKind.i64.wrap ((j : Int) + 1) = (j : Int) + 1 := wrap_small (by omega) (by omega)
    have f5 : Fr (fun k => k = b7) w5 (w5.setCell ⟨b7, 4, none⟩ (.int .i64 ((j : Int) + 1))) := Fr.set (S := fun k => k = b7) (Fr.refl _ _) (p := ⟨b7, 4, none⟩) rfl _
    have st5 := (HR.out.st.trans (MStep.below HR.out.st.at_ HX.out.1)).trans k5
    have HN := Lib.hid (show ClsAt W M s B R b4 b7 a cap (j + 1) s5 (w5.setCell ⟨b7, 4, none⟩ (.int .i64 ((j : Int) + 1))) from ⟨st5.box f5 y7 (by decide) HR.out.ne.2.1 m7, r5, (f5.block _ (heap_lt y4) HR.out.ne.2.2).trans y4, by rw [heap_set y7]; rfl, m4, m7, HR.out.ne⟩)
    clear y4 m4 y7 m7 f5 st5 k5 r5 q0 q1 q2 q3 q4 qz
    go_wp2_with fail
    go_roundg (K - (j + 1))
    case measure => omega
    case rel => exact ⟨j + 1, s5, by omega, rfl, (show Aside _ from HN.out)⟩
  ·
   obtain rfl : j = K := by omega
   rw [decide_eq_true rfl, Bool.and_eq_true] at hfl
   obtain ⟨hdr, hid⟩ := hfl
   rw [hdr] at HD
   clear hdr hlt
   go_wp2_with fail
   refine HD.out.mono ?_
   rintro e w1 ⟨rfl, hb⟩
   have HI := Lib.hid (M_Idle (HR.out.st.at_.below hb) HL.out)
   rw [hid] at HI
   have HB1 := Lib.hid hb
   clear hb hid
   go_wp2_with fail
   refine HI.out.mono ?_
   rintro e w2 ⟨rfl, hb⟩
   have HX := Lib.hid (hx.out w2 (below_step hb HB1.out))
   clear hb
   obtain ⟨hx4, hx7⟩ := HX.out.2
   have hat := HR.out.st.at_.below HX.out.1
   obtain ⟨hok, h4⟩ := HHF.out _ _ HR.out.st.at_ HR.out.r
   have HSO := Lib.hid (D_sorted hat.c (by have := HB.out.2; omega) hok h4)
   have HAT := Lib.hid hat
   clear hx4 hx7 hat hok h4
   go_wp2_with fail
   refine HSO.out.mono ?_
   rintro e w5 ⟨mb, v, S5, rfl, k5, hm5, hmap, hsl, hzz⟩
   have k6 := MStep.core HAT.out k5
   obtain ⟨y4, m4⟩ := k6.kept HR.out.n4 HX.out.2.1
   obtain ⟨y7, m7⟩ := k6.kept HR.out.n7 HX.out.2.2
   have hln : sj.c.t.rows.length ≤ 200 := HAT.out.c.t.len.2
   have hat_ : ∀ s, (clF (cntP sj.c.t.rows sj.c.t.rows.length) v s 1).getD (.slice none 0 0) = v s := fun s => clF_at (hzz s)
   have hle : ∀ s, cntP sj.c.t.rows sj.c.t.rows.length s ≤ 200 := fun s => Nat.le_trans (cntP_le _ _ s) hln
   obtain ⟨f, hf⟩ : ∃ f, cntP sj.c.t.rows sj.c.t.rows.length = f := ⟨_, rfl⟩
   rw [hf] at hmap hsl hat_ hle
   obtain ⟨n, hn⟩ : ∃ n, f 4 = n := ⟨_, rfl⟩
   obtain ⟨n5, hn5⟩ : ∃ n, f 5 = n := ⟨_, rfl⟩
   obtain ⟨n6, hn6⟩ : ∃ n, f 6 = n := ⟨_, rfl⟩
   have hnl := hle 4
   have hnl5 := hle 5
   have hnl6 := hle 6
   obtain ⟨a4, c4, hv4⟩ := hsl 4
   obtain ⟨a5, c5, hv5⟩ := hsl 5
   obtain ⟨a6, c6, hv6⟩ := hsl 6
   rw [hn] at hv4 hnl
   rw [hn5] at hv5 hnl5
   rw [hn6] at hv6 hnl6
   have hlk : ∀ w, w.heap[mb]? = w5.heap[mb]? → (Instr.lookup 108 (.map (some mb)) (.agg #[.int .i64 4, .int .i64 1]) false).run Tryz.prog w = .ok (.slice a4 n c4) w ∧ (Instr.lookup 108 (.map (some mb)) (.agg #[.int .i64 5, .int .i64 1]) false).run Tryz.prog w = .ok (.slice a5 n5 c5) w ∧ (Instr.lookup 108 (.map (some mb)) (.agg #[.int .i64 6, .int .i64 1]) false).run Tryz.prog w = .ok (.slice a6 n6 c6) w := by
    intro w hw
    have hm : PMap w mb (clF f v) := by
     obtain ⟨es, ck, h1, h2⟩ := hmap
     exact ⟨es, ck, by rw [hw]; exact h1, h2⟩
    have l4 := hm.lookup keyedClassD key_classD Tryz.underlying108 (.slice none 0 0) (by kernel_rfl) 4 1 (by unfold In64; decide) (by unfold In64; decide)
    have l5 := hm.lookup keyedClassD key_classD Tryz.underlying108 (.slice none 0 0) (by kernel_rfl) 5 1 (by unfold In64; decide) (by unfold In64; decide)
    have l6 := hm.lookup keyedClassD key_classD Tryz.underlying108 (.slice none 0 0) (by kernel_rfl) 6 1 (by unfold In64; decide) (by unfold In64; decide)
    rw [hat_ 4, hv4] at l4
    rw [hat_ 5, hv5] at l5
    rw [hat_ 6, hv6] at l6
    exact ⟨l4, l5, l6⟩
   have hmb : ¬ mb = b7 := fun e => by
    obtain ⟨es, ck, h1, h2⟩ := hmap
    rw [e, y7] at h1
    cases h1
   have f1 : Fr (fun k => k = b7) w5 (w5.setCell ⟨b7, 0, none⟩ (.int .i64 n)) := Fr.set (S := fun k => k = b7) (Fr.refl _ _) (p := ⟨b7, 0, none⟩) rfl _
   have f2 : Fr (fun k => k = b7) w5 ((w5.setCell ⟨b7, 0, none⟩ (.int .i64 n)).setCell ⟨b7, 1, none⟩ (.int .i64 n5)) := Fr.set (S := fun k => k = b7) f1 (p := ⟨b7, 1, none⟩) rfl _
   have hml : mb < w5.heap.size := by obtain ⟨es, ck, h1, -⟩ := hmap; exact heap_lt h1
   obtain ⟨l4, l5, l6⟩ := hlk w5 rfl
   obtain ⟨l4', l5', l6'⟩ := hlk w5.drew rfl
   obtain ⟨m4a, m5a, m6a⟩ := hlk (w5.setCell ⟨b7, 0, none⟩ (.int .i64 n)) (f1.block mb hml hmb)
   obtain ⟨m4b, m5b, m6b⟩ := hlk (w5.setCell ⟨b7, 0, none⟩ (.int .i64 n)).drew (f1.block mb hml hmb)
   obtain ⟨m4c, m5c, m6c⟩ := hlk ((w5.setCell ⟨b7, 0, none⟩ (.int .i64 n)).setCell ⟨b7, 1, none⟩ (.int .i64 n5)) (f2.block mb hml hmb)
   obtain ⟨m4d, m5d, m6d⟩ := hlk ((w5.setCell ⟨b7, 0, none⟩ (.int .i64 n)).setCell ⟨b7, 1, none⟩ (.int .i64 n5)).drew (f2.block mb hml hmb)
   clear f1 f2 hml hmb hat_ hle hzz hsl hv4 hv5 hv6
   have HY := Lib.hid (And.intro k6 (And.intro y4 (And.intro m4 (And.intro y7 (And.intro m7 (And.intro hm5 (And.intro hf (And.intro hn (And.intro hn5 hn6)))))))))
   clear hlk hmap k6 y4 m4 y7 m7 hm5 k5 hn hn5 hn6 hf
   go_upto_region 9 with fail
   go_cut [] (fun w => w.heap[b7]? = some (.cells #[.int .i64 n, .int .i64 n5, .int .i64 n6, .slice a 0 cap, .int .i64 j] 35 (0, 0)) ∧ w.heap[b4]? = some (.cells #[.int .i64 0, .int .i64 0, .int .i64 0, .slice none 0 0, .int .i64 0] 35 (0, 0)) ∧ MStep W M s w { sj with c := S5 } (B j + 1260))
   case first =>
    have y7 : w5.drew.heap[b7]? = some (.cells #[.int .i64 0, .int .i64 0, .int .i64 0, .slice a 0 cap, .int .i64 j] 35 (0, 0)) := HY.out.2.2.2.1
    have y4 : w5.drew.heap[b4]? = some (.cells #[.int .i64 0, .int .i64 0, .int .i64 0, .slice none 0 0, .int .i64 0] 35 (0, 0)) := HY.out.2.1
    obtain ⟨q0, q1, q2, q3, q4, qz⟩ := cells5 y7
    obtain ⟨-, -, -, -, -, qz'⟩ := cells5 (w := w5) HY.out.2.2.2.1
    have f5 : Fr (fun k => k = b7) w5.drew (((w5.drew.setCell ⟨b7, 0, none⟩ (.int .i64 n)).setCell ⟨b7, 1, none⟩ (.int .i64 n5)).setCell ⟨b7, 2, none⟩ (.int .i64 n6)) := Fr.set (S := fun k => k = b7) (Fr.set (S := fun k => k = b7) (Fr.set (S := fun k => k = b7) (Fr.refl _ _) (p := ⟨b7, 0, none⟩) rfl _) (p := ⟨b7, 1, none⟩) rfl _) (p := ⟨b7, 2, none⟩) rfl _
    have u1 : (w5.setCell ⟨b7, 0, none⟩ (.int .i64 n)).drew.heap[b7]? = _ := heap_set (o := 0) y7 (.int .i64 n)
    have u2 : ((w5.setCell ⟨b7, 0, none⟩ (.int .i64 n)).setCell ⟨b7, 1, none⟩ (.int .i64 n5)).drew.heap[b7]? = _ := heap_set (o := 1) (heap_set (o := 0) y7 (.int .i64 n)) (.int .i64 n5)
    have uz1 : (w5.setCell ⟨b7, 0, none⟩ (.int .i64 n)).drew.frozen? ⟨b7, 1, none⟩ = false := frozen_of u1
    have uz2 : ((w5.setCell ⟨b7, 0, none⟩ (.int .i64 n)).setCell ⟨b7, 1, none⟩ (.int .i64 n5)).drew.frozen? ⟨b7, 2, none⟩ = false := frozen_of u2
    have v1 : (w5.setCell ⟨b7, 0, none⟩ (.int .i64 n)).drew.cell? ⟨b7, 1, none⟩ = some (.int .i64 0) := by rw [cell_of_heap u1]; rfl
    have v2 : ((w5.setCell ⟨b7, 0, none⟩ (.int .i64 n)).setCell ⟨b7, 1, none⟩ (.int .i64 n5)).drew.cell? ⟨b7, 2, none⟩ = some (.int .i64 0) := by rw [cell_of_heap u2]; rfl
    clear u1 u2
    have z7 := heap_set (o := 2) (heap_set (o := 1) (heap_set (o := 0) y7 (.int .i64 n)) (.int .i64 n5)) (.int .i64 n6)
    have z4 := (f5.block _ (heap_lt y4) (fun e => HR.out.ne.2.2 e)).trans y4
    have k6 : MStep W M s w5 { sj with c := S5 } (B j + 1260) := (HR.out.st.trans (MStep.below HR.out.st.at_ HX.out.1)).trans HY.out.1
    have k7 := (k6.trans (MStep.below k6.at_ (below_dr (Below.refl _ _)))).box f5 y7 (by decide) HR.out.ne.2.1 HY.out.2.2.2.2.1
    have HE := Lib.hid (And.intro z7 (And.intro z4 k7))
    clear y7 y4 f5 z7 z4 k6 k7
    go_region
    all_goals
     go_wp2_with fail
     go_meet
     exact ⟨HE.out.1, HE.out.2.1, HE.out.2.2⟩
   case rest =>
    obtain ⟨h7, h4, k7⟩ := hcut
    have h74 : ¬ b7 = b4 := fun e => HR.out.ne.2.2 e.symm
    have h47 : ¬ b4 = b7 := HR.out.ne.2.2
    obtain ⟨q0, q1, q2, q3, q4, qz⟩ := cells5 h7
    obtain ⟨p0, p1, p2, p3, p4, pz⟩ := cells5 h4
    have k8 := k7.box (set5_fr _ b4 (.int .i64 n) (.int .i64 n5) (.int .i64 n6) (.slice a 0 cap) (.int .i64 j)) h4 (by decide) HR.out.ne.1 HY.out.2.2.1
    have HS4 := Lib.hid (set5_heap h4 (.int .i64 n) (.int .i64 n5) (.int .i64 n6) (.slice a 0 cap) (.int .i64 j))
    have HK8 := Lib.hid k8
    clear h7 h4 k7 k8 l4 l5 l6 l4' l5' l6' m4a m4b m4c m4d m5a m5b m5c m5d m6a m6b m6c m6d
    go_wp2_with fail
    obtain ⟨e0, e1, e2, e3, e4, -⟩ := cells5 HS4.out
    refine bodyPost_ret (v := .tuple #[.agg #[.int .i64 n, .int .i64 n5, .int .i64 n6, .slice a 0 cap, .int .i64 j], .bool true]) (by simp [results, Tryz.results15, go_sem, e0, e1, e2, e3, e4]) rfl ?_
    refine ⟨sj, _, a, cap, by rw [HY.out.2.2.2.2.2.2.1, HY.out.2.2.2.2.2.2.2.1, HY.out.2.2.2.2.2.2.2.2.1, HY.out.2.2.2.2.2.2.2.2.2], HR.out.r, HK8.out, ?_⟩
    unfold MS.mm
    dsimp only
    rw [HY.out.2.2.2.2.2.1]
end
section
variable {W : World}
theorem V_made (a b c : Int) (T k C : Nat) (h1 : 1 ≤ T) (h8 : T ≤ 8) (hk : k ≤ 16) (c1 : 1 ≤ C) (c64 : C ≤ 64) (hV : ∀ W, Calls Tryz.prog 33 #[.int .i64 a, .int .i64 b, .int .i64 c] W fun e w' => e = .returned (.agg #[.int .i64 T, .int .i64 k, .int .i64 C]) ∧ Below W.heap.size W w') : Calls Tryz.prog 10 #[.int .i64 a, .int .i64 b, .int .i64 c] W fun e w' => ∃ M s, e = .returned (.pointer (some ⟨M.mp, 0, none⟩)) ∧ MachAt w' M s 0 ∧ s.c.cm M.c = CM.new T k ∧ s.ws = List.replicate T wk0 ∧ s.did = [0, 0, 0, 0, 0, 0, 0] ∧ s.pk = 0 ∧ M.c.q.lp.length = T ∧ M.c.q.k = k ∧ M.c.C = C ∧ (∀ j, mOwn M s j → W.heap.size ≤ j) ∧ Below W.heap.size W w' := by
 have HV := Lib.hid (hV W)
 have HN := Lib.hid (fun w => M_New T k C h1 h8 hk c1 c64 w)
 clear hV h1 h8 hk c1 c64
 go_enter Tryz.func10, Tryz.ntmps10
 go_wp2_with fail
 refine HV.out.mono ?_
 rintro e w1 ⟨rfl, hb1⟩
 have HB1 := Lib.hid hb1
 clear hb1
 go_wp2_with fail
 refine (HN.out w1).mono ?_
 rintro e w2 ⟨M, s, rfl, hm, hcm, hws, hdid, hpk, hl, hk', hC, hown, hb⟩
 have HC := Lib.hid (M_Core hm)
 have H2 := Lib.hid (And.intro hm (And.intro hcm (And.intro hws (And.intro hdid (And.intro hpk (And.intro hl (And.intro hk' (And.intro hC (And.intro hown hb)))))))))
 clear hm hcm hws hdid hpk hl hk' hC hown hb
 go_wp2_with fail
 refine HC.out.mono ?_
 rintro e w3 ⟨rfl, rfl⟩
 go_wp2_with fail
 refine bodyPost_ret (v := .pointer (some ⟨M.mp, 0, none⟩)) (by simp [results, Tryz.results10, go_sem]) rfl ?_
 obtain ⟨hm, hcm, hws, hdid, hpk, hl, hk', hC, hown, hb⟩ := H2.out
 exact ⟨M, s, rfl, hm, hcm, hws, hdid, hpk, hl, hk', hC, fun j hj => Nat.le_trans HB1.out.size (hown j hj), below_step hb HB1.out⟩
end
def clmE (l : List Ev) : List En := (l.filter fun e => e.kind == 3).map fun e => ⟨e.key, e.id⟩
theorem clmE_snoc (l : List Ev) (e : Ev) : clmE (l ++ [e]) = clmE l ++ (if e.kind = 3 then [⟨e.key, e.id⟩] else []) := by
 unfold clmE
 rw [List.filter_append, List.map_append]
 congr 1
 by_cases h : e.kind = 3
 · simp [h]
 · simp [h]
theorem clmE_take {l : List Ev} {i : Nat} {e : Ev} (h : l[i]? = some e) : clmE (l.take (i + 1)) = clmE (l.take i) ++ (if e.kind = 3 then [⟨e.key, e.id⟩] else []) := by
 rw [List.take_add_one, h]
 exact clmE_snoc _ _
theorem clmE_le (l : List Ev) : (clmE l).length ≤ l.length := by
 unfold clmE
 rw [List.length_map]
 exact List.length_filter_le _ _
theorem flatEv_one (l : List Ev) : ∀ u ∈ flatEv l, u.oneCell' = true := by
 intro u hu
 unfold flatEv at hu
 obtain ⟨e, -, he⟩ := List.mem_flatMap.1 hu
 exact evC_one e u he
theorem flatEv_at (l : List Ev) (i j : Nat) (e : Ev) (h : l[i]? = some e) (hj : j < 6) : (flatEv l)[i * 6 + j]? = (evC e)[j]? := by
 induction l generalizing i with
 | nil => simp at h
 | cons x l ih =>
  have hc : flatEv (x :: l) = evC x ++ flatEv l := by simp [flatEv]
  rw [hc]
  cases i with
  | zero =>
   have h : x = e := by simpa using h
   subst h
   rw [List.getElem?_append_left (by show 0 * 6 + j < 6; omega)]
   congr 1
   omega
  | succ i =>
   rw [List.getElem?_append_right (by show 6 ≤ _; omega)]
   rw [← ih i (by simpa using h)]
   congr 1
   show (i + 1) * 6 + j - 6 = _
   omega
section
variable {W W' : World} {A : CA} {S S' : CS} {N N' : Nat}
theorem C_Events (h : CoreAt W A S N) (hN : S.evs.length ≤ 100000) : Calls Tryz.prog 26 #[.pointer (some ⟨A.cb, 0, none⟩)] W fun e w' => ∃ v, e = .returned v ∧ SlV w' 71 6 v S.evs.length (flatEv S.evs) ∧ Below W.heap.size W w' := by
 have HC := Lib.hid (CloneEv hN (SlV.of_owns h.ev) (flatEv_one S.evs))
 obtain ⟨-, -, -, -, -, -, -, -, -, -, -, c11⟩ := h.cells
 clear h
 go_enter Tryz.func26, Tryz.ntmps26
 go_wp2_with fail
 refine HC.out.mono ?_
 rintro e w1 ⟨v1, rfl, ho1, hb1⟩
 have HP := Lib.hid (ClipEv (SlV.of_owns ho1))
 have HB := Lib.hid hb1
 clear ho1 hb1
 go_wp2_with fail
 refine HP.out.mono ?_
 rintro e w2 ⟨v2, rfl, hv2, -, rfl⟩
 have HE := Lib.hid hv2
 clear hv2
 go_wp2_with fail
 go_ret
 exact ⟨v2, rfl, HE.out, HB.out⟩
theorem V_Claims {v : Value} {l : List Ev} (hl : l.length ≤ 100000) (h : SlV W 71 6 v l.length (flatEv l)) : Calls Tryz.prog 25 #[v] W fun e w' => ∃ v', e = .returned v' ∧ w'.ownsRow W.heap.size 63 2 v' (clmE l).length (flatE (clmE l)) ∧ Below W.heap.size W w' := by
 have hcell : ∃ a cap, v = .slice a l.length cap ∧ (0 < l.length → ∃ b off, a = some ⟨b, off, none⟩ ∧ ∀ i e, l[i]? = some e → ∀ j, j < 6 → W.cell? ⟨b, off + (i * 6 + j), none⟩ = (evC e)[j]?) := by
  rcases SlV.form h with ⟨rfl, h0, -⟩ | ⟨b, off, cap, rfl, h1, h2, h3, h4⟩
  · exact ⟨none, 0, by rw [h0], fun hp => by omega⟩
  ·
   refine ⟨_, _, rfl, fun _ => ⟨b, off, rfl, fun i e he j hj => ?_⟩⟩
   have hj6 : j < (evC e).length := hj
   have := flatEv_at l i j e he hj
   rw [List.getElem?_eq_getElem hj6] at this ⊢
   exact h4 _ _ this
 obtain ⟨a, cap, rfl, hc⟩ := hcell
 obtain ⟨n, hn⟩ : ∃ n, l.length = n := ⟨_, rfl⟩
 rw [hn] at hc hl ⊢
 have HN := Lib.hid hn
 have HC := Lib.hid hc
 obtain ⟨i0, hi0, hz0, hz1, hz2⟩ := info_parts infoEn
 clear h hc hn
 go_enter Tryz.func25, Tryz.ntmps25
 go_wp2_with fail
 go_loopg [3, 4] n (fun gg s3 s4 wr => ∃ i : Nat, i ≤ n ∧ gg = n - i ∧ s4 = .int .i64 i ∧ Aside (wr.ownsRow W.heap.size 63 2 s3 (clmE (l.take i)).length (flatE (clmE (l.take i))) ∧ Below W.heap.size W wr))
 case atStart => exact ⟨0, Nat.zero_le _, by omega, rfl, World.ownsRow_nil _ _ _ _, Below.refl _ _⟩
 case round =>
  obtain ⟨i, hi, rfl, rfl, hR⟩ := hrel
  by_cases hlt : i < n
  ·
   have hltz : (i : Int) < (n : Int) := by omega
   obtain ⟨b, off, rfl, hce⟩ := HC.out (by omega)
   obtain ⟨e, he⟩ : ∃ e, l[i]? = some e := ⟨_, List.getElem?_eq_getElem (by rw [HN.out]; exact hlt)⟩
   have hct := clmE_take he
   have HCB := Lib.hid (show W.cell? ⟨b, off + (i * 6 + 0), none⟩ = some (.int .i64 e.kind) from hce i e he 0 (by omega))
   have c0 : wr.cell? ⟨b, off + i * 6, none⟩ = some (.int .i64 e.kind) := cell_goes hR.out.2 (hce i e he 0 (by omega))
   have c2 : wr.cell? ⟨b, off + i * 6 + 2, none⟩ = some (.int .i64 e.id) := cell_goes hR.out.2 (hce i e he 2 (by omega))
   have c3 : wr.cell? ⟨b, off + i * 6 + 3, none⟩ = some (.int .u64 e.key) := cell_goes hR.out.2 (hce i e he 3 (by omega))
   have hml : (clmE (l.take i)).length ≤ 100000 := Nat.le_trans (clmE_le _) (by rw [List.length_take]; omega)
   obtain ⟨m, hm⟩ : ∃ m, (clmE (l.take i)).length = m := ⟨_, rfl⟩
   rw [hm] at hml
   obtain ⟨kd, key, id, hek, hey, hei⟩ : ∃ kd key id, e.kind = kd ∧ e.key = key ∧ e.id = id := ⟨_, _, _, rfl, rfl, rfl⟩
   rw [hek, hey, hei] at hct
   rw [hek] at c0
   rw [hei] at c2
   rw [hey] at c3
   have hR' := hR.out
   rw [hm] at hR'
   obtain ⟨a3, k3, rfl, -⟩ := SlV.clip (SlV.of_owns hR'.1)
   have HR := Lib.hid hR'
   have HT := Lib.hid (And.intro hct hm)
   clear hR hR' hct he hce hek hey hei hm
   by_cases h3 : kd = 3
   ·
    subst h3
    rw [if_pos rfl] at HT
    obtain ⟨W1, hW1⟩ : ∃ W1, (wr.alloc (.cells #[.int .u64 key, .int .i64 id] 63)).drew = W1 := ⟨_, rfl⟩
    have hb1 : Below wr.heap.size wr W1 := by rw [← hW1]; exact below_dr (below_al (Below.refl _ _) _)
    have hO1 : W1.ownsRow W.heap.size 63 2 (.slice a3 m k3) m (flatE (clmE (l.take i))) := by
     rw [← hW1]
     exact (HR.out.1.alloc _).drew
    have x1 : W1.heap[wr.heap.size]? = some (.cells #[.int .u64 key, .int .i64 id] 63 (0, 0)) := by rw [← hW1]; exact heap_alloc_new wr _
    have HNEWS := Lib.hid (show ∀ j u, [Value.int .u64 key, .int .i64 id][j]? = some u → W1.cell? ((⟨wr.heap.size, 0, none⟩ : Addr).add j) = some u from fun j u hu => by
     rcases j with _ | _ | j
     · show W1.cell? ⟨wr.heap.size, 0 + 0, none⟩ = _
       rw [cell_of_heap x1, ← hu]
       rfl
     · show W1.cell? ⟨wr.heap.size, 0 + 1, none⟩ = _
       rw [cell_of_heap x1, ← hu]
       rfl
     · simp at hu)
    have HOWN := Lib.hid hO1
    have HGE := Lib.hid (show W.heap.size ≤ W1.heap.size from Nat.le_trans HR.out.2.size hb1.size)
    have HB1 := Lib.hid (And.intro hb1 hW1)
    have HKP := Lib.hid (show ∀ w6, W1.grownBy w6 (Value.slice a3 m k3).ownBlock → w6.cell? ⟨b, off + i * 6 + 3, none⟩ = some (.int .u64 key) ∧ w6.cell? ⟨b, off + i * 6 + 2, none⟩ = some (.int .i64 id) from fun w6 hg => by
     have hlt := World.block_lt_of_cell? W _ HCB.out
     have hlt : b < W.heap.size := hlt
     have hne : some b ≠ (Value.slice a3 m k3).ownBlock := fun e => by have := (hO1.lt b e.symm).1; omega
     have hl1 : b < W1.heap.size := by have := HR.out.2.size; have := hb1.size; omega
     exact ⟨(hg.cell_far ⟨b, off + i * 6 + 3, none⟩ hl1 hne).trans (cell_goes hb1 c3), (hg.cell_far ⟨b, off + i * 6 + 2, none⟩ hl1 hne).trans (cell_goes hb1 c2)⟩)
    have HFIN := Lib.hid (show ∀ v' w6, w6.ownsRow W.heap.size 63 2 v' (m + 1) (flatE (clmE (l.take i)) ++ [.int .u64 key, .int .i64 id]) → W1.grownBy w6 (Value.slice a3 m k3).ownBlock → w6.ownsRow W.heap.size 63 2 v' (clmE (l.take (i + 1))).length (flatE (clmE (l.take (i + 1)))) ∧ Below W.heap.size W w6 from fun v' w6 hown hg => by
     refine ⟨?_, ?_⟩
     ·
      rw [HT.out.1, List.length_append, HT.out.2]
      have : flatE (clmE (l.take i) ++ [⟨key, id⟩]) = flatE (clmE (l.take i)) ++ [.int .u64 key, .int .i64 id] := by simp [flatE, encE]
      rw [this]
      exact hown
     ·
      have hB : Below W.heap.size W W1 := below_step hb1 HR.out.2
      refine ⟨hg.os.trans hB.os, hg.tape.trans hB.tape, hg.output.trans hB.output, Nat.le_trans hB.size hg.size, fun j hj => ?_⟩
      rw [hg.block j (Nat.lt_of_lt_of_le hj hB.size) (fun e => by have := (hO1.lt j e.symm).1; omega)]
      exact hB.block j hj)
    clear hb1 hO1 x1 hW1
    go_upto_region 6 with fail
    -- REGION 6 BEGIN
    refine wp_region_held_drew (S := fun w => w.cell? ⟨b, off + i * 6 + 3, none⟩ = some (.int .u64 key) ∧ w.cell? ⟨b, off + i * 6 + 2, none⟩ = some (.int .i64 id)) (by kernel_rfl) ⟨c3, c2⟩ (fun hH => ?_)
    refine wpAnyH_take (i := 0) (v := ?_) rfl (by kernel_rfl) (by kernel_rfl) (by kernel_rfl) (fun _ _ _ h => h) (Or.inl ⟨by rfl, ?_⟩) (by assumption) ?_
    rotate_left
    · (intro w h; obtain ⟨_, _⟩ := h; go_simp; try with_reducible rfl)
    (try simp only [Act.put, List.setIfInBounds_toArray, List.set_cons_zero, List.set_cons_succ])
    refine wpAnyH_take (i := 1) (v := ?_) rfl (by kernel_rfl) (by kernel_rfl) (by kernel_rfl) (fun _ _ _ h => h) (Or.inl ⟨by rfl, ?_⟩) (by assumption) ?_
    rotate_left
    · (intro w h; obtain ⟨_, _⟩ := h; go_simp; try with_reducible rfl)
    (try simp only [Act.put, List.setIfInBounds_toArray, List.set_cons_zero, List.set_cons_succ])
    refine wpAnyH_take (i := 2) (v := ?_) rfl (by kernel_rfl) (by kernel_rfl) (by kernel_rfl) (fun _ _ _ h => h) (Or.inl ⟨by rfl, ?_⟩) (by assumption) ?_
    rotate_left
    · (intro w h; obtain ⟨_, _⟩ := h; go_simp; try with_reducible rfl)
    (try simp only [Act.put, List.setIfInBounds_toArray, List.set_cons_zero, List.set_cons_succ])
    refine wpAnyH_take (i := 3) (v := ?_) rfl (by kernel_rfl) (by kernel_rfl) (by kernel_rfl) (fun _ _ _ h => h) (Or.inl ⟨by rfl, ?_⟩) (by assumption) ?_
    rotate_left
    · (intro w h; obtain ⟨_, _⟩ := h; go_simp; try with_reducible rfl)
    (try simp only [Act.put, List.setIfInBounds_toArray, List.set_cons_zero, List.set_cons_succ])
    refine wpAnyH_take (i := 4) (v := ?_) rfl (by kernel_rfl) (by kernel_rfl) (by kernel_rfl) (fun _ _ _ h => h) (Or.inl ⟨by rfl, ?_⟩) (by assumption) ?_
    rotate_left
    · (intro w h; obtain ⟨_, _⟩ := h; go_simp; try with_reducible rfl)
    (try simp only [Act.put, List.setIfInBounds_toArray, List.set_cons_zero, List.set_cons_succ])
    refine wpAnyH_take (i := 5) (v := ?_) rfl (by kernel_rfl) (by kernel_rfl) (by kernel_rfl) (fun _ _ _ h => h) (Or.inl ⟨by rfl, ?_⟩) (by assumption) ?_
    rotate_left
    · (intro w h; obtain ⟨_, _⟩ := h; go_simp; try with_reducible rfl)
    (try simp only [Act.put, List.setIfInBounds_toArray, List.set_cons_zero, List.set_cons_succ])
    refine wpAnyH_take (i := 6) (v := ?_) rfl (by kernel_rfl) (by kernel_rfl) (by kernel_rfl) (fun _ _ _ h => h) (Or.inl ⟨by rfl, ?_⟩) (by assumption) ?_
    rotate_left
    · (intro w h; obtain ⟨_, _⟩ := h; go_simp; try with_reducible rfl)
    (try simp only [Act.put, List.setIfInBounds_toArray, List.set_cons_zero, List.set_cons_succ])
    refine wpAnyH_take (i := 7) (v := ?_) rfl (by kernel_rfl) (by kernel_rfl) (by kernel_rfl) (fun _ _ _ h => h) (Or.inl ⟨by rfl, ?_⟩) (by assumption) ?_
    rotate_left
    · (intro w h; obtain ⟨_, _⟩ := h; go_simp; try with_reducible rfl)
    (try simp only [Act.put, List.setIfInBounds_toArray, List.set_cons_zero, List.set_cons_succ])
    refine wpAnyH_take (i := 8) (v := ?_) rfl (by kernel_rfl) (by kernel_rfl) (by kernel_rfl) (fun _ _ _ h => h) (Or.inl ⟨by rfl, ?_⟩) (by assumption) ?_
    rotate_left
    · (intro w h; obtain ⟨_, _⟩ := h; go_simp; try with_reducible rfl)
    (try simp only [Act.put, List.setIfInBounds_toArray, List.set_cons_zero, List.set_cons_succ])
    refine wpAnyH_take (i := 9) (v := ?_) rfl (by kernel_rfl) (by kernel_rfl) (by kernel_rfl) (fun _ _ _ h => h) (Or.inl ⟨by rfl, ?_⟩) (by assumption) ?_
    rotate_left
    · (intro w h; obtain ⟨_, _⟩ := h; go_simp; try with_reducible rfl)
    (try simp only [Act.put, List.setIfInBounds_toArray, List.set_cons_zero, List.set_cons_succ])
    refine wpAnyH_take (i := 10) (v := ?_) rfl (by kernel_rfl) (by kernel_rfl) (by kernel_rfl) (fun _ _ _ h => h) (Or.inl ⟨by rfl, ?_⟩) (by assumption) ?_
    rotate_left
    · (intro w h; obtain ⟨_, _⟩ := h; go_simp; try with_reducible rfl)
    (try simp only [Act.put, List.setIfInBounds_toArray, List.set_cons_zero, List.set_cons_succ])
    refine wpAnyH_take (i := 11) (v := ?_) rfl (by kernel_rfl) (by kernel_rfl) (by kernel_rfl) (fun _ _ _ h => h) (Or.inl ⟨by rfl, ?_⟩) (by assumption) ?_
    rotate_left
    · (intro w h; obtain ⟨_, _⟩ := h; go_simp; try with_reducible rfl)
    (try simp only [Act.put, List.setIfInBounds_toArray, List.set_cons_zero, List.set_cons_succ])
    refine wpAnyH_ready (rs := [12]) (by kernel_rfl) (by simp) ?_
    refine AllReadyH.cons rfl (fun K hK => ?_) ?_
    ·
     (go_simp)
     refine hK.out _ _ ?_ (fun hH => ?_)
     · (try dsimp only); (exact ⟨cell_goes (by first | exact below_al (below_dr (Below.refl _ _)) _ | exact below_dr (below_al (Below.refl _ _) _)) c3, cell_goes (by first | exact below_al (below_dr (Below.refl _ _)) _ | exact below_dr (below_al (Below.refl _ _) _)) c2⟩)
     clear hK K
     refine wpAnyH_ready (rs := [13]) (by kernel_rfl) (by simp) ?_
     refine AllReadyH.cons rfl (fun K hK => ?_) ?_
     ·
      ((try rw [HB1.out.2]); refine step_append_lies _ rfl (.tmp 17) (.tmp 29) 42 rfl W.heap.size 63 i0 zEn 2 16 Tryz.underlying42 hi0 hz0 hz1 hz2 rfl (by decide) _ m (flatE (clmE (l.take i))) (by simp [Act.eval, Act.put]) HOWN.out ⟨wr.heap.size, 0, none⟩ 1 1 [.int .u64 key, .int .i64 id] (by simp [Act.eval, Act.put]) rfl HNEWS.out (fun u hu => by simp only [List.mem_cons, List.not_mem_nil, or_false] at hu; rcases hu with rfl | rfl <;> rfl) (by decide) (by unfold maxLen; omega) (by omega) HGE.out _ rfl ?_; intro g6 k6 w6 hown6 hg6 hat6 hlt6; have H6 := Lib.hid (And.intro hown6 hg6); clear hown6 hat6 hlt6)
      refine hK.out _ _ ?_ (fun hH => ?_)
      · (try dsimp only); (exact HKP.out _ hg6)
      clear hK K
      refine wpAnyH_ready (rs := [14]) (by kernel_rfl) (by simp) ?_
      refine AllReadyH.cons rfl (fun K hK => ?_) ?_
      ·
       (go_simp)
       refine hK.out _ _ ?_ (fun hH => ?_)
       · (try dsimp only); (exact HKP.out _ H6.out.2)
       clear hK K
       refine wpAnyH_done (by kernel_rfl) ?_ _
       go_wp2_with fail
       have HN2 := Lib.hid (HFIN.out _ _ H6.out.1 H6.out.2)
       go_roundg (n - (i + 1))
       case measure => omega
       case rel => exact ⟨i + 1, by omega, rfl, by go_num, (show Aside _ from HN2.out)⟩
      exact AllReadyH.nil
     exact AllReadyH.nil
    exact AllReadyH.nil
    -- REGION 6 END
   ·
    have hk : (kd == 3) = false := by rw [beq_eq_false_iff_ne]; exact h3
    rw [if_neg h3, List.append_nil] at HT
    go_wp2_with fail
    go_roundg (n - (i + 1))
    case measure => omega
    case rel => exact ⟨i + 1, by omega, rfl, by go_num, (show Aside _ from by rw [HT.out.1, HT.out.2]; exact HR.out)⟩
  ·
   obtain rfl : i = n := by omega
   have hltz : ¬ (i : Int) < (i : Int) := by omega
   have ht : l.take i = l := by rw [List.take_of_length_le (by rw [HN.out]; exact Nat.le_refl _)]
   have HR := Lib.hid hR.out
   rw [ht] at HR
   clear hR
   go_wp2_with fail
   go_ret
   exact ⟨_, rfl, HR.out.1, HR.out.2⟩
end
end Go.Proofs.YtcfhkbcllijnkaaGreat
