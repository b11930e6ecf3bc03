/- Contracts and plain laws that the proof of TopPairs goes by, under no condition. -/
import Derived.Test.YtcfhkbcllijnkaaGreatZTopPairsbo
import Derived.Test.YtcfhkbcllijnkaaGreatZTopPairsbp
import Derived.Test.YtcfhkbcllijnkaaGreatZTopPairsbn
set_option linter.unusedVariables false
set_option linter.unusedSimpArgs false
set_option maxRecDepth 100000
set_option maxHeartbeats 40000000
namespace Go.Proofs.YtcfhkbcllijnkaaGreat
open Go.RowKit
def ids (l : List En) : List Int := l.map (·.id)
def Ev1 (c c' : CM) : Prop := c'.q.all.length ≤ c.q.all.length ∧ ((c'.rows = c.rows ∧ clmE c'.evs = clmE c.evs) ∨ (∃ (k : Nat) (y : Tk) (en : En), c.rows[k]? = some (2, y) ∧ c'.rows = c.rows.set k (3, y) ∧ clmE c'.evs = clmE c.evs ++ [en] ∧ en.id = (k : Int) + 1) ∨ (∃ (k : Nat) (y y' : Tk), c.rows[k]? = some (3, y) ∧ c'.rows = c.rows.set k (4, y') ∧ clmE c'.evs = clmE c.evs))
theorem clm_other (l : List Ev) (e : Ev) (h : e.kind ≠ 3) : clmE (l ++ [e]) = clmE l := by rw [clmE_snoc, if_neg h, List.append_nil]
theorem J.ev1 {al : Int → Prop} {T k : Nat} {m : MM} (h : J al T k m) {t : Nat} (ht : t < T) (d : Int) : Ev1 m.c (m.step t d).c := by
 obtain ⟨w, hw⟩ : ∃ w, m.ws[t]? = some w := ⟨_, List.getElem?_eq_getElem (by rw [h.wl]; exact ht)⟩
 have hstep : (m.step t d).c = (m.c.wstep t d w).1 := by unfold MM.step; rw [hw]
 rw [hstep]
 rcases h.wk t w hw with h0 | ⟨h1, hid, x, hx, hke⟩ | ⟨h2, hid, ⟨y, hy⟩, hpc, hbad⟩
 ·
  by_cases hf : m.c.q.fullAt t = true
  · have e : m.c.wstep t d w = ({ m.c with q := m.c.q.settle t }, w, 1) := by unfold CM.wstep; rw [if_pos h0, if_pos hf]
    rw [e]
    exact ⟨Nat.le_of_eq (settle_all m.c.q t).length_eq, .inl ⟨rfl, rfl⟩⟩
  ·
   cases hl : m.c.look t d with
   | none =>
    have e : m.c.wstep t d w = (m.c, w, 0) := by unfold CM.wstep; rw [if_pos h0, if_neg hf, hl]
    rw [e]
    exact ⟨Nat.le_refl _, .inl ⟨rfl, rfl⟩⟩
   | some en =>
    have e : m.c.wstep t d w = ({ m.c with evs := m.c.evs ++ [⟨10, t, en.id, en.key, m.c.tick⟩] }, ⟨1, en, w.pc, w.bad⟩, 2) := by unfold CM.wstep; rw [if_pos h0, if_neg hf, hl]
    rw [e]
    exact ⟨Nat.le_refl _, .inl ⟨rfl, clm_other _ _ (by show (10 : Int) ≠ 3; decide)⟩⟩
 ·
  have hn0 : ¬ w.ph = 0 := by omega
  by_cases hs2 : x.1 = 2
  ·
   obtain ⟨s, y⟩ := x
   have hs2 : s = 2 := hs2
   subst hs2
   have hk := hke rfl
   have e : m.c.wstep t d w = (m.c.claim t (w.e.id - 1).toNat (2, y) w.e.key, ⟨2, w.e, 0, false⟩, 3) := by
    unfold CM.wstep
    rw [if_neg hn0, if_pos h1, hx]
    dsimp only
    rw [if_pos (by rw [hk]; simp)]
   rw [e]
   refine ⟨?_, .inr (.inl ⟨_, y, ⟨w.e.key, (((w.e.id - 1).toNat : Nat) : Int) + 1⟩, hx, rfl, ?_, rfl⟩)⟩
   · show (m.c.q.take _).all.length ≤ _
     rw [take_all]
     exact List.length_filter_le _ _
   · show clmE (m.c.evs ++ [_]) = _
     rw [clmE_snoc, if_pos rfl]
  ·
   have e : m.c.wstep t d w = (m.c, wk0, 4) := by
    unfold CM.wstep
    rw [if_neg hn0, if_pos h1, hx]
    dsimp only
    rw [if_neg (by simp [hs2])]
   rw [e]
   exact ⟨Nat.le_refl _, .inl ⟨rfl, rfl⟩⟩
 ·
  have hn0 : ¬ w.ph = 0 := by omega
  have hn1 : ¬ w.ph = 1 := by omega
  have hL := (h.ro _ _ hy).2
  have e : m.c.wstep t d w = (m.c.fin t (w.e.id - 1).toNat (3, y), wk0, 6) := by
   unfold CM.wstep
   rw [if_neg hn0, if_neg hn1, hy]
   dsimp only
   have hL : y.L = [] := hL
   rw [hL]
   show (m.c.finish t (w.e.id - 1).toNat (3, y), wk0, 6) = _
   unfold CM.finish
   rw [h.d]
   rfl
  rw [e]
  exact ⟨Nat.le_refl _, .inr (.inr ⟨_, y, y.ran, hy, rfl, clm_other _ _ (by show (4 : Int) ≠ 3; decide)⟩)⟩
structure Cl (c : CM) : Prop where
 nd : (ids (clmE c.evs)).Nodup
 cl : ∀ (i : Nat) x, c.rows[i]? = some x → ((i : Int) + 1 ∈ ids (clmE c.evs) ↔ (x.1 = 3 ∨ x.1 = 4))
 rg : ∀ id ∈ ids (clmE c.evs), 1 ≤ id ∧ id ≤ c.rows.length
def Ca (b : Bool) (c : CM) : Prop := ∀ (i : Nat) x, c.rows[i]? = some x → (x.1 = 6 ↔ (b = true ∧ i = 1))
theorem Cl.ev1 {c c' : CM} (h : Cl c) (e : Ev1 c c') : Cl c' := by
 obtain ⟨-, ⟨hr, he⟩ | ⟨k, y, en, hk, hr, he, hen⟩ | ⟨k, y, y', hk, hr, he⟩⟩ := e
 · exact ⟨by rw [he]; exact h.nd, by rw [he, hr]; exact h.cl, by rw [he, hr]; exact h.rg⟩
 ·
  have hnot : en.id ∉ ids (clmE c.evs) := fun hin => by
   rw [hen] at hin
   rcases (h.cl k _ hk).1 hin with e | e
   · exact absurd e (show ¬ (2 : Int) = 3 by decide)
   · exact absurd e (show ¬ (2 : Int) = 4 by decide)
  have hi : ids (clmE c'.evs) = ids (clmE c.evs) ++ [en.id] := by rw [he]; simp [ids]
  have hkl := (List.getElem?_eq_some_iff.1 hk).1
  refine ⟨?_, fun i x hx => ?_, fun id hid => ?_⟩
  ·
   rw [hi, List.nodup_append]
   refine ⟨h.nd, by simp, fun a ha b hb e => ?_⟩
   have hb : b = en.id := by simpa using hb
   rw [e, hb] at ha
   exact hnot ha
  ·
   rw [hi, List.mem_append, List.mem_singleton, hen]
   rw [hr] at hx
   rcases set_cases hx with ⟨rfl, rfl⟩ | ⟨hne, hx⟩
   · exact ⟨fun _ => .inl rfl, fun _ => .inr rfl⟩
   · rw [h.cl i x hx]
     exact ⟨fun e => e.elim (fun e => e) (fun e => by omega), .inl⟩
  ·
   rw [hi, List.mem_append, List.mem_singleton] at hid
   rw [hr, List.length_set]
   rcases hid with hid | hid
   · exact h.rg id hid
   · rw [hid, hen]
     omega
 ·
  refine ⟨by rw [he]; exact h.nd, fun i x hx => ?_, by rw [he, hr, List.length_set]; exact h.rg⟩
  rw [he]
  rw [hr] at hx
  rcases set_cases hx with ⟨rfl, rfl⟩ | ⟨hne, hx⟩
  · rw [h.cl i _ hk]
    exact ⟨fun _ => .inr rfl, fun _ => .inl rfl⟩
  · exact h.cl i x hx
theorem Ca.ev1 {b : Bool} {c c' : CM} (h : Ca b c) (e : Ev1 c c') : Ca b c' := by
 obtain ⟨-, ⟨hr, he⟩ | ⟨k, y, en, hk, hr, he, hen⟩ | ⟨k, y, y', hk, hr, he⟩⟩ := e
 · intro i x hx
   rw [hr] at hx
   exact h i x hx
 ·
  intro i x hx
  rw [hr] at hx
  rcases set_cases hx with ⟨rfl, rfl⟩ | ⟨hne, hx⟩
  · rw [← h i _ hk]
    exact ⟨fun e => absurd e (show ¬ (3 : Int) = 6 by decide), fun e => absurd e (show ¬ (2 : Int) = 6 by decide)⟩
  · exact h i x hx
 ·
  intro i x hx
  rw [hr] at hx
  rcases set_cases hx with ⟨rfl, rfl⟩ | ⟨hne, hx⟩
  · rw [← h i _ hk]
    exact ⟨fun e => absurd e (show ¬ (4 : Int) = 6 by decide), fun e => absurd e (show ¬ (3 : Int) = 6 by decide)⟩
  · exact h i x hx
def al46 (s : Int) : Prop := s = 4 ∨ s = 6
theorem al46_ok : al46 4 ∧ ¬ al46 2 ∧ ¬ al46 3 := ⟨.inl rfl, fun h => by rcases h with h | h <;> exact absurd h (by decide), fun h => by rcases h with h | h <;> exact absurd h (by decide)⟩
structure JP (b : Bool) (k : Nat) (m : MM) : Prop where
 J : J al46 2 k m
 cl : Cl m.c
 ca : Ca b m.c
 n : m.c.rows.length = 2
 l2 : m.c.q.all.length ≤ 2
variable {b : Bool} {k : Nat} {m : MM}
theorem JP.step (h : JP b k m) {t : Nat} (ht : t < 2) (d : Int) : JP b k (m.step t d) := by
 have e := h.J.ev1 ht d
 obtain ⟨j1, j2, -⟩ := h.J.step (by decide) ht d
 exact ⟨j1, h.cl.ev1 e, h.ca.ev1 e, j2.trans h.n, Nat.le_trans e.1 h.l2⟩
theorem JP.rndN (h : JP b k m) (d : Int) (i : Nat) (hi : i ≤ 2) : JP b k (m.rndN d i) := by
 induction i with
 | zero => exact h
 | succ i ih => exact (ih (by omega)).step (by omega) d
theorem JP.rest (h : JP b k m) (d : Int) (j : Nat) : JP b k (m.rest 2 d j) := by
 induction j with
 | zero => exact h
 | succ j ih => exact ih.rndN d 2 (Nat.le_refl _)
theorem JP.near (h : JP b k m) : m.phi ≤ 60 := by
 have h1 := slotE_le m.c.q.slots
 have h2 := sum_le (fW m.c) (fun _ => 0) 2 (l := m.ws) (fun w hm => by have := fW_le m.c w; omega)
 have h3 : (m.ws.map fun _ => 0).sum = 0 := by
  rw [List.sum_eq_zero_iff_forall_eq_nat]
  intro x hx
  obtain ⟨w, -, rfl⟩ := List.mem_map.1 hx
  rfl
 have := h.l2
 rw [h.J.sl] at h1
 rw [h.J.wl] at h2
 unfold MM.phi
 omega
theorem JP.cancel (h : JP false k m) {y : Tk} (hr : m.c.rows[1]? = some (2, y)) : JP true k ⟨m.c.cancel 1 (2, y), m.ws⟩ := by
 have hk : 1 < m.c.rows.length := (List.getElem?_eq_some_iff.1 hr).1
 have hro := rowOf_set (c := m.c) hk (6, y) (m.c.cancel 1 (2, y)) rfl
 have h2 : rowOf m.c 2 = some (2, y) := hr
 have hall : (m.c.cancel 1 (2, y)).q.all = wo 2 m.c.q.all := take_all _ _
 have hin : hasL 2 m.c.q.all = true := h.J.rq 1 y hr
 have hlen := wo_len h.J.ok.ids hin
 have hid : ∀ {id : Int} {z : Int × Tk}, 1 ≤ id → rowOf m.c id = some z → z.1 ≠ 2 → (id - 1).toNat ≠ 1 := fun {id z} h1 hz hne e => by
  unfold rowOf at hz
  rw [e, hr] at hz
  cases hz
  exact hne rfl
 refine ⟨⟨(List.length_map ..).trans h.J.sl, (List.length_map ..).trans h.J.ow, h.J.k, h.J.wl, take_Ok h.J.ok _, fun e he => ?_, fun i z hz => ?_, fun i x hx => ?_, fun t' x hx => ?_, h.J.inj, fun i z hz => ?_, ?_, h.J.d, h.J.al⟩, ?_, ?_, (List.length_set ..).trans h.n, ?_⟩
 ·
  rw [hall, mem_wo] at he
  obtain ⟨h1, z, hz, hke⟩ := h.J.qr e he.1
  refine ⟨h1, z, ?_, hke⟩
  rw [hro, if_neg (by have := he.2; omega)]
  exact hz
 ·
  rw [hall]
  rcases set_cases hz with ⟨-, hz⟩ | ⟨hni, hz⟩
  · cases hz
  ·
   have h1 := h.J.rq i z hz
   rw [hasL_iff] at h1 ⊢
   obtain ⟨e, he, hei⟩ := h1
   exact ⟨e, mem_wo.2 ⟨he, by omega⟩, hei⟩
 · rcases set_cases hx with ⟨-, rfl⟩ | ⟨hni, hx⟩
   · exact ⟨.inr (.inr (.inr rfl)), (h.J.ro _ _ hr).2⟩
   · exact h.J.ro i x hx
 ·
  rcases h.J.wk t' x hx with h0 | ⟨h1, h2, z, hz, h3⟩ | ⟨h1, h2, ⟨z, hz⟩, h3⟩
  · exact .inl h0
  ·
   refine .inr (.inl ⟨h1, h2, ?_⟩)
   by_cases e : (x.e.id - 1).toNat = 1
   · exact ⟨(6, y), by rw [hro, if_pos e], fun e => absurd e (show ¬ (6 : Int) = 2 by decide)⟩
   · exact ⟨z, by rw [hro, if_neg e]; exact hz, h3⟩
  · refine .inr (.inr ⟨h1, h2, ⟨z, ?_⟩, h3⟩)
    rw [hro, if_neg (hid h2 hz (show (3 : Int) ≠ 2 by decide))]
    exact hz
 · rcases set_cases hz with ⟨-, hz⟩ | ⟨hni, hz⟩
   · cases hz
   · exact h.J.cr i z hz
 ·
  have ho := h.J.o
  show m.c.o - 1 = (((m.c.cancel 1 (2, y)).q.all.length + m.runs : Nat) : Int)
  rw [hall]
  omega
 ·
  have hev : clmE (m.c.cancel 1 (2, y)).evs = clmE m.c.evs := clm_other _ _ (by show (7 : Int) ≠ 3; decide)
  refine ⟨by rw [hev]; exact h.cl.nd, fun i x hx => ?_, fun id hid => ?_⟩
  ·
   rw [hev]
   rcases set_cases hx with ⟨rfl, rfl⟩ | ⟨hni, hx⟩
   · rw [h.cl.cl 1 _ hr]
     exact ⟨fun e => by rcases e with e | e <;> exact absurd e (by show ¬ (2 : Int) = _; decide), fun e => by rcases e with e | e <;> exact absurd e (by show ¬ (6 : Int) = _; decide)⟩
   · exact h.cl.cl i x hx
  ·
   rw [hev] at hid
   have := h.cl.rg id hid
   show 1 ≤ id ∧ id ≤ ((m.c.rows.set 1 (6, y)).length : Int)
   rw [List.length_set]
   exact this
 ·
  intro i x hx
  rcases set_cases hx with ⟨rfl, rfl⟩ | ⟨hni, hx⟩
  · exact ⟨fun _ => ⟨rfl, rfl⟩, fun _ => rfl⟩
  · rw [h.ca i x hx]
    exact ⟨fun e => absurd e.1 (by decide), fun e => absurd e.2 hni⟩
 · show (m.c.cancel 1 (2, y)).q.all.length ≤ 2
   rw [hall]
   exact Nat.le_trans (List.length_filter_le _ _) h.l2
theorem JP.shut (h : JP b k m) : JP b k ⟨m.c.shut, m.ws⟩ := by
 have hev : clmE m.c.shut.evs = clmE m.c.evs := clm_other _ _ (by show (9 : Int) ≠ 3; decide)
 exact ⟨⟨h.J.sl, h.J.ow, h.J.k, h.J.wl, h.J.ok, h.J.qr, h.J.rq, h.J.ro, h.J.wk, h.J.inj, h.J.cr, h.J.o, h.J.d, h.J.al⟩, ⟨by rw [hev]; exact h.cl.nd, by rw [hev]; exact h.cl.cl, by rw [hev]; exact h.cl.rg⟩, h.ca, h.n, h.l2⟩
theorem J.drained {al : Int → Prop} {T : Nat} (hal : ¬ al 1) (h : J al T k m) : (m.c.drained && m.ws.all fun w => w.ph == 0) = m.quiet := by
 cases hq : m.quiet with
 | true =>
  obtain ⟨h1, h2, h3, h4⟩ := h.quiet hq
  have h0 : ∀ s : Int, s = 1 ∨ s = 2 ∨ s = 3 → cntR m.c.rows s = 0 := fun s hs => by
   unfold cntR
   have : m.c.rows.filter (fun x => x.1 == s) = [] := by
    rw [List.filter_eq_nil_iff]
    intro x hx e
    have ha := h4 x hx
    have e : x.1 = s := beq_iff_eq.1 e
    rw [e] at ha
    rcases hs with rfl | rfl | rfl
    · exact hal ha
    · exact h.al.2.1 ha
    · exact h.al.2.2 ha
   rw [this]
   rfl
  rw [Bool.and_eq_true]
  refine ⟨?_, List.all_eq_true.2 fun w hw => beq_iff_eq.2 (h2 w hw)⟩
  unfold CM.drained
  rw [h0 1 (by omega), h0 2 (by omega), h0 3 (by omega)]
  rfl
 | false =>
  cases hd : (m.c.drained && m.ws.all fun w => w.ph == 0) with
  | false => rfl
  | true =>
   rw [Bool.and_eq_true] at hd
   have : m.quiet = true := by
    unfold MM.quiet
    rw [Bool.and_eq_true]
    refine ⟨?_, hd.2⟩
    cases ha : m.c.q.all with
    | nil => rfl
    | cons e l =>
     obtain ⟨g1, y, g2, -⟩ := h.qr e (by rw [ha]; exact List.mem_cons_self)
     have hmem : ((2 : Int), y) ∈ m.c.rows := List.mem_of_getElem? g2
     have h2 : 0 < cntR m.c.rows 2 := by
      unfold cntR
      have : ((2 : Int), y) ∈ m.c.rows.filter fun x => x.1 == 2 := List.mem_filter.2 ⟨hmem, rfl⟩
      have := List.length_pos_of_mem this
      omega
     have hdd := hd.1
     unfold CM.drained at hdd
     have hdd : cntR m.c.rows 1 + cntR m.c.rows 2 + cntR m.c.rows 3 = 0 := beq_iff_eq.1 hdd
     have p1 : 0 ≤ cntR m.c.rows 1 := by unfold cntR; omega
     have p3 : 0 ≤ cntR m.c.rows 3 := by unfold cntR; omega
     omega
   rw [this] at hq
   cases hq
theorem JP.end_ (h : JP b k m) (hq : m.quiet = true) : ∃ y0 y1, m.c.rows = [(4, y0), (if b then 6 else 4, y1)] ∧ (clmE m.c.evs).length = (if b then 1 else 2) ∧ (b = false → ∃ e0 e1, clmE m.c.evs = [e0, e1] ∧ e0.id ≠ e1.id) := by
 obtain ⟨-, -, -, h4⟩ := h.J.quiet hq
 obtain ⟨x0, x1, hx⟩ : ∃ x0 x1, m.c.rows = [x0, x1] := by
  have hn := h.n
  match m.c.rows, hn with
  | [a, b], _ => exact ⟨a, b, rfl⟩
 have r0 : m.c.rows[0]? = some x0 := by rw [hx]; rfl
 have r1 : m.c.rows[1]? = some x1 := by rw [hx]; rfl
 have a0 := h4 x0 (by rw [hx]; simp)
 have a1 := h4 x1 (by rw [hx]; simp)
 have c0 := h.ca 0 x0 r0
 have c1 := h.ca 1 x1 r1
 obtain ⟨s0, y0⟩ := x0
 obtain ⟨s1, y1⟩ := x1
 have e0 : s0 = 4 := by
  rcases a0 with e | e
  · exact e
  · have := c0.1 e
    omega
 have e1 : s1 = if b then 6 else 4 := by
  cases b with
  | true => exact c1.2 ⟨rfl, rfl⟩
  | false =>
   rcases a1 with e | e
   · exact e
   · exact absurd (c1.1 e).1 (by decide)
 subst e0
 subst e1
 have m1 : (1 : Int) ∈ ids (clmE m.c.evs) := (h.cl.cl 0 _ r0).2 (.inr rfl)
 have m2 : (2 : Int) ∈ ids (clmE m.c.evs) ↔ b = false := by
  have := h.cl.cl 1 _ r1
  rw [show (((1 : Nat) : Int) + 1) = 2 by rfl] at this
  rw [this]
  cases b with
  | true => exact ⟨fun e => by rcases e with e | e <;> exact absurd e (by show ¬ (6 : Int) = _; decide), fun e => absurd e (by decide)⟩
  | false => exact ⟨fun _ => rfl, fun _ => .inr rfl⟩
 have hrg := h.cl.rg
 rw [hx] at hrg
 have hperm : (ids (clmE m.c.evs)).Perm (if b then [1] else [1, 2]) := by
  refine (List.perm_ext_iff_of_nodup h.cl.nd (by cases b <;> decide)).2 fun id => ?_
  constructor
  ·
   intro hid
   have hr := hrg id hid
   have hr2 : id ≤ 2 := hr.2
   rcases (show id = 1 ∨ id = 2 by omega) with rfl | rfl
   · cases b <;> simp
   · rw [m2.1 hid]
     simp
  ·
   intro hid
   cases b with
   | true =>
    have : id = 1 := by simpa using hid
    rw [this]
    exact m1
   | false =>
    have : id = 1 ∨ id = 2 := by simpa using hid
    rcases this with rfl | rfl
    · exact m1
    · exact m2.2 rfl
 have hlen : (clmE m.c.evs).length = if b then 1 else 2 := by
  have := hperm.length_eq
  unfold ids at this
  rw [List.length_map] at this
  rw [this]
  cases b <;> rfl
 refine ⟨y0, y1, hx, hlen, fun hb => ?_⟩
 subst hb
 have hnd := h.cl.nd
 match hc : clmE m.c.evs, hlen with
 | [e0, e1], _ =>
  rw [hc] at hnd
  refine ⟨e0, e1, rfl, ?_⟩
  unfold ids at hnd
  simp at hnd
  exact hnd
end Go.Proofs.YtcfhkbcllijnkaaGreat
namespace Go.Proofs.YtcfhkbcllijnkaaGreat
open Go.RowKit Go.Maps Go.Shelf Go.Proofs.YtcfhkbcllijnkaaGreatW.PrintWords
def ppM (k : Nat) : MM := ⟨((CM.new 2 k).sub 0 1 []).sub 0 0 [], List.replicate 2 wk0⟩
theorem pp_start {k : Nat} (hk : k ≤ 16) : JP false k (ppM k) := by
 have j0 : J al46 2 k ⟨CM.new 2 k, List.replicate 2 wk0⟩ := J.new al46_ok (by decide) hk
 have h0 := j0.o
 have l0 : (CM.new 2 k).q.all.length = 0 := by
  have h0 : (CM.new 2 k).o = (((CM.new 2 k).q.all.length + (⟨CM.new 2 k, List.replicate 2 wk0⟩ : MM).runs : Nat) : Int) := h0
  have : (CM.new 2 k).o = 0 := rfl
  omega
 obtain ⟨j1, n1, o1⟩ := j0.sub (t := 0) (by decide) 1 (by show (CM.new 2 k).q.all.length < NB; rw [l0]; decide)
 have e1 := j1.o
 have r0 : (⟨CM.new 2 k, List.replicate 2 wk0⟩ : MM).runs = 0 := rfl
 have l1 : ((CM.new 2 k).sub 0 1 []).q.all.length = 1 := by
  have e1 : ((CM.new 2 k).sub 0 1 []).o = ((((CM.new 2 k).sub 0 1 []).q.all.length + (⟨CM.new 2 k, List.replicate 2 wk0⟩ : MM).runs : Nat) : Int) := e1
  have : ((CM.new 2 k).sub 0 1 []).o = 1 := rfl
  omega
 obtain ⟨j2, n2, o2⟩ := j1.sub (t := 0) (by decide) 0 (by show ((CM.new 2 k).sub 0 1 []).q.all.length < NB; rw [l1]; decide)
 have e2 := j2.o
 have l2 : (((CM.new 2 k).sub 0 1 []).sub 0 0 []).q.all.length = 2 := by
  have e2 : (((CM.new 2 k).sub 0 1 []).sub 0 0 []).o = (((((CM.new 2 k).sub 0 1 []).sub 0 0 []).q.all.length + (⟨CM.new 2 k, List.replicate 2 wk0⟩ : MM).runs : Nat) : Int) := e2
  have : (((CM.new 2 k).sub 0 1 []).sub 0 0 []).o = 2 := rfl
  omega
 have hev : clmE (ppM k).c.evs = [] := rfl
 obtain ⟨y0, y1, hrows⟩ : ∃ y0 y1, (ppM k).c.rows = [(2, y0), (2, y1)] := ⟨_, _, rfl⟩
 have hst : ∀ (i : Nat) x, (ppM k).c.rows[i]? = some x → x.1 = 2 := fun i x hx => by
  rw [hrows] at hx
  have := List.mem_of_getElem? hx
  simp only [List.mem_cons, List.not_mem_nil, or_false] at this
  rcases this with rfl | rfl <;> rfl
 refine ⟨j2, ⟨by rw [hev]; exact List.nodup_nil, fun i x hx => ?_, fun id hid => ?_⟩, fun i x hx => ?_, by rw [hrows]; rfl, Nat.le_of_eq l2⟩
 · rw [hev, hst i x hx]
   exact ⟨fun e => (by cases e), fun e => by rcases e with e | e <;> exact absurd e (by decide)⟩
 · rw [hev] at hid
   cases hid
 · rw [hst i x hx]
   exact ⟨fun e => absurd e (by decide), fun e => absurd e.1 (by decide)⟩
section
variable {W W' : World} {M : MA} {s s' : MS} {N N' : Nat}
theorem al46_1 : ¬ al46 1 := fun h => by rcases h with h | h <;> exact absurd h (by decide)
theorem D_CloseP {b : Bool} {k : Nat} (h : MachAt W M s N) (hN : N ≤ 10000) (hJ : JP b k (s.mm M)) (hcl : (s.mm M).c.closed = false) (hT : M.c.q.lp.length = 2) (d : Int) (d0 : 0 ≤ d) (d1 : d ≤ top) : Calls Tryz.prog 15 #[.pointer (some ⟨M.mp, 0, none⟩), .int .u64 d] W fun e w' => ∃ (n : Int) (a : Option Addr) (cap : Nat), e = .returned (.tuple #[.agg #[.int .i64 (if b then 1 else 2), .int .i64 0, .int .i64 (if b then 1 else 0), .slice a 0 cap, .int .i64 n], .bool true]) ∧ ∃ s', MStep W M s w' s' 60000 ∧ JP b k (s'.mm M) ∧ (s'.mm M).quiet = true := by
 have hl := h.len
 obtain ⟨m', hm'⟩ : ∃ m' : MM, (⟨(s.mm M).c.shut, (s.mm M).ws⟩ : MM) = m' := ⟨_, rfl⟩
 have hP : JP b k m' := by rw [← hm']; exact hJ.shut
 have hclo : m'.c.closed = true := by rw [← hm']; rfl
 obtain ⟨K, hK, h1, h2, h3⟩ := J.rest (al := al46) (T := 2) (k := k) (by decide) (by decide) d 60 m' hP.J hP.near
 have hq : ∀ j, j ≤ K → (m'.rest 2 d j).quiet = decide (j = K) := fun j hj => by
  by_cases e : j = K
  · subst e
    rw [h1, decide_eq_true rfl]
  · rw [h2 j (by omega), decide_eq_false e]
 have hb : ∀ j, j ≤ K → N + 1 + j * 600 ≤ 50000 := fun j hj => by
  have : j * 600 ≤ 60 * 600 := Nat.mul_le_mul_right 600 (by omega)
  omega
 refine (D_Close h (by omega) hcl d K (by omega) (fun j => N + 1 + j * 600) (by simp) (show N + 1 + K * 600 ≤ 290000000 by have := hb K (Nat.le_refl _); omega) (fun j sj => sj.mm M = m'.rest 2 d j) (fun S' hS => ?_) (fun j V sj hj hV hR => ?_) (fun j V sj hj hV hR => ?_) (fun V sj hV hR => ?_)).mono ?_
 ·
  rw [← hm']
  unfold MS.mm
  dsimp only
  rw [hS]
  rfl
 ·
  have e1 : (sj.mm M).c.closed = true := by rw [hR, rest_closed]; exact hclo
  refine ⟨e1, by rw [hV.len, hT]; decide, ?_⟩
  have hd := J.drained al46_1 (hP.rest d j).J
  rw [hq j hj, ← hR] at hd
  exact hd
 · refine (M_RoundM hV (show N + 1 + j * 600 ≤ 280000000 by have := hb j (by omega); omega) d d0 d1 hT hR (fun i hi w hw => ((hP.rest d j).rndN d i (by omega)).J.good hw)).mono ?_
   rintro e V' ⟨v, s', he, k', hs⟩
   exact ⟨v, s', he, k'.up (show N + 1 + j * 600 + 2 * 300 ≤ N + 1 + (j + 1) * 600 by omega), hs⟩
 ·
  have hJK := hP.rest d K
  rw [← hR] at hJK
  refine ⟨hJK.J.ok, fun x hx => ?_⟩
  have := (hJK.J.quiet (by rw [hR]; exact h1)).2.2.2 x hx
  rcases this with e | e
  · exact .inl e
  · exact .inr (.inr e)
 ·
  rintro e w' ⟨sK, s', a, cap, he, hR, k', hs⟩
  have hJK := hP.rest d K
  rw [← hR] at hJK
  obtain ⟨y0, y1, hrows, -, -⟩ := hJK.end_ (by rw [hR]; exact h1)
  have hrows : sK.c.t.rows = [(4, y0), (if b then 6 else 4, y1)] := hrows
  have e4 : (cntP sK.c.t.rows sK.c.t.rows.length 4 : Int) = if b then 1 else 2 := by rw [hrows]; cases b <;> rfl
  have e5 : (cntP sK.c.t.rows sK.c.t.rows.length 5 : Int) = 0 := by rw [hrows]; cases b <;> rfl
  have e6 : (cntP sK.c.t.rows sK.c.t.rows.length 6 : Int) = if b then 1 else 0 := by rw [hrows]; cases b <;> rfl
  rw [e4, e5, e6] at he
  exact ⟨K, a, cap, he, s', k'.up (show N + 1 + K * 600 + 1260 ≤ 60000 by have := hb K (Nat.le_refl _); omega), by rw [hs]; exact hJK, by rw [hs, hR]; exact h1⟩
structure PpAt (W1 : World) (M : MA) (s1 : MS) (k q i : Nat) (s : MS) (b asked : Bool) (late : Int) (w : World) : Prop where
 st : MStep W1 M s1 w s (1000 + i * 400)
 P : JP b k (s.mm M)
 cl : (s.mm M).c.closed = false
 as_ : (asked = false ∧ late = 0 ∧ b = false ∧ i ≤ q) ∨ (asked = true ∧ q < i ∧ ((late = 0 ∧ b = true) ∨ (late = 8 ∧ b = false)))
section
variable {W1 w w' : World} {s1 : MS} {k q i : Nat} {b asked : Bool} {late : Int}
theorem PpAt.pick (h : MStep W1 M s1 w s (1000 + i * 400 + 50)) (hP : JP b k (s.mm M)) (hcl : (s.mm M).c.closed = false) (ha : (asked = false ∧ late = 0 ∧ b = false ∧ i + 1 ≤ q) ∨ (asked = true ∧ q < i + 1 ∧ ((late = 0 ∧ b = true) ∨ (late = 8 ∧ b = false)))) (hi : i < 20) (hT : M.c.q.lp.length = 2) (p : Nat) (hp : p < 2) (d : Int) (d0 : 0 ≤ d) (d1 : d ≤ top) : Calls Tryz.prog 24 #[.pointer (some ⟨M.mp, 0, none⟩), .int .u64 p, .int .u64 d] w fun e w' => (∃ kd : Int, e = .returned (.int .i64 kd)) ∧ ∃ s', PpAt W1 M s1 k q (i + 1) s' b asked late w' := by
 refine (M_PickM h.at_ (by omega) p (by rw [hT]; exact hp) d d0 d1 p (by unfold top; omega) (by rw [hT]; exact Nat.mod_eq_of_lt hp) fun w hw => hP.J.good hw).mono ?_
 rintro e w' ⟨he, s', k', hs, -⟩
 exact ⟨he, s', (h.trans k').up (by omega), by rw [hs]; exact hP.step hp d, by rw [hs, step_closed]; exact hcl, ha⟩
theorem JP.row1 (h : JP false k (s.mm M)) : ∃ st y, s.c.t.rows[1]? = some (st, y) ∧ (st = 2 ∨ st = 3 ∨ st = 4) := by
 have hn : s.c.t.rows.length = 2 := h.n
 obtain ⟨⟨st, y⟩, hx⟩ : ∃ x, s.c.t.rows[1]? = some x := ⟨_, List.getElem?_eq_getElem (by omega)⟩
 refine ⟨st, y, hx, ?_⟩
 rcases (h.J.ro 1 _ hx).1 with e | e | e | e
 · exact .inl e
 · exact .inr (.inl e)
 · exact .inr (.inr e)
 · exact absurd ((h.ca 1 _ hx).1 e).1 (by decide)
end
theorem still_hide {P : Program} {ops : Array Oper} {w : World} {Q : Act → Prop} {l : List Oper} {a : Act} (h : ∀ Q' : Act → Prop, (∀ a, Q a → Q' a) → wpStill P ops w Q' l a) : wpStill P ops w Q l a := h Q fun _ h => h
theorem two_claims {W : World} {base : Nat} {v : Value} {e0 e1 : En} (h : W.ownsRow base 63 2 v [e0, e1].length (flatE [e0, e1])) : ∃ g c, v = .slice (some ⟨g, 0, none⟩) 2 c ∧ W.cell? ⟨g, 1, none⟩ = some (.int .i64 e0.id) ∧ W.cell? ⟨g, 3, none⟩ = some (.int .i64 e1.id) := by
 have hs := SlV.of_owns h
 rcases h.2 with ⟨-, h0⟩ | ⟨g, cap, cur, rfl, hb, hg, hle, hmx, hsz, hF⟩
 · cases h0
 ·
  refine ⟨g, cap, rfl, ?_, ?_⟩
  · have := SlV.cell hs rfl (j := 1) (show 1 < 2 * 2 by decide) (x := .int .i64 e0.id) rfl
    simpa using this
  · have := SlV.cell hs rfl (j := 3) (show 3 < 2 * 2 by decide) (x := .int .i64 e1.id) rfl
    simpa using this
theorem and_u64_1 (x : Int) : bits .and .u64 x 1 = x % 2 := and_u64 1 (by decide) x
theorem and_i64_31 (x : Int) : bits .and .i64 x 31 = x % 32 := and_i64 5 (by decide) x
theorem V_TopPairs (sch at0 k d : Int) (s0 : 0 ≤ sch) (s1 : sch ≤ top) (d0 : 0 ≤ d) (d1 : d ≤ top) (W : World) : Calls Tryz.prog 6 #[.int .u64 sch, .int .i64 at0, .int .i64 k, .int .u64 d] W fun e w' => e = .returned (.bool true) ∧ Below W.heap.size W w' := by
 obtain ⟨T, kk, C, h1, h8, hk, c1, c64, eT, ek, eC, hV⟩ := V_Conf 1 k 5
 obtain rfl : C = 6 := by omega
 obtain rfl : T = 2 := by omega
 have HM := Lib.hid (V_made (W := W) 1 k 5 2 kk 6 h1 h8 (by omega) c1 c64 hV)
 obtain ⟨q, hq⟩ : ∃ q : Nat, bits .and .i64 at0 31 = (q : Int) := ⟨(at0 % 32).toNat, by rw [and_i64_31]; omega⟩
 have hkk : kk ≤ 16 := by omega
 clear c1 c64 eT ek eC hV h1 h8 hk
 go_enter Tryz.func6, Tryz.ntmps6
 go_wp2_with fail
 refine HM.out.mono ?_
 rintro e w1 ⟨M, s1, rfl, hm1, hcm1, hws1, -, -, hT, hK, hC, hown1, hb1⟩
 have HC1 := Lib.hid (M_Core hm1)
 have H1 := Lib.hid (And.intro hm1 (And.intro hcm1 (And.intro hws1 (And.intro hT (And.intro hK (And.intro hC (And.intro hown1 hb1)))))))
 clear hm1 hcm1 hws1 hT hK hC hown1 hb1 HM
 go_wp2_with fail
 refine HC1.out.mono ?_
 rintro e w2 ⟨rfl, rfl⟩
 have HS2 : RowKit.Hid (Calls Tryz.prog 12 #[.pointer (some ⟨M.c.cb, 0, none⟩), .int .i64 0, .int .i64 1, .slice none 0 0, .slice none 0 0] w2 fun e w' => e = .returned (.tuple #[.int .i64 1, .int .i64 0]) ∧ ∃ S', CStep w2 M.c s1.c w' S' (0 + 220) ∧ S'.cm M.c = (CM.new 2 kk).sub 0 1 []) := Lib.hid (by
  obtain ⟨hm, hcm, hws, hT, hK, hC, hown, hb⟩ := H1.out
  have hr : s1.c.t.rows = [] := congrArg CM.rows hcm
  have ho : s1.c.o = 0 := congrArg CM.o hcm
  have hq : (s1.c.q.q M.c.q.k).Ok := by
   have e : s1.c.q.q M.c.q.k = (CM.new 2 kk).q := congrArg CM.q hcm
   rw [e]
   exact (J.new (al := al46) (T := 2) al46_ok (by decide) hkk).ok
  have := C_Submit hm.c (by omega) (congrArg CM.closed hcm) 0 (by rw [hT]; omega) 1 (by omega) (by omega) nilOps (fun c hc => by cases hc) (by rw [hr]; decide) (by rw [ho, hC]; omega) hq
  rw [hr, hcm] at this
  exact this)
 clear HC1
 go_wp2_with fail
 refine HS2.out.mono ?_
 rintro e w3 ⟨rfl, S3, k3, hm3⟩
 have H3 := Lib.hid (And.intro (MStep.core H1.out.1 k3) hm3)
 have HC3 := Lib.hid (M_Core H3.out.1.at_)
 clear k3 hm3 HS2
 go_wp2_with fail
 refine HC3.out.mono ?_
 rintro e w4 ⟨rfl, rfl⟩
 have HS4 : RowKit.Hid (Calls Tryz.prog 12 #[.pointer (some ⟨M.c.cb, 0, none⟩), .int .i64 0, .int .i64 0, .slice none 0 0, .slice none 0 0] w4 fun e w' => e = .returned (.tuple #[.int .i64 2, .int .i64 0]) ∧ ∃ S', CStep w4 M.c S3 w' S' (0 + 220 + 220) ∧ S'.cm M.c = (ppM kk).c) := Lib.hid (by
  obtain ⟨hm, hcm, hws, hT, hK, hC, hown, hb⟩ := H1.out
  have hcm3 := H3.out.2
  have hr : S3.t.rows.length = 1 := by rw [show S3.t.rows = ((CM.new 2 kk).sub 0 1 []).rows from congrArg CM.rows hcm3]; rfl
  have ho : S3.o = 1 := congrArg CM.o hcm3
  have j0 : J al46 2 kk ⟨CM.new 2 kk, List.replicate 2 wk0⟩ := J.new al46_ok (by decide) hkk
  have l0 : (CM.new 2 kk).q.all.length < NB := by
   have h0 := j0.o
   have h0 : (CM.new 2 kk).o = (((CM.new 2 kk).q.all.length + (⟨CM.new 2 kk, List.replicate 2 wk0⟩ : MM).runs : Nat) : Int) := h0
   have : (CM.new 2 kk).o = 0 := rfl
   unfold NB
   omega
  have hq : (S3.q.q M.c.q.k).Ok := by
   have e : S3.q.q M.c.q.k = ((CM.new 2 kk).sub 0 1 []).q := congrArg CM.q hcm3
   rw [e]
   exact (j0.sub (t := 0) (by decide) 1 l0).1.ok
  have := C_Submit H3.out.1.at_.c (by omega) (congrArg CM.closed hcm3) 0 (by rw [hT]; omega) 0 (by omega) (by omega) nilOps (fun c hc => by cases hc) (by rw [hr]; decide) (by rw [ho, hC]; omega) hq
  rw [hr, hcm3] at this
  exact this)
 clear HC3
 go_wp2_with fail
 refine HS4.out.mono ?_
 rintro e w5 ⟨rfl, S5, k5, hm5⟩
 have H5 : RowKit.Hid (PpAt w2 M s1 kk q 0 { s1 with c := S5 } false false 0 w5) := Lib.hid (by
  have e : ({ s1 with c := S5 } : MS).mm M = ppM kk := by
   show MM.mk (S5.cm M.c) s1.ws = ppM kk
   rw [hm5, H1.out.2.2.1]
   rfl
  exact ⟨(H3.out.1.trans (MStep.core H3.out.1.at_ k5)).up (by omega), by rw [e]; exact pp_start hkk, by rw [e]; rfl, .inl ⟨rfl, rfl, rfl, Nat.zero_le _⟩⟩)
 clear k5 hm5 HS4
 go_wp2_with fail
 go_loopg [14, 15, 16] 20 (fun gg s14 s15 s16 wr => ∃ (i : Nat) (s : MS) (b asked : Bool) (late : Int), i ≤ 20 ∧ gg = 20 - i ∧ s14 = .int .i64 late ∧ s15 = .bool asked ∧ s16 = .int .i64 i ∧ Aside (PpAt w2 M s1 kk q i s b asked late wr))
 case atStart => exact ⟨0, _, _, _, _, Nat.zero_le _, by omega, rfl, rfl, rfl, H5.out⟩
 case round =>
  obtain ⟨i, s, b, asked, late, hi, rfl, rfl, rfl, rfl, hR⟩ := hrel
  by_cases hlt : i < 20
  ·
   have hltz : (i : Int) < 20 := by omega
   have HR := Lib.hid hR.out
   clear hR
   obtain ⟨p, hp, hp2⟩ : ∃ p : Nat, bits .and .u64 (sch / 2 ^ i) 1 = (p : Int) ∧ p < 2 := ⟨(sch / 2 ^ i % 2).toNat, by rw [and_u64_1]; have := Int.emod_nonneg (sch / 2 ^ i) (b := 2) (by decide); omega, by omega⟩
   obtain ⟨dd, hdd, dd0, dd1⟩ : ∃ dd : Int, d / 2 ^ i = dd ∧ 0 ≤ dd ∧ dd ≤ top := ⟨d / 2 ^ i, rfl, Int.ediv_nonneg d0 (Int.pow_nonneg (by decide)), Int.le_trans (Int.ediv_le_self _ d0) d1⟩
   have hwi : IntKind.i64.wrap ((i : Int) + 1) = (i : Int) + 1 := wrap_small (by omega) (by omega)
   by_cases hiq : i = q
   ·
    subst hiq
    obtain ⟨rfl, rfl, rfl⟩ : asked = false ∧ late = 0 ∧ b = false := by
     rcases HR.out.as_ with ⟨e1, e2, e3, -⟩ | ⟨-, e, -⟩
     · exact ⟨e1, e2, e3⟩
     · exact absurd e (Nat.lt_irrefl _)
    obtain ⟨st, y, hx, hst⟩ := HR.out.P.row1
    have hN : 1000 + i * 400 ≤ 10000 := by omega
    have HC := Lib.hid (M_Core HR.out.st.at_)
    have HSt : RowKit.Hid (Calls Tryz.prog 22 #[.pointer (some ⟨M.c.cb, 0, none⟩), .int .i64 2] wr fun e w' => e = .returned (.int .i64 st) ∧ ∃ S', CStep wr M.c s.c w' S' (1000 + i * 400 + 1) ∧ S'.cm M.c = s.c.cm M.c) := Lib.hid (by
     refine (C_Status HR.out.st.at_.c (by omega) 1 (st, y) hx).mono ?_
     rintro e w' ⟨he, k'⟩
     exact ⟨he, _, k', rfl⟩)
    have HX := Lib.hid (And.intro hx (And.intro hst hN))
    clear hx hN
    go_wp2_with fail
    refine HC.out.mono ?_
    rintro e w6 ⟨rfl, rfl⟩
    go_wp2_with fail
    refine HSt.out.mono ?_
    rintro e w7 ⟨rfl, S7, k7, hm7⟩
    have H7 := Lib.hid (And.intro (MStep.core HR.out.st.at_ k7) hm7)
    have HC7 := Lib.hid (M_Core H7.out.1.at_)
    have HCa : RowKit.Hid (Calls Tryz.prog 23 #[.pointer (some ⟨M.c.cb, 0, none⟩), .int .i64 2] w7 fun e w' => e = .returned (.int .i64 (if st = 2 then 0 else 8)) ∧ ∃ S', CStep w7 M.c S7 w' S' (1000 + i * 400 + 1 + 20) ∧ S'.cm M.c = if st = 2 then (S7.cm M.c).cancel 1 (st, y) else S7.cm M.c) := Lib.hid (by
     have hrows : S7.t.rows = s.c.t.rows := congrArg CM.rows hm7
     have hP := HR.out.P
     have hq7 : (S7.q.q M.c.q.k).Ok := by
      have e : S7.q.q M.c.q.k = s.c.q.q M.c.q.k := congrArg CM.q hm7
      rw [e]
      exact hP.J.ok
     have hst := HX.out.2.1
     refine C_Cancel k7.at_ (by have := HX.out.2.2; omega) hq7 ((congrArg CM.d hm7).trans hP.J.d) 1 (st, y) (by rw [hrows]; exact HX.out.1) (by show 1 ≤ st; omega) (by show st ≤ 6; omega) (fun e => ?_) (by show st ≠ 1; omega)
     have e : st = 2 := e
     have ho := hP.J.o
     have hin := hP.J.rq 1 y (by have := HX.out.1; rw [e] at this; exact this)
     have hlen := wo_len hP.J.ok.ids hin
     have e2 : S7.o = s.c.o := congrArg CM.o hm7
     have ho : s.c.o = (((s.mm M).c.q.all.length + (s.mm M).runs : Nat) : Int) := ho
     rw [e2]
     omega)
    clear k7 hm7 HC HSt
    go_wp2_with fail
    refine HC7.out.mono ?_
    rintro e w8 ⟨rfl, rfl⟩
    go_wp2_with fail
    refine HCa.out.mono ?_
    rintro e w8 ⟨rfl, S8, k8, hm8⟩
    by_cases h2 : st = 2
    ·
     rw [if_pos h2, H7.out.2] at hm8
     rw [if_pos h2]
     subst h2
     have HPk : RowKit.Hid (Calls Tryz.prog 24 #[.pointer (some ⟨M.mp, 0, none⟩), .int .u64 p, .int .u64 dd] w8.drew fun e w' => (∃ kd : Int, e = .returned (.int .i64 kd)) ∧ ∃ s', PpAt w2 M s1 kk i (i + 1) s' true true 0 w') := Lib.hid (by
      have em : ({ s with c := S8 } : MS).mm M = ⟨(s.mm M).c.cancel 1 (2, y), (s.mm M).ws⟩ := by
       unfold MS.mm
       dsimp only
       rw [hm8]
      have hms := (HR.out.st.trans H7.out.1).trans (MStep.core H7.out.1.at_ k8)
      exact PpAt.pick (s := { s with c := S8 }) ((hms.trans (MStep.below hms.at_ (below_dr (Below.refl _ _)))).up (by omega)) (by rw [em]; exact HR.out.P.cancel HX.out.1) (by rw [em]; exact HR.out.cl) (.inr ⟨rfl, by omega, .inl ⟨rfl, rfl⟩⟩) hlt H1.out.2.2.2.1 p hp2 dd dd0 dd1)
     clear k8 hm8 HC7 HCa hst
     go_upto_region 19 with fail
     refine wp_region_still_tail 8 (by kernel_rfl) (by kernel_rfl) ?_
     simp only [List.take_succ_cons, List.take_zero, List.drop_succ_cons, List.drop_zero]
     iterate 8 still_step
     refine wpStill_nil ?_
     change wpList _ _ _ _ _ w8.drew
     go_wp2_with fail
     refine HPk.out.mono ?_
     rintro e w9 ⟨⟨kd, rfl⟩, s9, h9⟩
     have HN := Lib.hid h9
     clear h9
     go_wp2_with fail
     go_roundg (20 - (i + 1))
     case measure => omega
     case rel => exact ⟨i + 1, s9, _, _, _, by omega, by omega, rfl, rfl, by go_num, (show Aside _ from HN.out)⟩
    ·
     rw [if_neg h2, H7.out.2] at hm8
     rw [if_neg h2]
     have hs2 : (st == 2) = false := by rw [beq_eq_false_iff_ne]; exact h2
     have HPk : RowKit.Hid (Calls Tryz.prog 24 #[.pointer (some ⟨M.mp, 0, none⟩), .int .u64 p, .int .u64 dd] w8.drew fun e w' => (∃ kd : Int, e = .returned (.int .i64 kd)) ∧ ∃ s', PpAt w2 M s1 kk i (i + 1) s' false true 8 w') := Lib.hid (by
      have em : ({ s with c := S8 } : MS).mm M = s.mm M := by
       unfold MS.mm
       dsimp only
       rw [hm8]
      have hms := (HR.out.st.trans H7.out.1).trans (MStep.core H7.out.1.at_ k8)
      exact PpAt.pick (s := { s with c := S8 }) ((hms.trans (MStep.below hms.at_ (below_dr (Below.refl _ _)))).up (by omega)) (by rw [em]; exact HR.out.P) (by rw [em]; exact HR.out.cl) (.inr ⟨rfl, by omega, .inr ⟨rfl, rfl⟩⟩) hlt H1.out.2.2.2.1 p hp2 dd dd0 dd1)
     clear k8 hm8 HC7 HCa hst h2
     go_upto_region 19 with fail
     refine wp_region_still_tail 8 (by kernel_rfl) (by kernel_rfl) ?_
     simp only [List.take_succ_cons, List.take_zero, List.drop_succ_cons, List.drop_zero]
     iterate 8 still_step
     refine wpStill_nil ?_
     change wpList _ _ _ _ _ w8.drew
     go_wp2_with fail
     refine HPk.out.mono ?_
     rintro e w9 ⟨⟨kd, rfl⟩, s9, h9⟩
     have HN := Lib.hid h9
     clear h9
     go_wp2_with fail
     go_roundg (20 - (i + 1))
     case measure => omega
     case rel => exact ⟨i + 1, s9, _, _, _, by omega, by omega, rfl, rfl, by go_num, (show Aside _ from HN.out)⟩
   ·
    have hne : ((i : Int) == (q : Int)) = false := by rw [beq_eq_false_iff_ne]; omega
    have HPk : RowKit.Hid (Calls Tryz.prog 24 #[.pointer (some ⟨M.mp, 0, none⟩), .int .u64 p, .int .u64 dd] wr.drew fun e w' => (∃ kd : Int, e = .returned (.int .i64 kd)) ∧ ∃ s', PpAt w2 M s1 kk q (i + 1) s' b asked late w') := Lib.hid (by
     have hm := HR.out.st
     refine PpAt.pick (s := s) ((hm.trans (MStep.below hm.at_ (below_dr (Below.refl _ _)))).up (by omega)) HR.out.P HR.out.cl ?_ hlt H1.out.2.2.2.1 p hp2 dd dd0 dd1
     rcases HR.out.as_ with ⟨e1, e2, e3, e4⟩ | ⟨e1, e2, e3⟩
     · exact .inl ⟨e1, e2, e3, by omega⟩
     · exact .inr ⟨e1, by omega, e3⟩)
    go_upto_region 19 with fail
    refine wp_region_still_tail 8 (by kernel_rfl) (by kernel_rfl) ?_
    simp only [List.take_succ_cons, List.take_zero, List.drop_succ_cons, List.drop_zero]
    iterate 8 still_step
    refine wpStill_nil ?_
    change wpList _ _ _ _ _ wr.drew
    go_wp2_with fail
    refine HPk.out.mono ?_
    rintro e w9 ⟨⟨kd, rfl⟩, s9, h9⟩
    have HN := Lib.hid h9
    clear h9
    go_wp2_with fail
    go_roundg (20 - (i + 1))
    case measure => omega
    case rel => exact ⟨i + 1, s9, _, _, _, by omega, by omega, rfl, rfl, by go_num, (show Aside _ from HN.out)⟩
  ·
   have hltz : ¬ (i : Int) < 20 := by omega
   obtain rfl : i = 20 := by omega
   have HR := Lib.hid hR.out
   clear hR hlt hi
   rcases HR.out.as_ with ⟨rfl, rfl, rfl, -⟩ | ⟨rfl, -, ⟨rfl, rfl⟩ | ⟨rfl, rfl⟩⟩
   ·
    have HCL : RowKit.Hid (Calls Tryz.prog 15 #[.pointer (some ⟨M.mp, 0, none⟩), .int .u64 d] wr fun e w' => ∃ (n : Int) (a : Option Addr) (cap : Nat), e = .returned (.tuple #[.agg #[.int .i64 2, .int .i64 0, .int .i64 0, .slice a 0 cap, .int .i64 n], .bool true]) ∧ ∃ s', MStep wr M s w' s' 60000 ∧ JP false kk (s'.mm M) ∧ (s'.mm M).quiet = true) := Lib.hid (D_CloseP HR.out.st.at_ (by decide) HR.out.P HR.out.cl H1.out.2.2.2.1 d d0 d1)
    go_wp2_with fail
    refine HCL.out.mono ?_
    rintro e w5 ⟨n, a, cap, rfl, s5, k5, hP5, hq5⟩
    obtain ⟨W6, hW6⟩ : ∃ W6, w5.alloc (.cells #[.int .i64 2, .int .i64 0, .int .i64 0, .slice a 0 cap, .int .i64 n] 35) = W6 := ⟨_, rfl⟩
    have hb6 : Below w5.heap.size w5 W6 := by rw [← hW6]; exact below_al (Below.refl _ _) _
    have x6 : W6.heap[w5.heap.size]? = some (.cells #[.int .i64 2, .int .i64 0, .int .i64 0, .slice a 0 cap, .int .i64 n] 35 (0, 0)) := by rw [← hW6]; exact heap_alloc_new w5 _
    have hm6 := k5.at_.below hb6
    have hbn := hm6.c.bnd
    have hev : s5.c.evs.length ≤ 100000 := by have := hbn.2.2.1; omega
    have HC6 := Lib.hid (M_Core hm6)
    have HE6 := Lib.hid (C_Events hm6.c hev)
    obtain ⟨y0, y1, -, hlen, htwo⟩ := hP5.end_ hq5
    have hlen : (clmE s5.c.evs).length = 2 := hlen
    have HF := Lib.hid (And.intro (HR.out.st.trans k5) (And.intro hb6 (And.intro x6 (And.intro hev (And.intro hlen htwo)))))
    obtain ⟨b6, hb6n⟩ : ∃ b, w5.heap.size = b := ⟨_, rfl⟩
    have HW6 := Lib.hid hW6
    clear k5 hP5 hq5 hW6 hb6 x6 hm6 hbn hev hlen htwo HCL
    go_upto_region 24 with fail
    rw [HW6.out]
    rw [hb6n] at HF
    have HBN := Lib.hid hb6n
    clear hb6n
    go_wp2_with fail
    refine HC6.out.mono ?_
    rintro e w7 ⟨rfl, rfl⟩
    go_wp2_with fail
    refine HE6.out.mono ?_
    rintro e w8 ⟨v8, rfl, hv8, hb8⟩
    have HV8 := Lib.hid (V_Claims HF.out.2.2.2.1 hv8)
    have HB8 := Lib.hid hb8
    clear hv8 hb8
    go_wp2_with fail
    refine HV8.out.mono ?_
    rintro e w9 ⟨v9, rfl, ho9, hb9⟩
    have hb79 : Below w7.heap.size w7 w9 := below_step hb9 HB8.out
    obtain ⟨e0, e1, hc2, hne⟩ := HF.out.2.2.2.2.2 (by trivial)
    have hc2 : clmE s5.c.evs = [e0, e1] := hc2
    rw [hc2] at ho9
    obtain ⟨x0, hx0⟩ : ∃ x, e0.id = x := ⟨_, rfl⟩
    obtain ⟨x1, hx1⟩ : ∃ x, e1.id = x := ⟨_, rfl⟩
    obtain ⟨a9, c9, rfl, z0, z1⟩ := two_claims ho9
    rw [hx0] at z0 hne
    rw [hx1] at z1 hne
    have hne0 : (x0 == x1) = false := by rw [beq_eq_false_iff_ne]; exact hne
    have hne1 : (x0 != x1) = true := by rw [bne, hne0]; rfl
    have x9 := (hb79.block _ (heap_lt HF.out.2.2.1)).trans HF.out.2.2.1
    obtain ⟨g0, g1, g2, g3, g4, -⟩ := cells5 x9
    have hu1 : IntKind.i64.wrap 1 = 1 := wrap_small (by decide) (by decide)
    have hu2 : IntKind.i64.wrap 2 = 2 := wrap_small (by decide) (by decide)
    have HE := Lib.hid (show Below W.heap.size W w9 from below_step hb79 (below_step (show Below w5.heap.size w5 w7 from (congrArg (fun n => Below n w5 w7) HBN.out.symm).mp HF.out.2.1) (HF.out.1.fresh H1.out.2.2.2.2.2.2.2 H1.out.2.2.2.2.2.2.1)))
    clear hb79 x9 ho9 hb9
    go_upto_region 25 with fail
    refine wp_region_still_tail 38 (by kernel_rfl) (by kernel_rfl) ?_
    simp only [List.take_succ_cons, List.take_zero, List.drop_succ_cons, List.drop_zero]
    refine still_hide fun Qh hQh => ?_
    iterate 38 still_step
    refine wpStill_nil (hQh _ ?_)
    clear hQh Qh
    change wpList _ _ _ _ _ w9.drew
    go_wp2_with fail
    refine (V_awake _).mono ?_
    rintro e w11 ⟨rfl, hb11⟩
    have HB11 := Lib.hid hb11
    clear hb11
    go_wp2_with fail
    go_ret
    exact ⟨rfl, below_step HB11.out (below_dr HE.out)⟩
   ·
    have HCL : RowKit.Hid (Calls Tryz.prog 15 #[.pointer (some ⟨M.mp, 0, none⟩), .int .u64 d] wr fun e w' => ∃ (n : Int) (a : Option Addr) (cap : Nat), e = .returned (.tuple #[.agg #[.int .i64 1, .int .i64 0, .int .i64 1, .slice a 0 cap, .int .i64 n], .bool true]) ∧ ∃ s', MStep wr M s w' s' 60000 ∧ JP true kk (s'.mm M) ∧ (s'.mm M).quiet = true) := Lib.hid (D_CloseP HR.out.st.at_ (by decide) HR.out.P HR.out.cl H1.out.2.2.2.1 d d0 d1)
    go_wp2_with fail
    refine HCL.out.mono ?_
    rintro e w5 ⟨n, a, cap, rfl, s5, k5, hP5, hq5⟩
    obtain ⟨W6, hW6⟩ : ∃ W6, w5.alloc (.cells #[.int .i64 1, .int .i64 0, .int .i64 1, .slice a 0 cap, .int .i64 n] 35) = W6 := ⟨_, rfl⟩
    have hb6 : Below w5.heap.size w5 W6 := by rw [← hW6]; exact below_al (Below.refl _ _) _
    have x6 : W6.heap[w5.heap.size]? = some (.cells #[.int .i64 1, .int .i64 0, .int .i64 1, .slice a 0 cap, .int .i64 n] 35 (0, 0)) := by rw [← hW6]; exact heap_alloc_new w5 _
    have hm6 := k5.at_.below hb6
    have hbn := hm6.c.bnd
    have hev : s5.c.evs.length ≤ 100000 := by have := hbn.2.2.1; omega
    have HC6 := Lib.hid (M_Core hm6)
    have HE6 := Lib.hid (C_Events hm6.c hev)
    obtain ⟨y0, y1, -, hlen, htwo⟩ := hP5.end_ hq5
    have hlen : (clmE s5.c.evs).length = 1 := hlen
    have HF := Lib.hid (And.intro (HR.out.st.trans k5) (And.intro hb6 (And.intro x6 (And.intro hev (And.intro hlen htwo)))))
    obtain ⟨b6, hb6n⟩ : ∃ b, w5.heap.size = b := ⟨_, rfl⟩
    have HW6 := Lib.hid hW6
    clear k5 hP5 hq5 hW6 hb6 x6 hm6 hbn hev hlen htwo HCL
    go_upto_region 24 with fail
    rw [HW6.out]
    rw [hb6n] at HF
    have HBN := Lib.hid hb6n
    clear hb6n
    go_wp2_with fail
    refine HC6.out.mono ?_
    rintro e w7 ⟨rfl, rfl⟩
    go_wp2_with fail
    refine HE6.out.mono ?_
    rintro e w8 ⟨v8, rfl, hv8, hb8⟩
    have HV8 := Lib.hid (V_Claims HF.out.2.2.2.1 hv8)
    have HB8 := Lib.hid hb8
    clear hv8 hb8
    go_wp2_with fail
    refine HV8.out.mono ?_
    rintro e w9 ⟨v9, rfl, ho9, hb9⟩
    have hb79 : Below w7.heap.size w7 w9 := below_step hb9 HB8.out
    rw [HF.out.2.2.2.2.1] at ho9
    obtain ⟨a9, c9, rfl, -⟩ := SlV.clip (SlV.of_owns ho9)
    have x9 := (hb79.block _ (heap_lt HF.out.2.2.1)).trans HF.out.2.2.1
    obtain ⟨g0, g1, g2, g3, g4, -⟩ := cells5 x9
    have hu1 : IntKind.i64.wrap 1 = 1 := wrap_small (by decide) (by decide)
    have hu2 : IntKind.i64.wrap 2 = 2 := wrap_small (by decide) (by decide)
    have HE := Lib.hid (show Below W.heap.size W w9 from below_step hb79 (below_step (show Below w5.heap.size w5 w7 from (congrArg (fun n => Below n w5 w7) HBN.out.symm).mp HF.out.2.1) (HF.out.1.fresh H1.out.2.2.2.2.2.2.2 H1.out.2.2.2.2.2.2.1)))
    clear hb79 x9 ho9 hb9
    go_upto_region 25 with fail
    refine wp_region_still_tail 38 (by kernel_rfl) (by kernel_rfl) ?_
    simp only [List.take_succ_cons, List.take_zero, List.drop_succ_cons, List.drop_zero]
    refine still_hide fun Qh hQh => ?_
    iterate 26 still_step
    iterate 12 (refine no_implicit_lambda% (wpStill_step ?_); intro K hK; go_simp; refine hK _ ?_; clear hK K)
    refine wpStill_nil (hQh _ ?_)
    clear hQh Qh
    change wpList _ _ _ _ _ w9.drew
    go_wp2_with fail
    refine (V_awake _).mono ?_
    rintro e w11 ⟨rfl, hb11⟩
    have HB11 := Lib.hid hb11
    clear hb11
    go_wp2_with fail
    go_ret
    exact ⟨rfl, below_step HB11.out (below_dr HE.out)⟩
   ·
    have HCL : RowKit.Hid (Calls Tryz.prog 15 #[.pointer (some ⟨M.mp, 0, none⟩), .int .u64 d] wr fun e w' => ∃ (n : Int) (a : Option Addr) (cap : Nat), e = .returned (.tuple #[.agg #[.int .i64 2, .int .i64 0, .int .i64 0, .slice a 0 cap, .int .i64 n], .bool true]) ∧ ∃ s', MStep wr M s w' s' 60000 ∧ JP false kk (s'.mm M) ∧ (s'.mm M).quiet = true) := Lib.hid (D_CloseP HR.out.st.at_ (by decide) HR.out.P HR.out.cl H1.out.2.2.2.1 d d0 d1)
    go_wp2_with fail
    refine HCL.out.mono ?_
    rintro e w5 ⟨n, a, cap, rfl, s5, k5, hP5, hq5⟩
    obtain ⟨W6, hW6⟩ : ∃ W6, w5.alloc (.cells #[.int .i64 2, .int .i64 0, .int .i64 0, .slice a 0 cap, .int .i64 n] 35) = W6 := ⟨_, rfl⟩
    have hb6 : Below w5.heap.size w5 W6 := by rw [← hW6]; exact below_al (Below.refl _ _) _
    have x6 : W6.heap[w5.heap.size]? = some (.cells #[.int .i64 2, .int .i64 0, .int .i64 0, .slice a 0 cap, .int .i64 n] 35 (0, 0)) := by rw [← hW6]; exact heap_alloc_new w5 _
    have hm6 := k5.at_.below hb6
    have hbn := hm6.c.bnd
    have hev : s5.c.evs.length ≤ 100000 := by have := hbn.2.2.1; omega
    have HC6 := Lib.hid (M_Core hm6)
    have HE6 := Lib.hid (C_Events hm6.c hev)
    obtain ⟨y0, y1, -, hlen, htwo⟩ := hP5.end_ hq5
    have hlen : (clmE s5.c.evs).length = 2 := hlen
    have HF := Lib.hid (And.intro (HR.out.st.trans k5) (And.intro hb6 (And.intro x6 (And.intro hev (And.intro hlen htwo)))))
    obtain ⟨b6, hb6n⟩ : ∃ b, w5.heap.size = b := ⟨_, rfl⟩
    have HW6 := Lib.hid hW6
    clear k5 hP5 hq5 hW6 hb6 x6 hm6 hbn hev hlen htwo HCL
    go_upto_region 24 with fail
    rw [HW6.out]
    rw [hb6n] at HF
    have HBN := Lib.hid hb6n
    clear hb6n
    go_wp2_with fail
    refine HC6.out.mono ?_
    rintro e w7 ⟨rfl, rfl⟩
    go_wp2_with fail
    refine HE6.out.mono ?_
    rintro e w8 ⟨v8, rfl, hv8, hb8⟩
    have HV8 := Lib.hid (V_Claims HF.out.2.2.2.1 hv8)
    have HB8 := Lib.hid hb8
    clear hv8 hb8
    go_wp2_with fail
    refine HV8.out.mono ?_
    rintro e w9 ⟨v9, rfl, ho9, hb9⟩
    have hb79 : Below w7.heap.size w7 w9 := below_step hb9 HB8.out
    obtain ⟨e0, e1, hc2, hne⟩ := HF.out.2.2.2.2.2 (by trivial)
    have hc2 : clmE s5.c.evs = [e0, e1] := hc2
    rw [hc2] at ho9
    obtain ⟨x0, hx0⟩ : ∃ x, e0.id = x := ⟨_, rfl⟩
    obtain ⟨x1, hx1⟩ : ∃ x, e1.id = x := ⟨_, rfl⟩
    obtain ⟨a9, c9, rfl, z0, z1⟩ := two_claims ho9
    rw [hx0] at z0 hne
    rw [hx1] at z1 hne
    have hne0 : (x0 == x1) = false := by rw [beq_eq_false_iff_ne]; exact hne
    have hne1 : (x0 != x1) = true := by rw [bne, hne0]; rfl
    have x9 := (hb79.block _ (heap_lt HF.out.2.2.1)).trans HF.out.2.2.1
    obtain ⟨g0, g1, g2, g3, g4, -⟩ := cells5 x9
    have hu1 : IntKind.i64.wrap 1 = 1 := wrap_small (by decide) (by decide)
    have hu2 : IntKind.i64.wrap 2 = 2 := wrap_small (by decide) (by decide)
    have HE := Lib.hid (show Below W.heap.size W w9 from below_step hb79 (below_step (show Below w5.heap.size w5 w7 from (congrArg (fun n => Below n w5 w7) HBN.out.symm).mp HF.out.2.1) (HF.out.1.fresh H1.out.2.2.2.2.2.2.2 H1.out.2.2.2.2.2.2.1)))
    clear hb79 x9 ho9 hb9
    go_upto_region 25 with fail
    refine wp_region_still_tail 38 (by kernel_rfl) (by kernel_rfl) ?_
    simp only [List.take_succ_cons, List.take_zero, List.drop_succ_cons, List.drop_zero]
    refine still_hide fun Qh hQh => ?_
    iterate 38 still_step
    refine wpStill_nil (hQh _ ?_)
    clear hQh Qh
    change wpList _ _ _ _ _ w9.drew
    go_wp2_with fail
    refine (V_awake _).mono ?_
    rintro e w11 ⟨rfl, hb11⟩
    have HB11 := Lib.hid hb11
    clear hb11
    go_wp2_with fail
    go_ret
    exact ⟨rfl, below_step HB11.out (below_dr HE.out)⟩
end
end Go.Proofs.YtcfhkbcllijnkaaGreat
