/- Parts of the proof of TopOnce, under no condition. -/
import Derived.Test.YtcfhkbcllijnkaaGreatZTopOncebr
import Derived.Test.YtcfhkbcllijnkaaGreatZTopOncebt
set_option linter.unusedVariables false
set_option linter.unusedSimpArgs false
set_option maxRecDepth 100000
set_option maxHeartbeats 0
namespace Go.Proofs.YtcfhkbcllijnkaaGreat
open Go.RowKit
def ids (l : List En) : List Int := l.map (·.id)
def Ev1 (c c' : CM) : Prop := c'.q.all.length ≤ c.q.all.length ∧ ((c'.rows = c.rows ∧ zct c'.evs = zct c.evs) ∨ (∃ (k : Nat) (y : Tk) (en : En), c.rows[k]? = some (2, y) ∧ c'.rows = c.rows.set k (3, y) ∧ zct c'.evs = zct c.evs ++ [en] ∧ en.id = (k : Int) + 1) ∨ (∃ (k : Nat) (y y' : Tk), c.rows[k]? = some (3, y) ∧ c'.rows = c.rows.set k (4, y') ∧ zct c'.evs = zct c.evs))
theorem zfn (l : List Ev) (e : Ev) (h : e.kind ≠ 3) : zct (l ++ [e]) = zct l := by rw [zhl, if_neg h, List.append_nil]
theorem J.ev1 {al : Int → Prop} {T k : Nat} {m : MM} (h : J al T k m) {t : Nat} (ht : t < T) (d : Int) : Ev1 m.c (m.step t d).c := by
 obtain ⟨w, hw⟩ : ∃ w, m.ws[t]? = some w := ⟨_, yyg (by rw [h.wl]; exact ht)⟩
 have hstep : (m.step t d).c = (m.c.wstep t d w).1 := by unfold MM.step; rw [hw]
 rw [hstep]
 rcases h.wk t w hw with h0 | ⟨h1, hid, x, hx, hke⟩ | ⟨h2, hid, ⟨y, hy⟩, hpc, hbad⟩
 ·
  by_cases hf : m.c.q.fullAt t = true
  · have e : m.c.wstep t d w = ({ m.c with q := m.c.q.settle t }, w, 1) := by unfold CM.wstep; rw [if_pos h0, if_pos hf]
    rw [e]
    exact ⟨Nat.le_of_eq (zdl m.c.q t).length_eq, .inl ⟨rfl, rfl⟩⟩
  ·
   cases hl : m.c.look t d with
   | none =>
    have e : m.c.wstep t d w = (m.c, w, 0) := by unfold CM.wstep; rw [if_pos h0, if_neg hf, hl]
    rw [e]
    exact ⟨yyn, .inl ⟨rfl, rfl⟩⟩
   | some en =>
    have e : m.c.wstep t d w = ({ m.c with evs := m.c.evs ++ [⟨10, t, en.id, en.key, m.c.tick⟩] }, ⟨1, en, w.pc, w.bad⟩, 2) := by unfold CM.wstep; rw [if_pos h0, if_neg hf, hl]
    rw [e]
    exact ⟨yyn, .inl ⟨rfl, zfn _ _ (by show (10 : Int) ≠ 3; decide)⟩⟩
 ·
  have hn0 : ¬ w.ph = 0 := by omega
  by_cases hs2 : x.1 = 2
  ·
   obtain ⟨s, y⟩ := x
   have hs2 : s = 2 := hs2
   subst hs2
   have hk := hke rfl
   have e : m.c.wstep t d w = (m.c.claim t (w.e.id - 1).toNat (2, y) w.e.key, ⟨2, w.e, 0, false⟩, 3) := by
    unfold CM.wstep
    rw [if_neg hn0, if_pos h1, hx]
    dsimp only
    rw [if_pos (by rw [hk]; simp)]
   rw [e]
   refine ⟨?_, .inr (.inl ⟨_, y, ⟨w.e.key, (((w.e.id - 1).toNat : Nat) : Int) + 1⟩, hx, rfl, ?_, rfl⟩)⟩
   · show (m.c.q.take _).all.length ≤ _
     rw [zgi]
     exact List.length_filter_le _ _
   · show zct (m.c.evs ++ [_]) = _
     rw [zhl, if_pos rfl]
  ·
   have e : m.c.wstep t d w = (m.c, wk0, 4) := by
    unfold CM.wstep
    rw [if_neg hn0, if_pos h1, hx]
    dsimp only
    rw [if_neg (by simp [hs2])]
   rw [e]
   exact ⟨yyn, .inl ⟨rfl, rfl⟩⟩
 ·
  have hn0 : ¬ w.ph = 0 := by omega
  have hn1 : ¬ w.ph = 1 := by omega
  have hL := (h.ro _ _ hy).2
  have e : m.c.wstep t d w = (m.c.fin t (w.e.id - 1).toNat (3, y), wk0, 6) := by
   unfold CM.wstep
   rw [if_neg hn0, if_neg hn1, hy]
   dsimp only
   have hL : y.L = [] := hL
   rw [hL]
   show (m.c.finish t (w.e.id - 1).toNat (3, y), wk0, 6) = _
   unfold CM.finish
   rw [h.d]
   rfl
  rw [e]
  exact ⟨yyn, .inr (.inr ⟨_, y, y.ran, hy, rfl, zfn _ _ (by show (4 : Int) ≠ 3; decide)⟩)⟩
structure Cl (c : CM) : Prop where
 nd : (ids (zct c.evs)).Nodup
 cl : ∀ (i : Nat) x, c.rows[i]? = some x → ((i : Int) + 1 ∈ ids (zct c.evs) ↔ (x.1 = 3 ∨ x.1 = 4))
 rg : ∀ id ∈ ids (zct c.evs), 1 ≤ id ∧ id ≤ c.rows.length
theorem Cl.ev1 {c c' : CM} (h : Cl c) (e : Ev1 c c') : Cl c' := by
 obtain ⟨-, ⟨hr, he⟩ | ⟨k, y, en, hk, hr, he, hen⟩ | ⟨k, y, y', hk, hr, he⟩⟩ := e
 · exact ⟨by rw [he]; exact h.nd, by rw [he, hr]; exact h.cl, by rw [he, hr]; exact h.rg⟩
 ·
  have hnot : en.id ∉ ids (zct c.evs) := fun hin => by
   rw [hen] at hin
   rcases (h.cl k _ hk).1 hin with e | e
   · exact absurd e (show ¬ (2 : Int) = 3 by decide)
   · exact absurd e (show ¬ (2 : Int) = 4 by decide)
  have hi : ids (zct c'.evs) = ids (zct c.evs) ++ [en.id] := by rw [he]; simp [ids]
  have hkl := (yyk.1 hk).1
  refine ⟨?_, fun i x hx => ?_, fun id hid => ?_⟩
  ·
   rw [hi, List.nodup_append]
   refine ⟨h.nd, by simp, fun a ha b hb e => ?_⟩
   have hb : b = en.id := by simpa using hb
   rw [e, hb] at ha
   exact hnot ha
  ·
   rw [hi, List.mem_append, List.mem_singleton, hen]
   rw [hr] at hx
   rcases zbg hx with ⟨rfl, rfl⟩ | ⟨hne, hx⟩
   · exact ⟨fun _ => .inl rfl, fun _ => .inr rfl⟩
   · rw [h.cl i x hx]
     exact ⟨fun e => e.elim (fun e => e) (fun e => by omega), .inl⟩
  ·
   rw [hi, List.mem_append, List.mem_singleton] at hid
   rw [hr, List.length_set]
   rcases hid with hid | hid
   · exact h.rg id hid
   · rw [hid, hen]
     omega
 ·
  refine ⟨by rw [he]; exact h.nd, fun i x hx => ?_, by rw [he, hr, List.length_set]; exact h.rg⟩
  rw [he]
  rw [hr] at hx
  rcases zbg hx with ⟨rfl, rfl⟩ | ⟨hne, hx⟩
  · rw [h.cl i _ hk]
    exact ⟨fun _ => .inr rfl, fun _ => .inl rfl⟩
  · exact h.cl i x hx
variable {b : Bool} {k : Nat} {m : MM}
def MM.sb (m : MM) (t : Nat) (prio : Int) : MM := ⟨m.c.sub t prio [], m.ws⟩
def n2 (x : Int × Tk) : Nat := if x.1 = 2 then 1 else 0
structure On (T k : Nat) (m : MM) : Prop where
 J : J (· = 4) T k m
 Cl : Cl m.c
 cn : (zct m.c.evs).length + (m.c.rows.map n2).sum = m.c.rows.length
 al : m.c.q.all.length ≤ m.c.rows.length
 cl : m.c.closed = false
section
variable {T k : Nat} {m : MM}
theorem On.step (h : On T k m) (h8 : T ≤ 8) {t : Nat} (ht : t < T) (d : Int) : On T k (m.step t d) ∧ (m.step t d).c.rows.length = m.c.rows.length := by
 obtain ⟨j1, j2, -⟩ := h.J.step h8 ht d
 have e := h.J.ev1 ht d
 refine ⟨⟨j1, h.Cl.ev1 e, ?_, ?_, by rw [zl3]; exact h.cl⟩, j2⟩
 ·
  have hc := h.cn
  obtain ⟨-, ⟨hr, he⟩ | ⟨i, y, en, hk, hr, he, -⟩ | ⟨i, y, y', hk, hr, he⟩⟩ := e
  · rw [hr, he]; exact hc
  ·
   have hs := zc7 n2 hk ((3, y) : Int × Tk)
   have e1 : n2 (2, y) = 1 := rfl
   have e2 : n2 (3, y) = 0 := rfl
   rw [hr, he, List.length_append, List.length_set]
   show (zct m.c.evs).length + 1 + _ = _
   omega
  ·
   have hs := zc7 n2 hk ((4, y') : Int × Tk)
   have e1 : n2 (3, y) = 0 := rfl
   have e2 : n2 (4, y') = 0 := rfl
   rw [hr, he, List.length_set]
   omega
 · rw [j2]
   exact Nat.le_trans e.1 h.al
theorem On.rndN (h : On T k m) (h8 : T ≤ 8) (d : Int) (i : Nat) (hi : i ≤ T) : On T k (m.rndN d i) ∧ (m.rndN d i).c.rows.length = m.c.rows.length := by
 induction i with
 | zero => exact ⟨h, rfl⟩
 | succ i ih =>
  obtain ⟨h1, h2⟩ := ih (by omega)
  obtain ⟨h3, h4⟩ := h1.step h8 (show i < T by omega) d
  exact ⟨h3, h4.trans h2⟩
theorem On.rest (h : On T k m) (h8 : T ≤ 8) (d : Int) (j : Nat) : On T k (m.rest T d j) ∧ (m.rest T d j).c.rows.length = m.c.rows.length := by
 induction j with
 | zero => exact ⟨h, rfl⟩
 | succ j ih =>
  obtain ⟨h1, h2⟩ := ih
  obtain ⟨h3, h4⟩ := h1.rndN h8 d T yyn
  exact ⟨h3, h4.trans h2⟩
theorem On.sb (h : On T k m) {t : Nat} (ht : t < T) (prio : Int) (hn : m.c.rows.length < 60) : On T k (m.sb t prio) ∧ (m.sb t prio).c.rows.length = m.c.rows.length + 1 := by
 have hal := h.al
 obtain ⟨j1, j2, j3⟩ := h.J.sub ht prio (by unfold NB; omega)
 have hr : (m.sb t prio).c.rows = m.c.rows ++ [(2, { zja prio [] with ke := ze7 m.c.tick (zcq prio) })] := by
  show (m.c.rows ++ [(2, zja prio [])]).set m.c.rows.length _ = _
  rw [List.set_append_right _ _ yyn, Nat.sub_self]
  rfl
 have hce : zct (m.sb t prio).c.evs = zct m.c.evs := by
  show zct ((m.c.evs ++ [_]) ++ [_]) = _
  rw [zfn _ _ (by show (2 : Int) ≠ 3; decide), zfn _ _ (by show (1 : Int) ≠ 3; decide)]
 refine ⟨⟨j1, ⟨by rw [hce]; exact h.Cl.nd, fun i x hx => ?_, fun id hid => ?_⟩, ?_, ?_, h.cl⟩, j2⟩
 ·
  rw [hr] at hx
  rw [hce]
  rcases zhe hx with hx | ⟨rfl, rfl⟩
  · exact h.Cl.cl i x hx
  ·
   refine ⟨fun hin => ?_, fun e => ?_⟩
   · have := (h.Cl.rg _ hin).2
     omega
   · rcases e with e | e <;> exact absurd e (by show ¬ (2 : Int) = _; decide)
 ·
  rw [hce] at hid
  have := h.Cl.rg id hid
  rw [hr, List.length_append]
  exact ⟨this.1, by have := this.2; push_cast; omega⟩
 ·
  have hc := h.cn
  rw [hce, hr, List.map_append, List.sum_append, List.length_append]
  show _ + (_ + ([1] : List Nat).sum) = _ + 1
  simp only [List.sum_cons, List.sum_nil, Nat.add_zero]
  omega
 ·
  have hp := (zpf m.c.q t ⟨ze7 m.c.tick (zcq prio), (m.c.rows.length : Int) + 1⟩ (by rw [h.J.sl]; exact ht) (h.J.ow.trans h.J.sl.symm)).length_eq
  have e : (m.sb t prio).c.q = m.c.q.put t ⟨ze7 m.c.tick (zcq prio), (m.c.rows.length : Int) + 1⟩ := rfl
  have j2' : (m.sb t prio).c.rows.length = m.c.rows.length + 1 := j2
  rw [List.length_cons] at hp
  rw [e, hp, j2']
  omega
theorem On.phi (h : On T k m) (h8 : T ≤ 8) (hn : m.c.rows.length ≤ 40) : m.phi ≤ 1000 := by
 have h1 := h.al
 have h2 := zsh m.c.q.slots
 rw [h.J.sl] at h2
 have h3 := zqd (fW m.c) (fun _ => 0) 2 (l := m.ws) (fun w _ => by have := zyj m.c w; omega)
 have h0 : (m.ws.map fun _ => 0).sum = 0 := by
  rw [List.sum_eq_zero_iff_forall_eq_nat]
  intro x hx
  obtain ⟨w, -, rfl⟩ := List.mem_map.1 hx
  rfl
 rw [h0, h.J.wl] at h3
 unfold MM.phi
 omega
theorem On.end_ (h : On T k m) (hq : m.quiet = true) : (zct m.c.evs).length = m.c.rows.length ∧ (∀ e ∈ zct m.c.evs, 1 ≤ e.id ∧ e.id ≤ m.c.rows.length) ∧ ∀ id : Int, 1 ≤ id → id ≤ m.c.rows.length → ∃ e ∈ zct m.c.evs, e.id = id := by
 obtain ⟨-, -, -, h4⟩ := h.J.quiet hq
 have hs : (m.c.rows.map n2).sum = 0 := by
  rw [List.sum_eq_zero_iff_forall_eq_nat]
  intro x hx
  obtain ⟨y, hy, rfl⟩ := List.mem_map.1 hx
  unfold n2
  rw [if_neg (by rw [h4 y hy]; decide)]
 have hc := h.cn
 refine ⟨by omega, fun e he => h.Cl.rg e.id (List.mem_map_of_mem he), fun id h1 h2 => ?_⟩
 obtain ⟨i, hi⟩ : ∃ i : Nat, (i : Int) + 1 = id := ⟨(id - 1).toNat, by omega⟩
 have hil : i < m.c.rows.length := by omega
 have := (h.Cl.cl i m.c.rows[i] (yyg hil)).2 (.inr (h4 _ (List.getElem_mem hil)))
 rw [hi] at this
 obtain ⟨e, he, hid⟩ := List.mem_map.1 this
 exact ⟨e, he, hid⟩
end
end Go.Proofs.YtcfhkbcllijnkaaGreat
namespace Go.Proofs.YtcfhkbcllijnkaaGreat
open Go.RowKit Go.Maps Go.Shelf Go.Proofs.YtcfhkbcllijnkaaGreatW.PrintWords
theorem zaz.noE {W : World} {M : MA} {s : MS} {N : Nat} (h : zaz W M s N) : NoE W (mWr M s) := fun j hj cur t e => by
 rcases hj with hj | hj | hj
 · exact h.c.ps.noE j hj cur t e
 ·
  rw [hj, h.m] at e
  injection e with e
  injection e with _ e _
  rw [← e]
  decide
 ·
  rw [hj, h.l] at e
  injection e with e
  injection e with _ e _
  rw [← e]
  decide
theorem zaz.up {W : World} {M : MA} {s : MS} {N N' : Nat} (h : zaz W M s N) (hN : N ≤ N') : zaz W M s N' := ⟨h.c.up hN, h.m, h.l, h.len, h.did, h.nm, h.nl⟩
theorem J.evn {al : Int → Prop} {T k : Nat} {m : MM} (hJ : J al T k m) {t : Nat} (ht : t < T) (d : Int) : (m.step t d).c.evs.length ≤ m.c.evs.length + 2 := by
 obtain ⟨w, hw⟩ : ∃ w, m.ws[t]? = some w := ⟨_, yyg (by rw [hJ.wl]; exact ht)⟩
 have hstep : (m.step t d).c = (m.c.wstep t d w).1 := by unfold MM.step; rw [hw]
 rw [hstep]
 have key : ∃ l, (m.c.wstep t d w).1.evs = m.c.evs ++ l ∧ l.length ≤ 2 := by
  unfold CM.wstep
  repeat' split
  all_goals first
   | exact ⟨[], (List.append_nil _).symm, by decide⟩
   | exact ⟨[_], rfl, Nat.succ_le_succ (Nat.zero_le _)⟩
   | (show ∃ l, (m.c.finish _ _ _).evs = _ ∧ _
      unfold CM.finish
      rw [hJ.d]
      exact ⟨[_], rfl, Nat.succ_le_succ (Nat.zero_le _)⟩)
   | exact ⟨[_, _], List.append_assoc _ _ _, Nat.le_refl 2⟩
 obtain ⟨l, hl, h2⟩ := key
 rw [hl, List.length_append]
 omega
theorem On.evN {T k : Nat} {m : MM} (h : On T k m) (h8 : T ≤ 8) (d : Int) (i : Nat) (hi : i ≤ T) : (m.rndN d i).c.evs.length ≤ m.c.evs.length + 2 * i := by
 induction i with
 | zero => exact yyn
 | succ i ih =>
  have h1 := ih (by omega)
  have h2 := (h.rndN h8 d i (by omega)).1.J.evn (show i < T by omega) d
  show ((m.rndN d i).step i d).c.evs.length ≤ _
  omega
theorem On.evR {T k : Nat} {m : MM} (h : On T k m) (h8 : T ≤ 8) (d : Int) (j : Nat) : (m.rest T d j).c.evs.length ≤ m.c.evs.length + 16 * j := by
 induction j with
 | zero => exact yyn
 | succ j ih =>
  have h2 := (h.rest h8 d j).1.evN h8 d T yyn
  show ((m.rest T d j).rndN d T).c.evs.length ≤ _
  omega
structure zkt (M : MA) (T k : Nat) (m : MM) (E B : Nat) (s : MS) (w : World) : Prop where
 at_ : zaz w M s B
 mm : s.mm M = m
 on : On T k m
 ev : m.c.evs.length ≤ E
 hT : M.c.q.lp.length = T
 hC : M.c.C = 64
structure zku (W0 : World) (T k : Nat) (M1 M2 M3 : MA) (m1 m2 m3 : MM) (bx : Option (Nat × Obj)) (E B : Nat) (s1 s2 s3 : MS) (w : World) : Prop where
 a1 : zkt M1 T k m1 E B s1 w
 a2 : zkt M2 T k m2 E B s2 w
 a3 : zkt M3 T k m3 E B s3 w
 d12 : ∀ j, zdp M1 s1 j → ¬ zdp M2 s2 j
 d23 : ∀ j, zdp M2 s2 j → ¬ zdp M3 s3 j
 d31 : ∀ j, zdp M3 s3 j → ¬ zdp M1 s1 j
 g1 : ∀ j, zdp M1 s1 j → W0.heap.size ≤ j
 g2 : ∀ j, zdp M2 s2 j → W0.heap.size ≤ j
 g3 : ∀ j, zdp M3 s3 j → W0.heap.size ≤ j
 bel : Below W0.heap.size W0 w
 box : ∀ b o, bx = some (b, o) → w.heap[b]? = some o ∧ ¬ zdp M1 s1 b ∧ ¬ zdp M2 s2 b ∧ ¬ zdp M3 s3 b
def Tri (W0 : World) (T k : Nat) (M1 M2 M3 : MA) (m1 m2 m3 : MM) (bx : Option (Nat × Obj)) (E B : Nat) (w : World) : Prop := ∃ s1 s2 s3, zku W0 T k M1 M2 M3 m1 m2 m3 bx E B s1 s2 s3 w
section
variable {W0 w w' : World} {T k : Nat} {M M1 M2 M3 : MA} {m m1 m2 m3 : MM} {bx : Option (Nat × Obj)} {E E' B B' : Nat} {s s1 s2 s3 s1' : MS}
theorem zkt.below (h : zkt M T k m E B s w) (hb : Below w.heap.size w w') : zkt M T k m E B s w' := ⟨h.at_.below hb, h.mm, h.on, h.ev, h.hT, h.hC⟩
theorem zkt.up (h : zkt M T k m E B s w) (hE : E ≤ E') (hB : B ≤ B') : zkt M T k m E' B' s w := ⟨h.at_.up hB, h.mm, h.on, Nat.le_trans h.ev hE, h.hT, h.hC⟩
theorem Tri.rot (h : Tri W0 T k M1 M2 M3 m1 m2 m3 bx E B w) : Tri W0 T k M2 M3 M1 m2 m3 m1 bx E B w := by
 obtain ⟨s1, s2, s3, h⟩ := h
 exact ⟨s2, s3, s1, h.a2, h.a3, h.a1, h.d23, h.d31, h.d12, h.g2, h.g3, h.g1, h.bel, fun b o hb => by obtain ⟨x, y, z, u⟩ := h.box b o hb; exact ⟨x, z, u, y⟩⟩
theorem zku.below (h : zku W0 T k M1 M2 M3 m1 m2 m3 bx E B s1 s2 s3 w) (hb : Below w.heap.size w w') : zku W0 T k M1 M2 M3 m1 m2 m3 bx E B s1 s2 s3 w' :=
 ⟨h.a1.below hb, h.a2.below hb, h.a3.below hb, h.d12, h.d23, h.d31, h.g1, h.g2, h.g3, zad hb h.bel, fun b o hx => by obtain ⟨x, y⟩ := h.box b o hx; exact ⟨(hb.block b (zac x)).trans x, y⟩⟩
theorem Tri.below (h : Tri W0 T k M1 M2 M3 m1 m2 m3 bx E B w) (hb : Below w.heap.size w w') : Tri W0 T k M1 M2 M3 m1 m2 m3 bx E B w' := by
 obtain ⟨s1, s2, s3, h⟩ := h
 exact ⟨s1, s2, s3, h.below hb⟩
theorem Tri.up (h : Tri W0 T k M1 M2 M3 m1 m2 m3 bx E B w) (hE : E ≤ E') (hB : B ≤ B') : Tri W0 T k M1 M2 M3 m1 m2 m3 bx E' B' w := by
 obtain ⟨s1, s2, s3, h⟩ := h
 exact ⟨s1, s2, s3, h.a1.up hE hB, h.a2.up hE hB, h.a3.up hE hB, h.d12, h.d23, h.d31, h.g1, h.g2, h.g3, h.bel, h.box⟩
theorem Tri.nobox (h : Tri W0 T k M1 M2 M3 m1 m2 m3 bx E B w) : Tri W0 T k M1 M2 M3 m1 m2 m3 none E B w := by
 obtain ⟨s1, s2, s3, h⟩ := h
 exact ⟨s1, s2, s3, h.a1, h.a2, h.a3, h.d12, h.d23, h.d31, h.g1, h.g2, h.g3, h.bel, fun b o hx => by cases hx⟩
theorem Tri.alloc (h : Tri W0 T k M1 M2 M3 m1 m2 m3 bx E B w) {c : Array Value} {t : TypeId} : Tri W0 T k M1 M2 M3 m1 m2 m3 (some (w.heap.size, .cells c t (0, 0))) E B (w.alloc (.cells c t)) := by
 obtain ⟨s1, s2, s3, h⟩ := h
 have g := h.below (zab yyr (.cells c t))
 exact ⟨s1, s2, s3, g.a1, g.a2, g.a3, g.d12, g.d23, g.d31, g.g1, g.g2, g.g3, g.bel, fun b o hx => by
  injection hx with hx
  injection hx with hx1 hx2
  subst hx1 hx2
  exact ⟨heap_alloc_new w _, fun e => (by have := h.a1.at_.own_lt e; omega), fun e => (by have := h.a2.at_.own_lt e; omega), fun e => (by have := h.a3.at_.own_lt e; omega)⟩⟩
theorem Tri.bel (h : Tri W0 T k M1 M2 M3 m1 m2 m3 bx E B w) : Below W0.heap.size W0 w := by
 obtain ⟨s1, s2, s3, h⟩ := h
 exact h.bel
theorem zku.step (h : zku W0 T k M1 M2 M3 m1 m2 m3 bx E B s1 s2 s3 w) (st : za7 w M1 s1 w' s1' B') (hm : s1'.mm M1 = m) (ho : On T k m) (he : m.c.evs.length ≤ E') (hE : E ≤ E') (hB : B ≤ B') : zku W0 T k M1 M2 M3 m m2 m3 bx E' B' s1' s2 s3 w' := by
 have hw := h.bel.size
 have own' : ∀ j, zdp M1 s1' j → zdp M1 s1 j ∨ w.heap.size ≤ j := st.own
 have hn := h.a1.at_.noE
 refine ⟨⟨st.at_, hm, ho, he, h.a1.hT, h.a1.hC⟩, ⟨(h.a2.at_.keep st.fr hn (fun j hj hs => h.d12 j (ze1 hs) hj)).up hB, h.a2.mm, h.a2.on, Nat.le_trans h.a2.ev hE, h.a2.hT, h.a2.hC⟩, ⟨(h.a3.at_.keep st.fr hn (fun j hj hs => h.d31 j hj (ze1 hs))).up hB, h.a3.mm, h.a3.on, Nat.le_trans h.a3.ev hE, h.a3.hT, h.a3.hC⟩, fun j hj h2 => ?_, h.d23, fun j h3 hj => ?_, fun j hj => ?_, h.g2, h.g3, ?_, fun b o hx => ?_⟩
 ·
  rcases own' j hj with e | e
  · exact h.d12 j e h2
  · have := h.a2.at_.own_lt h2
    omega
 ·
  rcases own' j hj with e | e
  · exact h.d31 j h3 e
  · have := h.a3.at_.own_lt h3
    omega
 · rcases own' j hj with e | e
   · exact h.g1 j e
   · omega
 · exact st.fresh h.bel h.g1
 ·
  obtain ⟨x1, x2, x3, x4⟩ := h.box b o hx
  have hl := zac x1
  refine ⟨(st.fr.block b hl (fun e => x2 (ze1 e))).trans x1, fun e => ?_, x3, x4⟩
  rcases own' b e with e | e
  · exact x2 e
  · omega
theorem Tri.core1 (h : Tri W0 T k M1 M2 M3 m1 m2 m3 bx E B w) : Calls Tryz.prog 11 #[.pointer (some ⟨M1.mp, 0, none⟩)] w fun e w' => e = .returned (.pointer (some ⟨M1.c.cb, 0, none⟩)) ∧ w' = w := by
 obtain ⟨s1, s2, s3, h⟩ := h
 exact zec h.a1.at_
theorem zwj (h : On T k m) : m.runs ≤ T := by
 have h3 := zqd zjh (fun _ => 0) 1 (l := m.ws) (fun w _ => by unfold zjh; split <;> omega)
 have h0 : (m.ws.map fun _ => 0).sum = 0 := by
  rw [List.sum_eq_zero_iff_forall_eq_nat]
  intro x hx
  obtain ⟨w, -, rfl⟩ := List.mem_map.1 hx
  rfl
 rw [h0, h.J.wl] at h3
 unfold MM.runs
 omega
theorem Tri.sub1 (h : Tri W0 T k M1 M2 M3 m1 m2 m3 bx E B w) (hB : B ≤ 200000000) (h8 : T ≤ 8) (hn : m1.c.rows.length < 40) (p : Nat) (hp : p < T) (q : Nat) (hq : q < 8) : Calls Tryz.prog 12 #[.pointer (some ⟨M1.c.cb, 0, none⟩), .int .i64 p, .int .i64 q, .slice none 0 0, .slice none 0 0] w fun e w' => (∃ id : Int, e = .returned (.tuple #[.int .i64 id, .int .i64 0])) ∧ Tri W0 T k M1 M2 M3 (m1.sb p q) m2 m3 bx (E + 2) (B + 220) w' := by
 obtain ⟨s1, s2, s3, h⟩ := h
 obtain ⟨at1, mm1, on1, ev1, hT1, hC1⟩ := h.a1
 subst mm1
 have hal := on1.al
 have hru := zwj on1
 have hjo := on1.J.o
 have hr : s1.c.t.rows.length = (s1.mm M1).c.rows.length := rfl
 have ho : s1.c.o = (s1.mm M1).c.o := rfl
 refine (zje at1.c (by omega) on1.cl p (by rw [hT1]; exact hp) q (by omega) (by omega) zym (fun c hc => by cases hc) (by omega) (by rw [ho, hC1]; omega) on1.J.ok).mono ?_
 rintro e w' ⟨he, S', k', hm⟩
 have em : ({ s1 with c := S' } : MS).mm M1 = (s1.mm M1).sb p q := by
  unfold MS.mm MM.sb
  dsimp only
  rw [hm]
 refine ⟨⟨_, he⟩, _, s2, s3, h.step (za7.core at1 k') em (on1.sb hp q (by omega)).1 ?_ (by omega) (by omega)⟩
 show ((s1.mm M1).c.sub p q []).evs.length ≤ E + 2
 have : ((s1.mm M1).c.sub p q []).evs.length = (s1.mm M1).c.evs.length + 2 := by
  show (((s1.mm M1).c.evs ++ [_]) ++ [_]).length = _
  rw [List.length_append, List.length_append]
  rfl
 omega
theorem Tri.pick1 (h : Tri W0 T k M1 M2 M3 m1 m2 m3 bx E B w) (hB : B ≤ 200000000) (h1 : 1 ≤ T) (h8 : T ≤ 8) (p : Nat) (hp : (p : Int) ≤ top) (d : Int) (d0 : 0 ≤ d) (d1 : d ≤ top) : Calls Tryz.prog 24 #[.pointer (some ⟨M1.mp, 0, none⟩), .int .u64 p, .int .u64 d] w fun e w' => (∃ kd : Int, e = .returned (.int .i64 kd)) ∧ Tri W0 T k M1 M2 M3 (m1.step (p % T) d) m2 m3 bx (E + 2) (B + 300) w' := by
 obtain ⟨s1, s2, s3, h⟩ := h
 obtain ⟨at1, mm1, on1, ev1, hT1, hC1⟩ := h.a1
 subst mm1
 have ht : p % T < T := Nat.mod_lt _ (by omega)
 refine (zqm at1 (by omega) (p % T) (by rw [hT1]; exact ht) d d0 d1 p hp (by rw [hT1]) (fun w hw => on1.J.good hw)).mono ?_
 rintro e w' ⟨he, s', k', hs, -⟩
 exact ⟨he, s', s2, s3, h.step k' hs (on1.step h8 ht d).1 (by have := on1.J.evn ht d; omega) (by omega) (by omega)⟩
theorem Tri.rest1 (h : Tri W0 T k M1 M2 M3 m1 m2 m3 bx E B w) (hB : B ≤ 200000000) (h8 : T ≤ 8) (d : Int) (d0 : 0 ≤ d) (d1 : d ≤ top) (K : Nat) (hK : K ≤ 1000) (hq : (m1.rest T d K).quiet = true) (hlt : ∀ j, j < K → (m1.rest T d j).quiet = false) : Calls Tryz.prog 13 #[.pointer (some ⟨M1.mp, 0, none⟩), .int .i64 1000, .int .u64 d] w fun e w' => (∃ n : Int, e = .returned (.tuple #[.int .i64 n, .bool true])) ∧ Tri W0 T k M1 M2 M3 (m1.rest T d K) m2 m3 bx (E + 16000) (B + 5000000) w' := by
 obtain ⟨s1, s2, s3, h⟩ := h
 obtain ⟨at1, mm1, on1, ev1, hT1, hC1⟩ := h.a1
 have hKB : (K + 2) * 4000 ≤ 5000000 := by omega
 refine (zqn at1 hT1 mm1 1000 (by decide) d d0 d1 K hK (by omega) (fun j hj => ?_) (fun j hj => (on1.rest h8 d j).1.J.ok) (fun j hj i hi w hw => ((on1.rest h8 d j).1.rndN h8 d i (by omega)).1.J.good hw)).mono ?_
 · by_cases e : j = K
   · rw [e, hq, decide_eq_true rfl]
   · rw [hlt j (by omega), decide_eq_false e]
 · rintro e w' ⟨he, s', k', hs⟩
   have he2 := on1.evR h8 d K
   exact ⟨⟨_, he⟩, s', s2, s3, h.step (k'.up (show _ ≤ B + 5000000 by omega)) hs (on1.rest h8 d K).1 (by omega) (by omega) (by omega)⟩
end
section
variable {W0 w w' : World} {T k : Nat} {M1 M2 M3 : MA} {m1 m2 m3 : MM} {bx : Option (Nat × Obj)} {E B : Nat} {s1 s2 s3 : MS}
theorem zks.fr {Z : Nat → Prop} {R : List (Int × Tk)} {sl : List En} {own : List (List En)} {sh : List En} {tv sv lv hv : Value} (h : zks w R sl own sh tv sv lv hv) (f : Fr Z w w') (hn : NoE w Z) (ht : ∀ c, tv.ownBlock = some c → ¬ Z c) (hl : ∀ c, lv.ownBlock = some c → ¬ Z c) : zks w' R sl own sh tv sv lv hv := by
 obtain ⟨lo, h1⟩ := h.t
 obtain ⟨vs, h2, h3⟩ := h.l
 exact ⟨⟨lo, h1.fr f ht⟩, h.s.frE f hn, ⟨vs, SlV.fr h2 f hl, fun j v hj => (h3 j v hj).frE f hn⟩, h.h.frE f hn⟩
theorem zku.rot (h : zku W0 T k M1 M2 M3 m1 m2 m3 bx E B s1 s2 s3 w) : zku W0 T k M2 M3 M1 m2 m3 m1 bx E B s2 s3 s1 w :=
 ⟨h.a2, h.a3, h.a1, h.d23, h.d31, h.d12, h.g2, h.g3, h.g1, h.bel, fun b o hb => by obtain ⟨x, y, z, u⟩ := h.box b o hb; exact ⟨x, z, u, y⟩⟩
theorem zku.state1 (h : zku W0 T k M1 M2 M3 m1 m2 m3 bx E B s1 s2 s3 w) (hB : B ≤ 200000000) : Calls Tryz.prog 17 #[.pointer (some ⟨M1.c.cb, 0, none⟩)] w fun e w' => ∃ tv sv lv hv, e = .returned (.agg #[.int .u64 0, .int .u64 m1.c.tick, .bool false, .int .i64 ((64 : Int) - m1.c.o), tv, sv, lv, hv, .slice none 0 0]) ∧ zks w' m1.c.rows (zbc m1.c.q.slots) m1.c.q.own m1.c.q.sh tv sv lv hv ∧ (∀ c, tv.ownBlock = some c → w.heap.size ≤ c) ∧ (∀ c, lv.ownBlock = some c → w.heap.size ≤ c) ∧ ∃ s1', zku W0 T k M1 M2 M3 m1 m2 m3 bx E (B + 1260) s1' s2 s3 w' ∧ Fr (mWr M1 s1) w w' := by
 obtain ⟨at1, mm1, on1, ev1, hT1, hC1⟩ := h.a1
 subst mm1
 refine (zl1 at1.c (by omega) on1.J.ok).mono ?_
 rintro e w' ⟨tv, sv, lv, hv, he, hP, hL, hln⟩
 have hc : s1.c.closed = false := on1.cl
 rw [hc, hC1] at he
 obtain ⟨S', k', hm, -, -⟩ := hP.core
 have k2 : zag w M1.c s1.c w' S' (B + 1260) := k'
 have em : ({ s1 with c := S' } : MS).mm M1 = s1.mm M1 := by
  unfold MS.mm
  dsimp only
  rw [hm]
 have ht := hP.t (by omega)
 have st := za7.core at1 k2
 have hol : M1.c.q.lp.length = (s1.mm M1).c.q.own.length := hT1.trans on1.J.ow.symm
 rw [hol] at hL
 exact ⟨tv, sv, lv, hv, he, ⟨ht.imp fun lo h => h.2, (hP.s (by omega)).1, hL, (hP.h (by omega)).1⟩, fun c hc => by
  obtain ⟨lo, hlo, h2⟩ := ht
  rcases h2 with ⟨-, e⟩ | ⟨d, e, h3, -⟩
  · rw [e] at hc; cases hc
  ·
   rw [e] at hc
   injection hc with hc
   have hc' : d = c := hc
   omega, hln, _, h.step st em on1 ev1 yyn (by omega), st.fr⟩
theorem zku.tell (h : zku W0 T k M1 M2 M3 m1 m2 m3 bx E B s1 s2 s3 w) {wa wb : World} {B' : Nat} (h2 : zaz wa M2 s2 B') (f : Fr (mWr M2 s2) wa wb) {R : List (Int × Tk)} {sl : List En} {own : List (List En)} {sh : List En} {tv sv lv hv : Value} (ht : zks wa R sl own sh tv sv lv hv) (h3 : ∀ c, tv.ownBlock = some c → w.heap.size ≤ c) (h4 : ∀ c, lv.ownBlock = some c → w.heap.size ≤ c) : zks wb R sl own sh tv sv lv hv :=
 ht.fr f h2.noE (fun c hc hz => by have a := h3 c hc; have b := h.a2.at_.own_lt (ze1 hz); omega) (fun c hc hz => by have a := h4 c hc; have b := h.a2.at_.own_lt (ze1 hz); omega)
end
end Go.Proofs.YtcfhkbcllijnkaaGreat
