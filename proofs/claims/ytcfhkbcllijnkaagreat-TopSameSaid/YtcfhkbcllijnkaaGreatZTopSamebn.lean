/- Contracts and plain laws that the proof of TopSame goes by, under no condition. -/
import Derived.Test.YtcfhkbcllijnkaaGreatZTopSamebm
import Derived.Test.YtcfhkbcllijnkaaGreatZTopSameaq
set_option linter.unusedVariables false
set_option linter.unusedSimpArgs false
set_option maxRecDepth 100000
set_option maxHeartbeats 40000000
namespace Go.Proofs.YtcfhkbcllijnkaaGreat
open Go.RowKit
variable {al : Int → Prop} {T k : Nat} {m : MM}
theorem J.sub (h : J al T k m) {t : Nat} (ht : t < T) (prio : Int) (hl : m.c.q.all.length < NB) : J al T k ⟨m.c.sub t prio [], m.ws⟩ ∧ (m.c.sub t prio []).rows.length = m.c.rows.length + 1 ∧ (m.c.sub t prio []).o = m.c.o + 1 := by
 obtain ⟨key, hkey⟩ : ∃ key, aAddI m.c.tick (slackI (mkTk prio []).pr) = key := ⟨_, rfl⟩
 have hrows : (m.c.sub t prio []).rows = m.c.rows ++ [(2, { mkTk prio [] with ke := key })] := by
  rw [← hkey]
  show (m.c.rows ++ [(2, mkTk prio [])]).set m.c.rows.length _ = _
  rw [List.set_append_right _ _ (Nat.le_refl _), Nat.sub_self]
  rfl
 have hq : (m.c.sub t prio []).q = m.c.q.put t ⟨key, (m.c.rows.length : Int) + 1⟩ := by
  rw [← hkey]
  rfl
 have hp : (m.c.sub t prio []).q.all.Perm (⟨key, (m.c.rows.length : Int) + 1⟩ :: m.c.q.all) := by
  rw [hq]
  exact put_all _ _ _ (by rw [h.sl]; exact ht) (h.ow.trans h.sl.symm)
 have hids : ∀ e ∈ m.c.q.all, 1 ≤ e.id ∧ e.id ≤ m.c.rows.length := fun e he => by
  obtain ⟨h1, z, hz, -⟩ := h.qr e he
  have := (List.getElem?_eq_some_iff.1 hz).1
  omega
 have hrow : ∀ (id : Int) x, rowOf m.c id = some x → rowOf (m.c.sub t prio []) id = some x := fun id x hx => by
  unfold rowOf at *
  rw [hrows, List.getElem?_append_left (List.getElem?_eq_some_iff.1 hx).1]
  exact hx
 have hnew : rowOf (m.c.sub t prio []) ((m.c.rows.length : Int) + 1) = some (2, { mkTk prio [] with ke := key }) := by
  unfold rowOf
  rw [hrows, show (((m.c.rows.length : Int) + 1 - 1).toNat) = m.c.rows.length by omega, List.getElem?_append_right (Nat.le_refl _), Nat.sub_self]
  rfl
 have hcase : ∀ (i : Nat) x, (m.c.sub t prio []).rows[i]? = some x → m.c.rows[i]? = some x ∨ (i = m.c.rows.length ∧ x = (2, { mkTk prio [] with ke := key })) := fun i x hx => by
  rw [hrows] at hx
  exact snoc_at hx
 have hset := settle_lens m.c.q t
 refine ⟨⟨?_, ?_, ?_, h.wl, ?_, fun e he => ?_, fun i y hy => ?_, fun i x hx => ?_, fun t' w hw => ?_, h.inj, fun i y hy => ?_, ?_, h.d, h.al⟩, by rw [hrows]; simp, rfl⟩
 ·
  show (m.c.sub t prio []).q.slots.length = T
  rw [hq]
  show ((m.c.q.settle t).slots.set t _).length = T
  rw [List.length_set, hset.1]
  exact h.sl
 · show (m.c.sub t prio []).q.own.length = T
   rw [hq]
   exact hset.2.trans h.ow
 · show (m.c.sub t prio []).q.k = k
   rw [hq]
   exact (settle_k _ _).trans h.k
 ·
  have hs := settle_Ok h.ok t
  refine ⟨?_, ?_, ?_, ?_, ?_, ?_⟩
  · show (m.c.sub t prio []).q.all.length ≤ NB
    rw [hp.length_eq]
    exact hl
  ·
   refine nodup_perm hp.symm ?_
   rw [List.map_cons, List.nodup_cons]
   refine ⟨fun hin => ?_, h.ok.ids⟩
   obtain ⟨e, he, hei⟩ := List.mem_map.1 hin
   have := hids e he
   have hei : e.id = (m.c.rows.length : Int) + 1 := hei
   omega
  · show (m.c.sub t prio []).q.k ≤ 16
    rw [hq]
    exact hs.k16
  · show ∀ l ∈ (m.c.sub t prio []).q.own, SortedE l
    rw [hq]
    exact hs.own
  · show SortedE (m.c.sub t prio []).q.sh
    rw [hq]
    exact hs.sh
  · show ∀ l ∈ (m.c.sub t prio []).q.own, l.length ≤ 16
    rw [hq]
    exact hs.low
 ·
  rcases List.mem_cons.1 (hp.mem_iff.1 he) with rfl | he
  · exact ⟨by show 1 ≤ (m.c.rows.length : Int) + 1; omega, _, hnew, rfl⟩
  · obtain ⟨h1, z, hz, hk⟩ := h.qr e he
    exact ⟨h1, z, hrow _ _ hz, hk⟩
 ·
  show hasL _ (m.c.sub t prio []).q.all = true
  rw [hasL_perm hp]
  rcases hcase i _ hy with hy | ⟨rfl, -⟩
  ·
   have := h.rq i y hy
   rw [hasL_iff] at this ⊢
   obtain ⟨e, he, hei⟩ := this
   exact ⟨e, List.mem_cons_of_mem _ he, hei⟩
  · rw [hasL_iff]
    exact ⟨_, List.mem_cons_self, rfl⟩
 · rcases hcase i _ hx with hx | ⟨-, rfl⟩
   · exact h.ro i x hx
   · exact ⟨.inl rfl, rfl⟩
 ·
  rcases h.wk t' w hw with h0 | ⟨h1, h2, z, hz, h3⟩ | ⟨h1, h2, ⟨z, hz⟩, h3⟩
  · exact .inl h0
  · exact .inr (.inl ⟨h1, h2, z, hrow _ _ hz, h3⟩)
  · exact .inr (.inr ⟨h1, h2, ⟨z, hrow _ _ hz⟩, h3⟩)
 · rcases hcase i _ hy with hy | ⟨-, hy⟩
   · exact h.cr i y hy
   · cases hy
 ·
  show m.c.o + 1 = (((m.c.sub t prio []).q.all.length + m.runs : Nat) : Int)
  have ho := h.o
  rw [hp.length_eq, List.length_cons]
  omega
theorem J.new (hal : al 4 ∧ ¬ al 2 ∧ ¬ al 3) (h1 : 1 ≤ T) (hk : k ≤ 16) : J al T k ⟨CM.new T k, List.replicate T wk0⟩ := by
 have hall : (CM.new T k).q.all = [] := by
  have h1 : slotE (List.replicate T (none : Option En)) = [] := by
   unfold slotE
   induction T with
   | zero => rfl
   | succ n ih =>
    rw [List.replicate_succ, List.filterMap_cons]
    cases n with
    | zero => rfl
    | succ n => exact ih (by omega)
  show slotE (List.replicate T none) ++ (List.replicate T []).flatten ++ [] = []
  rw [h1]
  simp
 have hr : ∀ i : Nat, (CM.new T k).rows[i]? = none := fun i => by show ([] : List (Int × Tk))[i]? = none; simp
 have hw : ∀ (t : Nat) w, (List.replicate T wk0)[t]? = some w → w = wk0 := fun t w h => List.eq_of_mem_replicate (List.mem_of_getElem? h)
 refine ⟨List.length_replicate, List.length_replicate, rfl, List.length_replicate, ⟨?_, ?_, hk, ?_, List.Pairwise.nil, ?_⟩, fun e he => ?_, fun i y hy => ?_, fun i x hx => ?_, fun t w h => ?_, fun t t' w w' h h' p => ?_, fun i y hy => ?_, ?_, rfl, hal⟩
 · show (CM.new T k).q.all.length ≤ NB
   rw [hall]
   exact Nat.zero_le _
 · show ((CM.new T k).q.all.map _).Nodup
   rw [hall]
   exact List.nodup_nil
 · intro l hl
   rw [List.eq_of_mem_replicate hl]
   exact List.Pairwise.nil
 · intro l hl
   rw [List.eq_of_mem_replicate hl]
   exact Nat.zero_le _
 · have he : e ∈ (CM.new T k).q.all := he
   rw [hall] at he
   cases he
 · rw [hr] at hy; cases hy
 · rw [hr] at hx; cases hx
 · exact .inl (by rw [hw t w h]; rfl)
 · rw [hw t w h] at p
   exact absurd p (by decide)
 · rw [hr] at hy; cases hy
 · show (0 : Int) = (((CM.new T k).q.all.length + ((List.replicate T wk0).map runN).sum : Nat) : Int)
   rw [hall, List.map_replicate, show runN wk0 = 0 from rfl]
   simp
end Go.Proofs.YtcfhkbcllijnkaaGreat
namespace Go.Proofs.YtcfhkbcllijnkaaGreat
open Go.RowKit Go.Maps Go.Shelf Go.Proofs.YtcfhkbcllijnkaaGreatW.PrintWords
def wkA (w : Wk) : Value := .agg #[.int .i64 w.ph, .int .u64 w.e.key, .int .i64 w.e.id, .int .i64 w.pc, .bool w.bad]
section
variable {W W' : World} {A : CA} {S S' : CS} {N N' : Nat}
def StepTold (W : World) (A : CA) (S : CS) (N t : Nat) (d : Int) (w : Wk) (r : CM × Wk × Nat) : Prop := r.2.2 < 7 ∧ Calls Tryz.prog 59 #[.pointer (some ⟨A.cb, 0, none⟩), wkA w, .int .i64 t, .int .u64 d] W fun e w' => e = .returned (.tuple #[wkA r.2.1, .int .i64 r.2.2]) ∧ ∃ S', CStep W A S w' S' (N + 300) ∧ S'.cm A = r.1
theorem q_same {S0 : CS} (e0 : S0.cm A = S.cm A) : S0.q.q A.q.k = S.q.q A.q.k := congrArg CM.q e0
theorem rows_same {S0 : CS} (e0 : S0.cm A = S.cm A) : S0.t.rows = S.t.rows := congrArg CM.rows e0
theorem W_StepM0 (h : CoreAt W A S N) (hN : N ≤ 290000000) (t : Nat) (ht : t < A.q.lp.length) (d : Int) (d0 : 0 ≤ d) (d1 : d ≤ top) (w : Wk) (hq : (S.cm A).q.Ok) (h0 : w.ph = 0) : StepTold W A S N t d w ((S.cm A).wstep t d w) := by
 obtain ⟨ph, ⟨key, id⟩, pc, bad⟩ := w
 have h0 : ph = 0 := h0
 subst h0
 unfold CM.wstep
 rw [if_pos rfl]
 cases hf : (S.cm A).q.fullAt t with
 | true =>
  rw [if_pos rfl]
  refine ⟨(by decide : (1 : Nat) < 7), (W_StepS h t ht hq hf d key id pc bad).mono ?_⟩
  rintro e w' ⟨he, S', k, hm⟩
  exact ⟨he, S', k.up (by omega), hm⟩
 | false =>
  rw [if_neg (by decide)]
  cases hl : (S.cm A).look t d with
  | none =>
   refine ⟨(by decide : (0 : Nat) < 7), (W_Step0 (N' := N) h t ht hq hf d key id pc bad 0 key id pc bad 0 (by unfold In64; decide) ((0 : Nat) : Int) rfl (M := S.cm A) fun w S0 k0 e0 => (W_idle_none k0.at_ (by rw [q_same e0]; exact hq) t ht d d0 d1 (by rw [e0]; exact hl) ⟨0, ⟨key, id⟩, pc, bad⟩).mono ?_).mono ?_⟩
   · rintro e w' ⟨he, hb⟩
     exact ⟨he, S0, CStep.below k0.at_ hb, e0⟩
   · rintro e w' ⟨he, S', k, hm⟩
     exact ⟨he, S', k.up (by omega), hm⟩
  | some en =>
   have hne : (S.q.q A.q.k).all ≠ [] := fun e => by
    have := look_mem hl
    have e : (S.cm A).q.all = [] := e
    rw [e] at this
    cases this
   refine ⟨(by decide : (2 : Nat) < 7), (W_Step0 (N' := N + 1) h t ht hq hf d key id pc bad 1 en.key en.id pc bad 1 (by unfold In64; decide) ((2 : Nat) : Int) rfl (M := { S.cm A with evs := (S.cm A).evs ++ [⟨10, t, en.id, en.key, (S.cm A).tick⟩] }) fun w S0 k0 e0 => (W_idle k0.at_ (by omega) (by rw [q_same e0]; exact hq) t ht d d0 d1 en (by rw [e0]; exact hl) (by rw [q_same e0]; exact hne) ⟨0, ⟨key, id⟩, pc, bad⟩).mono ?_).mono ?_⟩
   ·
    rintro e w' ⟨he, S', k, hm⟩
    refine ⟨he, S', k, hm.trans ?_⟩
    show ({ S0.cm A with evs := (S0.cm A).evs ++ [(⟨10, t, en.id, en.key, (S0.cm A).tick⟩ : Ev)] } : CM) = _
    rw [e0]
   · rintro e w' ⟨he, S', k, hm⟩
     exact ⟨he, S', k.up (by omega), hm⟩
theorem W_StepM1 (h : CoreAt W A S N) (hN : N ≤ 290000000) (t : Nat) (ht : t < A.q.lp.length) (d : Int) (w : Wk) (hq : (S.cm A).q.Ok) (h1 : w.ph = 1) (hid : 1 ≤ w.e.id) {x : Int × Tk} (hx : rowOf (S.cm A) w.e.id = some x) : StepTold W A S N t d w ((S.cm A).wstep t d w) := by
 obtain ⟨ph, ⟨key, id⟩, pc, bad⟩ := w
 have h1 : ph = 1 := h1
 subst h1
 obtain ⟨k, rfl⟩ : ∃ k : Nat, id = (k : Int) + 1 := ⟨(id - 1).toNat, by have hid : 1 ≤ id := hid; omega⟩
 have hk : ((k : Int) + 1 - 1).toNat = k := by omega
 unfold CM.wstep
 rw [if_neg (show ¬ (1 : Int) = 0 by decide), if_pos rfl, hx]
 have hx' : S.t.rows[k]? = some x := by
  unfold rowOf at hx
  dsimp only at hx
  rw [hk] at hx
  exact hx
 dsimp only
 rw [hk]
 cases hh : (x.1 == 2 && x.2.ke == key) with
 | true =>
  rw [if_pos rfl]
  refine ⟨(by decide : (3 : Nat) < 7), (W_Step1 (N' := N + 5) h t ht d key ((k : Int) + 1) pc bad 2 key ((k : Int) + 1) 0 false 1 (by unfold In64; decide) ((3 : Nat) : Int) rfl (M := (S.cm A).claim t k x key) fun w S0 k0 e0 => (W_claim k0.at_ (by omega) (by rw [q_same e0]; exact hq) t ht k x (by rw [rows_same e0]; exact hx') 1 key pc bad true hh.symm).mono ?_).mono ?_⟩
  · rintro e w' ⟨he, S', k', hm⟩
    rw [if_pos rfl, e0] at hm
    exact ⟨he, S', k', hm⟩
  · rintro e w' ⟨he, S', k', hm⟩
    exact ⟨he, S', k'.up (by omega), hm⟩
 | false =>
  rw [if_neg (by decide)]
  refine ⟨(by decide : (4 : Nat) < 7), (W_Step1 (N' := N + 5) h t ht d key ((k : Int) + 1) pc bad 0 0 0 0 false 0 (by unfold In64; decide) ((4 : Nat) : Int) rfl (M := S.cm A) fun w S0 k0 e0 => (W_claim k0.at_ (by omega) (by rw [q_same e0]; exact hq) t ht k x (by rw [rows_same e0]; exact hx') 1 key pc bad false hh.symm).mono ?_).mono ?_⟩
  · rintro e w' ⟨he, S', k', hm⟩
    rw [if_neg (by decide), e0] at hm
    exact ⟨he, S', k', hm⟩
  · rintro e w' ⟨he, S', k', hm⟩
    exact ⟨he, S', k'.up (by omega), hm⟩
theorem W_StepM2 (h : CoreAt W A S N) (hN : N ≤ 290000000) (t : Nat) (ht : t < A.q.lp.length) (d : Int) (w : Wk) (hq : (S.cm A).q.Ok) (h2 : w.ph = 2) (hid : 1 ≤ w.e.id) (hbad : w.bad = false) (hpc : 0 ≤ w.pc) {x : Tk} (hx : rowOf (S.cm A) w.e.id = some (3, x)) (hL : (x.L.length : Int) ≤ w.pc) (ho : 0 < (S.cm A).o) (hd : (S.cm A).d = false ∨ ((S.cm A).d = true ∧ w.e.id = 1 ∧ ∃ y, (S.cm A).rows[1]? = some (1, y))) : StepTold W A S N t d w ((S.cm A).wstep t d w) := by
 obtain ⟨ph, ⟨key, id⟩, pc, bad⟩ := w
 have h2 : ph = 2 := h2
 subst h2
 have hbad : bad = false := hbad
 subst hbad
 obtain ⟨k, rfl⟩ : ∃ k : Nat, id = (k : Int) + 1 := ⟨(id - 1).toNat, by have hid : 1 ≤ id := hid; omega⟩
 have hk : ((k : Int) + 1 - 1).toNat = k := by omega
 have hpc : 0 ≤ pc := hpc
 have hL : (x.L.length : Int) ≤ pc := hL
 unfold CM.wstep
 rw [if_neg (show ¬ (2 : Int) = 0 by decide), if_neg (show ¬ (2 : Int) = 1 by decide), hx]
 have hx' : S.t.rows[k]? = some (3, x) := by
  unfold rowOf at hx
  dsimp only at hx
  rw [hk] at hx
  exact hx
 dsimp only
 rw [hk, List.getElem?_eq_none (by omega)]
 refine ⟨(by decide : (6 : Nat) < 7), (W_Step2 (N' := N + 20) h t ht d key ((k : Int) + 1) pc false 0 0 0 0 false 0 (by unfold In64; decide) ((6 : Nat) : Int) rfl (M := (S.cm A).finish t k (3, x)) fun w S0 k0 e0 => (W_run_end (N' := N + 20) (M := (S.cm A).finish t k (3, x)) k0.at_ t k (3, x) (by rw [rows_same e0]; exact hx') 2 key pc hpc hL ?_).mono ?_).mono ?_⟩
 ·
  intro w2 hb2
  have h0 := k0.at_.below hb2
  have ho0 : 0 < S0.o := by
   have : S0.o = S.o := congrArg CM.o e0
   rw [this]; exact ho
  have hd0 : S0.d = S.d := congrArg CM.d e0
  unfold CM.finish
  rcases hd with hd | ⟨hd, hi, y, hy⟩
  ·
   refine (C_Finish0 h0 (by omega) t ht k x (by rw [rows_same e0]; exact hx') ho0 (hd0.trans hd)).mono ?_
   rintro e w' ⟨he, S', k', hm⟩
   rw [if_neg (by rw [hd]; decide), ← e0]
   exact ⟨he, S', k'.up (by omega), hm⟩
  ·
   have hk0 : k = 0 := by have hi : (k : Int) + 1 = 1 := hi; omega
   subst hk0
   refine (C_Finish1 h0 (by omega) t ht x y (by rw [rows_same e0]; exact hx') (by rw [rows_same e0]; exact hy) ho0 (hd0.trans hd) (by rw [q_same e0]; exact hq)).mono ?_
   rintro e w' ⟨he, S', k', hm⟩
   rw [if_pos hd, hy, ← e0]
   exact ⟨he, S', k', hm⟩
 · rintro e w' ⟨he, S', k', hm⟩
   exact ⟨he, S', k', hm⟩
 · rintro e w' ⟨he, S', k', hm⟩
   exact ⟨he, S', k'.up (by omega), hm⟩
end
theorem keyedClassD : Keyed Tryz.prog 111 := Keyed.of_law (deep_law_laid laidOutM (m := 2) (by decide) (of_decide_eq_true (by kernel_rfl)) (by kernel_rfl) (by kernel_rfl))
theorem arrClassD : Go.WideMaps.ArrKey Tryz.prog 111 3 2 := ⟨by kernel_rfl, by kernel_rfl, by kernel_rfl, by kernel_rfl⟩
theorem key_classD (a b : Int) (ha : In64 a) (hb : In64 b) : ∃ l, keyOf Tryz.prog 111 (pk a b) = some l :=
 ⟨_, Go.WideMaps.keyOf_pair arrClassD Tryz.underlying3 ⟨_, rfl⟩ ha hb⟩
def ovr (s : Int) : Prop := s = 4 ∨ s = 5 ∨ s = 6
theorem over_done (s : Int) (h : ovr s) (w : World) : Calls Tryz.prog 88 #[.int .i64 s] w fun e w' => e = .returned (.bool true) ∧ w' = w := by
 rcases h with rfl | rfl | rfl <;>
 ·
  go_enter Tryz.func88, Tryz.ntmps88
  go_wp2_with fail
  go_ret
  exact ⟨rfl, rfl⟩
def cntP (rows : List (Int × Tk)) (i : Nat) (a : Int) : Nat := ((rows.take i).filter fun x => x.1 == a).length
theorem cntP_next {rows : List (Int × Tk)} {i : Nat} {x : Int × Tk} (h : rows[i]? = some x) (a : Int) : cntP rows (i + 1) a = cntP rows i a + if x.1 = a then 1 else 0 := by
 unfold cntP
 rw [List.take_add_one, h, List.filter_append, List.length_append]
 by_cases e : x.1 = a
 · simp [e]
 · simp [e]
theorem cntP_le (rows : List (Int × Tk)) (i : Nat) (a : Int) : cntP rows i a ≤ rows.length := by
 unfold cntP
 refine Nat.le_trans (List.length_filter_le _ _) ?_
 rw [List.length_take]
 omega
def clF (n : Int → Nat) (vs : Int → Value) : Int → Int → Option Value := fun a b => if b = 1 ∧ 0 < n a then some (vs a) else none
def upV {α : Type} (vs : Int → α) (s : Int) (v : α) : Int → α := fun a => if a = s then v else vs a
structure SrtAt (W : World) (A : CA) (S : CS) (S1 : CS) (N : Nat) (ta : Option Addr) (n i : Nat) (vs : Int → Value) (xs : Int → List Value) (w : World) : Prop where
 st : CStep W A S w S1 N
 map : PMap w W.heap.size (clF (cntP S.t.rows i) vs)
 own : ∀ a, w.ownsRow (W.heap.size + 1) 3 1 (vs a) (cntP S.t.rows i a) (xs a)
 dis : ∀ a b c, a ≠ b → (vs a).ownBlock = some c → (vs b).ownBlock ≠ some c
 nm : ¬ (cOS A S1).own W.heap.size
 nv : ∀ a c, (vs a).ownBlock = some c → ¬ (cOS A S1).own c
 tk : 0 < n → ∃ b, ta = some ⟨b, 0, none⟩ ∧ W.heap.size < b ∧ (∀ a c, (vs a).ownBlock = some c → c ≠ b) ∧ ∀ j x, (tasksV S.t.rows)[j]? = some x → w.cell? ⟨b, j, none⟩ = some x
 z : ∀ a, cntP S.t.rows i a = 0 → vs a = .slice none 0 0
theorem state_field (x0 x1 x2 x3 x4 x5 x6 x7 x8 : Value) (w : World) : (Instr.field 46 (Value.agg #[x0, x1, x2, x3, x4, x5, x6, x7, x8]) 4).run Tryz.prog w = .ok x4 w := by kernel_rfl
theorem clF_at {n : Int → Nat} {vs : Int → Value} {s : Int} (h : n s = 0 → vs s = .slice none 0 0) : (clF n vs s 1).getD (.slice none 0 0) = vs s := by
 unfold clF
 by_cases hi : 0 < n s
 · rw [if_pos ⟨rfl, hi⟩]; rfl
 · rw [if_neg (fun e => hi e.2), h (by omega)]; rfl
theorem clF_next {n n' : Int → Nat} (vs : Int → Value) (s : Int) (v' : Value) (h : ∀ a, n' a = n a + if s = a then 1 else 0) : updF (clF n vs) s 1 v' = clF n' (upV vs s v') := by
 funext a b
 unfold updF clF upV
 have h := h a
 by_cases e : a = s
 ·
  subst e
  rw [if_pos rfl] at h
  by_cases eb : b = 1
  · rw [if_pos ⟨rfl, eb⟩, if_pos ⟨eb, by omega⟩, if_pos rfl]
  · rw [if_neg (fun x => eb x.2), if_neg (fun x => eb x.1), if_neg (fun x => eb x.1)]
 ·
  rw [if_neg (fun x => e x.1), if_neg e]
  rw [if_neg (fun x => e x.symm)] at h
  rw [h]
  rfl
theorem clF_0 (rows : List (Int × Tk)) (vs : Int → Value) : clF (cntP rows 0) vs = fun _ _ => none := by funext a b; simp [clF, cntP]
section
variable {W W' w5 w6 : World} {A : CA} {S S' : CS} {N N' : Nat}
theorem CStep.boxG (k : CStep W A S w5 S' N') {b : Nat} (f : Fr (fun j => j = b) w5 w6) {o : Obj} (hb : w5.heap[b]? = some o) (him : ∀ (cur : Array Value) (u : TypeId), o = .cells cur u (0, 0) → u ≠ 63) (hge : W.heap.size ≤ b) (hno : ¬ (cOS A S').own b) : CStep W A S w6 S' N' := by
 have hn : NoE w5 (fun j => j = b) := NoE.of fun j hj => by
  have hj : j = b := hj
  rw [hj]
  exact ⟨_, hb, him⟩
 refine ⟨⟨k.at_.ps.keep f hn (fun j hj e => hno (by have e : j = b := e; rw [← e]; exact hj)), k.at_.bnd⟩, ⟨f.os.trans k.ps.fr.os, f.tape.trans k.ps.fr.tape, f.output.trans k.ps.fr.output, Nat.le_trans k.ps.fr.size f.size, fun j hj hnn => ?_⟩, k.ps.wr, k.ps.own⟩
 exact (f.block j (Nat.lt_of_lt_of_le hj k.ps.fr.size) (fun e => by have e : j = b := e; omega)).trans (k.ps.fr.block j hj hnn)
theorem CStep.grow (k : CStep W A S w5 S' N') {v : Value} {n base : Nat} {xs : List Value} (ho : w5.ownsRow base 3 1 v n xs) (hg : w5.grownBy w6 v.ownBlock) (hge : W.heap.size ≤ base) (hno : ∀ c, v.ownBlock = some c → ¬ (cOS A S').own c) : CStep W A S w6 S' N' := by
 cases hv : v.ownBlock with
 | none =>
  rw [hv] at hg
  exact k.trans (CStep.below k.at_ ⟨hg.os, hg.tape, hg.output, hg.size, fun j hj => hg.block j hj (by simp)⟩)
 | some c =>
  have hl := ho.lt c hv
  rw [hv] at hg
  obtain ⟨cur, hb⟩ := owns_type ho hv
  exact k.boxG ⟨hg.os, hg.tape, hg.output, hg.size, fun j hj hne => hg.block j hj (fun e => hne (Option.some.inj e))⟩ hb (cells_im (by decide)) (by omega) (hno c hv)
theorem task_cell {rows : List (Int × Tk)} {i : Nat} {x : Int × Tk} (hx : rows[i]? = some x) : ∀ j, j < 7 → (tasksV rows)[i * 7 + j]? = (taskV i x.1 x.2)[j]? := by
 intro j hj
 have hi := (List.getElem?_eq_some_iff.1 hx).1
 unfold tasksV
 rw [allV_at _ _ _ _ _ hi hj]
 have : rows.getD i tk0 = x := by rw [List.getD_eq_getElem?_getD, hx]; rfl
 rw [this]
theorem D_sorted (h : CoreAt W A S N) (hN : N ≤ 300000000) (hq : (S.q.q A.q.k).Ok) (h4 : ∀ x ∈ S.t.rows, ovr x.1) : Calls Tryz.prog 46 #[.pointer (some ⟨A.cb, 0, none⟩)] W fun e w' => ∃ mb v S', e = .returned (.map (some mb)) ∧ CStep W A S w' S' (N + 1260) ∧ S'.cm A = S.cm A ∧ PMap w' mb (clF (cntP S.t.rows S.t.rows.length) v) ∧ (∀ s, ∃ a c, v s = .slice a (cntP S.t.rows S.t.rows.length s) c) ∧ ∀ s, cntP S.t.rows S.t.rows.length s = 0 → v s = .slice none 0 0 := by
 have hmm : ∀ w, (Instr.makeMap 108 none).run Tryz.prog w = .ok (.map (some w.heap.size)) (w.alloc (.map #[] 0)) := fun _ => by rfl
 obtain ⟨W1, hW1⟩ : ∃ W1, W.alloc (.map #[] 0) = W1 := ⟨_, rfl⟩
 have hb1 : Below W.heap.size W W1 := by rw [← hW1]; exact below_al (Below.refl _ _) _
 have xm : W1.heap[W.heap.size]? = some (.map #[] 0) := by rw [← hW1]; exact heap_alloc_new W _
 have HS := Lib.hid (C_State (h.below hb1) hN hq)
 have H := Lib.hid (And.intro h (And.intro hb1 (And.intro xm h4)))
 obtain ⟨n, hn⟩ : ∃ n, S.t.rows.length = n := ⟨_, rfl⟩
 have hnl : n ≤ 200 := by rw [← hn]; exact h.t.len.2
 rw [hn]
 have HN := Lib.hid hn
 have HW1 := Lib.hid hW1
 obtain ⟨i0, hi0, hz0, hz1, hz2⟩ := info_parts infoInt
 clear h hb1 xm hq h4 hn hW1
 go_enter Tryz.func46, Tryz.ntmps46
 go_upto_region 2 with fail
 rw [HW1.out]
 go_wp2_with fail
 refine HS.out.mono ?_
 rintro e w2 ⟨tv, sv, lv, hv, rfl, hp, hloc⟩
 unfold stC
 obtain ⟨S1, k1, hcm, -, -⟩ := hp.core
 obtain ⟨lo', hlo, ht'⟩ := hp.t (by omega)
 have hts : ∃ tb, tv = .slice tb n n ∧ (0 < n → ∃ b, tb = some ⟨b, 0, none⟩ ∧ W1.heap.size ≤ b ∧ ∀ j, j < n * 7 → w2.cell? ⟨b, j, none⟩ = (tasksV S.t.rows)[j]?) := by
  rcases ht' with ⟨h1, h2⟩ | ⟨c, h1, h2, h3, h4⟩
  · rw [HN.out] at h1; exact ⟨none, by rw [h2, h1], fun h => by omega⟩
  · rw [HN.out] at h1 h4; exact ⟨_, h1, fun _ => ⟨c, rfl, by omega, h4⟩⟩
 obtain ⟨ta, rfl, hta⟩ := hts
 have hxm : w2.heap[W.heap.size]? = some (.map #[] 0) := CStep.kept (H.out.1.below H.out.2.1) k1 (fun e => by have := H.out.1.lt e; omega) H.out.2.2.1
 have hnm : ¬ (cOS A S1).own W.heap.size := CStep.stays k1 (fun e => by have := H.out.1.lt e; omega) (heap_lt H.out.2.2.1)
 have hs12 := H.out.2.1.size
 have hl1 := heap_lt H.out.2.2.1
 have HK1 : CStep W A S w2 S1 (N + 1260) := (CStep.below H.out.1 H.out.2.1).trans (k1.up (by omega))
 have H0 : SrtAt W A S S1 (N + 1260) ta n 0 (fun _ => .slice none 0 0) (fun _ => []) w2 := ⟨HK1, ⟨#[], 0, hxm, by rw [clF_0]; exact PMapE.empty⟩, fun a => World.ownsRow_nil _ _ _ _, fun a b c _ hc => (by cases hc), hnm, fun a c hc => (by cases hc), fun hn => by
  obtain ⟨b, h1, h2, h3⟩ := hta hn
  exact ⟨b, h1, by omega, fun a c hc => (by cases hc), fun j x hx => (h3 j (by
   have := (List.getElem?_eq_some_iff.1 hx).1
   unfold tasksV at this
   rw [allV_len, HN.out] at this
   exact this)).trans hx⟩, fun a _ => rfl⟩
 have HS0 := Lib.hid H0
 have HCM := Lib.hid hcm
 have hsf := fun w => state_field (.int .u64 0) (.int .u64 S.tick) (.bool S.closed) (.int .i64 ((A.C : Int) - S.o)) (.slice ta n n) sv lv hv (.slice none 0 0) w
 clear hp hloc ht' k1 hcm hlo hxm hnm hta hs12 hl1 HK1 HS H0
 go_wp2_with fail
 go_loopg [5, 6, 12] n (fun gg s5 s6 s12 wr => ∃ (i : Nat) (vs : Int → Value) (xs : Int → List Value), i ≤ n ∧ gg = n - i ∧ s12 = .int .i64 i ∧ Aside (SrtAt W A S S1 (N + 1260) ta n i vs xs wr))
 case atStart => exact ⟨0, _, _, Nat.zero_le _, by omega, rfl, HS0.out⟩
 case round =>
  obtain ⟨i, vs, xs, hi, rfl, rfl, hR⟩ := hrel
  by_cases hlt : i < n
  ·
   have hltz : (i : Int) < (n : Int) := by omega
   obtain ⟨b, rfl, hb, hvb, hc⟩ := hR.out.tk (by omega)
   obtain ⟨x, hx⟩ : ∃ x, S.t.rows[i]? = some x := ⟨_, List.getElem?_eq_getElem (by rw [HN.out]; exact hlt)⟩
   have hT := task_cell hx
   have hov := H.out.2.2.2 x (List.mem_of_getElem? hx)
   have hcn := cntP_next hx
   obtain ⟨s, T⟩ := x
   obtain ⟨v, hv⟩ : ∃ v, vs s = v := ⟨_, rfl⟩
   obtain ⟨m, hm⟩ : ∃ m, cntP S.t.rows i s = m := ⟨_, rfl⟩
   have hml : m ≤ 200 := by rw [← hm]; exact Nat.le_trans (cntP_le _ _ _) (by rw [HN.out]; exact hnl)
   have hsI : In64 s := by rcases hov with e | e | e <;> (have e : s = _ := e; subst e; unfold In64; decide)
   have c0 : wr.cell? ⟨b, i * 7, none⟩ = some (.int .i64 ((i : Int) + 1)) := hc (i * 7) _ (hT 0 (by omega))
   have c1 : wr.cell? ⟨b, i * 7 + 1, none⟩ = some (.int .i64 T.pr) := hc (i * 7 + 1) _ (hT 1 (by omega))
   have c2 : wr.cell? ⟨b, i * 7 + 2, none⟩ = some (.int .i64 s) := hc (i * 7 + 2) _ (hT 2 (by omega))
   have c3 : wr.cell? ⟨b, i * 7 + 3, none⟩ = some (.int .u64 T.du) := hc (i * 7 + 3) _ (hT 3 (by omega))
   have c4 : wr.cell? ⟨b, i * 7 + 4, none⟩ = some (.int .u64 T.ke) := hc (i * 7 + 4) _ (hT 4 (by omega))
   have c5 : wr.cell? ⟨b, i * 7 + 5, none⟩ = some (.int .u64 T.RU) := hc (i * 7 + 5) _ (hT 5 (by omega))
   have c6 : wr.cell? ⟨b, i * 7 + 6, none⟩ = some (.int .u64 T.MI) := hc (i * 7 + 6) _ (hT 6 (by omega))
   have HR := Lib.hid (And.intro hR.out (And.intro hb (And.intro hvb hc)))
   have HV := Lib.hid (And.intro hv (And.intro hm (And.intro hcn hx)))
   have HOV := Lib.hid hov
   clear hR hb hvb hc hT hx hov hcn hv hm
   go_wp2_with fail
   refine (over_done s HOV.out _).mono ?_
   rintro e X ⟨rfl, hX⟩
   obtain ⟨hR, hb, hvb, hc⟩ := HR.out
   have hbX : Below wr.heap.size wr X := by rw [hX]; exact below_al (below_al (Below.refl _ _) _) _
   have hsX : X.heap.size = wr.heap.size + 2 := by rw [hX]; simp
   have x5 : X.heap[wr.heap.size]? = some (.cells #[.int .i64 ((i : Int) + 1), .int .i64 T.pr, .int .i64 s, .int .u64 T.du, .int .u64 T.ke, .int .u64 T.RU, .int .u64 T.MI] 49 (0, 0)) := by rw [hX]; exact alloc_old (heap_alloc_new wr _)
   have x6 : X.heap[wr.heap.size + 1]? = some (.cells #[.int .i64 s, .int .i64 0] 111 (0, 0)) := by rw [hX]; exact alloc_at (by simp)
   have k0 : X.cell? ⟨wr.heap.size, 0, none⟩ = some (.int .i64 ((i : Int) + 1)) := by rw [cell_of_heap x5]; rfl
   obtain ⟨a0, a1, -, za⟩ := cells2 x6
   have x62 := heap_set (o := 1) x6 (.int .i64 1)
   have f2 : Fr (fun j => j = wr.heap.size + 1) X (X.setCell ⟨wr.heap.size + 1, 1, none⟩ (.int .i64 1)) := Fr.set (S := fun j => j = wr.heap.size + 1) (Fr.refl _ _) (p := ⟨wr.heap.size + 1, 1, none⟩) rfl _
   have hszr : W.heap.size < wr.heap.size := by obtain ⟨es, ck, h1, -⟩ := hR.map; exact heap_lt h1
   have nX : ¬ (cOS A S1).own (wr.heap.size + 1) := fun e => by have := hR.st.at_.lt e; omega
   have kX : CStep W A S X S1 (N + 1260) := hR.st.trans (CStep.below hR.st.at_ hbX)
   have k2 := kX.boxG f2 x6 (cells_im (by decide)) (by omega) nX
   obtain ⟨X3, hX3⟩ : ∃ X3, (X.setCell ⟨wr.heap.size + 1, 1, none⟩ (.int .i64 1)).alloc (.cells #[.int .i64 ((i : Int) + 1)] 3) = X3 := ⟨_, rfl⟩
   have hs2 : (X.setCell ⟨wr.heap.size + 1, 1, none⟩ (.int .i64 1)).heap.size = X.heap.size := by simp
   have hb3 : Below (X.setCell ⟨wr.heap.size + 1, 1, none⟩ (.int .i64 1)).heap.size (X.setCell ⟨wr.heap.size + 1, 1, none⟩ (.int .i64 1)) X3 := by rw [← hX3]; exact below_al (Below.refl _ _) _
   have x3 : X3.heap[X.heap.size]? = some (.cells #[.int .i64 ((i : Int) + 1)] 3 (0, 0)) := by rw [← hX3]; exact alloc_at (by simp)
   have k3 : CStep W A S X3 S1 (N + 1260) := k2.trans (CStep.below k2.at_ hb3)
   have hm3 : PMap X3 W.heap.size (clF (cntP S.t.rows i) vs) := by
    obtain ⟨es, ck, h1, h2⟩ := hR.map
    refine ⟨es, ck, (hb3.block _ (by rw [hs2]; omega)).trans ((f2.block _ (by omega) (by omega)).trans ((hbX.block _ hszr).trans h1)), h2⟩
   obtain ⟨st, es, ck, hen, hE1, hst⟩ := hm3.entry keyedClassD key_classD Tryz.underlying108 (.slice none 0 0) (by kernel_rfl) s 1 hsI (by unfold In64; decide)
   rw [clF_at (hR.z s), HV.out.1] at hen
   have hen' : (Instr.mapEntry 108 (.map (some W.heap.size)) (.agg #[.int .i64 s, .int .i64 1])).run Tryz.prog X3 = .ok (.tuple #[v, .int .i64 st]) (World.setBlk X3 W.heap.size (.map es ck)) := hen
   obtain ⟨X4, hX4⟩ : ∃ X4, World.setBlk X3 W.heap.size (.map es ck) = X4 := ⟨_, rfl⟩
   rw [hX4] at hen'
   obtain ⟨es0, ck0, h30, -⟩ := hm3
   have f4 : Fr (fun j => j = W.heap.size) X3 X4 := by rw [← hX4]; exact Fr.of_setBlk _ _ _ rfl
   have hs3 : X3.heap.size = X.heap.size + 1 := by rw [← hX3]; simp
   have hs4 : X4.heap.size = X3.heap.size := by rw [← hX4]; exact setBlk_size _ _ _
   have m4 : X4.heap[W.heap.size]? = some (.map es ck) := by rw [← hX4]; exact setBlk_get _ _ _ _ h30
   have x4 := (f4.block _ (heap_lt x3) (by omega)).trans x3
   have k4 : CStep W A S X4 S1 (N + 1260) := k3.boxG f4 h30 map_im (Nat.le_refl _) hR.nm
   have kp4 : ∀ c o, W.heap.size < c → wr.heap[c]? = some o → X4.heap[c]? = some o := fun c o hc ho => by
    have hl := heap_lt ho
    exact (f4.block c (by omega) (by omega)).trans ((hb3.block c (by omega)).trans ((f2.block c (by omega) (by omega)).trans ((hbX.block c hl).trans ho)))
   have ow4 : ∀ a, X4.ownsRow (W.heap.size + 1) 3 1 (vs a) (cntP S.t.rows i a) (xs a) := fun a => own_keep (hR.own a) fun c o hv ho => kp4 c o (by have := (hR.own a).lt c hv; omega) ho
   have own4 : X4.ownsRow (W.heap.size + 1) 3 1 v m (xs s) := by have := ow4 s; rw [HV.out.1, HV.out.2.1] at this; exact this
   have HOWN := Lib.hid own4
   have HNEWS := Lib.hid (show ∀ j u, [Value.int .i64 ((i : Int) + 1)][j]? = some u → X4.cell? ((⟨X.heap.size, 0, none⟩ : Addr).add j) = some u from fun j u hu => by
    cases j with
    | zero =>
     have hu : Value.int .i64 ((i : Int) + 1) = u := by simpa using hu
     rw [← hu]
     show X4.cell? ⟨X.heap.size, 0 + 0, none⟩ = _
     rw [cell_of_heap x4]
     rfl
    | succ j => simp at hu)
   have HGE := Lib.hid (show W.heap.size + 1 ≤ X4.heap.size by omega)
   have HST := Lib.hid (fun w2 v1 h => hst w2 v1 h)
   have HEND := Lib.hid (And.intro hR (And.intro hb (And.intro hvb (And.intro hc (And.intro m4 (And.intro k4 (And.intro kp4 (And.intro ow4 (And.intro hs4 (And.intro hs3 (And.intro hsX hszr)))))))))))
   have HX3 := Lib.hid hX3
   clear hR hb hvb hc hbX hsX x5 x6 x62 f2 hszr nX kX k2 hX3 hs2 hb3 x3 k3 hst hE1 hen hX4 h30 f4 hs3 hs4 m4 x4 k4 kp4 own4 ow4 hX
   go_upto_region 8 with fail
   rw [← HX3.out] at hen'
   go_wp2_with (at_builtin; refine wpList_append_own_at _ rfl (.tmp 25) (.tmp 28) 33 rfl (W.heap.size + 1) 3 i0 zInt 1 8 Tryz.underlying33 hi0 hz0 hz1 hz2 rfl (by decide) v m (xs s) rfl HOWN.out ⟨X.heap.size, 0, none⟩ 1 1 [.int .i64 ((i : Int) + 1)] rfl rfl HNEWS.out (fun u hu => by simp at hu; subst hu; rfl) (by unfold maxLen; omega) (by omega) HGE.out ?_; intro v' w6 hown6 hg6 hnil6 hblk6; have m6 := (hg6.block _ (heap_lt HEND.out.2.2.2.2.1) (fun e => by have := (HOWN.out.lt _ e.symm).1; omega)).trans HEND.out.2.2.2.2.1; obtain ⟨es', ck', hes, hE6⟩ := HST.out w6 v' m6; have hes' : (Instr.entryStore 108 (.map (some W.heap.size)) (.int .i64 st) v').run Tryz.prog w6 = .ok () (World.setBlk w6 W.heap.size (.map es' ck')) := hes; have H6 := Lib.hid (And.intro hown6 (And.intro hg6 (And.intro hblk6 (And.intro m6 hE6)))); clear hown6 hg6 hnil6 hblk6 m6 hE6 hes)
   have hnr : SrtAt W A S S1 (N + 1260) (some ⟨b, 0, none⟩) n (i + 1) (upV vs s v') (upV xs s (xs s ++ [.int .i64 ((i : Int) + 1)])) (World.setBlk w6 W.heap.size (.map es' ck')) := by
    obtain ⟨hR, hb, hvb, hc, m4, k4, kp4, ow4, hs4, hs3, hsX, hszr⟩ := HEND.out
    obtain ⟨hown6, hg6, hblk6, m6, hE6⟩ := H6.out
    obtain ⟨hv, hm, hcn, hx⟩ := HV.out
    have hcs : cntP S.t.rows (i + 1) s = m + 1 := by rw [hcn s, hm]; simp
    have hco : ∀ a, a ≠ s → cntP S.t.rows (i + 1) a = cntP S.t.rows i a := fun a ha => by rw [hcn a, if_neg (fun e => ha e.symm)]; rfl
    have us : ∀ {α : Type} (f : Int → α) (y : α), upV f s y s = y := fun f y => if_pos rfl
    have uo : ∀ {α : Type} (f : Int → α) (y : α) (a : Int), a ≠ s → upV f s y a = f a := fun f y a ha => if_neg ha
    have own4 := HOWN.out
    have hnv : ∀ c, v.ownBlock = some c → ¬ (cOS A S1).own c := fun c hc => hR.nv s c (by rw [hv]; exact hc)
    have k6 := k4.grow own4 hg6 (by omega) hnv
    have f7 : Fr (fun j => j = W.heap.size) w6 (World.setBlk w6 W.heap.size (.map es' ck')) := Fr.of_setBlk _ _ _ rfl
    have k7 := k6.boxG f7 m6 map_im (Nat.le_refl _) hR.nm
    have hge : ∀ c, v'.ownBlock = some c → W.heap.size < c := fun c hc => (hown6.lt c hc).1
    have hbl := World.block_lt_of_cell? wr _ c0
    have hbl : b < wr.heap.size := hbl
    obtain ⟨ob, hob⟩ : ∃ o, wr.heap[b]? = some o := ⟨_, Array.getElem?_eq_getElem hbl⟩
    have hb4 := kp4 b ob hb hob
    have hb7 : (World.setBlk w6 W.heap.size (.map es' ck')).heap[b]? = some ob := (f7.block b (by have := hg6.size; omega) (by omega)).trans ((hg6.block b (heap_lt hb4) (fun e => hvb s b (by rw [hv]; exact e.symm) rfl)).trans hb4)
    -- a block of another state's row
    have hoth : ∀ a c, a ≠ s → (vs a).ownBlock = some c → v.ownBlock ≠ some c := fun a c ha hc => by rw [← hv]; exact hR.dis a s c ha hc
    have hnew : ∀ a c, a ≠ s → (vs a).ownBlock = some c → v'.ownBlock ≠ some c := fun a c ha hc e => by
     rcases hblk6 with e2 | e2
     · exact hoth a c ha hc (e2.symm.trans e)
     ·
      rw [e] at e2
      have e2 := Option.some.inj e2
      have := (ow4 a).lt c hc
      obtain ⟨cur, hcur⟩ := own_block (ow4 a) hc
      have := heap_lt hcur
      omega
    refine ⟨k7, ⟨es', ck', setBlk_get _ _ _ _ m6, by rw [← clF_next vs s v' hcn]; exact hE6⟩, fun a => ?_, fun a b' c hab hca hcb => ?_, hR.nm, fun a c hc' => ?_, fun _ => ⟨b, rfl, hb, fun a c hc' e => ?_, fun j x hx => ?_⟩, fun a e => ?_⟩
    ·
     by_cases ha : a = s
     · subst ha
       rw [us, us, hcs]
       exact own_keep hown6 fun c o hv ho => (f7.block c (heap_lt ho) (by have := hge c hv; omega)).trans ho
     ·
      rw [uo _ _ a ha, uo _ _ a ha, hco a ha]
      refine own_keep (ow4 a) fun c o hv2 ho => ?_
      have h1 := (hg6.block c (heap_lt ho) (fun e => hoth a c ha hv2 e.symm)).trans ho
      exact (f7.block c (heap_lt h1) (by have := ((ow4 a).lt c hv2).1; omega)).trans h1
    ·
     by_cases ha : a = s
     ·
      subst ha
      rw [us] at hca
      rw [uo _ _ b' (fun e => hab e.symm)] at hcb
      exact hnew b' c (fun e => hab e.symm) hcb hca
     ·
      rw [uo _ _ a ha] at hca
      by_cases hb' : b' = s
      · subst hb'
        rw [us] at hcb
        exact hnew a c ha hca hcb
      · rw [uo _ _ b' hb'] at hcb
        exact hR.dis a b' c hab hca hcb
    ·
     by_cases ha : a = s
     ·
      subst ha
      rw [us] at hc'
      rcases hblk6 with e | e
      · exact hnv c (e.symm.trans hc')
      ·
       rw [hc'] at e
       have e := Option.some.inj e
       intro ho
       have := k4.at_.lt ho
       omega
     · rw [uo _ _ a ha] at hc'
       exact hR.nv a c hc'
    ·
     by_cases ha : a = s
     ·
      subst ha
      rw [us] at hc'
      rcases hblk6 with e2 | e2
      · exact hvb a c (by rw [hv]; exact e2.symm.trans hc') e
      · rw [hc'] at e2
        have e2 := Option.some.inj e2
        omega
     · rw [uo _ _ a ha] at hc'
       exact hvb a c hc' e
    · have h1 := hc j x hx
      rw [← h1]
      simp [World.cell?, hb7, hob]
    ·
     by_cases ha : a = s
     · subst ha
       omega
     · rw [uo _ _ a ha]
       exact hR.z a (by rw [← hco a ha]; exact e)
   go_roundg (n - (i + 1))
   case measure => omega
   case rel => exact ⟨i + 1, _, _, by omega, rfl, by go_num, (show Aside (SrtAt W A S S1 (N + 1260) (some ⟨b, 0, none⟩) n (i + 1) (upV vs s v') _ _) from hnr)⟩
  ·
   obtain rfl : i = n := by omega
   have hltz : ¬ (i : Int) < (i : Int) := by omega
   have HR := Lib.hid hR.out
   clear hR
   go_wp2_with fail
   go_ret
   have hfin : ∀ s, ∃ a c, vs s = .slice a (cntP S.t.rows i s) c := fun s => by
    obtain ⟨a5, c5, h5, -⟩ := SlV.clip (SlV.of_owns (HR.out.own s))
    exact ⟨a5, c5, h5⟩
   exact ⟨W.heap.size, rfl, vs, S1, HR.out.st, HCM.out, HR.out.map, hfin, HR.out.z⟩
end
structure ClsAt (W : World) (M : MA) (s : MS) (B : Nat → Nat) (R : Nat → MS → Prop) (b4 b7 : Nat) (a : Option Addr) (cap j : Nat) (sj : MS) (w : World) : Prop where
 st : MStep W M s w sj (B j)
 r : R j sj
 x4 : w.heap[b4]? = some (.cells #[.int .i64 0, .int .i64 0, .int .i64 0, .slice none 0 0, .int .i64 0] 35 (0, 0))
 x7 : w.heap[b7]? = some (.cells #[.int .i64 0, .int .i64 0, .int .i64 0, .slice a 0 cap, .int .i64 j] 35 (0, 0))
 n4 : ¬ mOwn M sj b4
 n7 : ¬ mOwn M sj b7
 ne : W.heap.size ≤ b4 ∧ W.heap.size ≤ b7 ∧ b4 ≠ b7
section
variable {W W' : World} {M : MA} {s s' : MS} {N N' : Nat}
theorem MStep.box {w5 w6 : World} (k : MStep W M s w5 s' N') {b : Nat} (f : Fr (fun j => j = b) w5 w6) {c : Array Value} {t : TypeId} (hb : w5.heap[b]? = some (.cells c t (0, 0))) (ht : t ≠ 63) (hge : W.heap.size ≤ b) (hno : ¬ mOwn M s' b) : MStep W M s w6 s' N' := by
 have hc := k.at_
 refine ⟨⟨hc.c.other f hb ht (fun e => hno (.inl e)), (f.block _ (heap_lt hc.m) (fun e => hno (.inr (.inl (by have e : M.mp = b := e; omega))))).trans hc.m, (f.block _ (heap_lt hc.l) (fun e => hno (.inr (.inr (by have e : M.lb = b := e; omega))))).trans hc.l, hc.len, hc.did, hc.nm, hc.nl⟩, ⟨f.os.trans k.fr.os, f.tape.trans k.fr.tape, f.output.trans k.fr.output, Nat.le_trans k.fr.size f.size, fun j hj hn => ?_⟩, k.own⟩
 exact (f.block j (Nat.lt_of_lt_of_le hj k.fr.size) (fun e => by have e : j = b := e; omega)).trans (k.fr.block j hj hn)
theorem D_Close (h : MachAt W M s N) (hN : N ≤ 300000000) (hcl : s.c.closed = false) (d : Int) (K : Nat) (hK : K < 100000) (B : Nat → Nat) (hB : B 0 = N + 1) (hBK : B K ≤ 290000000) (R : Nat → MS → Prop) (hR0 : ∀ S', S'.cm M.c = (s.c.cm M.c).shut → R 0 { s with c := S' })
 (HQ : ∀ j V sj, j ≤ K → MachAt V M sj (B j) → R j sj → sj.c.closed = true ∧ sj.ws.length ≤ 64 ∧ ((sj.c.cm M.c).drained && wkIdle sj) = decide (j = K))
 (HR : ∀ j V sj, j < K → MachAt V M sj (B j) → R j sj → Calls Tryz.prog 39 #[.pointer (some ⟨M.mp, 0, none⟩), .int .u64 d] V fun e V' => ∃ v s', e = .returned v ∧ MStep V M sj V' s' (B (j + 1)) ∧ R (j + 1) s')
 (HF : ∀ V sj, MachAt V M sj (B K) → R K sj → (sj.c.q.q M.c.q.k).Ok ∧ ∀ x ∈ sj.c.t.rows, ovr x.1) : Calls Tryz.prog 15 #[.pointer (some ⟨M.mp, 0, none⟩), .int .u64 d] W fun e w' => ∃ sK s' a cap, e = .returned (.tuple #[.agg #[.int .i64 (cntP sK.c.t.rows sK.c.t.rows.length 4), .int .i64 (cntP sK.c.t.rows sK.c.t.rows.length 5), .int .i64 (cntP sK.c.t.rows sK.c.t.rows.length 6), .slice a 0 cap, .int .i64 K], .bool true]) ∧ R K sK ∧ MStep W M s w' s' (B K + 1260) ∧ s'.mm M = sK.mm M := by
 obtain ⟨W1, hW1⟩ : ∃ W1, W.alloc (.cells #[.int .i64 0, .int .i64 0, .int .i64 0, .slice none 0 0, .int .i64 0] 35) = W1 := ⟨_, rfl⟩
 have hb1 : Below W.heap.size W W1 := by rw [← hW1]; exact below_al (Below.refl _ _) _
 have x1 : W1.heap[W.heap.size]? = some (.cells #[.int .i64 0, .int .i64 0, .int .i64 0, .slice none 0 0, .int .i64 0] 35 (0, 0)) := by rw [← hW1]; exact heap_alloc_new W _
 have h1 := h.below hb1
 have n1 : ¬ mOwn M s W.heap.size := fun e => by have := mOwn_lt h e; omega
 have HC := Lib.hid (M_Core h1)
 have HS := Lib.hid (C_Shutdown h1.c (by omega) hcl)
 have H := Lib.hid (And.intro h (And.intro hb1 (And.intro h1 (And.intro x1 n1))))
 have HW1 := Lib.hid hW1
 have HHQ := Lib.hid HQ
 have HHR := Lib.hid HR
 have HHF := Lib.hid HF
 have HR0 := Lib.hid hR0
 have HB := Lib.hid (And.intro hB hBK)
 clear h hb1 x1 h1 n1 hW1 HQ HR HF hR0 hcl hB hBK
 go_enter Tryz.func15, Tryz.ntmps15
 go_upto_region 1 with fail
 rw [HW1.out]
 go_wp2_with fail
 refine HC.out.mono ?_
 rintro e w1 ⟨rfl, rfl⟩
 go_wp2_with fail
 refine HS.out.mono ?_
 rintro e w2 ⟨⟨a, cap, rfl⟩, S2, k2, hm2⟩
 obtain ⟨W3, hW3⟩ : ∃ W3, w2.alloc (.cells #[.int .i64 0, .int .i64 0, .int .i64 0, .slice a 0 cap, .int .i64 0] 35) = W3 := ⟨_, rfl⟩
 have hHC : ClsAt W M s B R W.heap.size w2.heap.size a cap 0 { s with c := S2 } W3 := by
  obtain ⟨h, hb1, h1, x1, n1⟩ := H.out
  have st2 := (MStep.below h hb1).trans (MStep.core h1 k2)
  obtain ⟨x2, n2⟩ := (MStep.core h1 k2).kept n1 x1
  have hb3 : Below w2.heap.size w2 W3 := by rw [← hW3]; exact below_al (Below.refl _ _) _
  have hl := heap_lt x2
  have hsz : W.heap.size ≤ w2.heap.size := st2.fr.size
  refine ⟨?_, HR0.out S2 hm2, (hb3.block _ hl).trans x2, by rw [← hW3]; exact heap_alloc_new w2 _, n2, fun e => ?_, Nat.le_refl _, hsz, by omega⟩
  · rw [HB.out.1]
    exact st2.trans (MStep.below st2.at_ hb3)
  · have := mOwn_lt st2.at_ e
    omega
 have hl4 : W.heap.size ≠ w2.heap.size := hHC.ne.2.2
 have HC0 := Lib.hid hHC
 have HW3 := Lib.hid hW3
 obtain ⟨b4, hb4⟩ : ∃ b, W.heap.size = b := ⟨_, rfl⟩
 obtain ⟨b7, hb7⟩ : ∃ b, w2.heap.size = b := ⟨_, rfl⟩
 clear hHC k2 hm2 hW3
 go_upto_region 3 with fail
 rw [HW3.out]
 rw [hb4, hb7] at HC0 hl4
 have HB47 := Lib.hid (And.intro hb4 hb7)
 clear hb4 hb7
 go_loopg [] K (fun gg wr => ∃ (j : Nat) (sj : MS), j ≤ K ∧ gg = K - j ∧ Aside (ClsAt W M s B R b4 b7 a cap j sj wr))
 case atStart => exact ⟨0, _, Nat.zero_le _, by omega, HC0.out⟩
 case round =>
  obtain ⟨j, sj, hj, rfl, hR⟩ := hrel
  obtain ⟨hclo, hlen, hfl⟩ := HHQ.out j wr sj hj hR.out.st.at_ hR.out.r
  have HD := Lib.hid (C_Drained hR.out.st.at_.c hclo)
  have HR := Lib.hid hR.out
  have HL := Lib.hid hlen
  have hjm : (((j : Int)) == 100000) = false := by rw [beq_eq_false_iff_ne]; omega
  have hx := Lib.hid (fun (w : World) (hb : Below wr.heap.size wr w) => (show _ from And.intro hb (And.intro ((hb.block _ (heap_lt HR.out.x4)).trans HR.out.x4) ((hb.block _ (heap_lt HR.out.x7)).trans HR.out.x7))))
  clear hR hclo hlen
  by_cases hlt : j < K
  ·
   rw [decide_eq_false (show ¬ j = K by omega)] at hfl
   cases hdr : (sj.c.cm M.c).drained with
   | false =>
    rw [hdr] at HD
    clear hfl hdr
    go_wp2_with fail
    refine HD.out.mono ?_
    rintro e w1 ⟨rfl, hb⟩
    have HX := Lib.hid (hx.out w1 hb)
    clear hb
    obtain ⟨hx4, hx7⟩ := HX.out.2
    obtain ⟨q0, q1, q2, q3, q4, qz⟩ := cells5 hx7
    have hat := HR.out.st.at_.below HX.out.1
    have HRD := Lib.hid (HHR.out j w1 sj hlt hat HR.out.r)
    clear hx4 hx7 hat
    go_wp2_with fail
    refine HRD.out.mono ?_
    rintro e w5 ⟨v5, s5, rfl, k5, r5⟩
    obtain ⟨y4, m4⟩ := k5.kept HR.out.n4 HX.out.2.1
    obtain ⟨y7, m7⟩ := k5.kept HR.out.n7 HX.out.2.2
    obtain ⟨p0, p1, p2, p3, p4, pz⟩ := cells5 y7
    have hwr : IntKind.i64.wrap ((j : Int) + 1) = (j : Int) + 1 := wrap_small (by omega) (by omega)
    have f5 : Fr (fun k => k = b7) w5 (w5.setCell ⟨b7, 4, none⟩ (.int .i64 ((j : Int) + 1))) := Fr.set (S := fun k => k = b7) (Fr.refl _ _) (p := ⟨b7, 4, none⟩) rfl _
    have st5 := (HR.out.st.trans (MStep.below HR.out.st.at_ HX.out.1)).trans k5
    have HN := Lib.hid (show ClsAt W M s B R b4 b7 a cap (j + 1) s5 (w5.setCell ⟨b7, 4, none⟩ (.int .i64 ((j : Int) + 1))) from ⟨st5.box f5 y7 (by decide) HR.out.ne.2.1 m7, r5, (f5.block _ (heap_lt y4) HR.out.ne.2.2).trans y4, by rw [heap_set y7]; rfl, m4, m7, HR.out.ne⟩)
    clear y4 m4 y7 m7 f5 st5 k5 r5 q0 q1 q2 q3 q4 qz
    go_wp2_with fail
    go_roundg (K - (j + 1))
    case measure => omega
    case rel => exact ⟨j + 1, s5, by omega, rfl, (show Aside _ from HN.out)⟩
   | true =>
    rw [hdr, Bool.true_and] at hfl
    rw [hdr] at HD
    clear hdr
    go_wp2_with fail
    refine HD.out.mono ?_
    rintro e w1 ⟨rfl, hb⟩
    have HI := Lib.hid (M_Idle (HR.out.st.at_.below hb) HL.out)
    rw [hfl] at HI
    have HB1 := Lib.hid hb
    clear hb hfl
    go_wp2_with fail
    refine HI.out.mono ?_
    rintro e w2 ⟨rfl, hb⟩
    have HX := Lib.hid (hx.out w2 (below_step hb HB1.out))
    clear hb
    obtain ⟨hx4, hx7⟩ := HX.out.2
    obtain ⟨q0, q1, q2, q3, q4, qz⟩ := cells5 hx7
    have hat := HR.out.st.at_.below HX.out.1
    have HRD := Lib.hid (HHR.out j w2 sj hlt hat HR.out.r)
    clear hx4 hx7 hat
    go_wp2_with fail
    refine HRD.out.mono ?_
    rintro e w5 ⟨v5, s5, rfl, k5, r5⟩
    obtain ⟨y4, m4⟩ := k5.kept HR.out.n4 HX.out.2.1
    obtain ⟨y7, m7⟩ := k5.kept HR.out.n7 HX.out.2.2
    obtain ⟨p0, p1, p2, p3, p4, pz⟩ := cells5 y7
    have hwr : IntKind.i64.wrap ((j : Int) + 1) = (j : Int) + 1 := wrap_small (by omega) (by omega)
    have f5 : Fr (fun k => k = b7) w5 (w5.setCell ⟨b7, 4, none⟩ (.int .i64 ((j : Int) + 1))) := Fr.set (S := fun k => k = b7) (Fr.refl _ _) (p := ⟨b7, 4, none⟩) rfl _
    have st5 := (HR.out.st.trans (MStep.below HR.out.st.at_ HX.out.1)).trans k5
    have HN := Lib.hid (show ClsAt W M s B R b4 b7 a cap (j + 1) s5 (w5.setCell ⟨b7, 4, none⟩ (.int .i64 ((j : Int) + 1))) from ⟨st5.box f5 y7 (by decide) HR.out.ne.2.1 m7, r5, (f5.block _ (heap_lt y4) HR.out.ne.2.2).trans y4, by rw [heap_set y7]; rfl, m4, m7, HR.out.ne⟩)
    clear y4 m4 y7 m7 f5 st5 k5 r5 q0 q1 q2 q3 q4 qz
    go_wp2_with fail
    go_roundg (K - (j + 1))
    case measure => omega
    case rel => exact ⟨j + 1, s5, by omega, rfl, (show Aside _ from HN.out)⟩
  ·
   obtain rfl : j = K := by omega
   rw [decide_eq_true rfl, Bool.and_eq_true] at hfl
   obtain ⟨hdr, hid⟩ := hfl
   rw [hdr] at HD
   clear hdr hlt
   go_wp2_with fail
   refine HD.out.mono ?_
   rintro e w1 ⟨rfl, hb⟩
   have HI := Lib.hid (M_Idle (HR.out.st.at_.below hb) HL.out)
   rw [hid] at HI
   have HB1 := Lib.hid hb
   clear hb hid
   go_wp2_with fail
   refine HI.out.mono ?_
   rintro e w2 ⟨rfl, hb⟩
   have HX := Lib.hid (hx.out w2 (below_step hb HB1.out))
   clear hb
   obtain ⟨hx4, hx7⟩ := HX.out.2
   have hat := HR.out.st.at_.below HX.out.1
   obtain ⟨hok, h4⟩ := HHF.out _ _ HR.out.st.at_ HR.out.r
   have HSO := Lib.hid (D_sorted hat.c (by have := HB.out.2; omega) hok h4)
   have HAT := Lib.hid hat
   clear hx4 hx7 hat hok h4
   go_wp2_with fail
   refine HSO.out.mono ?_
   rintro e w5 ⟨mb, v, S5, rfl, k5, hm5, hmap, hsl, hzz⟩
   have k6 := MStep.core HAT.out k5
   obtain ⟨y4, m4⟩ := k6.kept HR.out.n4 HX.out.2.1
   obtain ⟨y7, m7⟩ := k6.kept HR.out.n7 HX.out.2.2
   have hln : sj.c.t.rows.length ≤ 200 := HAT.out.c.t.len.2
   have hat_ : ∀ s, (clF (cntP sj.c.t.rows sj.c.t.rows.length) v s 1).getD (.slice none 0 0) = v s := fun s => clF_at (hzz s)
   have hle : ∀ s, cntP sj.c.t.rows sj.c.t.rows.length s ≤ 200 := fun s => Nat.le_trans (cntP_le _ _ s) hln
   obtain ⟨f, hf⟩ : ∃ f, cntP sj.c.t.rows sj.c.t.rows.length = f := ⟨_, rfl⟩
   rw [hf] at hmap hsl hat_ hle
   obtain ⟨n, hn⟩ : ∃ n, f 4 = n := ⟨_, rfl⟩
   obtain ⟨n5, hn5⟩ : ∃ n, f 5 = n := ⟨_, rfl⟩
   obtain ⟨n6, hn6⟩ : ∃ n, f 6 = n := ⟨_, rfl⟩
   have hnl := hle 4
   have hnl5 := hle 5
   have hnl6 := hle 6
   obtain ⟨a4, c4, hv4⟩ := hsl 4
   obtain ⟨a5, c5, hv5⟩ := hsl 5
   obtain ⟨a6, c6, hv6⟩ := hsl 6
   rw [hn] at hv4 hnl
   rw [hn5] at hv5 hnl5
   rw [hn6] at hv6 hnl6
   have hlk : ∀ w, w.heap[mb]? = w5.heap[mb]? → (Instr.lookup 108 (.map (some mb)) (.agg #[.int .i64 4, .int .i64 1]) false).run Tryz.prog w = .ok (.slice a4 n c4) w ∧ (Instr.lookup 108 (.map (some mb)) (.agg #[.int .i64 5, .int .i64 1]) false).run Tryz.prog w = .ok (.slice a5 n5 c5) w ∧ (Instr.lookup 108 (.map (some mb)) (.agg #[.int .i64 6, .int .i64 1]) false).run Tryz.prog w = .ok (.slice a6 n6 c6) w := by
    intro w hw
    have hm : PMap w mb (clF f v) := by
     obtain ⟨es, ck, h1, h2⟩ := hmap
     exact ⟨es, ck, by rw [hw]; exact h1, h2⟩
    have l4 := hm.lookup keyedClassD key_classD Tryz.underlying108 (.slice none 0 0) (by kernel_rfl) 4 1 (by unfold In64; decide) (by unfold In64; decide)
    have l5 := hm.lookup keyedClassD key_classD Tryz.underlying108 (.slice none 0 0) (by kernel_rfl) 5 1 (by unfold In64; decide) (by unfold In64; decide)
    have l6 := hm.lookup keyedClassD key_classD Tryz.underlying108 (.slice none 0 0) (by kernel_rfl) 6 1 (by unfold In64; decide) (by unfold In64; decide)
    rw [hat_ 4, hv4] at l4
    rw [hat_ 5, hv5] at l5
    rw [hat_ 6, hv6] at l6
    exact ⟨l4, l5, l6⟩
   have hmb : ¬ mb = b7 := fun e => by
    obtain ⟨es, ck, h1, h2⟩ := hmap
    rw [e, y7] at h1
    cases h1
   have f1 : Fr (fun k => k = b7) w5 (w5.setCell ⟨b7, 0, none⟩ (.int .i64 n)) := Fr.set (S := fun k => k = b7) (Fr.refl _ _) (p := ⟨b7, 0, none⟩) rfl _
   have f2 : Fr (fun k => k = b7) w5 ((w5.setCell ⟨b7, 0, none⟩ (.int .i64 n)).setCell ⟨b7, 1, none⟩ (.int .i64 n5)) := Fr.set (S := fun k => k = b7) f1 (p := ⟨b7, 1, none⟩) rfl _
   have hml : mb < w5.heap.size := by obtain ⟨es, ck, h1, -⟩ := hmap; exact heap_lt h1
   obtain ⟨l4, l5, l6⟩ := hlk w5 rfl
   obtain ⟨l4', l5', l6'⟩ := hlk w5.drew rfl
   obtain ⟨m4a, m5a, m6a⟩ := hlk (w5.setCell ⟨b7, 0, none⟩ (.int .i64 n)) (f1.block mb hml hmb)
   obtain ⟨m4b, m5b, m6b⟩ := hlk (w5.setCell ⟨b7, 0, none⟩ (.int .i64 n)).drew (f1.block mb hml hmb)
   obtain ⟨m4c, m5c, m6c⟩ := hlk ((w5.setCell ⟨b7, 0, none⟩ (.int .i64 n)).setCell ⟨b7, 1, none⟩ (.int .i64 n5)) (f2.block mb hml hmb)
   obtain ⟨m4d, m5d, m6d⟩ := hlk ((w5.setCell ⟨b7, 0, none⟩ (.int .i64 n)).setCell ⟨b7, 1, none⟩ (.int .i64 n5)).drew (f2.block mb hml hmb)
   clear f1 f2 hml hmb hat_ hle hzz hsl hv4 hv5 hv6
   have HY := Lib.hid (And.intro k6 (And.intro y4 (And.intro m4 (And.intro y7 (And.intro m7 (And.intro hm5 (And.intro hf (And.intro hn (And.intro hn5 hn6)))))))))
   clear hlk hmap k6 y4 m4 y7 m7 hm5 k5 hn hn5 hn6 hf
   go_upto_region 9 with fail
   go_cut [] (fun w => w.heap[b7]? = some (.cells #[.int .i64 n, .int .i64 n5, .int .i64 n6, .slice a 0 cap, .int .i64 j] 35 (0, 0)) ∧ w.heap[b4]? = some (.cells #[.int .i64 0, .int .i64 0, .int .i64 0, .slice none 0 0, .int .i64 0] 35 (0, 0)) ∧ MStep W M s w { sj with c := S5 } (B j + 1260))
   case first =>
    have y7 : w5.drew.heap[b7]? = some (.cells #[.int .i64 0, .int .i64 0, .int .i64 0, .slice a 0 cap, .int .i64 j] 35 (0, 0)) := HY.out.2.2.2.1
    have y4 : w5.drew.heap[b4]? = some (.cells #[.int .i64 0, .int .i64 0, .int .i64 0, .slice none 0 0, .int .i64 0] 35 (0, 0)) := HY.out.2.1
    obtain ⟨q0, q1, q2, q3, q4, qz⟩ := cells5 y7
    obtain ⟨-, -, -, -, -, qz'⟩ := cells5 (w := w5) HY.out.2.2.2.1
    have f5 : Fr (fun k => k = b7) w5.drew (((w5.drew.setCell ⟨b7, 0, none⟩ (.int .i64 n)).setCell ⟨b7, 1, none⟩ (.int .i64 n5)).setCell ⟨b7, 2, none⟩ (.int .i64 n6)) := Fr.set (S := fun k => k = b7) (Fr.set (S := fun k => k = b7) (Fr.set (S := fun k => k = b7) (Fr.refl _ _) (p := ⟨b7, 0, none⟩) rfl _) (p := ⟨b7, 1, none⟩) rfl _) (p := ⟨b7, 2, none⟩) rfl _
    have u1 : (w5.setCell ⟨b7, 0, none⟩ (.int .i64 n)).drew.heap[b7]? = _ := heap_set (o := 0) y7 (.int .i64 n)
    have u2 : ((w5.setCell ⟨b7, 0, none⟩ (.int .i64 n)).setCell ⟨b7, 1, none⟩ (.int .i64 n5)).drew.heap[b7]? = _ := heap_set (o := 1) (heap_set (o := 0) y7 (.int .i64 n)) (.int .i64 n5)
    have uz1 : (w5.setCell ⟨b7, 0, none⟩ (.int .i64 n)).drew.frozen? ⟨b7, 1, none⟩ = false := frozen_of u1
    have uz2 : ((w5.setCell ⟨b7, 0, none⟩ (.int .i64 n)).setCell ⟨b7, 1, none⟩ (.int .i64 n5)).drew.frozen? ⟨b7, 2, none⟩ = false := frozen_of u2
    have v1 : (w5.setCell ⟨b7, 0, none⟩ (.int .i64 n)).drew.cell? ⟨b7, 1, none⟩ = some (.int .i64 0) := by rw [cell_of_heap u1]; rfl
    have v2 : ((w5.setCell ⟨b7, 0, none⟩ (.int .i64 n)).setCell ⟨b7, 1, none⟩ (.int .i64 n5)).drew.cell? ⟨b7, 2, none⟩ = some (.int .i64 0) := by rw [cell_of_heap u2]; rfl
    clear u1 u2
    have z7 := heap_set (o := 2) (heap_set (o := 1) (heap_set (o := 0) y7 (.int .i64 n)) (.int .i64 n5)) (.int .i64 n6)
    have z4 := (f5.block _ (heap_lt y4) (fun e => HR.out.ne.2.2 e)).trans y4
    have k6 : MStep W M s w5 { sj with c := S5 } (B j + 1260) := (HR.out.st.trans (MStep.below HR.out.st.at_ HX.out.1)).trans HY.out.1
    have k7 := (k6.trans (MStep.below k6.at_ (below_dr (Below.refl _ _)))).box f5 y7 (by decide) HR.out.ne.2.1 HY.out.2.2.2.2.1
    have HE := Lib.hid (And.intro z7 (And.intro z4 k7))
    clear y7 y4 f5 z7 z4 k6 k7
    go_region
    all_goals
     go_wp2_with fail
     go_meet
     exact ⟨HE.out.1, HE.out.2.1, HE.out.2.2⟩
   case rest =>
    obtain ⟨h7, h4, k7⟩ := hcut
    have h74 : ¬ b7 = b4 := fun e => HR.out.ne.2.2 e.symm
    have h47 : ¬ b4 = b7 := HR.out.ne.2.2
    obtain ⟨q0, q1, q2, q3, q4, qz⟩ := cells5 h7
    obtain ⟨p0, p1, p2, p3, p4, pz⟩ := cells5 h4
    have k8 := k7.box (set5_fr _ b4 (.int .i64 n) (.int .i64 n5) (.int .i64 n6) (.slice a 0 cap) (.int .i64 j)) h4 (by decide) HR.out.ne.1 HY.out.2.2.1
    have HS4 := Lib.hid (set5_heap h4 (.int .i64 n) (.int .i64 n5) (.int .i64 n6) (.slice a 0 cap) (.int .i64 j))
    have HK8 := Lib.hid k8
    clear h7 h4 k7 k8 l4 l5 l6 l4' l5' l6' m4a m4b m4c m4d m5a m5b m5c m5d m6a m6b m6c m6d
    go_wp2_with fail
    obtain ⟨e0, e1, e2, e3, e4, -⟩ := cells5 HS4.out
    refine bodyPost_ret (v := .tuple #[.agg #[.int .i64 n, .int .i64 n5, .int .i64 n6, .slice a 0 cap, .int .i64 j], .bool true]) (by simp [results, Tryz.results15, go_sem, e0, e1, e2, e3, e4]) rfl ?_
    refine ⟨sj, _, a, cap, by rw [HY.out.2.2.2.2.2.2.1, HY.out.2.2.2.2.2.2.2.1, HY.out.2.2.2.2.2.2.2.2.1, HY.out.2.2.2.2.2.2.2.2.2], HR.out.r, HK8.out, ?_⟩
    unfold MS.mm
    dsimp only
    rw [HY.out.2.2.2.2.2.1]
end
section
variable {W : World}
theorem V_made (a b c : Int) (T k C : Nat) (h1 : 1 ≤ T) (h8 : T ≤ 8) (hk : k ≤ 16) (c1 : 1 ≤ C) (c64 : C ≤ 64) (hV : ∀ W, Calls Tryz.prog 33 #[.int .i64 a, .int .i64 b, .int .i64 c] W fun e w' => e = .returned (.agg #[.int .i64 T, .int .i64 k, .int .i64 C]) ∧ Below W.heap.size W w') : Calls Tryz.prog 10 #[.int .i64 a, .int .i64 b, .int .i64 c] W fun e w' => ∃ M s, e = .returned (.pointer (some ⟨M.mp, 0, none⟩)) ∧ MachAt w' M s 0 ∧ s.c.cm M.c = CM.new T k ∧ s.ws = List.replicate T wk0 ∧ s.did = [0, 0, 0, 0, 0, 0, 0] ∧ s.pk = 0 ∧ M.c.q.lp.length = T ∧ M.c.q.k = k ∧ M.c.C = C ∧ (∀ j, mOwn M s j → W.heap.size ≤ j) ∧ Below W.heap.size W w' := by
 have HV := Lib.hid (hV W)
 have HN := Lib.hid (fun w => M_New T k C h1 h8 hk c1 c64 w)
 clear hV h1 h8 hk c1 c64
 go_enter Tryz.func10, Tryz.ntmps10
 go_wp2_with fail
 refine HV.out.mono ?_
 rintro e w1 ⟨rfl, hb1⟩
 have HB1 := Lib.hid hb1
 clear hb1
 go_wp2_with fail
 refine (HN.out w1).mono ?_
 rintro e w2 ⟨M, s, rfl, hm, hcm, hws, hdid, hpk, hl, hk', hC, hown, hb⟩
 have HC := Lib.hid (M_Core hm)
 have H2 := Lib.hid (And.intro hm (And.intro hcm (And.intro hws (And.intro hdid (And.intro hpk (And.intro hl (And.intro hk' (And.intro hC (And.intro hown hb)))))))))
 clear hm hcm hws hdid hpk hl hk' hC hown hb
 go_wp2_with fail
 refine HC.out.mono ?_
 rintro e w3 ⟨rfl, rfl⟩
 go_wp2_with fail
 refine bodyPost_ret (v := .pointer (some ⟨M.mp, 0, none⟩)) (by simp [results, Tryz.results10, go_sem]) rfl ?_
 obtain ⟨hm, hcm, hws, hdid, hpk, hl, hk', hC, hown, hb⟩ := H2.out
 exact ⟨M, s, rfl, hm, hcm, hws, hdid, hpk, hl, hk', hC, fun j hj => Nat.le_trans HB1.out.size (hown j hj), below_step hb HB1.out⟩
end
end Go.Proofs.YtcfhkbcllijnkaaGreat
