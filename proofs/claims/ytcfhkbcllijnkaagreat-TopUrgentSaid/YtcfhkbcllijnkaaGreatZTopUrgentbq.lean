/- Contracts and plain laws that the proof of TopUrgent goes by, under no condition. -/
import Derived.Test.YtcfhkbcllijnkaaGreatZTopUrgentbp
import Derived.Test.YtcfhkbcllijnkaaGreatZTopUrgentae
set_option linter.unusedVariables false
set_option linter.unusedSimpArgs false
set_option maxRecDepth 100000
set_option maxHeartbeats 40000000
namespace Go.Proofs.YtcfhkbcllijnkaaGreat
open Go.RowKit Go.Maps Go.Shelf Go.Proofs.YtcfhkbcllijnkaaGreatW.PrintWords
theorem J.evlen {al : Int → Prop} {T k : Nat} {m : MM} (hJ : J al T k m) {t : Nat} (ht : t < T) (d : Int) : (m.step t d).c.evs.length ≤ m.c.evs.length + 2 := by
 obtain ⟨w, hw⟩ : ∃ w, m.ws[t]? = some w := ⟨_, List.getElem?_eq_getElem (by rw [hJ.wl]; exact ht)⟩
 have hstep : (m.step t d).c = (m.c.wstep t d w).1 := by unfold MM.step; rw [hw]
 rw [hstep]
 have key : ∃ l, (m.c.wstep t d w).1.evs = m.c.evs ++ l ∧ l.length ≤ 2 := by
  unfold CM.wstep
  repeat' split
  all_goals first
   | exact ⟨[], (List.append_nil _).symm, by decide⟩
   | exact ⟨[_], rfl, Nat.succ_le_succ (Nat.zero_le _)⟩
   | (show ∃ l, (m.c.finish _ _ _).evs = _ ∧ _
      unfold CM.finish
      rw [hJ.d]
      exact ⟨[_], rfl, Nat.succ_le_succ (Nat.zero_le _)⟩)
   | exact ⟨[_, _], List.append_assoc _ _ _, Nat.le_refl 2⟩
 obtain ⟨l, hl, h2⟩ := key
 rw [hl, List.length_append]
 omega
structure UAt (w1 : World) (M : MA) (s1 : MS) (T k : Nat) (D : Int) (E P B : Nat) (s : MS) (w : World) : Prop where
 st : za3 w1 M s1 w s B
 jj : J (· = 4) T k (s.mm M)
 cl : (s.mm M).c.closed = false
 n1 : 1 ≤ (s.mm M).c.rows.length
 ev : (s.mm M).c.evs.length ≤ E
 u : (Ur D T (s.mm M) ∧ (s.mm M).psi + P ≤ 4100) ∨ Urd D T (s.mm M)
section
variable {w1 w w' : World} {M : MA} {s1 s s' : MS} {T k E P B E' P' B' : Nat} {D : Int}
theorem UAt.below (h : UAt w1 M s1 T k D E P B s w) (hb : Below w.heap.size w w') : UAt w1 M s1 T k D E P B s w' := ⟨h.st.trans (za3.below h.st.at_ hb), h.jj, h.cl, h.n1, h.ev, h.u⟩
theorem UAt.up (h : UAt w1 M s1 T k D E P B s w) (hE : E ≤ E') (hB : B ≤ B') : UAt w1 M s1 T k D E' P B' s w := ⟨h.st.up hB, h.jj, h.cl, h.n1, Nat.le_trans h.ev hE, h.u⟩
theorem UAt.same (h : UAt w1 M s1 T k D E P B s w) {S' : CS} (k' : zag w M.c s.c w' S' B') (hm : S'.cm M.c = s.c.cm M.c) : UAt w1 M s1 T k D E P B' { s with c := S' } w' ∧ ({ s with c := S' } : MS).mm M = s.mm M := by
 have em : ({ s with c := S' } : MS).mm M = s.mm M := by
  unfold MS.mm
  dsimp only
  rw [hm]
 exact ⟨⟨h.st.trans (za3.core h.st.at_ k'), by rw [em]; exact h.jj, by rw [em]; exact h.cl, by rw [em]; exact h.n1, by rw [em]; exact h.ev, by rw [em]; exact h.u⟩, em⟩
theorem UAt.pick (h : UAt w1 M s1 T k D E P B s w) (hB : B ≤ 200000000) (hT : M.c.q.lp.length = T) (h1 : 1 ≤ T) (h8 : T ≤ 8) (p : Nat) (hp : (p : Int) ≤ top) (d : Int) (d0 : 0 ≤ d) (d1 : d ≤ top) : Calls Tryz.prog 24 #[.pointer (some ⟨M.mp, 0, none⟩), .int .u64 p, .int .u64 d] w fun e w' => (∃ kd : Int, e = .returned (.int .i64 kd)) ∧ ∃ s', UAt w1 M s1 T k D (E + 2) (P + 1) (B + 300) s' w' := by
 have ht : p % T < T := Nat.mod_lt _ (by omega)
 refine (zpc h.st.at_ (by omega) (p % T) (by rw [hT]; exact ht) d d0 d1 p hp (by rw [hT]) (fun w hw => h.jj.good hw)).mono ?_
 rintro e w' ⟨he, s', k', hs, -⟩
 obtain ⟨j1, j2, j3⟩ := h.jj.step h8 ht d
 refine ⟨he, s', h.st.trans k', by rw [hs]; exact j1, by rw [hs, zky]; exact h.cl, by rw [hs, j2]; exact h.n1, ?_, ?_⟩
 ·
  rw [hs]
  have := h.jj.evlen ht d
  have := h.ev
  omega
 ·
  rw [hs]
  rcases h.u with ⟨hu, hp⟩ | hu
  ·
   rcases hu.step h.jj h8 ht d with hu' | hu'
   ·
    refine .inl ⟨hu', ?_⟩
    have h3 : ((s.mm M).step (p % T) d).phi < (s.mm M).phi := by
     rcases j3 with j3 | ⟨-, j3, -⟩
     · exact j3
     · obtain ⟨e1, he1, -⟩ := hu.in_ h.jj
       rw [j3] at he1
       cases he1
    unfold MM.psi at *
    rw [j2]
    omega
   · exact .inr hu'
  · exact .inr (hu.more (h.jj.clm ht d))
theorem UAt.status (h : UAt w1 M s1 T k D E P B s w) (hB : B ≤ 200000000) : Calls Tryz.prog 22 #[.pointer (some ⟨M.c.cb, 0, none⟩), .int .i64 1] w fun e w' => ∃ x : Int, e = .returned (.int .i64 x) ∧ ∃ s', UAt w1 M s1 T k D E P (B + 1) s' w' ∧ (x = 4 → Urd D T (s'.mm M)) := by
 have hn := h.n1
 obtain ⟨x, hx⟩ : ∃ x, (s.mm M).c.rows[0]? = some x := ⟨_, List.getElem?_eq_getElem (by omega)⟩
 have hx' : s.c.t.rows[0]? = some x := hx
 refine (ze0 h.st.at_.c (by omega) 0 x hx').mono ?_
 rintro e w' ⟨he, k'⟩
 obtain ⟨h2, em⟩ := h.same k' rfl
 refine ⟨x.1, he, _, h2, fun h4 => ?_⟩
 rw [em]
 rcases h.u with ⟨hu, -⟩ | hu
 ·
  obtain ⟨y, hy, -⟩ := hu.row
  rw [hx] at hy
  injection hy with hy
  rw [hy] at h4
  exact absurd h4 (by show (2 : Int) ≠ 4; decide)
 · exact hu
theorem UAt.state (h : UAt w1 M s1 T k D E P B s w) (hB : B ≤ 200000000) (hC : M.c.C = 32) : Calls Tryz.prog 17 #[.pointer (some ⟨M.c.cb, 0, none⟩)] w fun e w' => ∃ fr tk tv sv lv hv, e = .returned (.agg #[.int .u64 0, .int .u64 tk, .bool false, .int .i64 fr, tv, sv, lv, hv, .slice none 0 0]) ∧ ∃ s', UAt w1 M s1 T k D E P (B + 1260) s' w' ∧ (1 < fr → (s'.mm M).c.o < 31) := by
 refine (zkw h.st.at_.c (by omega) h.jj.ok).mono ?_
 rintro e w' ⟨tv, sv, lv, hv, he, hP, -⟩
 have hc : s.c.closed = false := h.cl
 rw [hc, hC] at he
 obtain ⟨S', k', hm, -, -⟩ := hP.core
 have k2 : zag w M.c s.c w' S' (B + 1260) := k'
 obtain ⟨h2, em⟩ := h.same k2 hm
 refine ⟨_, _, tv, sv, lv, hv, he, _, h2, fun hf => ?_⟩
 rw [em]
 show s.c.o < 31
 have hf : (1 : Int) < ((32 : Nat) : Int) - s.c.o := hf
 omega
theorem zpg (c : CM) (t : Nat) (prio : Int) : (c.sub t prio []).evs.length = c.evs.length + 2 := by
 show ((c.evs ++ [_]) ++ [_]).length = _
 rw [List.length_append, List.length_append]
 rfl
theorem UAt.sub (h : UAt w1 M s1 T k D E P B s w) (hB : B ≤ 200000000) (hT : M.c.q.lp.length = T) (h8 : T ≤ 8) (hC : M.c.C = 32) (ho : (s.mm M).c.o < 31) (p : Nat) (hp : p < T) : Calls Tryz.prog 12 #[.pointer (some ⟨M.c.cb, 0, none⟩), .int .i64 p, .int .i64 0, .slice none 0 0, .slice none 0 0] w fun e w' => (∃ a b : Int, e = .returned (.tuple #[.int .i64 a, .int .i64 b])) ∧ ∃ s', UAt w1 M s1 T k D (E + 2) P (B + 220) s' w' := by
 have hlen : s.c.t.rows.length ≤ 200 := h.st.at_.c.t.len.2
 have hal : (s.mm M).c.q.all.length < 64 := by have := h.jj.o; omega
 by_cases hn : s.c.t.rows.length = 200
 · refine (zim h.st.at_.c (by omega) h.cl p (by rw [hT]; exact hp) 0 (by omega) (by omega) zpf hn).mono ?_
   rintro e w' ⟨he, S', k', hm⟩
   exact ⟨⟨_, _, he⟩, _, (h.same k' hm).1.up (by omega) (by omega)⟩
 ·
  have ho' : s.c.o < 31 := ho
  refine (zf1 h.st.at_.c (by omega) h.cl p (by rw [hT]; exact hp) 0 (by omega) (by omega) zpf (fun c hc => by cases hc) (by omega) (by rw [hC]; omega) h.jj.ok).mono ?_
  rintro e w' ⟨he, S', k', hm⟩
  obtain ⟨j1, j2, j3⟩ := h.jj.sub hp 0 (by unfold NB; omega)
  have em : ({ s with c := S' } : MS).mm M = ⟨(s.mm M).c.sub p 0 [], (s.mm M).ws⟩ := by
   unfold MS.mm
   dsimp only
   rw [hm]
  refine ⟨⟨_, _, he⟩, { s with c := S' }, ⟨h.st.trans (za3.core h.st.at_ k'), by rw [em]; exact j1, by rw [em]; exact h.cl, ?_, ?_, ?_⟩⟩
  · rw [em]
    show 1 ≤ ((s.mm M).c.sub p 0 []).rows.length
    omega
  ·
   rw [em]
   show ((s.mm M).c.sub p 0 []).evs.length ≤ _
   rw [zpg]
   have := h.ev
   omega
  ·
   rw [em]
   rcases h.u with ⟨hu, hps⟩ | hu
   ·
    refine .inl ⟨hu.sub h.jj h8 hp (by omega), ?_⟩
    have h1 := sub_phi h.jj hp 0
    unfold MM.psi at *
    have hr : (s.mm M).c.rows.length < 200 := by
     have : (s.mm M).c.rows.length = s.c.t.rows.length := rfl
     omega
    show (⟨(s.mm M).c.sub p 0 [], (s.mm M).ws⟩ : MM).phi + 20 * (200 - ((s.mm M).c.sub p 0 []).rows.length) + P ≤ 4100
    rw [j2]
    omega
   · exact .inr (hu.more ⟨[], by show clmE ((s.mm M).c.sub p 0 []).evs = _; rw [zio, List.append_nil]⟩)
theorem slack63 (q : Nat) (hq : q < 7) : 0 ≤ za9 (q : Int) ∧ za9 (q : Int) ≤ 63 := by
 have h : ∀ q : Fin 7, 0 ≤ za9 (q.val : Int) ∧ za9 (q.val : Int) ≤ 63 := by decide
 exact h ⟨q, hq⟩
theorem UAt.first (hm : za0 w M s 0) (hcm : s.c.cm M.c = CM.new T k) (hws : s.ws = List.replicate T wk0) (hT : M.c.q.lp.length = T) (hC : M.c.C = 32) (h1 : 1 ≤ T) (h8 : T ≤ 8) (hk : k ≤ 16) (q : Nat) (hq : q < 7) : Calls Tryz.prog 12 #[.pointer (some ⟨M.c.cb, 0, none⟩), .int .i64 0, .int .i64 q, .slice none 0 0, .slice none 0 0] w fun e w' => e = .returned (.tuple #[.int .i64 1, .int .i64 0]) ∧ ∃ s', UAt w M s T k (za9 (q : Int)) 10 0 220 s' w' := by
 have em0 : s.mm M = ⟨CM.new T k, List.replicate T wk0⟩ := by unfold MS.mm; rw [hcm, hws]
 have hJ : J (· = 4) T k ⟨CM.new T k, List.replicate T wk0⟩ := J.new ⟨rfl, by decide, by decide⟩ h1 hk
 have hall0 : (CM.new T k).q.all.length = 0 := by
  have ho := hJ.o
  have h0 : (CM.new T k).o = 0 := rfl
  have ho : (CM.new T k).o = (((CM.new T k).q.all.length + (⟨CM.new T k, List.replicate T wk0⟩ : MM).runs : Nat) : Int) := ho
  omega
 have hrows : s.c.t.rows = [] := congrArg CM.rows hcm
 have ho : s.c.o = 0 := congrArg CM.o hcm
 have hcl : s.c.closed = false := congrArg CM.closed hcm
 have hq0 : s.c.q.q M.c.q.k = (CM.new T k).q := congrArg CM.q hcm
 obtain ⟨d0, d1⟩ := slack63 q hq
 refine (zf1 hm.c (by omega) hcl 0 (by rw [hT]; omega) q (by omega) (by omega) zpf (fun c hc => by cases hc) (by rw [hrows]; decide) (by rw [ho, hC]; decide) (by rw [hq0]; exact hJ.ok)).mono ?_
 rintro e w' ⟨he, S', k', hm'⟩
 rw [hrows] at he
 rw [hcm] at hm'
 obtain ⟨j1, j2, j3⟩ := hJ.sub (t := 0) (by omega) q (by show (CM.new T k).q.all.length < NB; rw [hall0]; decide)
 have em : ({ s with c := S' } : MS).mm M = ⟨(CM.new T k).sub 0 q [], List.replicate T wk0⟩ := by
  unfold MS.mm
  dsimp only
  rw [hm', hws]
 have hkey : zcq 0 (za9 (q : Int)) = za9 (q : Int) := by unfold zcq top; omega
 have hr : ((CM.new T k).sub 0 q []).rows = [(2, { mkTk (q : Int) [] with ke := za9 (q : Int) })] := by
  rw [← hkey]
  rfl
 have hall : ((CM.new T k).sub 0 q []).q.all.length ≤ 1 := by
  have h2 := j1.o
  have h3 : ((CM.new T k).sub 0 q []).o = 0 + 1 := j3
  have h2 : ((CM.new T k).sub 0 q []).o = ((((CM.new T k).sub 0 q []).q.all.length + (⟨(CM.new T k).sub 0 q [], List.replicate T wk0⟩ : MM).runs : Nat) : Int) := h2
  omega
 have hce : clmE ((CM.new T k).sub 0 q []).evs = [] := by rw [zio]; rfl
 have hst : zeb (za9 (q : Int)) (List.replicate T wk0) ≤ T := by
  have := zl1 (za9 (q : Int)) (List.replicate T wk0)
  rw [List.length_replicate] at this
  exact this
 have hU0 : ∃ e1 ∈ ((CM.new T k).sub 0 q []).q.all, e1.key = za9 (q : Int) := by
  have h1 := j1.rq 0 { mkTk (q : Int) [] with ke := za9 (q : Int) } (by show ((CM.new T k).sub 0 q []).rows[0]? = _; rw [hr]; rfl)
  rw [zd7] at h1
  obtain ⟨e, he, hid⟩ := h1
  have hid : e.id = 1 := hid
  obtain ⟨-, z, hz, hzk⟩ := j1.qr e he
  unfold zbw at hz
  rw [hid] at hz
  have hz : ((CM.new T k).sub 0 q []).rows[0]? = some (2, z) := hz
  rw [hr] at hz
  injection hz with hz
  injection hz with _ hz
  exact ⟨e, he, by rw [← hzk, ← hz]⟩
 obtain ⟨e1, he1, hk1⟩ := hU0
 have hless := zl0 he1 (D := za9 (q : Int)) (by omega)
 have hUr : Ur (za9 (q : Int)) T ⟨(CM.new T k).sub 0 q [], List.replicate T wk0⟩ := by
  refine ⟨⟨_, by show ((CM.new T k).sub 0 q []).rows[0]? = _; rw [hr]; rfl, rfl⟩, ⟨d0, d1⟩, Int.le_refl _, by show ((clmE ((CM.new T k).sub 0 q []).evs).length : Int) = _; rw [hce]; rfl, fun e he => ?_, ?_, fun hd => ?_⟩
  · have he : e ∈ clmE ((CM.new T k).sub 0 q []).evs := he
    rw [hce] at he
    cases he
  · show ((CM.new T k).sub 0 q []).o ≤ 32
    have h3 : ((CM.new T k).sub 0 q []).o = 0 + 1 := j3
    omega
  · show (0 : Int) + (zcw (za9 (q : Int)) ((CM.new T k).sub 0 q []).q.all : Int) + (zeb (za9 (q : Int)) (List.replicate T wk0) : Int) ≤ _
    omega
 have hps : (⟨(CM.new T k).sub 0 q [], List.replicate T wk0⟩ : MM).psi ≤ 4100 := by
  have h1 : (zbb ((CM.new T k).sub 0 q []).q.slots).length ≤ ((CM.new T k).sub 0 q []).q.all.length := by
   unfold QM.all
   rw [List.length_append, List.length_append]
   omega
  have h2 := zlw (fW ((CM.new T k).sub 0 q [])) (fun _ => 0) 2 (l := List.replicate T wk0) (fun w _ => by have := fW_le ((CM.new T k).sub 0 q []) w; omega)
  have h0 : ((List.replicate T wk0).map fun _ => 0).sum = 0 := by simp
  rw [h0, List.length_replicate] at h2
  unfold MM.psi MM.phi
  show 19 * ((CM.new T k).sub 0 q []).q.all.length + (zbb ((CM.new T k).sub 0 q []).q.slots).length + ((List.replicate T wk0).map (fW ((CM.new T k).sub 0 q []))).sum + 20 * (200 - ((CM.new T k).sub 0 q []).rows.length) ≤ 4100
  rw [hr]
  simp only [List.length_singleton]
  omega
 refine ⟨he, { s with c := S' }, ⟨(za3.core hm k').up (by omega), by rw [em]; exact j1, by rw [em]; rfl, by rw [em]; show 1 ≤ ((CM.new T k).sub 0 q []).rows.length; rw [hr]; exact Nat.le_refl _, ?_, .inl ⟨by rw [em]; exact hUr, by rw [em]; exact hps⟩⟩⟩
 rw [em]
 show ((CM.new T k).sub 0 q []).evs.length ≤ 10
 rw [zpg]
 show 0 + 2 ≤ 10
 omega
theorem zph {W : World} {base : Nat} {v : Value} {l : List En} (h : W.ownsRow base 63 2 v l.length (zbf l)) (hp : 0 < l.length) : ∃ g c, v = .slice (some ⟨g, 0, none⟩) l.length c ∧ ∀ (j : Nat) e, l[j]? = some e → W.cell? ⟨g, j * 2 + 1, none⟩ = some (.int .i64 e.id) := by
 have hs := SlV.of_owns h
 rcases h.2 with ⟨-, h0⟩ | ⟨g, cap, cur, rfl, hb, hg, hle, hmx, hsz, hF⟩
 · omega
 ·
  refine ⟨g, cap, rfl, fun j e hj => ?_⟩
  have hjl : j < l.length := (List.getElem?_eq_some_iff.1 hj).1
  have := SlV.cell hs rfl (j := j * 2 + 1) (by omega) (x := .int .i64 e.id) (by rw [zft l j 1 (by decide), hj]; rfl)
  simpa using this
theorem zpi (tk fr : Int) (tv sv lv hv : Value) (w : World) : Sem.run Tryz.prog (Instr.field 46 (.agg #[.int .u64 0, .int .u64 tk, .bool false, .int .i64 fr, tv, sv, lv, hv, .slice none 0 0]) 3) w = .ok (.int .i64 fr) w := by kernel_rfl
def zpj (W : World) (a : Option Addr) (n : Nat) : Prop := n = 0 ∨ ∃ b off, a = some ⟨b, off, none⟩ ∧ n ≤ 9223372036854775807 ∧ b < W.heap.size ∧ ∀ j, j < n → ∃ z : Int, W.cell? ⟨b, off + j, none⟩ = some (.int .u64 z) ∧ 0 ≤ z ∧ z ≤ top
def UW (W w1 : World) (M : MA) (s1 : MS) (T k : Nat) (D : Int) (E P B : Nat) (s : MS) (w : World) : Prop := UAt w1 M s1 T k D E P B s w ∧ (∀ j, mOwn M s1 j → W.heap.size ≤ j) ∧ Below W.heap.size W w1
theorem UW.bel {W : World} (h : UW W w1 M s1 T k D E P B s w) : Below W.heap.size W w := h.1.st.fresh h.2.2 h.2.1
theorem urb1 {i : Nat} (h : i ≤ 6000) : i * 2000 + 220 ≤ 13000000 := by omega
theorem urb2 (i : Nat) : 4 * i + 10 + 2 + 2 ≤ 4 * (i + 1) + 10 ∧ i * 2000 + 220 + 1 + 1260 + 220 + 300 ≤ (i + 1) * 2000 + 220 := by omega
theorem zk1 (t k prio : Int) (a3 : Option Addr) (n3 c3 : Nat) (W : World) (h3 : zpj W a3 n3) : Calls Tryz.prog 9 #[.int .i64 t, .int .i64 k, .int .i64 prio, .slice a3 n3 c3] W fun e w' => e = .returned (.bool true) ∧ Below W.heap.size W w' := by
 obtain ⟨T, kk, C, h1, h8, hk, c1, c32, eT, ek, eC, hV⟩ := V_Conf t k 31
 obtain rfl : C = 32 := by omega
 have HM := yyh (V_made (W := W) t k 31 T kk 32 h1 h8 (by omega) c1 c32 hV)
 obtain ⟨n7, rfl⟩ : ∃ n7, T = n7 + 1 := ⟨T - 1, by omega⟩
 have ha : bits .and .i64 t 7 = (n7 : Int) := by rw [zeo]; omega
 have hw7 : IntKind.i64.wrap ((n7 : Int) + 1) = (n7 : Int) + 1 := zb6 (by omega) (by omega)
 have hz7 : ((n7 : Int) + 1 == 0) = false := by rw [beq_eq_false_iff_ne]; omega
 have hz7' : ¬ ((n7 : Int) + 1 = 0) := by omega
 obtain ⟨p0, hp0, p00, p07⟩ : ∃ p, bits .and .i64 prio 7 = p ∧ 0 ≤ p ∧ p ≤ 7 := ⟨_, rfl, by rw [zeo]; omega, by rw [zeo]; omega⟩
 obtain ⟨q, hq, hq7⟩ : ∃ q : Nat, p0.tmod 7 = (q : Int) ∧ q < 7 := ⟨(p0 % 7).toNat, by rw [Int.tmod_eq_emod_of_nonneg p00]; omega, by omega⟩
 obtain ⟨D, hD⟩ : ∃ D, za9 (q : Int) = D := ⟨_, rfl⟩
 have HD := yyh (yyi hD (yyi h3 (yyi h8 hq7)))
 clear c1 c32 eT ek eC hV h1 h3 hD
 go_enter Tryz.func9, Tryz.ntmps9
 go_wp2_with fail
 refine HM.out.mono ?_
 rintro e w1 ⟨M, s1, rfl, hm1, hcm1, hws1, -, -, hT, hK, hC, hown1, hb1⟩
 have HC1 := yyh (ze2 hm1)
 have HF := yyh (UAt.first hm1 hcm1 hws1 hT hC (by omega) h8 (by omega) q hq7)
 have HM1 := yyh (yyi hT (yyi hC (yyi hown1 hb1)))
 clear hm1 hcm1 hws1 hT hK hC hown1 hb1 HM
 go_wp2_with fail
 refine HC1.out.mono ?_
 rintro e w2 ⟨rfl, rfl⟩
 go_wp2_with fail
 refine HF.out.mono ?_
 rintro e w3 ⟨rfl, s3, h3⟩
 rw [HD.out.1] at h3
 have HU := yyh (show UW W w2 M s1 (n7 + 1) kk D 10 0 220 s3 w3 from ⟨h3, HM1.out.2.2.1, HM1.out.2.2.2⟩)
 clear h3 HC1 HF
 go_wp2_with fail
 go_loopg [14] 6000 (fun gg v14 wr => ∃ (i : Nat) (s : MS), i ≤ 6000 ∧ gg = 6000 - i ∧ v14 = .int .i64 i ∧ Aside (UW W w2 M s1 (n7 + 1) kk D (4 * i + 10) i (i * 2000 + 220) s wr))
 case atStart => exact ⟨0, s3, by omega, by omega, rfl, HU.out⟩
 case round =>
  clear HU
  obtain ⟨i, s, hi, rfl, rfl, A1⟩ := hrel
  have hB := urb1 hi
  go_upto_region 11 with fail
  go_cut [48] (fun v48 wx => ∃ (g : Bool) (s' : MS), v48 = .bool g ∧ Aside (UW W w2 M s1 (n7 + 1) kk D (4 * i + 10) i (i * 2000 + 220 + 1) s' wx ∧ (g = false → Urd D (n7 + 1) (s'.mm M)) ∧ (g = true → i < 6000)))
  case first =>
   by_cases hlt : i < 6000
   ·
    have hltz : (i : Int) < 6000 := by omega
    have HC2 := yyh (ze2 A1.out.1.st.at_)
    have HS2 := yyh (A1.out.1.status (by omega))
    have HO := yyh A1.out.2
    clear A1
    go_wp2_with fail
    refine HC2.out.mono ?_
    rintro e w4 ⟨rfl, rfl⟩
    go_wp2_with fail
    refine HS2.out.mono ?_
    rintro e w5 ⟨x, rfl, s5, h5, hx⟩
    have HX := yyh (yyi h5 hx)
    clear h5 hx HS2 HC2
    by_cases h4 : x = 4
    ·
     subst h4
     go_wp2_with fail
     go_meet
     exact ⟨false, s5, rfl, ⟨HX.out.1, HO.out⟩, fun _ => HX.out.2 (by trivial), fun h => (by cases h)⟩
    ·
     have h4b : (x != 4) = true := by simpa using h4
     go_wp2_with fail
     go_meet
     exact ⟨true, s5, rfl, ⟨HX.out.1, HO.out⟩, fun h => (by cases h), fun _ => hlt⟩
   ·
    have hltz : ¬ (i : Int) < 6000 := by omega
    have HX := yyh (show Urd D (n7 + 1) (s.mm M) from by
     rcases A1.out.1.u with ⟨-, h⟩ | h
     · omega
     · exact h)
    have HA := yyh A1.out
    clear A1
    go_wp2_with fail
    go_meet
    exact ⟨false, s, rfl, ⟨HA.out.1.up (Nat.le_refl _) (Nat.le_succ _), HA.out.2⟩, fun _ => HX.out, fun h => (by cases h)⟩
  case rest =>
   clear A1
   obtain ⟨g, s4, rfl, A2⟩ := hcut
   cases g with
   | false =>
    have hev : s4.c.evs.length ≤ 100000 := by
     have h : s4.c.evs.length ≤ 4 * i + 10 := A2.out.1.1.ev
     omega
    have HC9 := yyh (ze2 A2.out.1.1.st.at_)
    have HE9 := yyh (C_Events A2.out.1.1.st.at_.c hev)
    have HB9 := yyh (yyi A2.out.1.bel hev)
    have hud : Urd D (n7 + 1) (s4.mm M) := A2.out.2.1 rfl
    obtain ⟨pre, post, e1, hl, hid, hno, hpl⟩ := hud
    have hl : clmE s4.c.evs = pre ++ e1 :: post := hl
    obtain ⟨pn, hpn⟩ : ∃ pn, pre.length = pn := ⟨_, rfl⟩
    obtain ⟨n, hn⟩ : ∃ n, (clmE s4.c.evs).length = n := ⟨_, rfl⟩
    have hlt : pn < n := by rw [← hn, hl, List.length_append, List.length_cons]; omega
    have HL := yyh (yyi hl (yyi hid (yyi hno (yyi hpl (yyi hpn hn)))))
    clear A2 hev hl hid hno hpl hpn hn
    go_wp2_with fail
    refine HC9.out.mono ?_
    rintro e w5 ⟨rfl, rfl⟩
    go_wp2_with fail
    refine HE9.out.mono ?_
    rintro e w6 ⟨v6, rfl, hv6, hb6⟩
    have HV6 := yyh (V_Claims HB9.out.2 hv6)
    have HB6 := yyh hb6
    clear hv6 hb6
    go_wp2_with fail
    refine HV6.out.mono ?_
    rintro e w7 ⟨v7, rfl, ho7, hb7⟩
    obtain ⟨g, c, rfl, hcl⟩ := zph ho7 (by have := HL.out.2.2.2.2.2; omega)
    have HB7 := yyh (yyi hb7 hcl)
    have hn64 : (n : Int) ≤ 100000 := by
     have h1 := HL.out.2.2.2.2.2
     have h2 := zo9 s4.c.evs
     have h3 := HB9.out.2
     omega
    rw [HL.out.2.2.2.2.2]
    clear ho7 hb7 hcl
    go_wp2_with fail
    go_loopg [13] pn (fun gg v13 wr => ∃ j : Nat, j ≤ pn ∧ gg = pn - j ∧ v13 = .int .i64 j ∧ w7 = wr)
    case atStart => exact ⟨0, by omega, by omega, rfl, rfl⟩
    case round =>
     obtain ⟨j, hj, rfl, rfl, rfl⟩ := hrel
     have hjn : (j : Int) < (n : Int) := by omega
     have hwj : IntKind.i64.wrap ((j : Int) + 1) = (j : Int) + 1 := zb6 (by omega) (by omega)
     by_cases hlj : j < pn
     ·
      obtain ⟨x, hx1, hxc⟩ : ∃ x : Int, (x != 1) = true ∧ w7.cell? ⟨g, j * 2 + 1, none⟩ = some (.int .i64 x) := by
       obtain ⟨h1, h2, h3, h4, h5, h6⟩ := HL.out
       have hjp : j < pre.length := by omega
       refine ⟨pre[j].id, ?_, HB7.out.2 j pre[j] ?_⟩
       · have := h3 pre[j] (List.getElem_mem hjp)
         simpa using this
       · rw [h1, List.getElem?_append_left hjp]
         exact List.getElem?_eq_getElem hjp
      go_wp2_with fail
      go_roundg (pn - (j + 1))
      case measure => omega
      case rel => exact ⟨j + 1, by omega, by omega, by go_num, rfl⟩
     ·
      have hxc : w7.cell? ⟨g, j * 2 + 1, none⟩ = some (.int .i64 1) := by
       obtain ⟨h1, h2, h3, h4, h5, h6⟩ := HL.out
       have := HB7.out.2 j e1 (by
        rw [h1, List.getElem?_append_right (by omega), show j - pre.length = 0 by omega]
        rfl)
       rw [this, h2]
      obtain ⟨bt, hbt⟩ : ∃ bt, betaI (q : Int) 32 ((n7 : Int) + 1) = bt := ⟨_, rfl⟩
      have hle : (j : Int) ≤ bt := by
       rw [← hbt]
       obtain ⟨h1, h2, h3, h4, h5, h6⟩ := HL.out
       unfold betaI zc6
       have hD := HD.out.1
       omega
      have HBT := yyh (fun w => zj1 (q : Int) 32 ((n7 : Int) + 1) w)
      rw [hbt] at HBT
      have HBB := yyh (zad HB7.out.1 (zad HB6.out HB9.out.1))
      clear hbt
      go_wp2_with fail
      refine (HBT.out _).mono ?_
      rintro e w8 ⟨rfl, rfl⟩
      clear hxc
      go_wp2_with fail
      refine (V_awake _).mono ?_
      rintro e w9 ⟨rfl, hb9⟩
      have HB10 := yyh hb9
      clear hb9
      go_wp2_with fail
      go_ret
      exact ⟨rfl, zad HB10.out HBB.out⟩
   | true =>
    have hlt : i < 6000 := A2.out.2.2 rfl
    have hui : IntKind.u64.wrap (i : Int) = (i : Int) := by rw [IntKind.wrap_u64]; omega
    have hwi : IntKind.i64.wrap ((i : Int) + 1) = (i : Int) + 1 := zb6 (by omega) (by omega)
    have HA := yyh A2.out.1
    clear A2
    go_upto_if 56 with fail
    go_cut [15] (fun v15 wx => ∃ d : Int, v15 = .int .u64 d ∧ 0 ≤ d ∧ d ≤ top ∧ wc = wx)
    case first =>
     by_cases hn : i < n3
     ·
      have hnz : (i : Int) < (n3 : Int) := by omega
      obtain ⟨b, f, rfl, hm, hbw, hcell⟩ : ∃ b off, a3 = some ⟨b, off, none⟩ ∧ n3 ≤ 9223372036854775807 ∧ b < W.heap.size ∧ ∀ j, j < n3 → ∃ z : Int, W.cell? ⟨b, off + j, none⟩ = some (.int .u64 z) ∧ 0 ≤ z ∧ z ≤ top := by
       rcases HD.out.2.1 with e | e
       · omega
       · exact e
      obtain ⟨z, hz, z0, z1⟩ := hcell i hn
      have hzr : wc.cell? ⟨b, f + i, none⟩ = some (.int .u64 z) := zdy HA.out.bel hbw hz
      have hn3 : (n3 : Int) ≤ 9223372036854775807 := by omega
      have HZ := yyh (yyi z0 z1)
      clear hcell hz z0 z1
      go_wp2_with fail
      go_meet
      exact ⟨z, rfl, HZ.out.1, HZ.out.2, rfl⟩
     ·
      have hnz : ¬ (i : Int) < (n3 : Int) := by omega
      go_wp2_with fail
      go_meet
      exact ⟨i, rfl, by omega, by unfold top; omega, rfl⟩
    case rest =>
     obtain ⟨d, rfl, d0, d1, rfl⟩ := hcut
     go_upto_region 16 with fail
     go_cut [70] (fun v70 wx => ∃ (g : Bool) (s' : MS), v70 = .bool g ∧ Aside (UW W w2 M s1 (n7 + 1) kk D (4 * i + 10) i (i * 2000 + 220 + 1 + 1260) s' wx ∧ (g = true → (s'.mm M).c.o < 31)))
     case first =>
      obtain ⟨r, hr⟩ : ∃ r, (i : Int).tmod 3 = r := ⟨_, rfl⟩
      by_cases h0 : r = 0
      ·
       subst h0
       have HC2 := yyh (ze2 HA.out.1.st.at_)
       have HS2 := yyh (HA.out.1.state (by omega) HM1.out.2.1)
       go_wp2_with fail
       refine HC2.out.mono ?_
       rintro e w4 ⟨rfl, rfl⟩
       go_wp2_with fail
       refine HS2.out.mono ?_
       rintro e w5 ⟨fr, tk, tv, sv, lv, hv, rfl, s5, h5, ho⟩
       have HX := yyh (yyi (show UW W w2 M s1 (n7 + 1) kk D (4 * i + 10) i (i * 2000 + 220 + 1 + 1260) s5 w5 from ⟨h5, HA.out.2⟩) ho)
       clear h5 ho HS2 HC2
       by_cases hf : 1 < fr
       ·
        have hfb : decide (1 < fr) = true := decide_eq_true hf
        have hfd := zpi tk fr tv sv lv hv
        go_wp2_with fail
        go_meet
        exact ⟨true, s5, rfl, HX.out.1, fun _ => HX.out.2 hf⟩
       ·
        have hfb : decide (1 < fr) = false := decide_eq_false hf
        have hfd := zpi tk fr tv sv lv hv
        go_wp2_with fail
        go_meet
        exact ⟨false, s5, rfl, HX.out.1, fun h => (by cases h)⟩
      ·
       have h0b : (r == 0) = false := by simpa using h0
       have HX := yyh (show UW W w2 M s1 (n7 + 1) kk D (4 * i + 10) i (i * 2000 + 220 + 1 + 1260) s4 wc from ⟨HA.out.1.up (Nat.le_refl _) (by omega), HA.out.2⟩)
       go_wp2_with fail
       go_meet
       exact ⟨false, s4, rfl, HX.out, fun h => (by cases h)⟩
     case rest =>
      clear HA
      obtain ⟨g, s5, rfl, A3⟩ := hcut
      have HB := yyh A3.out
      clear A3
      go_upto_if 70 with fail
      go_cut [] (fun wx => ∃ s', UW W w2 M s1 (n7 + 1) kk D (4 * i + 10 + 2) i (i * 2000 + 220 + 1 + 1260 + 220) s' wx)
      case first =>
       cases g with
       | false =>
        go_wp2_with fail
        go_meet
        exact ⟨s5, HB.out.1.1.up (by omega) (by omega), HB.out.1.2⟩
       | true =>
        obtain ⟨p, hp, hpl⟩ : ∃ p : Nat, (i : Int).tmod ((n7 : Int) + 1) = (p : Int) ∧ p < n7 + 1 := ⟨i % (n7 + 1), by rw [Int.tmod_eq_emod_of_nonneg (by omega)]; push_cast; rfl, Nat.mod_lt _ (by omega)⟩
        have HM2 := yyh (fun (wx : World) (hb : Below _ _ wx) => ze2 (HB.out.1.1.st.at_.below hb))
        have HS2 := yyh (fun (wx : World) (hb : Below _ _ wx) => (HB.out.1.1.below hb).sub (by omega) HM1.out.1 HD.out.2.2.1 HM1.out.2.1 (HB.out.2 rfl) p hpl)
        go_upto_region 17 with fail
        go_region_with (first | (go_at_call 11; refine (HM2.out _ (zaf yyr)).mono ?_; rintro e w2 ⟨rfl, rfl⟩) | (go_at_call 12; refine (HS2.out _ (zaf yyr)).mono ?_; rintro e w3 ⟨⟨ra, rb, rfl⟩, hP⟩; have HPP := yyh hP; clear hP))
        all_goals
         (try go_wp2_with fail)
         go_meet
         obtain ⟨s6, h6⟩ := HPP.out
         exact ⟨s6, h6, HB.out.1.2⟩
      case rest =>
       clear HB
       obtain ⟨s6, h6⟩ := hcut
       have HP := yyh (h6.1.pick (by omega) HM1.out.1 (by omega) HD.out.2.2.1 i (by unfold top; omega) d d0 d1)
       have HO := yyh h6.2
       clear h6
       go_wp2_with fail
       refine HP.out.mono ?_
       rintro e w7 ⟨⟨kd, rfl⟩, s7, h7⟩
       have HN := yyh (show UW W w2 M s1 (n7 + 1) kk D (4 * (i + 1) + 10) (i + 1) ((i + 1) * 2000 + 220) s7 w7 from ⟨h7.up (urb2 i).1 (urb2 i).2, HO.out⟩)
       clear h7
       go_wp2_with fail
       go_roundg (6000 - (i + 1))
       case measure => omega
       case rel => exact ⟨i + 1, s7, by omega, by omega, by go_num, (show Aside _ from HN.out)⟩
end
end Go.Proofs.YtcfhkbcllijnkaaGreat
