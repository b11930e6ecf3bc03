/- Parts of the proof of TopOnce, under no condition. -/
import Derived.Test.YtcfhkbcllijnkaaGreatZTopOncebp
set_option linter.unusedVariables false
set_option linter.unusedSimpArgs false
set_option maxRecDepth 100000
set_option maxHeartbeats 0
namespace Go.Proofs.YtcfhkbcllijnkaaGreat
open Go.RowKit
theorem zm2 {id : Int} (h : 1 ≤ id) : (((id - 1).toNat : Nat) : Int) + 1 = id := by omega
theorem zbg {α : Type} {l : List α} {t t' : Nat} {v x : α} (h : (l.set t v)[t']? = some x) : (t' = t ∧ x = v) ∨ (t' ≠ t ∧ l[t']? = some x) := by
 rw [List.getElem?_set] at h
 by_cases e : t = t'
 ·
  rw [if_pos e] at h
  split at h
  · exact .inl ⟨e.symm, (Option.some.inj h).symm⟩
  · cases h
 · rw [if_neg e] at h
   exact .inr ⟨fun h => e h.symm, h⟩
theorem zyk {α : Type} {l : List α} {t : Nat} {w v : α} (h : l[t]? = some w) : (l.set t v)[t]? = some v := by
 rw [List.getElem?_set, if_pos rfl, if_pos (yyk.1 h).1]
theorem zhj {α : Type} {l : List α} {t t' : Nat} {v x : α} (h : l[t']? = some x) (hn : t' ≠ t) : (l.set t v)[t']? = some x := by
 rw [List.getElem?_set, if_neg (fun e => hn e.symm)]
 exact h
variable {al : Int → Prop} {T k : Nat} {m : MM}
theorem J.settle (h : J al T k m) (t : Nat) : J al T k ⟨{ m.c with q := m.c.q.settle t }, m.ws⟩ := by
 have hp := zdl m.c.q t
 refine ⟨(zdz _ _).1.trans h.sl, (zdz _ _).2.trans h.ow, (zi4 _ _).trans h.k, h.wl, zke h.ok t, fun e he => h.qr e (hp.mem_iff.1 he), fun i y hy => ?_, h.ro, h.wk, h.inj, h.cr, ?_, h.d, h.al⟩
 · show zc8 _ (m.c.q.settle t).all = true
   rw [zc6 hp]
   exact h.rq i y hy
 · show m.c.o = (((m.c.q.settle t).all.length + m.runs : Nat) : Int)
   rw [hp.length_eq]
   exact h.o
theorem J.worker (h : J al T k m) {t : Nat} {w v : Wk} (hw : m.ws[t]? = some w) (hwp : w.ph ≠ 2) (hv : v.ph = 0 ∨ (v.ph = 1 ∧ 1 ≤ v.e.id ∧ ∃ x, zb8 m.c v.e.id = some x ∧ (x.1 = 2 → x.2.ke = v.e.key))) (E : List Ev) : J al T k ⟨{ m.c with evs := E }, m.ws.set t v⟩ := by
 have hvp : v.ph ≠ 2 := by rcases hv with h | h <;> omega
 refine ⟨h.sl, h.ow, h.k, (List.length_set ..).trans h.wl, h.ok, h.qr, h.rq, h.ro, fun t' x hx => ?_, fun t1 t2 x y hx hy px py e => ?_, fun i y hy => ?_, ?_, h.d, h.al⟩
 ·
  rcases zbg hx with ⟨rfl, rfl⟩ | ⟨hn, hx⟩
  · rcases hv with hv | hv
    · exact .inl hv
    · exact .inr (.inl hv)
  · exact h.wk t' x hx
 ·
  rcases zbg hx with ⟨rfl, rfl⟩ | ⟨hn, hx⟩
  · exact absurd px hvp
  · rcases zbg hy with ⟨rfl, rfl⟩ | ⟨hn, hy⟩
    · exact absurd py hvp
    · exact h.inj t1 t2 x y hx hy px py e
 ·
  obtain ⟨t', x, hx, px, e⟩ := h.cr i y hy
  refine ⟨t', x, zhj hx (fun et => ?_), px, e⟩
  subst et
  rw [hw] at hx
  cases hx
  exact hwp px
 ·
  have hs := zc7 zjh hw v
  have e1 : zjh w = 0 := if_neg hwp
  have e2 : zjh v = 0 := if_neg hvp
  show m.c.o = ((m.c.q.all.length + ((m.ws.set t v).map zjh).sum : Nat) : Int)
  have ho := h.o
  unfold MM.runs at ho
  omega
theorem J.claim (h : J al T k m) {t : Nat} {w : Wk} {y : Tk} {key : Int} (hw : m.ws[t]? = some w) (hwp : w.ph = 1) (hid : 1 ≤ w.e.id) (hr : zb8 m.c w.e.id = some (2, y)) : J al T k ⟨m.c.claim t (w.e.id - 1).toNat (2, y) key, m.ws.set t ⟨2, w.e, 0, false⟩⟩ := by
 have hk : (w.e.id - 1).toNat < m.c.rows.length := (yyk.1 hr).1
 have hn := zm2 hid
 have hro := zhi (c := m.c) hk (3, y) (m.c.claim t (w.e.id - 1).toNat (2, y) key) rfl
 have hall : (m.c.claim t (w.e.id - 1).toNat (2, y) key).q.all = wo w.e.id m.c.q.all := by
  show (m.c.q.take _).all = _
  rw [hn]
  exact zgi _ _
 have hin : zc8 w.e.id m.c.q.all = true := by
  have := h.rq _ _ hr
  rwa [hn] at this
 have hlen := ztr h.ok.ids hin
 refine ⟨(List.length_map ..).trans h.sl, (List.length_map ..).trans h.ow, h.k, (List.length_set ..).trans h.wl, zvi h.ok _, fun e he => ?_, fun i z hz => ?_, fun i x hx => ?_, fun t' x hx => ?_, fun t1 t2 x z hx hz px pz e => ?_, fun i z hz => ?_, ?_, h.d, h.al⟩
 ·
  rw [hall, zts] at he
  obtain ⟨h1, z, hz, hke⟩ := h.qr e he.1
  refine ⟨h1, z, ?_, hke⟩
  rw [hro, if_neg (by have := he.2; omega)]
  exact hz
 ·
  rw [hall]
  rcases zbg hz with ⟨-, hz⟩ | ⟨hni, hz⟩
  · cases hz
  ·
   have h1 := h.rq i z hz
   rw [zjg] at h1 ⊢
   obtain ⟨e, he, hei⟩ := h1
   exact ⟨e, zts.2 ⟨he, by omega⟩, hei⟩
 · rcases zbg hx with ⟨-, rfl⟩ | ⟨hni, hx⟩
   · exact ⟨.inr (.inl rfl), (h.ro _ _ hr).2⟩
   · exact h.ro i x hx
 ·
  rcases zbg hx with ⟨rfl, rfl⟩ | ⟨hni, hx⟩
  · refine .inr (.inr ⟨rfl, hid, ⟨y, ?_⟩, rfl, rfl⟩)
    rw [hro, if_pos rfl]
  ·
   rcases h.wk t' x hx with h0 | ⟨h1, h2, z, hz, h3⟩ | ⟨h1, h2, ⟨z, hz⟩, h3⟩
   · exact .inl h0
   ·
    refine .inr (.inl ⟨h1, h2, ?_⟩)
    by_cases e : (x.e.id - 1).toNat = (w.e.id - 1).toNat
    · exact ⟨(3, y), by rw [hro, if_pos e], fun e => absurd e (show ¬ (3 : Int) = 2 by decide)⟩
    · exact ⟨z, by rw [hro, if_neg e]; exact hz, h3⟩
   ·
    refine .inr (.inr ⟨h1, h2, ⟨z, ?_⟩, h3⟩)
    rw [hro, if_neg (fun e => ?_)]
    · exact hz
    · unfold zb8 at hz hr
      rw [e, hr] at hz
      cases hz
 ·
  have hkey : ∀ (t' : Nat) (x : Wk), m.ws[t']? = some x → x.ph = 2 → x.e.id ≠ w.e.id := fun t' x hx px e => by
   rcases h.wk t' x hx with h0 | ⟨h1, -⟩ | ⟨-, -, ⟨z, hz⟩, -⟩
   · omega
   · omega
   · rw [e, hr] at hz
     cases hz
  rcases zbg hx with ⟨rfl, rfl⟩ | ⟨hn1, hx2⟩
  · rcases zbg hz with ⟨rfl, rfl⟩ | ⟨hn2, hz2⟩
    · rfl
    · exact absurd e.symm (hkey _ _ hz2 pz)
  · rcases zbg hz with ⟨rfl, rfl⟩ | ⟨hn2, hz2⟩
    · exact absurd e (hkey _ _ hx2 px)
    · exact h.inj t1 t2 x z hx2 hz2 px pz e
 ·
  rcases zbg hz with ⟨rfl, -⟩ | ⟨hni, hz⟩
  · exact ⟨t, _, zyk hw, rfl, (show w.e.id = (((w.e.id - 1).toNat : Nat) : Int) + 1 by omega)⟩
  ·
   obtain ⟨t', x, hx, px, e⟩ := h.cr i z hz
   refine ⟨t', x, zhj hx (fun et => ?_), px, e⟩
   subst et
   rw [hw] at hx
   cases hx
   omega
 ·
  have hs := zc7 zjh hw ⟨2, w.e, 0, false⟩
  have e1 : zjh w = 0 := if_neg (by omega)
  have e2 : zjh ⟨2, w.e, 0, false⟩ = 1 := if_pos rfl
  have ho := h.o
  unfold MM.runs at ho
  show m.c.o = (((m.c.claim t (w.e.id - 1).toNat (2, y) key).q.all.length + ((m.ws.set t ⟨2, w.e, 0, false⟩).map zjh).sum : Nat) : Int)
  rw [hall]
  omega
theorem J.fin (h : J al T k m) {t : Nat} {w : Wk} {y : Tk} (hw : m.ws[t]? = some w) (hwp : w.ph = 2) (hid : 1 ≤ w.e.id) (hr : zb8 m.c w.e.id = some (3, y)) : J al T k ⟨m.c.fin t (w.e.id - 1).toNat (3, y), m.ws.set t wk0⟩ := by
 have hk : (w.e.id - 1).toNat < m.c.rows.length := (yyk.1 hr).1
 have hn := zm2 hid
 have hro := zhi (c := m.c) hk (4, y.ran) (m.c.fin t (w.e.id - 1).toNat (3, y)) rfl
 have hne : ∀ {i : Int} {z : Int × Tk}, zb8 m.c i = some z → z.1 ≠ 3 → (i - 1).toNat ≠ (w.e.id - 1).toNat := fun {i z} hz h3 e => by
  unfold zb8 at hz hr
  rw [e, hr] at hz
  cases hz
  exact h3 rfl
 refine ⟨h.sl, h.ow, h.k, (List.length_set ..).trans h.wl, h.ok, fun e he => ?_, fun i z hz => ?_, fun i x hx => ?_, fun t' x hx => ?_, fun t1 t2 x z hx hz px pz e => ?_, fun i z hz => ?_, ?_, h.d, h.al⟩
 · obtain ⟨h1, z, hz, hke⟩ := h.qr e he
   exact ⟨h1, z, by rw [hro, if_neg (hne hz (show (2 : Int) ≠ 3 by decide))]; exact hz, hke⟩
 · rcases zbg hz with ⟨-, hz⟩ | ⟨hni, hz⟩
   · cases hz
   · exact h.rq i z hz
 · rcases zbg hx with ⟨-, rfl⟩ | ⟨hni, hx⟩
   · exact ⟨.inr (.inr h.al.1), (h.ro _ _ hr).2⟩
   · exact h.ro i x hx
 ·
  rcases zbg hx with ⟨rfl, rfl⟩ | ⟨hni, hx⟩
  · exact .inl rfl
  ·
   rcases h.wk t' x hx with h0 | ⟨h1, h2, z, hz, h3⟩ | ⟨h1, h2, ⟨z, hz⟩, h3⟩
   · exact .inl h0
   ·
    refine .inr (.inl ⟨h1, h2, ?_⟩)
    by_cases e : (x.e.id - 1).toNat = (w.e.id - 1).toNat
    · exact ⟨(4, y.ran), by rw [hro, if_pos e], fun e => absurd e (show ¬ (4 : Int) = 2 by decide)⟩
    · exact ⟨z, by rw [hro, if_neg e]; exact hz, h3⟩
   · refine .inr (.inr ⟨h1, h2, ⟨z, ?_⟩, h3⟩)
     rw [hro, if_neg (fun e => hni (h.inj t' t x w hx hw h1 hwp (by omega)))]
     exact hz
 ·
  rcases zbg hx with ⟨rfl, rfl⟩ | ⟨hn1, hx⟩
  · exact absurd px (by decide)
  · rcases zbg hz with ⟨rfl, rfl⟩ | ⟨hn2, hz⟩
    · exact absurd pz (by decide)
    · exact h.inj t1 t2 x z hx hz px pz e
 ·
  rcases zbg hz with ⟨-, hz2⟩ | ⟨hni, hz⟩
  · cases hz2
  ·
   obtain ⟨t', x, hx, px, e⟩ := h.cr i z hz
   refine ⟨t', x, zhj hx (fun et => ?_), px, e⟩
   subst et
   rw [hw] at hx
   cases hx
   omega
 ·
  have hs := zc7 zjh hw wk0
  have e1 : zjh w = 1 := if_pos hwp
  have e2 : zjh wk0 = 0 := if_neg (by decide)
  have ho := h.o
  unfold MM.runs at ho
  show m.c.o - 1 = ((m.c.q.all.length + ((m.ws.set t wk0).map zjh).sum : Nat) : Int)
  omega
theorem J.step (h : J al T k m) (h8 : T ≤ 8) {t : Nat} (ht : t < T) (d : Int) : J al T k (m.step t d) ∧ (m.step t d).c.rows.length = m.c.rows.length ∧ ((m.step t d).phi < m.phi ∨ (m.step t d = m ∧ m.c.q.all = [] ∧ ∀ w, m.ws[t]? = some w → w.ph = 0)) := by
 obtain ⟨w, hw⟩ : ∃ w, m.ws[t]? = some w := ⟨_, yyg (by rw [h.wl]; exact ht)⟩
 have hstep : m.step t d = ⟨(m.c.wstep t d w).1, m.ws.set t (m.c.wstep t d w).2.1⟩ := by unfold MM.step; rw [hw]
 rw [hstep]
 rcases h.wk t w hw with h0 | ⟨h1, hid, x, hx, hke⟩ | ⟨h2, hid, ⟨y, hy⟩, hpc, hbad⟩
 ·
  by_cases hf : m.c.q.fullAt t = true
  ·
   have e : m.c.wstep t d w = ({ m.c with q := m.c.q.settle t }, w, 1) := by unfold CM.wstep; rw [if_pos h0, if_pos hf]
   rw [e]
   show J al T k ⟨_, m.ws.set t w⟩ ∧ _ ∧ _
   rw [zfe hw]
   refine ⟨h.settle t, rfl, .inl ?_⟩
   have h1 := zko hf (h.ow.trans h.sl.symm)
   have h2 := (zdl m.c.q t).length_eq
   show 19 * (m.c.q.settle t).all.length + (zbc (m.c.q.settle t).slots).length + (m.ws.map (fW m.c)).sum < m.phi
   unfold MM.phi
   omega
  ·
   have hff : m.c.q.fullAt t = false := by simpa using hf
   cases hl : m.c.look t d with
   | none =>
    have e : m.c.wstep t d w = (m.c, w, 0) := by unfold CM.wstep; rw [if_pos h0, if_neg hf, hl]
    rw [e]
    show J al T k ⟨m.c, m.ws.set t w⟩ ∧ _ ∧ _
    rw [zfe hw]
    exact ⟨h, rfl, .inr ⟨rfl, zqc hl, fun x hx => by rw [hw] at hx; cases hx; exact h0⟩⟩
   | some en =>
    have e : m.c.wstep t d w = ({ m.c with evs := m.c.evs ++ [⟨10, t, en.id, en.key, m.c.tick⟩] }, ⟨1, en, w.pc, w.bad⟩, 2) := by unfold CM.wstep; rw [if_pos h0, if_neg hf, hl]
    rw [e]
    obtain ⟨g1, z, hz, hzk⟩ := h.qr en (zm1 hl)
    refine ⟨h.worker hw (by omega) (.inr ⟨rfl, g1, _, hz, fun _ => hzk⟩) _, rfl, .inl ?_⟩
    have hs := zc7 (fW m.c) hw ⟨1, en, w.pc, w.bad⟩
    have e1 : fW m.c w = 1 := if_pos h0
    have e2 : fW m.c ⟨1, en, w.pc, w.bad⟩ = 0 := by
     unfold fW
     rw [if_neg (show ¬ (1 : Int) = 0 by decide), if_pos rfl, hz]
     exact if_pos rfl
    show 19 * m.c.q.all.length + (zbc m.c.q.slots).length + ((m.ws.set t ⟨1, en, w.pc, w.bad⟩).map (fW m.c)).sum < m.phi
    unfold MM.phi
    omega
 ·
  have hn0 : ¬ w.ph = 0 := by omega
  by_cases hs2 : x.1 = 2
  ·
   obtain ⟨s, y⟩ := x
   have hs2 : s = 2 := hs2
   subst hs2
   have hk := hke rfl
   have e : m.c.wstep t d w = (m.c.claim t (w.e.id - 1).toNat (2, y) w.e.key, ⟨2, w.e, 0, false⟩, 3) := by
    unfold CM.wstep
    rw [if_neg hn0, if_pos h1, hx]
    dsimp only
    rw [if_pos (by rw [hk]; simp)]
   rw [e]
   refine ⟨h.claim hw h1 hid hx, List.length_set .., .inl ?_⟩
   have hin : zc8 w.e.id m.c.q.all = true := by
    have := h.rq _ _ hx
    rwa [zm2 hid] at this
   have hlen := ztr h.ok.ids hin
   have hs := zc7 (fW m.c) hw ⟨2, w.e, 0, false⟩
   have hle := zqd (fW (m.c.claim t (w.e.id - 1).toNat (2, y) w.e.key)) (fW m.c) 2 (l := m.ws.set t ⟨2, w.e, 0, false⟩) (fun v _ => by have := zyj (m.c.claim t (w.e.id - 1).toNat (2, y) w.e.key) v; omega)
   have e2 : fW m.c ⟨2, w.e, 0, false⟩ = 2 := rfl
   have hsl := zjf w.e.id m.c.q.slots
   rw [List.length_set, h.wl] at hle
   show 19 * (m.c.q.take (((w.e.id - 1).toNat : Nat) + 1)).all.length + (zbc (m.c.q.take (((w.e.id - 1).toNat : Nat) + 1)).slots).length + ((m.ws.set t ⟨2, w.e, 0, false⟩).map (fW (m.c.claim t (w.e.id - 1).toNat (2, y) w.e.key))).sum < m.phi
   rw [zm2 hid, zgi]
   have : zbc (m.c.q.take w.e.id).slots = zbc (m.c.q.slots.map (woO w.e.id)) := rfl
   rw [this]
   unfold MM.phi
   omega
  ·
   have e : m.c.wstep t d w = (m.c, wk0, 4) := by
    unfold CM.wstep
    rw [if_neg hn0, if_pos h1, hx]
    dsimp only
    rw [if_neg (by simp [hs2])]
   rw [e]
   refine ⟨h.worker hw (by omega) (.inl rfl) m.c.evs, rfl, .inl ?_⟩
   have hs := zc7 (fW m.c) hw wk0
   have e1 : fW m.c w = 2 := by
    unfold fW
    rw [if_neg hn0, if_pos h1, hx]
    exact if_neg hs2
   have e2 : fW m.c wk0 = 1 := rfl
   show 19 * m.c.q.all.length + (zbc m.c.q.slots).length + ((m.ws.set t wk0).map (fW m.c)).sum < m.phi
   unfold MM.phi
   omega
 ·
  have hn0 : ¬ w.ph = 0 := by omega
  have hn1 : ¬ w.ph = 1 := by omega
  have hL := (h.ro _ _ hy).2
  have e : m.c.wstep t d w = (m.c.fin t (w.e.id - 1).toNat (3, y), wk0, 6) := by
   unfold CM.wstep
   rw [if_neg hn0, if_neg hn1, hy]
   dsimp only
   have hL : y.L = [] := hL
   rw [hL]
   show (m.c.finish t (w.e.id - 1).toNat (3, y), wk0, 6) = _
   unfold CM.finish
   rw [h.d]
   rfl
  rw [e]
  refine ⟨h.fin hw h2 hid hy, List.length_set .., .inl ?_⟩
  have hk : (w.e.id - 1).toNat < m.c.rows.length := (yyk.1 hy).1
  have hro := zhi (c := m.c) hk (4, y.ran) (m.c.fin t (w.e.id - 1).toNat (3, y)) rfl
  have hfe : ∀ v, fW (m.c.fin t (w.e.id - 1).toNat (3, y)) v = fW m.c v := fun v => by
   unfold fW
   rw [hro]
   by_cases ev : (v.e.id - 1).toNat = (w.e.id - 1).toNat
   · have hv : zb8 m.c v.e.id = some (3, y) := by unfold zb8; rw [ev]; exact hy
     rw [if_pos ev, hv]
     rfl
   · rw [if_neg ev]
  have hs := zc7 (fW m.c) hw wk0
  have e1 : fW m.c w = 2 := by unfold fW; rw [if_neg hn0, if_neg hn1]
  have e2 : fW m.c wk0 = 1 := rfl
  show 19 * m.c.q.all.length + (zbc m.c.q.slots).length + ((m.ws.set t wk0).map (fW (m.c.fin t (w.e.id - 1).toNat (3, y)))).sum < m.phi
  rw [show fW (m.c.fin t (w.e.id - 1).toNat (3, y)) = fW m.c from funext hfe]
  unfold MM.phi
  omega
theorem J.rndN (h : J al T k m) (h8 : T ≤ 8) (d : Int) (i : Nat) (hi : i ≤ T) : J al T k (m.rndN d i) ∧ (m.rndN d i).c.rows.length = m.c.rows.length ∧ ((m.rndN d i).phi < m.phi ∨ (m.rndN d i = m ∧ ∀ j, j < i → m.c.q.all = [] ∧ ∀ w, m.ws[j]? = some w → w.ph = 0)) := by
 induction i with
 | zero => exact ⟨h, rfl, .inr ⟨rfl, fun j hj => by omega⟩⟩
 | succ i ih =>
  obtain ⟨h1, h2, h3⟩ := ih (by omega)
  obtain ⟨g1, g2, g3⟩ := h1.step h8 (show i < T by omega) d
  refine ⟨g1, g2.trans h2, ?_⟩
  show ((m.rndN d i).step i d).phi < m.phi ∨ ((m.rndN d i).step i d = m ∧ _)
  rcases h3 with h3 | ⟨h3, h4⟩
  · rcases g3 with g3 | ⟨g3, -⟩
    · exact .inl (by omega)
    · rw [g3]; exact .inl h3
  ·
   rw [h3] at g3 ⊢
   rcases g3 with g3 | ⟨g3, g4, g5⟩
   · exact .inl g3
   ·
    refine .inr ⟨g3, fun j hj => ?_⟩
    rcases Nat.lt_or_ge j i with hji | hji
    · exact h4 j hji
    · obtain rfl : j = i := by omega
      exact ⟨g4, g5⟩
theorem J.rnd (h : J al T k m) (h8 : T ≤ 8) (h1 : 1 ≤ T) (d : Int) : J al T k (m.rnd T d) ∧ (m.rnd T d).c.rows.length = m.c.rows.length ∧ (m.quiet = false → (m.rnd T d).phi < m.phi) := by
 obtain ⟨g1, g2, g3⟩ := h.rndN h8 d T yyn
 refine ⟨g1, g2, fun hq => ?_⟩
 rcases g3 with g3 | ⟨-, g4⟩
 · exact g3
 ·
  have : m.quiet = true := by
   unfold MM.quiet
   rw [(g4 0 (by omega)).1, Bool.and_eq_true]
   refine ⟨rfl, List.all_eq_true.2 fun w hw => ?_⟩
   obtain ⟨j, hj⟩ := List.mem_iff_getElem?.1 hw
   have hjl := (yyk.1 hj).1
   rw [h.wl] at hjl
   exact beq_iff_eq.2 ((g4 j hjl).2 w hj)
  rw [this] at hq
  cases hq
theorem zfy (m : MM) (T : Nat) (d : Int) (j : Nat) : m.rest T d (j + 1) = (m.rnd T d).rest T d j := by
 induction j with
 | zero => rfl
 | succ j ih =>
  show (m.rest T d (j + 1)).rnd T d = ((m.rnd T d).rest T d j).rnd T d
  rw [ih]
theorem J.rest (h8 : T ≤ 8) (h1 : 1 ≤ T) (d : Int) (n : Nat) : ∀ m : MM, J al T k m → m.phi ≤ n → ∃ K, K ≤ n ∧ (m.rest T d K).quiet = true ∧ (∀ j, j < K → (m.rest T d j).quiet = false) ∧ ∀ j, j ≤ K → J al T k (m.rest T d j) ∧ (m.rest T d j).c.rows.length = m.c.rows.length := by
 induction n with
 | zero =>
  intro m h hn
  refine ⟨0, yyn, ?_, fun j hj => by omega, fun j hj => ?_⟩
  · cases hq : m.quiet with
    | true => exact hq
    | false => have := (h.rnd h8 h1 d).2.2 hq; omega
  · obtain rfl : j = 0 := by omega
    exact ⟨h, rfl⟩
 | succ n ih =>
  intro m h hn
  cases hq : m.quiet with
  | true => exact ⟨0, Nat.zero_le _, hq, fun j hj => by omega, fun j hj => by obtain rfl : j = 0 := (by omega); exact ⟨h, rfl⟩⟩
  | false =>
   obtain ⟨g1, g2, g3⟩ := h.rnd h8 h1 d
   have := g3 hq
   obtain ⟨K, hK, a1, a2, a3⟩ := ih (m.rnd T d) g1 (by omega)
   refine ⟨K + 1, by omega, by rw [zfy]; exact a1, fun j hj => ?_, fun j hj => ?_⟩
   · cases j with
     | zero => exact hq
     | succ j => rw [zfy]; exact a2 j (by omega)
   · cases j with
     | zero => exact ⟨h, rfl⟩
     | succ j => rw [zfy]; obtain ⟨b1, b2⟩ := a3 j (by omega); exact ⟨b1, b2.trans g2⟩
theorem J.quiet (h : J al T k m) (hq : m.quiet = true) : m.c.q.all = [] ∧ (∀ w ∈ m.ws, w.ph = 0) ∧ m.c.o = 0 ∧ ∀ x ∈ m.c.rows, al x.1 := by
 unfold MM.quiet at hq
 rw [Bool.and_eq_true] at hq
 have ha : m.c.q.all = [] := List.isEmpty_iff.1 hq.1
 have hw : ∀ w ∈ m.ws, w.ph = 0 := fun w hw => beq_iff_eq.1 (List.all_eq_true.1 hq.2 w hw)
 refine ⟨ha, hw, ?_, fun x hx => ?_⟩
 ·
  have ho := h.o
  have : m.runs = 0 := by
   unfold MM.runs
   rw [List.sum_eq_zero_iff_forall_eq_nat]
   intro x hx
   obtain ⟨w, hwm, rfl⟩ := List.mem_map.1 hx
   exact if_neg (by rw [hw w hwm]; decide)
  rw [ha, this] at ho
  exact ho
 ·
  obtain ⟨i, hi⟩ := List.mem_iff_getElem?.1 hx
  obtain ⟨s, y⟩ := x
  rcases (h.ro i _ hi).1 with h2 | h3 | h4
  ·
   have h2 : s = 2 := h2
   subst h2
   have := h.rq i y hi
   rw [ha] at this
   cases this
  ·
   have h3 : s = 3 := h3
   subst h3
   obtain ⟨t, w, hwt, hp, -⟩ := h.cr i y hi
   have := hw w (List.mem_of_getElem? hwt)
   omega
  · exact h4
theorem J.sub (h : J al T k m) {t : Nat} (ht : t < T) (prio : Int) (hl : m.c.q.all.length < NB) : J al T k ⟨m.c.sub t prio [], m.ws⟩ ∧ (m.c.sub t prio []).rows.length = m.c.rows.length + 1 ∧ (m.c.sub t prio []).o = m.c.o + 1 := by
 obtain ⟨key, hkey⟩ := yye (ze7 m.c.tick (zcq (zja prio []).pr))
 have hrows : (m.c.sub t prio []).rows = m.c.rows ++ [(2, { zja prio [] with ke := key })] := by
  rw [← hkey]
  show (m.c.rows ++ [(2, zja prio [])]).set m.c.rows.length _ = _
  rw [List.set_append_right _ _ yyn, Nat.sub_self]
  rfl
 have hq : (m.c.sub t prio []).q = m.c.q.put t ⟨key, (m.c.rows.length : Int) + 1⟩ := by
  rw [← hkey]
  rfl
 have hp : (m.c.sub t prio []).q.all.Perm (⟨key, (m.c.rows.length : Int) + 1⟩ :: m.c.q.all) := by
  rw [hq]
  exact zpf _ _ _ (by rw [h.sl]; exact ht) (h.ow.trans h.sl.symm)
 have hids : ∀ e ∈ m.c.q.all, 1 ≤ e.id ∧ e.id ≤ m.c.rows.length := fun e he => by
  obtain ⟨h1, z, hz, -⟩ := h.qr e he
  have := (yyk.1 hz).1
  omega
 have hrow : ∀ (id : Int) x, zb8 m.c id = some x → zb8 (m.c.sub t prio []) id = some x := fun id x hx => by
  unfold zb8 at *
  rw [hrows, List.getElem?_append_left (yyk.1 hx).1]
  exact hx
 have hnew : zb8 (m.c.sub t prio []) ((m.c.rows.length : Int) + 1) = some (2, { zja prio [] with ke := key }) := by
  unfold zb8
  rw [hrows, show (((m.c.rows.length : Int) + 1 - 1).toNat) = m.c.rows.length by omega, List.getElem?_append_right yyn, Nat.sub_self]
  rfl
 have hcase : ∀ (i : Nat) x, (m.c.sub t prio []).rows[i]? = some x → m.c.rows[i]? = some x ∨ (i = m.c.rows.length ∧ x = (2, { zja prio [] with ke := key })) := fun i x hx => by
  rw [hrows] at hx
  exact zhe hx
 have hset := zdz m.c.q t
 refine ⟨⟨?_, ?_, ?_, h.wl, ?_, fun e he => ?_, fun i y hy => ?_, fun i x hx => ?_, fun t' w hw => ?_, h.inj, fun i y hy => ?_, ?_, h.d, h.al⟩, by rw [hrows]; simp, rfl⟩
 ·
  show (m.c.sub t prio []).q.slots.length = T
  rw [hq]
  show ((m.c.q.settle t).slots.set t _).length = T
  rw [List.length_set, hset.1]
  exact h.sl
 · show (m.c.sub t prio []).q.own.length = T
   rw [hq]
   exact hset.2.trans h.ow
 · show (m.c.sub t prio []).q.k = k
   rw [hq]
   exact (zi4 _ _).trans h.k
 ·
  have hs := zke h.ok t
  refine ⟨?_, ?_, ?_, ?_, ?_, ?_⟩
  · show (m.c.sub t prio []).q.all.length ≤ NB
    rw [hp.length_eq]
    exact hl
  ·
   refine zcl hp.symm ?_
   rw [List.map_cons, List.nodup_cons]
   refine ⟨fun hin => ?_, h.ok.ids⟩
   obtain ⟨e, he, hei⟩ := List.mem_map.1 hin
   have := hids e he
   have hei : e.id = (m.c.rows.length : Int) + 1 := hei
   omega
  · show (m.c.sub t prio []).q.k ≤ 16
    rw [hq]
    exact hs.k16
  · show ∀ l ∈ (m.c.sub t prio []).q.own, zbh l
    rw [hq]
    exact hs.own
  · show zbh (m.c.sub t prio []).q.sh
    rw [hq]
    exact hs.sh
  · show ∀ l ∈ (m.c.sub t prio []).q.own, l.length ≤ 16
    rw [hq]
    exact hs.low
 ·
  rcases List.mem_cons.1 (hp.mem_iff.1 he) with rfl | he
  · exact ⟨by show 1 ≤ (m.c.rows.length : Int) + 1; omega, _, hnew, rfl⟩
  · obtain ⟨h1, z, hz, hk⟩ := h.qr e he
    exact ⟨h1, z, hrow _ _ hz, hk⟩
 ·
  show zc8 _ (m.c.sub t prio []).q.all = true
  rw [zc6 hp]
  rcases hcase i _ hy with hy | ⟨rfl, -⟩
  ·
   have := h.rq i y hy
   rw [zjg] at this ⊢
   obtain ⟨e, he, hei⟩ := this
   exact ⟨e, List.mem_cons_of_mem _ he, hei⟩
  · rw [zjg]
    exact ⟨_, List.mem_cons_self, rfl⟩
 · rcases hcase i _ hx with hx | ⟨-, rfl⟩
   · exact h.ro i x hx
   · exact ⟨.inl rfl, rfl⟩
 ·
  rcases h.wk t' w hw with h0 | ⟨h1, h2, z, hz, h3⟩ | ⟨h1, h2, ⟨z, hz⟩, h3⟩
  · exact .inl h0
  · exact .inr (.inl ⟨h1, h2, z, hrow _ _ hz, h3⟩)
  · exact .inr (.inr ⟨h1, h2, ⟨z, hrow _ _ hz⟩, h3⟩)
 · rcases hcase i _ hy with hy | ⟨-, hy⟩
   · exact h.cr i y hy
   · cases hy
 ·
  show m.c.o + 1 = (((m.c.sub t prio []).q.all.length + m.runs : Nat) : Int)
  have ho := h.o
  rw [hp.length_eq, List.length_cons]
  omega
theorem J.new (hal : al 4 ∧ ¬ al 2 ∧ ¬ al 3) (h1 : 1 ≤ T) (hk : k ≤ 16) : J al T k ⟨CM.new T k, List.replicate T wk0⟩ := by
 have hall : (CM.new T k).q.all = [] := by
  have h1 : zbc (List.replicate T (none : Option En)) = [] := by
   unfold zbc
   induction T with
   | zero => rfl
   | succ n ih =>
    rw [List.replicate_succ, List.filterMap_cons]
    cases n with
    | zero => rfl
    | succ n => exact ih (by omega)
  show zbc (List.replicate T none) ++ (List.replicate T []).flatten ++ [] = []
  rw [h1]
  simp
 have hr : ∀ i : Nat, (CM.new T k).rows[i]? = none := fun i => by show ([] : List (Int × Tk))[i]? = none; simp
 have hw : ∀ (t : Nat) w, (List.replicate T wk0)[t]? = some w → w = wk0 := fun t w h => List.eq_of_mem_replicate (List.mem_of_getElem? h)
 refine ⟨List.length_replicate, List.length_replicate, rfl, List.length_replicate, ⟨?_, ?_, hk, ?_, List.Pairwise.nil, ?_⟩, fun e he => ?_, fun i y hy => ?_, fun i x hx => ?_, fun t w h => ?_, fun t t' w w' h h' p => ?_, fun i y hy => ?_, ?_, rfl, hal⟩
 · show (CM.new T k).q.all.length ≤ NB
   rw [hall]
   exact Nat.zero_le _
 · show ((CM.new T k).q.all.map _).Nodup
   rw [hall]
   exact List.nodup_nil
 · intro l hl
   rw [List.eq_of_mem_replicate hl]
   exact List.Pairwise.nil
 · intro l hl
   rw [List.eq_of_mem_replicate hl]
   exact Nat.zero_le _
 · have he : e ∈ (CM.new T k).q.all := he
   rw [hall] at he
   cases he
 · rw [hr] at hy; cases hy
 · rw [hr] at hx; cases hx
 · exact .inl (by rw [hw t w h]; rfl)
 · rw [hw t w h] at p
   exact absurd p (by decide)
 · rw [hr] at hy; cases hy
 · show (0 : Int) = (((CM.new T k).q.all.length + ((List.replicate T wk0).map zjh).sum : Nat) : Int)
   rw [hall, List.map_replicate, show zjh wk0 = 0 from rfl]
   simp
theorem zsh (l : List (Option En)) : (zbc l).length ≤ l.length := List.length_filterMap_le ..
end Go.Proofs.YtcfhkbcllijnkaaGreat
namespace Go.Proofs.YtcfhkbcllijnkaaGreat
open Go.RowKit Go.Maps Go.Shelf Go.Proofs.YtcfhkbcllijnkaaGreatW.PrintWords
def wkA (w : Wk) : Value := .agg #[.int .i64 w.ph, .int .u64 w.e.key, .int .i64 w.e.id, .int .i64 w.pc, .bool w.bad]
section
variable {W W' : World} {A : CA} {S S' : CS} {N N' : Nat}
def zfm (W : World) (A : CA) (S : CS) (N t : Nat) (d : Int) (w : Wk) (r : CM × Wk × Nat) : Prop := r.2.2 < 7 ∧ Calls Tryz.prog 59 #[.pointer (some ⟨A.cb, 0, none⟩), wkA w, .int .i64 t, .int .u64 d] W fun e w' => e = .returned (.tuple #[wkA r.2.1, .int .i64 r.2.2]) ∧ ∃ S', zag W A S w' S' (N + 300) ∧ S'.cm A = r.1
theorem zhk {S0 : CS} (e0 : S0.cm A = S.cm A) : S0.q.q A.q.k = S.q.q A.q.k := congrArg CM.q e0
theorem zcs {S0 : CS} (e0 : S0.cm A = S.cm A) : S0.t.rows = S.t.rows := congrArg CM.rows e0
theorem zsi (h : zal W A S N) (hN : N ≤ 290000000) (t : Nat) (ht : t < A.q.lp.length) (d : Int) (d0 : 0 ≤ d) (d1 : d ≤ top) (w : Wk) (hq : (S.cm A).q.Ok) (h0 : w.ph = 0) : zfm W A S N t d w ((S.cm A).wstep t d w) := by
 obtain ⟨ph, ⟨key, id⟩, pc, bad⟩ := w
 have h0 : ph = 0 := h0
 subst h0
 unfold CM.wstep
 rw [if_pos rfl]
 cases hf : (S.cm A).q.fullAt t with
 | true =>
  rw [if_pos rfl]
  refine ⟨(by decide : (1 : Nat) < 7), (zv6 h t ht hq hf d key id pc bad).mono ?_⟩
  rintro e w' ⟨he, S', k, hm⟩
  exact ⟨he, S', k.up (by omega), hm⟩
 | false =>
  rw [if_neg (by decide)]
  cases hl : (S.cm A).look t d with
  | none =>
   refine ⟨(by decide : (0 : Nat) < 7), (zp5 (N' := N) h t ht hq hf d key id pc bad 0 key id pc bad 0 (by unfold zbl; decide) ((0 : Nat) : Int) rfl (M := S.cm A) fun w S0 k0 e0 => (zly k0.at_ (by rw [zhk e0]; exact hq) t ht d d0 d1 (by rw [e0]; exact hl) ⟨0, ⟨key, id⟩, pc, bad⟩).mono ?_).mono ?_⟩
   · rintro e w' ⟨he, hb⟩
     exact ⟨he, S0, zag.below k0.at_ hb, e0⟩
   · rintro e w' ⟨he, S', k, hm⟩
     exact ⟨he, S', k.up (by omega), hm⟩
  | some en =>
   have hne : (S.q.q A.q.k).all ≠ [] := fun e => by
    have := zm1 hl
    have e : (S.cm A).q.all = [] := e
    rw [e] at this
    cases this
   refine ⟨(by decide : (2 : Nat) < 7), (zp5 (N' := N + 1) h t ht hq hf d key id pc bad 1 en.key en.id pc bad 1 (by unfold zbl; decide) ((2 : Nat) : Int) rfl (M := { S.cm A with evs := (S.cm A).evs ++ [⟨10, t, en.id, en.key, (S.cm A).tick⟩] }) fun w S0 k0 e0 => (zyd k0.at_ (by omega) (by rw [zhk e0]; exact hq) t ht d d0 d1 en (by rw [e0]; exact hl) (by rw [zhk e0]; exact hne) ⟨0, ⟨key, id⟩, pc, bad⟩).mono ?_).mono ?_⟩
   ·
    rintro e w' ⟨he, S', k, hm⟩
    refine ⟨he, S', k, hm.trans ?_⟩
    show ({ S0.cm A with evs := (S0.cm A).evs ++ [(⟨10, t, en.id, en.key, (S0.cm A).tick⟩ : Ev)] } : CM) = _
    rw [e0]
   · rintro e w' ⟨he, S', k, hm⟩
     exact ⟨he, S', k.up (by omega), hm⟩
theorem zsj (h : zal W A S N) (hN : N ≤ 290000000) (t : Nat) (ht : t < A.q.lp.length) (d : Int) (w : Wk) (hq : (S.cm A).q.Ok) (h1 : w.ph = 1) (hid : 1 ≤ w.e.id) {x : Int × Tk} (hx : zb8 (S.cm A) w.e.id = some x) : zfm W A S N t d w ((S.cm A).wstep t d w) := by
 obtain ⟨ph, ⟨key, id⟩, pc, bad⟩ := w
 have h1 : ph = 1 := h1
 subst h1
 obtain ⟨k, rfl⟩ : ∃ k : Nat, id = (k : Int) + 1 := ⟨(id - 1).toNat, by have hid : 1 ≤ id := hid; omega⟩
 have hk : ((k : Int) + 1 - 1).toNat = k := by omega
 unfold CM.wstep
 rw [if_neg (show ¬ (1 : Int) = 0 by decide), if_pos rfl, hx]
 have hx' : S.t.rows[k]? = some x := by
  unfold zb8 at hx
  dsimp only at hx
  rw [hk] at hx
  exact hx
 dsimp only
 rw [hk]
 cases hh : (x.1 == 2 && x.2.ke == key) with
 | true =>
  rw [if_pos rfl]
  refine ⟨(by decide : (3 : Nat) < 7), (zp6 (N' := N + 5) h t ht d key ((k : Int) + 1) pc bad 2 key ((k : Int) + 1) 0 false 1 (by unfold zbl; decide) ((3 : Nat) : Int) rfl (M := (S.cm A).claim t k x key) fun w S0 k0 e0 => (zp2 k0.at_ (by omega) (by rw [zhk e0]; exact hq) t ht k x (by rw [zcs e0]; exact hx') 1 key pc bad true hh.symm).mono ?_).mono ?_⟩
  · rintro e w' ⟨he, S', k', hm⟩
    rw [if_pos rfl, e0] at hm
    exact ⟨he, S', k', hm⟩
  · rintro e w' ⟨he, S', k', hm⟩
    exact ⟨he, S', k'.up (by omega), hm⟩
 | false =>
  rw [if_neg (by decide)]
  refine ⟨(by decide : (4 : Nat) < 7), (zp6 (N' := N + 5) h t ht d key ((k : Int) + 1) pc bad 0 0 0 0 false 0 (by unfold zbl; decide) ((4 : Nat) : Int) rfl (M := S.cm A) fun w S0 k0 e0 => (zp2 k0.at_ (by omega) (by rw [zhk e0]; exact hq) t ht k x (by rw [zcs e0]; exact hx') 1 key pc bad false hh.symm).mono ?_).mono ?_⟩
  · rintro e w' ⟨he, S', k', hm⟩
    rw [if_neg (by decide), e0] at hm
    exact ⟨he, S', k', hm⟩
  · rintro e w' ⟨he, S', k', hm⟩
    exact ⟨he, S', k'.up (by omega), hm⟩
theorem zsk (h : zal W A S N) (hN : N ≤ 290000000) (t : Nat) (ht : t < A.q.lp.length) (d : Int) (w : Wk) (hq : (S.cm A).q.Ok) (h2 : w.ph = 2) (hid : 1 ≤ w.e.id) (hbad : w.bad = false) (hpc : 0 ≤ w.pc) {x : Tk} (hx : zb8 (S.cm A) w.e.id = some (3, x)) (hL : (x.L.length : Int) ≤ w.pc) (ho : 0 < (S.cm A).o) (hd : (S.cm A).d = false ∨ ((S.cm A).d = true ∧ w.e.id = 1 ∧ ∃ y, (S.cm A).rows[1]? = some (1, y))) : zfm W A S N t d w ((S.cm A).wstep t d w) := by
 obtain ⟨ph, ⟨key, id⟩, pc, bad⟩ := w
 have h2 : ph = 2 := h2
 subst h2
 have hbad : bad = false := hbad
 subst hbad
 obtain ⟨k, rfl⟩ : ∃ k : Nat, id = (k : Int) + 1 := ⟨(id - 1).toNat, by have hid : 1 ≤ id := hid; omega⟩
 have hk : ((k : Int) + 1 - 1).toNat = k := by omega
 have hpc : 0 ≤ pc := hpc
 have hL : (x.L.length : Int) ≤ pc := hL
 unfold CM.wstep
 rw [if_neg (show ¬ (2 : Int) = 0 by decide), if_neg (show ¬ (2 : Int) = 1 by decide), hx]
 have hx' : S.t.rows[k]? = some (3, x) := by
  unfold zb8 at hx
  dsimp only at hx
  rw [hk] at hx
  exact hx
 dsimp only
 rw [hk, List.getElem?_eq_none (by omega)]
 refine ⟨(by decide : (6 : Nat) < 7), (zp7 (N' := N + 20) h t ht d key ((k : Int) + 1) pc false 0 0 0 0 false 0 (by unfold zbl; decide) ((6 : Nat) : Int) rfl (M := (S.cm A).finish t k (3, x)) fun w S0 k0 e0 => (zp3 (N' := N + 20) (M := (S.cm A).finish t k (3, x)) k0.at_ t k (3, x) (by rw [zcs e0]; exact hx') 2 key pc hpc hL ?_).mono ?_).mono ?_⟩
 ·
  intro w2 hb2
  have h0 := k0.at_.below hb2
  have ho0 : 0 < S0.o := by
   have : S0.o = S.o := congrArg CM.o e0
   rw [this]; exact ho
  have hd0 : S0.d = S.d := congrArg CM.d e0
  unfold CM.finish
  rcases hd with hd | ⟨hd, hi, y, hy⟩
  ·
   refine (zpw h0 (by omega) t ht k x (by rw [zcs e0]; exact hx') ho0 (hd0.trans hd)).mono ?_
   rintro e w' ⟨he, S', k', hm⟩
   rw [if_neg (by rw [hd]; decide), ← e0]
   exact ⟨he, S', k'.up (by omega), hm⟩
  ·
   have hk0 : k = 0 := by have hi : (k : Int) + 1 = 1 := hi; omega
   subst hk0
   refine (zpx h0 (by omega) t ht x y (by rw [zcs e0]; exact hx') (by rw [zcs e0]; exact hy) ho0 (hd0.trans hd) (by rw [zhk e0]; exact hq)).mono ?_
   rintro e w' ⟨he, S', k', hm⟩
   rw [if_pos hd, hy, ← e0]
   exact ⟨he, S', k', hm⟩
 · rintro e w' ⟨he, S', k', hm⟩
   exact ⟨he, S', k', hm⟩
 · rintro e w' ⟨he, S', k', hm⟩
   exact ⟨he, S', k'.up (by omega), hm⟩
end
theorem zd2 : Keyed Tryz.prog 111 := Keyed.of_law (deep_law_laid zdt (m := 2) (by decide) (of_decide_eq_true (by kernel_rfl)) (by kernel_rfl) (by kernel_rfl))
theorem zqe : Go.WideMaps.ArrKey Tryz.prog 111 3 2 := ⟨by kernel_rfl, by kernel_rfl, by kernel_rfl, by kernel_rfl⟩
theorem zel (a b : Int) (ha : zbl a) (hb : zbl b) : ∃ l, keyOf Tryz.prog 111 (pk a b) = some l :=
 ⟨_, Go.WideMaps.keyOf_pair zqe Tryz.underlying3 ⟨_, rfl⟩ ha hb⟩
def ovr (s : Int) : Prop := s = 4 ∨ s = 5 ∨ s = 6
theorem zqf (s : Int) (h : ovr s) (w : World) : Calls Tryz.prog 88 #[.int .i64 s] w fun e w' => e = .returned (.bool true) ∧ w' = w := by
 rcases h with rfl | rfl | rfl <;>
 ·
  go_enter Tryz.func88, Tryz.ntmps88
  go_wp2_with fail
  go_ret
  exact ⟨rfl, rfl⟩
def ze3 (rows : List (Int × Tk)) (i : Nat) (a : Int) : Nat := ((rows.take i).filter fun x => x.1 == a).length
theorem zqg {rows : List (Int × Tk)} {i : Nat} {x : Int × Tk} (h : rows[i]? = some x) (a : Int) : ze3 rows (i + 1) a = ze3 rows i a + if x.1 = a then 1 else 0 := by
 unfold ze3
 rw [List.take_add_one, h, List.filter_append, List.length_append]
 by_cases e : x.1 = a
 · simp [e]
 · simp [e]
theorem zqh (rows : List (Int × Tk)) (i : Nat) (a : Int) : ze3 rows i a ≤ rows.length := by
 unfold ze3
 refine Nat.le_trans (List.length_filter_le _ _) ?_
 rw [List.length_take]
 omega
def clF (n : Int → Nat) (vs : Int → Value) : Int → Int → Option Value := fun a b => if b = 1 ∧ 0 < n a then some (vs a) else none
def upV {α : Type} (vs : Int → α) (s : Int) (v : α) : Int → α := fun a => if a = s then v else vs a
structure zsl (W : World) (A : CA) (S : CS) (S1 : CS) (N : Nat) (ta : Option Addr) (n i : Nat) (vs : Int → Value) (xs : Int → List Value) (w : World) : Prop where
 st : zag W A S w S1 N
 map : zdo w W.heap.size (clF (ze3 S.t.rows i) vs)
 own : ∀ a, w.ownsRow (W.heap.size + 1) 3 1 (vs a) (ze3 S.t.rows i a) (xs a)
 dis : ∀ a b c, a ≠ b → (vs a).ownBlock = some c → (vs b).ownBlock ≠ some c
 nm : ¬ (cOS A S1).own W.heap.size
 nv : ∀ a c, (vs a).ownBlock = some c → ¬ (cOS A S1).own c
 tk : 0 < n → ∃ b, ta = some ⟨b, 0, none⟩ ∧ W.heap.size < b ∧ (∀ a c, (vs a).ownBlock = some c → c ≠ b) ∧ ∀ j x, (zeb S.t.rows)[j]? = some x → w.cell? ⟨b, j, none⟩ = some x
 z : ∀ a, ze3 S.t.rows i a = 0 → vs a = .slice none 0 0
theorem zl4 (x0 x1 x2 x3 x4 x5 x6 x7 x8 : Value) (w : World) : (Instr.field 46 (Value.agg #[x0, x1, x2, x3, x4, x5, x6, x7, x8]) 4).run Tryz.prog w = .ok x4 w := by kernel_rfl
theorem ztt {n : Int → Nat} {vs : Int → Value} {s : Int} (h : n s = 0 → vs s = .slice none 0 0) : (clF n vs s 1).getD (.slice none 0 0) = vs s := by
 unfold clF
 by_cases hi : 0 < n s
 · rw [if_pos ⟨rfl, hi⟩]; rfl
 · rw [if_neg (fun e => hi e.2), h (by omega)]; rfl
theorem zsm {n n' : Int → Nat} (vs : Int → Value) (s : Int) (v' : Value) (h : ∀ a, n' a = n a + if s = a then 1 else 0) : zds (clF n vs) s 1 v' = clF n' (upV vs s v') := by
 funext a b
 unfold zds clF upV
 have h := h a
 by_cases e : a = s
 ·
  subst e
  rw [if_pos rfl] at h
  by_cases eb : b = 1
  · rw [if_pos ⟨rfl, eb⟩, if_pos ⟨eb, by omega⟩, if_pos rfl]
  · rw [if_neg (fun x => eb x.2), if_neg (fun x => eb x.1), if_neg (fun x => eb x.1)]
 ·
  rw [if_neg (fun x => e x.1), if_neg e]
  rw [if_neg (fun x => e x.symm)] at h
  rw [h]
  rfl
theorem zzj (rows : List (Int × Tk)) (vs : Int → Value) : clF (ze3 rows 0) vs = fun _ _ => none := by funext a b; simp [clF, ze3]
section
variable {W W' w5 w6 : World} {A : CA} {S S' : CS} {N N' : Nat}
theorem zag.boxG (k : zag W A S w5 S' N') {b : Nat} (f : Fr (fun j => j = b) w5 w6) {o : Obj} (hb : w5.heap[b]? = some o) (him : ∀ (cur : Array Value) (u : TypeId), o = .cells cur u (0, 0) → u ≠ 63) (hge : W.heap.size ≤ b) (hno : ¬ (cOS A S').own b) : zag W A S w6 S' N' := by
 have hn : NoE w5 (fun j => j = b) := NoE.of fun j hj => by
  have hj : j = b := hj
  rw [hj]
  exact ⟨_, hb, him⟩
 refine ⟨⟨k.at_.ps.keep f hn (fun j hj e => hno (by have e : j = b := e; rw [← e]; exact hj)), k.at_.bnd⟩, ⟨f.os.trans k.ps.fr.os, f.tape.trans k.ps.fr.tape, f.output.trans k.ps.fr.output, Nat.le_trans k.ps.fr.size f.size, fun j hj hnn => ?_⟩, k.ps.wr, k.ps.own⟩
 exact (f.block j (Nat.lt_of_lt_of_le hj k.ps.fr.size) (fun e => by have e : j = b := e; omega)).trans (k.ps.fr.block j hj hnn)
theorem zag.grow (k : zag W A S w5 S' N') {v : Value} {n base : Nat} {xs : List Value} (ho : w5.ownsRow base 3 1 v n xs) (hg : w5.grownBy w6 v.ownBlock) (hge : W.heap.size ≤ base) (hno : ∀ c, v.ownBlock = some c → ¬ (cOS A S').own c) : zag W A S w6 S' N' := by
 cases hv : v.ownBlock with
 | none =>
  rw [hv] at hg
  exact k.trans (zag.below k.at_ ⟨hg.os, hg.tape, hg.output, hg.size, fun j hj => hg.block j hj (by simp)⟩)
 | some c =>
  have hl := ho.lt c hv
  rw [hv] at hg
  obtain ⟨cur, hb⟩ := zba ho hv
  exact k.boxG ⟨hg.os, hg.tape, hg.output, hg.size, fun j hj hne => hg.block j hj (fun e => hne (Option.some.inj e))⟩ hb (zbe (by decide)) (by omega) (hno c hv)
theorem zqi {rows : List (Int × Tk)} {i : Nat} {x : Int × Tk} (hx : rows[i]? = some x) : ∀ j, j < 7 → (zeb rows)[i * 7 + j]? = (zg7 i x.1 x.2)[j]? := by
 intro j hj
 have hi := (yyk.1 hx).1
 unfold zeb
 rw [zo8 _ _ _ _ _ hi hj]
 have : rows.getD i tk0 = x := by rw [yyd, hx]; rfl
 rw [this]
theorem zsn (h : zal W A S N) (hN : N ≤ 300000000) (hq : (S.q.q A.q.k).Ok) (h4 : ∀ x ∈ S.t.rows, ovr x.1) : Calls Tryz.prog 46 #[.pointer (some ⟨A.cb, 0, none⟩)] W fun e w' => ∃ mb v S', e = .returned (.map (some mb)) ∧ zag W A S w' S' (N + 1260) ∧ S'.cm A = S.cm A ∧ zdo w' mb (clF (ze3 S.t.rows S.t.rows.length) v) ∧ (∀ s, ∃ a c, v s = .slice a (ze3 S.t.rows S.t.rows.length s) c) ∧ ∀ s, ze3 S.t.rows S.t.rows.length s = 0 → v s = .slice none 0 0 := by
 have hmm : ∀ w, (Instr.makeMap 108 none).run Tryz.prog w = .ok (.map (some w.heap.size)) (w.alloc (.map #[] 0)) := fun _ => by rfl
 obtain ⟨W1, hW1⟩ := yye (W.alloc (.map #[] 0))
 have hb1 : Below W.heap.size W W1 := by rw [← hW1]; exact zab yyr _
 have xm : W1.heap[W.heap.size]? = some (.map #[] 0) := by rw [← hW1]; exact heap_alloc_new W _
 have HS := yyh (zl1 (h.below hb1) hN hq)
 have H := yyh (yyi h (yyi hb1 (yyi xm h4)))
 obtain ⟨n, hn⟩ := yye (S.t.rows.length)
 have hnl : n ≤ 200 := by rw [← hn]; exact h.t.len.2
 rw [hn]
 have HN := yyh hn
 have HW1 := yyh hW1
 obtain ⟨i0, hi0, hz0, hz1, hz2⟩ := info_parts zfp
 clear h hb1 xm hq h4 hn hW1
 go_enter Tryz.func46, Tryz.ntmps46
 go_upto_region 2 with fail
 rw [HW1.out]
 go_wp2_with fail
 refine HS.out.mono ?_
 rintro e w2 ⟨tv, sv, lv, hv, rfl, hp, hloc, -⟩
 unfold stC
 obtain ⟨S1, k1, hcm, -, -⟩ := hp.core
 obtain ⟨lo', hlo, ht'⟩ := hp.t (by omega)
 have hts : ∃ tb, tv = .slice tb n n ∧ (0 < n → ∃ b, tb = some ⟨b, 0, none⟩ ∧ W1.heap.size ≤ b ∧ ∀ j, j < n * 7 → w2.cell? ⟨b, j, none⟩ = (zeb S.t.rows)[j]?) := by
  rcases ht' with ⟨h1, h2⟩ | ⟨c, h1, h2, h3, h4⟩
  · rw [HN.out] at h1; exact ⟨none, by rw [h2, h1], fun h => by omega⟩
  · rw [HN.out] at h1 h4; exact ⟨_, h1, fun _ => ⟨c, rfl, by omega, h4⟩⟩
 obtain ⟨ta, rfl, hta⟩ := hts
 have hxm : w2.heap[W.heap.size]? = some (.map #[] 0) := zag.kept (H.out.1.below H.out.2.1) k1 (fun e => by have := H.out.1.lt e; omega) H.out.2.2.1
 have hnm : ¬ (cOS A S1).own W.heap.size := zag.stays k1 (fun e => by have := H.out.1.lt e; omega) (zac H.out.2.2.1)
 have hs12 := H.out.2.1.size
 have hl1 := zac H.out.2.2.1
 have HK1 : zag W A S w2 S1 (N + 1260) := (zag.below H.out.1 H.out.2.1).trans (k1.up (by omega))
 have H0 : zsl W A S S1 (N + 1260) ta n 0 (fun _ => .slice none 0 0) (fun _ => []) w2 := ⟨HK1, ⟨#[], 0, hxm, by rw [zzj]; exact zca.empty⟩, fun a => World.ownsRow_nil _ _ _ _, fun a b c _ hc => (by cases hc), hnm, fun a c hc => (by cases hc), fun hn => by
  obtain ⟨b, h1, h2, h3⟩ := hta hn
  exact ⟨b, h1, by omega, fun a c hc => (by cases hc), fun j x hx => (h3 j (by
   have := (yyk.1 hx).1
   unfold zeb at this
   rw [zgf, HN.out] at this
   exact this)).trans hx⟩, fun a _ => rfl⟩
 have HS0 := yyh H0
 have HCM := yyh hcm
 have hsf := fun w => zl4 (.int .u64 0) (.int .u64 S.tick) (.bool S.closed) (.int .i64 ((A.C : Int) - S.o)) (.slice ta n n) sv lv hv (.slice none 0 0) w
 clear hp hloc ht' k1 hcm hlo hxm hnm hta hs12 hl1 HK1 HS H0
 go_wp2_with fail
 go_loopg [5, 6, 12] n (fun gg s5 s6 s12 wr => ∃ (i : Nat) (vs : Int → Value) (xs : Int → List Value), i ≤ n ∧ gg = n - i ∧ s12 = .int .i64 i ∧ Aside (zsl W A S S1 (N + 1260) ta n i vs xs wr))
 case atStart => exact ⟨0, _, _, Nat.zero_le _, by omega, rfl, HS0.out⟩
 case round =>
  obtain ⟨i, vs, xs, hi, rfl, rfl, hR⟩ := hrel
  by_cases hlt : i < n
  ·
   have hltz : (i : Int) < (n : Int) := by omega
   obtain ⟨b, rfl, hb, hvb, hc⟩ := hR.out.tk (by omega)
   obtain ⟨x, hx⟩ : ∃ x, S.t.rows[i]? = some x := ⟨_, yyg (by rw [HN.out]; exact hlt)⟩
   have hT := zqi hx
   have hov := H.out.2.2.2 x (List.mem_of_getElem? hx)
   have hcn := zqg hx
   obtain ⟨s, T⟩ := x
   obtain ⟨v, hv⟩ := yye (vs s)
   obtain ⟨m, hm⟩ := yye (ze3 S.t.rows i s)
   have hml : m ≤ 200 := by rw [← hm]; exact Nat.le_trans (zqh _ _ _) (by rw [HN.out]; exact hnl)
   have hsI : zbl s := by rcases hov with e | e | e <;> (have e : s = _ := e; subst e; unfold zbl; decide)
   have c0 : wr.cell? ⟨b, i * 7, none⟩ = some (.int .i64 ((i : Int) + 1)) := hc (i * 7) _ (hT 0 (by omega))
   have c1 : wr.cell? ⟨b, i * 7 + 1, none⟩ = some (.int .i64 T.pr) := hc (i * 7 + 1) _ (hT 1 (by omega))
   have c2 : wr.cell? ⟨b, i * 7 + 2, none⟩ = some (.int .i64 s) := hc (i * 7 + 2) _ (hT 2 (by omega))
   have c3 : wr.cell? ⟨b, i * 7 + 3, none⟩ = some (.int .u64 T.du) := hc (i * 7 + 3) _ (hT 3 (by omega))
   have c4 : wr.cell? ⟨b, i * 7 + 4, none⟩ = some (.int .u64 T.ke) := hc (i * 7 + 4) _ (hT 4 (by omega))
   have c5 : wr.cell? ⟨b, i * 7 + 5, none⟩ = some (.int .u64 T.RU) := hc (i * 7 + 5) _ (hT 5 (by omega))
   have c6 : wr.cell? ⟨b, i * 7 + 6, none⟩ = some (.int .u64 T.MI) := hc (i * 7 + 6) _ (hT 6 (by omega))
   have HR := yyh (yyi hR.out (yyi hb (yyi hvb hc)))
   have HV := yyh (yyi hv (yyi hm (yyi hcn hx)))
   have HOV := yyh hov
   clear hR hb hvb hc hT hx hov hcn hv hm
   go_wp2_with fail
   refine (zqf s HOV.out _).mono ?_
   rintro e X ⟨rfl, hX⟩
   obtain ⟨hR, hb, hvb, hc⟩ := HR.out
   have hbX : Below wr.heap.size wr X := by rw [hX]; exact zab (zab yyr _) _
   have hsX : X.heap.size = wr.heap.size + 2 := by rw [hX]; simp
   have x5 : X.heap[wr.heap.size]? = some (.cells #[.int .i64 ((i : Int) + 1), .int .i64 T.pr, .int .i64 s, .int .u64 T.du, .int .u64 T.ke, .int .u64 T.RU, .int .u64 T.MI] 49 (0, 0)) := by rw [hX]; exact zan (heap_alloc_new wr _)
   have x6 : X.heap[wr.heap.size + 1]? = some (.cells #[.int .i64 s, .int .i64 0] 111 (0, 0)) := by rw [hX]; exact zax (by simp)
   have k0 : X.cell? ⟨wr.heap.size, 0, none⟩ = some (.int .i64 ((i : Int) + 1)) := by rw [zaa x5]; rfl
   obtain ⟨a0, a1, -, za⟩ := zao x6
   have x62 := zai (o := 1) x6 (.int .i64 1)
   have f2 : Fr (fun j => j = wr.heap.size + 1) X (X.setCell ⟨wr.heap.size + 1, 1, none⟩ (.int .i64 1)) := Fr.set (S := fun j => j = wr.heap.size + 1) (Fr.refl _ _) (p := ⟨wr.heap.size + 1, 1, none⟩) rfl _
   have hszr : W.heap.size < wr.heap.size := by obtain ⟨es, ck, h1, -⟩ := hR.map; exact zac h1
   have nX : ¬ (cOS A S1).own (wr.heap.size + 1) := fun e => by have := hR.st.at_.lt e; omega
   have kX : zag W A S X S1 (N + 1260) := hR.st.trans (zag.below hR.st.at_ hbX)
   have k2 := kX.boxG f2 x6 (zbe (by decide)) (by omega) nX
   obtain ⟨X3, hX3⟩ : ∃ X3, (X.setCell ⟨wr.heap.size + 1, 1, none⟩ (.int .i64 1)).alloc (.cells #[.int .i64 ((i : Int) + 1)] 3) = X3 := ⟨_, rfl⟩
   have hs2 : (X.setCell ⟨wr.heap.size + 1, 1, none⟩ (.int .i64 1)).heap.size = X.heap.size := by simp
   have hb3 : Below (X.setCell ⟨wr.heap.size + 1, 1, none⟩ (.int .i64 1)).heap.size (X.setCell ⟨wr.heap.size + 1, 1, none⟩ (.int .i64 1)) X3 := by rw [← hX3]; exact zab yyr _
   have x3 : X3.heap[X.heap.size]? = some (.cells #[.int .i64 ((i : Int) + 1)] 3 (0, 0)) := by rw [← hX3]; exact zax (by simp)
   have k3 : zag W A S X3 S1 (N + 1260) := k2.trans (zag.below k2.at_ hb3)
   have hm3 : zdo X3 W.heap.size (clF (ze3 S.t.rows i) vs) := by
    obtain ⟨es, ck, h1, h2⟩ := hR.map
    refine ⟨es, ck, (hb3.block _ (by rw [hs2]; omega)).trans ((f2.block _ (by omega) (by omega)).trans ((hbX.block _ hszr).trans h1)), h2⟩
   obtain ⟨st, es, ck, hen, hE1, hst⟩ := hm3.entry zd2 zel Tryz.underlying108 (.slice none 0 0) (by kernel_rfl) s 1 hsI (by unfold zbl; decide)
   rw [ztt (hR.z s), HV.out.1] at hen
   have hen' : (Instr.mapEntry 108 (.map (some W.heap.size)) (.agg #[.int .i64 s, .int .i64 1])).run Tryz.prog X3 = .ok (.tuple #[v, .int .i64 st]) (World.setBlk X3 W.heap.size (.map es ck)) := hen
   obtain ⟨X4, hX4⟩ := yye (World.setBlk X3 W.heap.size (.map es ck))
   rw [hX4] at hen'
   obtain ⟨es0, ck0, h30, -⟩ := hm3
   have f4 : Fr (fun j => j = W.heap.size) X3 X4 := by rw [← hX4]; exact Fr.of_setBlk _ _ _ rfl
   have hs3 : X3.heap.size = X.heap.size + 1 := by rw [← hX3]; simp
   have hs4 : X4.heap.size = X3.heap.size := by rw [← hX4]; exact zbj _ _ _
   have m4 : X4.heap[W.heap.size]? = some (.map es ck) := by rw [← hX4]; exact zbs _ _ _ _ h30
   have x4 := (f4.block _ (zac x3) (by omega)).trans x3
   have k4 : zag W A S X4 S1 (N + 1260) := k3.boxG f4 h30 zf3 yyn hR.nm
   have kp4 : ∀ c o, W.heap.size < c → wr.heap[c]? = some o → X4.heap[c]? = some o := fun c o hc ho => by
    have hl := zac ho
    exact (f4.block c (by omega) (by omega)).trans ((hb3.block c (by omega)).trans ((f2.block c (by omega) (by omega)).trans ((hbX.block c hl).trans ho)))
   have ow4 : ∀ a, X4.ownsRow (W.heap.size + 1) 3 1 (vs a) (ze3 S.t.rows i a) (xs a) := fun a => zfl (hR.own a) fun c o hv ho => kp4 c o (by have := (hR.own a).lt c hv; omega) ho
   have own4 : X4.ownsRow (W.heap.size + 1) 3 1 v m (xs s) := by have := ow4 s; rw [HV.out.1, HV.out.2.1] at this; exact this
   have HOWN := yyh own4
   have HNEWS := yyh (show ∀ j u, [Value.int .i64 ((i : Int) + 1)][j]? = some u → X4.cell? ((⟨X.heap.size, 0, none⟩ : Addr).add j) = some u from fun j u hu => by
    cases j with
    | zero =>
     have hu : Value.int .i64 ((i : Int) + 1) = u := by simpa using hu
     rw [← hu]
     show X4.cell? ⟨X.heap.size, 0 + 0, none⟩ = _
     rw [zaa x4]
     rfl
    | succ j => simp at hu)
   have HGE := yyh (show W.heap.size + 1 ≤ X4.heap.size by omega)
   have HST := yyh (fun w2 v1 h => hst w2 v1 h)
   have HEND := yyh (yyi hR (yyi hb (yyi hvb (yyi hc (yyi m4 (yyi k4 (yyi kp4 (yyi ow4 (yyi hs4 (yyi hs3 (yyi hsX hszr)))))))))))
   have HX3 := yyh hX3
   clear hR hb hvb hc hbX hsX x5 x6 x62 f2 hszr nX kX k2 hX3 hs2 hb3 x3 k3 hst hE1 hen hX4 h30 f4 hs3 hs4 m4 x4 k4 kp4 own4 ow4 hX
   go_upto_region 8 with fail
   rw [← HX3.out] at hen'
   go_wp2_with (at_builtin; refine wpList_append_own_at _ rfl (.tmp 25) (.tmp 28) 33 rfl (W.heap.size + 1) 3 i0 zue 1 8 Tryz.underlying33 hi0 hz0 hz1 hz2 rfl (by decide) v m (xs s) rfl HOWN.out ⟨X.heap.size, 0, none⟩ 1 1 [.int .i64 ((i : Int) + 1)] rfl rfl HNEWS.out (fun u hu => by simp at hu; subst hu; rfl) (by unfold maxLen; omega) (by omega) HGE.out ?_; intro v' w6 hown6 hg6 hnil6 hblk6; have m6 := (hg6.block _ (zac HEND.out.2.2.2.2.1) (fun e => by have := (HOWN.out.lt _ e.symm).1; omega)).trans HEND.out.2.2.2.2.1; obtain ⟨es', ck', hes, hE6⟩ := HST.out w6 v' m6; have hes' : (Instr.entryStore 108 (.map (some W.heap.size)) (.int .i64 st) v').run Tryz.prog w6 = .ok () (World.setBlk w6 W.heap.size (.map es' ck')) := hes; have H6 := yyh (yyi hown6 (yyi hg6 (yyi hblk6 (yyi m6 hE6)))); clear hown6 hg6 hnil6 hblk6 m6 hE6 hes)
   have hnr : zsl W A S S1 (N + 1260) (some ⟨b, 0, none⟩) n (i + 1) (upV vs s v') (upV xs s (xs s ++ [.int .i64 ((i : Int) + 1)])) (World.setBlk w6 W.heap.size (.map es' ck')) := by
    obtain ⟨hR, hb, hvb, hc, m4, k4, kp4, ow4, hs4, hs3, hsX, hszr⟩ := HEND.out
    obtain ⟨hown6, hg6, hblk6, m6, hE6⟩ := H6.out
    obtain ⟨hv, hm, hcn, hx⟩ := HV.out
    have hcs : ze3 S.t.rows (i + 1) s = m + 1 := by rw [hcn s, hm]; simp
    have hco : ∀ a, a ≠ s → ze3 S.t.rows (i + 1) a = ze3 S.t.rows i a := fun a ha => by rw [hcn a, if_neg (fun e => ha e.symm)]; rfl
    have us : ∀ {α : Type} (f : Int → α) (y : α), upV f s y s = y := fun f y => if_pos rfl
    have uo : ∀ {α : Type} (f : Int → α) (y : α) (a : Int), a ≠ s → upV f s y a = f a := fun f y a ha => if_neg ha
    have own4 := HOWN.out
    have hnv : ∀ c, v.ownBlock = some c → ¬ (cOS A S1).own c := fun c hc => hR.nv s c (by rw [hv]; exact hc)
    have k6 := k4.grow own4 hg6 (by omega) hnv
    have f7 : Fr (fun j => j = W.heap.size) w6 (World.setBlk w6 W.heap.size (.map es' ck')) := Fr.of_setBlk _ _ _ rfl
    have k7 := k6.boxG f7 m6 zf3 yyn hR.nm
    have hge : ∀ c, v'.ownBlock = some c → W.heap.size < c := fun c hc => (hown6.lt c hc).1
    have hbl := World.block_lt_of_cell? wr _ c0
    have hbl : b < wr.heap.size := hbl
    obtain ⟨ob, hob⟩ : ∃ o, wr.heap[b]? = some o := ⟨_, Array.getElem?_eq_getElem hbl⟩
    have hb4 := kp4 b ob hb hob
    have hb7 : (World.setBlk w6 W.heap.size (.map es' ck')).heap[b]? = some ob := (f7.block b (by have := hg6.size; omega) (by omega)).trans ((hg6.block b (zac hb4) (fun e => hvb s b (by rw [hv]; exact e.symm) rfl)).trans hb4)
    -- a block of another state's row
    have hoth : ∀ a c, a ≠ s → (vs a).ownBlock = some c → v.ownBlock ≠ some c := fun a c ha hc => by rw [← hv]; exact hR.dis a s c ha hc
    have hnew : ∀ a c, a ≠ s → (vs a).ownBlock = some c → v'.ownBlock ≠ some c := fun a c ha hc e => by
     rcases hblk6 with e2 | e2
     · exact hoth a c ha hc (e2.symm.trans e)
     ·
      rw [e] at e2
      have e2 := Option.some.inj e2
      have := (ow4 a).lt c hc
      obtain ⟨cur, hcur⟩ := zhh (ow4 a) hc
      have := zac hcur
      omega
    refine ⟨k7, ⟨es', ck', zbs _ _ _ _ m6, by rw [← zsm vs s v' hcn]; exact hE6⟩, fun a => ?_, fun a b' c hab hca hcb => ?_, hR.nm, fun a c hc' => ?_, fun _ => ⟨b, rfl, hb, fun a c hc' e => ?_, fun j x hx => ?_⟩, fun a e => ?_⟩
    ·
     by_cases ha : a = s
     · subst ha
       rw [us, us, hcs]
       exact zfl hown6 fun c o hv ho => (f7.block c (zac ho) (by have := hge c hv; omega)).trans ho
     ·
      rw [uo _ _ a ha, uo _ _ a ha, hco a ha]
      refine zfl (ow4 a) fun c o hv2 ho => ?_
      have h1 := (hg6.block c (zac ho) (fun e => hoth a c ha hv2 e.symm)).trans ho
      exact (f7.block c (zac h1) (by have := ((ow4 a).lt c hv2).1; omega)).trans h1
    ·
     by_cases ha : a = s
     ·
      subst ha
      rw [us] at hca
      rw [uo _ _ b' (fun e => hab e.symm)] at hcb
      exact hnew b' c (fun e => hab e.symm) hcb hca
     ·
      rw [uo _ _ a ha] at hca
      by_cases hb' : b' = s
      · subst hb'
        rw [us] at hcb
        exact hnew a c ha hca hcb
      · rw [uo _ _ b' hb'] at hcb
        exact hR.dis a b' c hab hca hcb
    ·
     by_cases ha : a = s
     ·
      subst ha
      rw [us] at hc'
      rcases hblk6 with e | e
      · exact hnv c (e.symm.trans hc')
      ·
       rw [hc'] at e
       have e := Option.some.inj e
       intro ho
       have := k4.at_.lt ho
       omega
     · rw [uo _ _ a ha] at hc'
       exact hR.nv a c hc'
    ·
     by_cases ha : a = s
     ·
      subst ha
      rw [us] at hc'
      rcases hblk6 with e2 | e2
      · exact hvb a c (by rw [hv]; exact e2.symm.trans hc') e
      · rw [hc'] at e2
        have e2 := Option.some.inj e2
        omega
     · rw [uo _ _ a ha] at hc'
       exact hvb a c hc' e
    · have h1 := hc j x hx
      rw [← h1]
      simp [World.cell?, hb7, hob]
    ·
     by_cases ha : a = s
     · subst ha
       omega
     · rw [uo _ _ a ha]
       exact hR.z a (by rw [← hco a ha]; exact e)
   go_roundg (n - (i + 1))
   case measure => omega
   case rel => exact ⟨i + 1, _, _, by omega, rfl, by go_num, (show Aside (zsl W A S S1 (N + 1260) (some ⟨b, 0, none⟩) n (i + 1) (upV vs s v') _ _) from hnr)⟩
  ·
   obtain rfl : i = n := by omega
   have hltz : ¬ (i : Int) < (i : Int) := by omega
   have HR := yyh hR.out
   clear hR
   go_wp2_with fail
   go_ret
   have hfin : ∀ s, ∃ a c, vs s = .slice a (ze3 S.t.rows i s) c := fun s => by
    obtain ⟨a5, c5, h5, -⟩ := SlV.clip (SlV.of_owns (HR.out.own s))
    exact ⟨a5, c5, h5⟩
   exact ⟨W.heap.size, rfl, vs, S1, HR.out.st, HCM.out, HR.out.map, hfin, HR.out.z⟩
end
structure zso (W : World) (M : MA) (s : MS) (B : Nat → Nat) (R : Nat → MS → Prop) (b4 b7 : Nat) (a : Option Addr) (cap j : Nat) (sj : MS) (w : World) : Prop where
 st : za7 W M s w sj (B j)
 r : R j sj
 x4 : w.heap[b4]? = some (.cells #[.int .i64 0, .int .i64 0, .int .i64 0, .slice none 0 0, .int .i64 0] 35 (0, 0))
 x7 : w.heap[b7]? = some (.cells #[.int .i64 0, .int .i64 0, .int .i64 0, .slice a 0 cap, .int .i64 j] 35 (0, 0))
 n4 : ¬ zdp M sj b4
 n7 : ¬ zdp M sj b7
 ne : W.heap.size ≤ b4 ∧ W.heap.size ≤ b7 ∧ b4 ≠ b7
section
variable {W W' : World} {M : MA} {s s' : MS} {N N' : Nat}
theorem za7.box {w5 w6 : World} (k : za7 W M s w5 s' N') {b : Nat} (f : Fr (fun j => j = b) w5 w6) {c : Array Value} {t : TypeId} (hb : w5.heap[b]? = some (.cells c t (0, 0))) (ht : t ≠ 63) (hge : W.heap.size ≤ b) (hno : ¬ zdp M s' b) : za7 W M s w6 s' N' := by
 have hc := k.at_
 refine ⟨⟨hc.c.other f hb ht (fun e => hno (.inl e)), (f.block _ (zac hc.m) (fun e => hno (.inr (.inl (by have e : M.mp = b := e; omega))))).trans hc.m, (f.block _ (zac hc.l) (fun e => hno (.inr (.inr (by have e : M.lb = b := e; omega))))).trans hc.l, hc.len, hc.did, hc.nm, hc.nl⟩, ⟨f.os.trans k.fr.os, f.tape.trans k.fr.tape, f.output.trans k.fr.output, Nat.le_trans k.fr.size f.size, fun j hj hn => ?_⟩, k.own, k.wr⟩
 exact (f.block j (Nat.lt_of_lt_of_le hj k.fr.size) (fun e => by have e : j = b := e; omega)).trans (k.fr.block j hj hn)
theorem zwd (h : zaz W M s N) (hN : N ≤ 300000000) (hcl : s.c.closed = false) (d : Int) (K : Nat) (hK : K < 100000) (B : Nat → Nat) (hB : B 0 = N + 1) (hBK : B K ≤ 290000000) (R : Nat → MS → Prop) (hR0 : ∀ S', S'.cm M.c = (s.c.cm M.c).shut → R 0 { s with c := S' })
 (HQ : ∀ j V sj, j ≤ K → zaz V M sj (B j) → R j sj → sj.c.closed = true ∧ sj.ws.length ≤ 64 ∧ ((sj.c.cm M.c).drained && zed sj) = decide (j = K))
 (HR : ∀ j V sj, j < K → zaz V M sj (B j) → R j sj → Calls Tryz.prog 39 #[.pointer (some ⟨M.mp, 0, none⟩), .int .u64 d] V fun e V' => ∃ v s', e = .returned v ∧ za7 V M sj V' s' (B (j + 1)) ∧ R (j + 1) s')
 (HF : ∀ V sj, zaz V M sj (B K) → R K sj → (sj.c.q.q M.c.q.k).Ok ∧ ∀ x ∈ sj.c.t.rows, ovr x.1) : Calls Tryz.prog 15 #[.pointer (some ⟨M.mp, 0, none⟩), .int .u64 d] W fun e w' => ∃ sK s' a cap, e = .returned (.tuple #[.agg #[.int .i64 (ze3 sK.c.t.rows sK.c.t.rows.length 4), .int .i64 (ze3 sK.c.t.rows sK.c.t.rows.length 5), .int .i64 (ze3 sK.c.t.rows sK.c.t.rows.length 6), .slice a 0 cap, .int .i64 K], .bool true]) ∧ R K sK ∧ za7 W M s w' s' (B K + 1260) ∧ s'.mm M = sK.mm M := by
 obtain ⟨W1, hW1⟩ := yye (W.alloc (.cells #[.int .i64 0, .int .i64 0, .int .i64 0, .slice none 0 0, .int .i64 0] 35))
 have hb1 : Below W.heap.size W W1 := by rw [← hW1]; exact zab yyr _
 have x1 : W1.heap[W.heap.size]? = some (.cells #[.int .i64 0, .int .i64 0, .int .i64 0, .slice none 0 0, .int .i64 0] 35 (0, 0)) := by rw [← hW1]; exact heap_alloc_new W _
 have h1 := h.below hb1
 have n1 : ¬ zdp M s W.heap.size := fun e => by have := zl0 h e; omega
 have HC := yyh (zec h1)
 have HS := yyh (zn1 h1.c (by omega) hcl)
 have H := yyh (yyi h (yyi hb1 (yyi h1 (yyi x1 n1))))
 have HW1 := yyh hW1
 have HHQ := yyh HQ
 have HHR := yyh HR
 have HHF := yyh HF
 have HR0 := yyh hR0
 have HB := yyh (yyi hB hBK)
 clear h hb1 x1 h1 n1 hW1 HQ HR HF hR0 hcl hB hBK
 go_enter Tryz.func15, Tryz.ntmps15
 go_upto_region 1 with fail
 rw [HW1.out]
 go_wp2_with fail
 refine HC.out.mono ?_
 rintro e w1 ⟨rfl, rfl⟩
 go_wp2_with fail
 refine HS.out.mono ?_
 rintro e w2 ⟨⟨a, cap, rfl⟩, S2, k2, hm2⟩
 obtain ⟨W3, hW3⟩ := yye (w2.alloc (.cells #[.int .i64 0, .int .i64 0, .int .i64 0, .slice a 0 cap, .int .i64 0] 35))
 have hHC : zso W M s B R W.heap.size w2.heap.size a cap 0 { s with c := S2 } W3 := by
  obtain ⟨h, hb1, h1, x1, n1⟩ := H.out
  have st2 := (za7.below h hb1).trans (za7.core h1 k2)
  obtain ⟨x2, n2⟩ := (za7.core h1 k2).kept n1 x1
  have hb3 : Below w2.heap.size w2 W3 := by rw [← hW3]; exact zab yyr _
  have hl := zac x2
  have hsz : W.heap.size ≤ w2.heap.size := st2.fr.size
  refine ⟨?_, HR0.out S2 hm2, (hb3.block _ hl).trans x2, by rw [← hW3]; exact heap_alloc_new w2 _, n2, fun e => ?_, yyn, hsz, by omega⟩
  · rw [HB.out.1]
    exact st2.trans (za7.below st2.at_ hb3)
  · have := zl0 st2.at_ e
    omega
 have hl4 : W.heap.size ≠ w2.heap.size := hHC.ne.2.2
 have HC0 := yyh hHC
 have HW3 := yyh hW3
 obtain ⟨b4, hb4⟩ : ∃ b, W.heap.size = b := ⟨_, rfl⟩
 obtain ⟨b7, hb7⟩ : ∃ b, w2.heap.size = b := ⟨_, rfl⟩
 clear hHC k2 hm2 hW3
 go_upto_region 3 with fail
 rw [HW3.out]
 rw [hb4, hb7] at HC0 hl4
 have HB47 := yyh (yyi hb4 hb7)
 clear hb4 hb7
 go_loopg [] K (fun gg wr => ∃ (j : Nat) (sj : MS), j ≤ K ∧ gg = K - j ∧ Aside (zso W M s B R b4 b7 a cap j sj wr))
 case atStart => exact ⟨0, _, Nat.zero_le _, by omega, HC0.out⟩
 case round =>
  obtain ⟨j, sj, hj, rfl, hR⟩ := hrel
  obtain ⟨hclo, hlen, hfl⟩ := HHQ.out j wr sj hj hR.out.st.at_ hR.out.r
  have HD := yyh (zpy hR.out.st.at_.c hclo)
  have HR := yyh hR.out
  have HL := yyh hlen
  have hjm : (((j : Int)) == 100000) = false := by rw [beq_eq_false_iff_ne]; omega
  have hx := yyh (fun (w : World) (hb : Below wr.heap.size wr w) => (show _ from yyi hb (yyi ((hb.block _ (zac HR.out.x4)).trans HR.out.x4) ((hb.block _ (zac HR.out.x7)).trans HR.out.x7))))
  clear hR hclo hlen
  by_cases hlt : j < K
  ·
   rw [decide_eq_false (show ¬ j = K by omega)] at hfl
   cases hdr : (sj.c.cm M.c).drained with
   | false =>
    rw [hdr] at HD
    clear hfl hdr
    go_wp2_with fail
    refine HD.out.mono ?_
    rintro e w1 ⟨rfl, hb⟩
    have HX := yyh (hx.out w1 hb)
    clear hb
    obtain ⟨hx4, hx7⟩ := HX.out.2
    obtain ⟨q0, q1, q2, q3, q4, qz⟩ := za0 hx7
    have hat := HR.out.st.at_.below HX.out.1
    have HRD := yyh (HHR.out j w1 sj hlt hat HR.out.r)
    clear hx4 hx7 hat
    go_wp2_with fail
    refine HRD.out.mono ?_
    rintro e w5 ⟨v5, s5, rfl, k5, r5⟩
    obtain ⟨y4, m4⟩ := k5.kept HR.out.n4 HX.out.2.1
    obtain ⟨y7, m7⟩ := k5.kept HR.out.n7 HX.out.2.2
    obtain ⟨p0, p1, p2, p3, p4, pz⟩ := za0 y7
    have hwr : IntKind.i64.wrap ((j : Int) + 1) = (j : Int) + 1 := zb4 (by omega) (by omega)
    have f5 : Fr (fun k => k = b7) w5 (w5.setCell ⟨b7, 4, none⟩ (.int .i64 ((j : Int) + 1))) := Fr.set (S := fun k => k = b7) (Fr.refl _ _) (p := ⟨b7, 4, none⟩) rfl _
    have st5 := (HR.out.st.trans (za7.below HR.out.st.at_ HX.out.1)).trans k5
    have HN := yyh (show zso W M s B R b4 b7 a cap (j + 1) s5 (w5.setCell ⟨b7, 4, none⟩ (.int .i64 ((j : Int) + 1))) from ⟨st5.box f5 y7 (by decide) HR.out.ne.2.1 m7, r5, (f5.block _ (zac y4) HR.out.ne.2.2).trans y4, by rw [zai y7]; rfl, m4, m7, HR.out.ne⟩)
    clear y4 m4 y7 m7 f5 st5 k5 r5 q0 q1 q2 q3 q4 qz
    go_wp2_with fail
    go_roundg (K - (j + 1))
    case measure => omega
    case rel => exact ⟨j + 1, s5, by omega, rfl, (show Aside _ from HN.out)⟩
   | true =>
    rw [hdr, Bool.true_and] at hfl
    rw [hdr] at HD
    clear hdr
    go_wp2_with fail
    refine HD.out.mono ?_
    rintro e w1 ⟨rfl, hb⟩
    have HI := yyh (zp9 (HR.out.st.at_.below hb) HL.out)
    rw [hfl] at HI
    have HB1 := yyh hb
    clear hb hfl
    go_wp2_with fail
    refine HI.out.mono ?_
    rintro e w2 ⟨rfl, hb⟩
    have HX := yyh (hx.out w2 (zad hb HB1.out))
    clear hb
    obtain ⟨hx4, hx7⟩ := HX.out.2
    obtain ⟨q0, q1, q2, q3, q4, qz⟩ := za0 hx7
    have hat := HR.out.st.at_.below HX.out.1
    have HRD := yyh (HHR.out j w2 sj hlt hat HR.out.r)
    clear hx4 hx7 hat
    go_wp2_with fail
    refine HRD.out.mono ?_
    rintro e w5 ⟨v5, s5, rfl, k5, r5⟩
    obtain ⟨y4, m4⟩ := k5.kept HR.out.n4 HX.out.2.1
    obtain ⟨y7, m7⟩ := k5.kept HR.out.n7 HX.out.2.2
    obtain ⟨p0, p1, p2, p3, p4, pz⟩ := za0 y7
    have hwr : IntKind.i64.wrap ((j : Int) + 1) = (j : Int) + 1 := zb4 (by omega) (by omega)
    have f5 : Fr (fun k => k = b7) w5 (w5.setCell ⟨b7, 4, none⟩ (.int .i64 ((j : Int) + 1))) := Fr.set (S := fun k => k = b7) (Fr.refl _ _) (p := ⟨b7, 4, none⟩) rfl _
    have st5 := (HR.out.st.trans (za7.below HR.out.st.at_ HX.out.1)).trans k5
    have HN := yyh (show zso W M s B R b4 b7 a cap (j + 1) s5 (w5.setCell ⟨b7, 4, none⟩ (.int .i64 ((j : Int) + 1))) from ⟨st5.box f5 y7 (by decide) HR.out.ne.2.1 m7, r5, (f5.block _ (zac y4) HR.out.ne.2.2).trans y4, by rw [zai y7]; rfl, m4, m7, HR.out.ne⟩)
    clear y4 m4 y7 m7 f5 st5 k5 r5 q0 q1 q2 q3 q4 qz
    go_wp2_with fail
    go_roundg (K - (j + 1))
    case measure => omega
    case rel => exact ⟨j + 1, s5, by omega, rfl, (show Aside _ from HN.out)⟩
  ·
   obtain rfl : j = K := by omega
   rw [decide_eq_true rfl, Bool.and_eq_true] at hfl
   obtain ⟨hdr, hid⟩ := hfl
   rw [hdr] at HD
   clear hdr hlt
   go_wp2_with fail
   refine HD.out.mono ?_
   rintro e w1 ⟨rfl, hb⟩
   have HI := yyh (zp9 (HR.out.st.at_.below hb) HL.out)
   rw [hid] at HI
   have HB1 := yyh hb
   clear hb hid
   go_wp2_with fail
   refine HI.out.mono ?_
   rintro e w2 ⟨rfl, hb⟩
   have HX := yyh (hx.out w2 (zad hb HB1.out))
   clear hb
   obtain ⟨hx4, hx7⟩ := HX.out.2
   have hat := HR.out.st.at_.below HX.out.1
   obtain ⟨hok, h4⟩ := HHF.out _ _ HR.out.st.at_ HR.out.r
   have HSO := yyh (zsn hat.c (by have := HB.out.2; omega) hok h4)
   have HAT := yyh hat
   clear hx4 hx7 hat hok h4
   go_wp2_with fail
   refine HSO.out.mono ?_
   rintro e w5 ⟨mb, v, S5, rfl, k5, hm5, hmap, hsl, hzz⟩
   have k6 := za7.core HAT.out k5
   obtain ⟨y4, m4⟩ := k6.kept HR.out.n4 HX.out.2.1
   obtain ⟨y7, m7⟩ := k6.kept HR.out.n7 HX.out.2.2
   have hln : sj.c.t.rows.length ≤ 200 := HAT.out.c.t.len.2
   have hat_ : ∀ s, (clF (ze3 sj.c.t.rows sj.c.t.rows.length) v s 1).getD (.slice none 0 0) = v s := fun s => ztt (hzz s)
   have hle : ∀ s, ze3 sj.c.t.rows sj.c.t.rows.length s ≤ 200 := fun s => Nat.le_trans (zqh _ _ s) hln
   obtain ⟨f, hf⟩ := yye (ze3 sj.c.t.rows sj.c.t.rows.length)
   rw [hf] at hmap hsl hat_ hle
   obtain ⟨n, hn⟩ := yye (f 4)
   obtain ⟨n5, hn5⟩ : ∃ n, f 5 = n := ⟨_, rfl⟩
   obtain ⟨n6, hn6⟩ : ∃ n, f 6 = n := ⟨_, rfl⟩
   have hnl := hle 4
   have hnl5 := hle 5
   have hnl6 := hle 6
   obtain ⟨a4, c4, hv4⟩ := hsl 4
   obtain ⟨a5, c5, hv5⟩ := hsl 5
   obtain ⟨a6, c6, hv6⟩ := hsl 6
   rw [hn] at hv4 hnl
   rw [hn5] at hv5 hnl5
   rw [hn6] at hv6 hnl6
   have hlk : ∀ w, w.heap[mb]? = w5.heap[mb]? → (Instr.lookup 108 (.map (some mb)) (.agg #[.int .i64 4, .int .i64 1]) false).run Tryz.prog w = .ok (.slice a4 n c4) w ∧ (Instr.lookup 108 (.map (some mb)) (.agg #[.int .i64 5, .int .i64 1]) false).run Tryz.prog w = .ok (.slice a5 n5 c5) w ∧ (Instr.lookup 108 (.map (some mb)) (.agg #[.int .i64 6, .int .i64 1]) false).run Tryz.prog w = .ok (.slice a6 n6 c6) w := by
    intro w hw
    have hm : zdo w mb (clF f v) := by
     obtain ⟨es, ck, h1, h2⟩ := hmap
     exact ⟨es, ck, by rw [hw]; exact h1, h2⟩
    have l4 := hm.lookup zd2 zel Tryz.underlying108 (.slice none 0 0) (by kernel_rfl) 4 1 (by unfold zbl; decide) (by unfold zbl; decide)
    have l5 := hm.lookup zd2 zel Tryz.underlying108 (.slice none 0 0) (by kernel_rfl) 5 1 (by unfold zbl; decide) (by unfold zbl; decide)
    have l6 := hm.lookup zd2 zel Tryz.underlying108 (.slice none 0 0) (by kernel_rfl) 6 1 (by unfold zbl; decide) (by unfold zbl; decide)
    rw [hat_ 4, hv4] at l4
    rw [hat_ 5, hv5] at l5
    rw [hat_ 6, hv6] at l6
    exact ⟨l4, l5, l6⟩
   have hmb : ¬ mb = b7 := fun e => by
    obtain ⟨es, ck, h1, h2⟩ := hmap
    rw [e, y7] at h1
    cases h1
   have f1 : Fr (fun k => k = b7) w5 (w5.setCell ⟨b7, 0, none⟩ (.int .i64 n)) := Fr.set (S := fun k => k = b7) (Fr.refl _ _) (p := ⟨b7, 0, none⟩) rfl _
   have f2 : Fr (fun k => k = b7) w5 ((w5.setCell ⟨b7, 0, none⟩ (.int .i64 n)).setCell ⟨b7, 1, none⟩ (.int .i64 n5)) := Fr.set (S := fun k => k = b7) f1 (p := ⟨b7, 1, none⟩) rfl _
   have hml : mb < w5.heap.size := by obtain ⟨es, ck, h1, -⟩ := hmap; exact zac h1
   obtain ⟨l4, l5, l6⟩ := hlk w5 rfl
   obtain ⟨l4', l5', l6'⟩ := hlk w5.drew rfl
   obtain ⟨m4a, m5a, m6a⟩ := hlk (w5.setCell ⟨b7, 0, none⟩ (.int .i64 n)) (f1.block mb hml hmb)
   obtain ⟨m4b, m5b, m6b⟩ := hlk (w5.setCell ⟨b7, 0, none⟩ (.int .i64 n)).drew (f1.block mb hml hmb)
   obtain ⟨m4c, m5c, m6c⟩ := hlk ((w5.setCell ⟨b7, 0, none⟩ (.int .i64 n)).setCell ⟨b7, 1, none⟩ (.int .i64 n5)) (f2.block mb hml hmb)
   obtain ⟨m4d, m5d, m6d⟩ := hlk ((w5.setCell ⟨b7, 0, none⟩ (.int .i64 n)).setCell ⟨b7, 1, none⟩ (.int .i64 n5)).drew (f2.block mb hml hmb)
   clear f1 f2 hml hmb hat_ hle hzz hsl hv4 hv5 hv6
   have HY := yyh (yyi k6 (yyi y4 (yyi m4 (yyi y7 (yyi m7 (yyi hm5 (yyi hf (yyi hn (yyi hn5 hn6)))))))))
   clear hlk hmap k6 y4 m4 y7 m7 hm5 k5 hn hn5 hn6 hf
   go_upto_region 9 with fail
   go_cut [] (fun w => w.heap[b7]? = some (.cells #[.int .i64 n, .int .i64 n5, .int .i64 n6, .slice a 0 cap, .int .i64 j] 35 (0, 0)) ∧ w.heap[b4]? = some (.cells #[.int .i64 0, .int .i64 0, .int .i64 0, .slice none 0 0, .int .i64 0] 35 (0, 0)) ∧ za7 W M s w { sj with c := S5 } (B j + 1260))
   case first =>
    have y7 : w5.drew.heap[b7]? = some (.cells #[.int .i64 0, .int .i64 0, .int .i64 0, .slice a 0 cap, .int .i64 j] 35 (0, 0)) := HY.out.2.2.2.1
    have y4 : w5.drew.heap[b4]? = some (.cells #[.int .i64 0, .int .i64 0, .int .i64 0, .slice none 0 0, .int .i64 0] 35 (0, 0)) := HY.out.2.1
    obtain ⟨q0, q1, q2, q3, q4, qz⟩ := za0 y7
    obtain ⟨-, -, -, -, -, qz'⟩ := za0 (w := w5) HY.out.2.2.2.1
    have f5 : Fr (fun k => k = b7) w5.drew (((w5.drew.setCell ⟨b7, 0, none⟩ (.int .i64 n)).setCell ⟨b7, 1, none⟩ (.int .i64 n5)).setCell ⟨b7, 2, none⟩ (.int .i64 n6)) := Fr.set (S := fun k => k = b7) (Fr.set (S := fun k => k = b7) (Fr.set (S := fun k => k = b7) (Fr.refl _ _) (p := ⟨b7, 0, none⟩) rfl _) (p := ⟨b7, 1, none⟩) rfl _) (p := ⟨b7, 2, none⟩) rfl _
    have u1 : (w5.setCell ⟨b7, 0, none⟩ (.int .i64 n)).drew.heap[b7]? = _ := zai (o := 0) y7 (.int .i64 n)
    have u2 : ((w5.setCell ⟨b7, 0, none⟩ (.int .i64 n)).setCell ⟨b7, 1, none⟩ (.int .i64 n5)).drew.heap[b7]? = _ := zai (o := 1) (zai (o := 0) y7 (.int .i64 n)) (.int .i64 n5)
    have uz1 : (w5.setCell ⟨b7, 0, none⟩ (.int .i64 n)).drew.frozen? ⟨b7, 1, none⟩ = false := za5 u1
    have uz2 : ((w5.setCell ⟨b7, 0, none⟩ (.int .i64 n)).setCell ⟨b7, 1, none⟩ (.int .i64 n5)).drew.frozen? ⟨b7, 2, none⟩ = false := za5 u2
    have v1 : (w5.setCell ⟨b7, 0, none⟩ (.int .i64 n)).drew.cell? ⟨b7, 1, none⟩ = some (.int .i64 0) := by rw [zaa u1]; rfl
    have v2 : ((w5.setCell ⟨b7, 0, none⟩ (.int .i64 n)).setCell ⟨b7, 1, none⟩ (.int .i64 n5)).drew.cell? ⟨b7, 2, none⟩ = some (.int .i64 0) := by rw [zaa u2]; rfl
    clear u1 u2
    have z7 := zai (o := 2) (zai (o := 1) (zai (o := 0) y7 (.int .i64 n)) (.int .i64 n5)) (.int .i64 n6)
    have z4 := (f5.block _ (zac y4) (fun e => HR.out.ne.2.2 e)).trans y4
    have k6 : za7 W M s w5 { sj with c := S5 } (B j + 1260) := (HR.out.st.trans (za7.below HR.out.st.at_ HX.out.1)).trans HY.out.1
    have k7 := (k6.trans (za7.below k6.at_ (zaf yyr))).box f5 y7 (by decide) HR.out.ne.2.1 HY.out.2.2.2.2.1
    have HE := yyh (yyi z7 (yyi z4 k7))
    clear y7 y4 f5 z7 z4 k6 k7
    go_region
    all_goals
     go_wp2_with fail
     go_meet
     exact ⟨HE.out.1, HE.out.2.1, HE.out.2.2⟩
   case rest =>
    obtain ⟨h7, h4, k7⟩ := hcut
    have h74 : ¬ b7 = b4 := fun e => HR.out.ne.2.2 e.symm
    have h47 : ¬ b4 = b7 := HR.out.ne.2.2
    obtain ⟨q0, q1, q2, q3, q4, qz⟩ := za0 h7
    obtain ⟨p0, p1, p2, p3, p4, pz⟩ := za0 h4
    have k8 := k7.box (zb7 _ b4 (.int .i64 n) (.int .i64 n5) (.int .i64 n6) (.slice a 0 cap) (.int .i64 j)) h4 (by decide) HR.out.ne.1 HY.out.2.2.1
    have HS4 := yyh (zbv h4 (.int .i64 n) (.int .i64 n5) (.int .i64 n6) (.slice a 0 cap) (.int .i64 j))
    have HK8 := yyh k8
    clear h7 h4 k7 k8 l4 l5 l6 l4' l5' l6' m4a m4b m4c m4d m5a m5b m5c m5d m6a m6b m6c m6d
    go_wp2_with fail
    obtain ⟨e0, e1, e2, e3, e4, -⟩ := za0 HS4.out
    refine bodyPost_ret (v := .tuple #[.agg #[.int .i64 n, .int .i64 n5, .int .i64 n6, .slice a 0 cap, .int .i64 j], .bool true]) (by simp [results, Tryz.results15, go_sem, e0, e1, e2, e3, e4]) rfl ?_
    refine ⟨sj, _, a, cap, by rw [HY.out.2.2.2.2.2.2.1, HY.out.2.2.2.2.2.2.2.1, HY.out.2.2.2.2.2.2.2.2.1, HY.out.2.2.2.2.2.2.2.2.2], HR.out.r, HK8.out, ?_⟩
    unfold MS.mm
    dsimp only
    rw [HY.out.2.2.2.2.2.1]
end
section
variable {W : World}
theorem ztu (a b c : Int) (T k C : Nat) (h1 : 1 ≤ T) (h8 : T ≤ 8) (hk : k ≤ 16) (c1 : 1 ≤ C) (c64 : C ≤ 64) (hV : ∀ W, Calls Tryz.prog 33 #[.int .i64 a, .int .i64 b, .int .i64 c] W fun e w' => e = .returned (.agg #[.int .i64 T, .int .i64 k, .int .i64 C]) ∧ Below W.heap.size W w') : Calls Tryz.prog 10 #[.int .i64 a, .int .i64 b, .int .i64 c] W fun e w' => ∃ M s, e = .returned (.pointer (some ⟨M.mp, 0, none⟩)) ∧ zaz w' M s 0 ∧ s.c.cm M.c = CM.new T k ∧ s.ws = List.replicate T wk0 ∧ s.did = [0, 0, 0, 0, 0, 0, 0] ∧ s.pk = 0 ∧ M.c.q.lp.length = T ∧ M.c.q.k = k ∧ M.c.C = C ∧ (∀ j, zdp M s j → W.heap.size ≤ j) ∧ Below W.heap.size W w' := by
 have HV := yyh (hV W)
 have HN := yyh (fun w => zzi T k C h1 h8 hk c1 c64 w)
 clear hV h1 h8 hk c1 c64
 go_enter Tryz.func10, Tryz.ntmps10
 go_wp2_with fail
 refine HV.out.mono ?_
 rintro e w1 ⟨rfl, hb1⟩
 have HB1 := yyh hb1
 clear hb1
 go_wp2_with fail
 refine (HN.out w1).mono ?_
 rintro e w2 ⟨M, s, rfl, hm, hcm, hws, hdid, hpk, hl, hk', hC, hown, hb⟩
 have HC := yyh (zec hm)
 have H2 := yyh (yyi hm (yyi hcm (yyi hws (yyi hdid (yyi hpk (yyi hl (yyi hk' (yyi hC (yyi hown hb)))))))))
 clear hm hcm hws hdid hpk hl hk' hC hown hb
 go_wp2_with fail
 refine HC.out.mono ?_
 rintro e w3 ⟨rfl, rfl⟩
 go_wp2_with fail
 refine bodyPost_ret (v := .pointer (some ⟨M.mp, 0, none⟩)) (by simp [results, Tryz.results10, go_sem]) rfl ?_
 obtain ⟨hm, hcm, hws, hdid, hpk, hl, hk', hC, hown, hb⟩ := H2.out
 exact ⟨M, s, rfl, hm, hcm, hws, hdid, hpk, hl, hk', hC, fun j hj => Nat.le_trans HB1.out.size (hown j hj), zad hb HB1.out⟩
end
def zct (l : List Ev) : List En := (l.filter fun e => e.kind == 3).map fun e => ⟨e.key, e.id⟩
theorem zhl (l : List Ev) (e : Ev) : zct (l ++ [e]) = zct l ++ (if e.kind = 3 then [⟨e.key, e.id⟩] else []) := by
 unfold zct
 rw [List.filter_append, List.map_append]
 congr 1
 by_cases h : e.kind = 3
 · simp [h]
 · simp [h]
theorem zqj {l : List Ev} {i : Nat} {e : Ev} (h : l[i]? = some e) : zct (l.take (i + 1)) = zct (l.take i) ++ (if e.kind = 3 then [⟨e.key, e.id⟩] else []) := by
 rw [List.take_add_one, h]
 exact zhl _ _
theorem zqk (l : List Ev) : (zct l).length ≤ l.length := by
 unfold zct
 rw [List.length_map]
 exact List.length_filter_le _ _
theorem zn5 (l : List Ev) : ∀ u ∈ zb9 l, u.oneCell' = true := by
 intro u hu
 unfold zb9 at hu
 obtain ⟨e, -, he⟩ := List.mem_flatMap.1 hu
 exact zjb e u he
theorem zby (l : List Ev) (i j : Nat) (e : Ev) (h : l[i]? = some e) (hj : j < 6) : (zb9 l)[i * 6 + j]? = (evC e)[j]? := by
 induction l generalizing i with
 | nil => simp at h
 | cons x l ih =>
  have hc : zb9 (x :: l) = evC x ++ zb9 l := by simp [zb9]
  rw [hc]
  cases i with
  | zero =>
   have h : x = e := by simpa using h
   subst h
   rw [List.getElem?_append_left (by show 0 * 6 + j < 6; omega)]
   congr 1
   omega
  | succ i =>
   rw [List.getElem?_append_right (by show 6 ≤ _; omega)]
   rw [← ih i (by simpa using h)]
   congr 1
   show (i + 1) * 6 + j - 6 = _
   omega
section
variable {W W' : World} {A : CA} {S S' : CS} {N N' : Nat}
theorem zgl (h : zal W A S N) (hN : S.evs.length ≤ 100000) : Calls Tryz.prog 26 #[.pointer (some ⟨A.cb, 0, none⟩)] W fun e w' => ∃ v, e = .returned v ∧ SlV w' 71 6 v S.evs.length (zb9 S.evs) ∧ Below W.heap.size W w' := by
 have HC := yyh (zud hN (SlV.of_owns h.ev) (zn5 S.evs))
 obtain ⟨-, -, -, -, -, -, -, -, -, -, -, c11⟩ := h.cells
 clear h
 go_enter Tryz.func26, Tryz.ntmps26
 go_wp2_with fail
 refine HC.out.mono ?_
 rintro e w1 ⟨v1, rfl, ho1, hb1⟩
 have HP := yyh (zwu (SlV.of_owns ho1))
 have HB := yyh hb1
 clear ho1 hb1
 go_wp2_with fail
 refine HP.out.mono ?_
 rintro e w2 ⟨v2, rfl, hv2, -, rfl⟩
 have HE := yyh hv2
 clear hv2
 go_wp2_with fail
 go_ret
 exact ⟨v2, rfl, HE.out, HB.out⟩
theorem zm3 {v : Value} {l : List Ev} (hl : l.length ≤ 100000) (h : SlV W 71 6 v l.length (zb9 l)) : Calls Tryz.prog 25 #[v] W fun e w' => ∃ v', e = .returned v' ∧ w'.ownsRow W.heap.size 63 2 v' (zct l).length (zbf (zct l)) ∧ Below W.heap.size W w' := by
 have hcell : ∃ a cap, v = .slice a l.length cap ∧ (0 < l.length → ∃ b off, a = some ⟨b, off, none⟩ ∧ ∀ i e, l[i]? = some e → ∀ j, j < 6 → W.cell? ⟨b, off + (i * 6 + j), none⟩ = (evC e)[j]?) := by
  rcases SlV.form h with ⟨rfl, h0, -⟩ | ⟨b, off, cap, rfl, h1, h2, h3, h4⟩
  · exact ⟨none, 0, by rw [h0], fun hp => by omega⟩
  ·
   refine ⟨_, _, rfl, fun _ => ⟨b, off, rfl, fun i e he j hj => ?_⟩⟩
   have hj6 : j < (evC e).length := hj
   have := zby l i j e he hj
   rw [yyg hj6] at this ⊢
   exact h4 _ _ this
 obtain ⟨a, cap, rfl, hc⟩ := hcell
 obtain ⟨n, hn⟩ := yye (l.length)
 rw [hn] at hc hl ⊢
 have HN := yyh hn
 have HC := yyh hc
 obtain ⟨i0, hi0, hz0, hz1, hz2⟩ := info_parts zjr
 clear h hc hn
 go_enter Tryz.func25, Tryz.ntmps25
 go_wp2_with fail
 go_loopg [3, 4] n (fun gg s3 s4 wr => ∃ i : Nat, i ≤ n ∧ gg = n - i ∧ s4 = .int .i64 i ∧ Aside (wr.ownsRow W.heap.size 63 2 s3 (zct (l.take i)).length (zbf (zct (l.take i))) ∧ Below W.heap.size W wr))
 case atStart => exact ⟨0, Nat.zero_le _, by omega, rfl, World.ownsRow_nil _ _ _ _, yyr⟩
 case round =>
  obtain ⟨i, hi, rfl, rfl, hR⟩ := hrel
  by_cases hlt : i < n
  ·
   have hltz : (i : Int) < (n : Int) := by omega
   obtain ⟨b, off, rfl, hce⟩ := HC.out (by omega)
   obtain ⟨e, he⟩ : ∃ e, l[i]? = some e := ⟨_, yyg (by rw [HN.out]; exact hlt)⟩
   have hct := zqj he
   have HCB := yyh (show W.cell? ⟨b, off + (i * 6 + 0), none⟩ = some (.int .i64 e.kind) from hce i e he 0 (by omega))
   have c0 : wr.cell? ⟨b, off + i * 6, none⟩ = some (.int .i64 e.kind) := zae hR.out.2 (hce i e he 0 (by omega))
   have c2 : wr.cell? ⟨b, off + i * 6 + 2, none⟩ = some (.int .i64 e.id) := zae hR.out.2 (hce i e he 2 (by omega))
   have c3 : wr.cell? ⟨b, off + i * 6 + 3, none⟩ = some (.int .u64 e.key) := zae hR.out.2 (hce i e he 3 (by omega))
   have hml : (zct (l.take i)).length ≤ 100000 := Nat.le_trans (zqk _) (by rw [List.length_take]; omega)
   obtain ⟨m, hm⟩ : ∃ m, (zct (l.take i)).length = m := ⟨_, rfl⟩
   rw [hm] at hml
   obtain ⟨kd, key, id, hek, hey, hei⟩ : ∃ kd key id, e.kind = kd ∧ e.key = key ∧ e.id = id := ⟨_, _, _, rfl, rfl, rfl⟩
   rw [hek, hey, hei] at hct
   rw [hek] at c0
   rw [hei] at c2
   rw [hey] at c3
   have hR' := hR.out
   rw [hm] at hR'
   obtain ⟨a3, k3, rfl, -⟩ := SlV.clip (SlV.of_owns hR'.1)
   have HR := yyh hR'
   have HT := yyh (yyi hct hm)
   clear hR hR' hct he hce hek hey hei hm
   by_cases h3 : kd = 3
   ·
    subst h3
    rw [if_pos rfl] at HT
    obtain ⟨W1, hW1⟩ : ∃ W1, (wr.alloc (.cells #[.int .u64 key, .int .i64 id] 63)).drew = W1 := ⟨_, rfl⟩
    have hb1 : Below wr.heap.size wr W1 := by rw [← hW1]; exact zaf (zab yyr _)
    have hO1 : W1.ownsRow W.heap.size 63 2 (.slice a3 m k3) m (zbf (zct (l.take i))) := by
     rw [← hW1]
     exact (HR.out.1.alloc _).drew
    have x1 : W1.heap[wr.heap.size]? = some (.cells #[.int .u64 key, .int .i64 id] 63 (0, 0)) := by rw [← hW1]; exact heap_alloc_new wr _
    have HNEWS := yyh (show ∀ j u, [Value.int .u64 key, .int .i64 id][j]? = some u → W1.cell? ((⟨wr.heap.size, 0, none⟩ : Addr).add j) = some u from fun j u hu => by
     rcases j with _ | _ | j
     · show W1.cell? ⟨wr.heap.size, 0 + 0, none⟩ = _
       rw [zaa x1, ← hu]
       rfl
     · show W1.cell? ⟨wr.heap.size, 0 + 1, none⟩ = _
       rw [zaa x1, ← hu]
       rfl
     · simp at hu)
    have HOWN := yyh hO1
    have HGE := yyh (show W.heap.size ≤ W1.heap.size from Nat.le_trans HR.out.2.size hb1.size)
    have HB1 := yyh (yyi hb1 hW1)
    have HKP := yyh (show ∀ w6, W1.grownBy w6 (Value.slice a3 m k3).ownBlock → w6.cell? ⟨b, off + i * 6 + 3, none⟩ = some (.int .u64 key) ∧ w6.cell? ⟨b, off + i * 6 + 2, none⟩ = some (.int .i64 id) from fun w6 hg => by
     have hlt := World.block_lt_of_cell? W _ HCB.out
     have hlt : b < W.heap.size := hlt
     have hne : some b ≠ (Value.slice a3 m k3).ownBlock := fun e => by have := (hO1.lt b e.symm).1; omega
     have hl1 : b < W1.heap.size := by have := HR.out.2.size; have := hb1.size; omega
     exact ⟨(hg.cell_far ⟨b, off + i * 6 + 3, none⟩ hl1 hne).trans (zae hb1 c3), (hg.cell_far ⟨b, off + i * 6 + 2, none⟩ hl1 hne).trans (zae hb1 c2)⟩)
    have HFIN := yyh (show ∀ v' w6, w6.ownsRow W.heap.size 63 2 v' (m + 1) (zbf (zct (l.take i)) ++ [.int .u64 key, .int .i64 id]) → W1.grownBy w6 (Value.slice a3 m k3).ownBlock → w6.ownsRow W.heap.size 63 2 v' (zct (l.take (i + 1))).length (zbf (zct (l.take (i + 1)))) ∧ Below W.heap.size W w6 from fun v' w6 hown hg => by
     refine ⟨?_, ?_⟩
     ·
      rw [HT.out.1, List.length_append, HT.out.2]
      have : zbf (zct (l.take i) ++ [⟨key, id⟩]) = zbf (zct (l.take i)) ++ [.int .u64 key, .int .i64 id] := by simp [zbf, ze2]
      rw [this]
      exact hown
     ·
      have hB : Below W.heap.size W W1 := zad hb1 HR.out.2
      refine ⟨hg.os.trans hB.os, hg.tape.trans hB.tape, hg.output.trans hB.output, Nat.le_trans hB.size hg.size, fun j hj => ?_⟩
      rw [hg.block j (Nat.lt_of_lt_of_le hj hB.size) (fun e => by have := (hO1.lt j e.symm).1; omega)]
      exact hB.block j hj)
    clear hb1 hO1 x1 hW1
    go_upto_region 6 with fail
    -- REGION 6 BEGIN
    refine wp_region_held_drew (S := fun w => w.cell? ⟨b, off + i * 6 + 3, none⟩ = some (.int .u64 key) ∧ w.cell? ⟨b, off + i * 6 + 2, none⟩ = some (.int .i64 id)) (by kernel_rfl) ⟨c3, c2⟩ (fun hH => ?_)
    refine wpAnyH_take (i := 0) (v := ?_) rfl (by kernel_rfl) (by kernel_rfl) (by kernel_rfl) (fun _ _ _ h => h) (Or.inl ⟨by rfl, ?_⟩) (by assumption) ?_
    rotate_left
    · (rintro w ⟨_, _⟩; go_simp; try with_reducible rfl)
    try simp only [Act.put, List.setIfInBounds_toArray, List.set_cons_zero, List.set_cons_succ]
    refine wpAnyH_take (i := 1) (v := ?_) rfl (by kernel_rfl) (by kernel_rfl) (by kernel_rfl) (fun _ _ _ h => h) (Or.inl ⟨by rfl, ?_⟩) (by assumption) ?_
    rotate_left
    · (rintro w ⟨_, _⟩; go_simp; try with_reducible rfl)
    try simp only [Act.put, List.setIfInBounds_toArray, List.set_cons_zero, List.set_cons_succ]
    refine wpAnyH_take (i := 2) (v := ?_) rfl (by kernel_rfl) (by kernel_rfl) (by kernel_rfl) (fun _ _ _ h => h) (Or.inl ⟨by rfl, ?_⟩) (by assumption) ?_
    rotate_left
    · (rintro w ⟨_, _⟩; go_simp; try with_reducible rfl)
    try simp only [Act.put, List.setIfInBounds_toArray, List.set_cons_zero, List.set_cons_succ]
    refine wpAnyH_take (i := 3) (v := ?_) rfl (by kernel_rfl) (by kernel_rfl) (by kernel_rfl) (fun _ _ _ h => h) (Or.inl ⟨by rfl, ?_⟩) (by assumption) ?_
    rotate_left
    · (rintro w ⟨_, _⟩; go_simp; try with_reducible rfl)
    try simp only [Act.put, List.setIfInBounds_toArray, List.set_cons_zero, List.set_cons_succ]
    refine wpAnyH_take (i := 4) (v := ?_) rfl (by kernel_rfl) (by kernel_rfl) (by kernel_rfl) (fun _ _ _ h => h) (Or.inl ⟨by rfl, ?_⟩) (by assumption) ?_
    rotate_left
    · (rintro w ⟨_, _⟩; go_simp; try with_reducible rfl)
    try simp only [Act.put, List.setIfInBounds_toArray, List.set_cons_zero, List.set_cons_succ]
    refine wpAnyH_take (i := 5) (v := ?_) rfl (by kernel_rfl) (by kernel_rfl) (by kernel_rfl) (fun _ _ _ h => h) (Or.inl ⟨by rfl, ?_⟩) (by assumption) ?_
    rotate_left
    · (rintro w ⟨_, _⟩; go_simp; try with_reducible rfl)
    try simp only [Act.put, List.setIfInBounds_toArray, List.set_cons_zero, List.set_cons_succ]
    refine wpAnyH_take (i := 6) (v := ?_) rfl (by kernel_rfl) (by kernel_rfl) (by kernel_rfl) (fun _ _ _ h => h) (Or.inl ⟨by rfl, ?_⟩) (by assumption) ?_
    rotate_left
    · (rintro w ⟨_, _⟩; go_simp; try with_reducible rfl)
    try simp only [Act.put, List.setIfInBounds_toArray, List.set_cons_zero, List.set_cons_succ]
    refine wpAnyH_take (i := 7) (v := ?_) rfl (by kernel_rfl) (by kernel_rfl) (by kernel_rfl) (fun _ _ _ h => h) (Or.inl ⟨by rfl, ?_⟩) (by assumption) ?_
    rotate_left
    · (rintro w ⟨_, _⟩; go_simp; try with_reducible rfl)
    try simp only [Act.put, List.setIfInBounds_toArray, List.set_cons_zero, List.set_cons_succ]
    refine wpAnyH_take (i := 8) (v := ?_) rfl (by kernel_rfl) (by kernel_rfl) (by kernel_rfl) (fun _ _ _ h => h) (Or.inl ⟨by rfl, ?_⟩) (by assumption) ?_
    rotate_left
    · (rintro w ⟨_, _⟩; go_simp; try with_reducible rfl)
    try simp only [Act.put, List.setIfInBounds_toArray, List.set_cons_zero, List.set_cons_succ]
    refine wpAnyH_take (i := 9) (v := ?_) rfl (by kernel_rfl) (by kernel_rfl) (by kernel_rfl) (fun _ _ _ h => h) (Or.inl ⟨by rfl, ?_⟩) (by assumption) ?_
    rotate_left
    · (rintro w ⟨_, _⟩; go_simp; try with_reducible rfl)
    try simp only [Act.put, List.setIfInBounds_toArray, List.set_cons_zero, List.set_cons_succ]
    refine wpAnyH_take (i := 10) (v := ?_) rfl (by kernel_rfl) (by kernel_rfl) (by kernel_rfl) (fun _ _ _ h => h) (Or.inl ⟨by rfl, ?_⟩) (by assumption) ?_
    rotate_left
    · (rintro w ⟨_, _⟩; go_simp; try with_reducible rfl)
    try simp only [Act.put, List.setIfInBounds_toArray, List.set_cons_zero, List.set_cons_succ]
    refine wpAnyH_take (i := 11) (v := ?_) rfl (by kernel_rfl) (by kernel_rfl) (by kernel_rfl) (fun _ _ _ h => h) (Or.inl ⟨by rfl, ?_⟩) (by assumption) ?_
    rotate_left
    · (rintro w ⟨_, _⟩; go_simp; try with_reducible rfl)
    try simp only [Act.put, List.setIfInBounds_toArray, List.set_cons_zero, List.set_cons_succ]
    refine rd 12 (by kernel_rfl) rfl (fun K hK => ?_)
    ·
     (go_simp)
     refine hK.out _ _ ?_ (fun hH => ?_)
     · (try dsimp only); (exact ⟨zae (by first | exact zab (zaf yyr) _ | exact zaf (zab yyr _)) c3, zae (by first | exact zab (zaf yyr) _ | exact zaf (zab yyr _)) c2⟩)
     clear hK K
     refine rd 13 (by kernel_rfl) rfl (fun K hK => ?_)
     ·
      ((try rw [HB1.out.2]); refine step_append_lies _ rfl (.tmp 17) (.tmp 29) 42 rfl W.heap.size 63 i0 zEn 2 16 Tryz.underlying42 hi0 hz0 hz1 hz2 rfl (by decide) _ m (zbf (zct (l.take i))) (by simp [Act.eval, Act.put]) HOWN.out ⟨wr.heap.size, 0, none⟩ 1 1 [.int .u64 key, .int .i64 id] (by simp [Act.eval, Act.put]) rfl HNEWS.out (fun u hu => by simp only [List.mem_cons, List.not_mem_nil, or_false] at hu; rcases hu with rfl | rfl <;> rfl) (by decide) (by unfold maxLen; omega) (by omega) HGE.out _ rfl ?_; intro g6 k6 w6 hown6 hg6 hat6 hlt6; have H6 := yyh (yyi hown6 hg6); clear hown6 hat6 hlt6)
      refine hK.out _ _ ?_ (fun hH => ?_)
      · (try dsimp only); (exact HKP.out _ hg6)
      clear hK K
      refine rd 14 (by kernel_rfl) rfl (fun K hK => ?_)
      ·
       (go_simp)
       refine hK.out _ _ ?_ (fun hH => ?_)
       · (try dsimp only); (exact HKP.out _ H6.out.2)
       clear hK K
       refine wpAnyH_done (by kernel_rfl) ?_ _
       go_wp2_with fail
       have HN2 := yyh (HFIN.out _ _ H6.out.1 H6.out.2)
       go_roundg (n - (i + 1))
       case measure => omega
       case rel => exact ⟨i + 1, by omega, rfl, by go_num, (show Aside _ from HN2.out)⟩
    -- REGION 6 END
   ·
    have hk : (kd == 3) = false := by rw [beq_eq_false_iff_ne]; exact h3
    rw [if_neg h3, List.append_nil] at HT
    go_wp2_with fail
    go_roundg (n - (i + 1))
    case measure => omega
    case rel => exact ⟨i + 1, by omega, rfl, by go_num, (show Aside _ from by rw [HT.out.1, HT.out.2]; exact HR.out)⟩
  ·
   obtain rfl : i = n := by omega
   have hltz : ¬ (i : Int) < (i : Int) := by omega
   have ht : l.take i = l := by rw [List.take_of_length_le (by rw [HN.out]; exact yyn)]
   have HR := yyh hR.out
   rw [ht] at HR
   clear hR
   go_wp2_with fail
   go_ret
   exact ⟨_, rfl, HR.out.1, HR.out.2⟩
end
section
variable {W : World} {v v' : Value}
theorem zf5 {t : TypeId} {k n : Nat} {F : List Value} (h : SlV W t k v n F) : ∃ a cap, v = .slice a n cap ∧ (n = 0 ∨ ∃ b off, a = some ⟨b, off, none⟩ ∧ ∀ (j : Nat) x, j < n * k → F[j]? = some x → W.cell? ⟨b, off + j, none⟩ = some x) := by
 have hh := h
 rcases h.2 with ⟨rfl, h0⟩ | ⟨b, off, cap, cur, rfl, h1, h2, hg, h3⟩
 · subst h0
   exact ⟨none, 0, rfl, .inl rfl⟩
 · exact ⟨_, cap, rfl, .inr ⟨b, off, rfl, fun j x hj hx => SlV.cell hh rfl hj hx⟩⟩
theorem zji {l : List En} (hl : l.length ≤ 100000) (h : SlV W 63 2 v l.length (zbf l)) (h' : SlV W 63 2 v' l.length (zbf l)) : Calls Tryz.prog 62 #[v, v'] W fun e w' => e = .returned (.bool true) ∧ Below W.heap.size W w' := by
 obtain ⟨a1, c1, rfl, f1⟩ := zf5 h
 obtain ⟨a2, c2, rfl, f2⟩ := zf5 h'
 obtain ⟨n, hn⟩ := yye (l.length)
 rw [hn] at f1 f2 ⊢
 have hl' : n ≤ 100000 := by rw [← hn]; exact hl
 have HF := yyh (yyi f1 (yyi f2 hn))
 clear h h' f1 f2 hn hl
 go_enter Tryz.func62, Tryz.ntmps62
 go_wp2_with fail
 go_loopg [5] n (fun gg v5 wr => ∃ i : Nat, i ≤ n ∧ gg = n - i ∧ v5 = .int .i64 i ∧ Aside (Below W.heap.size W wr))
 case atStart => exact ⟨0, by omega, by omega, rfl, yyr⟩
 case round =>
  obtain ⟨i, hi, rfl, rfl, A1⟩ := hrel
  by_cases hlt : i < n
  ·
   have hltz : (i : Int) < (n : Int) := by omega
   obtain ⟨b1, o1, rfl, g1⟩ : ∃ b off, a1 = some ⟨b, off, none⟩ ∧ ∀ (j : Nat) x, j < n * 2 → (zbf l)[j]? = some x → W.cell? ⟨b, off + j, none⟩ = some x := by
    rcases HF.out.1 with e | e
    · omega
    · exact e
   obtain ⟨b2, o2, rfl, g2⟩ : ∃ b off, a2 = some ⟨b, off, none⟩ ∧ ∀ (j : Nat) x, j < n * 2 → (zbf l)[j]? = some x → W.cell? ⟨b, off + j, none⟩ = some x := by
    rcases HF.out.2.1 with e | e
    · omega
    · exact e
   obtain ⟨e, he⟩ : ∃ e, l[i]? = some e := ⟨_, yyg (by have := HF.out.2.2; omega)⟩
   obtain ⟨z0, hz0⟩ : ∃ z, e.key = z := ⟨_, rfl⟩
   have x0 : wr.cell? ⟨b1, o1 + i * 2, none⟩ = some (.int .u64 z0) := zae A1.out (g1 (i * 2 + 0) _ (by omega) (by rw [zcz l i 0 (by decide), he, ← hz0]; rfl))
   have y0 : wr.cell? ⟨b2, o2 + i * 2, none⟩ = some (.int .u64 z0) := zae A1.out (g2 (i * 2 + 0) _ (by omega) (by rw [zcz l i 0 (by decide), he, ← hz0]; rfl))
   obtain ⟨z1, hz1⟩ : ∃ z, e.id = z := ⟨_, rfl⟩
   have x1 : wr.cell? ⟨b1, o1 + i * 2 + 1, none⟩ = some (.int .i64 z1) := zae A1.out (g1 (i * 2 + 1) _ (by omega) (by rw [zcz l i 1 (by decide), he, ← hz1]; rfl))
   have y1 : wr.cell? ⟨b2, o2 + i * 2 + 1, none⟩ = some (.int .i64 z1) := zae A1.out (g2 (i * 2 + 1) _ (by omega) (by rw [zcz l i 1 (by decide), he, ← hz1]; rfl))
   clear hz0 hz1 he g1 g2
   have hwi : IntKind.i64.wrap ((i : Int) + 1) = (i : Int) + 1 := by rw [IntKind.wrap_i64]; omega
   have hnb : (n : Int) ≤ 100000 := by omega
   have HB := yyh (zaf A1.out)
   clear A1
   go_upto_region 6 with fail
   go_still (by kernel_rfl)
   clear x0 y0 x1 y1
   go_wp2_with fail
   go_roundg (n - (i + 1))
   case measure => omega
   case rel => exact ⟨i + 1, by omega, by omega, by go_num, (show Aside _ from HB.out)⟩
  ·
   have hltz : ¬ (i : Int) < (n : Int) := by omega
   have HB := yyh A1.out
   clear A1
   go_wp2_with fail
   go_ret
   exact ⟨rfl, HB.out⟩
theorem zsp {l : List Ev} (hl : l.length ≤ 100000) (h : SlV W 71 6 v l.length (zb9 l)) (h' : SlV W 71 6 v' l.length (zb9 l)) : Calls Tryz.prog 28 #[v, v'] W fun e w' => e = .returned (.bool true) ∧ Below W.heap.size W w' := by
 obtain ⟨a1, c1, rfl, f1⟩ := zf5 h
 obtain ⟨a2, c2, rfl, f2⟩ := zf5 h'
 obtain ⟨n, hn⟩ := yye (l.length)
 rw [hn] at f1 f2 ⊢
 have hl' : n ≤ 100000 := by rw [← hn]; exact hl
 have HF := yyh (yyi f1 (yyi f2 hn))
 clear h h' f1 f2 hn hl
 go_enter Tryz.func28, Tryz.ntmps28
 go_wp2_with fail
 go_loopg [5] n (fun gg v5 wr => ∃ i : Nat, i ≤ n ∧ gg = n - i ∧ v5 = .int .i64 i ∧ Aside (Below W.heap.size W wr))
 case atStart => exact ⟨0, by omega, by omega, rfl, yyr⟩
 case round =>
  obtain ⟨i, hi, rfl, rfl, A1⟩ := hrel
  by_cases hlt : i < n
  ·
   have hltz : (i : Int) < (n : Int) := by omega
   obtain ⟨b1, o1, rfl, g1⟩ : ∃ b off, a1 = some ⟨b, off, none⟩ ∧ ∀ (j : Nat) x, j < n * 6 → (zb9 l)[j]? = some x → W.cell? ⟨b, off + j, none⟩ = some x := by
    rcases HF.out.1 with e | e
    · omega
    · exact e
   obtain ⟨b2, o2, rfl, g2⟩ : ∃ b off, a2 = some ⟨b, off, none⟩ ∧ ∀ (j : Nat) x, j < n * 6 → (zb9 l)[j]? = some x → W.cell? ⟨b, off + j, none⟩ = some x := by
    rcases HF.out.2.1 with e | e
    · omega
    · exact e
   obtain ⟨e, he⟩ : ∃ e, l[i]? = some e := ⟨_, yyg (by have := HF.out.2.2; omega)⟩
   obtain ⟨z0, hz0⟩ : ∃ z, e.kind = z := ⟨_, rfl⟩
   have x0 : wr.cell? ⟨b1, o1 + i * 6, none⟩ = some (.int .i64 z0) := zae A1.out (g1 (i * 6 + 0) _ (by omega) (by rw [zby l i 0 e he (by decide), ← hz0]; rfl))
   have y0 : wr.cell? ⟨b2, o2 + i * 6, none⟩ = some (.int .i64 z0) := zae A1.out (g2 (i * 6 + 0) _ (by omega) (by rw [zby l i 0 e he (by decide), ← hz0]; rfl))
   obtain ⟨z1, hz1⟩ : ∃ z, e.T = z := ⟨_, rfl⟩
   have x1 : wr.cell? ⟨b1, o1 + i * 6 + 1, none⟩ = some (.int .i64 z1) := zae A1.out (g1 (i * 6 + 1) _ (by omega) (by rw [zby l i 1 e he (by decide), ← hz1]; rfl))
   have y1 : wr.cell? ⟨b2, o2 + i * 6 + 1, none⟩ = some (.int .i64 z1) := zae A1.out (g2 (i * 6 + 1) _ (by omega) (by rw [zby l i 1 e he (by decide), ← hz1]; rfl))
   obtain ⟨z2, hz2⟩ : ∃ z, e.id = z := ⟨_, rfl⟩
   have x2 : wr.cell? ⟨b1, o1 + i * 6 + 2, none⟩ = some (.int .i64 z2) := zae A1.out (g1 (i * 6 + 2) _ (by omega) (by rw [zby l i 2 e he (by decide), ← hz2]; rfl))
   have y2 : wr.cell? ⟨b2, o2 + i * 6 + 2, none⟩ = some (.int .i64 z2) := zae A1.out (g2 (i * 6 + 2) _ (by omega) (by rw [zby l i 2 e he (by decide), ← hz2]; rfl))
   obtain ⟨z3, hz3⟩ : ∃ z, e.key = z := ⟨_, rfl⟩
   have x3 : wr.cell? ⟨b1, o1 + i * 6 + 3, none⟩ = some (.int .u64 z3) := zae A1.out (g1 (i * 6 + 3) _ (by omega) (by rw [zby l i 3 e he (by decide), ← hz3]; rfl))
   have y3 : wr.cell? ⟨b2, o2 + i * 6 + 3, none⟩ = some (.int .u64 z3) := zae A1.out (g2 (i * 6 + 3) _ (by omega) (by rw [zby l i 3 e he (by decide), ← hz3]; rfl))
   obtain ⟨z4, hz4⟩ : ∃ z, e.tick = z := ⟨_, rfl⟩
   have x4 : wr.cell? ⟨b1, o1 + i * 6 + 4, none⟩ = some (.int .u64 z4) := zae A1.out (g1 (i * 6 + 4) _ (by omega) (by rw [zby l i 4 e he (by decide), ← hz4]; rfl))
   have y4 : wr.cell? ⟨b2, o2 + i * 6 + 4, none⟩ = some (.int .u64 z4) := zae A1.out (g2 (i * 6 + 4) _ (by omega) (by rw [zby l i 4 e he (by decide), ← hz4]; rfl))
   have x5 : wr.cell? ⟨b1, o1 + i * 6 + 5, none⟩ = some (.int .u64 0) := zae A1.out (g1 (i * 6 + 5) _ (by omega) (by rw [zby l i 5 e he (by decide)]; rfl))
   have y5 : wr.cell? ⟨b2, o2 + i * 6 + 5, none⟩ = some (.int .u64 0) := zae A1.out (g2 (i * 6 + 5) _ (by omega) (by rw [zby l i 5 e he (by decide)]; rfl))
   clear hz0 hz1 hz2 hz3 hz4 he g1 g2
   have hwi : IntKind.i64.wrap ((i : Int) + 1) = (i : Int) + 1 := by rw [IntKind.wrap_i64]; omega
   have hnb : (n : Int) ≤ 100000 := by omega
   have HB := yyh (zaf A1.out)
   clear A1
   go_upto_region 6 with fail
   go_still (by kernel_rfl)
   clear x0 y0 x1 y1 x2 y2 x3 y3 x4 y4 x5 y5
   go_wp2_with fail
   go_roundg (n - (i + 1))
   case measure => omega
   case rel => exact ⟨i + 1, by omega, by omega, by go_num, (show Aside _ from HB.out)⟩
  ·
   have hltz : ¬ (i : Int) < (n : Int) := by omega
   have HB := yyh A1.out
   clear A1
   go_wp2_with fail
   go_ret
   exact ⟨rfl, HB.out⟩
end
section
variable {W : World} {v : Value}
theorem zzk {l : List En} (hl : l.length ≤ 100000) (h : SlV W 63 2 v l.length (zbf l)) (id : Int) (hin : ∃ e ∈ l, e.id = id) : Calls Tryz.prog 30 #[v, .int .i64 id] W fun e w' => e = .returned (.bool true) ∧ w' = W := by
 obtain ⟨a1, c1, rfl, f1⟩ := zf5 h
 obtain ⟨n, hn⟩ := yye (l.length)
 rw [hn] at f1 ⊢
 have hl' : n ≤ 100000 := by rw [← hn]; exact hl
 have HF := yyh (yyi f1 (yyi hn hin))
 clear h f1 hn hl hin
 go_enter Tryz.func30, Tryz.ntmps30
 go_wp2_with fail
 go_loopg [5] n (fun gg v5 wr => ∃ i : Nat, i ≤ n ∧ gg = n - i ∧ v5 = .int .i64 i ∧ W = wr ∧ Aside (∀ (j : Nat) e, j < i → l[j]? = some e → e.id ≠ id))
 case atStart => exact ⟨0, by omega, by omega, rfl, rfl, fun j e hj => (by omega)⟩
 case round =>
  obtain ⟨i, hi, rfl, rfl, rfl, A1⟩ := hrel
  by_cases hlt : i < n
  ·
   have hltz : (i : Int) < (n : Int) := by omega
   obtain ⟨b1, o1, rfl, g1⟩ : ∃ b off, a1 = some ⟨b, off, none⟩ ∧ ∀ (j : Nat) x, j < n * 2 → (zbf l)[j]? = some x → W.cell? ⟨b, off + j, none⟩ = some x := by
    rcases HF.out.1 with e | e
    · omega
    · exact e
   obtain ⟨e, he⟩ : ∃ e, l[i]? = some e := ⟨_, yyg (by have := HF.out.2.1; omega)⟩
   obtain ⟨z, hz⟩ := yye (e.id)
   have x1 : W.cell? ⟨b1, o1 + i * 2 + 1, none⟩ = some (.int .i64 z) := g1 (i * 2 + 1) _ (by omega) (by rw [zcz l i 1 (by decide), he, ← hz]; rfl)
   have hwi : IntKind.i64.wrap ((i : Int) + 1) = (i : Int) + 1 := by rw [IntKind.wrap_i64]; omega
   have hnb : (n : Int) ≤ 100000 := by omega
   have HE := yyh (yyi he hz)
   clear g1 he hz
   by_cases hzi : z = id
   ·
    subst hzi
    go_wp2_with fail
    go_ret
    exact ⟨rfl, rfl⟩
   ·
    have hb : (z == id) = false := by simpa using hzi
    have HN := yyh (show ∀ (j : Nat) e, j < i + 1 → l[j]? = some e → e.id ≠ id from fun j e hj hx => by
     by_cases c : j = i
     ·
      subst c
      rw [HE.out.1] at hx
      injection hx with hx
      rw [← hx, HE.out.2]
      exact hzi
     · exact A1.out j e (by omega) hx)
    clear A1
    go_wp2_with fail
    go_roundg (n - (i + 1))
    case measure => omega
    case rel => exact ⟨i + 1, by omega, by omega, by go_num, rfl, (show Aside _ from HN.out)⟩
  ·
   exfalso
   obtain ⟨-, hn, e, he, hid⟩ := HF.out
   obtain ⟨j, hj, rfl⟩ := List.getElem_of_mem he
   exact A1.out j _ (by omega) (yyg hj) hid
end
end Go.Proofs.YtcfhkbcllijnkaaGreat
