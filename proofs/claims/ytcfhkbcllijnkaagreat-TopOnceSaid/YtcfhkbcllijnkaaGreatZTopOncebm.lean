/- Parts of the proof of TopOnce, under no condition. -/
import Derived.Test.YtcfhkbcllijnkaaGreatZTopOncebi
import Derived.Test.YtcfhkbcllijnkaaGreatZTopOncebg
set_option linter.unusedVariables false
set_option linter.unusedSimpArgs false
set_option maxRecDepth 100000
set_option maxHeartbeats 0
namespace Go.Proofs.YtcfhkbcllijnkaaGreat
open Go.RowKit Go.Maps Go.Shelf Go.Proofs.YtcfhkbcllijnkaaGreatW.PrintWords
structure TA where
 t : Nat
 a : Nat
 b : Nat
 g : Nat
 mb : Nat
 base : Nat
structure TS where
 ws : List Int
 B : Int
 rv : Value
 rows : List (Int × Tk)
 bo : Nat → Prop
def zfi (rows : List (Int × Tk)) (s p : Int) : Int := ((rows.filter fun x => x.1 == s && x.2.pr == p).length : Int)
def TWr (A : TA) (S : TS) (j : Nat) : Prop := j = A.t ∨ j = A.a ∨ j = A.b ∨ j = A.g ∨ j = A.mb ∨ S.rv.ownBlock = some j
def tOS (A : TA) (S : TS) : OS := ⟨TWr A S, fun j => TWr A S j ∨ S.bo j⟩
structure zbx (W : World) (A : TA) (S : TS) : Prop where
 tb : ∃ R, zbz W A.t A.a A.b A.g A.mb S.ws S.B S.rv S.rows.length R (zfi S.rows) A.base ∧ ∀ (k : Nat) (x : Int × Tk), S.rows[k]? = some x → ∃ bv, zht R k x.2 bv ∧ zd4 W bv x.2.L ∧ ∀ c, bv.ownBlock = some c → S.bo c
 len : S.ws.length = 200 ∧ S.rows.length ≤ 200
 st : ∀ (k : Nat) (x : Int × Tk), S.rows[k]? = some x → S.ws.getD k 0 % 8 = x.1 ∧ 1 ≤ x.1 ∧ x.1 ≤ 6 ∧ x.2.p = 0 ∧ 0 ≤ x.2.pr ∧ x.2.pr ≤ 7 ∧ x.2.L.length ≤ 16
 fr : ∀ j, S.rows.length ≤ j → S.ws.getD j 0 % 8 = 0
 ba : A.base ≤ W.heap.size
 bo : ∀ c, S.bo c → c < W.heap.size ∧ ¬ TWr A S c
theorem zcn {α : Type} {l m : List α} {i : Nat} {x : α} (h : l[i]? = some x) : (l ++ m)[i]? = some x := by
 rw [List.getElem?_append_left (yyk.1 h).1]
 exact h
theorem zap {α : Type} {l : List α} {i j : Nat} {x v : α} (h : l[i]? = some x) (hn : j ≠ i) : (l.set j v)[i]? = some x := by
 rw [List.getElem?_set_ne hn]
 exact h
theorem zea {α : Type} {l : List α} {i : Nat} {v : α} (h : i < l.length) : (l.set i v)[i]? = some v := by
 rw [List.getElem?_set]
 simp [h]
section
variable {R : List Value} {k : Nat} {T : Tk} {bv : Value}
theorem zht.app (h : zht R k T bv) (L : List Value) : zht (R ++ L) k T bv := by
 obtain ⟨⟨a0, a1, a2, a3, a4, a5, a6⟩, a7, b0, b1, b2, b3, b4⟩ := h
 exact ⟨⟨zcn a0, zcn a1, zcn a2, zcn a3, zcn a4, zcn a5, zcn a6⟩, zcn a7, zcn b0, zcn b1, zcn b2, zcn b3, zcn b4⟩
theorem zht.other (h : zht R k T bv) {j i : Nat} (hj : j ≠ k) (hi : i < 13) (v : Value) : zht (R.set (j * 13 + i) v) k T bv := by
 obtain ⟨⟨a0, a1, a2, a3, a4, a5, a6⟩, a7, b0, b1, b2, b3, b4⟩ := h
 have hne : ∀ i', i' < 13 → j * 13 + i ≠ k * 13 + i' := fun i' h => by omega
 exact ⟨⟨zap a0 (hne 0 (by omega)), zap a1 (hne 1 (by omega)), zap a2 (hne 2 (by omega)), zap a3 (hne 3 (by omega)), zap a4 (hne 4 (by omega)), zap a5 (hne 5 (by omega)), zap a6 (hne 6 (by omega))⟩, zap a7 (hne 7 (by omega)), zap b0 (hne 8 (by omega)), zap b1 (hne 9 (by omega)), zap b2 (hne 10 (by omega)), zap b3 (hne 11 (by omega)), zap b4 (hne 12 (by omega))⟩
theorem zht.setKe (h : zht R k T bv) (v : Int) : zht (R.set (k * 13 + 4) (.int .u64 v)) k { T with ke := v } bv := by
 obtain ⟨⟨a0, a1, a2, a3, a4, a5, a6⟩, a7, b0, b1, b2, b3, b4⟩ := h
 exact ⟨⟨zap a0 (by omega), zap a1 (by omega), zap a2 (by omega), zap a3 (by omega), zea (yyk.1 a4).1, zap a5 (by omega), zap a6 (by omega)⟩, zap a7 (by omega), zap b0 (by omega), zap b1 (by omega), zap b2 (by omega), zap b3 (by omega), zap b4 (by omega)⟩
theorem zht.setRu (h : zht R k T bv) (v : Int) : zht (R.set (k * 13 + 5) (.int .u64 v)) k { T with ru := v } bv := by
 obtain ⟨⟨a0, a1, a2, a3, a4, a5, a6⟩, a7, b0, b1, b2, b3, b4⟩ := h
 exact ⟨⟨zap a0 (by omega), zap a1 (by omega), zap a2 (by omega), zap a3 (by omega), zap a4 (by omega), zea (yyk.1 a5).1, zap a6 (by omega)⟩, zap a7 (by omega), zap b0 (by omega), zap b1 (by omega), zap b2 (by omega), zap b3 (by omega), zap b4 (by omega)⟩
theorem zht.new (hl : R.length = k * 13) (PR d f p r m : Int) (L : List Op3) : zht (R ++ zky ((k : Int) + 1) PR d f p r m bv) k ⟨PR, d, 0, 0, f, p, d, r, m, L⟩ bv := by
 have h : ∀ i, (R ++ zky ((k : Int) + 1) PR d f p r m bv)[k * 13 + i]? = (zky ((k : Int) + 1) PR d f p r m bv)[i]? := fun i => by
  rw [List.getElem?_append_right (by omega), hl]
  congr 1
  omega
 exact ⟨⟨h 0, h 1, h 2, h 3, h 4, h 5, h 6⟩, h 7, h 8, h 9, h 10, h 11, h 12⟩
end
theorem zpr {α : Type} (f : α → Bool) {l : List α} {k : Nat} {x : α} (y : α) (h : l[k]? = some x) : (((l.set k y).filter f).length : Int) = ((l.filter f).length : Int) - (if f x then 1 else 0) + (if f y then 1 else 0) := by
 induction l generalizing k with
 | nil => cases h
 | cons a l ih =>
  cases k with
  | zero =>
   have e : a = x := by simpa using h
   subst e
   simp only [List.set_cons_zero, List.filter_cons]
   cases f a <;> cases f y <;> simp <;> omega
  | succ k =>
   have := ih (k := k) (by simpa using h)
   simp only [List.set_cons_succ, List.filter_cons]
   cases f a <;> simp <;> omega
theorem zsb {rows : List (Int × Tk)} {k : Nat} {x : Int × Tk} (s : Int) (T : Tk) (h : rows[k]? = some x) (hp : T.pr = x.2.pr) : zfi (rows.set k (s, T)) = zrh (zfi rows) x.1 s x.2.pr := by
 funext a b
 unfold zrh zkw
 have e : ∀ a b, zfi (rows.set k (s, T)) a b = zfi rows a b - (if (x.1 == a && x.2.pr == b) = true then 1 else 0) + (if (s == a && T.pr == b) = true then 1 else 0) := fun a b => zpr _ _ h
 rw [e, hp]
 simp only [Bool.and_eq_true, beq_iff_eq]
 by_cases h1 : a = s <;> by_cases h2 : b = x.2.pr <;> by_cases h3 : a = x.1 <;> by_cases h4 : x.1 = s <;> simp_all <;> omega
theorem zps (rows : List (Int × Tk)) (s : Int) (T : Tk) : zfi (rows ++ [(s, T)]) = zkw (zfi rows) s T.pr (zfi rows s T.pr + 1) := by
 funext a b
 unfold zkw zfi
 rw [List.filter_append, List.length_append]
 by_cases h1 : a = s <;> by_cases h2 : b = T.pr
 · subst h1 h2
   simp
 · rw [if_neg (fun h => h2 h.2)]
   have : (T.pr == b) = false := by simpa using fun h => h2 h.symm
   simp [this]
 · rw [if_neg (fun h => h1 h.1)]
   have : (s == a) = false := by simpa using fun h => h1 h.symm
   simp [this]
 · rw [if_neg (fun h => h1 h.1)]
   have : (s == a) = false := by simpa using fun h => h1 h.symm
   simp [this]
theorem zls (rows : List (Int × Tk)) (h : rows.length ≤ 200) (a b : Int) : 0 ≤ zfi rows a b ∧ zfi rows a b ≤ 1000000 := by
 unfold zfi
 have := List.length_filter_le (fun x : Int × Tk => x.1 == a && x.2.pr == b) rows
 omega
def zhv (rows : List (Int × Tk)) (s : Int) : Int := ((rows.filter fun x => x.1 == s).length : Int)
theorem zsc (rows : List (Int × Tk)) (s : Int) (h : ∀ x ∈ rows, 0 ≤ x.2.pr ∧ x.2.pr ≤ 7) : znj (zfi rows) s 8 = zhv rows s := by
 induction rows with
 | nil => simp [znj, zfi, zhv]
 | cons x l ih =>
  have ih := ih (fun y hy => h y (List.mem_cons_of_mem _ hy))
  have hx := h x (List.mem_cons_self ..)
  have e : ∀ a b, zfi (x :: l) a b = zfi l a b + (if (x.1 == a && x.2.pr == b) = true then 1 else 0) := fun a b => by
   unfold zfi
   rw [List.filter_cons]
   split <;> simp <;> omega
  have e2 : zhv (x :: l) s = zhv l s + (if (x.1 == s) = true then 1 else 0) := by
   unfold zhv
   rw [List.filter_cons]
   split <;> simp <;> omega
  rw [e2, ← ih]
  simp only [znj, e]
  cases hs : (x.1 == s) with
  | false => simp
  | true =>
   obtain h0 | h0 | h0 | h0 | h0 | h0 | h0 | h0 : x.2.pr = 0 ∨ x.2.pr = 1 ∨ x.2.pr = 2 ∨ x.2.pr = 3 ∨ x.2.pr = 4 ∨ x.2.pr = 5 ∨ x.2.pr = 6 ∨ x.2.pr = 7 := by omega
   all_goals (rw [h0]; simp; omega)
section
variable {W W' : World} {A : TA} {S : TS}
theorem zbx.rvf (h : zbx W A S) : (S.rv = .slice none 0 0 ∧ S.rows.length = 0) ∨ ∃ q cap, S.rv = .slice (some ⟨q, 0, none⟩) S.rows.length cap ∧ A.base ≤ q := by
 obtain ⟨R, hT, -⟩ := h.tb
 rcases hT.rows.2 with h1 | ⟨q, cap, cur, h1, h2, -⟩
 · exact .inl h1
 · exact .inr ⟨q, cap, h1, h2⟩
theorem zbx.lt (h : zbx W A S) {j : Nat} (hj : (tOS A S).own j) : j < W.heap.size := by
 obtain ⟨R, hT, -⟩ := h.tb
 obtain ⟨l1, l2, l3, l4, l5⟩ := hT.lt
 have hb := h.ba
 rcases hj with (rfl | rfl | rfl | rfl | rfl | hj) | hj
 · omega
 · omega
 · omega
 · omega
 · omega
 · obtain ⟨cur, hc⟩ := zba hT.rows hj
   exact zac hc
 · exact (h.bo _ hj).1
theorem zbx.noE (h : zbx W A S) : NoE W (tOS A S).wr := by
 obtain ⟨R, hT, -⟩ := h.tb
 obtain ⟨st, wi, at_, kd, hM, -⟩ := hT.ar.mem
 obtain ⟨f, ⟨es, ck, h1, -⟩, -⟩ := hT.map
 refine NoE.of fun j hj => ?_
 rcases hj with rfl | rfl | rfl | rfl | rfl | hj
 · exact ⟨_, hT.hdr, zbe⟩
 · exact ⟨_, hT.ar.hdr, zbe⟩
 · exact ⟨_, hM.hdr, zbe⟩
 · exact ⟨_, hM.row, zbe⟩
 · exact ⟨_, h1, zf3⟩
 · obtain ⟨cur, hc⟩ := zba hT.rows hj
   exact ⟨_, hc, zbe⟩
theorem zbx.frE {Z : Nat → Prop} (h : zbx W A S) (f : Fr Z W W') (hn : ∀ j, (tOS A S).own j → ¬ Z j) : zbx W' A S := by
 obtain ⟨R, hT, hR⟩ := h.tb
 refine ⟨⟨R, hT.frAll f (fun x hx => hn x (.inl ?_)), fun k x hx => ?_⟩, h.len, h.st, h.fr, Nat.le_trans h.ba f.size, fun c hc => ⟨Nat.lt_of_lt_of_le (h.bo c hc).1 f.size, (h.bo c hc).2⟩⟩
 ·
  rcases hx with hx | hx | hx | hx | hx | hx
  · exact .inl hx
  · exact .inr (.inl hx)
  · exact .inr (.inr (.inl hx))
  · exact .inr (.inr (.inr (.inl hx)))
  · exact .inr (.inr (.inr (.inr (.inl hx))))
  · exact .inr (.inr (.inr (.inr (.inr hx))))
 · obtain ⟨bv, h1, h2, h3⟩ := hR k x hx
   exact ⟨bv, h1, h2.fr f (fun c hc => hn c (.inr (h3 c hc))), h3⟩
theorem zbx.below (h : zbx W A S) (hb : Below W.heap.size W W') : zbx W' A S := h.frE (Fr.of_below (S := fun _ => False) hb) (fun _ _ h => h)
def PT.tab (A : TA) (S : TS) : PT := ⟨fun W => zbx W A S, tOS A S, fun j h => .inl h, fun h hj => h.lt hj, fun h => h.noE, fun h f _ hd => h.frE f hd⟩
end
section
variable {W W' : World} {A : TA} {S : TS}
theorem zbx.to (h : zbx W A S) {S' : TS} {Z : Nat → Prop} (f : Fr Z W W') (hZ : ∀ j, Z j → TWr A S j) (hrv : S'.rv = S.rv) (hbo : S'.bo = S.bo) {R' : List Value} (hT : zbz W' A.t A.a A.b A.g A.mb S'.ws S'.B S'.rv S'.rows.length R' (zfi S'.rows) A.base)
 (hR : ∀ (k : Nat) (x : Int × Tk), S'.rows[k]? = some x → ∃ bv, zht R' k x.2 bv ∧ zd4 W bv x.2.L ∧ ∀ c, bv.ownBlock = some c → S.bo c) (hl : S'.ws.length = 200 ∧ S'.rows.length ≤ 200)
 (hst : ∀ (k : Nat) (x : Int × Tk), S'.rows[k]? = some x → S'.ws.getD k 0 % 8 = x.1 ∧ 1 ≤ x.1 ∧ x.1 ≤ 6 ∧ x.2.p = 0 ∧ 0 ≤ x.2.pr ∧ x.2.pr ≤ 7 ∧ x.2.L.length ≤ 16) (hfr : ∀ j, S'.rows.length ≤ j → S'.ws.getD j 0 % 8 = 0) : zbx W' A S' ∧ zb2 W (tOS A S) W' (tOS A S') := by
 have f' : Fr (TWr A S) W W' := f.mono hZ
 have ew : ∀ j, TWr A S' j ↔ TWr A S j := fun j => by unfold TWr; rw [hrv]
 refine ⟨⟨⟨R', hT, fun k x hx => ?_⟩, hl, hst, hfr, Nat.le_trans h.ba f.size, fun c hc => ?_⟩, ⟨f', fun j hj => .inl ((ew j).1 hj), fun j hj => .inl ?_⟩⟩
 · obtain ⟨bv, h1, h2, h3⟩ := hR k x hx
   exact ⟨bv, h1, h2.fr f' (fun c hc => (h.bo c (h3 c hc)).2), fun c hc => by rw [hbo]; exact h3 c hc⟩
 · rw [hbo] at hc
   exact ⟨Nat.lt_of_lt_of_le (h.bo c hc).1 f.size, fun e => (h.bo c hc).2 ((ew c).1 e)⟩
 ·
  rcases hj with hj | hj
  · exact .inl ((ew j).1 hj)
  · rw [hbo] at hj
    exact .inr hj
theorem zbx.row (h : zbx W A S) {k : Nat} {x : Int × Tk} (hx : S.rows[k]? = some x) : k < S.rows.length ∧ ∃ q cap R, S.rv = .slice (some ⟨q, 0, none⟩) S.rows.length cap ∧ zbz W A.t A.a A.b A.g A.mb S.ws S.B (.slice (some ⟨q, 0, none⟩) S.rows.length cap) S.rows.length R (zfi S.rows) A.base ∧ (∀ (k : Nat) (x : Int × Tk), S.rows[k]? = some x → ∃ bv, zht R k x.2 bv ∧ zd4 W bv x.2.L ∧ ∀ c, bv.ownBlock = some c → S.bo c) := by
 have hk : k < S.rows.length := (yyk.1 hx).1
 obtain ⟨R, hT, hR⟩ := h.tb
 rcases h.rvf with ⟨-, h0⟩ | ⟨q, cap, hq, -⟩
 · omega
 · exact ⟨hk, q, cap, R, hq, by rw [← hq]; exact hT, hR⟩
theorem zfj {b g : Nat} (hb : A.b = b) (hg : A.g = g) : ∀ j, zb5 b g j → TWr A S j := fun j hj => by
 rcases hj with hj | hj
 · exact .inr (.inr (.inl (by rw [hb]; exact hj)))
 · exact .inr (.inr (.inr (.inl (by rw [hg]; exact hj))))
theorem zsd {q cap : Nat} (hq : S.rv = .slice (some ⟨q, 0, none⟩) S.rows.length cap) : ∀ j, zwz A.b A.g A.mb q j → TWr A S j := fun j hj => by
 rcases hj with hj | hj | hj
 · exact zfj rfl rfl j hj
 · exact .inr (.inr (.inr (.inr (.inl hj))))
 · refine .inr (.inr (.inr (.inr (.inr ?_))))
   rw [hq, hj]
   rfl
def Tk.ran (T : Tk) : Tk := { T with ru := IntKind.u64.wrap (T.ru + 1) }
theorem zhd {l : List Int} {k : Nat} (v : Int) (h : k < l.length) : (l.set k v).getD k 0 = v := by rw [yyd, zea h]; rfl
theorem zd0 {l : List Int} {k j : Nat} (v : Int) (h : k ≠ j) : (l.set k v).getD j 0 = l.getD j 0 := by rw [yyd, List.getElem?_set_ne h, yyd]
theorem zmw (h : zbx W A S) (hB : S.B ≤ 700000000) (k : Nat) (x : Int × Tk) (hx : S.rows[k]? = some x) (s : Int) (s0 : 1 ≤ s) (s1 : s ≤ 6) (hcan : canB x.1 s = true) : Calls Tryz.prog 100 #[.pointer (some ⟨A.t, 0, none⟩), .int .i64 ((k : Int) + 1), .int .i64 s] W fun e w' => e = .returned (.int .i64 0) ∧ ∃ S', zbx w' A S' ∧ zb2 W (tOS A S) w' (tOS A S') ∧ S'.rows = S.rows.set k (s, if s = 4 ∨ s = 5 then x.2.ran else x.2) ∧ S'.B = S.B + 2 := by
 obtain ⟨hk, q, cap, R, hq, hT, hR⟩ := h.row hx
 obtain ⟨hs1, hs2, hs3, hs4, hs5, hs6, hs7⟩ := h.st k x hx
 obtain ⟨bv, hrow, hops, hbo⟩ := hR k x hx
 have hn := h.len.2
 have hw := h.len.1
 refine (zri hT (by omega) k hk (by omega) (by omega) s s0 s1 (by rw [hs1]; exact hcan) (zls _ hn) x.2.pr x.2.ru hs5 hs6 hrow.1.2.1 hrow.1.2.2.2.2.2.1).mono ?_
 rintro e w' ⟨rfl, hT', hF⟩
 refine ⟨rfl, { S with ws := S.ws.set k (zcu (S.ws.getD k 0) s), B := S.B + 2, rows := S.rows.set k (s, if s = 4 ∨ s = 5 then x.2.ran else x.2) }, ?_⟩
 have hpr : (if s = 4 ∨ s = 5 then x.2.ran else x.2).pr = x.2.pr := by split <;> rfl
 have hT2 : zbz w' A.t A.a A.b A.g A.mb (S.ws.set k (zcu (S.ws.getD k 0) s)) (S.B + 2) S.rv (S.rows.set k (s, if s = 4 ∨ s = 5 then x.2.ran else x.2)).length (if s = 4 ∨ s = 5 then R.set (k * 13 + 5) (.int .u64 (IntKind.u64.wrap (x.2.ru + 1))) else R) (zfi (S.rows.set k (s, if s = 4 ∨ s = 5 then x.2.ran else x.2))) A.base := by
  rw [zsb s _ hx hpr, List.length_set, hq, ← hs1]
  exact hT'
 refine (fun q : zbx w' A { S with ws := S.ws.set k (zcu (S.ws.getD k 0) s), B := S.B + 2, rows := S.rows.set k (s, if s = 4 ∨ s = 5 then x.2.ran else x.2) } ∧ zb2 W (tOS A S) w' (tOS A { S with ws := S.ws.set k (zcu (S.ws.getD k 0) s), B := S.B + 2, rows := S.rows.set k (s, if s = 4 ∨ s = 5 then x.2.ran else x.2) }) => ⟨q.1, q.2, rfl, rfl⟩) ?_
 refine h.to (S' := { S with ws := S.ws.set k (zcu (S.ws.getD k 0) s), B := S.B + 2, rows := S.rows.set k (s, if s = 4 ∨ s = 5 then x.2.ran else x.2) }) hF (zsd hq) rfl rfl hT2 (fun j y hy => ?_) ⟨by rw [List.length_set]; exact hw, by rw [List.length_set]; exact hn⟩ (fun j y hy => ?_) (fun j hj => ?_)
 ·
  have hy : (S.rows.set k (s, if s = 4 ∨ s = 5 then x.2.ran else x.2))[j]? = some y := hy
  by_cases e : k = j
  ·
   subst e
   rw [zea hk] at hy
   injection hy with hy
   subst hy
   refine ⟨bv, ?_, ?_, hbo⟩
   ·
    dsimp only
    split
    · exact hrow.setRu _
    · exact hrow
   · have : (if s = 4 ∨ s = 5 then x.2.ran else x.2).L = x.2.L := by split <;> rfl
     rw [this]
     exact hops
  ·
   rw [List.getElem?_set_ne e] at hy
   obtain ⟨bv', h1, h2, h3⟩ := hR j y hy
   refine ⟨bv', ?_, h2, h3⟩
   split
   · exact h1.other e (by omega) _
   · exact h1
 ·
  have hy : (S.rows.set k (s, if s = 4 ∨ s = 5 then x.2.ran else x.2))[j]? = some y := hy
  show (S.ws.set k (zcu (S.ws.getD k 0) s)).getD j 0 % 8 = _ ∧ _
  by_cases e : k = j
  ·
   subst e
   rw [zea hk] at hy
   injection hy with hy
   subst hy
   rw [zhd _ (by omega), zme _ _ (by omega) (by omega)]
   refine ⟨rfl, s0, s1, ?_⟩
   dsimp only
   split <;> exact ⟨hs4, hs5, hs6, hs7⟩
  · rw [List.getElem?_set_ne e] at hy
    rw [zd0 _ e]
    exact h.st j y hy
 ·
  show (S.ws.set k (zcu (S.ws.getD k 0) s)).getD j 0 % 8 = 0
  have hj : (S.rows.set k (s, if s = 4 ∨ s = 5 then x.2.ran else x.2)).length ≤ j := hj
  rw [List.length_set] at hj
  rw [zd0 _ (by omega)]
  exact h.fr j hj
theorem zzb (h : zbx W A S) (k : Nat) (x : Int × Tk) (hx : S.rows[k]? = some x) (key : Int) : Calls Tryz.prog 77 #[.pointer (some ⟨A.t, 0, none⟩), .int .i64 ((k : Int) + 1), .int .u64 key] W fun e w' => e = .returned (.int .i64 0) ∧ ∃ S', zbx w' A S' ∧ zb2 W (tOS A S) w' (tOS A S') ∧ S'.rows = S.rows.set k (x.1, { x.2 with ke := key }) ∧ S'.B = S.B := by
 obtain ⟨hk, q, cap, R, hq, hT, hR⟩ := h.row hx
 obtain ⟨hs1, hs2, hs3, hs4, hs5, hs6, hs7⟩ := h.st k x hx
 obtain ⟨bv, hrow, hops, hbo⟩ := hR k x hx
 have hn := h.len.2
 have hw := h.len.1
 refine (zva hT ((k : Int) + 1) k rfl hk (by omega) x.2.ke key hrow.1.2.2.2.2.1).mono ?_
 rintro e w' ⟨rfl, rfl⟩
 have hT' := hT.rset (k * 13 + 4) (.int .u64 key)
 have hF : Fr (fun j => j = q) W (W.setCell ⟨q, k * 13 + 4, none⟩ (.int .u64 key)) := Fr.set (S := fun j => j = q) (Fr.refl _ _) (p := ⟨q, k * 13 + 4, none⟩) rfl _
 refine ⟨rfl, { S with rows := S.rows.set k (x.1, { x.2 with ke := key }) }, ?_⟩
 have hC : zfi (S.rows.set k (x.1, { x.2 with ke := key })) = zfi S.rows := by
  funext a b
  have := zpr (fun y : Int × Tk => y.1 == a && y.2.pr == b) (x.1, { x.2 with ke := key }) hx
  unfold zfi
  rw [this]
  dsimp only
  omega
 refine (fun q : zbx (W.setCell ⟨q, k * 13 + 4, none⟩ (.int .u64 key)) A { S with rows := S.rows.set k (x.1, { x.2 with ke := key }) } ∧ zb2 W (tOS A S) (W.setCell ⟨q, k * 13 + 4, none⟩ (.int .u64 key)) (tOS A { S with rows := S.rows.set k (x.1, { x.2 with ke := key }) }) => ⟨q.1, q.2, rfl, rfl⟩) ?_
 refine h.to (S' := { S with rows := S.rows.set k (x.1, { x.2 with ke := key }) }) hF (fun j hj => .inr (.inr (.inr (.inr (.inr (by rw [hq, hj]; rfl)))))) rfl rfl (by
  show zbz _ A.t A.a A.b A.g A.mb S.ws S.B S.rv (S.rows.set k _).length (R.set (k * 13 + 4) (.int .u64 key)) (zfi (S.rows.set k _)) A.base
  rw [hC, List.length_set, hq]
  exact hT') (fun j y hy => ?_) ⟨hw, by show (S.rows.set k _).length ≤ 200; rw [List.length_set]; exact hn⟩ (fun j y hy => ?_) (fun j hj => ?_)
 ·
  have hy : (S.rows.set k (x.1, { x.2 with ke := key }))[j]? = some y := hy
  by_cases e : k = j
  ·
   subst e
   rw [zea hk] at hy
   injection hy with hy
   subst hy
   exact ⟨bv, hrow.setKe _, hops, hbo⟩
  · rw [List.getElem?_set_ne e] at hy
    obtain ⟨bv', h1, h2, h3⟩ := hR j y hy
    exact ⟨bv', h1.other e (by omega) _, h2, h3⟩
 ·
  have hy : (S.rows.set k (x.1, { x.2 with ke := key }))[j]? = some y := hy
  by_cases e : k = j
  ·
   subst e
   rw [zea hk] at hy
   injection hy with hy
   subst hy
   exact ⟨hs1, hs2, hs3, hs4, hs5, hs6, hs7⟩
  · rw [List.getElem?_set_ne e] at hy
    exact h.st j y hy
 · have hj : (S.rows.set k (x.1, { x.2 with ke := key })).length ≤ j := hj
   rw [List.length_set] at hj
   exact h.fr j hj
def tkV (k : Nat) (x : Int × Tk) : Value := .agg #[.int .i64 ((k : Int) + 1), .int .i64 x.2.pr, .int .i64 x.1, .int .u64 x.2.du, .int .u64 x.2.ke, .int .u64 x.2.ru, .int .u64 0]
theorem zbx.more (h : zbx W A S) {Z : Nat → Prop} (f : Fr Z W W') (hZ : ∀ j, Z j → TWr A S j) {B : Int} {R : List Value} (hT : zbz W' A.t A.a A.b A.g A.mb S.ws B S.rv S.rows.length R (zfi S.rows) A.base) (hR : ∀ (k : Nat) (x : Int × Tk), S.rows[k]? = some x → ∃ bv, zht R k x.2 bv ∧ zd4 W bv x.2.L ∧ ∀ c, bv.ownBlock = some c → S.bo c) : zbx W' A { S with B := B } ∧ zb2 W (tOS A S) W' (tOS A { S with B := B }) :=
 h.to (S' := { S with B := B }) f hZ rfl rfl hT hR h.len h.st h.fr
theorem zv0 (h : zbx W A S) (hB : S.B ≤ 700000000) (k : Nat) (x : Int × Tk) (hx : S.rows[k]? = some x) : Calls Tryz.prog 56 #[.pointer (some ⟨A.t, 0, none⟩), .int .i64 ((k : Int) + 1)] W fun e w' => e = .returned (.tuple #[tkV k x, .bool true]) ∧ zbx w' A { S with B := S.B + 1 } ∧ zb2 W (tOS A S) w' (tOS A { S with B := S.B + 1 }) := by
 obtain ⟨hk, q, cap, R, hq, hT, hR⟩ := h.row hx
 obtain ⟨hs1, hs2, hs3, hs4, hs5, hs6, hs7⟩ := h.st k x hx
 obtain ⟨bv, hrow, hops, hbo⟩ := hR k x hx
 have hn := h.len.2
 have hw := h.len.1
 refine (zmn hT (by omega) k hk (by omega) (by omega) x.2 bv (by omega) hrow).mono ?_
 rintro e w' ⟨rfl, hT', hF⟩
 rw [← hq] at hT'
 obtain ⟨ha, hp⟩ := h.more hF (zfj rfl rfl) hT' hR
 refine ⟨?_, ha, hp⟩
 unfold tkV Tk.RU Tk.MI
 rw [if_pos hs4, if_pos hs4, hs1]
theorem zx3 (h : zbx W A S) (k : Nat) (x : Int × Tk) (hx : S.rows[k]? = some x) : Calls Tryz.prog 218 #[.pointer (some ⟨A.t, 0, none⟩), .int .i64 ((k : Int) + 1)] W fun e w' => ∃ v', e = .returned v' ∧ zd4 w' v' x.2.L ∧ Below W.heap.size W w' := by
 obtain ⟨hk, q, cap, R, hq, hT, hR⟩ := h.row hx
 obtain ⟨hs1, hs2, hs3, hs4, hs5, hs6, hs7⟩ := h.st k x hx
 obtain ⟨bv, hrow, hops, hbo⟩ := hR k x hx
 have hn := h.len.2
 exact zrt hT ((k : Int) + 1) k rfl hk (by omega) bv x.2.L hrow.2.1 (by omega) hops
theorem zzc (h : zbx W A S) (k : Nat) (x : Int × Tk) (hx : S.rows[k]? = some x) : Calls Tryz.prog 264 #[.pointer (some ⟨A.t, 0, none⟩), .int .i64 ((k : Int) + 1)] W fun e w' => e = .returned (.tuple #[.agg #[.int .u64 0, .int .u64 0, .int .u64 0, .int .u64 0, .int .u64 0], .bool false]) ∧ Below W.heap.size W w' := by
 obtain ⟨hk, q, cap, R, hq, hT, hR⟩ := h.row hx
 obtain ⟨hs1, hs2, hs3, hs4, hs5, hs6, hs7⟩ := h.st k x hx
 obtain ⟨bv, hrow, hops, hbo⟩ := hR k x hx
 have hn := h.len.2
 refine (zru hT k hk (by omega) _ _ _ _ _ hrow.2.2).mono ?_
 rintro e w' ⟨rfl, hB⟩
 rw [hs4]
 exact ⟨rfl, hB⟩
theorem zzd (h : zbx W A S) : Calls Tryz.prog 70 #[.pointer (some ⟨A.t, 0, none⟩)] W fun e w' => e = .returned (.int .i64 S.rows.length) ∧ W = w' := by
 obtain ⟨R, hT, -⟩ := h.tb
 have hn := h.len.2
 rcases h.rvf with ⟨h1, h0⟩ | ⟨q, cap, hq, -⟩
 · rw [h1] at hT
   have hT2 : zbz W A.t A.a A.b A.g A.mb S.ws S.B (.slice none S.rows.length 0) S.rows.length R (zfi S.rows) A.base := by rw [h0] at hT ⊢; exact hT
   exact zmi hT2 (by omega)
 · rw [hq] at hT
   exact zmi hT (by omega)
theorem zv1 (h : zbx W A S) (s : Int) (hs : zbl s) : Calls Tryz.prog 84 #[.pointer (some ⟨A.t, 0, none⟩), .int .i64 s] W fun e w' => e = .returned (.int .i64 (zhv S.rows s)) ∧ W = w' := by
 obtain ⟨R, hT, -⟩ := h.tb
 refine (znk hT (zls _ h.len.2) s hs).mono ?_
 rintro e w' ⟨rfl, rfl⟩
 refine ⟨?_, rfl⟩
 rw [zsc]
 intro x hx
 obtain ⟨k, hk⟩ := List.mem_iff_getElem?.1 hx
 have := h.st k x hk
 exact ⟨this.2.2.2.2.1, this.2.2.2.2.2.1⟩
end
def zja (PR : Int) (L : List Op3) : Tk := ⟨PR, 0, 0, 0, 0, 0, 0, 0, 0, L⟩
def zv2 : Value := .agg #[.int .u64 0, .int .u64 0, .int .u64 0, .int .u64 0, .int .u64 0]
theorem zhe {α : Type} {l : List α} {x y : α} {k : Nat} (h : (l ++ [x])[k]? = some y) : l[k]? = some y ∨ (k = l.length ∧ y = x) := by
 rcases Nat.lt_or_ge k l.length with hk | hk
 · rw [List.getElem?_append_left hk] at h
   exact .inl h
 ·
  rw [List.getElem?_append_right hk] at h
  have : k - l.length = 0 := by
   have := (yyk.1 h).1
   simp at this
   omega
  rw [this] at h
  exact .inr ⟨by omega, by simpa using h.symm⟩
section
variable {W W' : World} {A : TA} {S : TS}
theorem zx4 (h : zbx W A S) (hB : S.B ≤ 700000000) (hn : S.rows.length < 200) (PR s : Int) (p0 : 0 ≤ PR) (p7 : PR ≤ 7) (s0 : 1 ≤ s) (s6 : s ≤ 6) (hcan : canB 0 s = true) (v : Value) (L : List Op3) (hL : L.length ≤ 16) (hb : bodyB L = true) (hO : zd4 W v L) (hdis : L = [] ∨ ∀ c, v.ownBlock = some c → ¬ zb5 A.b A.g c) :
 Calls Tryz.prog 71 #[.pointer (some ⟨A.t, 0, none⟩), .int .i64 PR, v, zv2, .int .i64 s] W fun e w' => e = .returned (.tuple #[.int .i64 ((S.rows.length : Int) + 1), .int .i64 0]) ∧ ∃ S', zbx w' A S' ∧ zb2 W (tOS A S) w' (tOS A S') ∧ S'.rows = S.rows ++ [(s, zja PR L)] ∧ S'.B = S.B + S.rows.length + 2 := by
 obtain ⟨R, hT, hR⟩ := h.tb
 obtain ⟨Av, cb, rfl, hOA⟩ := hO.form
 have hw := h.len.1
 have hbad : zrx PR s 0 (okB 0 0 0) L = false := by
  unfold zrx
  rw [hb, hcan]
  simp
  omega
 have hpre : ∀ j, j < S.rows.length → (S.ws.getD j 0 % 8 == 0) = false := fun j hj => by
  obtain ⟨h1, h2, -⟩ := h.st j _ (yyg hj)
  rw [h1, beq_eq_false_iff_ne]
  omega
 have hfree : (S.ws.getD S.rows.length 0 % 8 == 0) = true := by rw [h.fr _ yyn]; rfl
 refine (zpa hT h.ba (by omega) (by omega) (by omega) hpre hfree (zls _ (by omega)) PR s 0 0 0 0 0 Av cb L (by omega) (WalkArith.wf_i64 (by omega)) (by omega) (by omega) (by omega) (by unfold top; omega) hOA hbad hO hdis).mono ?_
 rintro e w' ⟨q, cap, bv, rfl, hT', hOb, hbc, hq, hF⟩
 have hrl : R.length = S.rows.length * 13 := hT.rows.1
 have hba := h.ba
 obtain ⟨l1, l2, l3, l4, l5⟩ := hT.lt
 have hqT : TWr A S q ∨ W.heap.size ≤ q := by
  rcases hq with hq | hq
  · exact .inl (.inr (.inr (.inr (.inr (.inr hq)))))
  · exact .inr hq
 have hF' : Fr (TWr A S) W w' := hF.mono (fun j hj => by
  rcases hj with hj | hj | hj | hj
  · exact zfj rfl rfl j hj
  · exact .inr (.inr (.inr (.inr (.inl hj))))
  · exact .inl hj
  · exact .inr (.inr (.inr (.inr (.inr hj.symm)))))
 refine ⟨rfl, ⟨S.ws.set S.rows.length (zcu (S.ws.getD S.rows.length 0) s), S.B + S.rows.length + 2, .slice (some ⟨q, 0, none⟩) (S.rows.length + 1) cap, S.rows ++ [(s, zja PR L)], fun c => S.bo c ∨ bv.ownBlock = some c⟩, ⟨⟨R ++ zky ((S.rows.length : Int) + 1) PR 0 0 0 0 0 bv, ?_, ?_⟩, ⟨by rw [List.length_set]; exact hw, by simp; omega⟩, ?_, ?_, Nat.le_trans hba hF.size, ?_⟩, ⟨hF', ?_, ?_⟩, rfl, rfl⟩
 ·
  have e1 : (S.rows ++ [(s, zja PR L)]).length = S.rows.length + 1 := by simp
  show zbz w' A.t A.a A.b A.g A.mb _ _ _ (S.rows ++ [(s, zja PR L)]).length _ (zfi (S.rows ++ [(s, zja PR L)])) A.base
  rw [e1, zps]
  exact hT'
 ·
  intro k x hx
  rcases zhe hx with hx | ⟨rfl, rfl⟩
  · obtain ⟨bv', h1, h2, h3⟩ := hR k x hx
    exact ⟨bv', h1.app _, h2.fr hF' (fun c hc => (h.bo c (h3 c hc)).2), fun c hc => .inl (h3 c hc)⟩
  · exact ⟨bv, zht.new hrl PR 0 0 0 0 0 L, hOb, fun c hc => .inr hc⟩
 ·
  intro k x hx
  rcases zhe hx with hx | ⟨rfl, rfl⟩
  · have hk := (yyk.1 hx).1
    rw [zd0 _ (by omega)]
    exact h.st k x hx
  · rw [zhd _ (by omega), zme _ _ (by omega) (by omega)]
    exact ⟨rfl, s0, s6, rfl, p0, p7, hL⟩
 ·
  intro j hj
  have hj : (S.rows ++ [(s, zja PR L)]).length ≤ j := hj
  rw [List.length_append] at hj
  have hj : S.rows.length + 1 ≤ j := hj
  rw [zd0 _ (by omega)]
  exact h.fr j (by omega)
 ·
  intro c hc
  rcases hc with hc | hc
  ·
   obtain ⟨g1, g2⟩ := h.bo c hc
   refine ⟨Nat.lt_of_lt_of_le g1 hF.size, fun e => ?_⟩
   rcases e with e | e | e | e | e | e
   · exact g2 (.inl e)
   · exact g2 (.inr (.inl e))
   · exact g2 (.inr (.inr (.inl e)))
   · exact g2 (.inr (.inr (.inr (.inl e))))
   · exact g2 (.inr (.inr (.inr (.inr (.inl e)))))
   ·
    have e' : c = q := by injection e with e; exact e.symm
    rw [e'] at g1 g2
    rcases hqT with hq | hq
    · exact g2 hq
    · omega
  ·
   obtain ⟨g1, g2, g3⟩ := hbc c hc
   refine ⟨g2, fun e => ?_⟩
   rcases e with e | e | e | e | e | e
   · omega
   · omega
   · omega
   · omega
   · omega
   · injection e with e
     exact g3 e.symm
 ·
  intro j hj
  rcases hj with e | e | e | e | e | e
  · exact .inl (.inl e)
  · exact .inl (.inr (.inl e))
  · exact .inl (.inr (.inr (.inl e)))
  · exact .inl (.inr (.inr (.inr (.inl e))))
  · exact .inl (.inr (.inr (.inr (.inr (.inl e)))))
  ·
   injection e with e
   have e' : q = j := e
   rw [← e']
   exact hqT
 ·
  intro j hj
  rcases hj with (e | e | e | e | e | e) | (e | e)
  · exact .inl (.inl (.inl e))
  · exact .inl (.inl (.inr (.inl e)))
  · exact .inl (.inl (.inr (.inr (.inl e))))
  · exact .inl (.inl (.inr (.inr (.inr (.inl e)))))
  · exact .inl (.inl (.inr (.inr (.inr (.inr (.inl e))))))
  ·
   injection e with e
   have e' : q = j := e
   rw [← e']
   rcases hqT with hq | hq
   · exact .inl (.inl hq)
   · exact .inr hq
  · exact .inl (.inr e)
  · exact .inr (hbc j e).1
def tk0 : Int × Tk := (0, zja 0 [])
def zeb (rows : List (Int × Tk)) : List Value := zkx (fun k => (rows.getD k tk0).1) (fun k => (rows.getD k tk0).2) rows.length
theorem znz {f g : Nat → Int} {T U : Nat → Tk} {n : Nat} (h : ∀ k, k < n → f k = g k ∧ T k = U k) : zkx f T n = zkx g U n := by
 induction n with
 | zero => rfl
 | succ n ih =>
  unfold zkx
  rw [ih (fun k hk => h k (by omega)), (h n (by omega)).1, (h n (by omega)).2]
theorem zze (h : zbx W A S) (hB : S.B ≤ 600000000) : Calls Tryz.prog 48 #[.pointer (some ⟨A.t, 0, none⟩)] W fun e w' => (∃ v, e = .returned v ∧ zcc w' W.heap.size v S.rows.length (zeb S.rows)) ∧ zbx w' A { S with B := S.B + S.rows.length } ∧ zb2 W (tOS A S) w' (tOS A { S with B := S.B + S.rows.length }) := by
 obtain ⟨R, hT, hR⟩ := h.tb
 have hn := h.len.2
 have hw := h.len.1
 rcases h.rvf with ⟨h1, h0⟩ | ⟨q, cap, hq, -⟩
 ·
  have hT2 := hT
  rw [h1, h0] at hT2
  refine (zrw hT2).mono ?_
  rintro e w' ⟨rfl, rfl⟩
  have e0 : S.B + (S.rows.length : Int) = S.B := by rw [h0]; simp
  refine ⟨⟨_, rfl, .inl ⟨h0, rfl⟩⟩, ?_⟩
  rw [e0]
  exact ⟨h, zb2.refl _ _⟩
 ·
  have hT2 := hT
  rw [hq] at hT2
  refine (zvb hT2 h.ba (by omega) (by omega) (by omega) (fun k => (S.rows.getD k tk0).2) (fun k hk => ?_)).mono ?_
  ·
   have e : S.rows.getD k tk0 = S.rows[k] := by rw [yyd, yyg hk]; rfl
   rw [e]
   have hs := h.st k _ (yyg hk)
   obtain ⟨bv, hr, -⟩ := hR k _ (yyg hk)
   exact ⟨by omega, bv, hr⟩
  ·
   rintro e w' ⟨⟨v, rfl, hv⟩, hT', hF⟩
   rw [← hq] at hT'
   obtain ⟨ha, hp⟩ := h.more hF (zfj rfl rfl) hT' hR
   refine ⟨⟨v, rfl, ?_⟩, ha, hp⟩
   have e : zeb S.rows = zkx (fun k => S.ws.getD k 0 % 8) (fun k => (S.rows.getD k tk0).2) S.rows.length := znz fun k hk => by
    have e : S.rows.getD k tk0 = S.rows[k] := by rw [yyd, yyg hk]; rfl
    have hs := h.st k _ (yyg hk)
    rw [e]
    exact ⟨hs.1.symm, rfl⟩
   rw [e]
   exact hv
theorem zzf (W : World) : Calls Tryz.prog 112 #[.int .i64 200] W fun e w' => ∃ A S, e = .returned (.tuple #[.pointer (some ⟨A.t, 0, none⟩), .int .i64 0]) ∧ zbx w' A S ∧ S.rows = [] ∧ S.B = 0 ∧ (∀ j, (tOS A S).own j → W.heap.size ≤ j) ∧ Below W.heap.size W w' := by
 refine (zur 200 (by omega) (by omega) W).mono ?_
 rintro e w' ⟨t, a, b, g, mb, base, rfl, hT, hb, g1, g2, g3, g4, g5, hB⟩
 refine ⟨⟨t, a, b, g, mb, base⟩, ⟨List.replicate 200 0, 0, .slice none 0 0, [], fun _ => False⟩, rfl, ⟨⟨[], ?_, fun k x hx => by (cases hx)⟩, ⟨List.length_replicate .., Nat.zero_le _⟩, fun k x hx => (by cases hx), fun j hj => ?_, hb, fun c hc => False.elim hc⟩, rfl, rfl, ?_, hB⟩
 ·
  have e : zfi [] = fun _ _ => 0 := rfl
  show zbz w' t a b g mb _ _ _ 0 [] (zfi []) base
  rw [e]
  exact hT
 · show (List.replicate 200 (0 : Int)).getD j 0 % 8 = 0
   rw [yyd, List.getElem?_replicate]
   split <;> rfl
 ·
  intro j hj
  rcases hj with (rfl | rfl | rfl | rfl | rfl | hj) | hj
  · exact g1
  · exact g2
  · exact g3
  · exact g4
  · exact g5
  · cases hj
  · exact False.elim hj
end
def zhw (c b g : Nat) (j : Nat) : Prop := j = c ∨ j = b ∨ j = g
section
variable {W W' : World} {c b g : Nat} {n o m K : Int}
theorem zet.frE {Z : Nat → Prop} (h : zet W c b g n o m K) (f : Fr Z W W') (hn : ∀ j, zhw c b g j → ¬ Z j) : zet W' c b g n o m K := by
 obtain ⟨st, wi, at_, kd, hs, hM⟩ := h.mem
 exact ⟨(f.block _ (zac h.hdr) (hn _ (.inl rfl))).trans h.hdr, ⟨st, wi, at_, kd, hs, hM.fr f (hn _ (.inr (.inl rfl))) (hn _ (.inr (.inr rfl)))⟩, h.cb, h.cg, h.n1, h.n64, h.o0, h.on, h.m0, h.mn⟩
theorem zet.lt (h : zet W c b g n o m K) {j : Nat} (hj : zhw c b g j) : j < W.heap.size := by
 obtain ⟨st, wi, at_, kd, hs, hM⟩ := h.mem
 rcases hj with rfl | rfl | rfl
 · exact zac h.hdr
 · exact zac hM.hdr
 · exact zac hM.row
theorem zet.noE (h : zet W c b g n o m K) : NoE W (zhw c b g) := by
 obtain ⟨st, wi, at_, kd, hs, hM⟩ := h.mem
 refine NoE.of fun j hj => ?_
 rcases hj with rfl | rfl | rfl
 · exact ⟨_, h.hdr, zbe⟩
 · exact ⟨_, hM.hdr, zbe⟩
 · exact ⟨_, hM.row, zbe⟩
def PT.cred (c b g : Nat) (n o m K : Int) : PT := ⟨fun W => zet W c b g n o m K, OS.one (zhw c b g), fun j h => h, fun h hj => h.lt hj, fun h => h.noE, fun h f _ hd => h.frE f hd⟩
theorem zv3 {o' : Nat → Prop} (f : Fr (zb5 b g) W W') : zb2 W (OS.one (zhw c b g)) W' (OS.one (zhw c b g)) := zb2.one (f.mono (fun j hj => hj.elim (fun e => .inr (.inl e)) (fun e => .inr (.inr e)))) (fun j hj => .inl hj)
end
end Go.Proofs.YtcfhkbcllijnkaaGreat
