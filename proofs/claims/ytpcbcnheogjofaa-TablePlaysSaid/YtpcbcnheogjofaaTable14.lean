/- The counts by state and urgency at any urgency; rows told cell by cell; a statement's own rows. -/
import Derived.Test.YtpcbcnheogjofaaTable13
namespace Go.Proofs.Ytpcbcnheogjofaa
open Go.RowKit Go.Maps Go.Shelf Go.Proofs.YtpcbcnheogjofaaW.PrintWords
set_option linter.unusedVariables false
set_option linter.unusedSimpArgs false

def CG (S P : Nat → Int) : Nat → Int → Int → Int
  | 0, _, _ => 0
  | k + 1, s, p => CG S P k s p + (if S k = s ∧ P k = p then 1 else 0)
def cntG (S : Nat → Int) : Nat → Int → Int
  | 0, _ => 0
  | k + 1, s => cntG S k s + (if S k = s then 1 else 0)
theorem CG_bd (S P : Nat → Int) (n : Nat) (s p : Int) : 0 ≤ CG S P n s p ∧ CG S P n s p ≤ n := by
  induction n with
  | zero => simp [CG]
  | succ k ih =>
    simp only [CG]
    split <;> omega
theorem cntG_bd (S : Nat → Int) (n : Nat) (s : Int) : 0 ≤ cntG S n s ∧ cntG S n s ≤ n := by
  induction n with
  | zero => simp [cntG]
  | succ k ih =>
    simp only [cntG]
    split <;> omega
theorem CG_congr {S P S' P' : Nat → Int} (n : Nat) (h : ∀ j, j < n → S j = S' j ∧ P j = P' j) : CG S P n = CG S' P' n := by
  induction n with
  | zero => rfl
  | succ k ih =>
    funext s p
    simp only [CG]
    rw [ih (fun j hj => h j (by omega)), (h k (by omega)).1, (h k (by omega)).2]
theorem CG_made {S P S' P' : Nat → Int} (n : Nat) (h : ∀ j, j < n → S j = S' j ∧ P j = P' j) : CG S' P' (n + 1) = updC (CG S P n) (S' n) (P' n) (CG S P n (S' n) (P' n) + 1) := by
  funext s p
  simp only [CG, updC]
  rw [← CG_congr n h]
  by_cases hh : s = S' n ∧ p = P' n
  · rw [if_pos hh, hh.1, hh.2]
    simp
  · rw [if_neg hh, if_neg (fun x => hh ⟨x.1.symm, x.2.symm⟩), Int.add_zero]
theorem CG_set {S P S' : Nat → Int} (j : Nat) (hS : ∀ k, k ≠ j → S' k = S k) (n : Nat) (h : j < n) (s p : Int) : CG S' P n s p = CG S P n s p - (if S j = s ∧ P j = p then 1 else 0) + (if S' j = s ∧ P j = p then 1 else 0) := by
  induction n with
  | zero => omega
  | succ k ih =>
    simp only [CG]
    rcases Nat.lt_or_ge j k with hk | hk
    · rw [ih hk, hS k (by omega)]
      omega
    · obtain rfl : j = k := by omega
      rw [CG_congr (S := S') (S' := S) (P := P) (P' := P) j (fun i hi => ⟨hS i (by omega), rfl⟩)]
      omega
theorem CG_turn {S P S' : Nat → Int} (j : Nat) (hS : ∀ k, k ≠ j → S' k = S k) (n : Nat) (h : j < n) : CG S' P n = turnC (CG S P n) (S j) (S' j) (P j) := by
  funext s p
  rw [CG_set j hS n h s p]
  simp only [turnC, updC]
  have e1 : (S j = s ∧ P j = p) ↔ (s = S j ∧ p = P j) := ⟨fun h => ⟨h.1.symm, h.2.symm⟩, fun h => ⟨h.1.symm, h.2.symm⟩⟩
  have e2 : (S' j = s ∧ P j = p) ↔ (s = S' j ∧ p = P j) := ⟨fun h => ⟨h.1.symm, h.2.symm⟩, fun h => ⟨h.1.symm, h.2.symm⟩⟩
  simp only [e1, e2]
  by_cases a : s = S' j ∧ p = P j
  · obtain ⟨rfl, rfl⟩ := a
    by_cases c : S' j = S j
    · simp [c]
    · simp [c]
  · by_cases b : s = S j ∧ p = P j
    · obtain ⟨rfl, rfl⟩ := b
      have a' : ¬ (S j = S' j) := fun x => a ⟨x, rfl⟩
      simp [a']
    · simp [a, b]
theorem sumC_CG {S P : Nat → Int} (n : Nat) (hP : ∀ j, j < n → 0 ≤ P j ∧ P j < 8) (s : Int) : sumC (CG S P n) s 8 = cntG S n s := by
  induction n with
  | zero => simp [sumC, CG, cntG]
  | succ k ih =>
    have ih := ih (fun j hj => hP j (by omega))
    simp only [sumC, CG, cntG] at ih ⊢
    have h8 := hP k (by omega)
    generalize P k = x at *
    generalize S k = y at *
    rw [← ih]
    by_cases hs : y = s
    · have := ind8 x 1 h8
      simp only [true_and, if_true] at this
      simp only [hs, true_and, if_true, Int.ofNat_zero, Int.natCast_zero, Int.natCast_one, show ((2 : Nat) : Int) = 2 from rfl, show ((3 : Nat) : Int) = 3 from rfl, show ((4 : Nat) : Int) = 4 from rfl, show ((5 : Nat) : Int) = 5 from rfl, show ((6 : Nat) : Int) = 6 from rfl, show ((7 : Nat) : Int) = 7 from rfl] at this ⊢
      omega
    · simp [hs]

/-! ### Rows of a fixed width -/
theorem idx_inj {w i k c j : Nat} (hc : c < w) (hj : j < w) (h : i * w + c = k * w + j) : i = k ∧ c = j := by
  have e1 : (i * w + c) / w = i := by rw [Nat.add_comm, Nat.add_mul_div_right _ _ (by omega), Nat.div_eq_of_lt hc, Nat.zero_add]
  have e2 : (k * w + j) / w = k := by rw [Nat.add_comm, Nat.add_mul_div_right _ _ (by omega), Nat.div_eq_of_lt hj, Nat.zero_add]
  have e3 : i = k := by rw [← e1, h, e2]
  subst e3
  exact ⟨rfl, by omega⟩
theorem idx_lt {w i c n : Nat} (hi : i < n) (hc : c < w) : i * w + c < n * w := by
  have : (i + 1) * w ≤ n * w := Nat.mul_le_mul_right w hi
  rw [Nat.add_mul] at this
  omega
structure Blk (X : List Value) (w n : Nat) (row : Nat → List Value) : Prop where
  len : X.length = n * w
  at_ : ∀ k, k < n → ∀ j, j < w → X[k * w + j]? = (row k)[j]?
theorem Blk.nil (w : Nat) (row : Nat → List Value) : Blk [] w 0 row := ⟨by simp, fun k hk => absurd hk (Nat.not_lt_zero _)⟩
theorem Blk.set {X : List Value} {w n : Nat} {row row' : Nat → List Value} (h : Blk X w n row) {i c : Nat} {v : Value} (hi : i < n) (hc : c < w) (h1 : row' i = (row i).set c v) (h2 : ∀ k, k ≠ i → row' k = row k) : Blk (X.set (i * w + c) v) w n row' := by
  refine ⟨by rw [List.length_set]; exact h.len, fun k hk j hj => ?_⟩
  have hlt := idx_lt hi hc
  have hl := h.len
  by_cases e : k = i
  · subst e
    rw [h1]
    by_cases e2 : c = j
    · subst e2
      have := h.at_ k hk c hj
      rw [List.getElem?_eq_getElem (by omega)] at this
      have h3 : c < (row k).length := by
        apply Nat.lt_of_not_le
        intro hle
        rw [List.getElem?_eq_none hle] at this
        cases this
      rw [List.getElem?_set_self (by omega), List.getElem?_set_self h3]
    · rw [List.getElem?_set_ne (by omega), List.getElem?_set_ne e2]
      exact h.at_ k hk j hj
  · rw [h2 k e, List.getElem?_set_ne (fun x => e (idx_inj hc hj x).1.symm)]
    exact h.at_ k hk j hj
theorem Blk.push {X : List Value} {w n : Nat} {row row' : Nat → List Value} (h : Blk X w n row) {r : List Value} (hr : r.length = w) (h1 : row' n = r) (h2 : ∀ k, k < n → row' k = row k) : Blk (X ++ r) w (n + 1) row' := by
  have hl := h.len
  refine ⟨by rw [List.length_append, hl, hr, Nat.add_mul, Nat.one_mul], fun k hk j hj => ?_⟩
  by_cases e : k = n
  · subst e
    rw [h1, List.getElem?_append_right (by omega), hl, show k * w + j - k * w = j from by omega]
  · have hlt := idx_lt (show k < n from by omega) hj
    rw [h2 k (by omega), List.getElem?_append_left (by omega)]
    exact h.at_ k (by omega) j hj
theorem Blk.to {X : List Value} {w n : Nat} {row row' : Nat → List Value} (h : Blk X w n row) (h2 : ∀ k, k < n → row' k = row k) : Blk X w n row' := ⟨h.len, fun k hk j hj => by rw [h2 k hk]; exact h.at_ k hk j hj⟩
def tabRow (k : Nat) (T : Tk) (bv : Value) : List Value := [.int .i64 ((k : Int) + 1), .int .i64 T.pr, .int .i64 0, .int .u64 T.du, .int .u64 T.ke, .int .u64 T.ru, .int .u64 0, bv, .int .u64 T.f, .int .u64 T.p, .int .u64 T.d, .int .u64 T.r, .int .u64 T.m]
def lawRow (k : Nat) (s : Int) (T : Tk) (bv : Value) : List Value := [.int .i64 ((k : Int) + 1), .int .i64 T.pr, .int .i64 s, .int .u64 T.du, .int .u64 T.ke, .int .u64 T.RU, .int .u64 T.MI, bv, .bool (!(T.p == 0)), .int .u64 (if T.p = 0 then 0 else T.f), .int .u64 (if T.p = 0 then 0 else T.p), .int .u64 (if T.p = 0 then 0 else T.d), .int .u64 (if T.p = 0 then 0 else T.r), .int .u64 (if T.p = 0 then 0 else T.m)]
theorem Blk.rowP {R : List Value} {n : Nat} {TT : Nat → Tk} {bv : Nat → Value} (h : Blk R 13 n (fun k => tabRow k (TT k) (bv k))) (k : Nat) (hk : k < n) : RowP R k (TT k) (bv k) :=
  ⟨⟨by have := h.at_ k hk 0 (by decide); rw [Nat.add_zero] at this; exact this, h.at_ k hk 1 (by decide), h.at_ k hk 2 (by decide), h.at_ k hk 3 (by decide), h.at_ k hk 4 (by decide), h.at_ k hk 5 (by decide), h.at_ k hk 6 (by decide)⟩, h.at_ k hk 7 (by decide), ⟨h.at_ k hk 8 (by decide), h.at_ k hk 9 (by decide), h.at_ k hk 10 (by decide), h.at_ k hk 11 (by decide), h.at_ k hk 12 (by decide)⟩⟩
def upd {α : Type} (f : Nat → α) (i : Nat) (v : α) : Nat → α := fun k => if k = i then v else f k
theorem upd_self {α : Type} (f : Nat → α) (i : Nat) (v : α) : upd f i v i = v := if_pos rfl
theorem upd_ne {α : Type} (f : Nat → α) (i : Nat) (v : α) {k : Nat} (h : k ≠ i) : upd f i v k = f k := if_neg h
end Go.Proofs.Ytpcbcnheogjofaa
