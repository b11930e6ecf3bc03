/- Package table, seventh part: what is counted, as plain numbers; Len; a task that may not be. -/
import Derived.Test.YtpcbcnheogjofaaTable6
namespace Go.Proofs.Ytpcbcnheogjofaa
open Go.RowKit Go.Maps Go.Proofs.YtpcbcnheogjofaaW.PrintWords
set_option linter.unusedVariables false
set_option linter.unusedSimpArgs false

/-- How many of the first n tasks have a state and an urgency. -/
def CC (ws : List Int) : Nat → Int → Int → Int
  | 0, _, _ => 0
  | k + 1, s, p => CC ws k s p + (if ws.getD k 0 % 8 = s ∧ ((k : Int) + 1) % 8 = p then 1 else 0)
/-- How many of the first n tasks have a state. -/
def cntN (ws : List Int) : Nat → Int → Int
  | 0, _ => 0
  | k + 1, s => cntN ws k s + (if ws.getD k 0 % 8 = s then 1 else 0)
theorem CC_bd (ws : List Int) (n : Nat) (s p : Int) : 0 ≤ CC ws n s p ∧ CC ws n s p ≤ n := by
  induction n with
  | zero => simp [CC]
  | succ k ih =>
    simp only [CC]
    split <;> omega
theorem CC_far (ws : List Int) (j : Nat) (y : Int) (n : Nat) (h : n ≤ j) (s p : Int) : CC (ws.set j y) n s p = CC ws n s p := by
  induction n with
  | zero => rfl
  | succ k ih =>
    simp only [CC]
    rw [ih (by omega), show (ws.set j y).getD k 0 = ws.getD k 0 from by rw [getD_set_any, if_neg (by omega)]]
theorem CC_made (ws : List Int) (n : Nat) (hn : n < ws.length) (y s0 : Int) (hy : y % 8 = s0) : CC (ws.set n y) (n + 1) = updC (CC ws n) s0 (((n : Int) + 1) % 8) (CC ws n s0 (((n : Int) + 1) % 8) + 1) := by
  funext s p
  simp only [CC]
  rw [CC_far ws n y n (Nat.le_refl _), show (ws.set n y).getD n 0 = y from by rw [getD_set_any, if_pos ⟨rfl, hn⟩], hy]
  unfold updC
  by_cases h : s = s0 ∧ p = ((n : Int) + 1) % 8
  · rw [if_pos h, if_pos ⟨h.1.symm, h.2.symm⟩, h.1, h.2]
  · rw [if_neg h, if_neg (fun hh => h ⟨hh.1.symm, hh.2.symm⟩), Int.add_zero]
theorem CC_set (ws : List Int) (j : Nat) (hj : j < ws.length) (y : Int) (n : Nat) (h : j < n) (s p : Int) : CC (ws.set j y) n s p = CC ws n s p - (if ws.getD j 0 % 8 = s ∧ ((j : Int) + 1) % 8 = p then 1 else 0) + (if y % 8 = s ∧ ((j : Int) + 1) % 8 = p then 1 else 0) := by
  induction n with
  | zero => omega
  | succ k ih =>
    simp only [CC]
    rcases Nat.lt_or_ge j k with h' | h'
    · rw [ih h', show (ws.set j y).getD k 0 = ws.getD k 0 from by rw [getD_set_any, if_neg (by omega)]]
      omega
    · obtain rfl : j = k := by omega
      rw [CC_far ws j y j (Nat.le_refl _), show (ws.set j y).getD j 0 = y from by rw [getD_set_any, if_pos ⟨rfl, hj⟩]]
      omega
theorem CC_turn (ws : List Int) (j : Nat) (hj : j < ws.length) (y : Int) (n : Nat) (h : j < n) (s0 s1 : Int) (h0 : ws.getD j 0 % 8 = s0) (h1 : y % 8 = s1) : CC (ws.set j y) n = turnC (CC ws n) s0 s1 (((j : Int) + 1) % 8) := by
  funext s p
  rw [CC_set ws j hj y n h s p, h0, h1]
  unfold turnC updC
  by_cases a : s = s1 ∧ p = ((j : Int) + 1) % 8
  · obtain ⟨rfl, rfl⟩ := a
    by_cases b : s0 = s
    · subst b
      simp
    · have b' : ¬ s = s0 := fun e => b e.symm
      simp [b, b']
  · by_cases b : s = s0 ∧ p = ((j : Int) + 1) % 8
    · obtain ⟨rfl, rfl⟩ := b
      have c : ¬ s = s1 := fun e => a ⟨e, rfl⟩
      have c' : ¬ s1 = s := fun e => c e.symm
      simp [c, c']
    · rw [if_neg (fun hh => b ⟨hh.1.symm, hh.2.symm⟩), if_neg (fun hh => a ⟨hh.1.symm, hh.2.symm⟩), if_neg a, if_neg b]
      omega
theorem ind8 (x c : Int) (hx : 0 ≤ x ∧ x < 8) : (if c = 1 ∧ x = 0 then (1 : Int) else 0) + (if c = 1 ∧ x = 1 then 1 else 0) + (if c = 1 ∧ x = 2 then 1 else 0) + (if c = 1 ∧ x = 3 then 1 else 0) + (if c = 1 ∧ x = 4 then 1 else 0) + (if c = 1 ∧ x = 5 then 1 else 0) + (if c = 1 ∧ x = 6 then 1 else 0) + (if c = 1 ∧ x = 7 then 1 else 0) = if c = 1 then 1 else 0 := by
  rcases (show x = 0 ∨ x = 1 ∨ x = 2 ∨ x = 3 ∨ x = 4 ∨ x = 5 ∨ x = 6 ∨ x = 7 from by omega) with rfl | rfl | rfl | rfl | rfl | rfl | rfl | rfl <;> simp
theorem sumC_CC (ws : List Int) (n : Nat) (s : Int) : sumC (CC ws n) s 8 = cntN ws n s := by
  induction n with
  | zero => simp [sumC, CC, cntN]
  | succ k ih =>
    simp only [sumC, CC, cntN] at ih ⊢
    have h8 : 0 ≤ ((k : Int) + 1) % 8 ∧ ((k : Int) + 1) % 8 < 8 := by omega
    generalize ((k : Int) + 1) % 8 = x at *
    generalize ws.getD k 0 = y at *
    rw [← ih]
    by_cases hs : y % 8 = s
    · have := ind8 x 1 h8
      simp only [true_and, if_true] at this
      simp only [hs, true_and, if_true, Int.ofNat_zero, Int.natCast_zero, Int.natCast_one, show ((2 : Nat) : Int) = 2 from rfl, show ((3 : Nat) : Int) = 3 from rfl, show ((4 : Nat) : Int) = 4 from rfl, show ((5 : Nat) : Int) = 5 from rfl, show ((6 : Nat) : Int) = 6 from rfl, show ((7 : Nat) : Int) = 7 from rfl] at this ⊢
      omega
    · simp [hs]
theorem cntN_all (ws : List Int) (n : Nat) (h : ∀ j, j < n → ws.getD j 0 % 8 ≤ 6) : cntN ws n 0 + cntN ws n 1 + cntN ws n 2 + cntN ws n 3 + cntN ws n 4 + cntN ws n 5 + cntN ws n 6 = n := by
  induction n with
  | zero => simp [cntN]
  | succ k ih =>
    have := ih (fun j hj => h j (by omega))
    have hk := h k (by omega)
    simp only [cntN]
    have h0 : 0 ≤ ws.getD k 0 % 8 := by omega
    generalize ws.getD k 0 % 8 = x at *
    rcases (show x = 0 ∨ x = 1 ∨ x = 2 ∨ x = 3 ∨ x = 4 ∨ x = 5 ∨ x = 6 from by omega) with rfl | rfl | rfl | rfl | rfl | rfl | rfl <;> simp <;> omega
section
variable {W W' : World} {t a b g mb : Nat} {ws : List Int} {B : Int} {rv : Value} {n : Nat} {R : List Value} {C : Int → Int → Int} {base : Nat}
set_option maxRecDepth 100000 in
theorem TLen_any {A : Option Addr} {cap : Nat} (h : TbAt W t a b g mb ws B (.slice A n cap) n R C base) (hn : n ≤ 5000) : Calls Try.prog 69 #[.pointer (some ⟨t, 0, none⟩)] W fun e w' => e = .returned (.int .i64 n) ∧ W = w' := by
  obtain ⟨c0, c1, c2⟩ := h.cells
  clear h
  go_enter Try.func69, Try.ntmps69
  go_wp2_with fail
  go_ret
  exact ⟨rfl, rfl⟩
set_option maxRecDepth 100000 in
theorem TMake_prio (PR s f p d r m : Int) (hp : 7 < PR) (x : Value) (W : World) : Calls Try.prog 65 #[x, .int .i64 PR, .slice none 0 0, .agg #[.int .u64 f, .int .u64 p, .int .u64 d, .int .u64 r, .int .u64 m], .int .i64 s] W fun e w' => e = .returned (.tuple #[.int .i64 0, .int .i64 1]) ∧ Below W.heap.size W w' := by
  have q1 : decide (PR < 0) = false := by simp; omega
  have q2 : decide (PR > 7) = true := by simpa using hp
  have q3 : decide (7 < PR) = true := by simpa using hp
  go_enter Try.func65, Try.ntmps65
  go_wp2_with fail
  go_ret2
  exact ⟨rfl, below_al (Below.refl _ _) _⟩
end
end Go.Proofs.Ytpcbcnheogjofaa
