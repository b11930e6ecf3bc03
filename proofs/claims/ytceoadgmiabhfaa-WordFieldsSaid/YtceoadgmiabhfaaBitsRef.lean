/- Contracts of the reference's Field and With: their loops over the bits. -/
import Derived.Test.YtceoadgmiabhfaaBits
import Derived.Deep.LoopGhost
import Derived.Deep.DeepCutAuto
import Derived.BigQuiet
namespace Go.Proofs.Ytceoadgmiabhfaa
open Go.RowKit
set_option linter.unusedVariables false
set_option linter.unusedSimpArgs false

theorem one_bit (i : Nat) : (1#64).getLsbD i = decide (i = 0) := by
  rw [BitVec.getLsbD_one]
  simp
theorem low_bit (X : B64) : X &&& 1#64 = if X.getLsbD 0 then 1#64 else 0#64 := by
  apply BitVec.eq_of_getLsbD_eq
  intro i hi
  rw [BitVec.getLsbD_and, one_bit]
  rcases Nat.eq_zero_or_pos i with rfl | h
  · cases hx : X.getLsbD 0 <;> simp
  · rw [show decide (i = 0) = false from by simp; omega]
    split
    · rw [one_bit]; simp; omega
    · simp
theorem bit_test (X : B64) (i : Nat) : (bits .and .u64 (nv X / 2 ^ i) 1 == 1) = X.getLsbD i := by
  rw [b_shr, show (1 : Int) = nv 1#64 from rfl, b_and, low_bit, BitVec.getLsbD_ushiftRight, Nat.add_zero]
  cases X.getLsbD i <;> rfl
def refF (X : B64) (a n : Int) : Nat → B64
  | 0 => 0#64
  | k + 1 => if inB a n k && X.getLsbD k then refF X a n k ||| 1#64 <<< (k - a.toNat) else refF X a n k
theorem inB_le {a n : Int} {k : Nat} (h : inB a n k = true) : a.toNat ≤ k ∧ 0 ≤ a ∧ a ≤ 63 := by unfold inB at h; simp at h; omega
theorem refF_bit (X : B64) (a n : Int) (k : Nat) (hk : k ≤ 64) (j : Nat) (hj : j < 64) : (refF X a n k).getLsbD j = (decide (a.toNat + j < k) && inB a n (a.toNat + j) && X.getLsbD (a.toNat + j)) := by
  induction k with
  | zero => simp [refF]
  | succ k ih =>
    have ih := ih (by omega)
    simp only [refF]
    by_cases h : (inB a n k && X.getLsbD k) = true
    · rw [if_pos h, BitVec.getLsbD_or, ih, BitVec.getLsbD_shiftLeft, one_bit]
      simp only [Bool.and_eq_true] at h
      have hl := inB_le h.1
      by_cases hj' : a.toNat + j = k
      · rw [hj', h.1, h.2]
        simp
        omega
      · rw [show decide (a.toNat + j < k + 1) = decide (a.toNat + j < k) from by simp; omega]
        have : (decide (j < 64) && !decide (j < k - a.toNat) && decide (j - (k - a.toNat) = 0)) = false := by simp; omega
        rw [this, Bool.or_false]
    · rw [if_neg h, ih]
      by_cases hj' : a.toNat + j = k
      · rw [hj']
        have h' : (inB a n k && X.getLsbD k) = false := by simpa using h
        rw [Bool.and_assoc, Bool.and_assoc, h']
        simp
      · rw [show decide (a.toNat + j < k + 1) = decide (a.toNat + j < k) from by simp; omega]
theorem refF_eq (X : B64) (a n : Int) : refF X a n 64 = fieldB X a n := by
  apply BitVec.eq_of_getLsbD_eq
  intro i hi
  rw [refF_bit X a n 64 (Nat.le_refl _) i hi, field_bit]
  cases decide (a.toNat + i < 64) <;> cases inB a n (a.toNat + i) <;> cases X.getLsbD (a.toNat + i) <;> rfl
def refW (X V : B64) (a n : Int) : Nat → B64
  | 0 => X
  | k + 1 => if inB a n k then (refW X V a n k &&& ~~~(1#64 <<< k)) ||| (((V >>> (k - a.toNat)) &&& 1#64) <<< k) else refW X V a n k
theorem refW_bit (X V : B64) (a n : Int) (k : Nat) (hk : k ≤ 64) (j : Nat) (hj : j < 64) : (refW X V a n k).getLsbD j = if decide (j < k) && inB a n j then V.getLsbD (j - a.toNat) else X.getLsbD j := by
  induction k with
  | zero => simp [refW]
  | succ k ih =>
    have ih := ih (by omega)
    simp only [refW]
    by_cases h : inB a n k = true
    · rw [if_pos h, BitVec.getLsbD_or, BitVec.getLsbD_and, BitVec.getLsbD_not, ih, BitVec.getLsbD_shiftLeft, BitVec.getLsbD_shiftLeft, BitVec.getLsbD_and, BitVec.getLsbD_ushiftRight, one_bit]
      by_cases hj' : j = k
      · subst hj'
        rw [h]
        simp [hj]
      · rw [show decide (j < k + 1) = decide (j < k) from by simp; omega]
        by_cases hjk : j < k
        · simp [hj, hjk]
        · have h1 : decide (j - k = 0) = false := by simp; omega
          simp [hj, hjk, h1]
    · rw [if_neg h, ih]
      by_cases hj' : j = k
      · subst hj'
        simp [h]
      · rw [show decide (j < k + 1) = decide (j < k) from by simp; omega]
theorem refW_eq (X V : B64) (a n : Int) : refW X V a n 64 = withB X a n V := by
  apply BitVec.eq_of_getLsbD_eq
  intro i hi
  rw [refW_bit X V a n 64 (Nat.le_refl _) i hi, with_bit _ _ _ _ _ hi]
  simp [hi]

theorem rbit_any (i : Nat) (a n : Int) (hi : i < 64) (ha : (Lit.int .i64 a).wf = true) (hn : (Lit.int .i64 n).wf = true) (w : World) : Calls Try.prog 50 #[.int .i64 i, .int .i64 a, .int .i64 n] w fun e w' => e = .returned (.bool (inB a n i)) ∧ w = w' := by
  obtain ⟨a1, a2⟩ := i64_of_wf ha
  by_cases h1 : a < 0
  · have e : inB a n i = false := by unfold inB; simp; omega
    have g1 : decide (a ≥ 0) = false := by simp; omega
    have g2 : decide (0 ≤ a) = false := by simp; omega
    rw [e]; clear e
    go_enter Try.func50, Try.ntmps50
    go_wp2
    go_ret
    exact ⟨rfl, rfl⟩
  have g1 : decide (a ≥ 0) = true := by simp; omega
  have g2 : decide (0 ≤ a) = true := by simp; omega
  by_cases h2 : 63 < a
  · have e : inB a n i = false := by unfold inB; simp; omega
    have g3 : decide (a ≤ 63) = false := by simp; omega
    rw [e]; clear e
    go_enter Try.func50, Try.ntmps50
    go_wp2
    go_ret
    exact ⟨rfl, rfl⟩
  have g3 : decide (a ≤ 63) = true := by simp; omega
  by_cases h3 : n < 1
  · have e : inB a n i = false := by unfold inB; simp; omega
    have g4 : decide (n ≥ 1) = false := by simp; omega
    have g5 : decide (1 ≤ n) = false := by simp; omega
    rw [e]; clear e
    go_enter Try.func50, Try.ntmps50
    go_wp2
    go_ret
    exact ⟨rfl, rfl⟩
  have g4 : decide (n ≥ 1) = true := by simp; omega
  have g5 : decide (1 ≤ n) = true := by simp; omega
  by_cases h4 : (i : Int) < a
  · have e : inB a n i = false := by unfold inB; simp; omega
    have g6 : decide ((i : Int) ≥ a) = false := by simp; omega
    have g7 : decide (a ≤ (i : Int)) = false := by simp; omega
    rw [e]; clear e
    go_enter Try.func50, Try.ntmps50
    go_wp2
    go_ret
    exact ⟨rfl, rfl⟩
  have g6 : decide ((i : Int) ≥ a) = true := by simp; omega
  have g7 : decide (a ≤ (i : Int)) = true := by simp; omega
  by_cases h5 : (i : Int) - a < n
  · have e : inB a n i = true := by unfold inB; simp; omega
    have g8 : decide ((i : Int) - a < n) = true := by simpa using h5
    rw [e]; clear e
    go_enter Try.func50, Try.ntmps50
    go_wp2
    go_ret
    exact ⟨rfl, rfl⟩
  · have e : inB a n i = false := by unfold inB; simp; omega
    have g8 : decide ((i : Int) - a < n) = false := by simpa using h5
    rw [e]; clear e
    go_enter Try.func50, Try.ntmps50
    go_wp2
    go_ret
    exact ⟨rfl, rfl⟩
theorem refField_any (X : B64) (a n : Int) (ha : (Lit.int .i64 a).wf = true) (hn : (Lit.int .i64 n).wf = true) (w : World) : Calls Try.prog 42 #[.int .u64 (nv X), .int .i64 a, .int .i64 n] w fun e w' => e = .returned (.int .u64 (nv (fieldB X a n))) ∧ w = w' := by
  rw [← refF_eq]
  have HB := Lib.hid (fun (i : Nat) (hi : i < 64) w => rbit_any i a n hi ha hn w)
  clear ha hn
  go_enter Try.func42, Try.ntmps42
  go_wp2_with fail
  go_loopg [7, 8] 64 (fun g v7 v8 wr => ∃ i : Nat, g = 64 - i ∧ i ≤ 64 ∧ v8 = .int .i64 i ∧ v7 = .int .u64 (nv (refF X a n i)) ∧ w = wr)
  case atStart => exact ⟨0, rfl, by omega, rfl, rfl, rfl⟩
  case round =>
    obtain ⟨i, rfl, hi, rfl, rfl, rfl⟩ := hrel
    by_cases hlt : i < 64
    · obtain ⟨Y, hY⟩ : ∃ Y, refF X a n i = Y := ⟨_, rfl⟩
      have hS : refF X a n (i + 1) = if inB a n i && X.getLsbD i then Y ||| 1#64 <<< (i - a.toNat) else Y := by rw [← hY]; rfl
      rw [hY]
      have HS := Lib.hid hS
      clear hS hY
      cases hb : inB a n i
      · go_wp2_with fail
        refine (HB.out i hlt _).mono ?_
        rintro e w' ⟨rfl, rfl⟩
        rw [hb]
        go_wp2_with fail
        go_roundg (64 - (i + 1))
        case measure => omega
        case rel => exact ⟨i + 1, rfl, by omega, by go_num, by rw [HS.out, hb]; rfl, rfl⟩
      · obtain ⟨l1, l2, l3⟩ := inB_le hb
        have gt := bit_test X i
        have s0 : 0 ≤ (i : Int) - a := by omega
        obtain ⟨k, hk⟩ : ∃ k : Nat, (i : Int) - a = (k : Int) := ⟨i - a.toNat, by omega⟩
        have hk2 : i - a.toNat = k := by omega
        cases hx : X.getLsbD i
        · rw [hx] at gt
          go_wp2_with fail
          refine (HB.out i hlt _).mono ?_
          rintro e w' ⟨rfl, rfl⟩
          rw [hb]
          go_wp2_with fail
          go_roundg (64 - (i + 1))
          case measure => omega
          case rel => exact ⟨i + 1, rfl, by omega, by go_num, by rw [HS.out, hb, hx]; rfl, rfl⟩
        · rw [hx] at gt
          go_wp2_with fail
          refine (HB.out i hlt _).mono ?_
          rintro e w' ⟨rfl, rfl⟩
          rw [hb]
          go_wp2_with fail
          go_roundg (64 - (i + 1))
          case measure => omega
          case rel => exact ⟨i + 1, rfl, by omega, by go_num, by rw [HS.out, hb, hx, Bool.and_self, if_pos rfl, hk2, ← b_or, ← b_one], rfl⟩
    · obtain rfl : i = 64 := by omega
      go_wp2_with fail
      go_ret
      exact ⟨rfl, rfl⟩
theorem refWith_any (X V : B64) (a n : Int) (ha : (Lit.int .i64 a).wf = true) (hn : (Lit.int .i64 n).wf = true) (w : World) : Calls Try.prog 43 #[.int .u64 (nv X), .int .i64 a, .int .i64 n, .int .u64 (nv V)] w fun e w' => e = .returned (.int .u64 (nv (withB X a n V))) ∧ Below w.heap.size w w' := by
  rw [← refW_eq]
  have HB := Lib.hid (fun (i : Nat) (hi : i < 64) w => rbit_any i a n hi ha hn w)
  clear ha hn
  go_enter Try.func43, Try.ntmps43
  go_wp2_with fail
  go_loopg [0, 9] 64 (fun g v0 v9 wr => ∃ i : Nat, g = 64 - i ∧ i ≤ 64 ∧ v9 = .int .i64 i ∧ v0 = .int .u64 (nv (refW X V a n i)) ∧ Below w.heap.size w wr)
  case atStart => exact ⟨0, rfl, by omega, rfl, rfl, Below.refl _ _⟩
  case round =>
    obtain ⟨i, rfl, hi, rfl, rfl, hB⟩ := hrel
    by_cases hlt : i < 64
    · obtain ⟨Y, hY⟩ : ∃ Y, refW X V a n i = Y := ⟨_, rfl⟩
      have hS : refW X V a n (i + 1) = if inB a n i then (Y &&& ~~~(1#64 <<< i)) ||| (((V >>> (i - a.toNat)) &&& 1#64) <<< i) else Y := by rw [← hY]; rfl
      rw [hY]
      have HS := Lib.hid hS
      clear hS hY
      cases hb : inB a n i
      · go_wp2_with fail
        refine (HB.out i hlt _).mono ?_
        rintro e w' ⟨rfl, rfl⟩
        rw [hb]
        go_wp2_with fail
        go_roundg (64 - (i + 1))
        case measure => omega
        case rel => exact ⟨i + 1, rfl, by omega, by go_num, by rw [HS.out, hb]; rfl, hB⟩
      · obtain ⟨l1, l2, l3⟩ := inB_le hb
        have s0 : 0 ≤ (i : Int) - a := by omega
        obtain ⟨k, hk⟩ : ∃ k : Nat, (i : Int) - a = (k : Int) := ⟨i - a.toNat, by omega⟩
        have hk2 : i - a.toNat = k := by omega
        go_wp2_with fail
        refine (HB.out i hlt _).mono ?_
        rintro e w' ⟨rfl, rfl⟩
        rw [hb]
        go_wp2_with fail
        go_big_quiet (fail)
        have hB2 := below_drN hB nq
        go_wp2_with fail
        go_roundg (64 - (i + 1))
        case measure => omega
        case rel => exact ⟨i + 1, rfl, by omega, by go_num, by rw [HS.out, hb, if_pos rfl, hk2, ← b_or, ← b_andNot, ← b_one, ← b_shl, ← b_and, ← b_shr]; simp [hk]; rfl, hB2⟩
    · obtain rfl : i = 64 := by omega
      go_wp2_with fail
      go_ret
      exact ⟨rfl, hB⟩
end Go.Proofs.Ytceoadgmiabhfaa
