/- Contracts of word.Field and word.With (and of the reference's answers for them), as bit vectors. -/
import Derived.Test.YtceoadgmiabhfaaWord
import Derived.Deep.LoopGhost
import Derived.BigQuiet
namespace Go.Proofs.Ytceoadgmiabhfaa
open Go.RowKit
set_option linter.unusedVariables false
set_option linter.unusedSimpArgs false

/-! ### Whole numbers of 64 bits as bit vectors -/
abbrev B64 := BitVec 64
def nv (X : B64) : Int := (X.toNat : Int)
theorem nv_bd (X : B64) : 0 ≤ nv X ∧ nv X < 18446744073709551616 := by
  have := X.isLt
  unfold nv
  omega
theorem nv_ofInt (X : B64) : BitVec.ofInt 64 (nv X) = X := by
  apply BitVec.eq_of_toNat_eq
  have := X.isLt
  rw [BitVec.toNat_ofInt]
  unfold nv
  omega
theorem nv_of (x : Int) (h0 : 0 ≤ x) (h1 : x ≤ top) : ∃ X : B64, x = nv X := by
  refine ⟨BitVec.ofNat 64 x.toNat, ?_⟩
  unfold nv
  unfold top at h1
  rw [BitVec.toNat_ofNat]
  omega
theorem nv_inj {X Y : B64} : nv X = nv Y ↔ X = Y := by
  constructor
  · intro h
    apply BitVec.eq_of_toNat_eq
    unfold nv at h
    omega
  · intro h; rw [h]
theorem wrap_nv (X : B64) : IntKind.u64.wrap (nv X) = nv X := by
  have := nv_bd X
  rw [IntKind.wrap_u64]
  omega
theorem b_and (X Y : B64) : bits .and .u64 (nv X) (nv Y) = nv (X &&& Y) := by
  show IntKind.u64.wrap ((BitVec.ofInt 64 (nv X) &&& BitVec.ofInt 64 (nv Y)).toNat : Int) = _
  rw [nv_ofInt, nv_ofInt]; exact wrap_nv _
theorem b_or (X Y : B64) : bits .or .u64 (nv X) (nv Y) = nv (X ||| Y) := by
  show IntKind.u64.wrap ((BitVec.ofInt 64 (nv X) ||| BitVec.ofInt 64 (nv Y)).toNat : Int) = _
  rw [nv_ofInt, nv_ofInt]; exact wrap_nv _
theorem b_andNot (X Y : B64) : bits .andNot .u64 (nv X) (nv Y) = nv (X &&& ~~~Y) := by
  show IntKind.u64.wrap ((BitVec.ofInt 64 (nv X) &&& ~~~BitVec.ofInt 64 (nv Y)).toNat : Int) = _
  rw [nv_ofInt, nv_ofInt]; exact wrap_nv _
theorem b_shl (X : B64) (k : Nat) : IntKind.u64.wrap (nv X * 2 ^ k) = nv (X <<< k) := by
  unfold nv
  rw [BitVec.toNat_shiftLeft, Nat.shiftLeft_eq, IntKind.wrap_u64]
  simp
theorem b_one (k : Nat) : IntKind.u64.wrap (2 ^ k) = nv (1#64 <<< k) := by
  rw [← b_shl]
  congr 1
  show (2 : Int) ^ k = nv 1#64 * 2 ^ k
  rw [show nv 1#64 = 1 from rfl, Int.one_mul]
theorem b_shr (X : B64) (k : Nat) : nv X / 2 ^ k = nv (X >>> k) := by
  unfold nv
  rw [BitVec.toNat_ushiftRight, Nat.shiftRight_eq_div_pow]
  simp
theorem b_sub1 (X : B64) : IntKind.u64.wrap (nv X - 1) = nv (X - 1#64) := by
  have := X.isLt
  unfold nv
  rw [BitVec.toNat_sub, IntKind.wrap_u64, show (1#64).toNat = 1 from rfl]
  omega

/-! ### What the calls compute -/
def maskB (a n : Int) : B64 := if 1 ≤ n ∧ 0 ≤ a ∧ a < 64 then ((1#64 <<< (min n 64).toNat) - 1#64) <<< a.toNat else 0#64
def fieldB (w : B64) (a n : Int) : B64 := (w &&& maskB a n) >>> a.toNat
def withB (w : B64) (a n : Int) (v : B64) : B64 := (w &&& ~~~maskB a n) ||| ((v <<< a.toNat) &&& maskB a n)
def inB (a n : Int) (i : Nat) : Bool := decide (0 ≤ a ∧ a ≤ 63 ∧ 1 ≤ n ∧ a ≤ i ∧ (i : Int) - a < n)
theorem ones_toNat (n : Nat) (h : n ≤ 64) : ((1#64 <<< n) - 1#64).toNat = 2 ^ n - 1 := by
  rw [BitVec.toNat_sub, BitVec.toNat_shiftLeft, Nat.shiftLeft_eq, show (1#64).toNat = 1 from rfl]
  rcases Nat.lt_or_ge n 64 with h' | h'
  · have h1 : 2 ^ n < 2 ^ 64 := Nat.pow_lt_pow_right (by decide) h'
    have h2 : 0 < 2 ^ n := Nat.pow_pos (by decide)
    generalize 2 ^ n = x at *
    omega
  · obtain rfl : n = 64 := by omega
    decide
theorem mask_bit (a n : Int) (i : Nat) (hi : i < 64) : (maskB a n).getLsbD i = inB a n i := by
  unfold maskB inB
  split
  · rename_i h
    rw [BitVec.getLsbD_shiftLeft, BitVec.getLsbD, ones_toNat _ (by omega), Nat.testBit_two_pow_sub_one, Bool.eq_iff_iff]
    simp
    omega
  · rename_i h
    rw [Bool.eq_iff_iff]
    simp
    omega
theorem mask_zero (a n : Int) (h : ¬ (1 ≤ n ∧ 0 ≤ a ∧ a < 64)) : maskB a n = 0#64 := by unfold maskB; rw [if_neg h]
theorem mask_ne (a n : Int) (h : 1 ≤ n ∧ 0 ≤ a ∧ a < 64) : (nv (maskB a n) == 0) = false := by
  have hb := mask_bit a n a.toNat (by omega)
  have h1 : inB a n a.toNat = true := by unfold inB; simp; omega
  rw [h1] at hb
  have : maskB a n ≠ 0#64 := by intro h0; rw [h0] at hb; simp at hb
  have h2 : nv (maskB a n) ≠ nv 0#64 := fun h => this (nv_inj.1 h)
  rw [show nv 0#64 = 0 from rfl] at h2
  simpa using h2
theorem field_bit (w : B64) (a n : Int) (j : Nat) : (fieldB w a n).getLsbD j = (decide (a.toNat + j < 64) && w.getLsbD (a.toNat + j) && inB a n (a.toNat + j)) := by
  unfold fieldB
  rw [BitVec.getLsbD_ushiftRight, BitVec.getLsbD_and]
  by_cases h : a.toNat + j < 64
  · rw [mask_bit _ _ _ h]; simp [h]
  · rw [BitVec.getLsbD_of_ge _ _ (by omega)]; simp [h]
theorem with_bit (w v : B64) (a n : Int) (j : Nat) (hj : j < 64) : (withB w a n v).getLsbD j = if inB a n j then v.getLsbD (j - a.toNat) else w.getLsbD j := by
  unfold withB
  rw [BitVec.getLsbD_or, BitVec.getLsbD_and, BitVec.getLsbD_and, BitVec.getLsbD_not, mask_bit _ _ _ hj, BitVec.getLsbD_shiftLeft]
  by_cases h : inB a n j
  · have h' : a.toNat ≤ j := by unfold inB at h; simp at h; omega
    simp [h, hj]; omega
  · simp [h, hj]
/-- What is put together again. -/
theorem with_back (w v : B64) (a n : Int) : withB (withB w a n v) a n (fieldB w a n) = w := by
  apply BitVec.eq_of_getLsbD_eq
  intro i hi
  rw [with_bit _ _ _ _ _ hi, with_bit _ _ _ _ _ hi]
  split
  · rename_i h
    rw [field_bit]
    have h2 : a.toNat + (i - a.toNat) = i := by unfold inB at h; simp at h; omega
    rw [h2, h]
    simp [hi]
  · rfl

/-! ### The walks -/
theorem mask_any (a n : Int) (ha : (Lit.int .i64 a).wf = true) (hn : (Lit.int .i64 n).wf = true) (w : World) : Calls Try.prog 49 #[.int .i64 a, .int .i64 n] w fun e w' => e = .returned (.int .u64 (nv (maskB a n))) ∧ w = w' := by
  by_cases h1 : n < 1
  · rw [mask_zero a n (by omega)]
    have g1 : decide (n < 1) = true := by simpa using h1
    go_enter Try.func49, Try.ntmps49
    go_wp2
    go_ret
    exact ⟨rfl, rfl⟩
  have g1 : decide (n < 1) = false := by simpa using h1
  by_cases h2 : a < 0
  · rw [mask_zero a n (by omega)]
    have g2 : decide (a < 0) = true := by simpa using h2
    go_enter Try.func49, Try.ntmps49
    go_wp2
    go_ret
    exact ⟨rfl, rfl⟩
  have g2 : decide (a < 0) = false := by simpa using h2
  by_cases h3 : a ≥ 64
  · rw [mask_zero a n (by omega)]
    have g3 : decide (a ≥ 64) = true := by simpa using h3
    have g4 : decide (64 ≤ a) = true := by simpa using h3
    go_enter Try.func49, Try.ntmps49
    go_wp2
    go_ret
    exact ⟨rfl, rfl⟩
  have g3 : decide (a ≥ 64) = false := by simpa using h3
  have g4 : decide (64 ≤ a) = false := by simpa using h3
  obtain ⟨A, rfl⟩ := Int.eq_ofNat_of_zero_le (show 0 ≤ a from by omega)
  by_cases h5 : n < 64
  · obtain ⟨M, rfl⟩ := Int.eq_ofNat_of_zero_le (show 0 ≤ n from by omega)
    have hm : maskB (A : Int) (M : Int) = ((1#64 <<< M) - 1#64) <<< A := by
      unfold maskB
      rw [if_pos (by omega)]
      congr 3
      omega
    rw [hm]
    clear hm
    go_enter Try.func49, Try.ntmps49
    go_wp2
    go_ret
    exact ⟨ret_int (by rw [b_one, b_sub1, b_shl]), rfl⟩
  · have hm : maskB (A : Int) n = ((1#64 <<< 64) - 1#64) <<< A := by
      unfold maskB
      rw [if_pos (by omega)]
      congr 3
      omega
    have hw : IntKind.u64.wrap (IntKind.u64.wrap (IntKind.u64.wrap 18446744073709551616 - 1) * 2 ^ A) = nv (maskB (A : Int) n) := by
      rw [hm, ← b_shl, show (1#64 <<< 64) - 1#64 = 18446744073709551615#64 from by decide, show IntKind.u64.wrap (IntKind.u64.wrap 18446744073709551616 - 1) = nv 18446744073709551615#64 from by decide]
    clear hm
    generalize nv (maskB (A : Int) n) = Z at *
    have HW := Lib.hid hw
    clear hw
    rcases (show n = 64 ∨ 64 < n from by omega) with rfl | h6
    all_goals
      go_enter Try.func49, Try.ntmps49
      go_wp2
      go_ret
      exact ⟨ret_int HW.out, rfl⟩
theorem field_any (X : B64) (a n : Int) (ha : (Lit.int .i64 a).wf = true) (hn : (Lit.int .i64 n).wf = true) (w : World) : Calls Try.prog 40 #[.int .u64 (nv X), .int .i64 a, .int .i64 n] w fun e w' => e = .returned (.int .u64 (nv (fieldB X a n))) ∧ w = w' := by
  have hM := fun w => mask_any a n ha hn w
  by_cases h : 1 ≤ n ∧ 0 ≤ a ∧ a < 64
  · have hz := mask_ne a n h
    obtain ⟨A, rfl⟩ := Int.eq_ofNat_of_zero_le (show 0 ≤ a from by omega)
    have hf : fieldB X (A : Int) n = (X &&& maskB A n) >>> A := rfl
    rw [hf]
    generalize maskB (A : Int) n = M at *
    have HM := Lib.hid hM
    have A64 : A < 64 := by omega
    clear hM hf ha hn h
    go_enter Try.func40, Try.ntmps40
    go_wp2_with fail
    refine (HM.out _).mono ?_
    rintro e w' ⟨rfl, rfl⟩
    go_wp2_with fail
    go_ret
    exact ⟨ret_int (by rw [b_and, b_shr]), rfl⟩
  · have hf : fieldB X a n = 0#64 := by unfold fieldB; rw [mask_zero a n h]; simp
    rw [hf]
    rw [mask_zero a n h] at hM
    have HM := Lib.hid hM
    clear hM hf ha hn h
    go_enter Try.func40, Try.ntmps40
    go_wp2_with fail
    refine (HM.out _).mono ?_
    rintro e w' ⟨rfl, rfl⟩
    rw [show nv 0#64 = 0 from rfl]
    go_wp2_with fail
    go_ret
    exact ⟨rfl, rfl⟩
theorem with_any (X V : B64) (a n : Int) (ha : (Lit.int .i64 a).wf = true) (hn : (Lit.int .i64 n).wf = true) (w : World) : Calls Try.prog 41 #[.int .u64 (nv X), .int .i64 a, .int .i64 n, .int .u64 (nv V)] w fun e w' => e = .returned (.int .u64 (nv (withB X a n V))) ∧ w = w' := by
  have hM := fun w => mask_any a n ha hn w
  by_cases h : 1 ≤ n ∧ 0 ≤ a ∧ a < 64
  · have hz := mask_ne a n h
    obtain ⟨A, rfl⟩ := Int.eq_ofNat_of_zero_le (show 0 ≤ a from by omega)
    have hf : withB X (A : Int) n V = (X &&& ~~~maskB A n) ||| ((V <<< A) &&& maskB A n) := rfl
    rw [hf]
    generalize maskB (A : Int) n = M at *
    have HM := Lib.hid hM
    have A64 : A < 64 := by omega
    clear hM hf ha hn h
    go_enter Try.func41, Try.ntmps41
    go_wp2_with fail
    refine (HM.out _).mono ?_
    rintro e w' ⟨rfl, rfl⟩
    go_wp2_with fail
    go_ret
    exact ⟨ret_int (by rw [b_shl, b_and, b_andNot, b_or]), rfl⟩
  · have hf : withB X a n V = X := by unfold withB; rw [mask_zero a n h, show ~~~(0#64) = BitVec.allOnes 64 from by decide, BitVec.and_allOnes]; simp
    rw [hf]
    rw [mask_zero a n h] at hM
    have HM := Lib.hid hM
    clear hM hf ha hn h
    go_enter Try.func41, Try.ntmps41
    go_wp2_with fail
    refine (HM.out _).mono ?_
    rintro e w' ⟨rfl, rfl⟩
    rw [show nv 0#64 = 0 from rfl]
    go_wp2_with fail
    go_ret
    exact ⟨rfl, rfl⟩
end Go.Proofs.Ytceoadgmiabhfaa
