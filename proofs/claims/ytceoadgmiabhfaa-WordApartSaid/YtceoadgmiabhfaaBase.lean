/- Small common lemmas: masks, bounds of whole numbers, endings. No function of the program occurs here. -/
import Derived.Test.YtceoadgmiabhfaaRows
import Derived.Laws.Externs
import Derived.Laws.BitsLemmas
import Derived.Laws.Bits64
import Derived.WalkKit
import Derived.WalkSpells
import Derived.ProofKit
import Derived.Deep.QuietTactic
import Derived.BigQuiet
import Derived.Below
namespace Go.Proofs.Ytceoadgmiabhfaa
open Go.RowKit
set_option linter.unusedVariables false
set_option linter.unusedSimpArgs false

/-- 2^64 - 1, behind a name. -/
def top : Int := 18446744073709551615
theorem u64_of_wf {x : Int} (h : (Lit.int .u64 x).wf = true) : 0 ≤ x ∧ x ≤ top := by
  simp [Lit.wf, IntKind.min, IntKind.max, IntKind.signed, IntKind.bits] at h
  unfold top; omega
theorem i64_of_wf {x : Int} (h : (Lit.int .i64 x).wf = true) : -9223372036854775808 ≤ x ∧ x ≤ 9223372036854775807 := by
  simp [Lit.wf, IntKind.min, IntKind.max, IntKind.signed, IntKind.bits] at h
  omega
theorem ret_int {k : IntKind} {a b : Int} (h : a = b) : Ending.returned (.int k a) = .returned (.int k b) := by rw [h]
theorem ret_bool {a b : Bool} (h : a = b) : Ending.returned (.bool a) = .returned (.bool b) := by rw [h]

/-- x & (2^n - 1), at 64 bits, signed or not. -/
theorem and_mask_raw (k : IntKind) (hk : k.bits = 64) (n : Nat) (hn : n ≤ 64) (x : Int) : ((BitVec.ofInt k.bits x &&& BitVec.ofInt k.bits (2 ^ n - 1)).toNat : Int) = x % 2 ^ n := by
  rw [BitVec.toNat_and, BitVec.toNat_ofInt, BitVec.toNat_ofInt, hk]
  have hp : (0 : Int) < 2 ^ n := Int.pow_pos (by decide)
  have hle : (2 : Int) ^ n ≤ 2 ^ 64 := by exact_mod_cast Nat.pow_le_pow_right (show 0 < 2 by decide) hn
  have e1 : (((2 : Int) ^ n - 1) % ((2 ^ 64 : Nat) : Int)).toNat = 2 ^ n - 1 := by
    rw [Int.emod_eq_of_lt (by omega) (by simp only [Int.natCast_pow]; simp at hle ⊢; omega)]
    have : ((2 ^ n : Nat) : Int) = (2 : Int) ^ n := by simp
    omega
  rw [e1, Nat.and_two_pow_sub_one_eq_mod]
  have h0 : 0 ≤ x % ((2 ^ 64 : Nat) : Int) := Int.emod_nonneg _ (by decide)
  rw [Int.natCast_emod, Int.toNat_of_nonneg h0, Int.natCast_pow]
  refine Int.emod_emod_of_dvd x ⟨2 ^ (64 - n), ?_⟩
  rw [Int.natCast_pow]
  show (2 : Int) ^ 64 = 2 ^ n * 2 ^ (64 - n)
  rw [← Int.pow_add]
  congr 1
  omega
theorem and_i64 (n : Nat) (hn : n ≤ 62) (x : Int) : bits .and .i64 x (2 ^ n - 1) = x % 2 ^ n := by
  show IntKind.i64.wrap ((BitVec.ofInt IntKind.i64.bits x &&& BitVec.ofInt IntKind.i64.bits (2 ^ n - 1)).toNat : Int) = _
  rw [show ((BitVec.ofInt IntKind.i64.bits x &&& BitVec.ofInt IntKind.i64.bits (2 ^ n - 1)).toNat : Int) = x % 2 ^ n from and_mask_raw .i64 rfl n (by omega) x]
  have hp : (0 : Int) < 2 ^ n := Int.pow_pos (by decide)
  have hle : (2 : Int) ^ n ≤ 2 ^ 62 := by exact_mod_cast Nat.pow_le_pow_right (show 0 < 2 by decide) hn
  have h1 := Int.emod_nonneg x (Int.ne_of_gt hp)
  have h2 := Int.emod_lt_of_pos x hp
  rw [IntKind.wrap_i64]
  simp at hle
  omega
theorem and_u64 (n : Nat) (hn : n ≤ 64) (x : Int) : bits .and .u64 x (2 ^ n - 1) = x % 2 ^ n := by
  show IntKind.u64.wrap ((BitVec.ofInt IntKind.u64.bits x &&& BitVec.ofInt IntKind.u64.bits (2 ^ n - 1)).toNat : Int) = _
  rw [show ((BitVec.ofInt IntKind.u64.bits x &&& BitVec.ofInt IntKind.u64.bits (2 ^ n - 1)).toNat : Int) = x % 2 ^ n from and_mask_raw .u64 rfl n (by omega) x]
  have hp : (0 : Int) < 2 ^ n := Int.pow_pos (by decide)
  have hle : (2 : Int) ^ n ≤ 2 ^ 64 := by exact_mod_cast Nat.pow_le_pow_right (show 0 < 2 by decide) hn
  have h1 := Int.emod_nonneg x (Int.ne_of_gt hp)
  have h2 := Int.emod_lt_of_pos x hp
  rw [IntKind.wrap_u64]
  simp at hle
  omega
theorem and_i64_7 (x : Int) : bits .and .i64 x 7 = x % 8 := and_i64 3 (by decide) x
theorem and_i64_63 (x : Int) : bits .and .i64 x 63 = x % 64 := and_i64 6 (by decide) x
theorem and_i64_255 (x : Int) : bits .and .i64 x 255 = x % 256 := and_i64 8 (by decide) x
theorem and_i64_1 (x : Int) : bits .and .i64 x 1 = x % 2 := and_i64 1 (by decide) x
theorem and_u64_7 (x : Int) : bits .and .u64 x 7 = x % 8 := and_u64 3 (by decide) x
theorem and_u64_60 (x : Int) : bits .and .u64 x 1152921504606846975 = x % 1152921504606846976 := and_u64 60 (by decide) x
theorem and_u64_61 (x : Int) : bits .and .u64 x 2305843009213693951 = x % 2305843009213693952 := and_u64 61 (by decide) x
theorem and_u64_255 (x : Int) : bits .and .u64 x 255 = x % 256 := and_u64 8 (by decide) x
theorem and_u64_4095 (x : Int) : bits .and .u64 x 4095 = x % 4096 := and_u64 12 (by decide) x
theorem and_u64_65535 (x : Int) : bits .and .u64 x 65535 = x % 65536 := and_u64 16 (by decide) x
theorem and_u64_20 (x : Int) : bits .and .u64 x 1048575 = x % 1048576 := and_u64 20 (by decide) x
theorem and_u64_21 (x : Int) : bits .and .u64 x 2097151 = x % 2097152 := and_u64 21 (by decide) x

/-! ### What was there stays: step by step -/
theorem below_step {w X w' : World} (hb : Below X.heap.size X w') (h : Below w.heap.size w X) : Below w.heap.size w w' := h.trans (hb.mono h.size)
theorem below_al {w X : World} (h : Below w.heap.size w X) (o : Obj) : Below w.heap.size w (X.alloc o) := h.alloc h.size o
theorem below_dr {w X : World} (h : Below w.heap.size w X) : Below w.heap.size w X.drew := h.drew
theorem below_drN {w X : World} (h : Below w.heap.size w X) (n : Nat) : Below w.heap.size w (X.drewN n) := ⟨h.os, h.tape, h.output, h.size, h.block⟩
end Go.Proofs.Ytceoadgmiabhfaa
