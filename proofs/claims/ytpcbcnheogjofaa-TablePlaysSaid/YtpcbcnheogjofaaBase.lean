/- Small common lemmas: masks, bounds of whole numbers, endings. No function of the program occurs here. -/
import Derived.Test.YtpcbcnheogjofaaRows
import Derived.Laws.Externs
import Derived.Laws.BitsLemmas
import Derived.Laws.Bits64
import Derived.WalkKit
import Derived.WalkSpells
import Derived.ProofKit
import Derived.Deep.QuietTactic
import Derived.BigQuiet
import Derived.Lib.Hide
import Derived.Below
import Derived.OpenShut
namespace Go.Proofs.Ytpcbcnheogjofaa
open Go.RowKit
set_option linter.unusedVariables false
set_option linter.unusedSimpArgs false

/-- 2^64 - 1, behind a name. -/
def top : Int := 18446744073709551615
theorem u64_of_wf {x : Int} (h : (Lit.int .u64 x).wf = true) : 0 ≤ x ∧ x ≤ top := by
  simp [Lit.wf, IntKind.min, IntKind.max, IntKind.signed, IntKind.bits] at h
  unfold top; omega
theorem i64_of_wf {x : Int} (h : (Lit.int .i64 x).wf = true) : -9223372036854775808 ≤ x ∧ x ≤ 9223372036854775807 := by
  simp [Lit.wf, IntKind.min, IntKind.max, IntKind.signed, IntKind.bits] at h
  omega
theorem ret_int {k : IntKind} {a b : Int} (h : a = b) : Ending.returned (.int k a) = .returned (.int k b) := by rw [h]
theorem ret_bool {a b : Bool} (h : a = b) : Ending.returned (.bool a) = .returned (.bool b) := by rw [h]

/-- x & (2^n - 1), at 64 bits, signed or not. -/
theorem and_mask_raw (k : IntKind) (hk : k.bits = 64) (n : Nat) (hn : n ≤ 64) (x : Int) : ((BitVec.ofInt k.bits x &&& BitVec.ofInt k.bits (2 ^ n - 1)).toNat : Int) = x % 2 ^ n := by
  rw [BitVec.toNat_and, BitVec.toNat_ofInt, BitVec.toNat_ofInt, hk]
  have hp : (0 : Int) < 2 ^ n := Int.pow_pos (by decide)
  have hle : (2 : Int) ^ n ≤ 2 ^ 64 := by exact_mod_cast Nat.pow_le_pow_right (show 0 < 2 by decide) hn
  have e1 : (((2 : Int) ^ n - 1) % ((2 ^ 64 : Nat) : Int)).toNat = 2 ^ n - 1 := by
    rw [Int.emod_eq_of_lt (by omega) (by simp only [Int.natCast_pow]; simp at hle ⊢; omega)]
    have : ((2 ^ n : Nat) : Int) = (2 : Int) ^ n := by simp
    omega
  rw [e1, Nat.and_two_pow_sub_one_eq_mod]
  have h0 : 0 ≤ x % ((2 ^ 64 : Nat) : Int) := Int.emod_nonneg _ (by decide)
  rw [Int.natCast_emod, Int.toNat_of_nonneg h0, Int.natCast_pow]
  refine Int.emod_emod_of_dvd x ⟨2 ^ (64 - n), ?_⟩
  rw [Int.natCast_pow]
  show (2 : Int) ^ 64 = 2 ^ n * 2 ^ (64 - n)
  rw [← Int.pow_add]
  congr 1
  omega
theorem and_i64 (n : Nat) (hn : n ≤ 62) (x : Int) : bits .and .i64 x (2 ^ n - 1) = x % 2 ^ n := by
  show IntKind.i64.wrap ((BitVec.ofInt IntKind.i64.bits x &&& BitVec.ofInt IntKind.i64.bits (2 ^ n - 1)).toNat : Int) = _
  rw [show ((BitVec.ofInt IntKind.i64.bits x &&& BitVec.ofInt IntKind.i64.bits (2 ^ n - 1)).toNat : Int) = x % 2 ^ n from and_mask_raw .i64 rfl n (by omega) x]
  have hp : (0 : Int) < 2 ^ n := Int.pow_pos (by decide)
  have hle : (2 : Int) ^ n ≤ 2 ^ 62 := by exact_mod_cast Nat.pow_le_pow_right (show 0 < 2 by decide) hn
  have h1 := Int.emod_nonneg x (Int.ne_of_gt hp)
  have h2 := Int.emod_lt_of_pos x hp
  rw [IntKind.wrap_i64]
  simp at hle
  omega
theorem and_u64 (n : Nat) (hn : n ≤ 64) (x : Int) : bits .and .u64 x (2 ^ n - 1) = x % 2 ^ n := by
  show IntKind.u64.wrap ((BitVec.ofInt IntKind.u64.bits x &&& BitVec.ofInt IntKind.u64.bits (2 ^ n - 1)).toNat : Int) = _
  rw [show ((BitVec.ofInt IntKind.u64.bits x &&& BitVec.ofInt IntKind.u64.bits (2 ^ n - 1)).toNat : Int) = x % 2 ^ n from and_mask_raw .u64 rfl n (by omega) x]
  have hp : (0 : Int) < 2 ^ n := Int.pow_pos (by decide)
  have hle : (2 : Int) ^ n ≤ 2 ^ 64 := by exact_mod_cast Nat.pow_le_pow_right (show 0 < 2 by decide) hn
  have h1 := Int.emod_nonneg x (Int.ne_of_gt hp)
  have h2 := Int.emod_lt_of_pos x hp
  rw [IntKind.wrap_u64]
  simp at hle
  omega
theorem and_i64_7 (x : Int) : bits .and .i64 x 7 = x % 8 := and_i64 3 (by decide) x
theorem and_i64_63 (x : Int) : bits .and .i64 x 63 = x % 64 := and_i64 6 (by decide) x
theorem and_i64_255 (x : Int) : bits .and .i64 x 255 = x % 256 := and_i64 8 (by decide) x
theorem and_i64_1 (x : Int) : bits .and .i64 x 1 = x % 2 := and_i64 1 (by decide) x
theorem and_u64_7 (x : Int) : bits .and .u64 x 7 = x % 8 := and_u64 3 (by decide) x
theorem and_u64_60 (x : Int) : bits .and .u64 x 1152921504606846975 = x % 1152921504606846976 := and_u64 60 (by decide) x
theorem and_u64_61 (x : Int) : bits .and .u64 x 2305843009213693951 = x % 2305843009213693952 := and_u64 61 (by decide) x
theorem and_u64_255 (x : Int) : bits .and .u64 x 255 = x % 256 := and_u64 8 (by decide) x
theorem and_u64_4095 (x : Int) : bits .and .u64 x 4095 = x % 4096 := and_u64 12 (by decide) x
theorem and_u64_65535 (x : Int) : bits .and .u64 x 65535 = x % 65536 := and_u64 16 (by decide) x
theorem and_u64_20 (x : Int) : bits .and .u64 x 1048575 = x % 1048576 := and_u64 20 (by decide) x
theorem and_u64_21 (x : Int) : bits .and .u64 x 2097151 = x % 2097152 := and_u64 21 (by decide) x

/-! ### What was there stays: step by step -/
theorem below_step {w X w' : World} (hb : Below X.heap.size X w') (h : Below w.heap.size w X) : Below w.heap.size w w' := h.trans (hb.mono h.size)
theorem below_al {w X : World} (h : Below w.heap.size w X) (o : Obj) : Below w.heap.size w (X.alloc o) := h.alloc h.size o
theorem below_dr {w X : World} (h : Below w.heap.size w X) : Below w.heap.size w X.drew := h.drew
theorem below_drN {w X : World} (h : Below w.heap.size w X) (n : Nat) : Below w.heap.size w (X.drewN n) := ⟨h.os, h.tape, h.output, h.size, h.block⟩

/-! ### A slice of whole numbers that came in: empty, or at a plain address -/
theorem row_cases {k : IntKind} {w : World} {a : Option Addr} {len cap : Nat} {zs : List Int}
    (h : (a = none ∧ len = 0 ∧ cap = 0 ∧ zs = []) ∨ ∃ x, a = some x ∧ len ≤ cap ∧ cap ≤ maxLen ∧ zs.length = cap ∧ (∀ i, i < zs.length → w.cell? (x.add i) = some (.int k (zs.getD i 0))) ∧ ∀ n ∈ zs, (Lit.int k n).wf = true) :
    len = 0 ∨ ∃ b off, a = some ⟨b, off, none⟩ ∧ len ≤ zs.length ∧ len ≤ 9223372036854775807 ∧ b < w.heap.size ∧ (∀ j, j < zs.length → w.cell? ⟨b, off + j, none⟩ = some (.int k (zs.getD j 0))) ∧ ∀ j, j < zs.length → (Lit.int k (zs.getD j 0)).wf = true := by
  rcases h with ⟨_, h, _⟩ | ⟨x, rfl, hl, hm, hz, hc, hw⟩
  · exact .inl h
  · rcases Nat.eq_zero_or_pos len with h0 | h0
    · exact .inl h0
    · obtain ⟨b, off, rfl, hc'⟩ := ints_at hc (by omega)
      refine .inr ⟨b, off, rfl, by omega, by unfold maxLen at hm; omega, World.block_lt_of_cell? w _ (hc' 0 (by omega)), hc', fun j hj => hw _ ?_⟩
      rw [List.getD_eq_getElem?_getD, List.getElem?_eq_getElem hj]
      exact List.getElem_mem _
theorem cell_keeps {w W : World} (h : Below w.heap.size w W) {b o : Nat} {v : Value} (hb : b < w.heap.size) (hc : w.cell? ⟨b, o, none⟩ = some v) : W.cell? ⟨b, o, none⟩ = some v := (h.cell (p := ⟨b, o, none⟩) hb).trans hc
/-- A contract that leaves the world alone, for a region whose order is drawn. -/
theorem same_eq {P : Program} {f : FuncId} {args : Array Value} {w : World} {v : Value} (h : Calls P f args w fun e w' => e = .returned v ∧ w = w') : Calls P f args w fun e w' => e = .returned v ∧ w' = w :=
  h.mono fun _ _ ⟨a, b⟩ => ⟨a, b.symm⟩
theorem cell_goes {X w' : World} {a : Addr} {v : Value} (hb : Below X.heap.size X w') (hc : X.cell? a = some v) : w'.cell? a = some v := (hb.cell (World.block_lt_of_cell? X a hc)).trans hc
theorem below_goes {w X w' : World} (hb : Below X.heap.size X w') (h : Below w.heap.size w X) : Below w.heap.size w w' := below_step hb h
/-! ### Cells that are loaded in a region whose order is drawn, behind a call that writes nothing old -/
theorem keep1 {w X w' : World} {a0 : Addr} {v0 : Value} (hb : Below X.heap.size X w') (h : X.cell? a0 = some v0 ∧ Below w.heap.size w X) : w'.cell? a0 = some v0 ∧ Below w.heap.size w w' := by
  obtain ⟨h0, h'⟩ := h
  exact ⟨cell_goes hb h0, below_step hb h'⟩
theorem keep2 {w X w' : World} {a0 a1 : Addr} {v0 v1 : Value} (hb : Below X.heap.size X w') (h : X.cell? a0 = some v0 ∧ X.cell? a1 = some v1 ∧ Below w.heap.size w X) : w'.cell? a0 = some v0 ∧ w'.cell? a1 = some v1 ∧ Below w.heap.size w w' := by
  obtain ⟨h0, h1, h'⟩ := h
  exact ⟨cell_goes hb h0, cell_goes hb h1, below_step hb h'⟩
theorem keep3 {w X w' : World} {a0 a1 a2 : Addr} {v0 v1 v2 : Value} (hb : Below X.heap.size X w') (h : X.cell? a0 = some v0 ∧ X.cell? a1 = some v1 ∧ X.cell? a2 = some v2 ∧ Below w.heap.size w X) : w'.cell? a0 = some v0 ∧ w'.cell? a1 = some v1 ∧ w'.cell? a2 = some v2 ∧ Below w.heap.size w w' := by
  obtain ⟨h0, h1, h2, h'⟩ := h
  exact ⟨cell_goes hb h0, cell_goes hb h1, cell_goes hb h2, below_step hb h'⟩
theorem keep4 {w X w' : World} {a0 a1 a2 a3 : Addr} {v0 v1 v2 v3 : Value} (hb : Below X.heap.size X w') (h : X.cell? a0 = some v0 ∧ X.cell? a1 = some v1 ∧ X.cell? a2 = some v2 ∧ X.cell? a3 = some v3 ∧ Below w.heap.size w X) : w'.cell? a0 = some v0 ∧ w'.cell? a1 = some v1 ∧ w'.cell? a2 = some v2 ∧ w'.cell? a3 = some v3 ∧ Below w.heap.size w w' := by
  obtain ⟨h0, h1, h2, h3, h'⟩ := h
  exact ⟨cell_goes hb h0, cell_goes hb h1, cell_goes hb h2, cell_goes hb h3, below_step hb h'⟩
theorem keep5 {w X w' : World} {a0 a1 a2 a3 a4 : Addr} {v0 v1 v2 v3 v4 : Value} (hb : Below X.heap.size X w') (h : X.cell? a0 = some v0 ∧ X.cell? a1 = some v1 ∧ X.cell? a2 = some v2 ∧ X.cell? a3 = some v3 ∧ X.cell? a4 = some v4 ∧ Below w.heap.size w X) : w'.cell? a0 = some v0 ∧ w'.cell? a1 = some v1 ∧ w'.cell? a2 = some v2 ∧ w'.cell? a3 = some v3 ∧ w'.cell? a4 = some v4 ∧ Below w.heap.size w w' := by
  obtain ⟨h0, h1, h2, h3, h4, h'⟩ := h
  exact ⟨cell_goes hb h0, cell_goes hb h1, cell_goes hb h2, cell_goes hb h3, cell_goes hb h4, below_step hb h'⟩
theorem keep6 {w X w' : World} {a0 a1 a2 a3 a4 a5 : Addr} {v0 v1 v2 v3 v4 v5 : Value} (hb : Below X.heap.size X w') (h : X.cell? a0 = some v0 ∧ X.cell? a1 = some v1 ∧ X.cell? a2 = some v2 ∧ X.cell? a3 = some v3 ∧ X.cell? a4 = some v4 ∧ X.cell? a5 = some v5 ∧ Below w.heap.size w X) : w'.cell? a0 = some v0 ∧ w'.cell? a1 = some v1 ∧ w'.cell? a2 = some v2 ∧ w'.cell? a3 = some v3 ∧ w'.cell? a4 = some v4 ∧ w'.cell? a5 = some v5 ∧ Below w.heap.size w w' := by
  obtain ⟨h0, h1, h2, h3, h4, h5, h'⟩ := h
  exact ⟨cell_goes hb h0, cell_goes hb h1, cell_goes hb h2, cell_goes hb h3, cell_goes hb h4, cell_goes hb h5, below_step hb h'⟩
theorem keep7 {w X w' : World} {a0 a1 a2 a3 a4 a5 a6 : Addr} {v0 v1 v2 v3 v4 v5 v6 : Value} (hb : Below X.heap.size X w') (h : X.cell? a0 = some v0 ∧ X.cell? a1 = some v1 ∧ X.cell? a2 = some v2 ∧ X.cell? a3 = some v3 ∧ X.cell? a4 = some v4 ∧ X.cell? a5 = some v5 ∧ X.cell? a6 = some v6 ∧ Below w.heap.size w X) : w'.cell? a0 = some v0 ∧ w'.cell? a1 = some v1 ∧ w'.cell? a2 = some v2 ∧ w'.cell? a3 = some v3 ∧ w'.cell? a4 = some v4 ∧ w'.cell? a5 = some v5 ∧ w'.cell? a6 = some v6 ∧ Below w.heap.size w w' := by
  obtain ⟨h0, h1, h2, h3, h4, h5, h6, h'⟩ := h
  exact ⟨cell_goes hb h0, cell_goes hb h1, cell_goes hb h2, cell_goes hb h3, cell_goes hb h4, cell_goes hb h5, cell_goes hb h6, below_step hb h'⟩
theorem keep8 {w X w' : World} {a0 a1 a2 a3 a4 a5 a6 a7 : Addr} {v0 v1 v2 v3 v4 v5 v6 v7 : Value} (hb : Below X.heap.size X w') (h : X.cell? a0 = some v0 ∧ X.cell? a1 = some v1 ∧ X.cell? a2 = some v2 ∧ X.cell? a3 = some v3 ∧ X.cell? a4 = some v4 ∧ X.cell? a5 = some v5 ∧ X.cell? a6 = some v6 ∧ X.cell? a7 = some v7 ∧ Below w.heap.size w X) : w'.cell? a0 = some v0 ∧ w'.cell? a1 = some v1 ∧ w'.cell? a2 = some v2 ∧ w'.cell? a3 = some v3 ∧ w'.cell? a4 = some v4 ∧ w'.cell? a5 = some v5 ∧ w'.cell? a6 = some v6 ∧ w'.cell? a7 = some v7 ∧ Below w.heap.size w w' := by
  obtain ⟨h0, h1, h2, h3, h4, h5, h6, h7, h'⟩ := h
  exact ⟨cell_goes hb h0, cell_goes hb h1, cell_goes hb h2, cell_goes hb h3, cell_goes hb h4, cell_goes hb h5, cell_goes hb h6, cell_goes hb h7, below_step hb h'⟩
theorem keep9 {w X w' : World} {a0 a1 a2 a3 a4 a5 a6 a7 a8 : Addr} {v0 v1 v2 v3 v4 v5 v6 v7 v8 : Value} (hb : Below X.heap.size X w') (h : X.cell? a0 = some v0 ∧ X.cell? a1 = some v1 ∧ X.cell? a2 = some v2 ∧ X.cell? a3 = some v3 ∧ X.cell? a4 = some v4 ∧ X.cell? a5 = some v5 ∧ X.cell? a6 = some v6 ∧ X.cell? a7 = some v7 ∧ X.cell? a8 = some v8 ∧ Below w.heap.size w X) : w'.cell? a0 = some v0 ∧ w'.cell? a1 = some v1 ∧ w'.cell? a2 = some v2 ∧ w'.cell? a3 = some v3 ∧ w'.cell? a4 = some v4 ∧ w'.cell? a5 = some v5 ∧ w'.cell? a6 = some v6 ∧ w'.cell? a7 = some v7 ∧ w'.cell? a8 = some v8 ∧ Below w.heap.size w w' := by
  obtain ⟨h0, h1, h2, h3, h4, h5, h6, h7, h8, h'⟩ := h
  exact ⟨cell_goes hb h0, cell_goes hb h1, cell_goes hb h2, cell_goes hb h3, cell_goes hb h4, cell_goes hb h5, cell_goes hb h6, cell_goes hb h7, cell_goes hb h8, below_step hb h'⟩
theorem keep10 {w X w' : World} {a0 a1 a2 a3 a4 a5 a6 a7 a8 a9 : Addr} {v0 v1 v2 v3 v4 v5 v6 v7 v8 v9 : Value} (hb : Below X.heap.size X w') (h : X.cell? a0 = some v0 ∧ X.cell? a1 = some v1 ∧ X.cell? a2 = some v2 ∧ X.cell? a3 = some v3 ∧ X.cell? a4 = some v4 ∧ X.cell? a5 = some v5 ∧ X.cell? a6 = some v6 ∧ X.cell? a7 = some v7 ∧ X.cell? a8 = some v8 ∧ X.cell? a9 = some v9 ∧ Below w.heap.size w X) : w'.cell? a0 = some v0 ∧ w'.cell? a1 = some v1 ∧ w'.cell? a2 = some v2 ∧ w'.cell? a3 = some v3 ∧ w'.cell? a4 = some v4 ∧ w'.cell? a5 = some v5 ∧ w'.cell? a6 = some v6 ∧ w'.cell? a7 = some v7 ∧ w'.cell? a8 = some v8 ∧ w'.cell? a9 = some v9 ∧ Below w.heap.size w w' := by
  obtain ⟨h0, h1, h2, h3, h4, h5, h6, h7, h8, h9, h'⟩ := h
  exact ⟨cell_goes hb h0, cell_goes hb h1, cell_goes hb h2, cell_goes hb h3, cell_goes hb h4, cell_goes hb h5, cell_goes hb h6, cell_goes hb h7, cell_goes hb h8, cell_goes hb h9, below_step hb h'⟩
theorem keep11 {w X w' : World} {a0 a1 a2 a3 a4 a5 a6 a7 a8 a9 a10 : Addr} {v0 v1 v2 v3 v4 v5 v6 v7 v8 v9 v10 : Value} (hb : Below X.heap.size X w') (h : X.cell? a0 = some v0 ∧ X.cell? a1 = some v1 ∧ X.cell? a2 = some v2 ∧ X.cell? a3 = some v3 ∧ X.cell? a4 = some v4 ∧ X.cell? a5 = some v5 ∧ X.cell? a6 = some v6 ∧ X.cell? a7 = some v7 ∧ X.cell? a8 = some v8 ∧ X.cell? a9 = some v9 ∧ X.cell? a10 = some v10 ∧ Below w.heap.size w X) : w'.cell? a0 = some v0 ∧ w'.cell? a1 = some v1 ∧ w'.cell? a2 = some v2 ∧ w'.cell? a3 = some v3 ∧ w'.cell? a4 = some v4 ∧ w'.cell? a5 = some v5 ∧ w'.cell? a6 = some v6 ∧ w'.cell? a7 = some v7 ∧ w'.cell? a8 = some v8 ∧ w'.cell? a9 = some v9 ∧ w'.cell? a10 = some v10 ∧ Below w.heap.size w w' := by
  obtain ⟨h0, h1, h2, h3, h4, h5, h6, h7, h8, h9, h10, h'⟩ := h
  exact ⟨cell_goes hb h0, cell_goes hb h1, cell_goes hb h2, cell_goes hb h3, cell_goes hb h4, cell_goes hb h5, cell_goes hb h6, cell_goes hb h7, cell_goes hb h8, cell_goes hb h9, cell_goes hb h10, below_step hb h'⟩
theorem keep12 {w X w' : World} {a0 a1 a2 a3 a4 a5 a6 a7 a8 a9 a10 a11 : Addr} {v0 v1 v2 v3 v4 v5 v6 v7 v8 v9 v10 v11 : Value} (hb : Below X.heap.size X w') (h : X.cell? a0 = some v0 ∧ X.cell? a1 = some v1 ∧ X.cell? a2 = some v2 ∧ X.cell? a3 = some v3 ∧ X.cell? a4 = some v4 ∧ X.cell? a5 = some v5 ∧ X.cell? a6 = some v6 ∧ X.cell? a7 = some v7 ∧ X.cell? a8 = some v8 ∧ X.cell? a9 = some v9 ∧ X.cell? a10 = some v10 ∧ X.cell? a11 = some v11 ∧ Below w.heap.size w X) : w'.cell? a0 = some v0 ∧ w'.cell? a1 = some v1 ∧ w'.cell? a2 = some v2 ∧ w'.cell? a3 = some v3 ∧ w'.cell? a4 = some v4 ∧ w'.cell? a5 = some v5 ∧ w'.cell? a6 = some v6 ∧ w'.cell? a7 = some v7 ∧ w'.cell? a8 = some v8 ∧ w'.cell? a9 = some v9 ∧ w'.cell? a10 = some v10 ∧ w'.cell? a11 = some v11 ∧ Below w.heap.size w w' := by
  obtain ⟨h0, h1, h2, h3, h4, h5, h6, h7, h8, h9, h10, h11, h'⟩ := h
  exact ⟨cell_goes hb h0, cell_goes hb h1, cell_goes hb h2, cell_goes hb h3, cell_goes hb h4, cell_goes hb h5, cell_goes hb h6, cell_goes hb h7, cell_goes hb h8, cell_goes hb h9, cell_goes hb h10, cell_goes hb h11, below_step hb h'⟩
theorem last1 {w X : World} {a0 : Addr} {v0 : Value} (h : X.cell? a0 = some v0 ∧ Below w.heap.size w X) : Below w.heap.size w X := h.2
theorem last2 {w X : World} {a0 a1 : Addr} {v0 v1 : Value} (h : X.cell? a0 = some v0 ∧ X.cell? a1 = some v1 ∧ Below w.heap.size w X) : Below w.heap.size w X := h.2.2
theorem last3 {w X : World} {a0 a1 a2 : Addr} {v0 v1 v2 : Value} (h : X.cell? a0 = some v0 ∧ X.cell? a1 = some v1 ∧ X.cell? a2 = some v2 ∧ Below w.heap.size w X) : Below w.heap.size w X := h.2.2.2
theorem last4 {w X : World} {a0 a1 a2 a3 : Addr} {v0 v1 v2 v3 : Value} (h : X.cell? a0 = some v0 ∧ X.cell? a1 = some v1 ∧ X.cell? a2 = some v2 ∧ X.cell? a3 = some v3 ∧ Below w.heap.size w X) : Below w.heap.size w X := h.2.2.2.2
theorem last5 {w X : World} {a0 a1 a2 a3 a4 : Addr} {v0 v1 v2 v3 v4 : Value} (h : X.cell? a0 = some v0 ∧ X.cell? a1 = some v1 ∧ X.cell? a2 = some v2 ∧ X.cell? a3 = some v3 ∧ X.cell? a4 = some v4 ∧ Below w.heap.size w X) : Below w.heap.size w X := h.2.2.2.2.2
theorem last6 {w X : World} {a0 a1 a2 a3 a4 a5 : Addr} {v0 v1 v2 v3 v4 v5 : Value} (h : X.cell? a0 = some v0 ∧ X.cell? a1 = some v1 ∧ X.cell? a2 = some v2 ∧ X.cell? a3 = some v3 ∧ X.cell? a4 = some v4 ∧ X.cell? a5 = some v5 ∧ Below w.heap.size w X) : Below w.heap.size w X := h.2.2.2.2.2.2
theorem last7 {w X : World} {a0 a1 a2 a3 a4 a5 a6 : Addr} {v0 v1 v2 v3 v4 v5 v6 : Value} (h : X.cell? a0 = some v0 ∧ X.cell? a1 = some v1 ∧ X.cell? a2 = some v2 ∧ X.cell? a3 = some v3 ∧ X.cell? a4 = some v4 ∧ X.cell? a5 = some v5 ∧ X.cell? a6 = some v6 ∧ Below w.heap.size w X) : Below w.heap.size w X := h.2.2.2.2.2.2.2
theorem last8 {w X : World} {a0 a1 a2 a3 a4 a5 a6 a7 : Addr} {v0 v1 v2 v3 v4 v5 v6 v7 : Value} (h : X.cell? a0 = some v0 ∧ X.cell? a1 = some v1 ∧ X.cell? a2 = some v2 ∧ X.cell? a3 = some v3 ∧ X.cell? a4 = some v4 ∧ X.cell? a5 = some v5 ∧ X.cell? a6 = some v6 ∧ X.cell? a7 = some v7 ∧ Below w.heap.size w X) : Below w.heap.size w X := h.2.2.2.2.2.2.2.2
theorem last9 {w X : World} {a0 a1 a2 a3 a4 a5 a6 a7 a8 : Addr} {v0 v1 v2 v3 v4 v5 v6 v7 v8 : Value} (h : X.cell? a0 = some v0 ∧ X.cell? a1 = some v1 ∧ X.cell? a2 = some v2 ∧ X.cell? a3 = some v3 ∧ X.cell? a4 = some v4 ∧ X.cell? a5 = some v5 ∧ X.cell? a6 = some v6 ∧ X.cell? a7 = some v7 ∧ X.cell? a8 = some v8 ∧ Below w.heap.size w X) : Below w.heap.size w X := h.2.2.2.2.2.2.2.2.2
theorem last10 {w X : World} {a0 a1 a2 a3 a4 a5 a6 a7 a8 a9 : Addr} {v0 v1 v2 v3 v4 v5 v6 v7 v8 v9 : Value} (h : X.cell? a0 = some v0 ∧ X.cell? a1 = some v1 ∧ X.cell? a2 = some v2 ∧ X.cell? a3 = some v3 ∧ X.cell? a4 = some v4 ∧ X.cell? a5 = some v5 ∧ X.cell? a6 = some v6 ∧ X.cell? a7 = some v7 ∧ X.cell? a8 = some v8 ∧ X.cell? a9 = some v9 ∧ Below w.heap.size w X) : Below w.heap.size w X := h.2.2.2.2.2.2.2.2.2.2
theorem last11 {w X : World} {a0 a1 a2 a3 a4 a5 a6 a7 a8 a9 a10 : Addr} {v0 v1 v2 v3 v4 v5 v6 v7 v8 v9 v10 : Value} (h : X.cell? a0 = some v0 ∧ X.cell? a1 = some v1 ∧ X.cell? a2 = some v2 ∧ X.cell? a3 = some v3 ∧ X.cell? a4 = some v4 ∧ X.cell? a5 = some v5 ∧ X.cell? a6 = some v6 ∧ X.cell? a7 = some v7 ∧ X.cell? a8 = some v8 ∧ X.cell? a9 = some v9 ∧ X.cell? a10 = some v10 ∧ Below w.heap.size w X) : Below w.heap.size w X := h.2.2.2.2.2.2.2.2.2.2.2
theorem last12 {w X : World} {a0 a1 a2 a3 a4 a5 a6 a7 a8 a9 a10 a11 : Addr} {v0 v1 v2 v3 v4 v5 v6 v7 v8 v9 v10 v11 : Value} (h : X.cell? a0 = some v0 ∧ X.cell? a1 = some v1 ∧ X.cell? a2 = some v2 ∧ X.cell? a3 = some v3 ∧ X.cell? a4 = some v4 ∧ X.cell? a5 = some v5 ∧ X.cell? a6 = some v6 ∧ X.cell? a7 = some v7 ∧ X.cell? a8 = some v8 ∧ X.cell? a9 = some v9 ∧ X.cell? a10 = some v10 ∧ X.cell? a11 = some v11 ∧ Below w.heap.size w X) : Below w.heap.size w X := h.2.2.2.2.2.2.2.2.2.2.2.2
end Go.Proofs.Ytpcbcnheogjofaa
