/- Parts of the proof of TopOnce, under no condition. -/
import Derived.Test.YtcfhkbcllijnkaaGreatRows
import Derived.Laws.Externs
import Derived.Laws.BitsLemmas
import Derived.Laws.Bits64
import Derived.WalkKit
import Derived.WalkSpells
import Derived.ProofKit
import Derived.Deep.QuietTactic
import Derived.BigQuiet
import Derived.Lib.Hide
import Derived.Below
import Derived.OpenShut
set_option linter.unusedVariables false
set_option linter.unusedSimpArgs false
set_option maxRecDepth 100000
set_option maxHeartbeats 0
namespace Go.Proofs.YtcfhkbcllijnkaaGreat
open Go.RowKit
def top : Int := 18446744073709551615
theorem zgm {x : Int} (h : (Lit.int .u64 x).wf = true) : 0 ≤ x ∧ x ≤ top := by
 simp [Lit.wf, IntKind.min, IntKind.max, IntKind.signed, IntKind.bits] at h
 unfold top; omega
theorem zic {k : IntKind} {a b : Int} (h : a = b) : Ending.returned (.int k a) = .returned (.int k b) := by rw [h]
theorem zid {a b : Bool} (h : a = b) : Ending.returned (.bool a) = .returned (.bool b) := by rw [h]
theorem zfz (k : IntKind) (hk : k.bits = 64) (n : Nat) (hn : n ≤ 64) (x : Int) : ((BitVec.ofInt k.bits x &&& BitVec.ofInt k.bits (2 ^ n - 1)).toNat : Int) = x % 2 ^ n := by
 rw [BitVec.toNat_and, BitVec.toNat_ofInt, BitVec.toNat_ofInt, hk]
 have hp : (0 : Int) < 2 ^ n := Int.pow_pos (by decide)
 have hle : (2 : Int) ^ n ≤ 2 ^ 64 := by exact_mod_cast Nat.pow_le_pow_right (show 0 < 2 by decide) hn
 have e1 : (((2 : Int) ^ n - 1) % ((2 ^ 64 : Nat) : Int)).toNat = 2 ^ n - 1 := by
  rw [Int.emod_eq_of_lt (by omega) (by simp only [Int.natCast_pow]; simp at hle ⊢; omega)]
  have : ((2 ^ n : Nat) : Int) = (2 : Int) ^ n := by simp
  omega
 rw [e1, Nat.and_two_pow_sub_one_eq_mod]
 have h0 : 0 ≤ x % ((2 ^ 64 : Nat) : Int) := Int.emod_nonneg _ (by decide)
 rw [Int.natCast_emod, Int.toNat_of_nonneg h0, Int.natCast_pow]
 refine Int.emod_emod_of_dvd x ⟨2 ^ (64 - n), ?_⟩
 rw [Int.natCast_pow]
 show (2 : Int) ^ 64 = 2 ^ n * 2 ^ (64 - n)
 rw [← Int.pow_add]
 congr 1
 omega
theorem zk2 (n : Nat) (hn : n ≤ 62) (x : Int) : bits .and .i64 x (2 ^ n - 1) = x % 2 ^ n := by
 show IntKind.i64.wrap ((BitVec.ofInt IntKind.i64.bits x &&& BitVec.ofInt IntKind.i64.bits (2 ^ n - 1)).toNat : Int) = _
 rw [show ((BitVec.ofInt IntKind.i64.bits x &&& BitVec.ofInt IntKind.i64.bits (2 ^ n - 1)).toNat : Int) = x % 2 ^ n from zfz .i64 rfl n (by omega) x]
 have hp : (0 : Int) < 2 ^ n := Int.pow_pos (by decide)
 have hle : (2 : Int) ^ n ≤ 2 ^ 62 := by exact_mod_cast Nat.pow_le_pow_right (show 0 < 2 by decide) hn
 have h1 := Int.emod_nonneg x (Int.ne_of_gt hp)
 have h2 := Int.emod_lt_of_pos x hp
 rw [IntKind.wrap_i64]
 simp at hle
 omega
theorem ztw (n : Nat) (hn : n ≤ 64) (x : Int) : bits .and .u64 x (2 ^ n - 1) = x % 2 ^ n := by
 show IntKind.u64.wrap ((BitVec.ofInt IntKind.u64.bits x &&& BitVec.ofInt IntKind.u64.bits (2 ^ n - 1)).toNat : Int) = _
 rw [show ((BitVec.ofInt IntKind.u64.bits x &&& BitVec.ofInt IntKind.u64.bits (2 ^ n - 1)).toNat : Int) = x % 2 ^ n from zfz .u64 rfl n (by omega) x]
 have hp : (0 : Int) < 2 ^ n := Int.pow_pos (by decide)
 have hle : (2 : Int) ^ n ≤ 2 ^ 64 := by exact_mod_cast Nat.pow_le_pow_right (show 0 < 2 by decide) hn
 have h1 := Int.emod_nonneg x (Int.ne_of_gt hp)
 have h2 := Int.emod_lt_of_pos x hp
 rw [IntKind.wrap_u64]
 simp at hle
 omega
theorem zgn (x : Int) : bits .and .i64 x 7 = x % 8 := zk2 3 (by decide) x
theorem zm7 (x : Int) : bits .and .i64 x 63 = x % 64 := zk2 6 (by decide) x
theorem zjk (x : Int) : bits .and .u64 x 7 = x % 8 := ztw 3 (by decide) x
theorem zad {w X w' : World} (hb : Below X.heap.size X w') (h : Below w.heap.size w X) : Below w.heap.size w w' := h.trans (hb.mono h.size)
theorem zab {w X : World} (h : Below w.heap.size w X) (o : Obj) : Below w.heap.size w (X.alloc o) := h.alloc h.size o
theorem zaf {w X : World} (h : Below w.heap.size w X) : Below w.heap.size w X.drew := h.drew
theorem zjl {w X : World} (h : Below w.heap.size w X) (n : Nat) : Below w.heap.size w (X.drewN n) := ⟨h.os, h.tape, h.output, h.size, h.block⟩
theorem zjm {k : IntKind} {w : World} {a : Option Addr} {len cap : Nat} {zs : List Int}
 (h : (a = none ∧ len = 0 ∧ cap = 0 ∧ zs = []) ∨ ∃ x, a = some x ∧ len ≤ cap ∧ cap ≤ maxLen ∧ zs.length = cap ∧ (∀ i, i < zs.length → w.cell? (x.add i) = some (.int k (zs.getD i 0))) ∧ ∀ n ∈ zs, (Lit.int k n).wf = true) :
 len = 0 ∨ ∃ b off, a = some ⟨b, off, none⟩ ∧ len ≤ zs.length ∧ len ≤ 9223372036854775807 ∧ b < w.heap.size ∧ (∀ j, j < zs.length → w.cell? ⟨b, off + j, none⟩ = some (.int k (zs.getD j 0))) ∧ ∀ j, j < zs.length → (Lit.int k (zs.getD j 0)).wf = true := by
 rcases h with ⟨_, h, _⟩ | ⟨x, rfl, hl, hm, hz, hc, hw⟩
 · exact .inl h
 ·
  rcases Nat.eq_zero_or_pos len with h0 | h0
  · exact .inl h0
  ·
   obtain ⟨b, off, rfl, hc'⟩ := ints_at hc (by omega)
   refine .inr ⟨b, off, rfl, by omega, by unfold maxLen at hm; omega, World.block_lt_of_cell? w _ (hc' 0 (by omega)), hc', fun j hj => hw _ ?_⟩
   rw [List.getD_eq_getElem?_getD, List.getElem?_eq_getElem hj]
   exact List.getElem_mem _
theorem zbr {w W : World} (h : Below w.heap.size w W) {b o : Nat} {v : Value} (hb : b < w.heap.size) (hc : w.cell? ⟨b, o, none⟩ = some v) : W.cell? ⟨b, o, none⟩ = some v := (h.cell (p := ⟨b, o, none⟩) hb).trans hc
theorem zdr {P : Program} {f : FuncId} {args : Array Value} {w : World} {v : Value} (h : Calls P f args w fun e w' => e = .returned v ∧ w = w') : Calls P f args w fun e w' => e = .returned v ∧ w' = w :=
 h.mono fun _ _ ⟨a, b⟩ => ⟨a, b.symm⟩
theorem zae {X w' : World} {a : Addr} {v : Value} (hb : Below X.heap.size X w') (hc : X.cell? a = some v) : w'.cell? a = some v := (hb.cell (World.block_lt_of_cell? X a hc)).trans hc
theorem yyi {a b : Prop} (h : a) (k : b) : a ∧ b := ⟨h, k⟩
theorem yyh {p : Prop} (h : p) : RowKit.Hid p := Lib.hid h
theorem yyr {n : Nat} {w : World} : Below n w w := Below.refl _ _
theorem yye {α : Type} (a : α) : ∃ x, a = x := ⟨_, rfl⟩
theorem yyn {n : Nat} : n ≤ n := Nat.le_refl n
theorem yyg {α : Type} {l : List α} {i : Nat} (h : i < l.length) : l[i]? = some l[i] := List.getElem?_eq_getElem h
theorem yyk {α : Type} {l : List α} {i : Nat} {a : α} : l[i]? = some a ↔ ∃ h : i < l.length, l[i] = a := List.getElem?_eq_some_iff
theorem yyd {α : Type} {l : List α} {i : Nat} {a : α} : l.getD i a = l[i]?.getD a := List.getD_eq_getElem?_getD
theorem yya {α : Type} {l : Array α} {i : Nat} {a : α} : l[i]? = some a ↔ ∃ h : i < l.size, l[i] = a := Array.getElem?_eq_some_iff
end Go.Proofs.YtcfhkbcllijnkaaGreat
namespace Go.Proofs.YtcfhkbcllijnkaaGreat
structure En where
 key : Int
 id : Int
instance : Inhabited En := ⟨⟨0, 0⟩⟩
def zob (a b : Int) : Int := if a < b then -1 else if b < a then 1 else 0
def zb1 (a b : En) : Int := if zob a.key b.key ≠ 0 then zob a.key b.key else zob a.id b.id
def ltE (a b : En) : Bool := decide (zb1 a b < 0)
theorem zee (a b : Int) : (a < b ∧ zob a b = -1) ∨ (a = b ∧ zob a b = 0) ∨ (b < a ∧ zob a b = 1) := by
 unfold zob
 split
 · exact .inl ⟨by omega, rfl⟩
 · split
   · exact .inr (.inr ⟨by omega, rfl⟩)
   · exact .inr (.inl ⟨by omega, rfl⟩)
theorem zk3 (a b : En) : ltE a b = true ↔ a.key < b.key ∨ (a.key = b.key ∧ a.id < b.id) := by
 unfold ltE zb1
 rcases zee a.key b.key with ⟨h, e⟩ | ⟨h, e⟩ | ⟨h, e⟩ <;> rw [e] <;> rcases zee a.id b.id with ⟨h', e'⟩ | ⟨h', e'⟩ | ⟨h', e'⟩ <;> simp [e'] <;> omega
theorem zd5 (a b : En) : ltE a b = false ↔ b.key < a.key ∨ (a.key = b.key ∧ b.id ≤ a.id) := by
 rw [← Bool.not_eq_true, zk3]
 omega
theorem zm8 (a : En) : ltE a a = false := by rw [zd5]; omega
theorem zoc {a b c : En} (h : ltE a b = true) (k : ltE b c = true) : ltE a c = true := by rw [zk3] at *; omega
theorem zod {a b : En} (h : ltE a b = false) (k : ltE b a = false) : a = b := by
 rw [zd5] at *
 cases a; cases b
 simp only [En.mk.injEq] at *
 omega
def leE (a b : En) : Prop := ltE b a = false
theorem zgo {a b c : En} (h : leE a b) (k : leE b c) : leE a c := by unfold leE at *; rw [zd5] at *; omega
theorem ze5 {a b : En} (h : ltE a b = true) : leE a b := by unfold leE; rw [zk3] at h; rw [zd5]; omega
theorem zjn {a b : En} (h : leE a b) (k : leE b a) : a = b := zod k h
def zbh (l : List En) : Prop := l.Pairwise leE
def zwk (e : En) : List En → List En
 | [] => [e]
 | x :: l => if ltE e x then e :: x :: l else x :: zwk e l
def zaj (l : List En) : List En := l.foldr zwk []
theorem zjo (e : En) (l : List En) : (zwk e l).Perm (e :: l) := by
 induction l with
 | nil => exact List.Perm.refl _
 | cons x l ih =>
  unfold zwk
  split
  · exact List.Perm.refl _
  · exact (List.Perm.cons x ih).trans (List.Perm.swap e x l)
theorem zk4 {e : En} {l : List En} (h : zbh l) : zbh (zwk e l) := by
 induction l with
 | nil => exact List.pairwise_singleton _ _
 | cons x l ih =>
  unfold zbh at *
  rw [List.pairwise_cons] at h
  unfold zwk
  split
  ·
   rename_i hlt
   rw [List.pairwise_cons]
   refine ⟨fun y hy => ?_, by rw [List.pairwise_cons]; exact h⟩
   rcases List.mem_cons.1 hy with rfl | hy
   · exact ze5 hlt
   · exact zgo (ze5 hlt) (h.1 y hy)
  ·
   rename_i hlt
   rw [List.pairwise_cons]
   refine ⟨fun y hy => ?_, ih h.2⟩
   rcases List.mem_cons.1 ((zjo e l).mem_iff.1 hy) with rfl | hy
   · simpa [leE] using hlt
   · exact h.1 y hy
theorem za2 (l : List En) : (zaj l).Perm l := by
 induction l with
 | nil => exact List.Perm.refl _
 | cons x l ih => exact (zjo x _).trans (List.Perm.cons x ih)
theorem zbb (l : List En) : zbh (zaj l) := by
 induction l with
 | nil => exact List.Pairwise.nil
 | cons x l ih => exact zk4 ih
theorem zhn {l m : List En} (hp : l.Perm m) (hl : zbh l) (hm : zbh m) : l = m := hp.eq_of_pairwise (fun a b _ _ h k => zjn h k) hl hm
theorem ze6 {l m : List En} (hp : m.Perm l) (hm : zbh m) : zaj l = m := zhn ((za2 l).trans hp.symm) (zbb l) hm
theorem zbw {l m : List En} (hp : l.Perm m) : zaj l = zaj m := ze6 ((za2 m).trans hp.symm) (zbb m)
theorem zam (l : List En) : (zaj l).length = l.length := (za2 l).length_eq
def zb6 : List En → List En → List En
 | [], b => b
 | a, [] => a
 | x :: a, y :: b => if ltE y x then y :: zb6 (x :: a) b else x :: zb6 a (y :: b)
 termination_by a b => a.length + b.length
theorem zgp (b : List En) : zb6 [] b = b := by unfold zb6; rfl
theorem zf6 (a : List En) : zb6 a [] = a := by cases a <;> (unfold zb6; rfl)
theorem zk5 (x y : En) (a b : List En) : zb6 (x :: a) (y :: b) = if ltE y x then y :: zb6 (x :: a) b else x :: zb6 a (y :: b) := by conv => lhs; unfold zb6
theorem zes (a b : List En) : (zb6 a b).Perm (a ++ b) := by
 fun_induction zb6 a b with
 | case1 b => exact List.Perm.refl _
 | case2 a h => simp
 | case3 x a y b h ih => exact (List.Perm.cons y ih).trans (List.perm_middle (a := y) (l₁ := x :: a) (l₂ := b)).symm
 | case4 x a y b h ih => exact List.Perm.cons x ih
theorem zie {a b : List En} (ha : zbh a) (hb : zbh b) : zbh (zb6 a b) := by
 fun_induction zb6 a b with
 | case1 b => exact hb
 | case2 a h => exact ha
 | case3 x a y b h ih =>
  have hb' := List.pairwise_cons.1 hb
  have ha' := List.pairwise_cons.1 ha
  refine List.pairwise_cons.2 ⟨fun z hz => ?_, ih ha hb'.2⟩
  rcases List.mem_append.1 ((zes _ _).mem_iff.1 hz) with hz | hz
  · rcases List.mem_cons.1 hz with rfl | hz
    · exact ze5 h
    · exact zgo (ze5 h) (ha'.1 z hz)
  · exact hb'.1 z hz
 | case4 x a y b h ih =>
  have hb' := List.pairwise_cons.1 hb
  have ha' := List.pairwise_cons.1 ha
  have hxy : leE x y := by simpa [leE] using h
  refine List.pairwise_cons.2 ⟨fun z hz => ?_, ih ha'.2 hb⟩
  rcases List.mem_append.1 ((zes _ _).mem_iff.1 hz) with hz | hz
  · exact ha'.1 z hz
  · rcases List.mem_cons.1 hz with rfl | hz
    · exact hxy
    · exact zgo hxy (hb'.1 z hz)
theorem zc1 {a b : List En} (ha : zbh a) (hb : zbh b) : zb6 a b = zaj (a ++ b) := (ze6 (zes a b) (zie ha hb)).symm
end Go.Proofs.YtcfhkbcllijnkaaGreat
namespace Go.Proofs.YtcfhkbcllijnkaaGreat
open Go.RowKit
def nxI (f p n : Int) : Int := if n < f then f else f + (n - f) / p * p + p
def gB (f p n : Int) : Bool := decide (p ≠ 0) && decide (nxI f p n ≤ top)
theorem ztx (x y : Int) (hx : 0 ≤ x) (hy : 0 ≤ y) (h : x + y ≤ top) (w : World) :
 (callFunc 80 #[.int .u64 x, .int .u64 y, .int .u64 0]).run Tryz.prog w = .ok (.value (.tuple #[.int .u64 (x + y), .int .u64 0])) w := by
 rw [run_callFunc_extern Tryz.func80 (by kernel_rfl) (by kernel_rfl) (by kernel_rfl) (e := add64Entry) (by kernel_rfl), run_add64 x y 0 (by omega) (by omega) (by omega) (by omega)]
 unfold top at h
 rw [show (x + y + 0) % 18446744073709551616 = x + y from by omega, show (x + y + 0) / 18446744073709551616 = 0 from by omega]
 rfl
theorem zty (x y : Int) (hx : 0 ≤ x) (hy : 0 ≤ y) (hx1 : x ≤ top) (hy1 : y ≤ top) (h : top < x + y) (w : World) :
 (callFunc 80 #[.int .u64 x, .int .u64 y, .int .u64 0]).run Tryz.prog w = .ok (.value (.tuple #[.int .u64 (x + y - top - 1), .int .u64 1])) w := by
 rw [run_callFunc_extern Tryz.func80 (by kernel_rfl) (by kernel_rfl) (by kernel_rfl) (e := add64Entry) (by kernel_rfl), run_add64 x y 0 (by omega) (by omega) (by omega) (by omega)]
 unfold top at *
 rw [show (x + y + 0) % 18446744073709551616 = x + y - 18446744073709551615 - 1 from by omega, show (x + y + 0) / 18446744073709551616 = 1 from by omega]
 rfl
def ze7 (x y : Int) : Int := min (x + y) top
def zc9 (p : Int) : Int := min (max p 0) 7
def zcq (p : Int) : Int := 2 ^ (zc9 p).toNat - 1
theorem ztz (x y : Int) (hx : 0 ≤ x) (hy : 0 ≤ y) (hx1 : x ≤ top) (hy1 : y ≤ top) (w : World) :
 Calls Tryz.prog 40 #[.int .u64 x, .int .u64 y] w fun e w' => e = .returned (.int .u64 (ze7 x y)) ∧ w = w' := by
 by_cases h : x + y ≤ top
 ·
  have e : ze7 x y = x + y := by unfold ze7; omega
  rw [e]; clear e
  go_enter Tryz.func40, Tryz.ntmps40
  go_wp2_with (simp only [ztx x y hx hy h])
  go_ret
  exact ⟨rfl, rfl⟩
 ·
  have h' : top < x + y := by omega
  have e : ze7 x y = 18446744073709551615 := by unfold ze7 top at *; omega
  rw [e]; clear e h
  go_enter Tryz.func40, Tryz.ntmps40
  go_wp2_with (simp only [zty x y hx hy hx1 hy1 h'])
  go_ret
  exact ⟨rfl, rfl⟩
theorem zoe (p : Int) (w : World) : Calls Tryz.prog 128 #[.int .i64 p] w fun e w' => e = .returned (.int .u64 (zcq p)) ∧ w = w' := by
 have hk : ∀ p : Int, p = 0 ∨ p = 1 ∨ p = 2 ∨ p = 3 ∨ p = 4 ∨ p = 5 ∨ p = 6 ∨ p = 7 ∨ p < 0 ∨ 7 < p := by intro p; omega
 rcases hk p with rfl | rfl | rfl | rfl | rfl | rfl | rfl | rfl | h | h
 iterate 8
  ·
   go_enter Tryz.func128, Tryz.ntmps128
   go_wp2
   go_ret
   exact ⟨zic (by decide), rfl⟩
 ·
  have e : zcq p = 0 := by unfold zcq; rw [show zc9 p = 0 from by unfold zc9; omega]; rfl
  rw [e]; clear e
  go_enter Tryz.func128, Tryz.ntmps128
  go_wp2
  all_goals (go_ret; exact ⟨rfl, rfl⟩)
 ·
  have e : zcq p = 127 := by unfold zcq; rw [show zc9 p = 7 from by unfold zc9; omega]; rfl
  rw [e]; clear e
  go_enter Tryz.func128, Tryz.ntmps128
  go_wp2
  all_goals (go_ret; exact ⟨rfl, rfl⟩)
theorem zqz (p : Int) : 0 ≤ zcq p ∧ zcq p ≤ 127 := by
 have hk : zc9 p = 0 ∨ zc9 p = 1 ∨ zc9 p = 2 ∨ zc9 p = 3 ∨ zc9 p = 4 ∨ zc9 p = 5 ∨ zc9 p = 6 ∨ zc9 p = 7 := by unfold zc9; omega
 unfold zcq
 rcases hk with h | h | h | h | h | h | h | h <;> rw [h] <;> decide
theorem zt0 (t p : Int) (h0 : 0 ≤ t) (h1 : t ≤ top) (w : World) : Calls Tryz.prog 76 #[.int .u64 t, .int .i64 p] w fun e w' => e = .returned (.int .u64 (ze7 t (zcq p))) ∧ w = w' := by
 have hb := zqz p
 go_enter Tryz.func76, Tryz.ntmps76
 go_wp2_with (first | (go_at_call 128; refine (zoe _ _).mono ?_; rintro e w' ⟨rfl, rfl⟩) | (go_at_call 40; refine (ztz _ _ h0 hb.1 h1 (by unfold top; omega) _).mono ?_; rintro e w' ⟨rfl, rfl⟩))
 go_ret
 exact ⟨rfl, rfl⟩
theorem zgq (k i t : Int) (w : World) : Calls Tryz.prog 263 #[.agg #[.int .u64 k, .int .i64 i], .int .u64 t] w fun e w' => e = .returned (.bool (decide (k ≤ t))) ∧ w.alloc (.cells #[.int .u64 k, .int .i64 i] 63) = w' := by
 go_enter Tryz.func263, Tryz.ntmps263
 go_wp2
 go_ret
 exact ⟨rfl, rfl⟩
theorem zm9 (k i k' i' t : Int) (h : k ≤ t) (w : World) : Calls Tryz.prog 217 #[.agg #[.int .u64 k, .int .i64 i], .agg #[.int .u64 k', .int .i64 i'], .int .u64 t] w fun e w' => e = .returned (.agg #[.int .u64 k, .int .i64 i]) ∧ Below w.heap.size w w' := by
 go_enter Tryz.func217, Tryz.ntmps217
 go_wp2_with (go_at_call 263; refine (zgq _ _ _ _).mono ?_; rintro e w' ⟨rfl, rfl⟩)
 exact bodyPost_ret (v := .agg #[.int .u64 k, .int .i64 i]) (by simp [results, Tryz.results217, go_sem]) rfl ⟨rfl, by repeat (first | exact yyr | refine zab ?_ _)⟩
theorem zof (k i k' i' t : Int) (h : t < k) (w : World) : Calls Tryz.prog 217 #[.agg #[.int .u64 k, .int .i64 i], .agg #[.int .u64 k', .int .i64 i'], .int .u64 t] w fun e w' => e = .returned (.agg #[.int .u64 k', .int .i64 i']) ∧ Below w.heap.size w w' := by
 go_enter Tryz.func217, Tryz.ntmps217
 go_wp2_with (go_at_call 263; refine (zgq _ _ _ _).mono ?_; rintro e w' ⟨rfl, rfl⟩)
 exact bodyPost_ret (v := .agg #[.int .u64 k', .int .i64 i']) (by simp [results, Tryz.results217, go_sem]) rfl ⟨rfl, by repeat (first | exact yyr | refine zab ?_ _)⟩
end Go.Proofs.YtcfhkbcllijnkaaGreat
