/- Contracts of package arena, third part: an arena of one word; what the document fixes. -/
import Derived.Test.YtpcbcnheogjofaaArena2
namespace Go.Proofs.Ytpcbcnheogjofaa
open Go.RowKit Go.Proofs.YtpcbcnheogjofaaW.PrintWords
set_option linter.unusedVariables false
set_option linter.unusedSimpArgs false

theorem next_lin (s v s' : Int) (h0 : 0 ≤ s) (h1 : s < 8) (h2 : 0 ≤ s') (h3 : s' < 8) (v0 : 0 ≤ v) (v1 : v < 1152921504606846976) : nextI (s + 8 * v) s' = s' + 8 * (v + 1) := by
  unfold nextI packI
  omega
section
variable {W W' : World} {a b g : Nat} {B x : Int}
theorem O_word (h : ArAt W a b g [x] B) (hs : B ≤ 1000000000) : Calls Try.prog 52 #[.pointer (some ⟨a, 0, none⟩), .int .i64 1] W fun e w' => e = .returned (.int .u64 x) ∧ ArAt w' a b g [x] (B + 1) ∧ Fr (own2 b g) W w' :=
  Word_in h hs 1 0 rfl (by simp)
theorem O_state (h : ArAt W a b g [x] B) (hs : B ≤ 1000000000) : Calls Try.prog 53 #[.pointer (some ⟨a, 0, none⟩), .int .i64 1] W fun e w' => e = .returned (.int .i64 (x % 8)) ∧ ArAt w' a b g [x] (B + 1) ∧ Fr (own2 b g) W w' :=
  State_in h hs 1 0 rfl (by simp)
theorem O_ok (h : ArAt W a b g [x] B) (hs : B ≤ 1000000000) (s y : Int) (s0 : 1 ≤ s) (s1 : s ≤ 6) (hy : nextI x s = y) (hcan : canB (x % 8) s = true) : Calls Try.prog 51 #[.pointer (some ⟨a, 0, none⟩), .int .i64 1, .int .u64 x, .int .i64 s] W fun e w' => e = .returned (.tuple #[.int .u64 y, .int .i64 0]) ∧ ArAt w' a b g [y] (B + 1) ∧ Fr (own2 b g) W w' := by
  rw [← hy]
  exact Turn_ok h 1 x s 0 rfl (by simp) (h.wf 0).1 (h.wf 0).2 s0 s1 hcan hs (by simp)
theorem O_late (h : ArAt W a b g [x] B) (hs : B ≤ 1000000000) (old s : Int) (o0 : 0 ≤ old) (o1 : old ≤ top) (s0 : 1 ≤ s) (s1 : s ≤ 6) (hne : x ≠ old) (hcan : canB (old % 8) s = true) : Calls Try.prog 51 #[.pointer (some ⟨a, 0, none⟩), .int .i64 1, .int .u64 old, .int .i64 s] W fun e w' => e = .returned (.tuple #[.int .u64 0, .int .i64 8]) ∧ ArAt w' a b g [x] (B + 1) ∧ Fr (own2 b g) W w' :=
  Turn_late h 1 old s 0 rfl (by simp) o0 o1 s0 s1 hcan hs (by simpa using hne)
theorem O_bad (h : ArAt W a b g [x] B) (old s : Int) (o0 : 0 ≤ old) (o1 : old ≤ top) (s0 : 1 ≤ s) (s1 : s ≤ 6) (hcan : canB (old % 8) s = false) : Calls Try.prog 51 #[.pointer (some ⟨a, 0, none⟩), .int .i64 1, .int .u64 old, .int .i64 s] W fun e w' => e = .returned (.tuple #[.int .u64 0, .int .i64 7]) ∧ ArAt w' a b g [x] B ∧ Fr (own2 b g) W w' :=
  Turn_state h 1 old s 0 rfl (by simp) o0 o1 s0 s1 hcan
theorem O_free (h : ArAt W a b g [x] B) (hs : B ≤ 999999999) (y : Int) (hy : nextI x 0 = y) (ho : overB (x % 8) = true) : Calls Try.prog 55 #[.pointer (some ⟨a, 0, none⟩), .int .i64 1] W fun e w' => e = .returned (.int .i64 0) ∧ ArAt w' a b g [y] (B + 2) ∧ Fr (own2 b g) W w' := by
  rw [← hy]
  exact Free_ok h hs 1 0 rfl (by simp) ho
theorem O_alloc (h : ArAt W a b g [x] B) (hs : B ≤ 900000000) (s y : Int) (hsw : (Lit.int .i64 s).wf = true) (hcan : canB 0 s = true) (hx : x % 8 = 0) (hy : nextI x s = y) : Calls Try.prog 50 #[.pointer (some ⟨a, 0, none⟩), .int .i64 s] W fun e w' => e = .returned (.tuple #[.int .i64 1, .int .i64 0]) ∧ ArAt w' a b g [y] (B + 2) ∧ Fr (own2 b g) W w' := by
  rw [← hy]
  refine (Alloc_at h hs s hsw hcan 0 (by simp) (fun j hj => by omega) (by simpa using hx)).mono ?_
  rintro e w' ⟨h1, h2, h3⟩
  exact ⟨h1, h2.le (by omega), h3⟩
end
theorem next_mod (x s : Int) (h0 : 0 ≤ s) (h1 : s < 8) : nextI x s % 8 = s := by
  unfold nextI packI
  omega
theorem ArAt.put {W : World} {a b g : Nat} {ws : List Int} {B : Int} (h : ArAt W a b g ws B) {c j : Nat} (ha : a ≠ c) (hb : b ≠ c) (hg : g ≠ c) (v : Value) : ArAt (W.setCell ⟨c, j, none⟩ v) a b g ws B :=
  h.fr ((Fr.refl (fun k => k = c) W).set rfl v) ha hb hg
theorem ArAt.lts {W : World} {a b g : Nat} {ws : List Int} {B : Int} (h : ArAt W a b g ws B) : a < W.heap.size ∧ b < W.heap.size ∧ g < W.heap.size := by
  obtain ⟨st, wi, at_, kd, hM, hst⟩ := h.mem
  exact ⟨(Array.getElem?_eq_some_iff.1 h.hdr).1, (Array.getElem?_eq_some_iff.1 hM.hdr).1, (Array.getElem?_eq_some_iff.1 hM.row).1⟩
theorem own2_ge {n b g : Nat} (hb : n ≤ b) (hg : n ≤ g) : ∀ k, own2 b g k → n ≤ k := by
  intro k hk
  rcases hk with rfl | rfl
  · exact hb
  · exact hg
set_option maxRecDepth 100000 in
set_option maxHeartbeats 4000000 in
theorem awake4 (w : World) : Calls Try.prog 54 #[] w fun e w' => e = .returned (.bool true) ∧ Below w.heap.size w w' := by
  go_enter Try.func54, Try.ntmps54
  go_wp2_with fail
  refine (ANew_in 2 (by decide) (by decide) _).mono ?_
  rintro e w1 ⟨a, b, g, rfl, hA, ha, hb, hg, hB⟩
  rw [show List.replicate (2 : Int).toNat (0 : Int) = [0, 0] from rfl] at hA
  go_wp2_with fail
  refine (Alloc_at hA (by decide) 2 (by decide) (by decide) 0 (by decide) (fun j hj => by omega) (by decide)).mono ?_
  rintro e w2 ⟨rfl, hA2, hF2⟩
  rw [show ([0, 0] : List Int).set 0 (nextI (([0, 0] : List Int).getD 0 0) 2) = [10, 0] from by decide] at hA2
  rw [show ((0 : Nat) : Int) + 1 = 1 from rfl]
  go_wp2_with fail
  refine (Word_in hA2 (by decide) 1 0 rfl (by decide)).mono ?_
  rintro e w3 ⟨rfl, hA3, hF3⟩
  rw [show ([10, 0] : List Int).getD 0 0 = 10 from rfl]
  go_wp2_with fail
  refine (Turn_ok hA3 1 10 3 0 rfl (by decide) (by decide) (by decide) (by decide) (by decide) (by decide) (by decide) (by decide)).mono ?_
  rintro e w4 ⟨rfl, hA4, hF4⟩
  rw [show ([10, 0] : List Int).set 0 (nextI 10 3) = [19, 0] from by decide] at hA4
  rw [show nextI 10 3 = 19 from by decide]
  go_wp2_with fail
  refine (Turn_late hA4 1 10 3 0 rfl (by decide) (by decide) (by decide) (by decide) (by decide) (by decide) (by decide) (by decide)).mono ?_
  rintro e w5 ⟨rfl, hA5, hF5⟩
  go_wp2_with fail
  refine (State_in hA5 (by decide) 1 0 rfl (by decide)).mono ?_
  rintro e w6 ⟨rfl, hA6, hF6⟩
  rw [show ([19, 0] : List Int).getD 0 0 % 8 = 3 from by decide]
  go_wp2_with fail
  go_ret
  exact ⟨rfl, ((((hF2.trans hF3).trans hF4).trans hF5).trans hF6).below hB (own2_ge hb hg)⟩
end Go.Proofs.Ytpcbcnheogjofaa
