/- The program's arena and the reference's, side by side. -/
import Derived.Test.YtpcbcnheogjofaaArenaRef
namespace Go.Proofs.Ytpcbcnheogjofaa
open Go.RowKit Go.Proofs.YtpcbcnheogjofaaW.PrintWords
set_option linter.unusedVariables false
set_option linter.unusedSimpArgs false

def no7 (ws : List Int) : Prop := ∀ j, ws.getD j 0 % 8 ≠ 7
theorem can_bd {a s : Int} (h : canB a s = true) : 1 ≤ s ∧ s ≤ 6 := by
  have := (can_cases a s).2 h
  omega
theorem no7_set {ws : List Int} (h : no7 ws) (k : Nat) (x s : Int) (h0 : 0 ≤ s) (h1 : s ≤ 6) : no7 (ws.set k (nextI x s)) := by
  intro j
  rw [getD_set_any]
  split
  · rw [next_mod x s h0 (by omega)]; omega
  · exact h j
theorem first_or (P : Nat → Bool) (n : Nat) : (∀ j, j < n → P j = false) ∨ ∃ k, k < n ∧ P k = true ∧ ∀ j, j < k → P j = false := by
  induction n with
  | zero => exact .inl fun j hj => by omega
  | succ n ih =>
    rcases ih with h | ⟨k, h1, h2, h3⟩
    · cases hp : P n
      · exact .inl fun j hj => by
          rcases Nat.lt_or_ge j n with h' | h'
          · exact h j h'
          · obtain rfl : j = n := by omega
            exact hp
      · exact .inr ⟨n, by omega, hp, h⟩
    · exact .inr ⟨k, by omega, h2, h3⟩
def AllocP (ws ws' : List Int) (s x e : Int) : Prop := ∀ (W : World) (a b g : Nat) (B : Int), ArAt W a b g ws B → B ≤ 900000000 → Calls Try.prog 50 #[.pointer (some ⟨a, 0, none⟩), .int .i64 s] W fun e' w' => e' = .returned (.tuple #[.int .i64 x, .int .i64 e]) ∧ ArAt w' a b g ws' (B + ws.length + 2) ∧ Fr (own2 b g) W w'
def AllocR (ws ws' : List Int) (s x e : Int) : Prop := ∀ (W : World) (h r : Nat), RaAt W h r ws → Calls Try.prog 58 #[.pointer (some ⟨h, 0, none⟩), .int .i64 s] W fun e' w' => e' = .returned (.tuple #[.int .i64 x, .int .i64 e]) ∧ RaAt w' h r ws' ∧ Fr (own1 r) W w'
theorem alloc_both (ws : List Int) (s : Int) (hsw : (Lit.int .i64 s).wf = true) (h7 : no7 ws) : ∃ (ws' : List Int) (x e : Int), ws'.length = ws.length ∧ no7 ws' ∧ AllocP ws ws' s x e ∧ AllocR ws ws' s x e := by
  cases hcan : canB 0 s
  · refine ⟨ws, 0, 1, rfl, h7, ?_, ?_⟩
    · intro W a b g B h hB
      refine (Alloc_arg h s hsw hcan).mono ?_
      rintro e w' ⟨h1, h2, h3⟩
      exact ⟨h1, h2.le (by omega), h3⟩
    · intro W h r H
      refine (RAlloc_arg H s hcan).mono ?_
      rintro e w' ⟨h1, rfl⟩
      exact ⟨h1, H, Fr.refl _ _⟩
  · have hs := can_bd hcan
    rcases first_or (fun j => ws.getD j 0 % 8 == 0) ws.length with hall | ⟨k, hk, hf, hpre⟩
    · refine ⟨ws, 0, 65, rfl, h7, ?_, ?_⟩
      · intro W a b g B h hB
        refine (Alloc_full h hB s hsw hcan hall).mono ?_
        rintro e w' ⟨h1, h2, h3⟩
        exact ⟨h1, h2.le (by omega), h3⟩
      · intro W h r H
        refine (RAlloc_full H s hcan hall).mono ?_
        rintro e w' ⟨h1, rfl⟩
        exact ⟨h1, H, Fr.refl _ _⟩
    · refine ⟨ws.set k (nextI (ws.getD k 0) s), (k : Int) + 1, 0, by rw [List.length_set], no7_set h7 _ _ _ (by omega) (by omega), ?_, ?_⟩
      · intro W a b g B h hB
        refine (Alloc_at h hB s hsw hcan k hk hpre hf).mono ?_
        rintro e w' ⟨h1, h2, h3⟩
        exact ⟨h1, h2.le (by omega), h3⟩
      · intro W h r H
        exact RAlloc_at H s hcan k hk hpre hf
def FreeP (ws ws' : List Int) (id e : Int) : Prop := ∀ (W : World) (a b g : Nat) (B : Int), ArAt W a b g ws B → B ≤ 900000000 → Calls Try.prog 55 #[.pointer (some ⟨a, 0, none⟩), .int .i64 id] W fun e' w' => e' = .returned (.int .i64 e) ∧ ArAt w' a b g ws' (B + 2) ∧ Fr (own2 b g) W w'
def FreeR (ws ws' : List Int) (id e : Int) : Prop := ∀ (W : World) (h r : Nat), RaAt W h r ws → Calls Try.prog 59 #[.pointer (some ⟨h, 0, none⟩), .int .i64 id] W fun e' w' => e' = .returned (.int .i64 e) ∧ RaAt w' h r ws' ∧ Fr (own1 r) W w'
theorem free_both (ws : List Int) (id : Int) (h7 : no7 ws) : ∃ (ws' : List Int) (e : Int), ws'.length = ws.length ∧ no7 ws' ∧ FreeP ws ws' id e ∧ FreeR ws ws' id e := by
  rcases th_cases ws id with ho | ⟨k, rfl, hk⟩
  · refine ⟨ws, 1, rfl, h7, ?_, ?_⟩
    · intro W a b g B h hB
      refine (Free_out h id ho).mono ?_
      rintro e w' ⟨h1, rfl⟩
      exact ⟨h1, h.le (by omega), Fr.refl _ _⟩
    · intro W h r H
      refine (RFree_out H id ho).mono ?_
      rintro e w' ⟨h1, rfl⟩
      exact ⟨h1, H, Fr.refl _ _⟩
  · cases hov : overB (ws.getD k 0 % 8)
    · refine ⟨ws, 7, rfl, h7, ?_, ?_⟩
      · intro W a b g B h hB
        refine (Free_state h (by omega) _ k rfl hk hov).mono ?_
        rintro e w' ⟨h1, h2, h3⟩
        exact ⟨h1, h2.le (by omega), h3⟩
      · intro W h r H
        refine (RFree_state H k hk hov).mono ?_
        rintro e w' ⟨h1, rfl⟩
        exact ⟨h1, H, Fr.refl _ _⟩
    · refine ⟨ws.set k (nextI (ws.getD k 0) 0), 0, by rw [List.length_set], no7_set h7 _ _ _ (by omega) (by omega), ?_, ?_⟩
      · intro W a b g B h hB
        exact Free_ok h (by omega) _ k rfl hk hov
      · intro W h r H
        exact RFree_ok H k hk hov
def TurnP (ws ws' : List Int) (id old s x e : Int) : Prop := ∀ (W : World) (a b g : Nat) (B : Int), ArAt W a b g ws B → B ≤ 900000000 → Calls Try.prog 51 #[.pointer (some ⟨a, 0, none⟩), .int .i64 id, .int .u64 old, .int .i64 s] W fun e' w' => e' = .returned (.tuple #[.int .u64 x, .int .i64 e]) ∧ ArAt w' a b g ws' (B + 1) ∧ Fr (own2 b g) W w'
def TurnR (ws ws' : List Int) (id old s x e : Int) : Prop := ∀ (W : World) (h r : Nat), RaAt W h r ws → Calls Try.prog 61 #[.pointer (some ⟨h, 0, none⟩), .int .i64 id, .int .u64 old, .int .i64 s] W fun e' w' => e' = .returned (.tuple #[.int .u64 x, .int .i64 e]) ∧ RaAt w' h r ws' ∧ Fr (own1 r) W w'
theorem turn_both (ws : List Int) (id old s : Int) (o0 : 0 ≤ old) (o1 : old ≤ top) (h7 : no7 ws) : ∃ (ws' : List Int) (x e : Int), ws'.length = ws.length ∧ no7 ws' ∧ (e = 0 → ∃ k : Nat, id = k + 1 ∧ k < ws.length) ∧ TurnP ws ws' id old s x e ∧ TurnR ws ws' id old s x e := by
  have same : ∀ (e : Int), e ≠ 0 → (∀ (W : World) (a b g : Nat) (B : Int), ArAt W a b g ws B → B ≤ 900000000 → Calls Try.prog 51 #[.pointer (some ⟨a, 0, none⟩), .int .i64 id, .int .u64 old, .int .i64 s] W fun e' w' => e' = .returned (.tuple #[.int .u64 0, .int .i64 e]) ∧ ArAt w' a b g ws (B + 1) ∧ Fr (own2 b g) W w') → (∀ (W : World) (h r : Nat), RaAt W h r ws → Calls Try.prog 61 #[.pointer (some ⟨h, 0, none⟩), .int .i64 id, .int .u64 old, .int .i64 s] W fun e' w' => e' = .returned (.tuple #[.int .u64 0, .int .i64 e]) ∧ W = w') → ∃ (ws' : List Int) (x e : Int), ws'.length = ws.length ∧ no7 ws' ∧ (e = 0 → ∃ k : Nat, id = k + 1 ∧ k < ws.length) ∧ TurnP ws ws' id old s x e ∧ TurnR ws ws' id old s x e := by
    intro e he hP hR
    refine ⟨ws, 0, e, rfl, h7, fun h => absurd h he, hP, ?_⟩
    intro W h r H
    refine (hR W h r H).mono ?_
    rintro e w' ⟨h1, rfl⟩
    exact ⟨h1, H, Fr.refl _ _⟩
  rcases th_cases ws id with ho | ⟨k, rfl, hk⟩
  · refine same 1 (by decide) ?_ (fun W h r H => RTurn_out H id old s ho)
    intro W a b g B h hB
    refine (Turn_out h id old s o0 o1 ho).mono ?_
    rintro e w' ⟨h1, rfl⟩
    exact ⟨h1, h.le (by omega), Fr.refl _ _⟩
  · by_cases hs : s ≤ 0 ∨ 7 ≤ s
    · refine same 1 (by decide) ?_ (fun W h r H => RTurn_arg H k hk old s hs)
      intro W a b g B h hB
      refine (Turn_arg h _ old s o0 o1 (th_in rfl hk) hs).mono ?_
      rintro e w' ⟨h1, rfl⟩
      exact ⟨h1, h.le (by omega), Fr.refl _ _⟩
    · have s0 : 1 ≤ s := by omega
      have s1 : s ≤ 6 := by omega
      cases hcan : canB (old % 8) s
      · refine same 7 (by decide) ?_ (fun W h r H => RTurn_state H k hk old s s0 s1 hcan)
        intro W a b g B h hB
        refine (Turn_state h _ old s k rfl hk o0 o1 s0 s1 hcan).mono ?_
        rintro e w' ⟨h1, h2, h3⟩
        exact ⟨h1, h2.le (by omega), h3⟩
      · cases hit : (ws.getD k 0 != old)
        · refine ⟨ws.set k (nextI old s), nextI old s, 0, by rw [List.length_set], no7_set h7 _ _ _ (by omega) s1, fun _ => ⟨k, rfl, hk⟩, ?_, ?_⟩
          · intro W a b g B h hB
            exact Turn_ok h _ old s k rfl hk o0 o1 s0 s1 hcan (by omega) hit
          · intro W h r H
            exact RTurn_ok H k hk old s o0 o1 s0 s1 hcan hit
        · refine same 8 (by decide) ?_ (fun W h r H => RTurn_late H k hk old s s0 s1 hcan hit)
          intro W a b g B h hB
          exact Turn_late h _ old s k rfl hk o0 o1 s0 s1 hcan (by omega) hit
theorem AWord_any {W : World} {a b g : Nat} {ws : List Int} {B : Int} (h : ArAt W a b g ws B) (hs : B ≤ 900000000) (id : Int) : Calls Try.prog 52 #[.pointer (some ⟨a, 0, none⟩), .int .i64 id] W fun e w' => e = .returned (.int .u64 (wordF ws id)) ∧ ArAt w' a b g ws (B + 1) ∧ Fr (own2 b g) W w' := by
  rcases th_cases ws id with ho | ⟨k, rfl, hk⟩
  · rw [wordF_out ho]
    refine (Word_out h id ho).mono ?_
    rintro e w' ⟨h1, rfl⟩
    exact ⟨h1, h.le (by omega), Fr.refl _ _⟩
  · rw [wordF_in rfl hk]
    exact Word_in h (by omega) _ k rfl hk
theorem AState_any {W : World} {a b g : Nat} {ws : List Int} {B : Int} (h : ArAt W a b g ws B) (hs : B ≤ 900000000) (id : Int) : Calls Try.prog 53 #[.pointer (some ⟨a, 0, none⟩), .int .i64 id] W fun e w' => e = .returned (.int .i64 (wordF ws id % 8)) ∧ ArAt w' a b g ws (B + 1) ∧ Fr (own2 b g) W w' := by
  rcases th_cases ws id with ho | ⟨k, rfl, hk⟩
  · rw [wordF_out ho]
    refine (State_out h id ho).mono ?_
    rintro e w' ⟨h1, rfl⟩
    exact ⟨h1, h.le (by omega), Fr.refl _ _⟩
  · rw [wordF_in rfl hk]
    exact State_in h (by omega) _ k rfl hk
theorem cnt7 {ws : List Int} (h7 : no7 ws) : cntS ws 7 = 0 := by
  unfold cntS
  rw [List.filter_eq_nil_iff.2]
  · rfl
  · intro x hx
    obtain ⟨j, hj, rfl⟩ := List.mem_iff_getElem.1 hx
    have := h7 j
    rw [List.getD_eq_getElem?_getD, List.getElem?_eq_getElem hj] at this
    simpa using this
theorem ACount_any {W : World} {a b g : Nat} {ws : List Int} {B : Int} (h : ArAt W a b g ws B) (hs : B ≤ 900000000) (h7 : no7 ws) (s : Int) (s0 : 0 ≤ s) (s1 : s ≤ 7) : Calls Try.prog 56 #[.pointer (some ⟨a, 0, none⟩), .int .i64 s] W fun e w' => e = .returned (.int .i64 (cntS ws s)) ∧ ArAt w' a b g ws (B + ws.length) ∧ Fr (own2 b g) W w' := by
  rcases (show s ≤ 6 ∨ s = 7 from by omega) with h6 | rfl
  · exact Count_in h hs s s0 h6
  · rw [cnt7 h7]
    refine (Count_out h 7 (by decide)).mono ?_
    rintro e w' ⟨h1, rfl⟩
    exact ⟨h1, h.le (by omega), Fr.refl _ _⟩
theorem wordF_bd {ws : List Int} (h : ∀ j, 0 ≤ ws.getD j 0 ∧ ws.getD j 0 ≤ top) (id : Int) : 0 ≤ wordF ws id ∧ wordF ws id ≤ top := by
  unfold wordF
  split
  · exact h _
  · exact ⟨by decide, by decide⟩
end Go.Proofs.Ytpcbcnheogjofaa
