/- Parts of the proof of TopOnce, under no condition. -/
import Derived.Test.YtcfhkbcllijnkaaGreatZTopOncean
import Derived.Shelf.GgClosure.Gives
set_option linter.unusedVariables false
set_option linter.unusedSimpArgs false
set_option maxRecDepth 100000
set_option maxHeartbeats 0
namespace Go.Proofs.YtcfhkbcllijnkaaGreat
open Go.RowKit
def zhp (p : Nat → Bool) (n : Nat) (r : Int) : Prop := (r = -1 ∧ ∀ i, i < n → p i = false) ∨ ∃ i : Nat, i < n ∧ r = i ∧ p i = true ∧ ∀ j, j < i → p j = false
section
variable {W : World}
theorem zul (b off cap n : Nat) (hn : n ≤ 100000) (hcap : cap ≤ maxLen) (c : Nat → Nat → Value) (hc : ∀ i j, i < n → j < 2 → W.cell? ⟨b, off + i * 2 + j, none⟩ = some (c i j)) (p : Nat → Bool) (g : Nat) (lb : Array Value) (eg : ∀ args w, (callFunc g args).run Tryz.prog w = .ok (.enter g args) w)
 (hp : ∀ (X : World) (i : Nat), Below W.heap.size W X → i < n → Calls Tryz.prog g (#[.agg #[c i 0, c i 1]] ++ lb) X fun e w' => e = .returned (.bool (p i)) ∧ Below X.heap.size X w') :
 Calls Tryz.prog 286 #[.slice (some ⟨b, off, none⟩) n cap, .func (.func g) #[] lb] W fun e w' => (∃ r, e = .returned (.int .i64 r) ∧ zhp p n r) ∧ Below W.heap.size W w' := by
 have hm : (cap : Int) ≤ 9223372036854775807 := by unfold maxLen at hcap; omega
 have HC := yyh hc
 have HP := yyh hp
 clear hc hp
 go_enter Tryz.func286, Tryz.ntmps286
 go_wp2_with fail
 go_loopg [5, 8] n (fun gg _ s8 wr => ∃ i : Nat, i ≤ n ∧ gg = n - i ∧ s8 = .int .i64 i ∧ Aside (Below W.heap.size W wr) ∧ Aside (∀ j, j < i → p j = false))
 case atStart => exact ⟨0, Nat.zero_le _, by omega, rfl, Below.refl _ W, fun j hj => absurd hj (Nat.not_lt_zero _)⟩
 case round =>
  obtain ⟨i, hi, rfl, rfl, BW, A⟩ := hrel
  by_cases hlt : i < n
  ·
   have hltz : (i : Int) < (n : Int) := by omega
   have l0 : wr.cell? ⟨b, off + i * 2, none⟩ = some (c i 0) := zae BW.out (HC.out i 0 hlt (by omega))
   have l1 : wr.cell? ⟨b, off + i * 2 + 1, none⟩ = some (c i 1) := zae BW.out (HC.out i 1 hlt (by omega))
   have hcall := HP.out wr i BW.out hlt
   generalize hq : p i = q at hcall
   have HQ := yyh hq
   have HCL := yyh hcall
   clear hq hcall
   cases q with
   | true =>
    go_wp2_with (go_at_fn g; refine HCL.out.mono ?_; rintro e w' ⟨rfl, hb'⟩)
    go_ret
    exact ⟨⟨_, rfl, .inr ⟨i, hlt, rfl, HQ.out, A.out⟩⟩, zad hb' BW.out⟩
   | false =>
    go_wp2_with (go_at_fn g; refine HCL.out.mono ?_; rintro e w' ⟨rfl, hb'⟩; have HB' := yyh hb'; clear hb')
    go_roundg (n - (i + 1))
    case measure => omega
    case rel =>
     refine ⟨i + 1, by omega, rfl, by go_num, zad HB'.out BW.out, (show Aside _ from fun j hj => ?_)⟩
     by_cases e : j = i
     · subst e
       exact HQ.out
     · exact A.out j (by omega)
  ·
   have hltz : ¬ (i : Int) < (n : Int) := by omega
   obtain rfl : i = n := by omega
   go_wp2_with fail
   go_ret
   exact ⟨⟨_, rfl, .inl ⟨rfl, A.out⟩⟩, BW.out⟩
theorem zlc (f : Value) : Calls Tryz.prog 286 #[.slice none 0 0, f] W fun e w' => e = .returned (.int .i64 (-1)) ∧ W = w' := by
 go_enter Tryz.func286, Tryz.ntmps286
 go_wp2_with fail
 refine wp_loop_rounds 1 ?_
 rw [rounds_succ]
 go_wp2_with fail
 go_ret
 exact ⟨rfl, rfl⟩
theorem zh1 (b off cap n : Nat) (hn : n ≤ 100000) (hcap : cap ≤ maxLen) (c : Nat → Nat → Value) (hc : ∀ i j, i < n → j < 2 → W.cell? ⟨b, off + i * 2 + j, none⟩ = some (c i j)) (p : Nat → Bool) (g : Nat) (lb : Array Value) (eg : ∀ args w, (callFunc g args).run Tryz.prog w = .ok (.enter g args) w)
 (hp : ∀ (X : World) (i : Nat), Below W.heap.size W X → i < n → Calls Tryz.prog g (#[.agg #[c i 0, c i 1]] ++ lb) X fun e w' => e = .returned (.bool (p i)) ∧ Below X.heap.size X w') :
 Calls Tryz.prog 251 #[.slice (some ⟨b, off, none⟩) n cap, .func (.func g) #[] lb] W fun e w' => (∃ r, e = .returned (.bool r) ∧ (r = true ↔ ∃ i, i < n ∧ p i = true)) ∧ Below W.heap.size W w' := by
 have H := yyh (zul b off cap n hn hcap c hc p g lb eg hp)
 clear hc hp
 go_enter Tryz.func251, Tryz.ntmps251
 go_wp2_with fail
 refine H.out.mono ?_
 rintro e w' ⟨⟨r, rfl, hr⟩, hB⟩
 go_wp2_with fail
 go_ret
 refine ⟨⟨_, rfl, ?_⟩, hB⟩
 rcases hr with ⟨rfl, h⟩ | ⟨i, hi, rfl, h1, h2⟩
 · simp
   exact h
 · simp
   exact ⟨i, hi, h1⟩
theorem zeq (f : Value) : Calls Tryz.prog 251 #[.slice none 0 0, f] W fun e w' => e = .returned (.bool false) ∧ W = w' := by
 have H := yyh (zlc (W := W) f)
 go_enter Tryz.func251, Tryz.ntmps251
 go_wp2_with fail
 refine H.out.mono ?_
 rintro e w' ⟨rfl, rfl⟩
 go_wp2_with fail
 go_ret
 exact ⟨rfl, rfl⟩
theorem zik (b off cap n : Nat) (hn : n ≤ 100000) (hcap : cap ≤ maxLen) (c : Nat → Nat → Value) (hc : ∀ i j, i < n → j < 2 → W.cell? ⟨b, off + i * 2 + j, none⟩ = some (c i j)) (p : Nat → Bool) (g : Nat) (lb : Array Value) (eg : ∀ args w, (callFunc g args).run Tryz.prog w = .ok (.enter g args) w)
 (hp : ∀ (X : World) (i : Nat), Below W.heap.size W X → i < n → Calls Tryz.prog g (#[.agg #[c i 0, c i 1]] ++ lb) X fun e w' => e = .returned (.bool (p i)) ∧ Below X.heap.size X w') :
 Calls Tryz.prog 231 #[.slice (some ⟨b, off, none⟩) n cap, .func (.func g) #[] lb] W fun e w' => (∃ r, e = .returned (.int .i64 r) ∧ zhp p n r) ∧ Below W.heap.size W w' := by
 have hm : (cap : Int) ≤ 9223372036854775807 := by unfold maxLen at hcap; omega
 have HC := yyh hc
 have HP := yyh hp
 clear hc hp
 go_enter Tryz.func231, Tryz.ntmps231
 go_wp2_with fail
 go_loopg [5, 8] n (fun gg _ s8 wr => ∃ i : Nat, i ≤ n ∧ gg = n - i ∧ s8 = .int .i64 i ∧ Aside (Below W.heap.size W wr) ∧ Aside (∀ j, j < i → p j = false))
 case atStart => exact ⟨0, Nat.zero_le _, by omega, rfl, Below.refl _ W, fun j hj => absurd hj (Nat.not_lt_zero _)⟩
 case round =>
  obtain ⟨i, hi, rfl, rfl, BW, A⟩ := hrel
  by_cases hlt : i < n
  ·
   have hltz : (i : Int) < (n : Int) := by omega
   have l0 : wr.cell? ⟨b, off + i * 2, none⟩ = some (c i 0) := zae BW.out (HC.out i 0 hlt (by omega))
   have l1 : wr.cell? ⟨b, off + i * 2 + 1, none⟩ = some (c i 1) := zae BW.out (HC.out i 1 hlt (by omega))
   have hcall := HP.out wr i BW.out hlt
   generalize hq : p i = q at hcall
   have HQ := yyh hq
   have HCL := yyh hcall
   clear hq hcall
   cases q with
   | true =>
    go_wp2_with (go_at_fn g; refine HCL.out.mono ?_; rintro e w' ⟨rfl, hb'⟩)
    go_ret
    exact ⟨⟨_, rfl, .inr ⟨i, hlt, rfl, HQ.out, A.out⟩⟩, zad hb' BW.out⟩
   | false =>
    go_wp2_with (go_at_fn g; refine HCL.out.mono ?_; rintro e w' ⟨rfl, hb'⟩; have HB' := yyh hb'; clear hb')
    go_roundg (n - (i + 1))
    case measure => omega
    case rel =>
     refine ⟨i + 1, by omega, rfl, by go_num, zad HB'.out BW.out, (show Aside _ from fun j hj => ?_)⟩
     by_cases e : j = i
     · subst e
       exact HQ.out
     · exact A.out j (by omega)
  ·
   have hltz : ¬ (i : Int) < (n : Int) := by omega
   obtain rfl : i = n := by omega
   go_wp2_with fail
   go_ret
   exact ⟨⟨_, rfl, .inl ⟨rfl, A.out⟩⟩, BW.out⟩
theorem zdx (f : Value) : Calls Tryz.prog 231 #[.slice none 0 0, f] W fun e w' => e = .returned (.int .i64 (-1)) ∧ W = w' := by
 go_enter Tryz.func231, Tryz.ntmps231
 go_wp2_with fail
 refine wp_loop_rounds 1 ?_
 rw [rounds_succ]
 go_wp2_with fail
 go_ret
 exact ⟨rfl, rfl⟩
theorem zne (b off cap n : Nat) (hn : n ≤ 100000) (hcap : cap ≤ maxLen) (c : Nat → Nat → Value) (hc : ∀ i j, i < n → j < 2 → W.cell? ⟨b, off + i * 2 + j, none⟩ = some (c i j)) (p : Nat → Bool) (g : Nat) (lb : Array Value) (eg : ∀ args w, (callFunc g args).run Tryz.prog w = .ok (.enter g args) w)
 (hp : ∀ (X : World) (i : Nat), Below W.heap.size W X → i < n → Calls Tryz.prog g (#[.agg #[c i 0, c i 1]] ++ lb) X fun e w' => e = .returned (.bool (p i)) ∧ Below X.heap.size X w') :
 Calls Tryz.prog 274 #[.slice (some ⟨b, off, none⟩) n cap, .func (.func g) #[] lb] W fun e w' => (∃ r, e = .returned (.bool r) ∧ (r = true ↔ ∃ i, i < n ∧ p i = true)) ∧ Below W.heap.size W w' := by
 have H := yyh (zik b off cap n hn hcap c hc p g lb eg hp)
 clear hc hp
 go_enter Tryz.func274, Tryz.ntmps274
 go_wp2_with fail
 refine H.out.mono ?_
 rintro e w' ⟨⟨r, rfl, hr⟩, hB⟩
 go_wp2_with fail
 go_ret
 refine ⟨⟨_, rfl, ?_⟩, hB⟩
 rcases hr with ⟨rfl, h⟩ | ⟨i, hi, rfl, h1, h2⟩
 · simp
   exact h
 · simp
   exact ⟨i, hi, h1⟩
theorem zhq (f : Value) : Calls Tryz.prog 274 #[.slice none 0 0, f] W fun e w' => e = .returned (.bool false) ∧ W = w' := by
 have H := yyh (zdx (W := W) f)
 go_enter Tryz.func274, Tryz.ntmps274
 go_wp2_with fail
 refine H.out.mono ?_
 rintro e w' ⟨rfl, rfl⟩
 go_wp2_with fail
 go_ret
 exact ⟨rfl, rfl⟩
theorem zum (b off cap n : Nat) (hn : n ≤ 100000) (hcap : cap ≤ maxLen) (c : Nat → Nat → Value) (hc : ∀ i j, i < n → j < 5 → W.cell? ⟨b, off + i * 5 + j, none⟩ = some (c i j)) (p : Nat → Bool) (g : Nat) (lb : Array Value) (eg : ∀ args w, (callFunc g args).run Tryz.prog w = .ok (.enter g args) w)
 (hp : ∀ (X : World) (i : Nat), Below W.heap.size W X → i < n → Calls Tryz.prog g (#[.agg #[c i 0, c i 1, c i 2, c i 3, c i 4]] ++ lb) X fun e w' => e = .returned (.bool (p i)) ∧ Below X.heap.size X w') :
 Calls Tryz.prog 134 #[.slice (some ⟨b, off, none⟩) n cap, .func (.func g) #[] lb] W fun e w' => (∃ r, e = .returned (.int .i64 r) ∧ zhp p n r) ∧ Below W.heap.size W w' := by
 have hm : (cap : Int) ≤ 9223372036854775807 := by unfold maxLen at hcap; omega
 have HC := yyh hc
 have HP := yyh hp
 clear hc hp
 go_enter Tryz.func134, Tryz.ntmps134
 go_wp2_with fail
 go_loopg [5, 8] n (fun gg _ s8 wr => ∃ i : Nat, i ≤ n ∧ gg = n - i ∧ s8 = .int .i64 i ∧ Aside (Below W.heap.size W wr) ∧ Aside (∀ j, j < i → p j = false))
 case atStart => exact ⟨0, Nat.zero_le _, by omega, rfl, Below.refl _ W, fun j hj => absurd hj (Nat.not_lt_zero _)⟩
 case round =>
  obtain ⟨i, hi, rfl, rfl, BW, A⟩ := hrel
  by_cases hlt : i < n
  ·
   have hltz : (i : Int) < (n : Int) := by omega
   have l0 : wr.cell? ⟨b, off + i * 5, none⟩ = some (c i 0) := zae BW.out (HC.out i 0 hlt (by omega))
   have l1 : wr.cell? ⟨b, off + i * 5 + 1, none⟩ = some (c i 1) := zae BW.out (HC.out i 1 hlt (by omega))
   have l2 : wr.cell? ⟨b, off + i * 5 + 2, none⟩ = some (c i 2) := zae BW.out (HC.out i 2 hlt (by omega))
   have l3 : wr.cell? ⟨b, off + i * 5 + 3, none⟩ = some (c i 3) := zae BW.out (HC.out i 3 hlt (by omega))
   have l4 : wr.cell? ⟨b, off + i * 5 + 4, none⟩ = some (c i 4) := zae BW.out (HC.out i 4 hlt (by omega))
   have hcall := HP.out wr i BW.out hlt
   generalize hq : p i = q at hcall
   have HQ := yyh hq
   have HCL := yyh hcall
   clear hq hcall
   cases q with
   | true =>
    go_wp2_with (go_at_fn g; refine HCL.out.mono ?_; rintro e w' ⟨rfl, hb'⟩)
    go_ret
    exact ⟨⟨_, rfl, .inr ⟨i, hlt, rfl, HQ.out, A.out⟩⟩, zad hb' BW.out⟩
   | false =>
    go_wp2_with (go_at_fn g; refine HCL.out.mono ?_; rintro e w' ⟨rfl, hb'⟩; have HB' := yyh hb'; clear hb')
    go_roundg (n - (i + 1))
    case measure => omega
    case rel =>
     refine ⟨i + 1, by omega, rfl, by go_num, zad HB'.out BW.out, (show Aside _ from fun j hj => ?_)⟩
     by_cases e : j = i
     · subst e
       exact HQ.out
     · exact A.out j (by omega)
  ·
   have hltz : ¬ (i : Int) < (n : Int) := by omega
   obtain rfl : i = n := by omega
   go_wp2_with fail
   go_ret
   exact ⟨⟨_, rfl, .inl ⟨rfl, A.out⟩⟩, BW.out⟩
theorem znf (b off cap n : Nat) (hn : n ≤ 100000) (hcap : cap ≤ maxLen) (c : Nat → Nat → Value) (hc : ∀ i j, i < n → j < 5 → W.cell? ⟨b, off + i * 5 + j, none⟩ = some (c i j)) (p : Nat → Bool) (g : Nat) (lb : Array Value) (eg : ∀ args w, (callFunc g args).run Tryz.prog w = .ok (.enter g args) w)
 (hp : ∀ (X : World) (i : Nat), Below W.heap.size W X → i < n → Calls Tryz.prog g (#[.agg #[c i 0, c i 1, c i 2, c i 3, c i 4]] ++ lb) X fun e w' => e = .returned (.bool (p i)) ∧ Below X.heap.size X w') :
 Calls Tryz.prog 85 #[.slice (some ⟨b, off, none⟩) n cap, .func (.func g) #[] lb] W fun e w' => (∃ r, e = .returned (.bool r) ∧ (r = true ↔ ∃ i, i < n ∧ p i = true)) ∧ Below W.heap.size W w' := by
 have H := yyh (zum b off cap n hn hcap c hc p g lb eg hp)
 clear hc hp
 go_enter Tryz.func85, Tryz.ntmps85
 go_wp2_with fail
 refine H.out.mono ?_
 rintro e w' ⟨⟨r, rfl, hr⟩, hB⟩
 go_wp2_with fail
 go_ret
 refine ⟨⟨_, rfl, ?_⟩, hB⟩
 rcases hr with ⟨rfl, h⟩ | ⟨i, hi, rfl, h1, h2⟩
 · simp
   exact h
 · simp
   exact ⟨i, hi, h1⟩
end
section
variable {W : World}
theorem zwv (b n cap : Nat) (hn : n ≤ 100000) (hcap : cap ≤ maxLen) (c : Nat → Value) (P R : Nat → World → Prop) (hP : ∀ i X, P i X → ∀ k, k < n → X.cell? ⟨b, k, none⟩ = some (c k)) (g : Nat) (lb : Array Value) (eg : ∀ args w, (callFunc g args).run Tryz.prog w = .ok (.enter g args) w) (h0 : P 0 W)
 (hp : ∀ (X : World) (i : Nat), P i X → i < n → Calls Tryz.prog g (#[c i] ++ lb) X fun e w' => ∃ r, e = .returned (.bool r) ∧ (r = true → R i w') ∧ (r = false → P (i + 1) w')) :
 Calls Tryz.prog 119 #[.slice (some ⟨b, 0, none⟩) n cap, .func (.func g) #[] lb] W fun e w' => (e = .returned (.int .i64 (-1)) ∧ P n w') ∨ ∃ i : Nat, i < n ∧ e = .returned (.int .i64 i) ∧ R i w' := by
 have hm : (cap : Int) ≤ 9223372036854775807 := by unfold maxLen at hcap; omega
 have HC := yyh hP
 have HP := yyh hp
 have H0 := yyh h0
 clear hP hp h0
 go_enter Tryz.func119, Tryz.ntmps119
 go_wp2_with fail
 go_loopg [5, 8] n (fun gg _ s8 wr => ∃ i : Nat, i ≤ n ∧ gg = n - i ∧ s8 = .int .i64 i ∧ Aside (P i wr))
 case atStart => exact ⟨0, Nat.zero_le _, by omega, rfl, H0.out⟩
 case round =>
  obtain ⟨i, hi, rfl, rfl, A⟩ := hrel
  by_cases hlt : i < n
  ·
   have hltz : (i : Int) < (n : Int) := by omega
   have l0 : wr.cell? ⟨b, i, none⟩ = some (c i) := HC.out i wr A.out i hlt
   have hcall := HP.out wr i A.out hlt
   have HCL := yyh hcall
   clear hcall
   go_wp2_with fail
   go_at_fn g
   refine HCL.out.mono ?_
   rintro e w' ⟨r, rfl, hR, hN⟩
   cases r with
   | true =>
    have HR := yyh (hR rfl)
    clear hR hN
    go_wp2_with fail
    go_ret
    exact .inr ⟨i, hlt, rfl, HR.out⟩
   | false =>
    have HN := yyh (hN rfl)
    clear hR hN
    go_wp2_with fail
    go_roundg (n - (i + 1))
    case measure => omega
    case rel => exact ⟨i + 1, by omega, rfl, by go_num, HN.out⟩
  ·
   have hltz : ¬ (i : Int) < (n : Int) := by omega
   obtain rfl : i = n := by omega
   go_wp2_with fail
   go_ret
   exact .inl ⟨rfl, A.out⟩
theorem zjs (b n cap : Nat) (hn : n ≤ 100000) (hcap : cap ≤ maxLen) (c : Nat → Value) (P R : Nat → World → Prop) (hP : ∀ i X, P i X → ∀ k, k < n → X.cell? ⟨b, k, none⟩ = some (c k)) (g : Nat) (lb : Array Value) (eg : ∀ args w, (callFunc g args).run Tryz.prog w = .ok (.enter g args) w) (h0 : P 0 W)
 (hp : ∀ (X : World) (i : Nat), P i X → i < n → Calls Tryz.prog g (#[c i] ++ lb) X fun e w' => ∃ r, e = .returned (.bool r) ∧ (r = true → R i w') ∧ (r = false → P (i + 1) w')) :
 Calls Tryz.prog 68 #[.slice (some ⟨b, 0, none⟩) n cap, .func (.func g) #[] lb] W fun e w' => (e = .returned (.bool false) ∧ P n w') ∨ ∃ i : Nat, i < n ∧ e = .returned (.bool true) ∧ R i w' := by
 have H := yyh (zwv b n cap hn hcap c P R hP g lb eg h0 hp)
 clear hP hp h0
 go_enter Tryz.func68, Tryz.ntmps68
 go_wp2_with fail
 refine H.out.mono ?_
 rintro e w' (⟨rfl, hh⟩ | ⟨i, hi, rfl, hh⟩)
 ·
  have HH := yyh hh
  clear hh
  go_wp2_with fail
  go_ret
  exact .inl ⟨rfl, HH.out⟩
 ·
  have HH := yyh hh
  clear hh
  have h1 : (0 : Int) ≤ (i : Int) := by omega
  go_wp2_with fail
  go_ret
  refine .inr ⟨i, hi, ?_, HH.out⟩
  simp
theorem zng (f : Value) : Calls Tryz.prog 119 #[.slice none 0 0, f] W fun e w' => e = .returned (.int .i64 (-1)) ∧ W = w' := by
 go_enter Tryz.func119, Tryz.ntmps119
 go_wp2_with fail
 refine wp_loop_rounds 1 ?_
 rw [rounds_succ]
 go_wp2_with fail
 go_ret
 exact ⟨rfl, rfl⟩
theorem zil (f : Value) : Calls Tryz.prog 68 #[.slice none 0 0, f] W fun e w' => e = .returned (.bool false) ∧ W = w' := by
 have H := yyh (zng (W := W) f)
 go_enter Tryz.func68, Tryz.ntmps68
 go_wp2_with fail
 refine H.out.mono ?_
 rintro e w' ⟨rfl, rfl⟩
 go_wp2_with fail
 go_ret
 exact ⟨rfl, rfl⟩
end
end Go.Proofs.YtcfhkbcllijnkaaGreat
