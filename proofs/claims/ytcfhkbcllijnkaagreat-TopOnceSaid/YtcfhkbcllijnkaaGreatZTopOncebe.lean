/- Parts of the proof of TopOnce, under no condition. -/
import Derived.Test.YtcfhkbcllijnkaaGreatZTopOnceax
import Derived.Test.YtcfhkbcllijnkaaGreatZTopOnceai
set_option linter.unusedVariables false
set_option linter.unusedSimpArgs false
set_option maxRecDepth 100000
set_option maxHeartbeats 0
namespace Go.Proofs.YtcfhkbcllijnkaaGreat
open Go.RowKit Go.Maps Go.Proofs.YtcfhkbcllijnkaaGreatW.PrintWords
abbrev Op3 := Int × Int × Int
def okOp (k x y : Int) : Bool := decide ((k = 1 ∧ x = 0 ∧ y = 0) ∨ (k = 5 ∧ x = 0 ∧ y = 0) ∨ (k = 2 ∧ 0 ≤ x ∧ x ≤ 7 ∧ y = 0) ∨ (k = 3 ∧ 0 ≤ x ∧ x ≤ 7 ∧ 0 ≤ y ∧ y ≤ 1000000) ∨ (k = 4 ∧ 1 ≤ x ∧ x ≤ 1000 ∧ y = 0))
def okL (L : List Op3) : Bool := L.all (fun o => okOp o.1 o.2.1 o.2.2)
def bodyB (L : List Op3) : Bool := decide (L.length ≤ 16) && okL L
def zj9 (W : World) (A : Option Addr) (L : List Op3) : Prop :=
 L = [] ∨ ∃ c off, A = some ⟨c, off, none⟩ ∧ c < W.heap.size ∧ ∀ i k x y, L[i]? = some (k, x, y) →
  W.cell? ⟨c, off + i * 3, none⟩ = some (.int .i64 k) ∧ W.cell? ⟨c, off + i * 3 + 1, none⟩ = some (.int .i64 x) ∧ W.cell? ⟨c, off + i * 3 + 2, none⟩ = some (.int .i64 y)
theorem zj9.below {W W' : World} {A : Option Addr} {L : List Op3} (h : zj9 W A L) (hb : Below W.heap.size W W') : zj9 W' A L := by
 rcases h with h | ⟨c, off, h1, h2, h3⟩
 · exact .inl h
 · refine .inr ⟨c, off, h1, Nat.lt_of_lt_of_le h2 hb.size, fun i k x y hi => ?_⟩
   obtain ⟨a, b, c'⟩ := h3 i k x y hi
   exact ⟨zae hb a, zae hb b, zae hb c'⟩
theorem zdo.below {W W' : World} {mb : Nat} {f : Int → Int → Option Value} (h : zdo W mb f) (hb : Below W.heap.size W W') : zdo W' mb f := by
 obtain ⟨es, clock, h1, h2⟩ := h
 exact ⟨es, clock, (hb.block mb (yya.1 h1).1).trans h1, h2⟩
def loF (k i : Int) : Int := if k = 4 ∧ i = 0 then 1 else 0
def hiF (k i : Int) : Int := if (k = 2 ∨ k = 3) ∧ i = 0 then 7 else if k = 3 ∧ i = 1 then 1000000 else if k = 4 ∧ i = 0 then 1000 else 0
theorem zu6 (k i : Int) (h1 : 1 ≤ k) (h5 : k ≤ 5) (hi : i = 0 ∨ i = 1) : (zho k i).getD (pk 0 0) = pk (loF k i) (hiF k i) := by
 rcases (show k = 1 ∨ k = 2 ∨ k = 3 ∨ k = 4 ∨ k = 5 from by omega) with rfl | rfl | rfl | rfl | rfl <;> rcases hi with rfl | rfl <;> rfl
theorem zu7 (k x y : Int) (h1 : 1 ≤ k) (h5 : k ≤ 5) : okOp k x y = decide (loF k 0 ≤ x ∧ x ≤ hiF k 0 ∧ loF k 1 ≤ y ∧ y ≤ hiF k 1) := by
 unfold okOp
 rcases (show k = 1 ∨ k = 2 ∨ k = 3 ∨ k = 4 ∨ k = 5 from by omega) with rfl | rfl | rfl | rfl | rfl <;> apply decide_eq_decide.mpr <;> simp [loF, hiF] <;> omega
theorem zml (k x y : Int) (h : k < 1 ∨ 5 < k) : okOp k x y = false := by
 unfold okOp
 simp
 omega
theorem zrr (w : World) : (zeroValue 257).run Tryz.prog w = .ok (pk 0 0) w := by kernel_rfl
theorem zh5 (k : Int) (h0 : -1000 ≤ k) (h1 : k ≤ 1000) : zbl k := by show (Lit.int .i64 k).wf = true; simp [Lit.wf, IntKind.min, IntKind.max, IntKind.signed, IntKind.bits]; omega
theorem zdo.spanAt {W : World} {mb : Nat} (h : zdo W mb zho) (k i : Int) (h1 : 1 ≤ k) (h5 : k ≤ 5) (hi : i = 0 ∨ i = 1) : (Instr.lookup 192 (.map (some mb)) (.agg #[.int .i64 k, .int .i64 i]) false).run Tryz.prog W = .ok (.agg #[.int .i64 (loF k i), .int .i64 (hiF k i)]) W := by
 have := h.lookup zhz zjq Tryz.underlying192 (pk 0 0) (zrr W) k i (zh5 k (by omega) (by omega)) (zh5 i (by omega) (by omega))
 rw [zu6 k i h1 h5 hi] at this
 exact this
section
variable {W W' : World}
theorem zrs (k x y : Int) {mb : Nat} (hM : zdo W mb zho) : Calls Tryz.prog 118 #[.agg #[.int .i64 k, .int .i64 x, .int .i64 y], .map (some mb)] W fun e w' => e = .returned (.bool (okOp k x y)) ∧ Below W.heap.size W w' := by
 have HM := yyh hM
 clear hM
 by_cases h1 : k < 1
 ·
  rw [zml k x y (.inl h1)]
  have g1 : decide (k < 1) = true := by simpa using h1
  go_enter Tryz.func118, Tryz.ntmps118
  go_wp2_with fail
  go_ret
  exact ⟨rfl, zab yyr _⟩
 by_cases h5 : 5 < k
 ·
  rw [zml k x y (.inr h5)]
  have g1 : decide (k < 1) = false := by simpa using h1
  have g2 : decide (k > 5) = true := by simpa using h5
  have g3 : decide (5 < k) = true := by simpa using h5
  go_enter Tryz.func118, Tryz.ntmps118
  go_wp2_with fail
  go_ret
  exact ⟨rfl, zab yyr _⟩
 have g1 : decide (k < 1) = false := by simpa using h1
 have g2 : decide (k > 5) = false := by simpa using h5
 have g3 : decide (5 < k) = false := by simpa using h5
 rw [zu7 k x y (by omega) (by omega)]
 obtain ⟨W1, hW1⟩ := yye (W.alloc (.cells #[.int .i64 k, .int .i64 x, .int .i64 y] 68))
 have hB1 : Below W.heap.size W W1 := by rw [← hW1]; exact zab yyr _
 have hP1 : W1.heap[W.heap.size]? = some (.cells #[.int .i64 k, .int .i64 x, .int .i64 y] 68 (0, 0)) := by rw [← hW1]; exact heap_alloc_new W _
 obtain ⟨bx, hbx⟩ := yye (W.heap.size)
 rw [hbx] at hP1
 have hL1 := (zdo.below HM.out hB1).spanAt k 0 (by omega) (by omega) (.inl rfl)
 obtain ⟨c0, c1, c2⟩ : W1.cell? ⟨bx, 0, none⟩ = some (.int .i64 k) ∧ W1.cell? ⟨bx, 1, none⟩ = some (.int .i64 x) ∧ W1.cell? ⟨bx, 2, none⟩ = some (.int .i64 y) := by
  refine ⟨?_, ?_, ?_⟩ <;> simp [World.cell?, hP1]
 obtain ⟨W2, hW2⟩ := yye (W1.alloc (.cells #[.int .i64 (loF k 0), .int .i64 (hiF k 0)] 257))
 have hB2 : Below W1.heap.size W1 W2 := by rw [← hW2]; exact zab yyr _
 have hP2 : W2.heap[W1.heap.size]? = some (.cells #[.int .i64 (loF k 0), .int .i64 (hiF k 0)] 257 (0, 0)) := by rw [← hW2]; exact heap_alloc_new W1 _
 obtain ⟨by1, hby⟩ := yye (W1.heap.size)
 rw [hby] at hP2
 have hL2 := (zdo.below (zdo.below HM.out hB1) hB2).spanAt k 1 (by omega) (by omega) (.inr rfl)
 have d0 := zae hB2 c0
 have d1 := zae hB2 c1
 have d2 := zae hB2 c2
 obtain ⟨l0, l1⟩ : W2.cell? ⟨by1, 0, none⟩ = some (.int .i64 (loF k 0)) ∧ W2.cell? ⟨by1, 1, none⟩ = some (.int .i64 (hiF k 0)) := by
  refine ⟨?_, ?_⟩ <;> simp [World.cell?, hP2]
 obtain ⟨W3, hW3⟩ := yye (W2.alloc (.cells #[.int .i64 (loF k 1), .int .i64 (hiF k 1)] 257))
 have hB3 : Below W2.heap.size W2 W3 := by rw [← hW3]; exact zab yyr _
 have hP3 : W3.heap[W2.heap.size]? = some (.cells #[.int .i64 (loF k 1), .int .i64 (hiF k 1)] 257 (0, 0)) := by rw [← hW3]; exact heap_alloc_new W2 _
 obtain ⟨bz, hbz⟩ := yye (W2.heap.size)
 rw [hbz] at hP3
 obtain ⟨m0, m1⟩ : W3.cell? ⟨bz, 0, none⟩ = some (.int .i64 (loF k 1)) ∧ W3.cell? ⟨bz, 1, none⟩ = some (.int .i64 (hiF k 1)) := by
  refine ⟨?_, ?_⟩ <;> simp [World.cell?, hP3]
 have HB := yyh (show Below W.heap.size W W2 ∧ Below W.heap.size W W3 from ⟨zad hB2 hB1, zad hB3 (zad hB2 hB1)⟩)
 obtain ⟨LO0, e1⟩ : ∃ z, loF k 0 = z := ⟨_, rfl⟩
 obtain ⟨HI0, e2⟩ : ∃ z, hiF k 0 = z := ⟨_, rfl⟩
 obtain ⟨LO1, e3⟩ : ∃ z, loF k 1 = z := ⟨_, rfl⟩
 obtain ⟨HI1, e4⟩ : ∃ z, hiF k 1 = z := ⟨_, rfl⟩
 rw [e1, e2] at hW2 hL1
 rw [e3, e4] at hW3 hL2
 rw [e1] at l0
 rw [e2] at l1
 rw [e3] at m0
 rw [e4] at m1
 rw [e1, e2, e3, e4]
 clear hB1 hP1 hB2 hP2 hB3 hP3 HM e1 e2 e3 e4
 have hgo : ∀ (Q : Prop), ((x < LO0 → Q) ∧ (¬ x < LO0 → HI0 < x → Q) ∧ (¬ x < LO0 → ¬ HI0 < x → y < LO1 → Q) ∧ (¬ x < LO0 → ¬ HI0 < x → ¬ y < LO1 → HI1 < y → Q) ∧ (¬ x < LO0 → ¬ HI0 < x → ¬ y < LO1 → ¬ HI1 < y → Q)) → Q := by
  intro Q hQ
  by_cases a : x < LO0
  · exact hQ.1 a
  by_cases b : HI0 < x
  · exact hQ.2.1 a b
  by_cases c : y < LO1
  · exact hQ.2.2.1 a b c
  by_cases d : HI1 < y
  · exact hQ.2.2.2.1 a b c d
  · exact hQ.2.2.2.2 a b c d
 have hi0 : ∀ w, (Instr.index 110 (.agg #[.int .i64 x, .int .i64 y]) (.int .i64 0)).run Tryz.prog w = .ok (.int .i64 x) w := fun _ => by kernel_rfl
 have hi1 : ∀ w, (Instr.index 110 (.agg #[.int .i64 x, .int .i64 y]) (.int .i64 1)).run Tryz.prog w = .ok (.int .i64 y) w := fun _ => by kernel_rfl
 refine hgo _ ⟨fun a => ?_, fun a b => ?_, fun a b c => ?_, fun a b c d => ?_, fun a b c d => ?_⟩
 all_goals
  clear hgo
  first
   | (rw [show decide (LO0 ≤ x ∧ x ≤ HI0 ∧ LO1 ≤ y ∧ y ≤ HI1) = false from by simp; omega])
   | (rw [show decide (LO0 ≤ x ∧ x ≤ HI0 ∧ LO1 ≤ y ∧ y ≤ HI1) = true from by simp; omega])
  try have a1 : decide (x < LO0) = false := by simpa using a
  try have b1 : decide (HI0 < x) = false := by simpa using b
  try have b2 : decide (x > HI0) = false := by simpa using b
  try have c3 : decide (y < LO1) = false := by simpa using c
  try have d3 : decide (HI1 < y) = false := by simpa using d
  try have d4 : decide (y > HI1) = false := by simpa using d
  go_enter Tryz.func118, Tryz.ntmps118
  go_upto_region 3 with fail
  try rw [hW1]
  try rw [hbx]
  go_wp2_with fail
  refine wp_loop_rounds 3 ?_
  rw [rounds_succ]
  go_upto_region 7 with fail
  try rw [hW2]
  try rw [hby]
  go_wp2_with fail
  first
   | (go_ret; exact ⟨rfl, HB.out.1⟩)
   | (rw [rounds_succ]
      go_upto_region 7 with fail
      try rw [hW3]
      try rw [hbz]
      go_wp2_with fail
      first
       | (go_ret; exact ⟨rfl, HB.out.2⟩)
       | (rw [rounds_succ]
          go_wp2_with fail
          go_ret
          exact ⟨rfl, HB.out.2⟩))
end
end Go.Proofs.YtcfhkbcllijnkaaGreat
