/- Parts of the proof of TopOnce, under no condition. -/
import Derived.Test.YtcfhkbcllijnkaaGreatZTopOncean
import Derived.StillTailTactics
set_option linter.unusedVariables false
set_option linter.unusedSimpArgs false
set_option maxRecDepth 100000
set_option maxHeartbeats 0
namespace Go.Proofs.YtcfhkbcllijnkaaGreat
open Go.RowKit
def enV (e : En) : Value := .agg #[.int .u64 e.key, .int .i64 e.id]
theorem zdi (x : Int) (w : World) : Calls Tryz.prog 201 #[.int .u64 x] w fun e w' => e = .returned (.bool false) ∧ w = w' := by
 go_enter Tryz.func201, Tryz.ntmps201
 go_wp2_with fail
 go_ret
 exact ⟨by simp, rfl⟩
theorem zdj (x : Int) (w : World) : Calls Tryz.prog 202 #[.int .i64 x] w fun e w' => e = .returned (.bool false) ∧ w = w' := by
 go_enter Tryz.func202, Tryz.ntmps202
 go_wp2_with fail
 go_ret
 exact ⟨by simp, rfl⟩
theorem zld (x y : Int) (w : World) : Calls Tryz.prog 140 #[.int .u64 x, .int .u64 y] w fun e w' => e = .returned (.int .i64 (zob x y)) ∧ w = w' := by
 rcases zee x y with ⟨h, e⟩ | ⟨h, e⟩ | ⟨h, e⟩ <;> rw [e]
 ·
  have g1 : decide (x < y) = true := by simpa using h
  go_enter Tryz.func140, Tryz.ntmps140
  go_wp2_with fail
  refine (zdi _ _).mono ?_
  rintro e w' ⟨rfl, rfl⟩
  go_wp2_with fail
  refine (zdi _ _).mono ?_
  rintro e w' ⟨rfl, rfl⟩
  go_wp2_with fail
  go_ret
  exact ⟨rfl, rfl⟩
 ·
  subst h
  have g1 : decide (x < x) = false := by simp
  have g2 : decide (x > x) = false := by simp
  go_enter Tryz.func140, Tryz.ntmps140
  go_wp2_with fail
  refine (zdi _ _).mono ?_
  rintro e w' ⟨rfl, rfl⟩
  go_wp2_with fail
  refine (zdi _ _).mono ?_
  rintro e w' ⟨rfl, rfl⟩
  go_wp2_with fail
  go_ret
  exact ⟨rfl, rfl⟩
 ·
  have g1 : decide (x < y) = false := by simp; omega
  have g2 : decide (x > y) = true := by simpa using h
  have g3 : decide (y < x) = true := by simpa using h
  go_enter Tryz.func140, Tryz.ntmps140
  go_wp2_with fail
  refine (zdi _ _).mono ?_
  rintro e w' ⟨rfl, rfl⟩
  go_wp2_with fail
  refine (zdi _ _).mono ?_
  rintro e w' ⟨rfl, rfl⟩
  go_wp2_with fail
  go_ret
  exact ⟨rfl, rfl⟩
theorem zle (x y : Int) (w : World) : Calls Tryz.prog 141 #[.int .i64 x, .int .i64 y] w fun e w' => e = .returned (.int .i64 (zob x y)) ∧ w = w' := by
 rcases zee x y with ⟨h, e⟩ | ⟨h, e⟩ | ⟨h, e⟩ <;> rw [e]
 ·
  have g1 : decide (x < y) = true := by simpa using h
  go_enter Tryz.func141, Tryz.ntmps141
  go_wp2_with fail
  refine (zdj _ _).mono ?_
  rintro e w' ⟨rfl, rfl⟩
  go_wp2_with fail
  refine (zdj _ _).mono ?_
  rintro e w' ⟨rfl, rfl⟩
  go_wp2_with fail
  go_ret
  exact ⟨rfl, rfl⟩
 ·
  subst h
  have g1 : decide (x < x) = false := by simp
  have g2 : decide (x > x) = false := by simp
  go_enter Tryz.func141, Tryz.ntmps141
  go_wp2_with fail
  refine (zdj _ _).mono ?_
  rintro e w' ⟨rfl, rfl⟩
  go_wp2_with fail
  refine (zdj _ _).mono ?_
  rintro e w' ⟨rfl, rfl⟩
  go_wp2_with fail
  go_ret
  exact ⟨rfl, rfl⟩
 ·
  have g1 : decide (x < y) = false := by simp; omega
  have g2 : decide (x > y) = true := by simpa using h
  have g3 : decide (y < x) = true := by simpa using h
  go_enter Tryz.func141, Tryz.ntmps141
  go_wp2_with fail
  refine (zdj _ _).mono ?_
  rintro e w' ⟨rfl, rfl⟩
  go_wp2_with fail
  refine (zdj _ _).mono ?_
  rintro e w' ⟨rfl, rfl⟩
  go_wp2_with fail
  go_ret
  exact ⟨rfl, rfl⟩
theorem zaa {W : World} {b i : Nat} {c : Array Value} {t : TypeId} {fr : Nat × Nat} (h : W.heap[b]? = some (.cells c t fr)) : W.cell? ⟨b, i, none⟩ = c[i]? := by simp [World.cell?, h]
theorem zda (W : World) (c : Array Value) (t : TypeId) (i : Nat) : (W.alloc (.cells c t)).cell? ⟨W.heap.size, i, none⟩ = c[i]? := zaa (heap_alloc_new W _)
theorem zjt (w : World) (A B : Obj) (i : Nat) (v : Value) {c : Array Value} {t : TypeId} (h : A = .cells c t) (hv : c[i]? = some v) : ((w.alloc A).alloc B).drew.cell? ⟨w.heap.size, i, none⟩ = some v := by
 subst h
 have : ((w.alloc (.cells c t)).alloc B).drew.heap[w.heap.size]? = some (.cells c t) := by
  show ((w.heap.push _).push _)[w.heap.size]? = _
  rw [Array.getElem?_push, if_neg (by simp), Array.getElem?_push, if_pos rfl]
 exact (zaa this).trans hv
theorem zju (w : World) (A B : Obj) (i : Nat) (v : Value) {c : Array Value} {t : TypeId} (h : B = .cells c t) (hv : c[i]? = some v) : ((w.alloc A).alloc B).drew.cell? ⟨w.heap.size + 1, i, none⟩ = some v := by
 subst h
 have : ((w.alloc A).alloc (.cells c t)).drew.heap[w.heap.size + 1]? = some (.cells c t) := by
  show ((w.heap.push _).push _)[w.heap.size + 1]? = _
  rw [Array.getElem?_push, if_pos (by simp)]
 exact (zaa this).trans hv
def or2 (x y : Int) : Int := if x ≠ 0 then x else y
theorem Or2 (w : World) (b : Nat) (x y : Int) (h0 : w.cell? ⟨b, 0, none⟩ = some (.int .i64 x)) (h1 : w.cell? ⟨b, 1, none⟩ = some (.int .i64 y)) : Calls Tryz.prog 139 #[.slice (some ⟨b, 0, none⟩) 2 2] w fun e w' => e = .returned (.int .i64 (or2 x y)) ∧ w = w' := by
 go_enter Tryz.func139, Tryz.ntmps139
 go_wp2_with fail
 go_loopg [5, 8] 2 (fun gg _ v8 wr => ∃ i : Nat, i ≤ 2 ∧ gg = 2 - i ∧ v8 = .int .i64 i ∧ w = wr ∧ (1 ≤ i → x = 0) ∧ (2 ≤ i → y = 0))
 case atStart => exact ⟨0, by omega, rfl, rfl, rfl, fun h => absurd h (by omega), fun h => absurd h (by omega)⟩
 case round =>
  obtain ⟨i, hi, rfl, rfl, rfl, hx, hy⟩ := hrel
  have hi3 : i = 0 ∨ i = 1 ∨ i = 2 := by omega
  rcases hi3 with rfl | rfl | rfl
  ·
   by_cases hx0 : x = 0
   ·
    subst hx0
    have g : ((0 : Int) != 0) = false := by decide
    go_wp2_with fail
    go_roundg (2 - 1)
    case measure => omega
    case rel => exact ⟨1, by omega, rfl, rfl, rfl, by simp, by simp⟩
   ·
    have g : (x != 0) = true := by simpa using hx0
    go_wp2_with fail
    go_ret
    exact ⟨by simp [or2, hx0], rfl⟩
  ·
   have hx0 := hx (by omega)
   subst hx0
   by_cases hy0 : y = 0
   ·
    subst hy0
    have g : ((0 : Int) != 0) = false := by decide
    go_wp2_with fail
    go_roundg (2 - 2)
    case measure => omega
    case rel => exact ⟨2, by omega, rfl, rfl, rfl, by simp, by simp⟩
   ·
    have g : (y != 0) = true := by simpa using hy0
    go_wp2_with fail
    go_ret
    exact ⟨by simp [or2], rfl⟩
  ·
   have hx0 := hx (by omega)
   have hy0 := hy (by omega)
   subst hx0
   subst hy0
   go_wp2_with fail
   go_ret
   exact ⟨rfl, rfl⟩
theorem zrd (a b : En) : or2 (zob a.key b.key) (zob a.id b.id) = zb1 a b := rfl
theorem zeu (a b : En) (w : World) : Calls Tryz.prog 248 #[enV a, enV b] w fun e w' => e = .returned (.int .i64 (zb1 a b)) ∧ Gr w w' := by
 rw [← zrd]
 obtain ⟨k, i⟩ := a
 obtain ⟨l, j⟩ := b
 unfold enV
 dsimp only
 have q0 : ((w.alloc (Obj.cells #[Value.int IntKind.u64 k, Value.int IntKind.i64 i] 63)).alloc (Obj.cells #[Value.int IntKind.u64 l, Value.int IntKind.i64 j] 63)).drew.cell? ⟨w.heap.size, 0, none⟩ = some (.int .u64 k) := zjt w _ _ 0 _ rfl rfl
 have q1 : ((w.alloc (Obj.cells #[Value.int IntKind.u64 k, Value.int IntKind.i64 i] 63)).alloc (Obj.cells #[Value.int IntKind.u64 l, Value.int IntKind.i64 j] 63)).drew.cell? ⟨w.heap.size, 1, none⟩ = some (.int .i64 i) := zjt w _ _ 1 _ rfl rfl
 have q2 : ((w.alloc (Obj.cells #[Value.int IntKind.u64 k, Value.int IntKind.i64 i] 63)).alloc (Obj.cells #[Value.int IntKind.u64 l, Value.int IntKind.i64 j] 63)).drew.cell? ⟨w.heap.size + 1, 0, none⟩ = some (.int .u64 l) := zju w _ _ 0 _ rfl rfl
 have q3 : ((w.alloc (Obj.cells #[Value.int IntKind.u64 k, Value.int IntKind.i64 i] 63)).alloc (Obj.cells #[Value.int IntKind.u64 l, Value.int IntKind.i64 j] 63)).drew.cell? ⟨w.heap.size + 1, 1, none⟩ = some (.int .i64 j) := zju w _ _ 1 _ rfl rfl
 have hB : Gr w ((w.alloc (Obj.cells #[Value.int IntKind.u64 k, Value.int IntKind.i64 i] 63)).alloc (Obj.cells #[Value.int IntKind.u64 l, Value.int IntKind.i64 j] 63)).drew := (((Gr.refl w).al _).al _).dr
 go_enter Tryz.func248, Tryz.ntmps248
 go_wp2_with fail
 refine wp_region_still_tail 10 (by kernel_rfl) (by kernel_rfl) ?_
 simp only [List.take_succ_cons, List.take_zero, List.drop_succ_cons, List.drop_zero]
 change wpStill _ _ (World.drew _) (fun a' => wpList _ _ _ _ a' (World.drew _)) _ _
 generalize World.drew _ = W at *
 iterate 4 still_step
 still_call (zdr (zld _ _ _))
 iterate 4 still_step
 still_call (zdr (zle _ _ _))
 refine wpStill_nil ?_
 go_wp2_with fail
 refine (Or2 _ _ _ _ (zda _ _ _ 0) (zda _ _ _ 1)).mono ?_
 rintro e w' ⟨rfl, rfl⟩
 go_wp2_with fail
 go_ret
 exact ⟨rfl, hB.al _⟩
theorem zmc (a b : En) (w : World) : Calls Tryz.prog 203 #[enV a, enV b] w fun e w' => e = .returned (.bool (ltE a b)) ∧ Gr w w' := by
 have HC := fun w => zeu a b w
 unfold ltE
 generalize zb1 a b = c at *
 obtain ⟨k, i⟩ := a
 obtain ⟨l, j⟩ := b
 unfold enV at *
 dsimp only at *
 have HC := yyh HC
 go_enter Tryz.func203, Tryz.ntmps203
 go_wp2_with fail
 refine (HC.out _).mono ?_
 rintro e w' ⟨rfl, hB⟩
 go_wp2_with fail
 go_ret
 exact ⟨rfl, (((Gr.refl w).al _).al _).trans hB⟩
theorem zot (a b : En) (w : World) : Calls Tryz.prog 284 #[enV a, enV b] w fun e w' => e = .returned (.int .i64 (zb1 a b)) ∧ Gr w w' := by
 have HC := fun w => zeu a b w
 generalize zb1 a b = c at *
 obtain ⟨k, i⟩ := a
 obtain ⟨l, j⟩ := b
 unfold enV at *
 dsimp only at *
 have HC := yyh HC
 go_enter Tryz.func284, Tryz.ntmps284
 go_wp2_with fail
 refine (HC.out _).mono ?_
 rintro e w' ⟨rfl, hB⟩
 go_wp2_with fail
 go_ret
 exact ⟨rfl, (((Gr.refl w).al _).al _).trans hB⟩
end Go.Proofs.YtcfhkbcllijnkaaGreat
