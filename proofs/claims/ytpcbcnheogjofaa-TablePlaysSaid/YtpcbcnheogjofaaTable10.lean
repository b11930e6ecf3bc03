/- Contracts of package table: Get for any task, Job, All; a task as plain numbers. -/
import Derived.Test.YtpcbcnheogjofaaTable9
namespace Go.Proofs.Ytpcbcnheogjofaa
open Go.RowKit Go.Maps Go.Shelf Go.Proofs.YtpcbcnheogjofaaW.PrintWords
set_option linter.unusedVariables false
set_option linter.unusedSimpArgs false

/-- A task, but for its number and its state. -/
structure Tk where
  pr : Int
  du : Int
  ke : Int
  ru : Int
  f : Int
  p : Int
  d : Int
  r : Int
  m : Int
  L : List Op3
def Tk.RU (T : Tk) : Int := if T.p = 0 then T.ru else T.r
def Tk.MI (T : Tk) : Int := if T.p = 0 then 0 else T.m
/-- A row's thirteen cells. -/
def RowP (R : List Value) (k : Nat) (T : Tk) (bv : Value) : Prop :=
  TaskR R k (.int .i64 ((k : Int) + 1)) (.int .i64 T.pr) (.int .i64 0) (.int .u64 T.du) (.int .u64 T.ke) (.int .u64 T.ru) (.int .u64 0) ∧ R[k * 13 + 7]? = some bv ∧ JobR R k T.f T.p T.d T.r T.m
section
variable {W W' : World} {t a b g mb : Nat} {ws : List Int} {B : Int} {rv : Value} {n : Nat} {R : List Value} {C : Int → Int → Int} {base : Nat} {q cap : Nat}
set_option maxRecDepth 100000 in
set_option maxHeartbeats 8000000 in
theorem TGet_zero (h : TbAt W t a b g mb ws B (.slice (some ⟨q, 0, none⟩) n cap) n R C base) (hB : B ≤ 800000000) (k : Nat) (hk : k < n) (hkw : k < ws.length) (hn : n ≤ 5000) (ID PR S0 DU KE RU MI : Int) (hT : TaskR R k (.int .i64 ID) (.int .i64 PR) (.int .i64 S0) (.int .u64 DU) (.int .u64 KE) (.int .u64 RU) (.int .u64 MI)) (hJ : R[k * 13 + 9]? = some (.int .u64 0)) :
    Calls Try.prog 72 #[.pointer (some ⟨t, 0, none⟩), .int .i64 ((k : Int) + 1)] W fun e w' => e = .returned (.tuple #[.agg #[.int .i64 ID, .int .i64 PR, .int .i64 (ws.getD k 0 % 8), .int .u64 DU, .int .u64 KE, .int .u64 RU, .int .u64 MI], .bool true]) ∧ TbAt w' t a b g mb ws (B + 1) (.slice (some ⟨q, 0, none⟩) n cap) n R C base ∧ Fr (own2 b g) W w' := by
  obtain ⟨Z, hZ⟩ : ∃ Z, ws.getD k 0 % 8 = Z := ⟨_, rfl⟩
  rw [hZ]
  have HZ := Lib.hid hZ
  clear hZ
  obtain ⟨x, hx⟩ : ∃ x, W.heap.size = x := ⟨_, rfl⟩
  obtain ⟨W0, hW0⟩ : ∃ W0, W.alloc (.cells #[.int .i64 0, .int .i64 0, .int .i64 0, .int .u64 0, .int .u64 0, .int .u64 0, .int .u64 0] 98) = W0 := ⟨_, rfl⟩
  have h0 : TbAt W0 t a b g mb ws B (.slice (some ⟨q, 0, none⟩) n cap) n R C base := by rw [← hW0]; exact h.al _
  have HAT := Lib.hid (at_in h0 ((k : Int) + 1) k rfl hk hn)
  have hx0 : W0.heap[x]? = some (.cells #[.int .i64 0, .int .i64 0, .int .i64 0, .int .u64 0, .int .u64 0, .int .u64 0, .int .u64 0] 98 (0, 0)) := by rw [← hW0, ← hx]; exact heap_alloc_new W _
  have hs0 : W0.heap.size = x + 1 := by rw [← hW0, ← hx]; simp
  have hF0 : Fr (own2 b g) W W0 := by rw [← hW0]; exact (Fr.refl _ _).al _
  obtain ⟨q0, q1, q2, q3, q4, q5, q6⟩ := hT
  have t0 := h0.rcell (k * 13) (by omega) _ q0
  have t1 := h0.rcell (k * 13 + 1) (by omega) _ q1
  have t2 := h0.rcell (k * 13 + 2) (by omega) _ q2
  have t3 := h0.rcell (k * 13 + 3) (by omega) _ q3
  have t4 := h0.rcell (k * 13 + 4) (by omega) _ q4
  have t5 := h0.rcell (k * 13 + 5) (by omega) _ q5
  have t6 := h0.rcell (k * 13 + 6) (by omega) _ q6
  obtain ⟨lt1, lt2, lt3, lt4, lt5⟩ := h.lt
  have hqx : q < x := by rw [← hx]; exact h.q_ge.2
  have hqb := h.q_ge.1
  obtain ⟨la, lb, lg⟩ := h.ar.lts
  have NX := Lib.hid (show ¬ own2 b g x ∧ ¬ own2 b g (x + 1) from ⟨fun hh => by rcases hh with hh | hh <;> omega, fun hh => by rcases hh with hh | hh <;> omega⟩)
  have HH := Lib.hid h0
  have HJ := Lib.hid hJ
  go_enter Try.func72, Try.ntmps72
  go_upto_region 1 with fail
  try rw [hW0]
  clear hW0 h h0 q0 q1 q2 q3 q4 q5 q6 hJ la lb lg lt1 lt2 lt3 lt4 lt5
  go_wp2_with fail
  refine HAT.out.mono ?_
  rintro e w' ⟨rfl, rfl⟩
  go_upto_region 5 with fail
  obtain ⟨W1, hW1⟩ : ∃ W1, W0.alloc (.cells #[.int .i64 ID, .int .i64 PR, .int .i64 S0, .int .u64 DU, .int .u64 KE, .int .u64 RU, .int .u64 MI] 98) = W1 := ⟨_, rfl⟩
  have h1 : TbAt W1 t a b g mb ws B (.slice (some ⟨q, 0, none⟩) n cap) n R C base := by rw [← hW1]; exact HH.out.al _
  have hx1 : W1.heap[x]? = some (.cells #[.int .i64 0, .int .i64 0, .int .i64 0, .int .u64 0, .int .u64 0, .int .u64 0, .int .u64 0] 98 (0, 0)) := by rw [← hW1]; exact alloc_old hx0
  have hy1 : W1.heap[x + 1]? = some (.cells #[.int .i64 ID, .int .i64 PR, .int .i64 S0, .int .u64 DU, .int .u64 KE, .int .u64 RU, .int .u64 MI] 98 (0, 0)) := by rw [← hW1]; exact alloc_at hs0.symm
  have hF1 : Fr (own2 b g) W W1 := by rw [← hW1]; exact hF0.al _
  try rw [hW1]
  try rw [hs0]
  clear hW1 hx0 hs0 hF0 t0 t1 t2 t3 t4 t5 t6
  obtain ⟨c0, c1, c2⟩ := h1.cells
  have H1 := Lib.hid h1
  clear h1
  go_wp2_with fail
  refine (State_in H1.out.ar (by omega) _ k rfl hkw).mono ?_
  rintro e w2 ⟨rfl, hA2, hF2⟩
  rw [HZ.out]
  have h2 := H1.out.arFr hF2 hA2
  have hx2 := (hF2.block x (Array.getElem?_eq_some_iff.1 hx1).1 NX.out.1).trans hx1
  have hy2 := (hF2.block (x + 1) (Array.getElem?_eq_some_iff.1 hy1).1 NX.out.2).trans hy1
  have hF3 := hF1.trans hF2
  clear hA2 hF2 hF1 hx1 hy1 c0 c1 c2
  have y2 : w2.cell? ⟨x + 1, 2, none⟩ = some (.int .i64 S0) := by simp [World.cell?, hy2]
  have yf : ∀ i, w2.frozen? ⟨x + 1, i, none⟩ = false := fun i => by simp [World.frozen?, hy2]
  have yf2 := yf 2
  go_upto_region 6 with fail
  obtain ⟨W3, hW3⟩ : ∃ W3, w2.setCell ⟨x + 1, 2, none⟩ (.int .i64 Z) = W3 := ⟨_, rfl⟩
  have h3 : TbAt W3 t a b g mb ws (B + 1) (.slice (some ⟨q, 0, none⟩) n cap) n R C base := by rw [← hW3]; exact h2.other (by omega) (by omega) _
  have hx4 : W3.heap[x]? = some (.cells #[.int .i64 0, .int .i64 0, .int .i64 0, .int .u64 0, .int .u64 0, .int .u64 0, .int .u64 0] 98 (0, 0)) := by rw [← hW3]; exact heap_set_ne hx2 (by omega) _
  have hy4 : W3.heap[x + 1]? = some (.cells #[.int .i64 ID, .int .i64 PR, .int .i64 Z, .int .u64 DU, .int .u64 KE, .int .u64 RU, .int .u64 MI] 98 (0, 0)) := by rw [← hW3, heap_set hy2]; rfl
  have hF5 : Fr (fun k => own2 b g k ∨ x ≤ k) W W3 := by rw [← hW3]; exact (hF3.mono (fun k hk => Or.inl hk)).set (p := ⟨x + 1, 2, none⟩) (.inr (by show x ≤ x + 1; omega)) _
  try rw [hW3]
  clear hW3 h2 hx2 hy2 hF3 y2 yf yf2
  have j9 := h3.rcell (k * 13 + 9) (by omega) _ HJ.out
  have y0 : W3.cell? ⟨x + 1, 0, none⟩ = some (.int .i64 ID) := by simp [World.cell?, hy4]
  have y1 : W3.cell? ⟨x + 1, 1, none⟩ = some (.int .i64 PR) := by simp [World.cell?, hy4]
  have y2 : W3.cell? ⟨x + 1, 2, none⟩ = some (.int .i64 Z) := by simp [World.cell?, hy4]
  have y3 : W3.cell? ⟨x + 1, 3, none⟩ = some (.int .u64 DU) := by simp [World.cell?, hy4]
  have y4 : W3.cell? ⟨x + 1, 4, none⟩ = some (.int .u64 KE) := by simp [World.cell?, hy4]
  have y5 : W3.cell? ⟨x + 1, 5, none⟩ = some (.int .u64 RU) := by simp [World.cell?, hy4]
  have y6 : W3.cell? ⟨x + 1, 6, none⟩ = some (.int .u64 MI) := by simp [World.cell?, hy4]
  have x0 : W3.cell? ⟨x, 0, none⟩ = some (.int .i64 0) := by simp [World.cell?, hx4]
  have x1 : W3.cell? ⟨x, 1, none⟩ = some (.int .i64 0) := by simp [World.cell?, hx4]
  have x2 : W3.cell? ⟨x, 2, none⟩ = some (.int .i64 0) := by simp [World.cell?, hx4]
  have x3 : W3.cell? ⟨x, 3, none⟩ = some (.int .u64 0) := by simp [World.cell?, hx4]
  have x4 : W3.cell? ⟨x, 4, none⟩ = some (.int .u64 0) := by simp [World.cell?, hx4]
  have x5 : W3.cell? ⟨x, 5, none⟩ = some (.int .u64 0) := by simp [World.cell?, hx4]
  have x6 : W3.cell? ⟨x, 6, none⟩ = some (.int .u64 0) := by simp [World.cell?, hx4]
  have f0 : W3.frozen? ⟨x, 0, none⟩ = false := by simp [World.frozen?, hx4]
  have f1 : W3.frozen? ⟨x, 1, none⟩ = false := by simp [World.frozen?, hx4]
  have f2 : W3.frozen? ⟨x, 2, none⟩ = false := by simp [World.frozen?, hx4]
  have f3 : W3.frozen? ⟨x, 3, none⟩ = false := by simp [World.frozen?, hx4]
  have f4 : W3.frozen? ⟨x, 4, none⟩ = false := by simp [World.frozen?, hx4]
  have f5 : W3.frozen? ⟨x, 5, none⟩ = false := by simp [World.frozen?, hx4]
  have f6 : W3.frozen? ⟨x, 6, none⟩ = false := by simp [World.frozen?, hx4]
  have H4 := Lib.hid h3
  clear h3 hx4 hy4
  go_wp2_with fail
  refine bodyPost_ret (v := .tuple #[.agg #[.int .i64 ID, .int .i64 PR, .int .i64 Z, .int .u64 DU, .int .u64 KE, .int .u64 RU, .int .u64 MI], .bool true]) (by simp [results, Try.results72, go_sem, x0, x1, x2, x3, x4, x5, x6]) rfl ?_
  refine ⟨rfl, ?_, ?_⟩
  · exact ((((((H4.out.other (by omega) (by omega) _).other (by omega) (by omega) _).other (by omega) (by omega) _).other (by omega) (by omega) _).other (by omega) (by omega) _).other (by omega) (by omega) _).other (by omega) (by omega) _
  · have hFn := (((((((hF5.set (p := ⟨x, 0, none⟩) (Or.inr (Nat.le_refl x)) (.int .i64 ID)).set (p := ⟨x, 1, none⟩) (Or.inr (Nat.le_refl x)) (.int .i64 PR)).set (p := ⟨x, 2, none⟩) (Or.inr (Nat.le_refl x)) (.int .i64 Z)).set (p := ⟨x, 3, none⟩) (Or.inr (Nat.le_refl x)) (.int .u64 DU)).set (p := ⟨x, 4, none⟩) (Or.inr (Nat.le_refl x)) (.int .u64 KE)).set (p := ⟨x, 5, none⟩) (Or.inr (Nat.le_refl x)) (.int .u64 RU)).set (p := ⟨x, 6, none⟩) (Or.inr (Nat.le_refl x)) (.int .u64 MI))
    exact ⟨hFn.os, hFn.tape, hFn.output, hFn.size, fun i hi hn => hFn.block i hi (fun hh => by rcases hh with hh | hh; exact hn hh; omega)⟩
theorem TGet_any (h : TbAt W t a b g mb ws B (.slice (some ⟨q, 0, none⟩) n cap) n R C base) (hB : B ≤ 800000000) (k : Nat) (hk : k < n) (hkw : k < ws.length) (hn : n ≤ 5000) (T : Tk) (bv : Value) (hp : 0 ≤ T.p) (hR : RowP R k T bv) :
    Calls Try.prog 72 #[.pointer (some ⟨t, 0, none⟩), .int .i64 ((k : Int) + 1)] W fun e w' => e = .returned (.tuple #[.agg #[.int .i64 ((k : Int) + 1), .int .i64 T.pr, .int .i64 (ws.getD k 0 % 8), .int .u64 T.du, .int .u64 T.ke, .int .u64 T.RU, .int .u64 T.MI], .bool true]) ∧ TbAt w' t a b g mb ws (B + 1) (.slice (some ⟨q, 0, none⟩) n cap) n R C base ∧ Fr (own2 b g) W w' := by
  obtain ⟨h1, h2, h3⟩ := hR
  by_cases hz : T.p = 0
  · rw [show T.RU = T.ru from by simp [Tk.RU, hz], show T.MI = 0 from by simp [Tk.MI, hz]]
    have h9 := h3.2.1
    rw [hz] at h9
    exact TGet_zero h hB k hk hkw hn _ _ _ _ _ _ _ h1 h9
  · rw [show T.RU = T.r from by simp [Tk.RU, hz], show T.MI = T.m from by simp [Tk.MI, hz]]
    exact TGet_in h hB k hk hkw hn _ _ _ _ _ _ _ _ _ _ _ _ (by omega) h1 h3
def jobL (T : Tk) : Value := if T.p = 0 then .agg #[.int .u64 0, .int .u64 0, .int .u64 0, .int .u64 0, .int .u64 0] else .agg #[.int .u64 T.f, .int .u64 T.p, .int .u64 T.d, .int .u64 T.r, .int .u64 T.m]
set_option maxRecDepth 100000 in
theorem TJob_any (h : TbAt W t a b g mb ws B (.slice (some ⟨q, 0, none⟩) n cap) n R C base) (k : Nat) (hk : k < n) (hn : n ≤ 5000) (f p d r m : Int) (hJ : JobR R k f p d r m) :
    Calls Try.prog 98 #[.pointer (some ⟨t, 0, none⟩), .int .i64 ((k : Int) + 1)] W fun e w' => e = .returned (.tuple #[if p = 0 then .agg #[.int .u64 0, .int .u64 0, .int .u64 0, .int .u64 0, .int .u64 0] else .agg #[.int .u64 f, .int .u64 p, .int .u64 d, .int .u64 r, .int .u64 m], .bool (!(p == 0))]) ∧ Below W.heap.size W w' := by
  obtain ⟨x, hx⟩ : ∃ x, W.heap.size = x := ⟨_, rfl⟩
  obtain ⟨W0, hW0⟩ : ∃ W0, W.alloc (.cells #[.int .u64 0, .int .u64 0, .int .u64 0, .int .u64 0, .int .u64 0] 57) = W0 := ⟨_, rfl⟩
  have h0 : TbAt W0 t a b g mb ws B (.slice (some ⟨q, 0, none⟩) n cap) n R C base := by rw [← hW0]; exact h.al _
  have HAT := Lib.hid (at_in h0 ((k : Int) + 1) k rfl hk hn)
  have hx0 : W0.heap[x]? = some (.cells #[.int .u64 0, .int .u64 0, .int .u64 0, .int .u64 0, .int .u64 0] 57 (0, 0)) := by rw [← hW0, ← hx]; exact heap_alloc_new W _
  have hB0 : Below W.heap.size W W0 := by rw [← hW0]; exact below_al (Below.refl _ _) _
  have HB := Lib.hid hB0
  have HX := Lib.hid hx
  obtain ⟨q8, q9, q10, q11, q12⟩ := hJ
  have t8 := h0.rcell (k * 13 + 8) (by omega) _ q8
  have t9 := h0.rcell (k * 13 + 9) (by omega) _ q9
  have t10 := h0.rcell (k * 13 + 10) (by omega) _ q10
  have t11 := h0.rcell (k * 13 + 11) (by omega) _ q11
  have t12 := h0.rcell (k * 13 + 12) (by omega) _ q12
  have hqx : q ≠ x := by have := h.q_ge.2; omega
  have hqx2 : x ≠ q := fun e => hqx e.symm
  have x0 : W0.cell? ⟨x, 0, none⟩ = some (.int .u64 0) := by simp [World.cell?, hx0]
  have x1 : W0.cell? ⟨x, 1, none⟩ = some (.int .u64 0) := by simp [World.cell?, hx0]
  have x2 : W0.cell? ⟨x, 2, none⟩ = some (.int .u64 0) := by simp [World.cell?, hx0]
  have x3 : W0.cell? ⟨x, 3, none⟩ = some (.int .u64 0) := by simp [World.cell?, hx0]
  have x4 : W0.cell? ⟨x, 4, none⟩ = some (.int .u64 0) := by simp [World.cell?, hx0]
  have f0 : W0.frozen? ⟨x, 0, none⟩ = false := by simp [World.frozen?, hx0]
  have f1 : W0.frozen? ⟨x, 1, none⟩ = false := by simp [World.frozen?, hx0]
  have f2 : W0.frozen? ⟨x, 2, none⟩ = false := by simp [World.frozen?, hx0]
  have f3 : W0.frozen? ⟨x, 3, none⟩ = false := by simp [World.frozen?, hx0]
  have f4 : W0.frozen? ⟨x, 4, none⟩ = false := by simp [World.frozen?, hx0]
  have hge : W.heap.size ≤ x := by rw [hx]; exact Nat.le_refl _
  have HGE := Lib.hid hge
  by_cases hp : p = 0
  · subst hp
    rw [if_pos rfl]
    go_enter Try.func98, Try.ntmps98
    go_upto_region 1 with fail
    try rw [hW0]
    clear hW0 h h0 hx0 hB0 hge hx q8 q9 q10 q11 q12
    go_wp2_with fail
    refine HAT.out.mono ?_
    rintro e w' ⟨rfl, rfl⟩
    go_wp2_with fail
    refine bodyPost_ret (v := .tuple #[.agg #[.int .u64 0, .int .u64 0, .int .u64 0, .int .u64 0, .int .u64 0], .bool false]) (by simp [results, Try.results98, go_sem, x0, x1, x2, x3, x4]) rfl ?_
    refine ⟨rfl, ?_⟩
    exact (((((HB.out.setCell (p := (⟨x, 0, none⟩ : Addr)) HGE.out _).setCell (p := (⟨x, 1, none⟩ : Addr)) HGE.out _).setCell (p := (⟨x, 2, none⟩ : Addr)) HGE.out _).setCell (p := (⟨x, 3, none⟩ : Addr)) HGE.out _).setCell (p := (⟨x, 4, none⟩ : Addr)) HGE.out _)
  · rw [if_neg hp]
    have g1 : (p == 0) = false := by simpa using hp
    rw [g1]
    go_enter Try.func98, Try.ntmps98
    go_upto_region 1 with fail
    try rw [hW0]
    clear hW0 h h0 hx0 hB0 hge hx q8 q9 q10 q11 q12
    go_wp2_with fail
    refine HAT.out.mono ?_
    rintro e w' ⟨rfl, rfl⟩
    go_wp2_with fail
    refine bodyPost_ret (v := .tuple #[.agg #[.int .u64 f, .int .u64 p, .int .u64 d, .int .u64 r, .int .u64 m], .bool true]) (by simp [results, Try.results98, go_sem, x0, x1, x2, x3, x4]) rfl ?_
    refine ⟨rfl, ?_⟩
    exact (((((HB.out.setCell (p := (⟨x, 0, none⟩ : Addr)) HGE.out _).setCell (p := (⟨x, 1, none⟩ : Addr)) HGE.out _).setCell (p := (⟨x, 2, none⟩ : Addr)) HGE.out _).setCell (p := (⟨x, 3, none⟩ : Addr)) HGE.out _).setCell (p := (⟨x, 4, none⟩ : Addr)) HGE.out _)
end
end Go.Proofs.Ytpcbcnheogjofaa
