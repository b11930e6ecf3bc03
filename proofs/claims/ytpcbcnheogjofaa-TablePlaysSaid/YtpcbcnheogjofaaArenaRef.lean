/- Contracts of the reference's arena (vergerref3.Arena). -/
import Derived.Test.YtpcbcnheogjofaaArena4
import Derived.StillTailTactics
namespace Go.Proofs.Ytpcbcnheogjofaa
open Go.RowKit Go.Proofs.YtpcbcnheogjofaaW.PrintWords
set_option linter.unusedVariables false
set_option linter.unusedSimpArgs false

/-- The reference's arena: the header's block h, the words' block r. -/
structure RaAt (W : World) (h r : Nat) (ws : List Int) : Prop where
  hdr : W.heap[h]? = some (.cells #[.slice (some ⟨r, 0, none⟩) ws.length ws.length] 80 (0, 0))
  row : RowI .u64 29 W r ws
  ne : h ≠ r
  len : ws.length ≤ 5000
  wf : ∀ j, 0 ≤ ws.getD j 0 ∧ ws.getD j 0 ≤ top
def own1 (r : Nat) : Nat → Prop := fun k => k = r
section
variable {W W' : World} {h r : Nat} {ws : List Int}
theorem RaAt.cell (H : RaAt W h r ws) : W.cell? ⟨h, 0, none⟩ = some (.slice (some ⟨r, 0, none⟩) ws.length ws.length) := by simp [World.cell?, H.hdr]
theorem RaAt.below (H : RaAt W h r ws) (hb : Below W.heap.size W W') : RaAt W' h r ws :=
  ⟨(hb.block h (Array.getElem?_eq_some_iff.1 H.hdr).1).trans H.hdr, (hb.block r H.row.lt).trans H.row, H.ne, H.len, H.wf⟩
theorem RaAt.fr {S : Nat → Prop} (H : RaAt W h r ws) (f : Fr S W W') (hh : ¬ S h) (hr : ¬ S r) : RaAt W' h r ws :=
  ⟨(f.block h (Array.getElem?_eq_some_iff.1 H.hdr).1 hh).trans H.hdr, H.row.fr f hr, H.ne, H.len, H.wf⟩
theorem RaAt.dr (H : RaAt W h r ws) : RaAt W.drew h r ws := ⟨H.hdr, H.row, H.ne, H.len, H.wf⟩
theorem RaAt.drN (H : RaAt W h r ws) (n : Nat) : RaAt (W.drewN n) h r ws := ⟨H.hdr, H.row, H.ne, H.len, H.wf⟩
theorem RaAt.al (H : RaAt W h r ws) (o : Obj) : RaAt (W.alloc o) h r ws := H.below (below_al (Below.refl _ _) _)
theorem RaAt.put (H : RaAt W h r ws) {c j : Nat} (h1 : h ≠ c) (h2 : r ≠ c) (v : Value) : RaAt (W.setCell ⟨c, j, none⟩ v) h r ws := H.fr ((Fr.refl (fun k => k = c) W).set rfl v) h1 h2
theorem RaAt.set (H : RaAt W h r ws) (k : Nat) (x : Int) (x0 : 0 ≤ x) (x1 : x ≤ top) : RaAt (W.setCell ⟨r, k, none⟩ (.int .u64 x)) h r (ws.set k x) :=
  ⟨by rw [heap_set_ne H.hdr H.ne]; simp, H.row.set k x, H.ne, by rw [List.length_set]; exact H.len, wf_set H.wf k x x0 x1⟩
theorem RaAt.lts (H : RaAt W h r ws) : h < W.heap.size ∧ r < W.heap.size := ⟨(Array.getElem?_eq_some_iff.1 H.hdr).1, H.row.lt⟩
/-- What a word is told to be. -/
def wordF (ws : List Int) (id : Int) : Int := if thB ws id then ws.getD (id - 1).toNat 0 else 0
theorem wordF_in {ws : List Int} {id : Int} {k : Nat} (hid : id = k + 1) (hk : k < ws.length) : wordF ws id = ws.getD k 0 := by
  unfold wordF
  rw [th_in hid hk, if_pos rfl, hid]
  congr 1
  omega
theorem wordF_out {ws : List Int} {id : Int} (h : thB ws id = false) : wordF ws id = 0 := by unfold wordF; rw [h]; rfl
theorem th_cases (ws : List Int) (id : Int) : thB ws id = false ∨ ∃ k : Nat, id = k + 1 ∧ k < ws.length := by
  by_cases h : 1 ≤ id ∧ id ≤ ws.length
  · exact .inr ⟨(id - 1).toNat, by omega, by omega⟩
  · exact .inl (by unfold thB; simpa using h)
theorem th_false {ws : List Int} {id : Int} (h : thB ws id = false) : decide (id < 1) = true ∨ (decide (id < 1) = false ∧ decide (id > ws.length) = true ∧ decide ((ws.length : Int) < id) = true) := by
  unfold thB at h
  simp at h
  by_cases h1 : id < 1
  · exact .inl (by simpa using h1)
  · exact .inr ⟨by simpa using h1, by simp; omega, by simp; omega⟩
set_option maxRecDepth 100000 in
theorem RWord_any (H : RaAt W h r ws) (id : Int) : Calls Try.prog 60 #[.pointer (some ⟨h, 0, none⟩), .int .i64 id] W fun e w' => e = .returned (.int .u64 (wordF ws id)) ∧ W = w' := by
  have c0 := H.cell
  rcases th_cases ws id with ht | ⟨k, rfl, hk⟩
  · rw [wordF_out ht]
    clear H
    rcases th_false ht with g1 | ⟨g1, g2, g3⟩
    all_goals
      go_enter Try.func60, Try.ntmps60
      go_wp2_with fail
      go_ret
      exact ⟨rfl, rfl⟩
  · rw [wordF_in rfl hk]
    have hl := H.len
    have ck := H.row.cell k hk
    obtain ⟨X, hX⟩ : ∃ X, ws.getD k 0 = X := ⟨_, rfl⟩
    rw [hX] at ck ⊢
    have g1 : decide ((k : Int) + 1 < 1) = false := by simp; omega
    have hkw : IntKind.i64.wrap (k : Int) = k := by rw [IntKind.wrap_i64]; omega
    have g2 : decide ((k : Int) + 1 > ws.length) = false := by simp; omega
    have g3 : decide ((ws.length : Int) < (k : Int) + 1) = false := by simp; omega
    clear H hX
    go_enter Try.func60, Try.ntmps60
    go_wp2_with fail
    go_ret
    exact ⟨rfl, rfl⟩
set_option maxRecDepth 100000 in
set_option maxHeartbeats 4000000 in
theorem RCount_any (H : RaAt W h r ws) (s : Int) : Calls Try.prog 63 #[.pointer (some ⟨h, 0, none⟩), .int .i64 s] W fun e w' => e = .returned (.int .i64 (cntS ws s)) ∧ W = w' := by
  have c0 := H.cell
  have hl := H.len
  have HH := Lib.hid H
  clear H
  go_enter Try.func63, Try.ntmps63
  go_wp2_with fail
  go_loopg [5, 6] ws.length (fun gg v5 v6 wr => ∃ i : Nat, gg = ws.length - i ∧ i ≤ ws.length ∧ v6 = .int .i64 i ∧ v5 = .int .i64 (cntS (ws.take i) s) ∧ W = wr)
  case atStart => exact ⟨0, rfl, by omega, rfl, by rw [List.take_zero, cntS_nil], rfl⟩
  case round =>
    obtain ⟨i, rfl, hi, rfl, rfl, rfl⟩ := hrel
    by_cases hlt : i < ws.length
    · have ci := HH.out.row.cell i hlt
      have hsucc := cntS_succ ws i hlt s
      have hbd := cntS_take_bd ws i s
      obtain ⟨X, hX⟩ : ∃ X, ws.getD i 0 = X := ⟨_, rfl⟩
      obtain ⟨C, hC⟩ : ∃ C, cntS (ws.take i) s = C := ⟨_, rfl⟩
      rw [hX] at ci hsucc
      rw [hC] at hsucc hbd ⊢
      have HS := Lib.hid hsucc
      clear hX hC hsucc
      by_cases hs : X % 8 = s
      · have g2 : (X % 8 == s) = true := by simpa using hs
        rw [if_pos hs] at HS
        clear hs
        go_wp2_with fail
        refine (ref_state_any X _).mono ?_
        rintro e w3 ⟨rfl, rfl⟩
        go_wp2_with fail
        go_roundg (ws.length - (i + 1))
        case measure => omega
        case rel => exact ⟨i + 1, rfl, by omega, by go_num, by rw [HS.out], rfl⟩
      · have g2 : (X % 8 == s) = false := by simpa using hs
        rw [if_neg hs, Int.add_zero] at HS
        clear hs
        go_wp2_with fail
        refine (ref_state_any X _).mono ?_
        rintro e w3 ⟨rfl, rfl⟩
        go_wp2_with fail
        go_roundg (ws.length - (i + 1))
        case measure => omega
        case rel => exact ⟨i + 1, rfl, by omega, by go_num, by rw [HS.out], rfl⟩
    · obtain rfl : i = ws.length := by omega
      rw [List.take_length]
      go_wp2_with fail
      go_ret
      exact ⟨rfl, rfl⟩
set_option maxRecDepth 100000 in
theorem RFree_out (H : RaAt W h r ws) (id : Int) (ho : thB ws id = false) : Calls Try.prog 59 #[.pointer (some ⟨h, 0, none⟩), .int .i64 id] W fun e w' => e = .returned (.int .i64 1) ∧ W = w' := by
  have c0 := H.cell
  clear H
  rcases th_false ho with g1 | ⟨g1, g2, g3⟩
  all_goals
    go_enter Try.func59, Try.ntmps59
    go_wp2_with fail
    go_ret
    exact ⟨rfl, rfl⟩
set_option maxRecDepth 100000 in
theorem RFree_state (H : RaAt W h r ws) (k : Nat) (hk : k < ws.length) (ho : overB (ws.getD k 0 % 8) = false) : Calls Try.prog 59 #[.pointer (some ⟨h, 0, none⟩), .int .i64 ((k : Int) + 1)] W fun e w' => e = .returned (.int .i64 7) ∧ W = w' := by
  have c0 := H.cell
  have hl := H.len
  have ck := H.row.cell k hk
  obtain ⟨X, hX⟩ : ∃ X, ws.getD k 0 = X := ⟨_, rfl⟩
  rw [hX] at ck ho
  have g1 : decide ((k : Int) + 1 < 1) = false := by simp; omega
  have hkw : IntKind.i64.wrap (k : Int) = k := by rw [IntKind.wrap_i64]; omega
  have g2 : decide ((k : Int) + 1 > ws.length) = false := by simp; omega
  have g3 : decide ((ws.length : Int) < (k : Int) + 1) = false := by simp; omega
  clear H hX
  go_enter Try.func59, Try.ntmps59
  go_wp2_with fail
  refine (ref_state_any X _).mono ?_
  rintro e w3 ⟨rfl, rfl⟩
  go_wp2_with fail
  refine (ref_over_any _ _).mono ?_
  rintro e w3 ⟨rfl, rfl⟩
  rw [ho]
  go_wp2_with fail
  go_ret
  exact ⟨rfl, rfl⟩
set_option maxRecDepth 100000 in
set_option maxHeartbeats 4000000 in
theorem RFree_ok (H : RaAt W h r ws) (k : Nat) (hk : k < ws.length) (ho : overB (ws.getD k 0 % 8) = true) : Calls Try.prog 59 #[.pointer (some ⟨h, 0, none⟩), .int .i64 ((k : Int) + 1)] W fun e w' => e = .returned (.int .i64 0) ∧ RaAt w' h r (ws.set k (nextI (ws.getD k 0) 0)) ∧ Fr (own1 r) W w' := by
  have c0 := H.cell
  have c0d := H.dr.cell
  have hl := H.len
  have ck := H.row.cell k hk
  have ckd := H.dr.row.cell k hk
  have fkd := H.dr.row.free k
  have hwf := H.wf k
  obtain ⟨X, hX⟩ : ∃ X, ws.getD k 0 = X := ⟨_, rfl⟩
  rw [hX] at ck ckd ho hwf ⊢
  have hN := fun w => same_eq (ref_next_any X 0 hwf.1 hwf.2 w)
  have hb := next_bd X 0
  obtain ⟨Y, hY⟩ : ∃ Y, nextI X 0 = Y := ⟨_, rfl⟩
  rw [hY] at hN hb ⊢
  have HN := Lib.hid hN
  have HD := Lib.hid H.dr
  have g1 : decide ((k : Int) + 1 < 1) = false := by simp; omega
  have hkw : IntKind.i64.wrap (k : Int) = k := by rw [IntKind.wrap_i64]; omega
  have g2 : decide ((k : Int) + 1 > ws.length) = false := by simp; omega
  have g3 : decide ((ws.length : Int) < (k : Int) + 1) = false := by simp; omega
  clear H hX hY hN
  go_enter Try.func59, Try.ntmps59
  go_wp2_with fail
  refine (ref_state_any X _).mono ?_
  rintro e w3 ⟨rfl, rfl⟩
  go_wp2_with fail
  refine (ref_over_any _ _).mono ?_
  rintro e w3 ⟨rfl, rfl⟩
  rw [ho]
  go_wp2_with fail
  refine wp_region_still_tail 16 (by kernel_rfl) (by kernel_rfl) ?_
  simp only [List.take_succ_cons, List.take_zero, List.drop_succ_cons, List.drop_zero]
  iterate 14 still_step
  still_call (HN.out _)
  still_step
  refine wpStill_nil ?_
  change wpList _ _ _ _ _ W.drew
  go_wp2_with fail
  go_ret
  exact ⟨rfl, HD.out.set k Y hb.1 hb.2, ((Fr.refl (own1 r) W).dr).set (p := ⟨r, k, none⟩) (show own1 r r from rfl) _⟩
set_option maxRecDepth 100000 in
theorem RAlloc_arg (H : RaAt W h r ws) (s : Int) (hcan : canB 0 s = false) : Calls Try.prog 58 #[.pointer (some ⟨h, 0, none⟩), .int .i64 s] W fun e w' => e = .returned (.tuple #[.int .i64 0, .int .i64 1]) ∧ W = w' := by
  have hC := fun w => ref_can_any 0 s w
  rw [hcan] at hC
  have HC := Lib.hid hC
  clear H hC hcan
  go_enter Try.func58, Try.ntmps58
  go_wp2_with fail
  refine (HC.out _).mono ?_
  rintro e w1 ⟨rfl, rfl⟩
  go_wp2_with fail
  go_ret2
  exact ⟨rfl, rfl⟩
set_option maxRecDepth 100000 in
set_option maxHeartbeats 4000000 in
theorem RAlloc_full (H : RaAt W h r ws) (s : Int) (hcan : canB 0 s = true) (hall : ∀ j, j < ws.length → (ws.getD j 0 % 8 == 0) = false) : Calls Try.prog 58 #[.pointer (some ⟨h, 0, none⟩), .int .i64 s] W fun e w' => e = .returned (.tuple #[.int .i64 0, .int .i64 65]) ∧ W = w' := by
  have hC := fun w => ref_can_any 0 s w
  rw [hcan] at hC
  have HC := Lib.hid hC
  have HALL := Lib.hid hall
  have c0 := H.cell
  have hl := H.len
  have HH := Lib.hid H
  clear H hC hcan hall
  go_enter Try.func58, Try.ntmps58
  go_wp2_with fail
  refine (HC.out _).mono ?_
  rintro e w1 ⟨rfl, rfl⟩
  go_wp2_with fail
  go_loopg [6] ws.length (fun gg v6 wr => ∃ i : Nat, gg = ws.length - i ∧ i ≤ ws.length ∧ v6 = .int .i64 i ∧ W = wr)
  case atStart => exact ⟨0, rfl, by omega, rfl, rfl⟩
  case round =>
    obtain ⟨i, rfl, hi, rfl, rfl⟩ := hrel
    by_cases hlt : i < ws.length
    · have ci := HH.out.row.cell i hlt
      have g2 := HALL.out i hlt
      obtain ⟨X, hX⟩ : ∃ X, ws.getD i 0 = X := ⟨_, rfl⟩
      rw [hX] at ci g2
      clear hX
      go_wp2_with fail
      refine (ref_state_any X _).mono ?_
      rintro e w3 ⟨rfl, rfl⟩
      go_wp2_with fail
      go_roundg (ws.length - (i + 1))
      case measure => omega
      case rel => exact ⟨i + 1, rfl, by omega, by go_num, rfl⟩
    · obtain rfl : i = ws.length := by omega
      go_wp2_with fail
      go_ret2
      exact ⟨rfl, rfl⟩
set_option maxRecDepth 100000 in
set_option maxHeartbeats 4000000 in
theorem RAlloc_at (H : RaAt W h r ws) (s : Int) (hcan : canB 0 s = true) (k : Nat) (hk : k < ws.length) (hpre : ∀ j, j < k → (ws.getD j 0 % 8 == 0) = false) (hfree : (ws.getD k 0 % 8 == 0) = true) : Calls Try.prog 58 #[.pointer (some ⟨h, 0, none⟩), .int .i64 s] W fun e w' => e = .returned (.tuple #[.int .i64 ((k : Int) + 1), .int .i64 0]) ∧ RaAt w' h r (ws.set k (nextI (ws.getD k 0) s)) ∧ Fr (own1 r) W w' := by
  have hC := fun w => ref_can_any 0 s w
  rw [hcan] at hC
  have HC := Lib.hid hC
  have HALL := Lib.hid hpre
  have c0 := H.cell
  have c0d := H.dr.cell
  have hl := H.len
  have ckd := H.dr.row.cell k hk
  have ck := H.row.cell k hk
  have fkd := H.dr.row.free k
  have hwf := H.wf k
  obtain ⟨X, hX⟩ : ∃ X, ws.getD k 0 = X := ⟨_, rfl⟩
  rw [hX] at ck ckd hfree hwf ⊢
  have hN := fun w => same_eq (ref_next_any X s hwf.1 hwf.2 w)
  have hb := next_bd X s
  obtain ⟨Y, hY⟩ : ∃ Y, nextI X s = Y := ⟨_, rfl⟩
  rw [hY] at hN hb ⊢
  have HN := Lib.hid hN
  have HD := Lib.hid H.dr
  have HH := Lib.hid H
  have HF := Lib.hid hfree
  clear H hC hcan hpre hX hY hN hfree
  go_enter Try.func58, Try.ntmps58
  go_wp2_with fail
  refine (HC.out _).mono ?_
  rintro e w1 ⟨rfl, rfl⟩
  go_wp2_with fail
  go_loopg [6] k (fun gg v6 wr => ∃ i : Nat, gg = k - i ∧ i ≤ k ∧ v6 = .int .i64 i ∧ W = wr)
  case atStart => exact ⟨0, rfl, by omega, rfl, rfl⟩
  case round =>
    obtain ⟨i, rfl, hi, rfl, rfl⟩ := hrel
    by_cases hlt : i < k
    · have ci := HH.out.row.cell i (by omega)
      have g2 := HALL.out i hlt
      obtain ⟨Z, hZ⟩ : ∃ X, ws.getD i 0 = X := ⟨_, rfl⟩
      rw [hZ] at ci g2
      have hil : i < ws.length := by omega
      clear hZ ck ckd fkd c0d
      go_wp2_with fail
      refine (ref_state_any Z _).mono ?_
      rintro e w3 ⟨rfl, rfl⟩
      go_wp2_with fail
      go_roundg (k - (i + 1))
      case measure => omega
      case rel => exact ⟨i + 1, rfl, by omega, by go_num, rfl⟩
    · obtain rfl : i = k := by omega
      have g2 := HF.out
      go_wp2_with fail
      refine (ref_state_any X _).mono ?_
      rintro e w3 ⟨rfl, rfl⟩
      go_wp2_with fail
      refine wp_region_still_tail 15 (by kernel_rfl) (by kernel_rfl) ?_
      simp only [List.take_succ_cons, List.take_zero, List.drop_succ_cons, List.drop_zero]
      iterate 13 still_step
      still_call (HN.out _)
      still_step
      refine wpStill_nil ?_
      change wpList _ _ _ _ _ W.drew
      go_wp2_with fail
      go_ret2
      exact ⟨rfl, HD.out.set i Y hb.1 hb.2, ((Fr.refl (own1 r) W).dr).set (p := ⟨r, i, none⟩) (show own1 r r from rfl) _⟩
set_option maxRecDepth 100000 in
theorem RTurn_out (H : RaAt W h r ws) (id old s : Int) (ho : thB ws id = false) : Calls Try.prog 61 #[.pointer (some ⟨h, 0, none⟩), .int .i64 id, .int .u64 old, .int .i64 s] W fun e w' => e = .returned (.tuple #[.int .u64 0, .int .i64 1]) ∧ W = w' := by
  have c0 := H.cell
  clear H
  rcases th_false ho with g1 | ⟨g1, g2, g3⟩
  all_goals
    go_enter Try.func61, Try.ntmps61
    go_wp2_with fail
    go_ret2
    exact ⟨rfl, rfl⟩
set_option maxRecDepth 100000 in
theorem RTurn_arg (H : RaAt W h r ws) (k : Nat) (hk : k < ws.length) (old s : Int) (hs : s ≤ 0 ∨ 7 ≤ s) : Calls Try.prog 61 #[.pointer (some ⟨h, 0, none⟩), .int .i64 ((k : Int) + 1), .int .u64 old, .int .i64 s] W fun e w' => e = .returned (.tuple #[.int .u64 0, .int .i64 1]) ∧ W = w' := by
  have c0 := H.cell
  have hl := H.len
  have g1 : decide ((k : Int) + 1 < 1) = false := by simp; omega
  have hkw : IntKind.i64.wrap (k : Int) = k := by rw [IntKind.wrap_i64]; omega
  have g2 : decide ((k : Int) + 1 > ws.length) = false := by simp; omega
  have g3 : decide ((ws.length : Int) < (k : Int) + 1) = false := by simp; omega
  have hs2 : (decide (s < 1) = true) ∨ (decide (s < 1) = false ∧ decide (s > 6) = true ∧ decide (6 < s) = true) := by
    rcases hs with h | h
    · exact .inl (by simp; omega)
    · exact .inr ⟨by simp; omega, by simp; omega, by simp; omega⟩
  clear H hs
  rcases hs2 with g4 | ⟨g4, g5, g6⟩
  all_goals
    go_enter Try.func61, Try.ntmps61
    go_wp2_with fail
    go_ret2
    exact ⟨rfl, rfl⟩
set_option maxRecDepth 100000 in
set_option maxHeartbeats 4000000 in
theorem RTurn_state (H : RaAt W h r ws) (k : Nat) (hk : k < ws.length) (old s : Int) (s0 : 1 ≤ s) (s1 : s ≤ 6) (hcan : canB (old % 8) s = false) : Calls Try.prog 61 #[.pointer (some ⟨h, 0, none⟩), .int .i64 ((k : Int) + 1), .int .u64 old, .int .i64 s] W fun e w' => e = .returned (.tuple #[.int .u64 0, .int .i64 7]) ∧ W = w' := by
  have c0 := H.cell
  have hl := H.len
  have g1 : decide ((k : Int) + 1 < 1) = false := by simp; omega
  have hkw : IntKind.i64.wrap (k : Int) = k := by rw [IntKind.wrap_i64]; omega
  have g2 : decide ((k : Int) + 1 > ws.length) = false := by simp; omega
  have g3 : decide ((ws.length : Int) < (k : Int) + 1) = false := by simp; omega
  have g4 : decide (s < 1) = false := by simp; omega
  have g5 : decide (s > 6) = false := by simp; omega
  have g6 : decide (6 < s) = false := by simp; omega
  have hC := fun w => ref_can_any (old % 8) s w
  rw [hcan] at hC
  have HC := Lib.hid hC
  clear H hC hcan
  go_enter Try.func61, Try.ntmps61
  go_wp2_with fail
  refine (ref_state_any old _).mono ?_
  rintro e w3 ⟨rfl, rfl⟩
  go_wp2_with fail
  refine (HC.out _).mono ?_
  rintro e w3 ⟨rfl, rfl⟩
  go_wp2_with fail
  go_ret2
  exact ⟨rfl, rfl⟩
set_option maxRecDepth 100000 in
set_option maxHeartbeats 4000000 in
theorem RTurn_late (H : RaAt W h r ws) (k : Nat) (hk : k < ws.length) (old s : Int) (s0 : 1 ≤ s) (s1 : s ≤ 6) (hcan : canB (old % 8) s = true) (hit : (ws.getD k 0 != old) = true) : Calls Try.prog 61 #[.pointer (some ⟨h, 0, none⟩), .int .i64 ((k : Int) + 1), .int .u64 old, .int .i64 s] W fun e w' => e = .returned (.tuple #[.int .u64 0, .int .i64 8]) ∧ W = w' := by
  have c0 := H.cell
  have hl := H.len
  have g1 : decide ((k : Int) + 1 < 1) = false := by simp; omega
  have hkw : IntKind.i64.wrap (k : Int) = k := by rw [IntKind.wrap_i64]; omega
  have g2 : decide ((k : Int) + 1 > ws.length) = false := by simp; omega
  have g3 : decide ((ws.length : Int) < (k : Int) + 1) = false := by simp; omega
  have g4 : decide (s < 1) = false := by simp; omega
  have g5 : decide (s > 6) = false := by simp; omega
  have g6 : decide (6 < s) = false := by simp; omega
  have hC := fun w => ref_can_any (old % 8) s w
  rw [hcan] at hC
  have HC := Lib.hid hC
  have ck := H.row.cell k hk
  obtain ⟨X, hX⟩ : ∃ X, ws.getD k 0 = X := ⟨_, rfl⟩
  rw [hX] at ck hit
  clear H hC hcan hX
  go_enter Try.func61, Try.ntmps61
  go_wp2_with fail
  refine (ref_state_any old _).mono ?_
  rintro e w3 ⟨rfl, rfl⟩
  go_wp2_with fail
  refine (HC.out _).mono ?_
  rintro e w3 ⟨rfl, rfl⟩
  go_wp2_with fail
  go_ret2
  exact ⟨rfl, rfl⟩
set_option maxRecDepth 100000 in
set_option maxHeartbeats 4000000 in
theorem RTurn_ok (H : RaAt W h r ws) (k : Nat) (hk : k < ws.length) (old s : Int) (o0 : 0 ≤ old) (o1 : old ≤ top) (s0 : 1 ≤ s) (s1 : s ≤ 6) (hcan : canB (old % 8) s = true) (hit : (ws.getD k 0 != old) = false) : Calls Try.prog 61 #[.pointer (some ⟨h, 0, none⟩), .int .i64 ((k : Int) + 1), .int .u64 old, .int .i64 s] W fun e w' => e = .returned (.tuple #[.int .u64 (nextI old s), .int .i64 0]) ∧ RaAt w' h r (ws.set k (nextI old s)) ∧ Fr (own1 r) W w' := by
  have c0 := H.cell
  have c0d := H.dr.cell
  have hl := H.len
  have g1 : decide ((k : Int) + 1 < 1) = false := by simp; omega
  have hkw : IntKind.i64.wrap (k : Int) = k := by rw [IntKind.wrap_i64]; omega
  have g2 : decide ((k : Int) + 1 > ws.length) = false := by simp; omega
  have g3 : decide ((ws.length : Int) < (k : Int) + 1) = false := by simp; omega
  have g4 : decide (s < 1) = false := by simp; omega
  have g5 : decide (s > 6) = false := by simp; omega
  have g6 : decide (6 < s) = false := by simp; omega
  have hC := fun w => ref_can_any (old % 8) s w
  rw [hcan] at hC
  have HC := Lib.hid hC
  have ck := H.row.cell k hk
  have ckd := H.dr.row.cell k hk
  have fkd := H.dr.row.free k
  obtain ⟨X, hX⟩ : ∃ X, ws.getD k 0 = X := ⟨_, rfl⟩
  rw [hX] at ck hit ckd
  have hN := fun w => same_eq (ref_next_any old s o0 o1 w)
  have hb := next_bd old s
  obtain ⟨Y, hY⟩ : ∃ Y, nextI old s = Y := ⟨_, rfl⟩
  rw [hY] at hN hb ⊢
  have HN := Lib.hid hN
  have HS := Lib.hid (H.set k Y)
  have hne := H.ne
  have hne2 := H.ne.symm
  clear H hC hcan hX hN hY
  go_enter Try.func61, Try.ntmps61
  go_wp2_with fail
  refine (ref_state_any old _).mono ?_
  rintro e w3 ⟨rfl, rfl⟩
  go_wp2_with fail
  refine (HC.out _).mono ?_
  rintro e w3 ⟨rfl, rfl⟩
  go_wp2_with fail
  refine wp_region_still_tail 10 (by kernel_rfl) (by kernel_rfl) ?_
  simp only [List.take_succ_cons, List.take_zero, List.drop_succ_cons, List.drop_zero]
  iterate 8 still_step
  still_call (HN.out _)
  still_step
  refine wpStill_nil ?_
  change wpList _ _ _ _ _ W.drew
  have hD2 := (HS.out hb.1 hb.2).dr
  have c9 := hD2.cell
  have c8 := hD2.row.cell k (by rw [List.length_set]; exact hk)
  rw [List.length_set] at c9
  rw [getD_set_any, if_pos ⟨rfl, hk⟩] at c8
  go_wp2_with fail
  go_ret2
  exact ⟨rfl, hD2, ((Fr.refl (own1 r) W).set (p := ⟨r, k, none⟩) (show own1 r r from rfl) _).dr⟩
end
end Go.Proofs.Ytpcbcnheogjofaa
