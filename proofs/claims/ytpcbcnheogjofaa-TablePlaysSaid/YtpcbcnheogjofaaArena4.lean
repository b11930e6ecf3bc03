/- Contracts of package arena, fourth part: how many tasks have a state. -/
import Derived.Test.YtpcbcnheogjofaaArena3
import Derived.Test.YtpcbcnheogjofaaRowAt
namespace Go.Proofs.Ytpcbcnheogjofaa
open Go.RowKit Go.Proofs.YtpcbcnheogjofaaW.PrintWords
set_option linter.unusedVariables false
set_option linter.unusedSimpArgs false

def cntS (ws : List Int) (s : Int) : Int := ((ws.filter (fun x => x % 8 == s)).length : Int)
theorem cntS_nil (s : Int) : cntS [] s = 0 := rfl
theorem cntS_succ (ws : List Int) (i : Nat) (hi : i < ws.length) (s : Int) : cntS (ws.take (i + 1)) s = cntS (ws.take i) s + (if ws.getD i 0 % 8 = s then 1 else 0) := by
  have h : ws.take (i + 1) = ws.take i ++ [ws.getD i 0] := by
    rw [List.take_add_one, List.getD_eq_getElem?_getD]
    simp [List.getElem?_eq_getElem hi]
  rw [h]
  unfold cntS
  rw [List.filter_append, List.length_append]
  by_cases hh : ws.getD i 0 % 8 = s
  · rw [if_pos hh]
    simp only [List.filter_cons, List.filter_nil]
    rw [if_pos (by simpa using hh)]
    simp
  · rw [if_neg hh]
    simp only [List.filter_cons, List.filter_nil]
    rw [if_neg (by simpa using hh)]
    simp
theorem cntS_bd (ws : List Int) (s : Int) : 0 ≤ cntS ws s ∧ cntS ws s ≤ ws.length := by
  unfold cntS
  have := List.length_filter_le (fun x => x % 8 == s) ws
  omega
theorem cntS_take_bd (ws : List Int) (i : Nat) (s : Int) : 0 ≤ cntS (ws.take i) s ∧ cntS (ws.take i) s ≤ i := by
  have h := cntS_bd (ws.take i) s
  have h2 := List.length_take_le i ws
  omega
theorem fr_new {S S' : Nat → Prop} {W W1 w' : World} (h : Fr S' W1 w') (hb : Below W.heap.size W W1) (hs : ∀ k, S' k → S k ∨ W.heap.size ≤ k) : Fr S W w' :=
  ⟨h.os.trans hb.os, h.tape.trans hb.tape, h.output.trans hb.output, Nat.le_trans hb.size h.size, fun k hk hn => (h.block k (Nat.lt_of_lt_of_le hk hb.size) (fun hk' => by rcases hs k hk' with h1 | h1; exact hn h1; omega)).trans (hb.block k hk)⟩
section
variable {W W' : World} {a b g : Nat} {ws : List Int} {B : Int}
set_option maxRecDepth 100000 in
set_option maxHeartbeats 4000000 in
theorem counts_any (h : ArAt W a b g ws B) (hs : B ≤ 900000000) : Calls Try.prog 89 #[.pointer (some ⟨a, 0, none⟩)] W fun e w' => e = .returned (.agg #[.int .i64 (cntS ws 0), .int .i64 (cntS ws 1), .int .i64 (cntS ws 2), .int .i64 (cntS ws 3), .int .i64 (cntS ws 4), .int .i64 (cntS ws 5), .int .i64 (cntS ws 6)]) ∧ ArAt w' a b g ws (B + ws.length) ∧ Fr (own2 b g) W w' := by
  have hlen : ws.length ≤ 4096 := by obtain ⟨_, _, _, _, hM, _⟩ := h.mem; exact hM.len
  obtain ⟨la, lb, lg⟩ := h.lts
  obtain ⟨c, hc⟩ : ∃ c, W.heap.size = c := ⟨_, rfl⟩
  have hb0 : Below W.heap.size W ((W.alloc (.cells #[.int .i64 0, .int .i64 0, .int .i64 0, .int .i64 0, .int .i64 0, .int .i64 0, .int .i64 0] 126)).alloc (.cells #[.int .i64 0, .int .i64 0, .int .i64 0, .int .i64 0, .int .i64 0, .int .i64 0, .int .i64 0] 126)) := below_al (below_al (Below.refl _ _) _) _
  have hA0 := h.below hb0
  have hD0 : RowI .i64 126 ((W.alloc (.cells #[.int .i64 0, .int .i64 0, .int .i64 0, .int .i64 0, .int .i64 0, .int .i64 0, .int .i64 0] 126)).alloc (.cells #[.int .i64 0, .int .i64 0, .int .i64 0, .int .i64 0, .int .i64 0, .int .i64 0, .int .i64 0] 126)) c [0, 0, 0, 0, 0, 0, 0] := alloc_old (alloc_at hc.symm)
  have hR0 : RowI .i64 126 ((W.alloc (.cells #[.int .i64 0, .int .i64 0, .int .i64 0, .int .i64 0, .int .i64 0, .int .i64 0, .int .i64 0] 126)).alloc (.cells #[.int .i64 0, .int .i64 0, .int .i64 0, .int .i64 0, .int .i64 0, .int .i64 0, .int .i64 0] 126)) (c + 1) [0, 0, 0, 0, 0, 0, 0] := alloc_at (by simp [hc])
  go_enter Try.func89, Try.ntmps89
  go_upto_region 2 with fail
  generalize hW1 : (W.alloc (.cells #[.int .i64 0, .int .i64 0, .int .i64 0, .int .i64 0, .int .i64 0, .int .i64 0, .int .i64 0] 126)).alloc (.cells #[.int .i64 0, .int .i64 0, .int .i64 0, .int .i64 0, .int .i64 0, .int .i64 0, .int .i64 0] 126) = W1 at *
  have n1 : a ≠ c + 1 := by omega
  have n2 : b ≠ c + 1 := by omega
  have n3 : g ≠ c + 1 := by omega
  have n4 : c ≠ c + 1 := by omega
  have m1 : a ≠ c := by omega
  have m2 : b ≠ c := by omega
  have m3 : g ≠ c := by omega
  have NR := Lib.hid (show ¬ own2 b g (c + 1) from fun h => h.elim (fun h => n2 h.symm) (fun h => n3 h.symm))
  have ND := Lib.hid (show ¬ own2 b g c from fun h => h.elim (fun h => m2 h.symm) (fun h => m3 h.symm))
  have HB0 := Lib.hid hb0
  have HC := Lib.hid hc
  have H := Lib.hid h
  try rw [hc]
  clear hW1 hb0 hc h la lb lg
  go_wp2_with fail
  go_loopg [4, 5] ws.length (fun gg v4 v5 wr => ∃ (i : Nat) (xs : List Int), gg = ws.length - i ∧ i ≤ ws.length ∧ v4 = .int .i64 ((i : Int) + 1) ∧ xs.length = 7 ∧ (∀ j : Nat, j < 7 → xs.getD j 0 = cntS (ws.take i) j) ∧ RowI .i64 126 wr (c + 1) xs ∧ RowI .i64 126 wr c [0, 0, 0, 0, 0, 0, 0] ∧ ArAt wr a b g ws (B + i) ∧ Fr (fun k => own2 b g k ∨ c ≤ k) W1 wr)
  case atStart => exact ⟨0, [0, 0, 0, 0, 0, 0, 0], by omega, by omega, rfl, rfl, (by intro j hj; rw [List.take_zero, cntS_nil]; match j, hj with | 0, _ => rfl | 1, _ => rfl | 2, _ => rfl | 3, _ => rfl | 4, _ => rfl | 5, _ => rfl | 6, _ => rfl), hR0, hD0, hA0.le (by omega), Fr.refl _ _⟩
  case round =>
    clear hR0 hD0 hA0
    obtain ⟨i, xs, rfl, hi, rfl, hxl, hxs, hR, hD, hA, hF⟩ := hrel
    obtain ⟨st, wi, at_, kd, hM, hst⟩ := hA.mem
    have c0 := hA.cell
    by_cases hlt : i < ws.length
    · have g1 : decide ((i : Int) + 1 ≤ ws.length) = true := by simp; omega
      have hW := Word_in hA (by omega) ((i : Int) + 1) i rfl hlt
      have hX0 := hA.wf i
      have hsucc := cntS_succ ws i hlt
      have hbd := fun s => cntS_take_bd ws i s
      obtain ⟨X, hX⟩ : ∃ X, ws.getD i 0 = X := ⟨_, rfl⟩
      rw [hX] at hW hX0 hsucc
      obtain ⟨s, hs8, hs7⟩ : ∃ s : Nat, X % 8 = (s : Int) ∧ s ≤ 7 := ⟨(X % 8).toNat, by omega, by omega⟩
      rw [hs8] at hsucc
      have HW := Lib.hid hW
      have HM := Lib.hid hM
      have HS := Lib.hid hsucc
      have HXS := Lib.hid hxs
      have HXL := Lib.hid hxl
      have HBD := Lib.hid hbd
      have HS8 := Lib.hid hs8
      clear hW hX hA hM hsucc hxs hxl hbd hs8
      go_wp2_with fail
      refine (Len_any HM.out).mono ?_
      rintro e w' ⟨rfl, rfl⟩
      go_wp2_with fail
      refine HW.out.mono ?_
      rintro e w2 ⟨rfl, hA2, hF2⟩
      have hR2 := hR.fr hF2 NR.out
      have hD2 := hD.fr hF2 ND.out
      have hF3 := hF.trans (hF2.mono (fun k hk => Or.inl hk))
      clear hR hD hF hF2 c0
      by_cases hs : s = 7
      · have g2 : decide (X % 8 < 7) = false := by have := HS8.out; simp; omega
        go_wp2_with fail
        refine (ok_any X hX0.1 _).mono ?_
        rintro e w3 ⟨rfl, rfl⟩
        rw [g2]
        go_wp2_with fail
        go_roundg (ws.length - (i + 1))
        case measure => omega
        case rel => exact ⟨i + 1, xs, by omega, by omega, by go_num, HXL.out, (by intro j hj; rw [HXS.out j hj, HS.out, if_neg (by omega)]; omega), hR2, hD2, hA2.le (by omega), hF3⟩
      · have g2 : decide (X % 8 < 7) = true := by have := HS8.out; simp; omega
        have cs := hR2.cell s (by have := HXL.out; omega)
        have fs := hR2.free s
        obtain ⟨y, hy⟩ : ∃ y, xs.getD s 0 = y := ⟨_, rfl⟩
        have hyb : 0 ≤ y ∧ y ≤ 4096 := by
          have h1 := HXS.out s (by omega)
          have h2 := HBD.out s
          omega
        rw [hy] at cs
        have HY := Lib.hid hy
        have hs6 : s < 7 := by omega
        clear hy
        go_wp2_with fail
        refine (ok_any X hX0.1 _).mono ?_
        rintro e w3 ⟨rfl, rfl⟩
        rw [g2]
        go_wp2_with fail
        refine (state_any X _).mono ?_
        rintro e w3 ⟨rfl, rfl⟩
        rw [HS8.out]
        go_wp2_with fail
        go_roundg (ws.length - (i + 1))
        case measure => omega
        case rel => exact ⟨i + 1, xs.set s (y + 1), by omega, by omega, by go_num, by rw [List.length_set]; exact HXL.out, (by
            intro j hj
            rw [getD_set_any, HS.out]
            have h1 := HXS.out j hj
            have h2 := HY.out
            have h3 := HXL.out
            by_cases hjs : s = j
            · subst hjs
              rw [if_pos (by omega), if_pos rfl]
              omega
            · rw [if_neg (by omega), if_neg (by omega)]
              omega), hR2.set s (y + 1), hD2.other n4 _, (hA2.put n1 n2 n3 _).le (by omega), hF3.set (Or.inr (by show c ≤ c + 1; omega)) _⟩
    · obtain rfl : i = ws.length := by omega
      have g1 : decide ((ws.length : Int) + 1 ≤ ws.length) = false := by simp; omega
      have k0 := hxs 0 (by decide)
      have k1 := hxs 1 (by decide)
      have k2 := hxs 2 (by decide)
      have k3 := hxs 3 (by decide)
      have k4 := hxs 4 (by decide)
      have k5 := hxs 5 (by decide)
      have k6 := hxs 6 (by decide)
      rw [List.take_length] at k0 k1 k2 k3 k4 k5 k6
      have r0 := hR.cell 0 (by omega)
      have r1 := hR.cell 1 (by omega)
      have r2 := hR.cell 2 (by omega)
      have r3 := hR.cell 3 (by omega)
      have r4 := hR.cell 4 (by omega)
      have r5 := hR.cell 5 (by omega)
      have r6 := hR.cell 6 (by omega)
      rw [k0] at r0
      rw [k1] at r1
      rw [k2] at r2
      rw [k3] at r3
      rw [k4] at r4
      rw [k5] at r5
      rw [k6] at r6
      simp only [Int.ofNat_zero, Int.natCast_zero, Int.natCast_one, show ((2 : Nat) : Int) = 2 from rfl, show ((3 : Nat) : Int) = 3 from rfl, show ((4 : Nat) : Int) = 4 from rfl, show ((5 : Nat) : Int) = 5 from rfl, show ((6 : Nat) : Int) = 6 from rfl] at r0 r1 r2 r3 r4 r5 r6
      obtain ⟨t0, q0⟩ : ∃ t, cntS ws 0 = t := ⟨_, rfl⟩
      rw [q0] at r0
      have Q0 := Lib.hid q0
      clear q0
      obtain ⟨t1, q1⟩ : ∃ t, cntS ws 1 = t := ⟨_, rfl⟩
      rw [q1] at r1
      have Q1 := Lib.hid q1
      clear q1
      obtain ⟨t2, q2⟩ : ∃ t, cntS ws 2 = t := ⟨_, rfl⟩
      rw [q2] at r2
      have Q2 := Lib.hid q2
      clear q2
      obtain ⟨t3, q3⟩ : ∃ t, cntS ws 3 = t := ⟨_, rfl⟩
      rw [q3] at r3
      have Q3 := Lib.hid q3
      clear q3
      obtain ⟨t4, q4⟩ : ∃ t, cntS ws 4 = t := ⟨_, rfl⟩
      rw [q4] at r4
      have Q4 := Lib.hid q4
      clear q4
      obtain ⟨t5, q5⟩ : ∃ t, cntS ws 5 = t := ⟨_, rfl⟩
      rw [q5] at r5
      have Q5 := Lib.hid q5
      clear q5
      obtain ⟨t6, q6⟩ : ∃ t, cntS ws 6 = t := ⟨_, rfl⟩
      rw [q6] at r6
      have Q6 := Lib.hid q6
      clear q6
      clear k0 k1 k2 k3 k4 k5 k6 hxs
      have HM := Lib.hid hM
      have HA2 := Lib.hid hA
      have d0 := hD.free 0
      have d1 := hD.free 1
      have d2 := hD.free 2
      have d3 := hD.free 3
      have d4 := hD.free 4
      have d5 := hD.free 5
      have d6 := hD.free 6
      have e0 := hD.cell 0 (by decide)
      have e1 := hD.cell 1 (by decide)
      have e2 := hD.cell 2 (by decide)
      have e3 := hD.cell 3 (by decide)
      have e4 := hD.cell 4 (by decide)
      have e5 := hD.cell 5 (by decide)
      have e6 := hD.cell 6 (by decide)
      have hdl := hD.lt
      clear hA hM
      go_wp2_with fail
      refine (Len_any HM.out).mono ?_
      rintro e w' ⟨rfl, rfl⟩
      go_wp2_with fail
      refine bodyPost_ret (v := .agg #[.int .i64 t0, .int .i64 t1, .int .i64 t2, .int .i64 t3, .int .i64 t4, .int .i64 t5, .int .i64 t6]) (by simp [results, Try.results89, go_sem, e0, e1, e2, e3, e4, e5, e6]) rfl ?_
      have hFn := (((((((hF.set (p := ⟨c, 0, none⟩) (Or.inr (Nat.le_refl c)) (.int .i64 t0)).set (p := ⟨c, 1, none⟩) (Or.inr (Nat.le_refl c)) (.int .i64 t1)).set (p := ⟨c, 2, none⟩) (Or.inr (Nat.le_refl c)) (.int .i64 t2)).set (p := ⟨c, 3, none⟩) (Or.inr (Nat.le_refl c)) (.int .i64 t3)).set (p := ⟨c, 4, none⟩) (Or.inr (Nat.le_refl c)) (.int .i64 t4)).set (p := ⟨c, 5, none⟩) (Or.inr (Nat.le_refl c)) (.int .i64 t5)).set (p := ⟨c, 6, none⟩) (Or.inr (Nat.le_refl c)) (.int .i64 t6))
      refine ⟨by rw [Q0.out, Q1.out, Q2.out, Q3.out, Q4.out, Q5.out, Q6.out], ?_, ?_⟩
      · exact (((((((HA2.out.put m1 m2 m3 _).put m1 m2 m3 _).put m1 m2 m3 _).put m1 m2 m3 _).put m1 m2 m3 _).put m1 m2 m3 _).put m1 m2 m3 _)
      · exact fr_new hFn HB0.out (fun k hk => by have := HC.out; rcases hk with h | h; exact .inl h; exact .inr (by omega))
set_option maxRecDepth 100000 in
theorem Count_out (h : ArAt W a b g ws B) (s : Int) (ho : s < 0 ∨ 7 ≤ s) : Calls Try.prog 56 #[.pointer (some ⟨a, 0, none⟩), .int .i64 s] W fun e w' => e = .returned (.int .i64 0) ∧ W = w' := by
  clear h
  rcases ho with h | h
  · have g1 : decide (s < 0) = true := by simpa using h
    go_enter Try.func56, Try.ntmps56
    go_wp2_with fail
    go_ret
    exact ⟨rfl, rfl⟩
  · have g1 : decide (s < 0) = false := by simp; omega
    have g2 : decide (s ≥ 7) = true := by simpa using h
    have g3 : decide (7 ≤ s) = true := by simpa using h
    go_enter Try.func56, Try.ntmps56
    go_wp2_with fail
    go_ret
    exact ⟨rfl, rfl⟩
set_option maxRecDepth 100000 in
set_option maxHeartbeats 4000000 in
theorem Count_in (h : ArAt W a b g ws B) (hs : B ≤ 900000000) (s : Int) (s0 : 0 ≤ s) (s1 : s ≤ 6) : Calls Try.prog 56 #[.pointer (some ⟨a, 0, none⟩), .int .i64 s] W fun e w' => e = .returned (.int .i64 (cntS ws s)) ∧ ArAt w' a b g ws (B + ws.length) ∧ Fr (own2 b g) W w' := by
  have hC := counts_any h hs
  have hq : cntS ws s = (if s = 0 then cntS ws 0 else if s = 1 then cntS ws 1 else if s = 2 then cntS ws 2 else if s = 3 then cntS ws 3 else if s = 4 then cntS ws 4 else if s = 5 then cntS ws 5 else cntS ws 6) := by
    rcases (show s = 0 ∨ s = 1 ∨ s = 2 ∨ s = 3 ∨ s = 4 ∨ s = 5 ∨ s = 6 from by omega) with rfl | rfl | rfl | rfl | rfl | rfl | rfl <;> rfl
  rw [hq]
  clear hq
  generalize cntS ws 0 = t0 at *
  generalize cntS ws 1 = t1 at *
  generalize cntS ws 2 = t2 at *
  generalize cntS ws 3 = t3 at *
  generalize cntS ws 4 = t4 at *
  generalize cntS ws 5 = t5 at *
  generalize cntS ws 6 = t6 at *
  have H := Lib.hid hC
  clear h hC
  rcases (show s = 0 ∨ s = 1 ∨ s = 2 ∨ s = 3 ∨ s = 4 ∨ s = 5 ∨ s = 6 from by omega) with rfl | rfl | rfl | rfl | rfl | rfl | rfl
  · have hi : ∀ w, (Instr.index 126 (.agg #[.int .i64 t0, .int .i64 t1, .int .i64 t2, .int .i64 t3, .int .i64 t4, .int .i64 t5, .int .i64 t6]) (.int .i64 0)).run Try.prog w = .ok (.int .i64 t0) w := fun _ => by kernel_rfl
    go_enter Try.func56, Try.ntmps56
    go_wp2_with fail
    refine H.out.mono ?_
    rintro e w' ⟨rfl, hA, hF⟩
    go_wp2_with fail
    go_ret
    exact ⟨by simp, hA, hF⟩
  · have hi : ∀ w, (Instr.index 126 (.agg #[.int .i64 t0, .int .i64 t1, .int .i64 t2, .int .i64 t3, .int .i64 t4, .int .i64 t5, .int .i64 t6]) (.int .i64 1)).run Try.prog w = .ok (.int .i64 t1) w := fun _ => by kernel_rfl
    go_enter Try.func56, Try.ntmps56
    go_wp2_with fail
    refine H.out.mono ?_
    rintro e w' ⟨rfl, hA, hF⟩
    go_wp2_with fail
    go_ret
    exact ⟨by simp, hA, hF⟩
  · have hi : ∀ w, (Instr.index 126 (.agg #[.int .i64 t0, .int .i64 t1, .int .i64 t2, .int .i64 t3, .int .i64 t4, .int .i64 t5, .int .i64 t6]) (.int .i64 2)).run Try.prog w = .ok (.int .i64 t2) w := fun _ => by kernel_rfl
    go_enter Try.func56, Try.ntmps56
    go_wp2_with fail
    refine H.out.mono ?_
    rintro e w' ⟨rfl, hA, hF⟩
    go_wp2_with fail
    go_ret
    exact ⟨by simp, hA, hF⟩
  · have hi : ∀ w, (Instr.index 126 (.agg #[.int .i64 t0, .int .i64 t1, .int .i64 t2, .int .i64 t3, .int .i64 t4, .int .i64 t5, .int .i64 t6]) (.int .i64 3)).run Try.prog w = .ok (.int .i64 t3) w := fun _ => by kernel_rfl
    go_enter Try.func56, Try.ntmps56
    go_wp2_with fail
    refine H.out.mono ?_
    rintro e w' ⟨rfl, hA, hF⟩
    go_wp2_with fail
    go_ret
    exact ⟨by simp, hA, hF⟩
  · have hi : ∀ w, (Instr.index 126 (.agg #[.int .i64 t0, .int .i64 t1, .int .i64 t2, .int .i64 t3, .int .i64 t4, .int .i64 t5, .int .i64 t6]) (.int .i64 4)).run Try.prog w = .ok (.int .i64 t4) w := fun _ => by kernel_rfl
    go_enter Try.func56, Try.ntmps56
    go_wp2_with fail
    refine H.out.mono ?_
    rintro e w' ⟨rfl, hA, hF⟩
    go_wp2_with fail
    go_ret
    exact ⟨by simp, hA, hF⟩
  · have hi : ∀ w, (Instr.index 126 (.agg #[.int .i64 t0, .int .i64 t1, .int .i64 t2, .int .i64 t3, .int .i64 t4, .int .i64 t5, .int .i64 t6]) (.int .i64 5)).run Try.prog w = .ok (.int .i64 t5) w := fun _ => by kernel_rfl
    go_enter Try.func56, Try.ntmps56
    go_wp2_with fail
    refine H.out.mono ?_
    rintro e w' ⟨rfl, hA, hF⟩
    go_wp2_with fail
    go_ret
    exact ⟨by simp, hA, hF⟩
  · have hi : ∀ w, (Instr.index 126 (.agg #[.int .i64 t0, .int .i64 t1, .int .i64 t2, .int .i64 t3, .int .i64 t4, .int .i64 t5, .int .i64 t6]) (.int .i64 6)).run Try.prog w = .ok (.int .i64 t6) w := fun _ => by kernel_rfl
    go_enter Try.func56, Try.ntmps56
    go_wp2_with fail
    refine H.out.mono ?_
    rintro e w' ⟨rfl, hA, hF⟩
    go_wp2_with fail
    go_ret
    exact ⟨by simp, hA, hF⟩
theorem Count_2 (h : ArAt W a b g ws B) (hs : B ≤ 900000000) : Calls Try.prog 56 #[.pointer (some ⟨a, 0, none⟩), .int .i64 2] W fun e w' => e = .returned (.int .i64 (cntS ws 2)) ∧ ArAt w' a b g ws (B + ws.length) ∧ Fr (own2 b g) W w' := Count_in h hs 2 (by decide) (by decide)
end
end Go.Proofs.Ytpcbcnheogjofaa
