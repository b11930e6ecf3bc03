/- Contracts of package arena, second part: New, Free, Alloc, Count, and what the document fixes. -/
import Derived.Test.YtpcbcnheogjofaaArena
import Derived.StillTailTactics
namespace Go.Proofs.Ytpcbcnheogjofaa
open Go.RowKit Go.Proofs.YtpcbcnheogjofaaW.PrintWords
set_option linter.unusedVariables false
set_option linter.unusedSimpArgs false

section
variable {W W' : World} {a b g : Nat} {ws : List Int} {B : Int}
theorem MemAt.dr' {b g : Nat} {ws : List Int} {st wi at_ kd : Int} (h : MemAt W b g ws st wi at_ kd) : MemAt W.drew b g ws st wi at_ kd := ⟨h.hdr, h.row, h.ne, h.len, h.st0, h.wi0, h.wst⟩
theorem Fr.dr0 {S : Nat → Prop} {A B : World} (h : Fr S A.drew B) : Fr S A B := ⟨h.os, h.tape, h.output, h.size, h.block⟩
theorem zeros_wf (n : Nat) : ∀ j, 0 ≤ (List.replicate n (0 : Int)).getD j 0 ∧ (List.replicate n (0 : Int)).getD j 0 ≤ top := by
  intro j
  have : (List.replicate n (0 : Int)).getD j 0 = 0 := by
    rw [List.getD_eq_getElem?_getD, List.getElem?_replicate]
    split <;> rfl
  rw [this]
  exact ⟨by decide, by decide⟩
set_option maxRecDepth 100000 in
theorem ANew_in (n : Int) (h1 : 1 ≤ n) (h2 : n ≤ 1000) (w : World) : Calls Try.prog 49 #[.int .i64 n] w fun e w' => ∃ a b g, e = .returned (.tuple #[.pointer (some ⟨a, 0, none⟩), .int .i64 0]) ∧ ArAt w' a b g (List.replicate n.toNat 0) 0 ∧ w.heap.size ≤ a ∧ w.heap.size ≤ b ∧ w.heap.size ≤ g ∧ Below w.heap.size w w' := by
  have g1 : decide (n < 1) = false := by simp; omega
  have g2 : decide (n > 1000) = false := by simp; omega
  have g3 : decide (1000 < n) = false := by simp; omega
  go_enter Try.func49, Try.ntmps49
  go_wp2_with fail
  refine (New_in n h1 (by omega) _).mono ?_
  rintro e w1 ⟨rfl, hM, hB⟩
  go_wp2_with fail
  go_ret2
  have hb := (Array.getElem?_eq_some_iff.1 hM.hdr).1
  have hg := (Array.getElem?_eq_some_iff.1 hM.row).1
  refine ⟨w1.heap.size, w.heap.size + 1, w.heap.size, rfl, ⟨alloc_at rfl, ⟨_, _, _, _, hM.below' (below_al (Below.refl _ _) _), Int.le_refl _⟩, by omega, by omega, zeros_wf _⟩, by omega, by omega, by omega, below_al hB _⟩
set_option maxRecDepth 100000 in
theorem ANew_out (n : Int) (h : n < 1 ∨ 1000 < n) (w : World) : Calls Try.prog 49 #[.int .i64 n] w fun e w' => e = .returned (.tuple #[.pointer none, .int .i64 1]) ∧ w = w' := by
  rcases h with h | h
  · go_enter Try.func49, Try.ntmps49
    go_wp2
    go_ret2
    exact ⟨rfl, rfl⟩
  · have h' : ¬ n < 1 := by omega
    go_enter Try.func49, Try.ntmps49
    go_wp2
    go_ret2
    exact ⟨rfl, rfl⟩
set_option maxRecDepth 100000 in
theorem Free_out (h : ArAt W a b g ws B) (id : Int) (ho : thB ws id = false) : Calls Try.prog 55 #[.pointer (some ⟨a, 0, none⟩), .int .i64 id] W fun e w' => e = .returned (.int .i64 1) ∧ W = w' := by
  have hT := there_any h id
  rw [ho] at hT
  have HT := Lib.hid hT
  have H := Lib.hid h
  clear h hT
  go_enter Try.func55, Try.ntmps55
  go_wp2_with fail
  refine (Word_out H.out id ho).mono ?_
  rintro e w' ⟨rfl, rfl⟩
  go_wp2_with fail
  refine HT.out.mono ?_
  rintro e w' ⟨rfl, rfl⟩
  go_wp2_with fail
  go_ret
  exact ⟨rfl, rfl⟩
set_option maxRecDepth 100000 in
set_option maxHeartbeats 4000000 in
theorem Free_state (h : ArAt W a b g ws B) (hs : B ≤ 1000000000) (id : Int) (k : Nat) (hid : id = k + 1) (hk : k < ws.length) (ho : overB (ws.getD k 0 % 8) = false) : Calls Try.prog 55 #[.pointer (some ⟨a, 0, none⟩), .int .i64 id] W fun e w' => e = .returned (.int .i64 7) ∧ ArAt w' a b g ws (B + 1) ∧ Fr (own2 b g) W w' := by
  subst hid
  have hW := Word_in h hs ((k : Int) + 1) k rfl hk
  obtain ⟨X, hX⟩ : ∃ X, ws.getD k 0 = X := ⟨_, rfl⟩
  rw [hX] at hW ho
  have HW := Lib.hid hW
  clear h hW hX
  go_enter Try.func55, Try.ntmps55
  go_wp2_with fail
  refine HW.out.mono ?_
  rintro e w1 ⟨rfl, hA, hF⟩
  have hT := there_any hA ((k : Int) + 1)
  rw [th_in rfl hk] at hT
  have HT := Lib.hid hT
  have HA := Lib.hid hA
  clear hA hT
  go_wp2_with fail
  refine HT.out.mono ?_
  rintro e w' ⟨rfl, rfl⟩
  go_wp2_with fail
  refine (state_any _ _).mono ?_
  rintro e w' ⟨rfl, rfl⟩
  go_wp2_with fail
  refine (over_any _ _).mono ?_
  rintro e w' ⟨rfl, rfl⟩
  rw [ho]
  go_wp2_with fail
  go_ret
  exact ⟨rfl, HA.out, hF⟩
set_option maxRecDepth 100000 in
set_option maxHeartbeats 4000000 in
theorem Free_ok (h : ArAt W a b g ws B) (hs : B ≤ 999999999) (id : Int) (k : Nat) (hid : id = k + 1) (hk : k < ws.length) (ho : overB (ws.getD k 0 % 8) = true) : Calls Try.prog 55 #[.pointer (some ⟨a, 0, none⟩), .int .i64 id] W fun e w' => e = .returned (.int .i64 0) ∧ ArAt w' a b g (ws.set k (nextI (ws.getD k 0) 0)) (B + 2) ∧ Fr (own2 b g) W w' := by
  subst hid
  have hW := Word_in h (by omega) ((k : Int) + 1) k rfl hk
  have hwf := h.wf k
  obtain ⟨X, hX⟩ : ∃ X, ws.getD k 0 = X := ⟨_, rfl⟩
  rw [hX] at hW ho hwf ⊢
  obtain ⟨Y, hY⟩ : ∃ Y, nextI X 0 = Y := ⟨_, rfl⟩
  rw [hY]
  have hybd := next_bd X 0
  rw [hY] at hybd
  have HW := Lib.hid hW
  have HX := Lib.hid hX
  have HY := Lib.hid hY
  clear h hW hX hY
  go_enter Try.func55, Try.ntmps55
  go_wp2_with fail
  refine HW.out.mono ?_
  rintro e w1 ⟨rfl, hA, hF⟩
  have hT := there_any hA ((k : Int) + 1)
  rw [th_in rfl hk] at hT
  have HT := Lib.hid hT
  obtain ⟨st, wi, at_, kd, hM, hst⟩ := hA.mem
  have hMd := hM.dr'
  have c0 := hA.cell
  have c0d := hA.dr.cell
  have hlen := hM.len
  have HNS := Lib.hid hA.nS
  have HAD := Lib.hid hA.dr
  have hFd := hF.dr
  have HMD := Lib.hid hMd
  have HN := Lib.hid (fun w => same_eq (next_any X 0 hwf.1 hwf.2 w))
  rw [HY.out] at HN
  clear hA hT hM hMd hF
  go_wp2_with fail
  refine HT.out.mono ?_
  rintro e w' ⟨rfl, rfl⟩
  go_wp2_with fail
  refine (state_any _ _).mono ?_
  rintro e w' ⟨rfl, rfl⟩
  go_wp2_with fail
  refine (over_any _ _).mono ?_
  rintro e w' ⟨rfl, rfl⟩
  rw [ho]
  go_wp2_with fail
  refine wp_region_still_tail 9 (by kernel_rfl) (by kernel_rfl) ?_
  simp only [List.take_succ_cons, List.take_zero, List.drop_succ_cons, List.drop_zero]
  iterate 8 still_step
  still_call (HN.out _)
  refine wpStill_nil ?_
  change wpList _ _ _ _ _ w1.drew
  generalize w1.drew = w2 at *
  go_wp2_with fail
  refine (CAS_hit HMD.out (by omega) k (by omega) (by omega) X Y (by rw [Int.toNat_natCast, HX.out]; simp)).mono ?_
  rintro e w3 ⟨rfl, hM3, hF3⟩
  rw [Int.toNat_natCast] at hM3
  go_wp2_with fail
  go_ret
  exact ⟨rfl, HAD.out.step hF3 hM3 (by omega) (wf_set HAD.out.wf _ _ hybd.1 hybd.2), hFd.trans hF3⟩
set_option maxRecDepth 100000 in
theorem Alloc_arg (h : ArAt W a b g ws B) (s : Int) (hsw : (Lit.int .i64 s).wf = true) (hcan : canB 0 s = false) : Calls Try.prog 50 #[.pointer (some ⟨a, 0, none⟩), .int .i64 s] W fun e w' => e = .returned (.tuple #[.int .i64 0, .int .i64 1]) ∧ ArAt w' a b g ws B ∧ Fr (own2 b g) W w' := by
  have hC := fun w => can_any 0 s (show (Lit.int .i64 0).wf = true from by decide) hsw w
  rw [hcan] at hC
  have HC := Lib.hid hC
  have HA := Lib.hid h
  clear h hC hcan
  go_enter Try.func50, Try.ntmps50
  go_wp2_with fail
  refine (HC.out _).mono ?_
  rintro e w1 ⟨rfl, hB⟩
  go_wp2_with fail
  go_ret2
  exact ⟨rfl, HA.out.below hB, Fr.of_below hB⟩
set_option maxRecDepth 100000 in
set_option maxHeartbeats 4000000 in
theorem Alloc_full (h : ArAt W a b g ws B) (hs : B ≤ 900000000) (s : Int) (hsw : (Lit.int .i64 s).wf = true) (hcan : canB 0 s = true) (hall : ∀ j, j < ws.length → (ws.getD j 0 % 8 == 0) = false) : Calls Try.prog 50 #[.pointer (some ⟨a, 0, none⟩), .int .i64 s] W fun e w' => e = .returned (.tuple #[.int .i64 0, .int .i64 65]) ∧ ArAt w' a b g ws (B + ws.length) ∧ Fr (own2 b g) W w' := by
  have hC := fun w => can_any 0 s (show (Lit.int .i64 0).wf = true from by decide) hsw w
  rw [hcan] at hC
  have hlen : ws.length ≤ 4096 := by obtain ⟨_, _, _, _, hM, _⟩ := h.mem; exact hM.len
  have HC := Lib.hid hC
  have HALL := Lib.hid hall
  have HA := Lib.hid h
  clear h hC hcan hall
  go_enter Try.func50, Try.ntmps50
  go_wp2_with fail
  refine (HC.out _).mono ?_
  rintro e w1 ⟨rfl, hB⟩
  have hA1 := HA.out.below hB
  have hF1 : Fr (own2 b g) W w1 := Fr.of_below hB
  go_wp2_with fail
  go_loopg [6, 7] ws.length (fun gg v6 v7 wr => ∃ i : Nat, gg = ws.length - i ∧ i ≤ ws.length ∧ v6 = .int .i64 ((i : Int) + 1) ∧ ArAt wr a b g ws (B + i) ∧ Fr (own2 b g) W wr)
  case atStart => exact ⟨0, by omega, by omega, rfl, hA1.le (by omega), hF1⟩
  case round =>
    clear hA1 hF1 hB
    obtain ⟨i, rfl, hi, rfl, hA, hF⟩ := hrel
    obtain ⟨st, wi, at_, kd, hM, hst⟩ := hA.mem
    have c0 := hA.cell
    by_cases hlt : i < ws.length
    · have g1 : decide ((i : Int) + 1 ≤ ws.length) = true := by simp; omega
      have hX2 := HALL.out i hlt
      have hW := Word_in hA (by omega) ((i : Int) + 1) i rfl hlt
      obtain ⟨X, hX⟩ : ∃ X, ws.getD i 0 = X := ⟨_, rfl⟩
      rw [hX] at hX2 hW
      have HW := Lib.hid hW
      have HM := Lib.hid hM
      clear hW hX hA hM
      go_wp2_with fail
      refine (Len_any HM.out).mono ?_
      rintro e w' ⟨rfl, rfl⟩
      go_wp2_with fail
      refine HW.out.mono ?_
      rintro e w2 ⟨rfl, hA2, hF2⟩
      go_wp2_with fail
      go_big_quiet ((go_at_call 85; exact Calls.quiet_of_same (same_eq (state_any _ _))))
      go_wp2_with fail
      go_roundg (ws.length - (i + 1))
      case measure => omega
      case rel => exact ⟨i + 1, by omega, by omega, by go_num, (hA2.drN nq).le (by omega), (hF.trans hF2).drN nq⟩
    · obtain rfl : i = ws.length := by omega
      have g1 : decide ((ws.length : Int) + 1 ≤ ws.length) = false := by simp; omega
      have HM := Lib.hid hM
      have HA2 := Lib.hid hA
      clear hA hM
      go_wp2_with fail
      refine (Len_any HM.out).mono ?_
      rintro e w' ⟨rfl, rfl⟩
      go_wp2_with fail
      go_ret2
      exact ⟨rfl, HA2.out, hF⟩
set_option maxRecDepth 100000 in
set_option maxHeartbeats 4000000 in
theorem Alloc_at (h : ArAt W a b g ws B) (hs : B ≤ 900000000) (s : Int) (hsw : (Lit.int .i64 s).wf = true) (hcan : canB 0 s = true) (k : Nat) (hk : k < ws.length) (hpre : ∀ j, j < k → (ws.getD j 0 % 8 == 0) = false) (hfree : (ws.getD k 0 % 8 == 0) = true) : Calls Try.prog 50 #[.pointer (some ⟨a, 0, none⟩), .int .i64 s] W fun e w' => e = .returned (.tuple #[.int .i64 ((k : Int) + 1), .int .i64 0]) ∧ ArAt w' a b g (ws.set k (nextI (ws.getD k 0) s)) (B + k + 2) ∧ Fr (own2 b g) W w' := by
  have hC := fun w => can_any 0 s (show (Lit.int .i64 0).wf = true from by decide) hsw w
  rw [hcan] at hC
  have hlen : ws.length ≤ 4096 := by obtain ⟨_, _, _, _, hM, _⟩ := h.mem; exact hM.len
  have HC := Lib.hid hC
  have hwf := h.wf k
  obtain ⟨X, hX⟩ : ∃ X, ws.getD k 0 = X := ⟨_, rfl⟩
  rw [hX] at hfree hwf ⊢
  obtain ⟨Y, hY⟩ : ∃ Y, nextI X s = Y := ⟨_, rfl⟩
  rw [hY]
  have hybd := next_bd X s
  rw [hY] at hybd
  have HALL := Lib.hid hpre
  have HK := Lib.hid hfree
  have HA := Lib.hid h
  have HX := Lib.hid hX
  have HY := Lib.hid hY
  clear h hC hcan hpre hfree hX hY
  go_enter Try.func50, Try.ntmps50
  go_wp2_with fail
  refine (HC.out _).mono ?_
  rintro e w1 ⟨rfl, hB⟩
  have hA1 := HA.out.below hB
  have hF1 : Fr (own2 b g) W w1 := Fr.of_below hB
  go_wp2_with fail
  go_loopg [6, 7] k (fun gg v6 v7 wr => ∃ i : Nat, gg = k - i ∧ i ≤ k ∧ v6 = .int .i64 ((i : Int) + 1) ∧ ArAt wr a b g ws (B + i) ∧ Fr (own2 b g) W wr)
  case atStart => exact ⟨0, by omega, by omega, rfl, hA1.le (by omega), hF1⟩
  case round =>
    clear hA1 hF1 hB
    obtain ⟨i, rfl, hi, rfl, hA, hF⟩ := hrel
    obtain ⟨st, wi, at_, kd, hM, hst⟩ := hA.mem
    have c0 := hA.cell
    have g1 : decide ((i : Int) + 1 ≤ ws.length) = true := by simp; omega
    have hW := Word_in hA (by omega) ((i : Int) + 1) i rfl (by omega)
    by_cases hlt : i < k
    · have hX2 := HALL.out i hlt
      obtain ⟨Z, hZ⟩ : ∃ Z, ws.getD i 0 = Z := ⟨_, rfl⟩
      rw [hZ] at hX2 hW
      have HW := Lib.hid hW
      have HM := Lib.hid hM
      clear hW hZ hA hM
      go_wp2_with fail
      refine (Len_any HM.out).mono ?_
      rintro e w' ⟨rfl, rfl⟩
      go_wp2_with fail
      refine HW.out.mono ?_
      rintro e w2 ⟨rfl, hA2, hF2⟩
      go_wp2_with fail
      go_big_quiet ((go_at_call 85; exact Calls.quiet_of_same (same_eq (state_any _ _))))
      go_wp2_with fail
      go_roundg (k - (i + 1))
      case measure => omega
      case rel => exact ⟨i + 1, by omega, by omega, by go_num, (hA2.drN nq).le (by omega), (hF.trans hF2).drN nq⟩
    · obtain rfl : i = k := by omega
      have hX2 := HK.out
      rw [HX.out] at hW
      have HW := Lib.hid hW
      have HM := Lib.hid hM
      clear hW hA hM
      go_wp2_with fail
      refine (Len_any HM.out).mono ?_
      rintro e w' ⟨rfl, rfl⟩
      go_wp2_with fail
      refine HW.out.mono ?_
      rintro e w2 ⟨rfl, hA2, hF2⟩
      obtain ⟨st2, wi2, at2, kd2, hM2, hst2⟩ := hA2.mem
      have hMd := hM2.dr'
      have c2 := hA2.cell
      have c2d := hA2.dr.cell
      have HNS := Lib.hid hA2.nS
      have HAD := Lib.hid hA2.dr
      have hFd := (hF.trans hF2).dr
      have HMD := Lib.hid hMd
      have HN := Lib.hid (fun w => same_eq (next_any X s hwf.1 hwf.2 w))
      rw [HY.out] at HN
      clear hA2 hM2 hMd c0 hF hF2
      go_wp2_with fail
      refine wp_region_still_tail 14 (by kernel_rfl) (by kernel_rfl) ?_
      simp only [List.take_succ_cons, List.take_zero, List.drop_succ_cons, List.drop_zero]
      still_step
      still_call (same_eq (state_any X _))
      iterate 11 still_step
      still_call (HN.out _)
      refine wpStill_nil ?_
      change wpList _ _ _ _ _ w2.drew
      generalize w2.drew = w3 at *
      go_wp2_with fail
      refine (CAS_hit HMD.out (by omega) i (by omega) (by omega) X Y (by rw [Int.toNat_natCast, HX.out]; simp)).mono ?_
      rintro e w4 ⟨rfl, hM3, hF3⟩
      rw [Int.toNat_natCast] at hM3
      go_wp2_with fail
      go_ret2
      exact ⟨rfl, HAD.out.step hF3 hM3 (by omega) (wf_set HAD.out.wf _ _ hybd.1 hybd.2), hFd.trans hF3⟩
end
end Go.Proofs.Ytpcbcnheogjofaa
