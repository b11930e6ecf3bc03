/- Contracts of the reference's answers for what comes again: JobOk, After, Ahead. -/
import Derived.Test.YtpcbcnheogjofaaGrid3
import Derived.Test.YtpcbcnheogjofaaAhead3
import Derived.Deep.RegionHeld3
import Derived.Deep.DeepCutAuto
import Derived.Deep.LoopGhost
namespace Go.Proofs.Ytpcbcnheogjofaa
open Go.RowKit Go.Proofs.YtpcbcnheogjofaaW.PrintWords
set_option linter.unusedVariables false
set_option linter.unusedSimpArgs false

set_option maxRecDepth 100000 in
theorem refOk_any (f p d r m : Int) (f0 : 0 ≤ f) (p0 : 0 ≤ p) (d0 : 0 ≤ d) (d1 : d ≤ top) (w : World) : Calls Try.prog 48 #[.agg #[.int .u64 f, .int .u64 p, .int .u64 d, .int .u64 r, .int .u64 m]] w fun e w' => e = .returned (.bool (okB f p d)) ∧ w' = w.alloc (.cells #[.int .u64 f, .int .u64 p, .int .u64 d, .int .u64 r, .int .u64 m] 57) := by
  rcases Int.lt_or_le 0 p with hp | hp
  · rcases Int.lt_or_le d f with hd | hd
    · have hb : okB f p d = false := by unfold okB; simp; omega
      have e1 : ¬ (f ≤ d) := by omega
      rw [hb]
      clear hb
      go_enter Try.func48, Try.ntmps48
      go_wp2
      go_ret
      exact ⟨rfl, rfl⟩
    · obtain ⟨x, hx⟩ : ∃ x, (d - f) % p = x := ⟨_, rfl⟩
      have hb : okB f p d = (x == 0) := by unfold okB; rw [hx]; simp [hp, hd]; rfl
      have q1 : IntKind.u64.wrap (d - f) = d - f := by unfold top at d1; rw [IntKind.wrap_u64]; omega
      have x0 : 0 ≤ x := by rw [← hx]; exact Int.emod_nonneg _ (by omega)
      have x1 : x < p := by rw [← hx]; exact Int.emod_lt_of_pos _ hp
      have hpn : (p == 0) = false := by simp; omega
      have q2 : (d - f).tmod p = x := by rw [Int.tmod_eq_emod_of_nonneg (by omega)]; exact hx
      rw [hb]
      clear hb
      go_enter Try.func48, Try.ntmps48
      go_wp2
      go_ret
      exact ⟨rfl, rfl⟩
  · obtain rfl : p = 0 := by omega
    have hb : okB f 0 d = false := by unfold okB; simp
    rw [hb]
    clear hb
    go_enter Try.func48, Try.ntmps48
    go_wp2
    go_ret
    exact ⟨rfl, rfl⟩
set_option maxRecDepth 100000 in
theorem refAfter_no (f p d r m n : Int) (f0 : 0 ≤ f) (p0 : 0 ≤ p) (d0 : 0 ≤ d) (d1 : d ≤ top) (hok : okB f p d = false) (w : World) : Calls Try.prog 45 #[.agg #[.int .u64 f, .int .u64 p, .int .u64 d, .int .u64 r, .int .u64 m], .int .u64 n] w fun e w' => e = .returned (.tuple #[.agg #[.int .u64 f, .int .u64 p, .int .u64 d, .int .u64 r, .int .u64 m], .bool false]) ∧ Below w.heap.size w w' := by
  go_enter Try.func45, Try.ntmps45
  go_wp2_with fail
  refine (refOk_any f p d r m f0 p0 d0 d1 _).mono ?_
  rintro e w1 ⟨rfl, rfl⟩
  rw [hok]
  go_wp2_with fail
  refine bodyPost_ret (v := .tuple #[.agg #[.int .u64 f, .int .u64 p, .int .u64 d, .int .u64 r, .int .u64 m], .bool false]) (by simp [results, Try.results45, go_sem]) rfl ?_
  exact ⟨rfl, by (repeat (first | exact Below.refl _ _ | refine below_dr ?_ | refine below_drN ?_ _ | refine below_al ?_ _ | refine Below.setCell ?_ (by simp <;> omega) _))⟩
set_option maxRecDepth 100000 in
set_option maxHeartbeats 8000000 in
theorem refAfter_go (f p d r m n x : Int) (g : Bool) (hx : (n < d ∧ x = d) ∨ (d ≤ n ∧ x = n)) (f0 : 0 ≤ f) (f1 : f ≤ top) (p0 : 0 ≤ p) (p1 : p ≤ top) (d0 : 0 ≤ d) (d1 : d ≤ top) (n0 : 0 ≤ n) (n1 : n ≤ top) (hok : okB f p d = true) (hg : gB f p x = g) (w : World) : Calls Try.prog 45 #[.agg #[.int .u64 f, .int .u64 p, .int .u64 d, .int .u64 r, .int .u64 m], .int .u64 n] w fun e w' => e = .returned (.tuple #[.agg #[.int .u64 f, .int .u64 p, .int .u64 (if g then gN f p x else d), .int .u64 (IntKind.u64.wrap (r + 1)), .int .u64 (IntKind.u64.wrap (m + missI f p d n))], .bool g]) ∧ Below w.heap.size w w' := by
  generalize hG : gN f p x = G at *
  generalize hR : IntKind.u64.wrap (r + 1) = R at *
  generalize hMM : missI f p d n = MM at *
  generalize hS : IntKind.u64.wrap (m + MM) = SS at *
  go_enter Try.func45, Try.ntmps45
  go_wp2_with fail
  refine (refOk_any f p d r m f0 p0 d0 d1 _).mono ?_
  rintro e w1 ⟨rfl, rfl⟩
  rw [hok]
  go_upto_region 4 with fail
  go_cut [] (fun wx => (((w.alloc (.cells #[.int .u64 f, .int .u64 p, .int .u64 d, .int .u64 R, .int .u64 SS] 57)).alloc (.cells #[.int .u64 0, .int .u64 0, .int .u64 0, .int .u64 0, .int .u64 0] 57)).alloc (.cells #[.int .u64 f, .int .u64 p, .int .u64 d, .int .u64 r, .int .u64 m] 57)).drew = wx)
  case first =>
    go_region_with (go_at_call 82; refine (refmissed_any f p d n f0 p0 d0 d1 n0 n1 _).mono ?_; rintro e w1 ⟨rfl, rfl⟩; rw [hMM])
    all_goals (go_wp2_with fail; go_meet; rfl)
  case rest =>
  obtain rfl := hcut
  rcases hx with ⟨hx, rfl⟩ | ⟨hx, rfl⟩
  · go_wp2_with fail
    refine (refgrid_any f p x f0 f1 p0 p1 d0 d1 _).mono ?_
    rintro e w1 ⟨rfl, rfl⟩
    rw [hg, hG]
    clear hg hG
    cases g
    · go_wp2_with fail
      refine bodyPost_ret (v := .tuple #[.agg #[.int .u64 f, .int .u64 p, .int .u64 x, .int .u64 R, .int .u64 SS], .bool false]) (by simp [results, Try.results45, go_sem]) rfl ?_
      exact ⟨rfl, by (repeat (first | exact Below.refl _ _ | refine below_dr ?_ | refine below_drN ?_ _ | refine below_al ?_ _ | refine Below.setCell ?_ (by simp <;> omega) _))⟩
    · go_wp2_with fail
      refine bodyPost_ret (v := .tuple #[.agg #[.int .u64 f, .int .u64 p, .int .u64 G, .int .u64 R, .int .u64 SS], .bool true]) (by simp [results, Try.results45, go_sem]) rfl ?_
      exact ⟨rfl, by (repeat (first | exact Below.refl _ _ | refine below_dr ?_ | refine below_drN ?_ _ | refine below_al ?_ _ | refine Below.setCell ?_ (by simp <;> omega) _))⟩
  · go_wp2_with fail
    refine (refgrid_any f p x f0 f1 p0 p1 n0 n1 _).mono ?_
    rintro e w1 ⟨rfl, rfl⟩
    rw [hg, hG]
    clear hg hG
    cases g
    · go_wp2_with fail
      refine bodyPost_ret (v := .tuple #[.agg #[.int .u64 f, .int .u64 p, .int .u64 d, .int .u64 R, .int .u64 SS], .bool false]) (by simp [results, Try.results45, go_sem]) rfl ?_
      exact ⟨rfl, by (repeat (first | exact Below.refl _ _ | refine below_dr ?_ | refine below_drN ?_ _ | refine below_al ?_ _ | refine Below.setCell ?_ (by simp <;> omega) _))⟩
    · go_wp2_with fail
      refine bodyPost_ret (v := .tuple #[.agg #[.int .u64 f, .int .u64 p, .int .u64 G, .int .u64 R, .int .u64 SS], .bool true]) (by simp [results, Try.results45, go_sem]) rfl ?_
      exact ⟨rfl, by (repeat (first | exact Below.refl _ _ | refine below_dr ?_ | refine below_drN ?_ _ | refine below_al ?_ _ | refine Below.setCell ?_ (by simp <;> omega) _))⟩
set_option maxRecDepth 100000 in
set_option maxHeartbeats 8000000 in
theorem refAhead_any (f p d r m now n : Int) (f0 : 0 ≤ f) (f1 : f ≤ top) (p0 : 0 ≤ p) (p1 : p ≤ top) (x0 : 0 ≤ now) (x1 : now ≤ top) (w : World) : Calls Try.prog 46 #[.agg #[.int .u64 f, .int .u64 p, .int .u64 d, .int .u64 r, .int .u64 m], .int .u64 now, .int .i64 n] w fun e w' => ∃ A c, e = .returned (.slice A (ahL f p (ahM n) now).length c) ∧ ReadsInt w' .u64 A (ahL f p (ahM n) now).length (ahL f p (ahM n) now) ∧ Below w.heap.size w w' := by
  obtain ⟨M, hM, hM1⟩ : ∃ M : Nat, ((n ≤ 0 ∧ M = 0) ∨ (0 < n ∧ n < 100 ∧ (M : Int) = n) ∨ (100 ≤ n ∧ M = 100)) ∧ ahM n = M := by
    refine ⟨ahM n, ?_, rfl⟩
    unfold ahM
    omega
  rw [hM1]
  have hM2 : M ≤ 100 := by omega
  obtain ⟨L, hL⟩ : ∃ L, ahL f p M now = L := ⟨_, rfl⟩
  rw [hL]
  have HL := Lib.hid hL
  have HM := Lib.hid hM
  clear hL hM1 hM
  go_enter Try.func46, Try.ntmps46
  go_upto_region 2 with fail
  obtain ⟨W0, hW0⟩ : ∃ W0, w.alloc (.cells #[.int .u64 f, .int .u64 p, .int .u64 d, .int .u64 r, .int .u64 m] 57) = W0 := ⟨_, rfl⟩
  have hJ0 : W0.heap[w.heap.size]? = some (.cells #[.int .u64 f, .int .u64 p, .int .u64 d, .int .u64 r, .int .u64 m] 57) := by rw [← hW0]; exact heap_alloc_new w _
  have hB0 : Below w.heap.size w W0 := by rw [← hW0]; exact below_al (Below.refl _ _) _
  have hS0 : w.heap.size + 1 ≤ W0.heap.size := by rw [← hW0]; simp
  rw [hW0]
  clear hW0
  generalize hb : w.heap.size = b at *
  go_wp2_with fail
  go_loopg [1, 7, 8, 9, 10] M (fun g v1 v7 v8 _ _ wr => ∃ (i : Nat) (ws : List Int) (x : Int), g = M - i ∧ i ≤ M ∧ v8 = .int .i64 i ∧ v1 = .int .u64 x ∧ 0 ≤ x ∧ x ≤ top ∧ ws.length = i ∧ wr.ownsRow (b + 1) 29 1 v7 ws.length (nums .u64 ws) ∧ ws ++ ahL f p (M - i) x = L ∧ Below (b + 1) W0 wr)
  case atStart => exact ⟨0, [], now, rfl, by omega, rfl, rfl, x0, x1, rfl, own_nil _ _ _ _, by simpa using HL.out, ⟨rfl, rfl, rfl, Nat.le_refl _, fun _ _ => rfl⟩⟩
  case round =>
    obtain ⟨i, ws, x, rfl, hi, rfl, rfl, y0, y1, hws, hown, hsum, hB⟩ := hrel
    have hJ : wr.heap[b]? = some (.cells #[.int .u64 f, .int .u64 p, .int .u64 d, .int .u64 r, .int .u64 m] 57) := (hB.block b (by omega)).trans hJ0
    have c0 : wr.cell? ⟨b, 0, none⟩ = some (.int .u64 f) := by simp [World.cell?, hJ]
    have c1 : wr.cell? ⟨b, 1, none⟩ = some (.int .u64 p) := by simp [World.cell?, hJ]
    have HO := Lib.hid hown
    have HS := Lib.hid hsum
    clear hown hsum hJ
    by_cases hlt : i < M
    · have hstep : ahL f p (M - i) x = if gB f p x then gN f p x :: ahL f p (M - (i + 1)) (gN f p x) else [] := by
        rw [show M - i = (M - (i + 1)) + 1 from by omega]
        rfl
      obtain ⟨z0, z1⟩ := gN_bd f p x f0 p0 y0
      have HT := Lib.hid hstep
      clear hstep
      have g1 : decide ((i : Int) < n) = true := by have := HM.out; simp; omega
      have g2 : decide ((i : Int) < 100) = true := by simp; omega
      cases hg : gB f p x
      · go_wp2_with fail
        refine (refgrid_any f p x f0 f1 p0 p1 y0 y1 _).mono ?_
        rintro e w2 ⟨rfl, rfl⟩
        rw [hg]
        have hLw : ws = L := by have := HS.out; rw [HT.out, hg] at this; simpa using this
        rcases own_cases HO.out with ⟨rfl, hn, hr⟩ | ⟨gg, cc, rfl, hn, hcm, hr⟩
        · rw [hLw] at hn hr
          go_wp2_with fail
          go_ret
          refine ⟨none, 0, by rw [hn]; rfl, by rw [hn]; exact hr, ?_⟩
          rw [hb]; exact below_of hB hB0
        · rw [hLw] at hn hr ⊢
          go_wp2_with fail
          go_ret
          exact ⟨_, _, rfl, hr, by rw [hb]; exact below_of hB hB0⟩
      · go_wp2_with fail
        refine (refgrid_any f p x f0 f1 p0 p1 y0 y1 _).mono ?_
        rintro e w2 ⟨rfl, rfl⟩
        rw [hg]
        generalize hG : gN f p x = G at *
        go_wp2_with (first | (at_builtin; refine print_append_num (P := Try.prog) (w0 := W0) (b + 1) rfl (.tmp 31) (.tmp 33) 27 29 .u64 8 rfl Try.underlying27 (by kernel_rfl) (by decide) _ ws G rfl rfl HO.out hB (Nat.le_trans hS0 hB.size) (by omega) ?_; intro v1 w1 hown1 hB1 hg1 hat1))
        go_roundg (M - (i + 1))
        case measure => omega
        case rel => exact ⟨i + 1, ws ++ [G], G, rfl, by omega, by go_num, rfl, z0, z1, by simp; omega, hown1, by have := HS.out; rw [HT.out, if_pos hg] at this; simpa using this, hB1⟩
    · obtain rfl : i = M := by omega
      have hLw : ws = L := by have := HS.out; rw [Nat.sub_self] at this; simpa [ahL] using this
      have hend : (∃ _ : decide ((i : Int) < n) = false, True) ∨ ∃ (_ : decide ((i : Int) < n) = true) (_ : decide ((i : Int) < 100) = false), True := by
        rcases HM.out with h | h | h
        · exact .inl ⟨by simp; omega, trivial⟩
        · exact .inl ⟨by simp; omega, trivial⟩
        · by_cases hh : (i : Int) < n
          · exact .inr ⟨by simpa using hh, by simp; omega, trivial⟩
          · exact .inl ⟨by simpa using hh, trivial⟩
      rcases hend with ⟨g1, _⟩ | ⟨g1, g2, _⟩
      all_goals
        rcases own_cases HO.out with ⟨rfl, hn, hr⟩ | ⟨gg, cc, rfl, hn, hcm, hr⟩
        · rw [hLw] at hn hr
          go_wp2_with fail
          go_ret
          refine ⟨none, 0, by rw [hn]; rfl, by rw [hn]; exact hr, ?_⟩
          rw [hb]; exact below_of hB hB0
        · rw [hLw] at hn hr ⊢
          go_wp2_with fail
          go_ret
          exact ⟨_, _, rfl, hr, by rw [hb]; exact below_of hB hB0⟩
end Go.Proofs.Ytpcbcnheogjofaa
