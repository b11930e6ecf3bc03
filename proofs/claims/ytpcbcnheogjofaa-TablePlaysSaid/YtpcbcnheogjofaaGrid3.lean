/- Contracts of package grid: what comes again, as whole numbers. -/
import Derived.Test.YtpcbcnheogjofaaGridTick
import Derived.Deep.RegionHeld3
import Derived.Deep.DeepCutAuto
namespace Go.Proofs.Ytpcbcnheogjofaa
open Go.RowKit
set_option linter.unusedVariables false
set_option linter.unusedSimpArgs false

def okB (f p d : Int) : Bool := decide (0 < p ∧ f ≤ d ∧ (d - f) % p = 0)
def maxI (a b : Int) : Int := if a < b then b else a
def aftD (f p d n : Int) : Int := if okB f p d = true ∧ gB f p (maxI n d) = true then gN f p (maxI n d) else d
def aftR (f p d r : Int) : Int := if okB f p d = true then IntKind.u64.wrap (r + 1) else r
def aftM (f p d n m : Int) : Int := if okB f p d = true then IntKind.u64.wrap (m + missI f p d n) else m
def aftB (f p d n : Int) : Bool := okB f p d && gB f p (maxI n d)

set_option maxRecDepth 100000 in
theorem GNew_pos (f p : Int) (hp : 0 < p) (w : World) : Calls Try.prog 41 #[.int .u64 f, .int .u64 p] w fun e w' => e = .returned (.tuple #[.agg #[.int .u64 f, .int .u64 p, .int .u64 f, .int .u64 0, .int .u64 0], .int .i64 0]) ∧ Below w.heap.size w w' := by
  have hz : (p == 0) = false := by simp; omega
  go_enter Try.func41, Try.ntmps41
  go_wp2
  refine bodyPost_ret (v := .tuple #[.agg #[.int .u64 f, .int .u64 p, .int .u64 f, .int .u64 0, .int .u64 0], .int .i64 0]) (by simp [results, Try.results41, go_sem]) rfl ?_
  exact ⟨rfl, below_al (Below.refl _ _) _⟩
set_option maxRecDepth 100000 in
theorem GNew_zero (f : Int) (w : World) : Calls Try.prog 41 #[.int .u64 f, .int .u64 0] w fun e w' => e = .returned (.tuple #[.agg #[.int .u64 0, .int .u64 0, .int .u64 0, .int .u64 0, .int .u64 0], .int .i64 1]) ∧ Below w.heap.size w w' := by
  go_enter Try.func41, Try.ntmps41
  go_wp2
  refine bodyPost_ret (v := .tuple #[.agg #[.int .u64 0, .int .u64 0, .int .u64 0, .int .u64 0, .int .u64 0], .int .i64 1]) (by simp [results, Try.results41, go_sem]) rfl ?_
  exact ⟨rfl, below_al (Below.refl _ _) _⟩
set_option maxRecDepth 100000 in
theorem GOk_any (f p d r m : Int) (f0 : 0 ≤ f) (p0 : 0 ≤ p) (d0 : 0 ≤ d) (d1 : d ≤ top) (w : World) : Calls Try.prog 47 #[.agg #[.int .u64 f, .int .u64 p, .int .u64 d, .int .u64 r, .int .u64 m]] w fun e w' => e = .returned (.bool (okB f p d)) ∧ w' = w.alloc (.cells #[.int .u64 f, .int .u64 p, .int .u64 d, .int .u64 r, .int .u64 m] 57) := by
  rcases Int.lt_or_le 0 p with hp | hp
  · rcases Int.lt_or_le d f with hd | hd
    · have hb : okB f p d = false := by unfold okB; simp; omega
      have e1 : ¬ (f ≤ d) := by omega
      rw [hb]
      clear hb
      go_enter Try.func47, Try.ntmps47
      go_wp2
      go_ret
      exact ⟨rfl, rfl⟩
    · obtain ⟨x, hx⟩ : ∃ x, (d - f) % p = x := ⟨_, rfl⟩
      have hb : okB f p d = (x == 0) := by unfold okB; rw [hx]; simp [hp, hd]; rfl
      have q1 : IntKind.u64.wrap (d - f) = d - f := by unfold top at d1; rw [IntKind.wrap_u64]; omega
      have x0 : 0 ≤ x := by rw [← hx]; exact Int.emod_nonneg _ (by omega)
      have x1 : x < p := by rw [← hx]; exact Int.emod_lt_of_pos _ hp
      have hpn : (p == 0) = false := by simp; omega
      have q2 : (d - f).tmod p = x := by rw [Int.tmod_eq_emod_of_nonneg (by omega)]; exact hx
      rw [hb]
      clear hb
      go_enter Try.func47, Try.ntmps47
      go_wp2
      go_ret
      exact ⟨rfl, rfl⟩
  · obtain rfl : p = 0 := by omega
    have hb : okB f 0 d = false := by unfold okB; simp
    rw [hb]
    clear hb
    go_enter Try.func47, Try.ntmps47
    go_wp2
    go_ret
    exact ⟨rfl, rfl⟩
set_option maxRecDepth 100000 in
theorem GAfter_no (f p d r m n : Int) (f0 : 0 ≤ f) (p0 : 0 ≤ p) (d0 : 0 ≤ d) (d1 : d ≤ top) (hok : okB f p d = false) (w : World) : Calls Try.prog 43 #[.agg #[.int .u64 f, .int .u64 p, .int .u64 d, .int .u64 r, .int .u64 m], .int .u64 n] w fun e w' => e = .returned (.tuple #[.agg #[.int .u64 f, .int .u64 p, .int .u64 d, .int .u64 r, .int .u64 m], .bool false]) ∧ Below w.heap.size w w' := by
  go_enter Try.func43, Try.ntmps43
  go_wp2_with fail
  refine (GOk_any f p d r m f0 p0 d0 d1 _).mono ?_
  rintro e w1 ⟨rfl, rfl⟩
  rw [hok]
  go_wp2_with fail
  refine bodyPost_ret (v := .tuple #[.agg #[.int .u64 f, .int .u64 p, .int .u64 d, .int .u64 r, .int .u64 m], .bool false]) (by simp [results, Try.results43, go_sem]) rfl ?_
  exact ⟨rfl, by (repeat (first | exact Below.refl _ _ | refine below_dr ?_ | refine below_drN ?_ _ | refine below_al ?_ _ | refine Below.setCell ?_ (by simp <;> omega) _))⟩
set_option maxRecDepth 100000 in
set_option maxHeartbeats 8000000 in
theorem GAfter_go (f p d r m n x : Int) (g : Bool) (hx : (n < d ∧ x = d) ∨ (d ≤ n ∧ x = n)) (f0 : 0 ≤ f) (f1 : f ≤ top) (p0 : 0 ≤ p) (p1 : p ≤ top) (d0 : 0 ≤ d) (d1 : d ≤ top) (n0 : 0 ≤ n) (n1 : n ≤ top) (hok : okB f p d = true) (hg : gB f p x = g) (w : World) : Calls Try.prog 43 #[.agg #[.int .u64 f, .int .u64 p, .int .u64 d, .int .u64 r, .int .u64 m], .int .u64 n] w fun e w' => e = .returned (.tuple #[.agg #[.int .u64 f, .int .u64 p, .int .u64 (if g then gN f p x else d), .int .u64 (IntKind.u64.wrap (r + 1)), .int .u64 (IntKind.u64.wrap (m + missI f p d n))], .bool g]) ∧ Below w.heap.size w w' := by
  generalize hG : gN f p x = G at *
  generalize hR : IntKind.u64.wrap (r + 1) = R at *
  generalize hMM : missI f p d n = MM at *
  generalize hS : IntKind.u64.wrap (m + MM) = SS at *
  go_enter Try.func43, Try.ntmps43
  go_wp2_with fail
  refine (GOk_any f p d r m f0 p0 d0 d1 _).mono ?_
  rintro e w1 ⟨rfl, rfl⟩
  rw [hok]
  go_upto_region 3 with fail
  go_cut [6, 7] (fun v6 v7 wx => v6 = .int .u64 G ∧ v7 = .bool g ∧ ((w.alloc (.cells #[.int .u64 f, .int .u64 p, .int .u64 d, .int .u64 r, .int .u64 m] 57)).alloc (.cells #[.int .u64 0, .int .u64 0, .int .u64 0, .int .u64 0, .int .u64 0] 57)).alloc (.cells #[.int .u64 f, .int .u64 p, .int .u64 d, .int .u64 r, .int .u64 m] 57) = wx)
  case first =>
    rcases hx with ⟨hx, rfl⟩ | ⟨hx, rfl⟩
    · go_wp2_with fail
      refine (grid_any f p x f0 f1 p0 p1 d0 d1 _).mono ?_
      rintro e w1 ⟨rfl, rfl⟩
      rw [hg, hG]
      go_wp2_with fail
      go_meet
      exact ⟨rfl, rfl, rfl⟩
    · go_wp2_with fail
      refine (grid_any f p x f0 f1 p0 p1 n0 n1 _).mono ?_
      rintro e w1 ⟨rfl, rfl⟩
      rw [hg, hG]
      go_wp2_with fail
      go_meet
      exact ⟨rfl, rfl, rfl⟩
  case rest =>
  obtain ⟨rfl, rfl, rfl⟩ := hcut
  clear hg hG hx x
  go_upto_region 5 with fail
  go_cut [] (fun wx => (((w.alloc (.cells #[.int .u64 f, .int .u64 p, .int .u64 d, .int .u64 R, .int .u64 SS] 57)).alloc (.cells #[.int .u64 0, .int .u64 0, .int .u64 0, .int .u64 0, .int .u64 0] 57)).alloc (.cells #[.int .u64 f, .int .u64 p, .int .u64 d, .int .u64 r, .int .u64 m] 57)).drew = wx)
  case first =>
    go_region_with (go_at_call 81; refine (missed_any f p d n f0 p0 d0 d1 n0 n1 _).mono ?_; rintro e w1 ⟨rfl, rfl⟩; rw [hMM])
    all_goals (go_wp2_with fail; go_meet; rfl)
  case rest =>
  obtain rfl := hcut
  cases g
  · go_wp2_with fail
    refine bodyPost_ret (v := .tuple #[.agg #[.int .u64 f, .int .u64 p, .int .u64 d, .int .u64 R, .int .u64 SS], .bool false]) (by simp [results, Try.results43, go_sem]) rfl ?_
    exact ⟨rfl, by (repeat (first | exact Below.refl _ _ | refine below_dr ?_ | refine below_drN ?_ _ | refine below_al ?_ _ | refine Below.setCell ?_ (by simp <;> omega) _))⟩
  · go_wp2_with fail
    refine bodyPost_ret (v := .tuple #[.agg #[.int .u64 f, .int .u64 p, .int .u64 G, .int .u64 R, .int .u64 SS], .bool true]) (by simp [results, Try.results43, go_sem]) rfl ?_
    exact ⟨rfl, by (repeat (first | exact Below.refl _ _ | refine below_dr ?_ | refine below_drN ?_ _ | refine below_al ?_ _ | refine Below.setCell ?_ (by simp <;> omega) _))⟩
set_option maxRecDepth 100000 in
theorem awake13 (w : World) : Calls Try.prog 44 #[] w fun e w' => e = .returned (.bool true) ∧ Below w.heap.size w w' := by
  go_enter Try.func44, Try.ntmps44
  go_wp2_with fail
  refine (GNew_pos 5 3 (by decide) _).mono ?_
  rintro e w1 ⟨rfl, hB1⟩
  go_wp2_with fail
  refine (GAfter_go 5 3 5 0 0 12 12 true (Or.inr ⟨by decide, rfl⟩) (by decide) (by decide) (by decide) (by decide) (by decide) (by decide) (by decide) (by decide) (by decide) (by decide) _).mono ?_
  rintro e w2 ⟨rfl, hB2⟩
  rw [show (if true = true then gN 5 3 12 else 5) = 14 from by decide, show IntKind.u64.wrap (0 + 1) = 1 from by decide, show IntKind.u64.wrap (0 + missI 5 3 5 12) = 2 from by decide]
  have hB3 := below_step hB2 (below_al hB1 (.cells #[.int .u64 5, .int .u64 3, .int .u64 5, .int .u64 0, .int .u64 0] 57))
  have c0 := cell_goes hB2 (a := ⟨w1.heap.size, 0, none⟩) (v := .int .u64 5) (by simp [go_sem])
  have c1 := cell_goes hB2 (a := ⟨w1.heap.size, 1, none⟩) (v := .int .u64 3) (by simp [go_sem])
  have c2 := cell_goes hB2 (a := ⟨w1.heap.size, 2, none⟩) (v := .int .u64 5) (by simp [go_sem])
  have c3 := cell_goes hB2 (a := ⟨w1.heap.size, 3, none⟩) (v := .int .u64 0) (by simp [go_sem])
  have c4 := cell_goes hB2 (a := ⟨w1.heap.size, 4, none⟩) (v := .int .u64 0) (by simp [go_sem])
  have hlt : w1.heap.size < w2.heap.size := World.block_lt_of_cell? w2 _ c0
  have hok : okB 5 3 5 = true := by decide
  go_wp2_with fail
  refine (GOk_any 5 3 5 0 0 (by decide) (by decide) (by decide) (by decide) _).mono ?_
  rintro e w3 ⟨rfl, rfl⟩
  rw [hok]
  go_wp2_with fail
  go_ret
  exact ⟨rfl, below_al (below_al hB3 _) _⟩
end Go.Proofs.Ytpcbcnheogjofaa
