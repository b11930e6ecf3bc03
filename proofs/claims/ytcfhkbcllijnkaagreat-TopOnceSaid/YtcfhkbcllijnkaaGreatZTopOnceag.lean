/- Parts of the proof of TopOnce, under no condition. -/
import Derived.Test.YtcfhkbcllijnkaaGreatZTopOncead
import Derived.Deep.RegionHeld3
import Derived.Deep.DeepCutAuto
set_option linter.unusedVariables false
set_option linter.unusedSimpArgs false
set_option maxRecDepth 100000
set_option maxHeartbeats 0
namespace Go.Proofs.YtcfhkbcllijnkaaGreat
open Go.RowKit
def okB (f p d : Int) : Bool := decide (0 < p ∧ f ≤ d ∧ (d - f) % p = 0)
theorem zt1 (f p d r m : Int) (f0 : 0 ≤ f) (p0 : 0 ≤ p) (d0 : 0 ≤ d) (d1 : d ≤ top) (w : World) : Calls Tryz.prog 121 #[.agg #[.int .u64 f, .int .u64 p, .int .u64 d, .int .u64 r, .int .u64 m]] w fun e w' => e = .returned (.bool (okB f p d)) ∧ w' = w.alloc (.cells #[.int .u64 f, .int .u64 p, .int .u64 d, .int .u64 r, .int .u64 m] 93) := by
 rcases Int.lt_or_le 0 p with hp | hp
 ·
  rcases Int.lt_or_le d f with hd | hd
  ·
   have hb : okB f p d = false := by unfold okB; simp; omega
   have e1 : ¬ (f ≤ d) := by omega
   rw [hb]
   clear hb
   go_enter Tryz.func121, Tryz.ntmps121
   go_wp2
   go_ret
   exact ⟨rfl, rfl⟩
  ·
   obtain ⟨x, hx⟩ : ∃ x, (d - f) % p = x := ⟨_, rfl⟩
   have hb : okB f p d = (x == 0) := by unfold okB; rw [hx]; simp [hp, hd]; rfl
   have q1 : IntKind.u64.wrap (d - f) = d - f := by unfold top at d1; rw [IntKind.wrap_u64]; omega
   have x0 : 0 ≤ x := by rw [← hx]; exact Int.emod_nonneg _ (by omega)
   have x1 : x < p := by rw [← hx]; exact Int.emod_lt_of_pos _ hp
   have hpn : (p == 0) = false := by simp; omega
   have q2 : (d - f).tmod p = x := by rw [Int.tmod_eq_emod_of_nonneg (by omega)]; exact hx
   rw [hb]
   clear hb
   go_enter Tryz.func121, Tryz.ntmps121
   go_wp2
   go_ret
   exact ⟨rfl, rfl⟩
 ·
  obtain rfl : p = 0 := by omega
  have hb : okB f 0 d = false := by unfold okB; simp
  rw [hb]
  clear hb
  go_enter Tryz.func121, Tryz.ntmps121
  go_wp2
  go_ret
  exact ⟨rfl, rfl⟩
end Go.Proofs.YtcfhkbcllijnkaaGreat
