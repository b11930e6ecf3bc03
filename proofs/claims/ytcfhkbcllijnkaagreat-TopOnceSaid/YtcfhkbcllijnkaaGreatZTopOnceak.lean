/- Parts of the proof of TopOnce, under no condition. -/
import Derived.Test.YtcfhkbcllijnkaaGreatZTopOnceaj
import Derived.Laws.BitsAllLaws
set_option linter.unusedVariables false
set_option linter.unusedSimpArgs false
set_option maxRecDepth 100000
set_option maxHeartbeats 0
namespace Go.Proofs.YtcfhkbcllijnkaaGreat
open Go.RowKit
def zgt (s v : Int) : Int := s % 8 + 8 * (v % 2305843009213693952)
theorem zt4 (x y : Int) (hx : 0 ≤ x) (hx8 : x < 8) (hy : 0 ≤ y) (hy8 : y % 8 = 0) (hyt : y ≤ top) : bits .or .u64 x y = x + y := by
 have e : 18446744073709551616 = top + 1 := rfl
 rw [u64_or x y hx (by omega) hy (by omega)]
 obtain ⟨a, rfl⟩ := Int.eq_ofNat_of_zero_le hx
 obtain ⟨b, rfl⟩ := Int.eq_ofNat_of_zero_le hy
 rw [Int.toNat_natCast, Int.toNat_natCast, Nat.or_comm, nat_join 3 b a (by omega) (by omega)]
 omega
theorem zt5 (s v : Int) : bits .or .u64 (bits .and .u64 (IntKind.u64.wrap s) 7) (IntKind.u64.wrap (v * 8)) = zgt s v := by
 rw [zjk, IntKind.wrap_u64, IntKind.wrap_u64, zt4 _ _ (by omega) (by omega) (by omega) (by omega) (by unfold top; omega)]
 unfold zgt
 omega
theorem zt6 (s v : Int) : 0 ≤ zgt s v ∧ zgt s v ≤ top := by unfold zgt top; omega
theorem zq7 (s v : Int) (w : World) : Calls Tryz.prog 224 #[.int .i64 s, .int .u64 v] w fun e w' => e = .returned (.int .u64 (zgt s v)) ∧ w = w' := by
 go_enter Tryz.func224, Tryz.ntmps224
 go_wp2
 go_ret
 exact ⟨zic (zt5 s v), rfl⟩
theorem zd7 (x : Int) (w : World) : Calls Tryz.prog 143 #[.int .u64 x] w fun e w' => e = .returned (.int .i64 (x % 8)) ∧ w = w' := by
 go_enter Tryz.func143, Tryz.ntmps143
 go_wp2
 go_ret
 exact ⟨zic (by rw [zjk]; unfold wrap64; omega), rfl⟩
theorem zk8 (x : Int) (w : World) : Calls Tryz.prog 225 #[.int .u64 x] w fun e w' => e = .returned (.int .u64 (x / 8)) ∧ w = w' := by
 go_enter Tryz.func225, Tryz.ntmps225
 go_wp2
 go_ret
 exact ⟨rfl, rfl⟩
def zcu (x s : Int) : Int := zgt s (x / 8 + 1)
theorem zoo (s v : Int) : zgt s (IntKind.u64.wrap v) = zgt s v := by unfold zgt; rw [IntKind.wrap_u64]; omega
theorem zma (x s : Int) (hx : 0 ≤ x) (hx1 : x ≤ top) (w : World) : Calls Tryz.prog 170 #[.int .u64 x, .int .i64 s] w fun e w' => e = .returned (.int .u64 (zcu x s)) ∧ w = w' := by
 go_enter Tryz.func170, Tryz.ntmps170
 go_wp2_with (first | (go_at_call 225; refine (zk8 _ _).mono ?_; rintro e w' ⟨rfl, rfl⟩) | (go_at_call 224; refine (zq7 _ _ _).mono ?_; rintro e w' ⟨rfl, rfl⟩))
 go_ret
 exact ⟨zic (by unfold zcu; first | rfl | exact zoo _ _), rfl⟩
end Go.Proofs.YtcfhkbcllijnkaaGreat
