/- Contracts and plain laws that the proof of TopUrgent goes by, under no condition. -/
import Derived.Test.YtcfhkbcllijnkaaGreatZTopUrgentai
import Derived.Laws.BitsAllLaws
set_option linter.unusedVariables false
set_option linter.unusedSimpArgs false
set_option maxRecDepth 100000
set_option maxHeartbeats 40000000
namespace Go.Proofs.YtcfhkbcllijnkaaGreat
open Go.RowKit
def zf9 (s v : Int) : Int := s % 8 + 8 * (v % 2305843009213693952)
theorem or_join (x y : Int) (hx : 0 ≤ x) (hx8 : x < 8) (hy : 0 ≤ y) (hy8 : y % 8 = 0) (hyt : y ≤ top) : bits .or .u64 x y = x + y := by
 have e : 18446744073709551616 = top + 1 := rfl
 rw [u64_or x y hx (by omega) hy (by omega)]
 obtain ⟨a, rfl⟩ := Int.eq_ofNat_of_zero_le hx
 obtain ⟨b, rfl⟩ := Int.eq_ofNat_of_zero_le hy
 rw [Int.toNat_natCast, Int.toNat_natCast, Nat.or_comm, nat_join 3 b a (by omega) (by omega)]
 omega
theorem pack_eq (s v : Int) : bits .or .u64 (bits .and .u64 (IntKind.u64.wrap s) 7) (IntKind.u64.wrap (v * 8)) = zf9 s v := by
 rw [ziq, IntKind.wrap_u64, IntKind.wrap_u64, or_join _ _ (by omega) (by omega) (by omega) (by omega) (by unfold top; omega)]
 unfold zf9
 omega
theorem pack_bd (s v : Int) : 0 ≤ zf9 s v ∧ zf9 s v ≤ top := by unfold zf9 top; omega
theorem pack_any (s v : Int) (w : World) : Calls Tryz.prog 224 #[.int .i64 s, .int .u64 v] w fun e w' => e = .returned (.int .u64 (zf9 s v)) ∧ w = w' := by
 go_enter Tryz.func224, Tryz.ntmps224
 go_wp2
 go_ret
 exact ⟨zf3 (pack_eq s v), rfl⟩
theorem zds (x : Int) (w : World) : Calls Tryz.prog 143 #[.int .u64 x] w fun e w' => e = .returned (.int .i64 (x % 8)) ∧ w = w' := by
 go_enter Tryz.func143, Tryz.ntmps143
 go_wp2
 go_ret
 exact ⟨zf3 (by rw [ziq]; unfold wrap64; omega), rfl⟩
theorem zj4 (x : Int) (w : World) : Calls Tryz.prog 225 #[.int .u64 x] w fun e w' => e = .returned (.int .u64 (x / 8)) ∧ w = w' := by
 go_enter Tryz.func225, Tryz.ntmps225
 go_wp2
 go_ret
 exact ⟨rfl, rfl⟩
def zck (x s : Int) : Int := zf9 s (x / 8 + 1)
theorem znh (s v : Int) : zf9 s (IntKind.u64.wrap v) = zf9 s v := by unfold zf9; rw [IntKind.wrap_u64]; omega
theorem zk6 (x s : Int) (hx : 0 ≤ x) (hx1 : x ≤ top) (w : World) : Calls Tryz.prog 170 #[.int .u64 x, .int .i64 s] w fun e w' => e = .returned (.int .u64 (zck x s)) ∧ w = w' := by
 go_enter Tryz.func170, Tryz.ntmps170
 go_wp2_with (first | (go_at_call 225; refine (zj4 _ _).mono ?_; rintro e w' ⟨rfl, rfl⟩) | (go_at_call 224; refine (pack_any _ _ _).mono ?_; rintro e w' ⟨rfl, rfl⟩))
 go_ret
 exact ⟨zf3 (by unfold zck; first | rfl | exact znh _ _), rfl⟩
end Go.Proofs.YtcfhkbcllijnkaaGreat
