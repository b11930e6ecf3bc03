/- Contracts and plain laws that the proof of TopUrgent goes by, under no condition. -/
import Derived.Test.YtcfhkbcllijnkaaGreatZTopUrgentac
import Derived.LoopTactic
set_option linter.unusedVariables false
set_option linter.unusedSimpArgs false
set_option maxRecDepth 100000
set_option maxHeartbeats 40000000
namespace Go.Proofs.YtcfhkbcllijnkaaGreat
open Go.RowKit
theorem zm8 (k : Nat) (h : k ≤ 7) : (0 : Int) < 2 ^ k ∧ (2 : Int) ^ k ≤ 128 := by
 have hh : ∀ k : Fin 8, (0 : Int) < 2 ^ k.val ∧ (2 : Int) ^ k.val ≤ 128 := by decide
 exact hh ⟨k, by omega⟩
theorem ziv (p : Int) (w : World) : Calls Tryz.prog 64 #[.int .i64 p] w fun e w' => e = .returned (.int .u64 (za9 p)) ∧ w = w' := by
 obtain ⟨c, hc, hc7⟩ : ∃ c : Nat, zb7 p = c ∧ c ≤ 7 := ⟨(zb7 p).toNat, by unfold zb7; omega, by unfold zb7; omega⟩
 have es : za9 p = 2 ^ c - 1 := by unfold za9; rw [hc]; rfl
 rw [es]
 have hp := zm8 c hc7
 have HP := yyh hp
 unfold zb7 at hc
 clear es hp
 rcases (show p < 0 ∨ (0 ≤ p ∧ p ≤ 7) ∨ 7 < p from by omega) with h | ⟨h, h'⟩ | h
 all_goals
  go_enter Tryz.func64, Tryz.ntmps64
  go_wp2
  go_loop [3, 4] (fun s i => ∃ k : Nat, k ≤ c ∧ s = .int .u64 (2 ^ k) ∧ i = .int .i64 k) (fun _ i => c - (intOf i).toNat)
  case atStart => exact ⟨0, by omega, rfl, rfl⟩
  case round =>
   obtain ⟨k, hk, rfl, rfl⟩ := hrel
   have hq := zm8 k (by omega)
   have hs : (2 : Int) ^ (k + 1) = 2 * 2 ^ k := by rw [Int.pow_succ, Int.mul_comm]
   have HS := yyh hs
   clear hs
   by_cases hlt : k < c
   ·
    generalize (2 : Int) ^ k = y at *
    go_wp2
    all_goals (try omega)
    all_goals
     go_round
     case rel => exact ⟨k + 1, by omega, by rw [HS.out], by go_num⟩
     case measure => simp [intOf]; omega
   ·
    obtain rfl : k = c := by omega
    generalize hy : (2 : Int) ^ k = y at *
    have HY := yyh hy
    clear hy
    go_wp2
    all_goals (try omega)
    all_goals (go_ret; exact ⟨zf3 (by rw [HY.out]), rfl⟩)
theorem few_any (n : Int) (w : World) : Calls Tryz.prog 55 #[.int .i64 n] w fun e w' => e = .returned (.int .i64 (zc6 n)) ∧ w = w' := by
 rcases (show n < 0 ∨ (0 ≤ n ∧ n ≤ 1000) ∨ 1000 < n from by omega) with h | ⟨h, h'⟩ | h
 ·
  rw [show zc6 n = 0 from by unfold zc6; omega]
  go_enter Tryz.func55, Tryz.ntmps55
  go_wp2
  all_goals (go_ret; exact ⟨rfl, rfl⟩)
 ·
  rw [show zc6 n = n from by unfold zc6; omega]
  go_enter Tryz.func55, Tryz.ntmps55
  go_wp2
  all_goals (go_ret; exact ⟨rfl, rfl⟩)
 ·
  rw [show zc6 n = 1000 from by unfold zc6; omega]
  go_enter Tryz.func55, Tryz.ntmps55
  go_wp2
  all_goals (go_ret; exact ⟨rfl, rfl⟩)
def betaI (p c t : Int) : Int := za9 p + zc6 c + 2 * zc6 t
theorem zj1 (p c t : Int) (w : World) : Calls Tryz.prog 31 #[.int .i64 p, .int .i64 c, .int .i64 t] w fun e w' => e = .returned (.int .i64 (betaI p c t)) ∧ w = w' := by
 obtain ⟨a1, a2⟩ := ziu t
 obtain ⟨b1, b2⟩ := ziu c
 obtain ⟨c1, c2⟩ := zk3 p
 unfold betaI
 go_enter Tryz.func31, Tryz.ntmps31
 go_wp2_with (first | (go_at_call 55; refine (few_any _ _).mono ?_; rintro e w' ⟨rfl, rfl⟩) | (go_at_call 64; refine (ziv _ _).mono ?_; rintro e w' ⟨rfl, rfl⟩))
 go_ret
 exact ⟨rfl, rfl⟩
end Go.Proofs.YtcfhkbcllijnkaaGreat
