/- Law CellSums proved: for any numbers, in any order, the call returns true, under no condition.
   The frame below the walk was written by the kit's proof-skeleton.mjs. -/
import Derived.Test.YtpcbcnheogjofaaRows
import Derived.WalkKit
import Derived.ProofKit
import Derived.OpenShut
import Derived.ShutString
import Derived.ChangeOld
import Derived.Below
import Derived.Test.YtpcbcnheogjofaaCellAwake
namespace Go.Proofs.Ytpcbcnheogjofaa.cellSums
open Go.ChangeShapes Go.WideShapes Go.ChangeAt Go.RowKit
open Go.ChangeMaps (open_string shut_string)
set_option linter.unusedVariables false

theorem own : ownKnob Try.prog.godebug = none := by kernel_rfl
theorem laidOut : laidOutB Try.prog = true := by kernel_rfl

def IsRow (k : IntKind) (w : World) (a : Option Addr) (len cap : Nat) (zs : List Int) : Prop :=
  (a = none ∧ len = 0 ∧ cap = 0 ∧ zs = []) ∨
  ∃ x, a = some x ∧ len ≤ cap ∧ cap ≤ maxLen ∧ zs.length = cap ∧ (∀ i, i < zs.length → w.cell? (x.add i) = some (.int k (zs.getD i 0))) ∧ ∀ n ∈ zs, (Lit.int k n).wf = true

theorem wrap_bd (x : Int) : 0 ≤ IntKind.u64.wrap x ∧ IntKind.u64.wrap x ≤ top := by rw [IntKind.wrap_u64]; unfold top; omega
theorem wrap_ne (S : Int) (h0 : 0 ≤ S) (h1 : S ≤ top) : (S != IntKind.u64.wrap (S + 1)) = true := by
  rw [bne_iff_ne, IntKind.wrap_u64]
  unfold top at h1
  omega

theorem walk (a0 : Option Addr) (len0 cap0 : Nat) (z0 : List Int) (a1 : Int) (w : World) (w0 : IsRow .u64 w a0 len0 cap0 z0) (w1 : (Lit.int .i64 a1).wf = true) :
    Calls Try.prog 4 #[.slice a0 len0 cap0, .int .i64 a1] w fun e w' => e = .returned (.bool true) ∧ Below w.heap.size w w' := by
  have HO := Lib.hid (own2_ge w.heap.size)
  rcases row_cases w0 with rfl | ⟨b, off, rfl, hl, hm, hbw, hc, hwz⟩
  · clear w0 w1
    go_enter Try.func4, Try.ntmps4
    go_wp2_with fail
    refine (New_in 3 (by decide) (by decide) _).mono ?_
    rintro e w1 ⟨rfl, hM, hB⟩
    obtain ⟨S, hS⟩ : ∃ S : Int, S = 0 := ⟨0, rfl⟩
    rw [show List.replicate (3 : Int).toNat (0 : Int) = [0, 0, 0] from rfl] at hM
    go_wp2_with fail
    refine wp_loop_rounds 1 ?_
    rw [rounds_succ]
    have hM : MemAt w1 (w.heap.size + 1) w.heap.size [0, S, 0] 0 0 0 0 := by rw [hS]; exact hM
    go_wp2_with fail
    refine (Load_in hM (by omega) 1 (by decide) (by simp)).mono ?_
    rintro e w5 ⟨rfl, hM5, hF5⟩
    have hB5 := hF5.below hB HO.out
    rw [show List.getD [(0 : Int), S, 0] (1 : Int).toNat 0 = 0 from hS]
    clear hM hB hF5
    go_wp2_with fail
    refine (Load_in hM5 (by omega) 0 (by decide) (by simp)).mono ?_
    rintro e w6 ⟨rfl, hM6, hF6⟩
    have hB6 := hF6.below hB5 HO.out
    rw [show List.getD [(0 : Int), S, 0] (0 : Int).toNat 0 = 0 from rfl]
    clear hM5 hB5 hF6
    go_wp2_with fail
    refine (Load_in hM6 (by omega) 2 (by decide) (by simp)).mono ?_
    rintro e w7 ⟨rfl, hM7, hF7⟩
    have hB7 := hF7.below hB6 HO.out
    rw [show List.getD [(0 : Int), S, 0] (2 : Int).toNat 0 = 0 from rfl]
    clear hM6 hB6 hF7
    go_wp2_with (first | (go_at_call 21; refine (Wins_any hM7 (by omega)).mono ?_; rintro e w' ⟨rfl, rfl⟩) | (go_at_call 22; refine (awake3 _).mono ?_; rintro e w' ⟨rfl, hb⟩))
    go_ret
    exact ⟨rfl, below_step hb hB7⟩
  · clear w0 w1
    go_enter Try.func4, Try.ntmps4
    go_wp2_with fail
    refine (New_in 3 (by decide) (by decide) _).mono ?_
    rintro e w1 ⟨rfl, hM0, hB0⟩
    rw [show List.replicate (3 : Int).toNat (0 : Int) = [0, 0, 0] from rfl] at hM0
    go_wp2_with fail
    go_loopw [7, 8] (fun v7 v8 wr => ∃ (k : Nat) (S st at_ kd : Int), k ≤ 60 ∧ k ≤ len0 ∧ v8 = .int .i64 k ∧ v7 = .int .u64 S ∧ 0 ≤ S ∧ S ≤ top ∧ st ≤ 2 * k ∧ MemAt wr (w.heap.size + 1) w.heap.size [0, S, 0] st 0 at_ kd ∧ Below w.heap.size w wr) (fun _ v8 _ => 60 - (intOf v8).toNat)
    case atStart => exact ⟨0, 0, 0, 0, 0, by omega, by omega, rfl, rfl, by decide, by decide, by decide, hM0, hB0⟩
    case round =>
      obtain ⟨k, S, st, at_, kd, hk, hkl, rfl, rfl, S0, S1, hst, hM, hB⟩ := hrel
      by_cases hlt : k < 60 ∧ k < len0
      · obtain ⟨h60, hlen⟩ := hlt
        have hcell := cell_keeps hB hbw (hc k (by omega))
        have hcell0 := hc k (by omega)
        generalize z0.getD k 0 = x at hcell hcell0
        obtain ⟨T0, T1⟩ := wrap_bd (S + x)
        go_wp2_with fail
        refine (Add_in hM (by omega) 1 (by decide) (by simp) x).mono ?_
        rintro e w2 ⟨rfl, hM2, hF2⟩
        have hB2 := hF2.below hB HO.out
        rw [show List.getD [(0 : Int), S, 0] (1 : Int).toNat 0 = S from rfl, show List.set [(0 : Int), S, 0] (1 : Int).toNat (IntKind.u64.wrap (S + x)) = [0, IntKind.u64.wrap (S + x), 0] from rfl] at *
        generalize hT : IntKind.u64.wrap (S + x) = T at *
        have hcell2 := cell_keeps hB2 hbw hcell0
        have hne := wrap_ne T T0 T1
        obtain ⟨v, hv, v0, v63⟩ : ∃ p, bits .and .i64 a1 63 = p ∧ 0 ≤ p ∧ p ≤ 63 := ⟨_, rfl, by rw [and_i64_63]; omega, by rw [and_i64_63]; omega⟩
        clear hT hM hB hF2 hcell
        by_cases hkv : (k : Int) = v
        · have e1 : ((k : Int) == v) = true := by simpa using hkv
          clear hkv
          go_wp2_with fail
          refine (CAS_miss hM2 (by omega) 1 (by decide) (by simp) (IntKind.u64.wrap (T + 1)) 0 (show ([0, T, 0].getD 1 0 != IntKind.u64.wrap (T + 1)) = true from hne)).mono ?_
          rintro e w3 ⟨rfl, hM3, hF3⟩
          have hB3 := hF3.below hB2 HO.out
          clear hM2 hB2 hF3 hcell2
          go_wp2_with fail
          go_roundw
          case rel => exact ⟨k + 1, T, _, _, _, by omega, by omega, by go_num, rfl, T0, T1, by omega, hM3, hB3⟩
          case measure => simp [intOf]; omega
        · have e1 : ((k : Int) == v) = false := by simpa using hkv
          clear hkv
          go_wp2_with fail
          go_roundw
          case rel => exact ⟨k + 1, T, _, _, _, by omega, by omega, by go_num, rfl, T0, T1, by omega, hM2, hB2⟩
          case measure => simp [intOf]; omega
      · by_cases h60 : k < 60
        · have hlen : ¬ k < len0 := fun h => hlt ⟨h60, h⟩
          go_wp2_with fail
          refine (Load_in hM (by omega) 1 (by decide) (by simp)).mono ?_
          rintro e w5 ⟨rfl, hM5, hF5⟩
          have hB5 := hF5.below hB HO.out
          rw [show List.getD [(0 : Int), S, 0] (1 : Int).toNat 0 = S from rfl]
          clear hM hB hF5
          go_wp2_with fail
          refine (Load_in hM5 (by omega) 0 (by decide) (by simp)).mono ?_
          rintro e w6 ⟨rfl, hM6, hF6⟩
          have hB6 := hF6.below hB5 HO.out
          rw [show List.getD [(0 : Int), S, 0] (0 : Int).toNat 0 = 0 from rfl]
          clear hM5 hB5 hF6
          go_wp2_with fail
          refine (Load_in hM6 (by omega) 2 (by decide) (by simp)).mono ?_
          rintro e w7 ⟨rfl, hM7, hF7⟩
          have hB7 := hF7.below hB6 HO.out
          rw [show List.getD [(0 : Int), S, 0] (2 : Int).toNat 0 = 0 from rfl]
          clear hM6 hB6 hF7
          go_wp2_with (first | (go_at_call 21; refine (Wins_any hM7 (by omega)).mono ?_; rintro e w' ⟨rfl, rfl⟩) | (go_at_call 22; refine (awake3 _).mono ?_; rintro e w' ⟨rfl, hb⟩))
          go_ret
          exact ⟨rfl, below_step hb hB7⟩
        · by_cases hlen : k < len0
          · skip
            go_wp2_with fail
            refine (Load_in hM (by omega) 1 (by decide) (by simp)).mono ?_
            rintro e w5 ⟨rfl, hM5, hF5⟩
            have hB5 := hF5.below hB HO.out
            rw [show List.getD [(0 : Int), S, 0] (1 : Int).toNat 0 = S from rfl]
            clear hM hB hF5
            go_wp2_with fail
            refine (Load_in hM5 (by omega) 0 (by decide) (by simp)).mono ?_
            rintro e w6 ⟨rfl, hM6, hF6⟩
            have hB6 := hF6.below hB5 HO.out
            rw [show List.getD [(0 : Int), S, 0] (0 : Int).toNat 0 = 0 from rfl]
            clear hM5 hB5 hF6
            go_wp2_with fail
            refine (Load_in hM6 (by omega) 2 (by decide) (by simp)).mono ?_
            rintro e w7 ⟨rfl, hM7, hF7⟩
            have hB7 := hF7.below hB6 HO.out
            rw [show List.getD [(0 : Int), S, 0] (2 : Int).toNat 0 = 0 from rfl]
            clear hM6 hB6 hF7
            go_wp2_with (first | (go_at_call 21; refine (Wins_any hM7 (by omega)).mono ?_; rintro e w' ⟨rfl, rfl⟩) | (go_at_call 22; refine (awake3 _).mono ?_; rintro e w' ⟨rfl, hb⟩))
            go_ret
            exact ⟨rfl, below_step hb hB7⟩
          · skip
            go_wp2_with fail
            refine (Load_in hM (by omega) 1 (by decide) (by simp)).mono ?_
            rintro e w5 ⟨rfl, hM5, hF5⟩
            have hB5 := hF5.below hB HO.out
            rw [show List.getD [(0 : Int), S, 0] (1 : Int).toNat 0 = S from rfl]
            clear hM hB hF5
            go_wp2_with fail
            refine (Load_in hM5 (by omega) 0 (by decide) (by simp)).mono ?_
            rintro e w6 ⟨rfl, hM6, hF6⟩
            have hB6 := hF6.below hB5 HO.out
            rw [show List.getD [(0 : Int), S, 0] (0 : Int).toNat 0 = 0 from rfl]
            clear hM5 hB5 hF6
            go_wp2_with fail
            refine (Load_in hM6 (by omega) 2 (by decide) (by simp)).mono ?_
            rintro e w7 ⟨rfl, hM7, hF7⟩
            have hB7 := hF7.below hB6 HO.out
            rw [show List.getD [(0 : Int), S, 0] (2 : Int).toNat 0 = 0 from rfl]
            clear hM6 hB6 hF7
            go_wp2_with (first | (go_at_call 21; refine (Wins_any hM7 (by omega)).mono ?_; rintro e w' ⟨rfl, rfl⟩) | (go_at_call 22; refine (awake3 _).mono ?_; rintro e w' ⟨rfl, hb⟩))
            go_ret
            exact ⟨rfl, below_step hb hB7⟩

set_option maxRecDepth 100000 in
theorem lifted (os : Os) (started : os.Started) (H : Type) (enc : TypeId × Value → H) :
    ReturnsInHanded {} Try.checked os 4 .any (Rows.cellSumsSpec.pre6 enc Try.prog Try.f4 Rows.cellSumsRow.domain false) (Rows.cellSumsSpec.post enc Try.prog Try.f4 false true false false) := by
  refine returnsInHanded_of_change (C := Try.checked) own started (by kernel_rfl) Try.func4
    (ChangeSpec.witness6 (enc := enc) (C := Try.checked) false ⟨#[], #[.slice none 0 0, .int .i64 0], []⟩ 8 (by kernel_rfl) (by kernel_rfl) (by kernel_rfl) (by kernel_rfl)) ?_
  intro W base args ds gs before hval0 hW hcnd _
  have hval : ∀ (j : Nat) t v, Try.f4.params[j]? = some t → args[j]? = some v → Value.okWide Try.prog W .any base t v := hval0
  have hW' := hW
  obtain ⟨p, q, hA0, hV, rfl, hfz, hnd⟩ := hW
  have hA : DataW.TrodAll enc Try.prog W 0 (fun _ => true) true Try.f4.params.toList args.toList ds p := hA0
  rw [Try.params4] at hA hval
  obtain ⟨v0, vs0, d0, ds0, p0, q0, hargs, rfl, rfl, h0, r0⟩ := trodAll_cons hA
  obtain ⟨v1, vs1, d1, ds1, p1, q1, rfl, rfl, rfl, h1, r1⟩ := trodAll_cons r0
  obtain ⟨rfl, rfl, rfl⟩ := trodAll_nil r1
  obtain rfl : args = #[v0, v1] := by cases args; simp_all
  obtain ⟨rfl, rfl⟩ := trodVars_none hV
  obtain ⟨a0, len0, cap0, rfl⟩ := okWide_slice Try.underlying27 (hval 0 27 v0 rfl rfl)
  have k0 := h0
  have lt0 : ∀ x ∈ p0, x.block < W.heap.size := by obtain ⟨m, hm⟩ := k0; exact DataW.trod_lt m _ _ _ hm
  obtain ⟨z0, w0⟩ : ∃ zs, IsRow .u64 W a0 len0 cap0 zs := by
    obtain ⟨fuel, hf⟩ := h0
    rcases open_ints Try.underlying27 Try.underlying29 (by kernel_rfl) hf with ⟨hcs, _⟩ | ⟨x, l, c, zs, hcs, _, hl, hm, hz, _, hcell, hwz⟩
    · simp [Value.cells] at hcs
      obtain ⟨rfl, rfl, rfl⟩ := hcs
      exact ⟨[], .inl ⟨rfl, rfl, rfl, rfl⟩⟩
    · simp [Value.cells] at hcs
      obtain ⟨rfl, rfl, rfl⟩ := hcs
      exact ⟨zs, .inr ⟨_, rfl, hl, hm, by simpa using hz, hcell, hwz⟩⟩
  obtain ⟨a1, rfl, rfl, rfl, w1⟩ := open_int Try.underlying3 (hval 1 3 v1 rfl rfl) h1
  clear hA0 hval0
  refine (walk a0 len0 cap0 z0 a1 W w0 w1).mono fun e W' ⟨he, bel⟩ => ?_
  subst he
  exact ⟨_, rfl, _, _, _, [], _, [], hW', trodAll_mk1 (shut_bool Try.underlying4 _), (trodAll_cons_mk (Below.trod laidOut (by kernel_rfl) (of_decide_eq_true (by kernel_rfl)) k0 bel lt0) (trodAll_cons_mk (shut_int Try.underlying3 w1) trodAll_mk0)), rfl, bel.frame _, fun h => by cases h⟩

theorem over : Rows.cellSumsRow.holds Try.pinned (OpenSpec.ofChange Rows.cellSumsSpec) :=
  OpenClaim.holds_of_wide 4 Try.f4 rfl rfl rfl rfl rfl rfl rfl ⟨rfl, rfl, rfl, rfl, rfl⟩ rfl rfl rfl rfl rfl (by kernel_rfl) Try.func4 (by kernel_rfl)
    (of_decide_eq_true (by kernel_rfl)) (by unfold Func.isWrapper; first | (rw [if_pos (by decide +kernel)]; kernel_rfl) | (rw [if_neg (by decide +kernel)]; exact ⟨rfl, rfl⟩))
    (fun os started H enc _ => lifted os started H enc)

theorem proved : Rows.CellSumsSaid := over
#print axioms proved
end Go.Proofs.Ytpcbcnheogjofaa.cellSums
