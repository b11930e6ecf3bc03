/- Law WordLives proved: for any row of choices the call returns true, under no condition.
   The frame below the walk was written by the kit's proof-skeleton.mjs. -/
import Derived.Test.YtceoadgmiabhfaaRows
import Derived.WalkKit
import Derived.ProofKit
import Derived.OpenShut
import Derived.ShutString
import Derived.ChangeOld
import Derived.Below
import Derived.Test.YtceoadgmiabhfaaWord
import Derived.Test.YtceoadgmiabhfaaWWords
import Derived.Lib.Hide
namespace Go.Proofs.Ytceoadgmiabhfaa.wordLives
open Go.ChangeShapes Go.WideShapes Go.ChangeAt Go.RowKit
open Go.ChangeMaps (open_string shut_string)
set_option linter.unusedVariables false

theorem own : ownKnob Try.prog.godebug = none := by kernel_rfl
theorem laidOut : laidOutB Try.prog = true := by kernel_rfl

def IsRow (k : IntKind) (w : World) (a : Option Addr) (len cap : Nat) (zs : List Int) : Prop :=
  (a = none ∧ len = 0 ∧ cap = 0 ∧ zs = []) ∨
  ∃ x, a = some x ∧ len ≤ cap ∧ cap ≤ maxLen ∧ zs.length = cap ∧ (∀ i, i < zs.length → w.cell? (x.add i) = some (.int k (zs.getD i 0))) ∧ ∀ n ∈ zs, (Lit.int k n).wf = true

open Go.Proofs.YtceoadgmiabhfaaW.PrintWords
/-- The states that may come next, of the first j ones. -/
def nextL (s : Int) (j : Nat) : List Int := ((List.range j).map fun k : Nat => (k : Int)).filter fun k => canB s k
theorem nextL_succ (s : Int) (j : Nat) : nextL s (j + 1) = if canB s j then nextL s j ++ [(j : Int)] else nextL s j := by
  unfold nextL
  rw [List.range_succ, List.map_append, List.filter_append]
  cases h : canB s j <;> simp [h]
theorem nextL_len (s : Int) (j : Nat) : (nextL s j).length ≤ j := by
  unfold nextL
  refine Nat.le_trans (List.length_filter_le _ _) ?_
  simp
theorem nextL_in (s : Int) (j i : Nat) (h : i < (nextL s j).length) : canB s ((nextL s j).getD i 0) = true := by
  rw [List.getD_eq_getElem?_getD, List.getElem?_eq_getElem h]
  have := List.getElem_mem h
  unfold nextL at this
  rw [List.mem_filter] at this
  exact this.2
theorem nextL_over (s : Int) (h0 : 0 ≤ s) (h6 : s ≤ 6) : overB s = decide ((nextL s 7).length = 0) := by
  have hk : s = 0 ∨ s = 1 ∨ s = 2 ∨ s = 3 ∨ s = 4 ∨ s = 5 ∨ s = 6 := by omega
  rcases hk with rfl | rfl | rfl | rfl | rfl | rfl | rfl <;> decide
def level (s : Int) : Int := if s ≤ 3 then s else 4
theorem level_next (s y t a : Int) (h : canB s y = true) (h0 : 0 ≤ s) (hl : t ≤ level s + 3 * a) :
    (s = 3 ∧ y = 1 → t + 1 ≤ level y + 3 * (a + 1)) ∧ (¬ (s = 3 ∧ y = 1) → t + 1 ≤ level y + 3 * a) ∧ 0 ≤ y ∧ y ≤ 6 := by
  have hc := (can_cases s y).2 h
  unfold level at *
  split at hl <;> split <;> omega
theorem level_bd (s : Int) (h0 : 0 ≤ s) : 0 ≤ level s ∧ level s ≤ 4 := by unfold level; split <;> omega

theorem walk (a0 : Option Addr) (len0 cap0 : Nat) (z0 : List Int) (w : World) (w0 : IsRow .i64 w a0 len0 cap0 z0) :
    Calls Try.prog 8 #[.slice a0 len0 cap0] w fun e w' => e = .returned (.bool true) ∧ Below w.heap.size w w' := by
  rcases row_cases w0 with rfl | ⟨b, off, rfl, hl, hm, hbw, hc, hwz⟩
  · go_enter Try.func8, Try.ntmps8
    go_wp2_with fail
    refine wp_loop_rounds 1 ?_
    rw [rounds_succ]
    go_wp2_with (first | (go_at_call 17; refine (awake1 _).mono ?_; rintro e w' ⟨rfl, hb⟩))
    go_ret
    exact ⟨rfl, by (repeat (first | exact Below.refl _ _ | refine below_dr ?_ | refine below_drN ?_ _ | refine below_al ?_ _ | refine below_step (by assumption) ?_))⟩
  · clear w0
    go_enter Try.func8, Try.ntmps8
    go_wp2_with fail
    go_loopw [3, 4, 5, 6] (fun v3 v4 v5 v6 wr => ∃ (k : Nat) (s t a : Int), k ≤ 60 ∧ k ≤ len0 ∧ v6 = .int .i64 k ∧ v3 = .int .i64 s ∧ v4 = .int .i64 t ∧ v5 = .int .i64 a ∧ 0 ≤ s ∧ s ≤ 6 ∧ 0 ≤ t ∧ t ≤ k ∧ 0 ≤ a ∧ a ≤ k ∧ t ≤ level s + 3 * a ∧ Below w.heap.size w wr) (fun _ _ _ v6 _ => 60 - (intOf v6).toNat)
    case atStart => exact ⟨0, 0, 0, 0, by omega, by omega, rfl, rfl, rfl, rfl, by omega, by omega, by omega, by omega, by omega, by omega, by decide, Below.refl _ _⟩
    case round =>
      obtain ⟨k, s, t, a, hk, hkl, rfl, rfl, rfl, rfl, s0, s6, t0, t1, a0', a1, hlv, hbel⟩ := hrel
      have HL := Lib.hid hlv
      have lb := level_bd s s0
      clear hlv
      by_cases hlt : k < 60 ∧ k < len0
      · obtain ⟨h60, hlen⟩ := hlt
        have hcell := hc k (by omega)
        obtain ⟨x, hx⟩ : ∃ x, x = z0.getD k 0 := ⟨_, rfl⟩
        rw [← hx] at hcell
        clear hx
        have is : In64 s := by unfold In64; simp [Lit.wf, IntKind.min, IntKind.max, IntKind.signed, IntKind.bits]; omega
        have d60 : decide ((k : Int) < 60) = true := by simp; omega
        go_wp2_with fail
        clear d60
        go_loopw [7, 8] (fun v7 v8 wr' => ∃ j : Nat, j ≤ 7 ∧ v8 = .int .i64 j ∧ wr'.ownsRow w.heap.size 3 1 v7 (nextL s j).length (nums .i64 (nextL s j)) ∧ Below w.heap.size w wr') (fun _ v8 _ => 7 - (intOf v8).toNat)
        case atStart => exact ⟨0, by omega, rfl, own_nil _ _ _ _, hbel⟩
        case round =>
          obtain ⟨j, hj, rfl, hown, hbj⟩ := hrel
          by_cases hj7 : j < 7
          · have ij : In64 (j : Int) := by unfold In64; simp [Lit.wf, IntKind.min, IntKind.max, IntKind.signed, IntKind.bits]; omega
            have hlenj := nextL_len s j
            have hs := nextL_succ s j
            cases hcan : canB s j
            · rw [hcan] at hs
              have HS := Lib.hid hs
              have HO := Lib.hid hown
              clear hs hown
              go_wp2_with (go_at_call 28; refine (can_any _ _ (by assumption) (by assumption) _).mono ?_; rintro e w' ⟨rfl, hb⟩)
              go_roundw
              case rel => exact ⟨j + 1, by omega, by go_num, by rw [HS.out]; exact pw_own_below HO.out (by assumption), below_step (by assumption) hbj⟩
              case measure => simp [intOf]; omega
            · rw [hcan, if_pos rfl] at hs
              have HS := Lib.hid hs
              have HO := Lib.hid hown
              clear hs hown
              go_wp2_with (first | (go_at_call 28; refine (can_any _ _ (by assumption) (by assumption) _).mono ?_; rintro e w' ⟨rfl, hb⟩; have hw1 := below_step hb hbj; have hO2 := Lib.hid (pw_own_below HO.out hb)) | (at_builtin; refine print_append_num (P := Try.prog) (w0 := w) w.heap.size rfl (.tmp 27) (.tmp 29) 33 3 .i64 8 rfl Try.underlying33 (by kernel_rfl) (by decide) _ (nextL s j) j rfl rfl hO2.out hw1 hw1.size (by omega) ?_; intro v1 w1 hown1 hB1 hg1 hat1; have HO1 := Lib.hid hown1; clear hown1))
              go_roundw
              case rel => exact ⟨j + 1, by omega, by go_num, by rw [HS.out]; exact HO1.out, hB1⟩
              case measure => simp [intOf]; omega
          · obtain rfl : j = 7 := by omega
            obtain ⟨A, c, rfl, hr⟩ := own_reads hown
            have hover := nextL_over s s0 s6
            have hin := nextL_in s 7
            have hl7 := nextL_len s 7
            generalize hns : nextL s 7 = ns at hown hr hover hin hl7
            by_cases h0 : ns.length = 0
            · have ho : overB s = true := by rw [hover]; simpa using h0
              have hn0 : ((ns.length : Int) == 0) = true := by simpa using h0
              clear hover h0 hin
              have h4 : t ≤ 4 + 3 * a := by have := HL.out; omega
              go_wp2_with (first | (go_at_call 29; refine (over_any _ _).mono ?_; rintro e w' ⟨rfl, rfl⟩) | (go_at_call 17; refine (awake1 _).mono ?_; rintro e w' ⟨rfl, hb⟩))
              go_ret
              exact ⟨rfl, below_step hb hbj⟩
            · have hlp : 0 < ns.length := by omega
              have ho : overB s = false := by rw [hover]; simpa using h0
              have hn0 : ((ns.length : Int) == 0) = false := by simpa using h0
              have hn7 : ns.length ≤ 7 := hl7
              obtain ⟨g, cap, e, _⟩ := hown.form hlp
              injection e with e1 e2 e3
              subst e1
              obtain ⟨v, hv, v0, v255⟩ : ∃ p, bits .and .i64 x 255 = p ∧ 0 ≤ p ∧ p ≤ 255 := ⟨_, rfl, by rw [and_i64_255]; omega, by rw [and_i64_255]; omega⟩
              have i0 : 0 ≤ v % (ns.length : Int) := Int.emod_nonneg _ (by omega)
              have i1 : v % (ns.length : Int) < ns.length := Int.emod_lt_of_pos _ (by omega)
              obtain ⟨hc1, _⟩ := own_at hown (v % (ns.length : Int)) i0 i1
              have hy := hin (v % (ns.length : Int)).toNat (by omega)
              have hyy : rd ns (v % (ns.length : Int)) = ns.getD (v % (ns.length : Int)).toNat 0 := rfl
              rw [← hyy] at hy
              generalize rd ns (v % (ns.length : Int)) = y at hc1 hy hyy
              obtain ⟨l1, l2, y0, y6⟩ := level_next s y t a hy s0 HL.out
              have hcell2 := cell_keeps hbj hbw hcell
              have HNS := Lib.hid hns
              have L1 := Lib.hid l1
              have L2 := Lib.hid l2
              clear hy hyy hover h0 hin hown hr hcell hns HL l1 l2
              go_wp2_with (go_at_call 29; refine (over_any _ _).mono ?_; rintro e w' ⟨rfl, rfl⟩)
              · have hs3 : s = 3 := by assumption
                have hy1 : y = 1 := by have : (y == 1) = true := by assumption
                                       simpa using this
                have L3 := Lib.hid (L1.out ⟨hs3, hy1⟩)
                clear L1 L2
                go_roundw
                case rel => exact ⟨k + 1, y, t + 1, a + 1, by omega, by omega, by go_num, rfl, rfl, rfl, y0, y6, by omega, by omega, by omega, by omega, L3.out, hbj⟩
                case measure => simp [intOf]; omega
              · have hy1 : ¬ y = 1 := by have : (y == 1) = false := by assumption
                                         simpa using this
                have L3 := Lib.hid (L2.out (fun h => hy1 h.2))
                clear L1 L2 hy1
                go_roundw
                case rel => exact ⟨k + 1, y, t + 1, a, by omega, by omega, by go_num, rfl, rfl, rfl, y0, y6, by omega, by omega, by omega, by omega, L3.out, hbj⟩
                case measure => simp [intOf]; omega
              · have hs3 : ¬ s = 3 := by assumption
                have L3 := Lib.hid (L2.out (fun h => hs3 h.1))
                clear L1 L2
                go_roundw
                case rel => exact ⟨k + 1, y, t + 1, a, by omega, by omega, by go_num, rfl, rfl, rfl, y0, y6, by omega, by omega, by omega, by omega, L3.out, hbj⟩
                case measure => simp [intOf]; omega
      · have h4 : t ≤ 4 + 3 * a := by have := HL.out; omega
        by_cases h60 : k < 60
        · have hlen : ¬ k < len0 := fun h => hlt ⟨h60, h⟩
          go_wp2_with (go_at_call 17; refine (awake1 _).mono ?_; rintro e w' ⟨rfl, hb⟩)
          go_ret
          exact ⟨rfl, below_step hb hbel⟩
        · by_cases hlen : k < len0
          · go_wp2_with (go_at_call 17; refine (awake1 _).mono ?_; rintro e w' ⟨rfl, hb⟩)
            go_ret
            exact ⟨rfl, below_step hb hbel⟩
          · go_wp2_with (go_at_call 17; refine (awake1 _).mono ?_; rintro e w' ⟨rfl, hb⟩)
            go_ret
            exact ⟨rfl, below_step hb hbel⟩

set_option maxRecDepth 100000 in
theorem lifted (os : Os) (started : os.Started) (H : Type) (enc : TypeId × Value → H) :
    ReturnsInHanded {} Try.checked os 8 .any (Rows.wordLivesSpec.pre6 enc Try.prog Try.f8 Rows.wordLivesRow.domain false) (Rows.wordLivesSpec.post enc Try.prog Try.f8 false true false false) := by
  refine returnsInHanded_of_change (C := Try.checked) own started (by kernel_rfl) Try.func8
    (ChangeSpec.witness6 (enc := enc) (C := Try.checked) false ⟨#[], #[.slice none 0 0], []⟩ 8 (by kernel_rfl) (by kernel_rfl) (by kernel_rfl) (by kernel_rfl)) ?_
  intro W base args ds gs before hval0 hW hcnd _
  have hval : ∀ (j : Nat) t v, Try.f8.params[j]? = some t → args[j]? = some v → Value.okWide Try.prog W .any base t v := hval0
  have hW' := hW
  obtain ⟨p, q, hA0, hV, rfl, hfz, hnd⟩ := hW
  have hA : DataW.TrodAll enc Try.prog W 0 (fun _ => true) true Try.f8.params.toList args.toList ds p := hA0
  rw [Try.params8] at hA hval
  obtain ⟨v0, vs0, d0, ds0, p0, q0, hargs, rfl, rfl, h0, r0⟩ := trodAll_cons hA
  obtain ⟨rfl, rfl, rfl⟩ := trodAll_nil r0
  obtain rfl : args = #[v0] := by cases args; simp_all
  obtain ⟨rfl, rfl⟩ := trodVars_none hV
  obtain ⟨a0, len0, cap0, rfl⟩ := okWide_slice Try.underlying33 (hval 0 33 v0 rfl rfl)
  have k0 := h0
  have lt0 : ∀ x ∈ p0, x.block < W.heap.size := by obtain ⟨m, hm⟩ := k0; exact DataW.trod_lt m _ _ _ hm
  obtain ⟨z0, w0⟩ : ∃ zs, IsRow .i64 W a0 len0 cap0 zs := by
    obtain ⟨fuel, hf⟩ := h0
    rcases open_ints Try.underlying33 Try.underlying3 (by kernel_rfl) hf with ⟨hcs, _⟩ | ⟨x, l, c, zs, hcs, _, hl, hm, hz, _, hcell, hwz⟩
    · simp [Value.cells] at hcs
      obtain ⟨rfl, rfl, rfl⟩ := hcs
      exact ⟨[], .inl ⟨rfl, rfl, rfl, rfl⟩⟩
    · simp [Value.cells] at hcs
      obtain ⟨rfl, rfl, rfl⟩ := hcs
      exact ⟨zs, .inr ⟨_, rfl, hl, hm, by simpa using hz, hcell, hwz⟩⟩
  clear hA0 hval0
  refine (walk a0 len0 cap0 z0 W w0).mono fun e W' ⟨he, bel⟩ => ?_
  subst he
  exact ⟨_, rfl, _, _, _, [], _, [], hW', trodAll_mk1 (shut_bool Try.underlying4 _), (trodAll_cons_mk (Below.trod laidOut (by kernel_rfl) (of_decide_eq_true (by kernel_rfl)) k0 bel lt0) trodAll_mk0), rfl, bel.frame _, fun h => by cases h⟩

theorem over : Rows.wordLivesRow.holds Try.pinned (OpenSpec.ofChange Rows.wordLivesSpec) :=
  OpenClaim.holds_of_wide 8 Try.f8 rfl rfl rfl rfl rfl rfl rfl ⟨rfl, rfl, rfl, rfl, rfl⟩ rfl rfl rfl rfl rfl (by kernel_rfl) Try.func8 (by kernel_rfl)
    (of_decide_eq_true (by kernel_rfl)) (by unfold Func.isWrapper; first | (rw [if_pos (by decide +kernel)]; kernel_rfl) | (rw [if_neg (by decide +kernel)]; exact ⟨rfl, rfl⟩))
    (fun os started H enc _ => lifted os started H enc)

theorem proved : Rows.WordLivesSaid := over
#print axioms proved
end Go.Proofs.Ytceoadgmiabhfaa.wordLives
