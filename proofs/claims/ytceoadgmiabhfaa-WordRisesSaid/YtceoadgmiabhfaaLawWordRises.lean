/- Law WordRises proved: for any row of states and any first version the call returns true, under no condition.
   The frame below the walk was written by the kit's proof-skeleton.mjs. -/
import Derived.Test.YtceoadgmiabhfaaRows
import Derived.WalkKit
import Derived.ProofKit
import Derived.OpenShut
import Derived.ShutString
import Derived.ChangeOld
import Derived.Below
import Derived.Test.YtceoadgmiabhfaaWord
import Derived.Test.YtceoadgmiabhfaaWWords
import Derived.Lib.Hide
namespace Go.Proofs.Ytceoadgmiabhfaa.wordRises
open Go.ChangeShapes Go.WideShapes Go.ChangeAt Go.RowKit
open Go.ChangeMaps (open_string shut_string)
set_option linter.unusedVariables false

theorem own : ownKnob Try.prog.godebug = none := by kernel_rfl
theorem laidOut : laidOutB Try.prog = true := by kernel_rfl

def IsRow (k : IntKind) (w : World) (a : Option Addr) (len cap : Nat) (zs : List Int) : Prop :=
  (a = none ∧ len = 0 ∧ cap = 0 ∧ zs = []) ∨
  ∃ x, a = some x ∧ len ≤ cap ∧ cap ≤ maxLen ∧ zs.length = cap ∧ (∀ i, i < zs.length → w.cell? (x.add i) = some (.int k (zs.getD i 0))) ∧ ∀ n ∈ zs, (Lit.int k n).wf = true

open Go.Proofs.YtceoadgmiabhfaaW.PrintWords
/-- A word of a version. -/
def Wd (x v : Int) : Prop := 0 ≤ x ∧ x ≤ top ∧ x / 8 = v
/-- Words of lesser versions. -/
def Less (ws : List Int) (v : Int) : Prop := ∀ j, j < ws.length → ws.getD j 0 / 8 < v
theorem Wd.start (f : Int) (f0 : 0 ≤ f) (f1 : f < 1152921504606846976) : Wd (packI 0 f) (f + (0 : Nat)) := by
  unfold Wd packI top; omega
theorem Wd.next {x v s : Int} (h : Wd x v) (h0 : 0 ≤ v) (h1 : v < 1152921504606847976) (s0 : 0 ≤ s) (s7 : s ≤ 7) : Wd (nextI x s) (v + 1) ∧ nextI x s / 8 = v + 1 ∧ nextI x s % 8 = s := by
  unfold Wd nextI packI top at *; omega
theorem Less.ne {ws : List Int} {v x : Int} (h : Less ws v) (hx : Wd x v) (j : Nat) (hj : j < ws.length) : (ws.getD j 0 == x) = false := by
  rw [beq_eq_false_iff_ne]
  intro e
  have := h j hj
  have := hx.2.2
  rw [e] at *
  omega
theorem Less.snoc {ws : List Int} {v x : Int} (h : Less ws v) (hx : Wd x v) : Less (ws ++ [x]) (v + 1) := by
  intro j hj
  rw [List.getD_eq_getElem?_getD]
  rcases Nat.lt_or_ge j ws.length with h' | h'
  · rw [List.getElem?_append_left h', ← List.getD_eq_getElem?_getD]
    have := h j h'
    omega
  · have : j = ws.length := by simp at hj; omega
    subst this
    simp
    have := hx.2.2
    omega

theorem walk (a0 : Option Addr) (len0 cap0 : Nat) (z0 : List Int) (a1 : Int) (w : World) (w0 : IsRow .i64 w a0 len0 cap0 z0) (w1 : (Lit.int .u64 a1).wf = true) :
    Calls Try.prog 6 #[.slice a0 len0 cap0, .int .u64 a1] w fun e w' => e = .returned (.bool true) ∧ Below w.heap.size w w' := by
  obtain ⟨f, hf, f0, f1⟩ : ∃ p, bits .and .u64 a1 1152921504606846975 = p ∧ 0 ≤ p ∧ p < 1152921504606846976 := ⟨_, rfl, by rw [and_u64_60]; omega, by rw [and_u64_60]; omega⟩
  rcases row_cases w0 with rfl | ⟨b, off, rfl, hl, hm, hbw, hc, hwz⟩
  · go_enter Try.func6, Try.ntmps6
    go_wp2_with (first | (go_at_call 16; refine (pack_any _ _ _).mono ?_; rintro e w' ⟨rfl, rfl⟩))
    refine wp_loop_rounds 1 ?_
    rw [rounds_succ]
    go_wp2_with (first | (go_at_call 17; refine (awake1 _).mono ?_; rintro e w' ⟨rfl, hb⟩))
    go_ret
    exact ⟨rfl, by (repeat (first | exact Below.refl _ _ | refine below_dr ?_ | refine below_drN ?_ _ | refine below_al ?_ _ | refine below_step (by assumption) ?_))⟩
  · have H1 := Lib.hid f1
    clear f1 w1 w0
    go_enter Try.func6, Try.ntmps6
    go_wp2_with (first | (go_at_call 16; refine (pack_any _ _ _).mono ?_; rintro e w' ⟨rfl, rfl⟩))
    go_loopw [5, 6, 7] (fun v5 v6 v7 wr => ∃ (k : Nat) (W : Int) (ws : List Int), k ≤ 50 ∧ k ≤ len0 ∧ ws.length = k ∧ v7 = .int .i64 k ∧ v5 = .int .u64 W ∧ Wd W (f + k) ∧ Less ws (f + k) ∧ wr.ownsRow w.heap.size 22 1 v6 ws.length (nums .u64 ws) ∧ Below w.heap.size w wr) (fun _ _ v7 _ => 50 - (intOf v7).toNat)
    case atStart => exact ⟨0, _, [], by omega, by omega, rfl, rfl, rfl, Wd.start f f0 H1.out, fun j hj => by simp at hj, own_nil _ _ _ _, Below.refl _ _⟩
    case round =>
      obtain ⟨k, W, ws, hk, hkl, hwl, rfl, rfl, hW, hL, hown, hbel⟩ := hrel
      have hWd := hW
      obtain ⟨W0, W1, W2⟩ := hW
      have HW := Lib.hid hWd
      have HL := Lib.hid hL
      have HO := Lib.hid hown
      clear hWd hL W2
      by_cases hlt : k < 50 ∧ k < len0
      · obtain ⟨h50, hlen⟩ := hlt
        have hcell := hc k (by omega)
        obtain ⟨x, hx⟩ : ∃ x, x = z0.getD k 0 := ⟨_, rfl⟩
        rw [← hx] at hcell
        clear hx
        obtain ⟨s, hs, s0, s7⟩ : ∃ p, bits .and .i64 x 7 = p ∧ 0 ≤ p ∧ p ≤ 7 := ⟨_, rfl, by rw [and_i64_7]; omega, by rw [and_i64_7]; omega⟩
        clear hc hwz
        obtain ⟨A, c, rfl, hr⟩ := own_reads hown
        have hr2 : ∀ j, j < ws.length → ∃ g, A = some ⟨g, 0, none⟩ ∧ wr.cell? ⟨g, j, none⟩ = some (.int .u64 (ws.getD j 0)) := fun j hj => by
          obtain ⟨g, cap, e, _⟩ := hown.form (by omega)
          injection e with e1 e2 e3
          obtain ⟨ad, e', hc'⟩ := hr.2.2 (by omega)
          rw [e1] at e'
          injection e' with e'
          have := hc' j (by omega)
          rw [← e', Go.Proofs.YtceoadgmiabhfaaW.PrintWords.add_plain] at this
          exact ⟨g, e1, this⟩
        have HR := Lib.hid hr2
        have HK := Lib.hid hwl
        have hwm : ws.length ≤ 50 := by omega
        clear hown hr hr2 hwl
        go_wp2_with fail
        go_loop [8] (fun v8 => ∃ j : Nat, j ≤ ws.length ∧ v8 = .int .i64 j) (fun v8 => ws.length - (intOf v8).toNat)
        case atStart => exact ⟨0, by omega, rfl⟩
        case round =>
          obtain ⟨j, hj, rfl⟩ := hrel
          by_cases hjk : j < ws.length
          · obtain ⟨g, rfl, hcj⟩ := HR.out j hjk
            have hne := HL.out.ne HW.out j hjk
            generalize ws.getD j 0 = y at hcj hne
            go_wp2_with fail
            go_round
            case rel => exact ⟨j + 1, by omega, by go_num⟩
            case measure => simp [intOf]; omega
          · go_wp2_with (first | (at_builtin; refine print_append_num (P := Try.prog) (w0 := w) w.heap.size rfl (.tmp 35) (.tmp 37) 34 22 .u64 8 rfl Try.underlying34 (by kernel_rfl) (by decide) _ ws W rfl rfl HO.out hbel hbel.size (by omega) ?_; intro v1 w1 hown1 hB1 hg1 hat1; have hc1 := cell_keeps hB1 hbw hcell; have HO1 := Lib.hid hown1; clear hown1) | (go_at_call 24; refine (next_any _ _ (by assumption) (by assumption) _).mono ?_; rintro e w' ⟨rfl, rfl⟩))
            obtain ⟨n1, n2, n3⟩ := HW.out.next (by omega) (by have := H1.out; omega) s0 s7
            have e1 : (f + ↑k + 1 : Int) = nextI W s / 8 := n2.symm
            have q1 : IntKind.u64.wrap (k : Int) = k := by rw [IntKind.wrap_u64]; omega
            have q2 : IntKind.u64.wrap (f + k) = f + k := by rw [IntKind.wrap_u64]; have := H1.out; omega
            have q3 : IntKind.u64.wrap (f + k + 1) = nextI W s / 8 := by rw [IntKind.wrap_u64]; have := H1.out; omega
            have q4 : (nextI W s / 8 != nextI W s / 8) = false := by simp
            have q5 : (s != s) = false := by simp
            have q0 : 0 ≤ nextI W s := n1.1
            have HN := Lib.hid n1
            clear n1 n2 e1
            go_quiet ((first | (go_at_call 20; exact Calls.quiet_of_same (same_eq (version_any _ _))) | (go_at_call 19; exact Calls.quiet_of_same (same_eq (state_any _ _)))))
            all_goals go_wp2
            go_roundw
            case rel => exact ⟨k + 1, nextI W s, ws ++ [W], by omega, by omega, by rw [List.length_append, HK.out]; rfl, by go_num, rfl, by have := HN.out; rwa [Int.add_assoc] at this, by have := HL.out.snoc HW.out; rwa [Int.add_assoc] at this, HO1.out, below_drN hB1 _⟩
            case measure => simp [intOf]; omega
      · by_cases h50 : k < 50
        · have hlen : ¬ k < len0 := fun h => hlt ⟨h50, h⟩
          go_wp2_with (go_at_call 17; refine (awake1 _).mono ?_; rintro e w' ⟨rfl, hb⟩)
          go_ret
          exact ⟨rfl, hbel.trans (hb.mono hbel.size)⟩
        · by_cases hlen : k < len0
          · go_wp2_with (go_at_call 17; refine (awake1 _).mono ?_; rintro e w' ⟨rfl, hb⟩)
            go_ret
            exact ⟨rfl, hbel.trans (hb.mono hbel.size)⟩
          · go_wp2_with (go_at_call 17; refine (awake1 _).mono ?_; rintro e w' ⟨rfl, hb⟩)
            go_ret
            exact ⟨rfl, hbel.trans (hb.mono hbel.size)⟩

set_option maxRecDepth 100000 in
theorem lifted (os : Os) (started : os.Started) (H : Type) (enc : TypeId × Value → H) :
    ReturnsInHanded {} Try.checked os 6 .any (Rows.wordRisesSpec.pre6 enc Try.prog Try.f6 Rows.wordRisesRow.domain false) (Rows.wordRisesSpec.post enc Try.prog Try.f6 false true false false) := by
  refine returnsInHanded_of_change (C := Try.checked) own started (by kernel_rfl) Try.func6
    (ChangeSpec.witness6 (enc := enc) (C := Try.checked) false ⟨#[], #[.slice none 0 0, .int .u64 0], []⟩ 8 (by kernel_rfl) (by kernel_rfl) (by kernel_rfl) (by kernel_rfl)) ?_
  intro W base args ds gs before hval0 hW hcnd _
  have hval : ∀ (j : Nat) t v, Try.f6.params[j]? = some t → args[j]? = some v → Value.okWide Try.prog W .any base t v := hval0
  have hW' := hW
  obtain ⟨p, q, hA0, hV, rfl, hfz, hnd⟩ := hW
  have hA : DataW.TrodAll enc Try.prog W 0 (fun _ => true) true Try.f6.params.toList args.toList ds p := hA0
  rw [Try.params6] at hA hval
  obtain ⟨v0, vs0, d0, ds0, p0, q0, hargs, rfl, rfl, h0, r0⟩ := trodAll_cons hA
  obtain ⟨v1, vs1, d1, ds1, p1, q1, rfl, rfl, rfl, h1, r1⟩ := trodAll_cons r0
  obtain ⟨rfl, rfl, rfl⟩ := trodAll_nil r1
  obtain rfl : args = #[v0, v1] := by cases args; simp_all
  obtain ⟨rfl, rfl⟩ := trodVars_none hV
  obtain ⟨a0, len0, cap0, rfl⟩ := okWide_slice Try.underlying33 (hval 0 33 v0 rfl rfl)
  have k0 := h0
  have lt0 : ∀ x ∈ p0, x.block < W.heap.size := by obtain ⟨m, hm⟩ := k0; exact DataW.trod_lt m _ _ _ hm
  obtain ⟨z0, w0⟩ : ∃ zs, IsRow .i64 W a0 len0 cap0 zs := by
    obtain ⟨fuel, hf⟩ := h0
    rcases open_ints Try.underlying33 Try.underlying3 (by kernel_rfl) hf with ⟨hcs, _⟩ | ⟨x, l, c, zs, hcs, _, hl, hm, hz, _, hcell, hwz⟩
    · simp [Value.cells] at hcs
      obtain ⟨rfl, rfl, rfl⟩ := hcs
      exact ⟨[], .inl ⟨rfl, rfl, rfl, rfl⟩⟩
    · simp [Value.cells] at hcs
      obtain ⟨rfl, rfl, rfl⟩ := hcs
      exact ⟨zs, .inr ⟨_, rfl, hl, hm, by simpa using hz, hcell, hwz⟩⟩
  obtain ⟨a1, rfl, rfl, rfl, w1⟩ := open_int Try.underlying22 (hval 1 22 v1 rfl rfl) h1
  clear hA0 hval0
  refine (walk a0 len0 cap0 z0 a1 W w0 w1).mono fun e W' ⟨he, bel⟩ => ?_
  subst he
  exact ⟨_, rfl, _, _, _, [], _, [], hW', trodAll_mk1 (shut_bool Try.underlying4 _), (trodAll_cons_mk (Below.trod laidOut (by kernel_rfl) (of_decide_eq_true (by kernel_rfl)) k0 bel lt0) (trodAll_cons_mk (shut_int Try.underlying22 w1) trodAll_mk0)), rfl, bel.frame _, fun h => by cases h⟩

theorem over : Rows.wordRisesRow.holds Try.pinned (OpenSpec.ofChange Rows.wordRisesSpec) :=
  OpenClaim.holds_of_wide 6 Try.f6 rfl rfl rfl rfl rfl rfl rfl ⟨rfl, rfl, rfl, rfl, rfl⟩ rfl rfl rfl rfl rfl (by kernel_rfl) Try.func6 (by kernel_rfl)
    (of_decide_eq_true (by kernel_rfl)) (by unfold Func.isWrapper; first | (rw [if_pos (by decide +kernel)]; kernel_rfl) | (rw [if_neg (by decide +kernel)]; exact ⟨rfl, rfl⟩))
    (fun os started H enc _ => lifted os started H enc)

theorem proved : Rows.WordRisesSaid := over
#print axioms proved
end Go.Proofs.Ytceoadgmiabhfaa.wordRises
