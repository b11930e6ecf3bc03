/- Law CellApart proved: for any accesses and any number the call returns true, under no condition.
   The frame below the walk was written by the kit's proof-skeleton.mjs. -/
import Derived.Test.YtpcbcnheogjofaaRows
import Derived.WalkKit
import Derived.ProofKit
import Derived.OpenShut
import Derived.ShutString
import Derived.ChangeOld
import Derived.Below
import Derived.Lib.SmallJoins
import Derived.Test.YtpcbcnheogjofaaCellAwake
import Derived.Test.YtpcbcnheogjofaaRowAt
import Derived.Test.YtpcbcnheogjofaaOpen
import Derived.Deep.RegionHeld3
namespace Go.Proofs.Ytpcbcnheogjofaa.cellApart
open Go.ChangeShapes Go.WideShapes Go.ChangeAt Go.RowKit
open Go.ChangeMaps (open_string shut_string)
set_option linter.unusedVariables false

theorem own : ownKnob Try.prog.godebug = none := by kernel_rfl
theorem laidOut : laidOutB Try.prog = true := by kernel_rfl

def kd0 : Nat → IntKind := fun j => match j with | 0 => .i64 | 1 => .i64 | 2 => .u64 | 3 => .u64 | _ => .i64

theorem keepA {S : Nat → Prop} {X w' : World} {b i j : Nat} {u v : Value} (f : Fr S X.drew w') (h1 : X.cell? ⟨b, i, none⟩ = some u) (h2 : X.cell? ⟨b, j, none⟩ = some v) (hn : ¬ S b) : w'.cell? ⟨b, i, none⟩ = some u ∧ w'.cell? ⟨b, j, none⟩ = some v := by
  have go : ∀ (i : Nat) (u : Value), X.cell? ⟨b, i, none⟩ = some u → w'.cell? ⟨b, i, none⟩ = some u := by
    intro i u h
    have hb := World.block_lt_of_cell? X _ h
    have hk : w'.heap[b]? = X.heap[b]? := f.block b hb hn
    simp only [World.cell?, hk] at h ⊢
    exact h
  exact ⟨go i u h1, go j v h2⟩
set_option maxRecDepth 100000 in
set_option maxHeartbeats 4000000 in

theorem walk (a0 : Option Addr) (len0 cap0 : Nat) (a1 : Int) (w : World) (w0 : IsOps 4 kd0 w a0 len0) (w1 : (Lit.int .u64 a1).wf = true) :
    Calls Try.prog 5 #[.slice a0 len0 cap0, .int .u64 a1] w fun e w' => e = .returned (.bool true) ∧ Below w.heap.size w w' := by
  have HO := Lib.hid (own2_ge w.heap.size)
  clear w1
  rcases w0 with hl0 | ⟨b, off, F, rfl, hlm, hbw, hc⟩
  · subst hl0
    go_enter Try.func5, Try.ntmps5
    go_wp2_with fail
    refine (New_in 4 (by decide) (by decide) _).mono ?_
    rintro e w1 ⟨rfl, hM0, hB0⟩
    rw [show List.replicate (4 : Int).toNat (0 : Int) = [0, 0, 0, 0] from rfl] at hM0
    go_wp2_with fail
    refine (Store_in hM0 (by decide) 3 (by decide) (by simp) _).mono ?_
    rintro e w2 ⟨rfl, hM, hF⟩
    have hB := hF.below hB0 HO.out
    rw [show List.set [(0 : Int), 0, 0, 0] (3 : Int).toNat a1 = [0, 0, 0, a1] from rfl] at hM
    clear hM0 hB0 hF
    go_wp2_with fail
    refine wp_loop_rounds 1 ?_
    rw [rounds_succ]
    obtain ⟨S, hS⟩ : ∃ S : Int, S = 0 := ⟨0, rfl⟩
    have hM : MemAt w2 (w.heap.size + 1) w.heap.size [0, S, 0, a1] (0 + 1) 0 3 2 := by rw [hS]; exact hM
    clear hS
    go_wp2_with fail
    refine (Steps_any hM (by omega)).mono ?_
    rintro e w1 ⟨rfl, rfl⟩
    go_wp2_with fail
    refine (Store_out hM _ (Or.inl (by decide)) _).mono ?_
    rintro e w1 ⟨rfl, rfl⟩
    go_wp2_with fail
    refine (Store_out hM _ (Or.inr (by simp)) _).mono ?_
    rintro e w1 ⟨rfl, rfl⟩
    go_wp2_with fail
    refine (Load_out hM _ (Or.inr (by simp))).mono ?_
    rintro e w1 ⟨rfl, rfl⟩
    go_wp2_with fail
    refine (CAS_out hM _ (Or.inr (by simp)) _ _).mono ?_
    rintro e w1 ⟨rfl, rfl⟩
    go_wp2_with fail
    refine (Add_out hM _ (Or.inl (by decide)) _).mono ?_
    rintro e w1 ⟨rfl, rfl⟩
    go_wp2_with fail
    refine (Steps_any hM (by omega)).mono ?_
    rintro e w1 ⟨rfl, rfl⟩
    go_wp2_with fail
    refine (Load_in hM (by omega) 3 (by decide) (by simp)).mono ?_
    rintro e w5 ⟨rfl, hM5, hF5⟩
    have hB5 := hF5.below hB HO.out
    rw [show List.getD [(0 : Int), S, 0, a1] (3 : Int).toNat 0 = a1 from rfl]
    clear hM hB hF5
    go_wp2_with fail
    refine (Load_in hM5 (by omega) 0 (by decide) (by simp)).mono ?_
    rintro e w6 ⟨rfl, hM6, hF6⟩
    have hB6 := hF6.below hB5 HO.out
    rw [show List.getD [(0 : Int), S, 0, a1] (0 : Int).toNat 0 = 0 from rfl]
    clear hM5 hB5 hF6
    go_wp2_with fail
    refine (Load_in hM6 (by omega) 2 (by decide) (by simp)).mono ?_
    rintro e w7 ⟨rfl, hM7, hF7⟩
    have hB7 := hF7.below hB6 HO.out
    rw [show List.getD [(0 : Int), S, 0, a1] (2 : Int).toNat 0 = 0 from rfl]
    clear hM6 hB6 hF7
    go_wp2_with fail
    refine (awake3 _).mono ?_
    rintro e w8 ⟨rfl, hb⟩
    go_wp2_with fail
    go_ret
    exact ⟨rfl, below_step hb hB7⟩
  · skip
    go_enter Try.func5, Try.ntmps5
    go_wp2_with fail
    refine (New_in 4 (by decide) (by decide) _).mono ?_
    rintro e w1 ⟨rfl, hM0, hB0⟩
    rw [show List.replicate (4 : Int).toNat (0 : Int) = [0, 0, 0, 0] from rfl] at hM0
    go_wp2_with fail
    refine (Store_in hM0 (by decide) 3 (by decide) (by simp) _).mono ?_
    rintro e w2 ⟨rfl, hM, hF⟩
    have hB := hF.below hB0 HO.out
    rw [show List.set [(0 : Int), 0, 0, 0] (3 : Int).toNat a1 = [0, 0, 0, a1] from rfl] at hM
    clear hM0 hB0 hF
    go_wp2_with fail
    go_loopw [7] (fun v7 wr => ∃ (k : Nat) (S st wi at_ kd : Int), k ≤ 50 ∧ k ≤ len0 ∧ v7 = .int .i64 k ∧ st ≤ 10 + k ∧ wi ≤ 10 + k ∧ MemAt wr (w.heap.size + 1) w.heap.size [0, S, 0, a1] st wi at_ kd ∧ Below w.heap.size w wr) (fun v7 _ => 50 - (intOf v7).toNat)
    case atStart => exact ⟨0, 0, _, _, _, _, by omega, by omega, rfl, by decide, by decide, hM, hB⟩
    case round =>
      obtain ⟨k, S, st, wi, at_, kd, hk, hkl, rfl, hst, hwi, hM, hB⟩ := hrel
      by_cases hlt : k < len0 ∧ k < 50
      · obtain ⟨hlen, h50⟩ := hlt
        have hc0 := cell_keeps hB hbw (hc k 0 hlen (by decide)).1
        have hc2 := cell_keeps hB hbw (hc k 2 hlen (by decide)).1
        have hc3 := cell_keeps hB hbw (hc k 3 hlen (by decide)).1
        simp only [kd0, ← Nat.add_assoc, Nat.add_zero] at hc0 hc2 hc3
        generalize F k 0 = kind at hc0
        generalize F k 2 = A at hc2
        generalize F k 3 = B at hc3
        by_cases h2 : kind = 2
        · subst h2
          go_wp2_with fail
          refine (Store_in hM (by omega) 1 (by decide) (by simp) _).mono ?_
          rintro e w3 ⟨rfl, hM3, hF3⟩
          have hB3 := hF3.below hB HO.out
          clear hM hB hF3
          go_wp2_with fail
          go_roundw
          case rel => exact ⟨k + 1, A, _, _, _, _, by omega, by omega, by go_num, by omega, by omega, hM3, hB3⟩
          case measure => simp [intOf]; omega
        · have e2 : (kind == 2) = false := by simpa using h2
          by_cases h3 : kind = 3
          · subst h3
            have HB := Lib.hid (show ¬ own2 (w.heap.size + 1) w.heap.size b from fun h => h.elim (fun h => by omega) (fun h => by omega))
            by_cases hit : S = A
            · have e1 : (List.getD [(0 : Int), S, 0, a1] (1 : Int).toNat 0 != A) = false := by simpa using hit
              clear hit
              go_wp2_with fail
              have hMd := hM.dr
              go_region_held3 (fun w' => w'.cell? ⟨b, off + k * 4 + 2, none⟩ = some (.int .u64 A) ∧ w'.cell? ⟨b, off + k * 4 + 3, none⟩ = some (.int .u64 B)) ((first | exact ⟨hc2, hc3⟩ | exact keepA hF3 hc2 hc3 HB.out)) (first | (go_at_call 20; refine (CAS_hit hMd (by omega) 1 (by decide) (by simp) _ _ e1).mono ?_; rintro e w3 ⟨rfl, hM3, hF3⟩))
              have hB3 := hF3.below (below_dr hB) HO.out
              clear hM hMd hB hF3
              go_wp2_with fail
              go_roundw
              case rel => exact ⟨k + 1, B, _, _, _, _, by omega, by omega, by go_num, by omega, by omega, hM3, hB3⟩
              case measure => simp [intOf]; omega
            · have e1 : (List.getD [(0 : Int), S, 0, a1] (1 : Int).toNat 0 != A) = true := by simpa using hit
              clear hit
              go_wp2_with fail
              have hMd := hM.dr
              go_region_held3 (fun w' => w'.cell? ⟨b, off + k * 4 + 2, none⟩ = some (.int .u64 A) ∧ w'.cell? ⟨b, off + k * 4 + 3, none⟩ = some (.int .u64 B)) ((first | exact ⟨hc2, hc3⟩ | exact keepA hF3 hc2 hc3 HB.out)) (first | (go_at_call 20; refine (CAS_miss hMd (by omega) 1 (by decide) (by simp) _ _ e1).mono ?_; rintro e w3 ⟨rfl, hM3, hF3⟩))
              have hB3 := hF3.below (below_dr hB) HO.out
              clear hM hMd hB hF3
              go_wp2_with fail
              go_roundw
              case rel => exact ⟨k + 1, S, _, _, _, _, by omega, by omega, by go_num, by omega, by omega, hM3, hB3⟩
              case measure => simp [intOf]; omega
          · have e3 : (kind == 3) = false := by simpa using h3
            go_wp2_with fail
            refine (Add_in hM (by omega) 1 (by decide) (by simp) _).mono ?_
            rintro e w3 ⟨rfl, hM3, hF3⟩
            have hB3 := hF3.below hB HO.out
            clear hM hB hF3
            go_wp2_with fail
            go_roundw
            case rel => exact ⟨k + 1, _, _, _, _, _, by omega, by omega, by go_num, by omega, by omega, hM3, hB3⟩
            case measure => simp [intOf]; omega
      · by_cases hlen : k < len0
        · have h50 : ¬ k < 50 := fun h => hlt ⟨hlen, h⟩
          go_wp2_with fail
          refine (Steps_any hM (by omega)).mono ?_
          rintro e w1 ⟨rfl, rfl⟩
          go_wp2_with fail
          refine (Store_out hM _ (Or.inl (by decide)) _).mono ?_
          rintro e w1 ⟨rfl, rfl⟩
          go_wp2_with fail
          refine (Store_out hM _ (Or.inr (by simp)) _).mono ?_
          rintro e w1 ⟨rfl, rfl⟩
          go_wp2_with fail
          refine (Load_out hM _ (Or.inr (by simp))).mono ?_
          rintro e w1 ⟨rfl, rfl⟩
          go_wp2_with fail
          refine (CAS_out hM _ (Or.inr (by simp)) _ _).mono ?_
          rintro e w1 ⟨rfl, rfl⟩
          go_wp2_with fail
          refine (Add_out hM _ (Or.inl (by decide)) _).mono ?_
          rintro e w1 ⟨rfl, rfl⟩
          go_wp2_with fail
          refine (Steps_any hM (by omega)).mono ?_
          rintro e w1 ⟨rfl, rfl⟩
          go_wp2_with fail
          refine (Load_in hM (by omega) 3 (by decide) (by simp)).mono ?_
          rintro e w5 ⟨rfl, hM5, hF5⟩
          have hB5 := hF5.below hB HO.out
          rw [show List.getD [(0 : Int), S, 0, a1] (3 : Int).toNat 0 = a1 from rfl]
          clear hM hB hF5
          go_wp2_with fail
          refine (Load_in hM5 (by omega) 0 (by decide) (by simp)).mono ?_
          rintro e w6 ⟨rfl, hM6, hF6⟩
          have hB6 := hF6.below hB5 HO.out
          rw [show List.getD [(0 : Int), S, 0, a1] (0 : Int).toNat 0 = 0 from rfl]
          clear hM5 hB5 hF6
          go_wp2_with fail
          refine (Load_in hM6 (by omega) 2 (by decide) (by simp)).mono ?_
          rintro e w7 ⟨rfl, hM7, hF7⟩
          have hB7 := hF7.below hB6 HO.out
          rw [show List.getD [(0 : Int), S, 0, a1] (2 : Int).toNat 0 = 0 from rfl]
          clear hM6 hB6 hF7
          go_wp2_with fail
          refine (awake3 _).mono ?_
          rintro e w8 ⟨rfl, hb⟩
          go_wp2_with fail
          go_ret
          exact ⟨rfl, below_step hb hB7⟩
        · skip
          go_wp2_with fail
          refine (Steps_any hM (by omega)).mono ?_
          rintro e w1 ⟨rfl, rfl⟩
          go_wp2_with fail
          refine (Store_out hM _ (Or.inl (by decide)) _).mono ?_
          rintro e w1 ⟨rfl, rfl⟩
          go_wp2_with fail
          refine (Store_out hM _ (Or.inr (by simp)) _).mono ?_
          rintro e w1 ⟨rfl, rfl⟩
          go_wp2_with fail
          refine (Load_out hM _ (Or.inr (by simp))).mono ?_
          rintro e w1 ⟨rfl, rfl⟩
          go_wp2_with fail
          refine (CAS_out hM _ (Or.inr (by simp)) _ _).mono ?_
          rintro e w1 ⟨rfl, rfl⟩
          go_wp2_with fail
          refine (Add_out hM _ (Or.inl (by decide)) _).mono ?_
          rintro e w1 ⟨rfl, rfl⟩
          go_wp2_with fail
          refine (Steps_any hM (by omega)).mono ?_
          rintro e w1 ⟨rfl, rfl⟩
          go_wp2_with fail
          refine (Load_in hM (by omega) 3 (by decide) (by simp)).mono ?_
          rintro e w5 ⟨rfl, hM5, hF5⟩
          have hB5 := hF5.below hB HO.out
          rw [show List.getD [(0 : Int), S, 0, a1] (3 : Int).toNat 0 = a1 from rfl]
          clear hM hB hF5
          go_wp2_with fail
          refine (Load_in hM5 (by omega) 0 (by decide) (by simp)).mono ?_
          rintro e w6 ⟨rfl, hM6, hF6⟩
          have hB6 := hF6.below hB5 HO.out
          rw [show List.getD [(0 : Int), S, 0, a1] (0 : Int).toNat 0 = 0 from rfl]
          clear hM5 hB5 hF6
          go_wp2_with fail
          refine (Load_in hM6 (by omega) 2 (by decide) (by simp)).mono ?_
          rintro e w7 ⟨rfl, hM7, hF7⟩
          have hB7 := hF7.below hB6 HO.out
          rw [show List.getD [(0 : Int), S, 0, a1] (2 : Int).toNat 0 = 0 from rfl]
          clear hM6 hB6 hF7
          go_wp2_with fail
          refine (awake3 _).mono ?_
          rintro e w8 ⟨rfl, hb⟩
          go_wp2_with fail
          go_ret
          exact ⟨rfl, below_step hb hB7⟩

set_option maxRecDepth 100000 in
theorem lifted (os : Os) (started : os.Started) (H : Type) (enc : TypeId × Value → H) :
    ReturnsInHanded {} Try.checked os 5 .any (Rows.cellApartSpec.pre6 enc Try.prog Try.f5 Rows.cellApartRow.domain false) (Rows.cellApartSpec.post enc Try.prog Try.f5 false true false false) := by
  refine returnsInHanded_of_change (C := Try.checked) own started (by kernel_rfl) Try.func5
    (ChangeSpec.witness6 (enc := enc) (C := Try.checked) false ⟨#[], #[.slice none 0 0, .int .u64 0], []⟩ 8 (by kernel_rfl) (by kernel_rfl) (by kernel_rfl) (by kernel_rfl)) ?_
  intro W base args ds gs before hval0 hW hcnd _
  have hval : ∀ (j : Nat) t v, Try.f5.params[j]? = some t → args[j]? = some v → Value.okWide Try.prog W .any base t v := hval0
  have hW' := hW
  obtain ⟨p, q, hA0, hV, rfl, hfz, hnd⟩ := hW
  have hA : DataW.TrodAll enc Try.prog W 0 (fun _ => true) true Try.f5.params.toList args.toList ds p := hA0
  rw [Try.params5] at hA hval
  obtain ⟨v0, vs0, d0, ds0, p0, q0, hargs, rfl, rfl, h0, r0⟩ := trodAll_cons hA
  obtain ⟨v1, vs1, d1, ds1, p1, q1, rfl, rfl, rfl, h1, r1⟩ := trodAll_cons r0
  obtain ⟨rfl, rfl, rfl⟩ := trodAll_nil r1
  obtain rfl : args = #[v0, v1] := by cases args; simp_all
  obtain ⟨rfl, rfl⟩ := trodVars_none hV
  obtain ⟨a0, len0, cap0, rfl⟩ := okWide_slice Try.underlying37 (hval 0 37 v0 rfl rfl)
  have k0 := h0
  have lt0 : ∀ x ∈ p0, x.block < W.heap.size := by obtain ⟨m, hm⟩ := k0; exact DataW.trod_lt m _ _ _ hm
  have w0 : IsOps 4 kd0 W a0 len0 := by
    obtain ⟨fuel, hf⟩ := h0
    refine isOps_of kd0 Try.underlying37 Try.underlying40 (by kernel_rfl) (by kernel_rfl) (by decide) ?_ hf
    intro j f hj
    match j, hj with
    | 0, hj => simp at hj; subst hj; exact Try.underlying3
    | 1, hj => simp at hj; subst hj; exact Try.underlying3
    | 2, hj => simp at hj; subst hj; exact Try.underlying29
    | 3, hj => simp at hj; subst hj; exact Try.underlying29
    | n + 4, hj => simp at hj
  obtain ⟨a1, rfl, rfl, rfl, w1⟩ := open_int Try.underlying29 (hval 1 29 v1 rfl rfl) h1
  clear hA0 hval0
  refine (walk a0 len0 cap0 a1 W w0 w1).mono fun e W' ⟨he, bel⟩ => ?_
  subst he
  exact ⟨_, rfl, _, _, _, [], _, [], hW', trodAll_mk1 (shut_bool Try.underlying4 _), (trodAll_cons_mk (Below.trod laidOut (by kernel_rfl) (of_decide_eq_true (by kernel_rfl)) k0 bel lt0) (trodAll_cons_mk (shut_int Try.underlying29 w1) trodAll_mk0)), rfl, bel.frame _, fun h => by cases h⟩

theorem over : Rows.cellApartRow.holds Try.pinned (OpenSpec.ofChange Rows.cellApartSpec) :=
  OpenClaim.holds_of_wide 5 Try.f5 rfl rfl rfl rfl rfl rfl rfl ⟨rfl, rfl, rfl, rfl, rfl⟩ rfl rfl rfl rfl rfl (by kernel_rfl) Try.func5 (by kernel_rfl)
    (of_decide_eq_true (by kernel_rfl)) (by unfold Func.isWrapper; first | (rw [if_pos (by decide +kernel)]; kernel_rfl) | (rw [if_neg (by decide +kernel)]; exact ⟨rfl, rfl⟩))
    (fun os started H enc _ => lifted os started H enc)

theorem proved : Rows.CellApartSaid := over
#print axioms proved
end Go.Proofs.Ytpcbcnheogjofaa.cellApart
