/- Law CreditPlays proved: for any number and any script the call returns true, under no condition.
   The frame below the walk was written by the kit's proof-skeleton.mjs. -/
import Derived.Test.YtpcbcnheogjofaaRows
import Derived.WalkKit
import Derived.ProofKit
import Derived.OpenShut
import Derived.ShutString
import Derived.ChangeOld
import Derived.Below
import Derived.Lib.SmallJoins
import Derived.Test.YtpcbcnheogjofaaCreditRef
import Derived.Test.YtpcbcnheogjofaaOpen
namespace Go.Proofs.Ytpcbcnheogjofaa.creditPlays
open Go.ChangeShapes Go.WideShapes Go.ChangeAt Go.RowKit
open Go.ChangeMaps (open_string shut_string)
set_option linter.unusedVariables false

theorem own : ownKnob Try.prog.godebug = none := by kernel_rfl
theorem laidOut : laidOutB Try.prog = true := by kernel_rfl


theorem keepRC {S : Nat → Prop} {w X w' : World} {r : Nat} {n o m : Int} (f : Fr S X w') (hn : ¬ S r) (ho : ∀ k, S k → w.heap.size ≤ k) (h : X.cell? ⟨r, 1, none⟩ = some (.int .i64 o) ∧ X.cell? ⟨r, 2, none⟩ = some (.int .i64 m) ∧ RC X r n o m ∧ Below w.heap.size w X) :
    w'.cell? ⟨r, 1, none⟩ = some (.int .i64 o) ∧ w'.cell? ⟨r, 2, none⟩ = some (.int .i64 m) ∧ RC w' r n o m ∧ Below w.heap.size w w' := by
  have h1 := h.2.2.1.fr f hn
  exact ⟨h1.cells.2.1, h1.cells.2.2.1, h1, f.below h.2.2.2 ho⟩
theorem heldR {w X : World} {r : Nat} {n o m : Int} (h : X.cell? ⟨r, 1, none⟩ = some (.int .i64 o) ∧ X.cell? ⟨r, 2, none⟩ = some (.int .i64 m) ∧ RC X r n o m ∧ Below w.heap.size w X) : RC X r n o m := h.2.2.1
theorem heldB {w X : World} (r : Nat) (n o m : Int) (h : X.cell? ⟨r, 1, none⟩ = some (.int .i64 o) ∧ X.cell? ⟨r, 2, none⟩ = some (.int .i64 m) ∧ RC X r n o m ∧ Below w.heap.size w X) : Below w.heap.size w X := h.2.2.2
set_option maxRecDepth 100000 in
set_option maxHeartbeats 8000000 in

theorem walk (a0 : Int) (a1 : Option Addr) (len1 cap1 : Nat) (w : World) (w0 : (Lit.int .i64 a0).wf = true) (w1 : IsBools w a1 len1) :
    Calls Try.prog 8 #[.int .i64 a0, .slice a1 len1 cap1] w fun e w' => e = .returned (.bool true) ∧ Below w.heap.size w w' := by
  have HO := Lib.hid (own2_ge' w.heap.size)
  obtain ⟨x0, x1⟩ := i64_of_wf w0
  clear w0
  rcases Classical.em (1 ≤ a0 ∧ a0 ≤ 64) with ⟨g1, g2⟩ | hout
  · rcases w1 with hl0 | ⟨b, off, F, rfl, hlm, hbw, hc⟩
    · subst hl0
      go_enter Try.func8, Try.ntmps8
      go_wp2_with fail
      refine (CNew_in a0 g1 g2 _).mono ?_
      rintro e w1 ⟨rfl, hC, hB⟩
      generalize w1.heap.size - 1 = c at hC
      go_wp2_with fail
      refine wp_loop_rounds 1 ?_
      rw [rounds_succ]
      go_wp2_with fail
      refine (awake15 _).mono ?_
      rintro e w2 ⟨rfl, hb⟩
      go_wp2_with fail
      go_ret
      exact ⟨rfl, below_step hb (below_al hB _)⟩
    · obtain ⟨n, hn⟩ : ∃ n, a0 = n := ⟨_, rfl⟩
      subst hn
      go_enter Try.func8, Try.ntmps8
      go_wp2_with fail
      refine (CNew_in a0 g1 g2 _).mono ?_
      rintro e w1 ⟨rfl, hC0, hB0⟩
      obtain ⟨c, hcd⟩ : ∃ c, w1.heap.size - 1 = c := ⟨_, rfl⟩
      rw [hcd] at hC0 ⊢
      have hcb : c < w1.heap.size := (Array.getElem?_eq_some_iff.1 hC0.hdr).1
      have hbb : w.heap.size + 1 < w1.heap.size := by
        obtain ⟨st, wi, at_, kd, _, hM⟩ := hC0.mem
        exact (Array.getElem?_eq_some_iff.1 hM.hdr).1
      clear hcd
      go_wp2_with fail
      obtain ⟨r, hr⟩ : ∃ r, r = w1.heap.size := ⟨_, rfl⟩
      rw [← hr]
      have hC1 := hC0.fr ((Fr.refl (fun _ => False) w1).al (.cells #[.int .i64 a0, .int .i64 0, .int .i64 0] 54)) id id id
      have hB1 := below_al hB0 (.cells #[.int .i64 a0, .int .i64 0, .int .i64 0] 54)
      have hR1 : RC (w1.alloc (.cells #[.int .i64 a0, .int .i64 0, .int .i64 0] 54)) r a0 0 0 := by
        unfold RC
        exact alloc_at hr
      have n1 : ¬ c = r := by omega
      have n2 : ¬ w.heap.size + 1 = r := by omega
      have n3 : ¬ w.heap.size = r := by omega
      have HN := Lib.hid (show ¬ own2 (w.heap.size + 1) w.heap.size r from fun h => h.elim (fun h => n2 h.symm) (fun h => n3 h.symm))
      have HR := Lib.hid (show ∀ k, k = r → w.heap.size ≤ k from by omega)
      have N1 := Lib.hid n1
      have N2 := Lib.hid n2
      have N3 := Lib.hid n3
      clear hr hcb hbb n1 n2 n3 hC0 hB0
      go_loopw [8] (fun v8 wr => ∃ (k : Nat) (o m K : Int), k ≤ 200 ∧ k ≤ len1 ∧ v8 = .int .i64 k ∧ K ≤ 20 * k ∧ CrAt wr c (w.heap.size + 1) w.heap.size a0 o m K ∧ RC wr r a0 o m ∧ Below w.heap.size w wr) (fun v8 _ => 200 - (intOf v8).toNat)
      case atStart => exact ⟨0, 0, 0, 0, by omega, by omega, rfl, by decide, hC1, hR1, hB1⟩
      case round =>
        obtain ⟨k, o, m, K, hk, hkl, rfl, hK, hC, hR, hB⟩ := hrel
        by_cases hlt : k < len1 ∧ k < 200
        · obtain ⟨hlen, h60⟩ := hlt
          have hcell := cell_keeps hB hbw (hc k (by omega))
          have P0 := hC.o0
          have P1 := hC.on
          have P2 := hC.n64
          cases hF : F k
          · rw [hF] at hcell
            clear hF
            rcases Int.lt_or_le 0 o with hpos | hneg
            · go_wp2_with fail
              refine (Give_hit hC (by omega) (by omega)).mono ?_
              rintro e w3 ⟨rfl, hC3, hF3⟩
              have hB3 := hF3.below hB HO.out
              have hR3 := hR.fr hF3 HN.out
              clear hC hR hB hF3
              go_wp2_with fail
              refine (RGive_hit hR3 (by omega) (by omega)).mono ?_
              rintro e w4 ⟨rfl, hR, hF4⟩
              have hB := hF4.below hB3 HR.out
              have hC := hC3.fr hF4 N1.out N2.out N3.out
              clear hC3 hR3 hB3 hF4
              go_wp2_with fail
              obtain ⟨e0, e1, e2, _⟩ := hR.cells
              have P0 := hC.o0
              have P1 := hC.on
              have P2 := hC.n64
              have q3 : IntKind.i64.wrap ((o - 1) + (a0 - (o - 1))) = a0 := by rw [IntKind.wrap_i64]; omega
              have q4 : IntKind.i64.wrap (a0 - (o - 1)) = a0 - (o - 1) := by rw [IntKind.wrap_i64]; omega
              go_region_held3 (fun w' => w'.cell? ⟨r, 1, none⟩ = some (.int .i64 (o - 1)) ∧ w'.cell? ⟨r, 2, none⟩ = some (.int .i64 m) ∧ RC w' r a0 (o - 1) m ∧ Below w.heap.size w w') ((first | exact ⟨e1, e2, hR.dr, below_dr hB⟩ | exact keepRC (by assumption) HN.out HO.out (by assumption))) (first | (go_at_call 33; refine (Out_in (by first | assumption | exact hC.dr) (by omega)).mono ?_; rintro e w' ⟨rfl, hC', hF'⟩) | (go_at_call 37; refine (Free_in (by first | assumption | exact hC.dr) (by omega)).mono ?_; rintro e w' ⟨rfl, hC', hF'⟩) | (go_at_call 36; refine (Most_in (by first | assumption | exact hC.dr) (by omega)).mono ?_; rintro e w' ⟨rfl, hC', hF'⟩))
              clear hC hR hB
              go_wp2_with fail
              go_roundw
              case rel => exact ⟨k + 1, (o - 1), m, K + 3 + 1 + 1 + 1 + 1 + 1, by omega, by omega, by go_num, by omega, by assumption, heldR (by assumption), heldB r a0 (o - 1) m (by assumption)⟩
              case measure => simp [intOf]; omega
            · have HE := Lib.hid (show o = 0 from by omega)
              go_wp2_with fail
              refine (Give_miss (show CrAt wr c _ _ a0 0 m K from by rw [HE.out] at hC; exact hC) (by omega)).mono ?_
              rintro e w3 ⟨rfl, hC3, hF3⟩
              have hB3 := hF3.below hB HO.out
              have hR3 := hR.fr hF3 HN.out
              clear hC hR hB hF3
              go_wp2_with fail
              refine (RGive_miss (show RC w3 r a0 0 m from by rw [HE.out] at hR3; exact hR3)).mono ?_
              rintro e w4 ⟨rfl, hR, hF4⟩
              have hB := hF4.below hB3 HR.out
              have hC : CrAt w4 c (w.heap.size + 1) w.heap.size a0 o m (K + 1) := by rw [HE.out]; exact hC3.fr hF4 N1.out N2.out N3.out
              have hR : RC w4 r a0 o m := by rw [HE.out]; exact hR
              clear hC3 hR3 hB3 hF4
              go_wp2_with fail
              obtain ⟨e0, e1, e2, _⟩ := hR.cells
              have P0 := hC.o0
              have P1 := hC.on
              have P2 := hC.n64
              have q3 : IntKind.i64.wrap (o + (a0 - o)) = a0 := by rw [IntKind.wrap_i64]; omega
              have q4 : IntKind.i64.wrap (a0 - o) = a0 - o := by rw [IntKind.wrap_i64]; omega
              go_region_held3 (fun w' => w'.cell? ⟨r, 1, none⟩ = some (.int .i64 o) ∧ w'.cell? ⟨r, 2, none⟩ = some (.int .i64 m) ∧ RC w' r a0 o m ∧ Below w.heap.size w w') ((first | exact ⟨e1, e2, hR.dr, below_dr hB⟩ | exact keepRC (by assumption) HN.out HO.out (by assumption))) (first | (go_at_call 33; refine (Out_in (by first | assumption | exact hC.dr) (by omega)).mono ?_; rintro e w' ⟨rfl, hC', hF'⟩) | (go_at_call 37; refine (Free_in (by first | assumption | exact hC.dr) (by omega)).mono ?_; rintro e w' ⟨rfl, hC', hF'⟩) | (go_at_call 36; refine (Most_in (by first | assumption | exact hC.dr) (by omega)).mono ?_; rintro e w' ⟨rfl, hC', hF'⟩))
              clear hC hR hB
              go_wp2_with fail
              go_roundw
              case rel => exact ⟨k + 1, o, m, K + 1 + 1 + 1 + 1 + 1 + 1, by omega, by omega, by go_num, by omega, by assumption, heldR (by assumption), heldB r a0 o m (by assumption)⟩
              case measure => simp [intOf]; omega
          · rw [hF] at hcell
            clear hF
            rcases Int.lt_or_le o a0 with hpos | hneg
            · obtain ⟨m', hm'⟩ : ∃ m' : Int, (m < o + 1 ∧ m' = o + 1) ∨ (o + 1 ≤ m ∧ m' = m) := by
                rcases Int.lt_or_le m (o + 1) with h | h
                · exact ⟨_, Or.inl ⟨h, rfl⟩⟩
                · exact ⟨_, Or.inr ⟨h, rfl⟩⟩
              have HM := Lib.hid hm'
              clear hm'
              go_wp2_with fail
              refine (Take_hit hC (by omega) (by omega) HM.out).mono ?_
              rintro e w3 ⟨rfl, hC3, hF3⟩
              have hB3 := hF3.below hB HO.out
              have hR3 := hR.fr hF3 HN.out
              clear hC hR hB hF3
              go_wp2_with fail
              refine (RTake_hit hR3 (by omega) (by omega) (by omega) HM.out).mono ?_
              rintro e w4 ⟨rfl, hR, hF4⟩
              have hB := hF4.below hB3 HR.out
              have hC := hC3.fr hF4 N1.out N2.out N3.out
              clear hC3 hR3 hB3 hF4
              go_wp2_with fail
              obtain ⟨e0, e1, e2, _⟩ := hR.cells
              have P0 := hC.o0
              have P1 := hC.on
              have P2 := hC.n64
              have q3 : IntKind.i64.wrap ((o + 1) + (a0 - (o + 1))) = a0 := by rw [IntKind.wrap_i64]; omega
              have q4 : IntKind.i64.wrap (a0 - (o + 1)) = a0 - (o + 1) := by rw [IntKind.wrap_i64]; omega
              go_region_held3 (fun w' => w'.cell? ⟨r, 1, none⟩ = some (.int .i64 (o + 1)) ∧ w'.cell? ⟨r, 2, none⟩ = some (.int .i64 m') ∧ RC w' r a0 (o + 1) m' ∧ Below w.heap.size w w') ((first | exact ⟨e1, e2, hR.dr, below_dr hB⟩ | exact keepRC (by assumption) HN.out HO.out (by assumption))) (first | (go_at_call 33; refine (Out_in (by first | assumption | exact hC.dr) (by omega)).mono ?_; rintro e w' ⟨rfl, hC', hF'⟩) | (go_at_call 37; refine (Free_in (by first | assumption | exact hC.dr) (by omega)).mono ?_; rintro e w' ⟨rfl, hC', hF'⟩) | (go_at_call 36; refine (Most_in (by first | assumption | exact hC.dr) (by omega)).mono ?_; rintro e w' ⟨rfl, hC', hF'⟩))
              clear hC hR hB
              go_wp2_with fail
              go_roundw
              case rel => exact ⟨k + 1, (o + 1), m', K + 4 + 1 + 1 + 1 + 1 + 1, by omega, by omega, by go_num, by omega, by assumption, heldR (by assumption), heldB r a0 (o + 1) m' (by assumption)⟩
              case measure => simp [intOf]; omega
            · have HE := Lib.hid (show o = a0 from by omega)
              go_wp2_with fail
              refine (Take_miss (show CrAt wr c _ _ a0 a0 m K from by rw [HE.out] at hC; exact hC) (by omega)).mono ?_
              rintro e w3 ⟨rfl, hC3, hF3⟩
              have hB3 := hF3.below hB HO.out
              have hR3 := hR.fr hF3 HN.out
              clear hC hR hB hF3
              go_wp2_with fail
              refine (RTake_miss (show RC w3 r a0 a0 m from by rw [HE.out] at hR3; exact hR3)).mono ?_
              rintro e w4 ⟨rfl, hR, hF4⟩
              have hB := hF4.below hB3 HR.out
              have hC : CrAt w4 c (w.heap.size + 1) w.heap.size a0 o m (K + 1) := by rw [HE.out]; exact hC3.fr hF4 N1.out N2.out N3.out
              have hR : RC w4 r a0 o m := by rw [HE.out]; exact hR
              clear hC3 hR3 hB3 hF4
              go_wp2_with fail
              obtain ⟨e0, e1, e2, _⟩ := hR.cells
              have P0 := hC.o0
              have P1 := hC.on
              have P2 := hC.n64
              have q3 : IntKind.i64.wrap (o + (a0 - o)) = a0 := by rw [IntKind.wrap_i64]; omega
              have q4 : IntKind.i64.wrap (a0 - o) = a0 - o := by rw [IntKind.wrap_i64]; omega
              go_region_held3 (fun w' => w'.cell? ⟨r, 1, none⟩ = some (.int .i64 o) ∧ w'.cell? ⟨r, 2, none⟩ = some (.int .i64 m) ∧ RC w' r a0 o m ∧ Below w.heap.size w w') ((first | exact ⟨e1, e2, hR.dr, below_dr hB⟩ | exact keepRC (by assumption) HN.out HO.out (by assumption))) (first | (go_at_call 33; refine (Out_in (by first | assumption | exact hC.dr) (by omega)).mono ?_; rintro e w' ⟨rfl, hC', hF'⟩) | (go_at_call 37; refine (Free_in (by first | assumption | exact hC.dr) (by omega)).mono ?_; rintro e w' ⟨rfl, hC', hF'⟩) | (go_at_call 36; refine (Most_in (by first | assumption | exact hC.dr) (by omega)).mono ?_; rintro e w' ⟨rfl, hC', hF'⟩))
              clear hC hR hB
              go_wp2_with fail
              go_roundw
              case rel => exact ⟨k + 1, o, m, K + 1 + 1 + 1 + 1 + 1 + 1, by omega, by omega, by go_num, by omega, by assumption, heldR (by assumption), heldB r a0 o m (by assumption)⟩
              case measure => simp [intOf]; omega
        · by_cases hlen : k < len1
          · have h60 : ¬ k < 200 := fun h => hlt ⟨hlen, h⟩
            go_wp2_with fail
            refine (awake15 _).mono ?_
            rintro e w2 ⟨rfl, hb⟩
            go_wp2_with fail
            go_ret
            exact ⟨rfl, below_step hb hB⟩
          · go_wp2_with fail
            refine (awake15 _).mono ?_
            rintro e w2 ⟨rfl, hb⟩
            go_wp2_with fail
            go_ret
            exact ⟨rfl, below_step hb hB⟩
  · have hor : a0 < 1 ∨ 64 < a0 := by omega
    rcases hor with hor | hor
    · go_enter Try.func8, Try.ntmps8
      go_wp2_with fail
      refine (CNew_out a0 (Or.inl hor) _).mono ?_
      rintro e w1 ⟨rfl, rfl⟩
      go_wp2_with fail
      refine (awake15 _).mono ?_
      rintro e w2 ⟨rfl, hb⟩
      go_wp2_with fail
      go_ret
      exact ⟨rfl, hb⟩
    · have hor' : ¬ a0 < 1 := by omega
      go_enter Try.func8, Try.ntmps8
      go_wp2_with fail
      refine (CNew_out a0 (Or.inr hor) _).mono ?_
      rintro e w1 ⟨rfl, rfl⟩
      go_wp2_with fail
      refine (awake15 _).mono ?_
      rintro e w2 ⟨rfl, hb⟩
      go_wp2_with fail
      go_ret
      exact ⟨rfl, hb⟩

set_option maxRecDepth 100000 in
theorem lifted (os : Os) (started : os.Started) (H : Type) (enc : TypeId × Value → H) :
    ReturnsInHanded {} Try.checked os 8 .any (Rows.creditPlaysSpec.pre6 enc Try.prog Try.f8 Rows.creditPlaysRow.domain false) (Rows.creditPlaysSpec.post enc Try.prog Try.f8 false true false false) := by
  refine returnsInHanded_of_change (C := Try.checked) own started (by kernel_rfl) Try.func8
    (ChangeSpec.witness6 (enc := enc) (C := Try.checked) false ⟨#[], #[.int .i64 0, .slice none 0 0], []⟩ 8 (by kernel_rfl) (by kernel_rfl) (by kernel_rfl) (by kernel_rfl)) ?_
  intro W base args ds gs before hval0 hW hcnd _
  have hval : ∀ (j : Nat) t v, Try.f8.params[j]? = some t → args[j]? = some v → Value.okWide Try.prog W .any base t v := hval0
  have hW' := hW
  obtain ⟨p, q, hA0, hV, rfl, hfz, hnd⟩ := hW
  have hA : DataW.TrodAll enc Try.prog W 0 (fun _ => true) true Try.f8.params.toList args.toList ds p := hA0
  rw [Try.params8] at hA hval
  obtain ⟨v0, vs0, d0, ds0, p0, q0, hargs, rfl, rfl, h0, r0⟩ := trodAll_cons hA
  obtain ⟨v1, vs1, d1, ds1, p1, q1, rfl, rfl, rfl, h1, r1⟩ := trodAll_cons r0
  obtain ⟨rfl, rfl, rfl⟩ := trodAll_nil r1
  obtain rfl : args = #[v0, v1] := by cases args; simp_all
  obtain ⟨rfl, rfl⟩ := trodVars_none hV
  obtain ⟨a0, rfl, rfl, rfl, w0⟩ := open_int Try.underlying3 (hval 0 3 v0 rfl rfl) h0
  obtain ⟨a1, len1, cap1, rfl⟩ := okWide_slice Try.underlying28 (hval 1 28 v1 rfl rfl)
  have k1 := h1
  have lt1 : ∀ x ∈ p1, x.block < W.heap.size := by obtain ⟨m, hm⟩ := k1; exact DataW.trod_lt m _ _ _ hm
  have w1 : IsBools W a1 len1 := by
    obtain ⟨fuel, hf⟩ := h1
    exact isBools_of Try.underlying28 Try.underlying4 (by kernel_rfl) hf
  clear hA0 hval0
  refine (walk a0 a1 len1 cap1 W w0 w1).mono fun e W' ⟨he, bel⟩ => ?_
  subst he
  exact ⟨_, rfl, _, _, _, [], _, [], hW', trodAll_mk1 (shut_bool Try.underlying4 _), (trodAll_cons_mk (shut_int Try.underlying3 w0) (trodAll_cons_mk (Below.trod laidOut (by kernel_rfl) (of_decide_eq_true (by kernel_rfl)) k1 bel lt1) trodAll_mk0)), rfl, bel.frame _, fun h => by cases h⟩

theorem over : Rows.creditPlaysRow.holds Try.pinned (OpenSpec.ofChange Rows.creditPlaysSpec) :=
  OpenClaim.holds_of_wide 8 Try.f8 rfl rfl rfl rfl rfl rfl rfl ⟨rfl, rfl, rfl, rfl, rfl⟩ rfl rfl rfl rfl rfl (by kernel_rfl) Try.func8 (by kernel_rfl)
    (of_decide_eq_true (by kernel_rfl)) (by unfold Func.isWrapper; first | (rw [if_pos (by decide +kernel)]; kernel_rfl) | (rw [if_neg (by decide +kernel)]; exact ⟨rfl, rfl⟩))
    (fun os started H enc _ => lifted os started H enc)

theorem proved : Rows.CreditPlaysSaid := over
#print axioms proved
end Go.Proofs.Ytpcbcnheogjofaa.creditPlays
