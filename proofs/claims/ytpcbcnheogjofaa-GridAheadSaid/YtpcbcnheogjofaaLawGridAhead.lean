/- Law GridAhead proved: for any numbers the call returns true, under no condition.
   The frame below the walk was written by the kit's proof-skeleton.mjs. -/
import Derived.Test.YtpcbcnheogjofaaRows
import Derived.WalkKit
import Derived.ProofKit
import Derived.OpenShut
import Derived.ShutString
import Derived.ChangeOld
import Derived.Below
import Derived.Test.YtpcbcnheogjofaaGrid3
import Derived.Test.YtpcbcnheogjofaaAhead3
import Derived.Deep.LoopGhost
import Derived.BigQuiet
namespace Go.Proofs.Ytpcbcnheogjofaa.gridAhead
open Go.ChangeShapes Go.WideShapes Go.ChangeAt Go.RowKit
set_option linter.unusedVariables false      -- a walk need not use every 'w<i>' (that an integer argument fits its kind)

theorem own : ownKnob Try.prog.godebug = none := by kernel_rfl

open Go.Proofs.YtpcbcnheogjofaaW.PrintWords in
theorem reads_plain {w : World} {k : IntKind} {A : Option Addr} {n : Nat} {xs : List Int} (h : ReadsInt w k A n xs) : n = 0 ∨ ∃ b off, A = some ⟨b, off, none⟩ ∧ b < w.heap.size ∧ ∀ j, j < n → w.cell? ⟨b, off + j, none⟩ = some (.int k (xs.getD j 0)) := by
  rcases Nat.eq_zero_or_pos n with h0 | h0
  · exact .inl h0
  · obtain ⟨ad, rfl, hc⟩ := h.2.2 h0
    obtain ⟨b, off, spot⟩ := ad
    have hspot : spot = none := by simpa [Addr.add] using World.cell?_spot (hc 0 h0)
    subst hspot
    refine .inr ⟨b, off, rfl, ?_, fun j hj => by rw [← Go.WideShapes.add_plain]; exact hc j hj⟩
    have := hc 0 h0
    rw [Go.WideShapes.add_plain] at this
    exact World.block_lt_of_cell? w _ this
theorem top_lit : top = 18446744073709551615 := by unfold top; rfl
theorem on_next (f p q D : Int) (p0 : 0 < p) (q0 : 0 ≤ q) (hD : D = f + p * q) (hT : D + p ≤ top) : gB f p D = true ∧ gN f p D = D + p ∧ f ≤ D ∧ (D - f) % p = 0 := by
  have h0 : 0 ≤ p * q := Int.mul_nonneg (by omega) (by omega)
  have h1 : D - f = p * q := by omega
  have hnx : nxI f p D = D + p := by
    unfold nxI
    rw [if_neg (by omega), h1, Int.mul_ediv_cancel_left _ (by omega), Int.mul_comm q p]
    omega
  have hpn : p ≠ 0 := by omega
  have hb : gB f p D = true := by unfold gB; rw [hnx]; simp [hpn]; omega
  refine ⟨hb, by unfold gN; rw [hb, if_pos rfl, hnx], by omega, by rw [h1, Int.mul_emod_right]⟩
theorem ahL_on (f p : Int) (p0 : 0 < p) (k : Nat) : ∀ (D q : Int), 0 ≤ q → D = f + p * q → D + p * k ≤ top → ahL f p k D = (List.range k).map (fun i : Nat => D + p + p * (i : Int)) := by
  induction k with
  | zero => intro D q _ _ _; rfl
  | succ k ih =>
    intro D q q0 hD hT
    have hk : p * ((k + 1 : Nat) : Int) = p * k + p := by rw [Int.natCast_add, Int.mul_add]; omega
    have hpk : 0 ≤ p * (k : Int) := Int.mul_nonneg (by omega) (by omega)
    obtain ⟨h1, h2, _, _⟩ := on_next f p q D p0 q0 hD (by omega)
    simp only [ahL]
    rw [if_pos h1, h2, ih (D + p) (q + 1) (by omega) (by rw [Int.mul_add]; omega) (by omega), List.range_succ_eq_map, List.map_cons, List.map_map]
    congr 1
    · simp
    · apply List.map_congr_left
      intro i _
      simp [Int.mul_add]
      omega
/-- The whole list ahead, where nothing overflows. -/
theorem ahL_all (f p now : Int) (f0 : 0 ≤ f) (p0 : 0 < p) (n0 : 0 ≤ now) (k : Nat) (hT : f + now + p + p * k ≤ top) :
    ∃ e : Int, ahL f p k now = (List.range k).map (fun i : Nat => e + p * (i : Int)) ∧ now < e ∧ f ≤ e ∧ (e = f ∨ e - p ≤ now) ∧ (∃ q : Int, 0 ≤ q ∧ e = f + p * q) ∧ (f ≤ now → gB f p now = true ∧ gN f p now = e) ∧ e ≤ f + now + p := by
  have hpk : 0 ≤ p * (k : Int) := Int.mul_nonneg (by omega) (by omega)
  obtain ⟨h1, h2⟩ := nx_bd f p now f0 p0 n0
  have hq : ∃ q : Int, 0 ≤ q ∧ nxI f p now = f + p * q := by
    unfold nxI
    split
    · exact ⟨0, by omega, by simp⟩
    · obtain ⟨s0, _⟩ := quo_bd (now - f) p (by omega) p0
      exact ⟨(now - f) / p + 1, by omega, by rw [Int.mul_add, Int.mul_one, Int.mul_comm p]; omega⟩
  have hle : nxI f p now = f ∨ nxI f p now - p ≤ now := by
    unfold nxI
    split
    · exact .inl rfl
    · obtain ⟨s0, s1, s2, s3, s4⟩ := quo_bd (now - f) p (by omega) p0
      right; omega
  have hpn : p ≠ 0 := by omega
  have hb : gB f p now = true := by unfold gB; simp [hpn]; omega
  have hg : gN f p now = nxI f p now := by unfold gN; rw [hb, if_pos rfl]
  refine ⟨nxI f p now, ?_, h1, h2, hle, hq, fun _ => ⟨hb, hg⟩, by omega⟩
  obtain ⟨q, q0, hq⟩ := hq
  cases k with
  | zero => rfl
  | succ k =>
    have hk : p * ((k + 1 : Nat) : Int) = p * k + p := by rw [Int.natCast_add, Int.mul_add]; omega
    simp only [ahL]
    rw [if_pos hb, hg, ahL_on f p p0 k _ q q0 hq (by omega), List.range_succ_eq_map, List.map_cons, List.map_map]
    congr 1
    · simp
    · apply List.map_congr_left
      intro i _
      simp [Int.mul_add]
      omega
theorem map_len (e p : Int) (n : Nat) : ((List.range n).map (fun i : Nat => e + p * (i : Int))).length = n := by simp
theorem map_at (e p : Int) (n i : Nat) (h : i < n) : ((List.range n).map (fun i : Nat => e + p * (i : Int))).getD i 0 = e + p * (i : Int) := by
  simp [List.getD_eq_getElem?_getD, h]
theorem reads_drN {w : World} {k : IntKind} {A : Option Addr} {n : Nat} {xs : List Int} (h : Go.Proofs.YtpcbcnheogjofaaW.PrintWords.ReadsInt w k A n xs) (m : Nat) : Go.Proofs.YtpcbcnheogjofaaW.PrintWords.ReadsInt (w.drewN m) k A n xs := h
theorem g_alloc_at {W : World} {o : Obj} {n : Nat} (h : n = W.heap.size) : (W.alloc o).heap[n]? = some o := by rw [h]; exact heap_alloc_new W o
theorem g_alloc_old {W : World} {o p : Obj} {n : Nat} (h : W.heap[n]? = some p) : (W.alloc o).heap[n]? = some p := (Below.heap_alloc W o n (Array.getElem?_eq_some_iff.1 h).1).trans h
def JobAt (W : World) (b : Nat) (f p d r m : Int) : Prop := W.heap[b]? = some (.cells #[.int .u64 f, .int .u64 p, .int .u64 d, .int .u64 r, .int .u64 m] 57 (0, 0))
theorem JobAt.cells {W : World} {b : Nat} {f p d r m : Int} (h : JobAt W b f p d r m) : W.cell? ⟨b, 0, none⟩ = some (.int .u64 f) ∧ W.cell? ⟨b, 1, none⟩ = some (.int .u64 p) ∧ W.cell? ⟨b, 2, none⟩ = some (.int .u64 d) ∧ W.cell? ⟨b, 3, none⟩ = some (.int .u64 r) ∧ W.cell? ⟨b, 4, none⟩ = some (.int .u64 m) ∧ ∀ i, W.frozen? ⟨b, i, none⟩ = false := by
  unfold JobAt at h
  refine ⟨?_, ?_, ?_, ?_, ?_, fun i => ?_⟩ <;> simp [World.cell?, World.frozen?, h]
theorem JobAt.below {W W' : World} {b : Nat} {f p d r m : Int} (h : JobAt W b f p d r m) (hb : Below W.heap.size W W') : JobAt W' b f p d r m := (hb.block b (Array.getElem?_eq_some_iff.1 h).1).trans h
theorem JobAt.drN {W : World} {b : Nat} {f p d r m : Int} (h : JobAt W b f p d r m) (n : Nat) : JobAt (W.drewN n) b f p d r m := h
set_option maxRecDepth 100000 in
set_option maxHeartbeats 8000000 in

theorem walk (a0 : Int) (a1 : Int) (a2 : Int) (a3 : Int) (w0 : (Lit.int .u64 a0).wf = true) (w1 : (Lit.int .u64 a1).wf = true) (w2 : (Lit.int .u64 a2).wf = true) (w3 : (Lit.int .i64 a3).wf = true) (w : World) :
    Calls Try.prog 9 #[.int .u64 a0, .int .u64 a1, .int .u64 a2, .int .i64 a3] w fun e w' => e = .returned (.bool true) ∧ Below w.heap.size w w' := by
  clear w0 w1 w2 w3
  obtain ⟨f, hf, f0, f1⟩ : ∃ q, bits .and .u64 a0 1048575 = q ∧ 0 ≤ q ∧ q ≤ 1048575 := ⟨_, rfl, by rw [and_u64_20]; omega, by rw [and_u64_20]; omega⟩
  obtain ⟨u, hu, u0, u4⟩ : ∃ q, bits .and .u64 a1 4095 = q ∧ 0 ≤ q ∧ q ≤ 4095 := ⟨_, rfl, by rw [and_u64_4095]; omega, by rw [and_u64_4095]; omega⟩
  obtain ⟨p, hp, p1, p256⟩ : ∃ p : Int, u + 1 = p ∧ 1 ≤ p ∧ p ≤ 4096 := ⟨_, rfl, by omega, by omega⟩
  obtain ⟨t, ht, t0, t1⟩ : ∃ q, bits .and .u64 a2 2097151 = q ∧ 0 ≤ q ∧ q ≤ 2097151 := ⟨_, rfl, by rw [and_u64_21]; omega, by rw [and_u64_21]; omega⟩
  obtain ⟨n, hn, n63⟩ : ∃ n : Nat, bits .and .i64 a3 63 = (n : Int) ∧ n ≤ 63 := ⟨(a3 % 64).toNat, by rw [and_i64_63]; omega, by omega⟩
  have TL := Lib.hid top_lit
  have ftop : f ≤ top := by rw [TL.out]; omega
  have ptop : p ≤ top := by rw [TL.out]; omega
  have ttop : t ≤ top := by rw [TL.out]; omega
  have hpn : p * (n : Int) ≤ 4096 * 63 := Int.mul_le_mul (by omega) (by omega) (by omega) (by decide)
  have hp100 : p * ((100 : Nat) : Int) ≤ 409600 := by rw [show ((100 : Nat) : Int) = 100 from rfl]; omega
  obtain ⟨E, hL, e1, e2, e3, ⟨q, q0, hq⟩, e5, e6⟩ := ahL_all f p t f0 (by omega) t0 n (by rw [TL.out]; omega)
  obtain ⟨E', hL', _⟩ := ahL_all f p 0 f0 (by omega) (by decide) 100 (by rw [TL.out]; omega)
  have HL := Lib.hid (show ahL f p (ahM n) t = (List.range n).map (fun i : Nat => E + p * (i : Int)) from by rw [show ahM n = n from by unfold ahM; omega]; exact hL)
  have H100 := Lib.hid (show (ahL f p (ahM 5000) 0).length = 100 from by rw [show ahM 5000 = 100 from by decide, hL']; simp)
  have HQ := Lib.hid hq
  have HE5 := Lib.hid e5
  have HE3 := Lib.hid e3
  clear hL hL' hq e5 e3
  go_enter Try.func9, Try.ntmps9
  go_wp2_with fail
  refine (GNew_pos f p (by omega) _).mono ?_
  rintro e w1 ⟨rfl, hB1⟩
  obtain ⟨j, hj⟩ : ∃ j, j = w1.heap.size := ⟨_, rfl⟩
  have hJ0 : JobAt (w1.alloc (.cells #[.int .u64 f, .int .u64 p, .int .u64 f, .int .u64 0, .int .u64 0] 57)) j f p f 0 0 := by
    unfold JobAt
    exact g_alloc_at hj
  have hB2 := below_al hB1 (.cells #[.int .u64 f, .int .u64 p, .int .u64 f, .int .u64 0, .int .u64 0] 57)
  go_wp2_with fail
  rw [← hj]
  clear hj hB1
  refine (Ahead_any f p f 0 0 t n f0 ftop (by omega) ptop t0 ttop _).mono ?_
  rintro e w2 ⟨A, c, rfl, hR, hB3⟩
  have hJ1 := hJ0.below hB3
  have hB4 := below_step hB3 hB2
  clear hJ0 hB2 hB3
  rw [HL.out, map_len] at hR ⊢
  go_wp2_with fail
  obtain ⟨L, hLd⟩ : ∃ L, (List.range n).map (fun i : Nat => E + p * (i : Int)) = L := ⟨_, rfl⟩
  rw [hLd] at hR
  have HLD := Lib.hid hLd
  clear hLd
  go_loopg [12] n (fun g v12 wr => ∃ i : Nat, g = n - i ∧ i ≤ n ∧ v12 = .int .i64 i ∧ JobAt wr j f p f 0 0 ∧ Go.Proofs.YtpcbcnheogjofaaW.PrintWords.ReadsInt wr .u64 A n L ∧ Below w.heap.size w wr)
  case atStart => exact ⟨0, rfl, by omega, rfl, hJ1, hR, hB4⟩
  case round =>
    clear hJ1 hR hB4
    obtain ⟨i, rfl, hin, rfl, hJ, hR, hB⟩ := hrel
    by_cases hlt : i < n
    · rcases reads_plain hR with h0 | ⟨b, off, rfl, hbw, hc⟩
      · omega
      have ci := hc i hlt
      have cz := hc 0 (by omega)
      have hi := map_at E p n i hlt
      have hz := map_at E p n 0 (by omega)
      rw [HLD.out] at hi hz
      rw [hi] at ci
      rw [hz, Nat.add_zero, show E + p * ((0 : Nat) : Int) = E from by simp] at cz
      have ep : E ≤ 2200000000 := by omega
      have pz : (p == 0) = false := by simp; omega
      rcases Nat.eq_zero_or_pos i with rfl | hip
      · rw [Nat.add_zero, show E + p * ((0 : Nat) : Int) = E from by simp] at ci
        have n1 : decide (E ≤ t) = false := by simp; omega
        have n2 : decide (E < f) = false := by simp; omega
        have x1 : IntKind.u64.wrap (E - f) = E - f := by rw [IntKind.wrap_u64]; omega
        have x0 : E - f = p * q := by have := HQ.out; omega
        have x2 : (E - f).tmod p = 0 := by rw [Int.tmod_eq_emod_of_nonneg (by omega), x0, Int.mul_emod_right]
        have x3 : (E - f) % p = 0 := by rw [x0, Int.mul_emod_right]
        have X0 := Lib.hid x0
        clear x0 hi hz hc cz hpn hp100
        by_cases hEf : E = f
        · have y1 : (E != f) = false := by simpa using hEf
          have HEF := Lib.hid hEf
          clear hEf
          go_wp2_with fail
          go_big_quiet (fail)
          have hJ2 := hJ.drN nq
          have hR2 := reads_drN hR nq
          have hB2 := below_drN hB nq
          clear hJ hR hB
          go_wp2_with fail
          go_roundg (n - (0 + 1))
          case measure => omega
          case rel => exact ⟨0 + 1, rfl, by omega, by go_num, hJ2, hR2, hB2⟩
        · have y1 : (E != f) = true := by simpa using hEf
          have y2 : E - p ≤ t := by rcases HE3.out with h | h <;> omega
          have y3 : 0 ≤ E - p := by
            have h1 := HQ.out
            rcases (show q = 0 ∨ 1 ≤ q from by omega) with h | h
            · rw [h] at h1; simp at h1; omega
            · have := Int.mul_le_mul_of_nonneg_left h (show (0 : Int) ≤ p from by omega)
              omega
          have y4 : IntKind.u64.wrap (E - p) = E - p := by rw [IntKind.wrap_u64]; omega
          have y5 : decide (t < E - p) = false := by simp; omega
          clear hEf
          go_wp2_with fail
          go_big_quiet (fail)
          have hJ2 := hJ.drN nq
          have hR2 := reads_drN hR nq
          have hB2 := below_drN hB nq
          clear hJ hR hB
          go_wp2_with fail
          go_roundg (n - (0 + 1))
          case measure => omega
          case rel => exact ⟨0 + 1, rfl, by omega, by go_num, hJ2, hR2, hB2⟩
      · obtain ⟨k, rfl⟩ : ∃ k, i = k + 1 := ⟨i - 1, by omega⟩
        have cp := hc k (by omega)
        have hk := map_at E p n k (by omega)
        rw [HLD.out] at hk
        rw [hk] at cp
        have h5 : E + p * ((k + 1 : Nat) : Int) = E + p * (k : Int) + p := by rw [Int.natCast_add, Int.mul_add]; omega
        rw [h5] at ci
        have hpk : 0 ≤ p * (k : Int) := Int.mul_nonneg (by omega) (by omega)
        have hpk2 : p * (k : Int) ≤ 4096 * 63 := Int.mul_le_mul (by omega) (by omega) (by omega) (by decide)
        have x0 : E + p * (k : Int) + p - f = p * (q + k + 1) := by have := HQ.out; rw [Int.mul_add, Int.mul_add]; omega
        obtain ⟨y, hy⟩ : ∃ y, E + p * (k : Int) = y := ⟨_, rfl⟩
        rw [hy] at cp ci x0
        have y0 : E ≤ y := by omega
        have y1 : y ≤ 2300000000 := by omega
        have n1 : decide (y + p ≤ t) = false := by simp; omega
        have n2 : decide (y + p < f) = false := by simp; omega
        have n3 : IntKind.u64.wrap (y + p) = y + p := by rw [IntKind.wrap_u64]; omega
        have n4 : IntKind.u64.wrap (y + p - f) = y + p - f := by rw [IntKind.wrap_u64]; omega
        have x2 : (y + p - f).tmod p = 0 := by rw [Int.tmod_eq_emod_of_nonneg (by omega), x0, Int.mul_emod_right]
        have x3 : (y + p - f) % p = 0 := by rw [x0, Int.mul_emod_right]
        have n5 : decide ((k : Int) + 1 > 0) = true := by first | (simp; done) | (simp; omega)
        have n6 : ((k : Int) + 1 == 0) = false := by simp; omega
        have n7 : decide (0 < (k : Int) + 1) = true := by first | (simp; done) | (simp; omega)
        have hkn : (k : Int) + 1 < n := by omega
        clear x0 hi hz hc cz hk h5 hpk hpk2 hpn hp100 hy
        go_wp2_with fail
        go_big_quiet (fail)
        have hJ2 := hJ.drN nq
        have hR2 := reads_drN hR nq
        have hB2 := below_drN hB nq
        clear hJ hR hB
        go_wp2_with fail
        go_roundg (n - (k + 1 + 1))
        case measure => omega
        case rel => exact ⟨k + 1 + 1, rfl, by omega, by go_num, hJ2, hR2, hB2⟩
    · obtain rfl : i = n := by omega
      have okf : okB f p f = true := by unfold okB; simp; omega
      obtain ⟨gf, _, _, _⟩ := on_next f p 0 f (by omega) (by decide) (by simp) (by rw [TL.out]; omega)
      obtain ⟨x, hx, hgx, hxE⟩ : ∃ x, ((t < f ∧ x = f) ∨ (f ≤ t ∧ x = t)) ∧ gB f p x = true ∧ (f ≤ t → gN f p x = E) := by
        rcases Int.lt_or_le t f with h | h
        · exact ⟨f, Or.inl ⟨h, rfl⟩, gf, fun h' => by omega⟩
        · exact ⟨t, Or.inr ⟨h, rfl⟩, (HE5.out h).1, fun _ => (HE5.out h).2⟩
      obtain ⟨c0, c1, c2, c3, c4, c5⟩ := hJ.cells
      have HXE := Lib.hid hxE
      clear hxE hpn hp100 gf c5
      go_wp2_with fail
      refine (GAfter_go f p f 0 0 t x true hx f0 ftop (by omega) ptop f0 ftop t0 ttop okf hgx _).mono ?_
      rintro e w3 ⟨rfl, hB3⟩
      have hJ3 := hJ.below hB3
      have hR3 := Go.Proofs.YtpcbcnheogjofaaW.PrintWords.ReadsInt.below hR hB3
      have hB4 := below_step hB3 hB
      clear hJ hR hB hB3 c0 c1 c2 c3 c4 hx hgx okf
      generalize IntKind.u64.wrap (0 + 1) = R1
      generalize IntKind.u64.wrap (0 + missI f p f t) = M1
      rw [if_pos rfl]
      obtain ⟨G, hG⟩ : ∃ G, gN f p x = G := ⟨_, rfl⟩
      rw [hG]
      have HG := Lib.hid hG
      clear hG
      go_upto_region 14 with fail
      obtain ⟨W1, hW1⟩ : ∃ W1, w3.alloc (.cells #[.int .u64 f, .int .u64 p, .int .u64 G, .int .u64 R1, .int .u64 M1] 57) = W1 := ⟨_, rfl⟩
      have hJ4 : JobAt W1 j f p f 0 0 := by rw [← hW1]; exact g_alloc_old hJ3
      have hK4 : JobAt W1 w3.heap.size f p G R1 M1 := by rw [← hW1]; exact g_alloc_at rfl
      have hB5 : Below w.heap.size w W1 := by rw [← hW1]; exact below_al hB4 _
      have hR4 : Go.Proofs.YtpcbcnheogjofaaW.PrintWords.ReadsInt W1 .u64 A i L := by rw [← hW1]; exact hR3.below (below_al (Below.refl _ _) _)
      rw [hW1]
      clear hW1 hJ3 hR3 hB4
      generalize w3.heap.size = d at *
      obtain ⟨d0, d1, d2, d3, d4, d5⟩ := hK4.cells
      clear hK4 d5
      rcases Nat.eq_zero_or_pos i with hi0 | hi0
      · have g1 : decide ((i : Int) > 0) = false := by simp; omega
        have g2 : decide (0 < (i : Int)) = false := by simp; omega
        go_wp2_with fail
        go_big_quiet (fail)
        have hJ5 := hJ4.drN nq
        have hB6 := below_drN hB5 nq
        generalize World.drewN _ nq = Wq at *
        obtain ⟨c0, c1, c2, c3, c4, _⟩ := hJ5.cells
        clear hJ4 hB5
        go_wp2_with fail
        refine (Ahead_any f p f 0 0 t (-5) f0 ftop (by omega) ptop t0 ttop _).mono ?_
        rintro e w4 ⟨A1, k1, rfl, _, hB7⟩
        rw [show (ahL f p (ahM (-5)) t).length = 0 from by rw [show ahM (-5) = 0 from by decide]; rfl]
        have hJ8 := hJ5.below hB7
        have hB8 := below_step hB7 hB6
        clear hJ5 hB6 hB7 c0 c1 c2 c3 c4
        obtain ⟨c0, c1, c2, c3, c4, _⟩ := hJ8.cells
        go_wp2_with fail
        refine (Ahead_any f p f 0 0 0 5000 f0 ftop (by omega) ptop (by decide) (by rw [TL.out]; decide) _).mono ?_
        rintro e w5 ⟨A2, k2, rfl, _, hB9⟩
        rw [H100.out]
        have hB10 := below_step hB9 hB8
        go_wp2_with fail
        refine (awake13 _).mono ?_
        rintro e w6 ⟨rfl, hb⟩
        go_wp2_with fail
        go_ret
        exact ⟨rfl, below_step hb hB10⟩
      · have g1 : decide ((i : Int) > 0) = true := by simp; omega
        have g2 : decide (0 < (i : Int)) = true := by simp; omega
        rcases Int.lt_or_le t f with htf | htf
        · have g3 : decide (f ≤ t) = false := by simp; omega
          go_wp2_with fail
          go_big_quiet (fail)
          have hJ5 := hJ4.drN nq
          have hB6 := below_drN hB5 nq
          generalize World.drewN _ nq = Wq at *
          obtain ⟨c0, c1, c2, c3, c4, _⟩ := hJ5.cells
          clear hJ4 hB5
          go_wp2_with fail
          refine (Ahead_any f p f 0 0 t (-5) f0 ftop (by omega) ptop t0 ttop _).mono ?_
          rintro e w4 ⟨A1, k1, rfl, _, hB7⟩
          rw [show (ahL f p (ahM (-5)) t).length = 0 from by rw [show ahM (-5) = 0 from by decide]; rfl]
          have hJ8 := hJ5.below hB7
          have hB8 := below_step hB7 hB6
          clear hJ5 hB6 hB7 c0 c1 c2 c3 c4
          obtain ⟨c0, c1, c2, c3, c4, _⟩ := hJ8.cells
          go_wp2_with fail
          refine (Ahead_any f p f 0 0 0 5000 f0 ftop (by omega) ptop (by decide) (by rw [TL.out]; decide) _).mono ?_
          rintro e w5 ⟨A2, k2, rfl, _, hB9⟩
          rw [H100.out]
          have hB10 := below_step hB9 hB8
          go_wp2_with fail
          refine (awake13 _).mono ?_
          rintro e w6 ⟨rfl, hb⟩
          go_wp2_with fail
          go_ret
          exact ⟨rfl, below_step hb hB10⟩
        · have g3 : decide (f ≤ t) = true := by simp; omega
          rcases reads_plain hR4 with h0 | ⟨b, off, rfl, hbw, hc⟩
          · omega
          have cz := hc 0 hi0
          have hz := map_at E p i 0 hi0
          rw [HLD.out] at hz
          rw [hz, Nat.add_zero, show E + p * ((0 : Nat) : Int) = E from by simp] at cz
          obtain rfl : G = E := by rw [← HG.out]; exact HXE.out htf
          clear hc hz
          go_wp2_with fail
          go_big_quiet (fail)
          have hJ5 := hJ4.drN nq
          have hB6 := below_drN hB5 nq
          generalize World.drewN _ nq = Wq at *
          obtain ⟨c0, c1, c2, c3, c4, _⟩ := hJ5.cells
          clear hJ4 hB5
          go_wp2_with fail
          refine (Ahead_any f p f 0 0 t (-5) f0 ftop (by omega) ptop t0 ttop _).mono ?_
          rintro e w4 ⟨A1, k1, rfl, _, hB7⟩
          rw [show (ahL f p (ahM (-5)) t).length = 0 from by rw [show ahM (-5) = 0 from by decide]; rfl]
          have hJ8 := hJ5.below hB7
          have hB8 := below_step hB7 hB6
          clear hJ5 hB6 hB7 c0 c1 c2 c3 c4
          obtain ⟨c0, c1, c2, c3, c4, _⟩ := hJ8.cells
          go_wp2_with fail
          refine (Ahead_any f p f 0 0 0 5000 f0 ftop (by omega) ptop (by decide) (by rw [TL.out]; decide) _).mono ?_
          rintro e w5 ⟨A2, k2, rfl, _, hB9⟩
          rw [H100.out]
          have hB10 := below_step hB9 hB8
          go_wp2_with fail
          refine (awake13 _).mono ?_
          rintro e w6 ⟨rfl, hb⟩
          go_wp2_with fail
          go_ret
          exact ⟨rfl, below_step hb hB10⟩

set_option maxRecDepth 100000 in
theorem lifted (os : Os) (started : os.Started) (H : Type) (enc : TypeId × Value → H) :
    ReturnsInHanded {} Try.checked os 9 .any (Rows.gridAheadSpec.pre6 enc Try.prog Try.f9 Rows.gridAheadRow.domain false) (Rows.gridAheadSpec.post enc Try.prog Try.f9 false true false false) := by
  refine returnsInHanded_of_change (C := Try.checked) own started (by kernel_rfl) Try.func9
    (ChangeSpec.witness6 (enc := enc) (C := Try.checked) false ⟨#[], #[.int .u64 0, .int .u64 0, .int .u64 0, .int .i64 0], []⟩ 8 (by kernel_rfl) (by kernel_rfl) (by kernel_rfl) (by kernel_rfl)) ?_
  intro W base args ds gs before hval0 hW hcnd _
  have hval : ∀ (j : Nat) t v, Try.f9.params[j]? = some t → args[j]? = some v → Value.okWide Try.prog W .any base t v := hval0
  have hW' := hW
  obtain ⟨p, q, hA0, hV, rfl, hfz, hnd⟩ := hW
  have hA : DataW.TrodAll enc Try.prog W 0 (fun _ => true) true Try.f9.params.toList args.toList ds p := hA0
  rw [Try.params9] at hA hval
  obtain ⟨v0, vs0, d0, ds0, p0, q0, hargs, rfl, rfl, h0, r0⟩ := trodAll_cons hA
  obtain ⟨v1, vs1, d1, ds1, p1, q1, rfl, rfl, rfl, h1, r1⟩ := trodAll_cons r0
  obtain ⟨v2, vs2, d2, ds2, p2, q2, rfl, rfl, rfl, h2, r2⟩ := trodAll_cons r1
  obtain ⟨v3, vs3, d3, ds3, p3, q3, rfl, rfl, rfl, h3, r3⟩ := trodAll_cons r2
  obtain ⟨rfl, rfl, rfl⟩ := trodAll_nil r3
  obtain rfl : args = #[v0, v1, v2, v3] := by cases args; simp_all
  obtain ⟨rfl, rfl⟩ := trodVars_none hV
  obtain ⟨a0, rfl, rfl, rfl, w0⟩ := open_int Try.underlying29 (hval 0 29 v0 rfl rfl) h0
  obtain ⟨a1, rfl, rfl, rfl, w1⟩ := open_int Try.underlying29 (hval 1 29 v1 rfl rfl) h1
  obtain ⟨a2, rfl, rfl, rfl, w2⟩ := open_int Try.underlying29 (hval 2 29 v2 rfl rfl) h2
  obtain ⟨a3, rfl, rfl, rfl, w3⟩ := open_int Try.underlying3 (hval 3 3 v3 rfl rfl) h3
  clear hA0 hval0
  refine (walk a0 a1 a2 a3 w0 w1 w2 w3 W).mono fun e W' ⟨he, bel⟩ => ?_
  subst he
  exact ⟨_, rfl, _, _, _, [], _, [], hW', (trodAll_cons_mk (shut_bool Try.underlying4 _) trodAll_mk0), (trodAll_cons_mk (shut_int Try.underlying29 w0) (trodAll_cons_mk (shut_int Try.underlying29 w1) (trodAll_cons_mk (shut_int Try.underlying29 w2) (trodAll_cons_mk (shut_int Try.underlying3 w3) trodAll_mk0)))), rfl, bel.frame _, fun h => by cases h⟩

theorem over : Rows.gridAheadRow.holds Try.pinned (OpenSpec.ofChange Rows.gridAheadSpec) :=
  OpenClaim.holds_of_wide 9 Try.f9 rfl rfl rfl rfl rfl rfl rfl ⟨rfl, rfl, rfl, rfl, rfl⟩ rfl rfl rfl rfl rfl (by kernel_rfl) Try.func9 (by kernel_rfl)
    (of_decide_eq_true (by kernel_rfl)) (by unfold Func.isWrapper; first | (rw [if_pos (by decide +kernel)]; kernel_rfl) | (rw [if_neg (by decide +kernel)]; exact ⟨rfl, rfl⟩))
    (fun os started H enc _ => lifted os started H enc)

theorem proved : Rows.GridAheadSaid :=
  over
#print axioms proved
end Go.Proofs.Ytpcbcnheogjofaa.gridAhead
