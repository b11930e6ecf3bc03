/- Contracts of package body, second part: body.Ok at any ops; the document's own answer. -/
import Derived.Test.YtpcbcnheogjofaaBody
import Derived.Shelf.Abstract
namespace Go.Proofs.Ytpcbcnheogjofaa
open Go.RowKit Go.Maps Go.Shelf Go.Proofs.YtpcbcnheogjofaaW.PrintWords
set_option linter.unusedVariables false
set_option linter.unusedSimpArgs false

section
variable {W W' : World}
set_option maxRecDepth 100000 in
theorem notFits (k x y : Int) {mb c : Nat} (hc : W.cell? ⟨c, 0, none⟩ = some (.map (some mb))) (hM : PMap W mb spanF) : Calls Try.prog 112 #[.agg #[.int .i64 k, .int .i64 x, .int .i64 y], .pointer (some ⟨c, 0, none⟩)] W fun e w' => e = .returned (.bool (!okOp k x y)) ∧ Below W.heap.size W w' := by
  obtain ⟨W1, hW1⟩ : ∃ W1, W.alloc (.cells #[.int .i64 k, .int .i64 x, .int .i64 y] 135) = W1 := ⟨_, rfl⟩
  have hB1 : Below W.heap.size W W1 := by rw [← hW1]; exact below_al (Below.refl _ _) _
  have hP1 : W1.heap[W.heap.size]? = some (.cells #[.int .i64 k, .int .i64 x, .int .i64 y] 135 (0, 0)) := by rw [← hW1]; exact heap_alloc_new W _
  obtain ⟨bx, hbx⟩ : ∃ bx, W.heap.size = bx := ⟨_, rfl⟩
  rw [hbx] at hP1
  obtain ⟨c0, c1, c2⟩ : W1.cell? ⟨bx, 0, none⟩ = some (.int .i64 k) ∧ W1.cell? ⟨bx, 1, none⟩ = some (.int .i64 x) ∧ W1.cell? ⟨bx, 2, none⟩ = some (.int .i64 y) := by
    refine ⟨?_, ?_, ?_⟩ <;> simp [World.cell?, hP1]
  have d0 := cell_goes hB1 hc
  have HF := Lib.hid (fits_any k x y (PMap.below hM hB1))
  have HB := Lib.hid hB1
  clear hB1 hP1 hM hc
  go_enter Try.func112, Try.ntmps112
  go_wp2_with fail
  refine HF.out.mono ?_
  rintro e w' ⟨rfl, hB⟩
  go_wp2_with fail
  go_ret
  exact ⟨rfl, below_step hB HB.out⟩
set_option maxRecDepth 100000 in
set_option maxHeartbeats 4000000 in
theorem IndexOk (A : Option Addr) (cap : Nat) (L : List Op3) (hL : L.length ≤ 1000) (hO : OpsAt W A L) {mb c : Nat} (hc : W.cell? ⟨c, 0, none⟩ = some (.map (some mb))) (hM : PMap W mb spanF) :
    Calls Try.prog 116 #[.slice A L.length cap, .func (Fn.func 112) #[] #[.pointer (some ⟨c, 0, none⟩)]] W fun e w' => (∃ r : Int, e = .returned (.int .i64 r) ∧ decide (r ≥ 0) = !okL L) ∧ Below W.heap.size W w' := by
  have eg : ∀ args w, (callFunc 112 args).run Try.prog w = .ok (.enter 112 args) w := enters_of Try.func112 (by kernel_rfl) rfl
  obtain ⟨n, hn⟩ : ∃ n, L.length = n := ⟨_, rfl⟩
  have HN := Lib.hid hn
  have HO := Lib.hid hO
  have HC := Lib.hid hc
  have HM := Lib.hid hM
  rw [hn] at hL ⊢
  clear hO hc hM hn
  go_enter Try.func116, Try.ntmps116
  go_wp2_with fail
  go_loopg [5, 8] n (fun gg v5 v8 wr => ∃ i : Nat, gg = n - i ∧ i ≤ n ∧ v8 = .int .i64 i ∧ okL (L.take i) = true ∧ Below W.heap.size W wr)
  case atStart => exact ⟨0, by omega, by omega, rfl, rfl, Below.refl _ _⟩
  case round =>
    obtain ⟨i, rfl, hi, rfl, hok, hB⟩ := hrel
    by_cases hlt : i < n
    · have hg : L[i]? = some (L[i]'(by rw [HN.out]; exact hlt)) := List.getElem?_eq_getElem _
      obtain ⟨⟨k, x, y⟩, ho⟩ : ∃ o, L[i]'(by rw [HN.out]; exact hlt) = o := ⟨_, rfl⟩
      rw [ho] at hg
      have htk : okL (L.take (i + 1)) = (okL (L.take i) && okOp k x y) := by
        unfold okL
        rw [List.take_add_one, List.all_append, hg]
        simp
      rcases HO.out with h0 | ⟨b, off, rfl, hlt', hcs⟩
      · exfalso; rw [h0] at hg; simp at hg
      obtain ⟨x0, x1, x2⟩ := hcs i k x y hg
      have c0 := cell_keeps hB hlt' x0
      have c1 := cell_keeps hB hlt' x1
      have c2 := cell_keeps hB hlt' x2
      have hcc := cell_goes hB HC.out
      have hMM := PMap.below HM.out hB
      have HNF := Lib.hid (notFits k x y hcc hMM)
      have HTK := Lib.hid htk
      have HOK := Lib.hid hok
      have HG := Lib.hid hg
      clear hcs x0 x1 x2 hcc hMM htk hok hg ho
      go_wp2_with fail
      refine HNF.out.mono ?_
      rintro e w2 ⟨rfl, hB2⟩
      cases hk : okOp k x y with
      | false =>
        have HK := Lib.hid hk
        clear hk
        go_wp2_with fail
        go_ret
        refine ⟨⟨i, rfl, ?_⟩, below_step hB2 hB⟩
        have : okL L = false := by
          unfold okL
          rw [List.all_eq_false]
          exact ⟨(k, x, y), List.mem_of_getElem? HG.out, by simp [HK.out]⟩
        rw [this]
        simp
      | true =>
        have hst : okL (L.take (i + 1)) = true := by rw [HTK.out, HOK.out, hk]; rfl
        have HST := Lib.hid hst
        clear hk hst
        go_wp2_with fail
        go_roundg (n - (i + 1))
        case measure => omega
        case rel => exact ⟨i + 1, rfl, by omega, by go_num, HST.out, below_step hB2 hB⟩
    · obtain rfl : i = n := by omega
      have hall : okL L = true := by rw [← HN.out, List.take_length] at hok; exact hok
      have HALL := Lib.hid hall
      clear hall hok
      go_wp2_with fail
      go_ret
      refine ⟨⟨-1, rfl, ?_⟩, hB⟩
      rw [HALL.out]
      rfl
set_option maxRecDepth 100000 in
theorem ContainsBad (A : Option Addr) (cap : Nat) (L : List Op3) (hL : L.length ≤ 1000) (hO : OpsAt W A L) {mb c : Nat} (hc : W.cell? ⟨c, 0, none⟩ = some (.map (some mb))) (hM : PMap W mb spanF) :
    Calls Try.prog 111 #[.slice A L.length cap, .func (Fn.func 112) #[] #[.pointer (some ⟨c, 0, none⟩)]] W fun e w' => e = .returned (.bool (!okL L)) ∧ Below W.heap.size W w' := by
  have HI := Lib.hid (IndexOk A cap L hL hO hc hM)
  clear hO hc hM
  go_enter Try.func111, Try.ntmps111
  go_wp2_with fail
  refine HI.out.mono ?_
  rintro e w1 ⟨⟨r, rfl, hr⟩, hB⟩
  have hr2 : decide (0 ≤ r) = !okL L := hr
  go_wp2_with fail
  go_ret
  exact ⟨rfl, hB⟩
set_option maxRecDepth 100000 in
theorem BodyOk_any (A : Option Addr) (cap : Nat) (L : List Op3) (hL : L.length ≤ 1000) (hO : OpsAt W A L) : Calls Try.prog 92 #[.slice A L.length cap] W fun e w' => e = .returned (.bool (bodyB L)) ∧ Below W.heap.size W w' := by
  have HO := Lib.hid hO
  clear hO
  go_enter Try.func92, Try.ntmps92
  go_wp2_with fail
  refine (spans_any _).mono ?_
  rintro e w1 ⟨es, clock, rfl, rfl, hE⟩
  go_upto_region 2 with fail
  obtain ⟨W2, hW2⟩ : ∃ W2, ((W.alloc (.map es clock)).alloc (.cells #[.map (some W.heap.size)] 156)).drew = W2 := ⟨_, rfl⟩
  have hB2 : Below W.heap.size W W2 := by rw [← hW2]; exact below_dr (below_al (below_al (Below.refl _ _) _) _)
  have hM2 : PMap W2 W.heap.size spanF := by
    refine ⟨es, clock, ?_, hE⟩
    rw [← hW2]
    exact alloc_old (heap_alloc_new W _)
  have hc2 : W2.cell? ⟨W.heap.size + 1, 0, none⟩ = some (.map (some W.heap.size)) := by
    have : W2.heap[W.heap.size + 1]? = some (.cells #[.map (some W.heap.size)] 156 (0, 0)) := by
      rw [← hW2]
      show ((W.alloc (.map es clock)).alloc (.cells #[.map (some W.heap.size)] 156)).heap[W.heap.size + 1]? = _
      rw [show W.heap.size + 1 = (W.alloc (.map es clock)).heap.size from by simp]
      exact heap_alloc_new _ _
    simp [World.cell?, this]
  rw [hW2]
  have HCB := Lib.hid (ContainsBad A cap L hL (HO.out.below hB2) hc2 hM2)
  have HB := Lib.hid hB2
  clear hW2 hE hM2 hc2 hB2
  by_cases h16 : L.length ≤ 16
  · go_wp2_with fail
    refine HCB.out.mono ?_
    rintro e w3 ⟨rfl, hB3⟩
    go_wp2_with fail
    go_ret
    exact ⟨by simp [bodyB, h16], below_step hB3 HB.out⟩
  · have g16 : decide (L.length ≤ 16) = false := by simpa using h16
    go_wp2_with fail
    go_ret
    exact ⟨by simp [bodyB, h16], HB.out⟩
