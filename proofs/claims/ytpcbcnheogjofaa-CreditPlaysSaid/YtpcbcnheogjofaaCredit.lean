/- Contracts of package credit: so many, so many out, so many out at most. -/
import Derived.Test.YtpcbcnheogjofaaCell
import Derived.Test.YtpcbcnheogjofaaRowAt
import Derived.Deep.RegionHeld3
namespace Go.Proofs.Ytpcbcnheogjofaa
open Go.RowKit Go.Proofs.YtpcbcnheogjofaaW.PrintWords
set_option linter.unusedVariables false
set_option linter.unusedSimpArgs false

/-- Credits: the header's block c, the memory's blocks b and g; at most K accesses so far. -/
structure CrAt (W : World) (c b g : Nat) (n o m K : Int) : Prop where
  hdr : W.heap[c]? = some (.cells #[.int .i64 n, .pointer (some ⟨b, 0, none⟩)] 119 (0, 0))
  mem : ∃ st wi at_ kd : Int, st ≤ K ∧ MemAt W b g [o, m] st wi at_ kd
  cb : c ≠ b
  cg : c ≠ g
  n1 : 1 ≤ n
  n64 : n ≤ 64
  o0 : 0 ≤ o
  on : o ≤ n
  m0 : 0 ≤ m
  mn : m ≤ n
section
variable {W W' : World} {c b g : Nat} {n o m K : Int}
theorem CrAt.cells (h : CrAt W c b g n o m K) : W.cell? ⟨c, 0, none⟩ = some (.int .i64 n) ∧ W.cell? ⟨c, 1, none⟩ = some (.pointer (some ⟨b, 0, none⟩)) := by
  have h1 := h.hdr
  constructor <;> simp [World.cell?, h1]
theorem CrAt.up (h : CrAt W c b g n o m K) {K' : Int} (hk : K ≤ K') : CrAt W c b g n o m K' := by
  obtain ⟨st, wi, at_, kd, hs, hM⟩ := h.mem
  exact { h with mem := ⟨st, wi, at_, kd, by omega, hM⟩ }
theorem CrAt.dr (h : CrAt W c b g n o m K) : CrAt W.drew c b g n o m K := by
  obtain ⟨st, wi, at_, kd, hs, hM⟩ := h.mem
  exact { h with mem := ⟨st, wi, at_, kd, hs, hM.dr⟩, hdr := h.hdr }
theorem CrAt.nown (h : CrAt W c b g n o m K) : ¬ own2 b g c := fun k => k.elim h.cb h.cg
theorem nown_of (h : CrAt W c b g n o m K) : ¬ own2 b g c := h.nown
theorem cell_fr {S : Nat → Prop} (f : Fr S W W') {k j : Nat} {v : Value} (hs : ¬ S k) (hc : W.cell? ⟨k, j, none⟩ = some v) : W'.cell? ⟨k, j, none⟩ = some v := by
  have hk : k < W.heap.size := by
    apply Nat.lt_of_not_le
    intro hle
    simp [World.cell?, Array.getElem?_eq_none hle] at hc
  simp only [World.cell?, f.block k hk hs] at hc ⊢
  exact hc
theorem CrAt.to (h : CrAt W c b g n o m K) (f : Fr (own2 b g) W W') {o' m' K' st wi at_ kd : Int} (hM : MemAt W' b g [o', m'] st wi at_ kd) (hs : st ≤ K') (h0 : 0 ≤ o') (h1 : o' ≤ n) (h2 : 0 ≤ m') (h3 : m' ≤ n) : CrAt W' c b g n o' m' K' :=
  ⟨(f.block c (Array.getElem?_eq_some_iff.1 h.hdr).1 h.nown).trans h.hdr, ⟨st, wi, at_, kd, hs, hM⟩, h.cb, h.cg, h.n1, h.n64, h0, h1, h2, h3⟩

set_option maxRecDepth 100000 in
theorem Out_in (h : CrAt W c b g n o m K) (hs : K ≤ 900000000) : Calls Try.prog 33 #[.pointer (some ⟨c, 0, none⟩)] W fun e w' => e = .returned (.int .i64 o) ∧ CrAt w' c b g n o m (K + 1) ∧ Fr (own2 b g) W w' := by
  obtain ⟨c0, c1⟩ := h.cells
  obtain ⟨st, wi, at_, kd, hst, hM⟩ := h.mem
  have h0 := h.o0
  have h1 := h.on
  have h2 := h.n64
  have q : IntKind.i64.wrap o = o := by rw [IntKind.wrap_i64]; omega
  go_enter Try.func33, Try.ntmps33
  go_wp2_with fail
  refine (Load_in hM (by omega) 0 (by decide) (by simp)).mono ?_
  rintro e w' ⟨rfl, hM', hF⟩
  rw [show List.getD [o, m] (0 : Int).toNat 0 = o from rfl]
  go_wp2_with fail
  go_ret
  exact ⟨rfl, h.to hF hM' (by omega) h0 h1 h.m0 h.mn, hF⟩
set_option maxRecDepth 100000 in
theorem Most_in (h : CrAt W c b g n o m K) (hs : K ≤ 900000000) : Calls Try.prog 36 #[.pointer (some ⟨c, 0, none⟩)] W fun e w' => e = .returned (.int .i64 m) ∧ CrAt w' c b g n o m (K + 1) ∧ Fr (own2 b g) W w' := by
  obtain ⟨c0, c1⟩ := h.cells
  obtain ⟨st, wi, at_, kd, hst, hM⟩ := h.mem
  have h0 := h.m0
  have h1 := h.mn
  have h2 := h.n64
  have q : IntKind.i64.wrap m = m := by rw [IntKind.wrap_i64]; omega
  go_enter Try.func36, Try.ntmps36
  go_wp2_with fail
  refine (Load_in hM (by omega) 1 (by decide) (by simp)).mono ?_
  rintro e w' ⟨rfl, hM', hF⟩
  rw [show List.getD [o, m] (1 : Int).toNat 0 = m from rfl]
  go_wp2_with fail
  go_ret
  exact ⟨rfl, h.to hF hM' (by omega) h.o0 h.on h.m0 h.mn, hF⟩
set_option maxRecDepth 100000 in
theorem Free_in (h : CrAt W c b g n o m K) (hs : K ≤ 900000000) : Calls Try.prog 37 #[.pointer (some ⟨c, 0, none⟩)] W fun e w' => e = .returned (.int .i64 (n - o)) ∧ CrAt w' c b g n o m (K + 1) ∧ Fr (own2 b g) W w' := by
  obtain ⟨c0, c1⟩ := h.cells
  have h0 := h.o0
  have h1 := h.on
  have h2 := h.n64
  have q : IntKind.i64.wrap (n - o) = n - o := by rw [IntKind.wrap_i64]; omega
  have hd := h.dr
  have fd := (Fr.refl (own2 b g) W).dr
  go_enter Try.func37, Try.ntmps37
  go_wp2_with fail
  go_region_held3 (fun w' => w'.cell? ⟨c, 0, none⟩ = some (.int .i64 n)) ((first | assumption | exact hC.cells.1)) (first | (go_at_call 33; refine (Out_in hd (by omega)).mono ?_; rintro e w' ⟨rfl, hC, hF⟩))
  go_wp2_with fail
  go_ret
  exact ⟨rfl, hC, fd.trans hF⟩
set_option maxRecDepth 100000 in
theorem Take_miss (h : CrAt W c b g n n m K) (hs : K ≤ 900000000) : Calls Try.prog 34 #[.pointer (some ⟨c, 0, none⟩)] W fun e w' => e = .returned (.bool false) ∧ CrAt w' c b g n n m (K + 1) ∧ Fr (own2 b g) W w' := by
  have q : ((n - n : Int) == 0) = true := by simp
  go_enter Try.func34, Try.ntmps34
  go_wp2_with fail
  refine (Free_in h hs).mono ?_
  rintro e w' ⟨rfl, hC, hF⟩
  go_wp2_with fail
  go_ret
  exact ⟨rfl, hC, hF⟩
set_option maxRecDepth 100000 in
theorem Take_hit (h : CrAt W c b g n o m K) (hs : K ≤ 900000000) (ho : o < n) {m' : Int} (hm : (m < o + 1 ∧ m' = o + 1) ∨ (o + 1 ≤ m ∧ m' = m)) : Calls Try.prog 34 #[.pointer (some ⟨c, 0, none⟩)] W fun e w' => e = .returned (.bool true) ∧ CrAt w' c b g n (o + 1) m' (K + 4) ∧ Fr (own2 b g) W w' := by
  have q : ((n - o : Int) == 0) = false := by simp; omega
  have q0 := h.o0
  have q1 := h.n64
  have q2 : IntKind.u64.wrap (o + 1) = o + 1 := by rw [IntKind.wrap_u64]; omega
  go_enter Try.func34, Try.ntmps34
  go_wp2_with fail
  refine (Free_in h hs).mono ?_
  rintro e w' ⟨rfl, hC, hF⟩
  obtain ⟨c0, c1⟩ := hC.cells
  obtain ⟨st, wi, at_, kd, hst, hM⟩ := hC.mem
  go_wp2_with fail
  have q3 := hC.m0
  have q4 := hC.mn
  rcases hm with ⟨hmx, rfl⟩ | ⟨hmx, rfl⟩
  · have hmx' : ¬ (o + 1 ≤ m) := by omega
    have hMd := hM.dr
    have HN := Lib.hid (nown_of hC)
    go_region_held3 (fun w' => w'.cell? ⟨c, 1, none⟩ = some (.pointer (some ⟨b, 0, none⟩))) ((first | assumption | exact (cell_fr hF1 HN.out c1) | exact (cell_fr hF2 HN.out (by assumption)) | exact (cell_fr hF3 HN.out (by assumption)))) (first | (go_at_call 19; refine (Load_in hMd (by omega) 1 (by decide) (by simp)).mono ?_; rintro e w1 ⟨rfl, hM1, hF1⟩; rw [show List.getD [o, m] (1 : Int).toNat 0 = m from rfl]) | (go_at_call 23; refine (Add_in hM1 (by omega) 0 (by decide) (by simp) 1).mono ?_; rintro e w2 ⟨rfl, hM2, hF2⟩; rw [show List.getD [o, m] (0 : Int).toNat 0 = o from rfl, q2] at *) | (go_at_call 24; refine (Store_in hM2 (by omega) 1 (by decide) (by simp) _).mono ?_; rintro e w3 ⟨rfl, hM3, hF3⟩))
    go_wp2_with fail
    go_ret
    exact ⟨rfl, hC.to (((Fr.refl (own2 b g) _).dr.trans hF1).trans (hF2.trans hF3)) hM3 (by omega) (by omega) (by omega) (by omega) (by omega), hF.trans (((Fr.refl (own2 b g) _).dr.trans hF1).trans (hF2.trans hF3))⟩
  · have hmx' : ¬ (m' < o + 1) := by omega
    have hMd := hM.dr
    have HN := Lib.hid (nown_of hC)
    go_region_held3 (fun w' => w'.cell? ⟨c, 1, none⟩ = some (.pointer (some ⟨b, 0, none⟩))) ((first | assumption | exact (cell_fr hF1 HN.out c1) | exact (cell_fr hF2 HN.out (by assumption)) | exact (cell_fr hF3 HN.out (by assumption)))) (first | (go_at_call 19; refine (Load_in hMd (by omega) 1 (by decide) (by simp)).mono ?_; rintro e w1 ⟨rfl, hM1, hF1⟩; rw [show List.getD [o, m'] (1 : Int).toNat 0 = m' from rfl]) | (go_at_call 23; refine (Add_in hM1 (by omega) 0 (by decide) (by simp) 1).mono ?_; rintro e w2 ⟨rfl, hM2, hF2⟩; rw [show List.getD [o, m'] (0 : Int).toNat 0 = o from rfl, q2] at *) | (go_at_call 24; refine (Store_in hM2 (by omega) 1 (by decide) (by simp) _).mono ?_; rintro e w3 ⟨rfl, hM3, hF3⟩))
    rw [if_neg (by omega)] at hM3
    go_wp2_with fail
    go_ret
    exact ⟨rfl, hC.to (((Fr.refl (own2 b g) _).dr.trans hF1).trans (hF2.trans hF3)) hM3 (by omega) (by omega) (by omega) (by omega) (by omega), hF.trans (((Fr.refl (own2 b g) _).dr.trans hF1).trans (hF2.trans hF3))⟩
set_option maxRecDepth 100000 in
theorem Give_miss (h : CrAt W c b g n 0 m K) (hs : K ≤ 900000000) : Calls Try.prog 35 #[.pointer (some ⟨c, 0, none⟩)] W fun e w' => e = .returned (.int .i64 7) ∧ CrAt w' c b g n 0 m (K + 1) ∧ Fr (own2 b g) W w' := by
  go_enter Try.func35, Try.ntmps35
  go_wp2_with fail
  refine (Out_in h hs).mono ?_
  rintro e w' ⟨rfl, hC, hF⟩
  go_wp2_with fail
  go_ret
  exact ⟨rfl, hC, hF⟩
set_option maxRecDepth 100000 in
theorem Give_hit (h : CrAt W c b g n o m K) (hs : K ≤ 900000000) (ho : 0 < o) : Calls Try.prog 35 #[.pointer (some ⟨c, 0, none⟩)] W fun e w' => e = .returned (.int .i64 0) ∧ CrAt w' c b g n (o - 1) m (K + 3) ∧ Fr (own2 b g) W w' := by
  have q : ((o : Int) == 0) = false := by simp; omega
  have q0 := h.o0
  have q1 := h.n64
  have q2 := h.on
  have q3 : IntKind.u64.wrap (o - 1) = o - 1 := by rw [IntKind.wrap_u64]; omega
  go_enter Try.func35, Try.ntmps35
  go_wp2_with fail
  refine (Out_in h hs).mono ?_
  rintro e w' ⟨rfl, hC, hF⟩
  obtain ⟨c0, c1⟩ := hC.cells
  obtain ⟨st, wi, at_, kd, hst, hM⟩ := hC.mem
  go_wp2_with fail
  have q5 := hC.m0
  have q6 := hC.mn
  have hMd := hM.dr
  have HN := Lib.hid (nown_of hC)
  go_region_held3 (fun w' => w'.cell? ⟨c, 1, none⟩ = some (.pointer (some ⟨b, 0, none⟩))) ((first | assumption | exact (cell_fr hF1 HN.out c1) | exact (cell_fr hF2 HN.out (by assumption)))) (first | (go_at_call 19; refine (Load_in hMd (by omega) 0 (by decide) (by simp)).mono ?_; rintro e w1 ⟨rfl, hM1, hF1⟩; rw [show List.getD [o, m] (0 : Int).toNat 0 = o from rfl]) | (go_at_call 24; refine (Store_in hM1 (by omega) 0 (by decide) (by simp) _).mono ?_; rintro e w2 ⟨rfl, hM2, hF2⟩))
  go_wp2_with fail
  go_ret
  exact ⟨rfl, hC.to (((Fr.refl (own2 b g) _).dr.trans hF1).trans hF2) hM2 (by omega) (by omega) (by omega) (by omega) (by omega), hF.trans (((Fr.refl (own2 b g) _).dr.trans hF1).trans hF2)⟩
end
set_option maxRecDepth 100000 in
theorem CNew_in (n : Int) (h1 : 1 ≤ n) (h2 : n ≤ 64) (w : World) : Calls Try.prog 32 #[.int .i64 n] w fun e w' => e = .returned (.tuple #[.pointer (some ⟨w'.heap.size - 1, 0, none⟩), .int .i64 0]) ∧ CrAt w' (w'.heap.size - 1) (w.heap.size + 1) w.heap.size n 0 0 0 ∧ Below w.heap.size w w' := by
  go_enter Try.func32, Try.ntmps32
  go_wp2_with fail
  refine (New_in 2 (by decide) (by decide) _).mono ?_
  rintro e w1 ⟨rfl, hM, hB⟩
  rw [show List.replicate (2 : Int).toNat (0 : Int) = [0, 0] from rfl] at hM
  have k1 : w.heap.size + 1 < w1.heap.size := (Array.getElem?_eq_some_iff.1 hM.hdr).1
  go_wp2_with fail
  go_ret2
  refine ⟨by simp, ⟨?_, ⟨0, 0, 0, 0, by decide, hM.al _⟩, ?_, ?_, h1, h2, by decide, by omega, by decide, by omega⟩, below_al hB _⟩
  · rw [alloc_at (by simp)]
  · simp; omega
  · simp; omega
set_option maxRecDepth 100000 in
theorem CNew_out (n : Int) (h : n < 1 ∨ 64 < n) (w : World) : Calls Try.prog 32 #[.int .i64 n] w fun e w' => e = .returned (.tuple #[.pointer none, .int .i64 1]) ∧ w = w' := by
  rcases h with h | h
  · go_enter Try.func32, Try.ntmps32
    go_wp2_with fail
    go_ret2
    exact ⟨rfl, rfl⟩
  · have h' : ¬ n < 1 := by omega
    go_enter Try.func32, Try.ntmps32
    go_wp2_with fail
    go_ret2
    exact ⟨rfl, rfl⟩
theorem own2_ge' (n : Nat) : ∀ k, own2 (n + 1) n k → n ≤ k := by
  intro k h
  rcases h with h | h <;> omega
set_option maxRecDepth 100000 in
theorem awake15 (w : World) : Calls Try.prog 38 #[] w fun e w' => e = .returned (.bool true) ∧ Below w.heap.size w w' := by
  have HO := Lib.hid (own2_ge' w.heap.size)
  go_enter Try.func38, Try.ntmps38
  go_wp2_with fail
  refine (CNew_in 1 (by decide) (by decide) _).mono ?_
  rintro e w1 ⟨rfl, hC, hB⟩
  generalize w1.heap.size - 1 = c at hC
  go_wp2_with fail
  refine (Take_hit hC (by decide) (by decide) (Or.inl ⟨by decide, rfl⟩)).mono ?_
  rintro e w2 ⟨rfl, hC2, hF2⟩
  go_wp2_with fail
  refine (Take_miss hC2 (by decide)).mono ?_
  rintro e w3 ⟨rfl, hC3, hF3⟩
  go_wp2_with fail
  refine (Give_hit hC3 (by decide) (by decide)).mono ?_
  rintro e w4 ⟨rfl, hC4, hF4⟩
  have hB4 := hF4.below (hF3.below (hF2.below hB HO.out) HO.out) HO.out
  clear hC hC2 hC3 hF2 hF3 hF4 hB
  go_wp2_with fail
  refine (Take_hit hC4 (by decide) (by decide) (Or.inr ⟨by decide, rfl⟩)).mono ?_
  rintro e w5 ⟨rfl, hC5, hF5⟩
  go_wp2_with fail
  refine (Give_hit hC5 (by decide) (by decide)).mono ?_
  rintro e w6 ⟨rfl, hC6, hF6⟩
  go_wp2_with fail
  refine (Give_miss hC6 (by decide)).mono ?_
  rintro e w7 ⟨rfl, hC7, hF7⟩
  go_wp2_with fail
  go_ret
  exact ⟨rfl, hF7.below (hF6.below (hF5.below hB4 HO.out) HO.out) HO.out⟩
end Go.Proofs.Ytpcbcnheogjofaa
