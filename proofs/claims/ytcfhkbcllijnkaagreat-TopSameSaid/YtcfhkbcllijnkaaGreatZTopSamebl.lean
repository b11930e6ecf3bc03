/- Contracts and plain laws that the proof of TopSame goes by, under no condition. -/
import Derived.Test.YtcfhkbcllijnkaaGreatZTopSamebk
import Derived.Test.YtcfhkbcllijnkaaGreatZTopSameaq
import Derived.Test.YtcfhkbcllijnkaaGreatZTopSamead
import Derived.Test.YtcfhkbcllijnkaaGreatZTopSameam
import Derived.Test.YtcfhkbcllijnkaaGreatZTopSameba
set_option linter.unusedVariables false
set_option linter.unusedSimpArgs false
set_option maxRecDepth 100000
set_option maxHeartbeats 40000000
namespace Go.Proofs.YtcfhkbcllijnkaaGreat
open Go.RowKit Go.Maps Go.Shelf Go.Proofs.YtcfhkbcllijnkaaGreatW.PrintWords
def CM.fin (c : CM) (t k : Nat) (x : Int × Tk) : CM := { c with rows := c.rows.set k (4, x.2.ran), o := c.o - 1, evs := c.evs ++ [⟨4, t, (k : Int) + 1, 0, c.tick⟩] }
def CM.wake (c : CM) (t : Nat) (y : Tk) : CM := ({ c with d := false, rows := c.rows.set 1 (2, y) } : CM).rel t 1 (2, y)
section
variable {W W' : World} {A : CA} {S S' : CS} {N N' : Nat}
theorem C_again (h : CoreAt W A S N) (t : Int) (k : Nat) (x : Int × Tk) (hx : S.t.rows[k]? = some x) (ok : Bool) : Calls Tryz.prog 219 #[.pointer (some ⟨A.cb, 0, none⟩), .int .i64 t, .int .i64 ((k : Int) + 1), .bool ok] W fun e w' => e = .returned (.bool false) ∧ Below W.heap.size W w' := by
 obtain ⟨-, -, -, -, -, -, -, c7, -⟩ := h.cells
 have HJ := Lib.hid (T_Job h.t k x hx)
 clear h hx
 go_enter Tryz.func219, Tryz.ntmps219
 go_wp2_with fail
 refine HJ.out.mono ?_
 rintro e w1 ⟨rfl, hb⟩
 have HB := Lib.hid hb
 clear hb
 go_wp2_with fail
 go_ret
 exact ⟨rfl, below_al HB.out _⟩
theorem C_Finish0 (h : CoreAt W A S N) (hN : N ≤ 300000000) (t : Nat) (ht : t < A.q.lp.length) (k : Nat) (x : Tk) (hx : S.t.rows[k]? = some (3, x)) (ho : 0 < S.o) (hd : S.d = false) : Calls Tryz.prog 159 #[.pointer (some ⟨A.cb, 0, none⟩), .int .i64 t, .int .i64 ((k : Int) + 1), .bool true] W fun e w' => e = .returned (.int .i64 0) ∧ ∃ S', CStep W A S w' S' (N + 10) ∧ S'.cm A = (S.cm A).fin t k (3, x) := by
 have HS := Lib.hid (C_Status h (by omega) k _ hx)
 have H := Lib.hid (And.intro h (And.intro hx (And.intro ho (And.intro hd ht))))
 clear h hx ho hd ht
 go_enter Tryz.func159, Tryz.ntmps159
 go_wp2_with fail
 refine HS.out.mono ?_
 rintro e w1 ⟨rfl, k1⟩
 obtain ⟨h, hx, ho, hd, ht⟩ := H.out
 have HT := Lib.hid (C_there k1.at_ t ht)
 have HA := Lib.hid (C_again k1.at_ t k (3, x) hx true)
 have H1 := Lib.hid k1
 clear k1 h hx ho hd ht
 go_wp2_with fail
 refine HT.out.mono ?_
 rintro e w' ⟨rfl, rfl⟩
 go_wp2_with fail
 refine HA.out.mono ?_
 rintro e w2 ⟨rfl, hb2⟩
 have k2 := H1.out.trans (CStep.below H1.out.at_ hb2)
 obtain ⟨S2, hS2⟩ : ∃ S2 : CS, { S with t := { S.t with B := S.t.B + 1 } } = S2 := ⟨_, rfl⟩
 rw [hS2] at k2
 have hr2 : S2.t.rows = S.t.rows := by rw [← hS2]
 have hbn := k2.at_.bnd
 obtain ⟨-, -, -, -, -, -, -, c7, -⟩ := k2.at_.cells
 have HU := Lib.hid (T_Turn k2.at_.t (by omega) k (3, x) (by rw [hr2]; exact H.out.2.1) 4 (by omega) (by omega) (show canB 3 4 = true by decide))
 have H2 := Lib.hid (And.intro k2 (And.intro hS2 (And.intro hr2 hbn)))
 clear k2 hS2 hr2 hbn hb2
 go_wp2_with fail
 refine HU.out.mono ?_
 rintro e w3 ⟨rfl, t3, ht3, hp3, hr3, hb3⟩
 obtain ⟨k2, hS2, hr2, hbn⟩ := H2.out
 have k3 := k2.trans (k2.at_.setT (N' := N + 3) ht3 hp3 (by omega) (by omega))
 obtain ⟨S3, hS3⟩ : ∃ S3 : CS, { S2 with t := t3 } = S3 := ⟨_, rfl⟩
 rw [hS3] at k3
 have ho3 : S3.o = S.o := by rw [← hS3, ← hS2]
 have hbn3 := k3.at_.bnd
 have hcr := Give_hit k3.at_.cr (by omega) (by rw [ho3]; exact H.out.2.2.1)
 have HG := Lib.hid hcr
 obtain ⟨-, -, -, -, -, -, c6, -⟩ := k3.at_.cells
 have H3 := Lib.hid (And.intro k3 (And.intro hS3 (And.intro hr3 (And.intro ho3 hbn3))))
 clear ht3 hp3 hr3 hb3 k2 hS2 hr2 hbn k3 hS3 ho3 hbn3 hcr
 go_wp2_with fail
 refine HG.out.mono ?_
 rintro e w4 ⟨rfl, hc4, hf4⟩
 obtain ⟨k3, hS3, hr3, ho3, hbn3⟩ := H3.out
 have k4 := k3.trans (k3.at_.setCr (N' := N + 6) hc4 hf4 (by omega) (by omega))
 obtain ⟨S4, hS4⟩ : ∃ S4 : CS, { S3 with o := S3.o - 1, m := S3.m, K := S3.K + 3 } = S4 := ⟨_, rfl⟩
 rw [hS4] at k4
 have HTl := Lib.hid (C_tell k4.at_ (by omega) 4 t ((k : Int) + 1) 0)
 have H4 := Lib.hid (And.intro k4 hS4)
 clear hc4 hf4 k3 hS3 hr3 ho3 hbn3 k4 hS4
 go_wp2_with fail
 refine HTl.out.mono ?_
 rintro e w5 ⟨rfl, v5, k5⟩
 obtain ⟨k4, hS4⟩ := H4.out
 have k05 := k4.trans k5
 obtain ⟨S5, hS5⟩ : ∃ S5 : CS, { S4 with evv := v5, evs := S4.evs ++ [⟨4, t, (k : Int) + 1, 0, S4.tick⟩] } = S5 := ⟨_, rfl⟩
 rw [hS5] at k05
 have hd5 : S5.d = false := by rw [← hS5, ← hS4, ← H3.out.2.1, ← H2.out.2.1]; exact H.out.2.2.2.1
 obtain ⟨-, -, -, -, -, c5, -⟩ := k05.at_.cells
 have hdag := k05.at_.d
 rw [hd5] at hdag
 have HD := Lib.hid (D_Done0 hdag ((k : Int) + 1))
 have hcm : S5.cm A = (S.cm A).fin t k (3, x) := by
  have e3 := H3.out.2.1
  have e2 := H2.out.2.1
  have er := H3.out.2.2.1
  rw [← hS5, ← hS4, ← e3, ← e2]
  unfold CS.cm CM.fin
  dsimp only
  rw [er, if_pos (.inl trivial), H2.out.2.2.1]
 have H5 := Lib.hid (And.intro k05 hcm)
 clear k4 hS4 k5 k05 hS5 hd5 hdag hcm
 go_wp2_with fail
 refine HD.out.mono ?_
 rintro e w6 ⟨rfl, hb6⟩
 have H6 := Lib.hid (H5.out.1.trans (CStep.below H5.out.1.at_ hb6))
 clear hb6
 go_wp2_with fail
 refine wp_loop_rounds 1 ?_
 rw [rounds_succ]
 go_wp2_with fail
 go_ret
 exact ⟨rfl, _, H6.out.up (by omega), H5.out.2⟩
theorem C_Finish1 (h : CoreAt W A S N) (hN : N ≤ 300000000) (t : Nat) (ht : t < A.q.lp.length) (x y : Tk) (hx : S.t.rows[0]? = some (3, x)) (hy : S.t.rows[1]? = some (1, y)) (ho : 0 < S.o) (hd : S.d = true) (hq : (S.q.q A.q.k).Ok) : Calls Tryz.prog 159 #[.pointer (some ⟨A.cb, 0, none⟩), .int .i64 t, .int .i64 1, .bool true] W fun e w' => e = .returned (.int .i64 0) ∧ ∃ S', CStep W A S w' S' (N + 20) ∧ S'.cm A = ((S.cm A).fin t 0 (3, x)).wake t y := by
 have HS := Lib.hid (show Calls Tryz.prog 22 #[.pointer (some ⟨A.cb, 0, none⟩), .int .i64 1] W fun e w' => e = .returned (.int .i64 3) ∧ CStep W A S w' { S with t := { S.t with B := S.t.B + 1 } } (N + 1) from C_Status h (by omega) 0 _ hx)
 have H := Lib.hid (And.intro h (And.intro hx (And.intro ho (And.intro hd (And.intro ht (And.intro hy hq))))))
 clear h hx ho hd ht hy hq
 go_enter Tryz.func159, Tryz.ntmps159
 go_wp2_with fail
 refine HS.out.mono ?_
 rintro e w1 ⟨rfl, k1⟩
 obtain ⟨h, hx, ho, hd, ht, hy, hq⟩ := H.out
 have HT := Lib.hid (C_there k1.at_ t ht)
 have HA := Lib.hid (show Calls Tryz.prog 219 #[.pointer (some ⟨A.cb, 0, none⟩), .int .i64 t, .int .i64 1, .bool true] w1 fun e w' => e = .returned (.bool false) ∧ Below w1.heap.size w1 w' from C_again k1.at_ t 0 (3, x) hx true)
 have H1 := Lib.hid k1
 clear k1 h hx ho hd ht hy hq
 go_wp2_with fail
 refine HT.out.mono ?_
 rintro e w' ⟨rfl, rfl⟩
 go_wp2_with fail
 refine HA.out.mono ?_
 rintro e w2 ⟨rfl, hb2⟩
 have k2 := H1.out.trans (CStep.below H1.out.at_ hb2)
 obtain ⟨S2, hS2⟩ : ∃ S2 : CS, { S with t := { S.t with B := S.t.B + 1 } } = S2 := ⟨_, rfl⟩
 rw [hS2] at k2
 have hr2 : S2.t.rows = S.t.rows := by rw [← hS2]
 have hbn := k2.at_.bnd
 obtain ⟨-, -, -, -, -, -, -, c7, -⟩ := k2.at_.cells
 have hU := (T_Turn k2.at_.t (by omega) 0 (3, x) (by rw [hr2]; exact H.out.2.1) 4 (by omega) (by omega) (show canB 3 4 = true by decide))
 have HU := Lib.hid (show Calls Tryz.prog 100 #[.pointer (some ⟨A.t.t, 0, none⟩), .int .i64 1, .int .i64 4] w2 fun e w' => e = .returned (.int .i64 0) ∧ ∃ S', TabAt w' A.t S' ∧ PStep w2 (tOS A.t S2.t) w' (tOS A.t S') ∧ S'.rows = S2.t.rows.set 0 (4, x.ran) ∧ S'.B = S2.t.B + 2 from by simpa using hU)
 clear hU
 have H2 := Lib.hid (And.intro k2 (And.intro hS2 (And.intro hr2 hbn)))
 clear k2 hS2 hr2 hbn hb2
 go_wp2_with fail
 refine HU.out.mono ?_
 rintro e w3 ⟨rfl, t3, ht3, hp3, hr3, hb3⟩
 obtain ⟨k2, hS2, hr2, hbn⟩ := H2.out
 have k3 := k2.trans (k2.at_.setT (N' := N + 3) ht3 hp3 (by omega) (by omega))
 obtain ⟨S3, hS3⟩ : ∃ S3 : CS, { S2 with t := t3 } = S3 := ⟨_, rfl⟩
 rw [hS3] at k3
 have ho3 : S3.o = S.o := by rw [← hS3, ← hS2]
 have hbn3 := k3.at_.bnd
 have hcr := Give_hit k3.at_.cr (by omega) (by rw [ho3]; exact H.out.2.2.1)
 have HG := Lib.hid hcr
 obtain ⟨-, -, -, -, -, -, c6, -⟩ := k3.at_.cells
 have H3 := Lib.hid (And.intro k3 (And.intro hS3 (And.intro hr3 (And.intro ho3 hbn3))))
 clear ht3 hp3 hr3 hb3 k2 hS2 hr2 hbn k3 hS3 ho3 hbn3 hcr
 go_wp2_with fail
 refine HG.out.mono ?_
 rintro e w4 ⟨rfl, hc4, hf4⟩
 obtain ⟨k3, hS3, hr3, ho3, hbn3⟩ := H3.out
 have k4 := k3.trans (k3.at_.setCr (N' := N + 6) hc4 hf4 (by omega) (by omega))
 obtain ⟨S4, hS4⟩ : ∃ S4 : CS, { S3 with o := S3.o - 1, m := S3.m, K := S3.K + 3 } = S4 := ⟨_, rfl⟩
 rw [hS4] at k4
 have HTl := Lib.hid (C_tell k4.at_ (by omega) 4 t 1 0)
 have H4 := Lib.hid (And.intro k4 hS4)
 clear hc4 hf4 k3 hS3 hr3 ho3 hbn3 k4 hS4
 go_wp2_with fail
 refine HTl.out.mono ?_
 rintro e w5 ⟨rfl, v5, k5⟩
 obtain ⟨k4, hS4⟩ := H4.out
 have k05 := k4.trans k5
 obtain ⟨S5, hS5⟩ : ∃ S5 : CS, { S4 with evv := v5, evs := S4.evs ++ [⟨4, t, 1, 0, S4.tick⟩] } = S5 := ⟨_, rfl⟩
 rw [hS5] at k05
 have hd5 : S5.d = true := by rw [← hS5, ← hS4, ← H3.out.2.1, ← H2.out.2.1]; exact H.out.2.2.2.1
 obtain ⟨-, -, -, -, -, c5, -⟩ := k05.at_.cells
 have hdag := k05.at_.d
 rw [hd5] at hdag
 have HD := Lib.hid (D_Done1 hdag)
 have hcm : S5.cm A = (S.cm A).fin t 0 (3, x) := by
  have e3 := H3.out.2.1
  have e2 := H2.out.2.1
  have er := H3.out.2.2.1
  rw [← hS5, ← hS4, ← e3, ← e2]
  unfold CS.cm CM.fin
  dsimp only
  rw [er, H2.out.2.2.1]
  rfl
 have H5 := Lib.hid (And.intro k05 (And.intro hcm hd5))
 clear k4 hS4 k5 k05 hS5 hd5 hdag hcm
 go_wp2_with fail
 refine HD.out.mono ?_
 rintro e w6 ⟨v6, rfl, hv6, ho6, hD6, hf6⟩
 rcases hv6.form with ⟨-, hz, -⟩ | ⟨q6, off6, cap6, rfl, hle6, hmx6, hql6, hqc6⟩
 · omega
 have q0 : w6.cell? ⟨q6, off6, none⟩ = some (.int .i64 2) := hqc6 0 _ rfl
 have hcap6 : (cap6 : Int) ≤ 9223372036854775807 := by unfold maxLen at hmx6; omega
 have k6 := H5.out.1.trans (H5.out.1.at_.setD hD6 hf6)
 obtain ⟨S6, hS6⟩ : ∃ S6 : CS, { S5 with d := false } = S6 := ⟨_, rfl⟩
 rw [hS6] at k6
 have hm6 : S6.cm A = { (S.cm A).fin t 0 (3, x) with d := false } := by rw [← hS6, ← H5.out.2.1]; rfl
 have hr6 : S6.t.rows = S.t.rows.set 0 (4, x.ran) := congrArg CM.rows hm6
 have hy6 : S6.t.rows[1]? = some (1, y) := by
  rw [hr6, List.getElem?_set_ne (by omega)]
  exact H.out.2.2.2.2.2.1
 obtain ⟨-, -, -, -, -, -, -, c7', -⟩ := k6.at_.cells
 have hbn6 := k6.at_.bnd
 have hU := T_Turn k6.at_.t (by omega) 1 (1, y) hy6 2 (by omega) (by omega) (show canB 1 2 = true by decide)
 have HU6 := Lib.hid (show Calls Tryz.prog 100 #[.pointer (some ⟨A.t.t, 0, none⟩), .int .i64 2, .int .i64 2] w6 fun e w' => e = .returned (.int .i64 0) ∧ ∃ S', TabAt w' A.t S' ∧ PStep w6 (tOS A.t S6.t) w' (tOS A.t S') ∧ S'.rows = S6.t.rows.set 1 (2, y) ∧ S'.B = S6.t.B + 2 from by simpa using hU)
 have H6 := Lib.hid (And.intro k6 (And.intro hm6 (And.intro hy6 hbn6)))
 clear hv6 ho6 hD6 hf6 hle6 hmx6 hql6 hqc6 k6 hS6 hm6 hr6 hy6 hbn6 hU
 go_wp2_with fail
 refine wp_loop_rounds 2 ?_
 rw [rounds_succ]
 go_wp2_with fail
 refine HU6.out.mono ?_
 rintro e w7 ⟨rfl, t7, ht7, hp7, hr7, hb7⟩
 obtain ⟨k6, hm6, hy6, hbn6⟩ := H6.out
 have k7 := k6.trans (k6.at_.setT (N' := N + 10) ht7 hp7 (by omega) (by omega))
 obtain ⟨S7, hS7⟩ : ∃ S7 : CS, { S6 with t := t7 } = S7 := ⟨_, rfl⟩
 rw [hS7] at k7
 have hm7 : S7.cm A = { (S.cm A).fin t 0 (3, x) with d := false, rows := ((S.cm A).fin t 0 (3, x)).rows.set 1 (2, y) } := by
  have hr6 : S6.t.rows = ((S.cm A).fin t 0 (3, x)).rows := congrArg CM.rows hm6
  have e : S7.cm A = { S6.cm A with rows := S6.t.rows.set 1 (2, y) } := by
   rw [← hS7]
   unfold CS.cm
   dsimp only
   rw [hr7]
  rw [e, hm6, hr6]
 have hq7 : S7.q.q A.q.k = S.q.q A.q.k := congrArg CM.q hm7
 have hr7' : S7.t.rows = ((S.cm A).fin t 0 (3, x)).rows.set 1 (2, y) := congrArg CM.rows hm7
 have hlen : 1 < ((S.cm A).fin t 0 (3, x)).rows.length := by
  show 1 < (S.t.rows.set 0 _).length
  rw [List.length_set]
  exact (List.getElem?_eq_some_iff.1 H.out.2.2.2.2.2.1).1
 have hR := C_release k7.at_ (by omega) (by rw [hq7]; exact H.out.2.2.2.2.2.2) t H.out.2.2.2.2.1 1 (2, y) (by rw [hr7']; exact nth_set hlen)
 have HR := Lib.hid (show Calls Tryz.prog 38 #[.pointer (some ⟨A.cb, 0, none⟩), .int .i64 t, .int .i64 2] w7 fun e w' => e = .returned (.tuple #[]) ∧ ∃ S', CStep w7 A S7 w' S' (N + 10 + 2) ∧ S'.cm A = (S7.cm A).rel t 1 (2, y) from hR)
 have H7 := Lib.hid (And.intro k7 hm7)
 clear ht7 hp7 hr7 hb7 k6 hm6 hy6 hbn6 k7 hS7 hm7 hq7 hr7' hlen hR
 go_wp2_with fail
 refine HR.out.mono ?_
 rintro e w8 ⟨rfl, S8, k8, hm8⟩
 have H8 := Lib.hid (And.intro (H7.out.1.trans k8) hm8)
 clear k8 hm8
 go_wp2_with fail
 rw [rounds_succ]
 go_wp2_with fail
 go_ret
 refine ⟨rfl, S8, H8.out.1.up (by omega), ?_⟩
 rw [H8.out.2, H7.out.2]
 rfl
end
def CM.drained (c : CM) : Bool := cntR c.rows 1 + cntR c.rows 2 + cntR c.rows 3 == 0
def CM.shut (c : CM) : CM := { c with closed := true, evs := c.evs ++ [⟨9, -1, 0, 0, c.tick⟩] }
theorem wrap_small {n : Int} (h0 : 0 ≤ n) (h1 : n ≤ 1000000) : IntKind.i64.wrap n = n := by
 unfold IntKind.wrap
 have e : n % (2 ^ IntKind.i64.bits : Int) = n := by
  show n % 18446744073709551616 = n
  omega
 dsimp only
 rw [e, if_neg]
 intro h
 have h2 : (IntKind.i64.signed && decide (n ≥ 9223372036854775808)) = true := h
 simp at h2
 omega
section
variable {W W' : World} {A : CA} {S S' : CS} {N N' : Nat}
theorem C_Drained (h : CoreAt W A S N) (hcl : S.closed = true) : Calls Tryz.prog 44 #[.pointer (some ⟨A.cb, 0, none⟩)] W fun e w' => e = .returned (.bool (S.cm A).drained) ∧ Below W.heap.size W w' := by
 obtain ⟨-, -, -, -, -, -, -, c7, -, c9, -⟩ := h.cells
 rw [hcl] at c9
 have hlen := h.t.len.2
 have bd : ∀ s, 0 ≤ cntR S.t.rows s ∧ cntR S.t.rows s ≤ 200 := fun s => by
  unfold cntR
  have := List.length_filter_le (fun x : Int × Tk => x.1 == s) S.t.rows
  omega
 have b1 := bd 1
 have b2 := bd 2
 have b3 := bd 3
 obtain ⟨n1, h1⟩ : ∃ n, cntR S.t.rows 1 = n := ⟨_, rfl⟩
 obtain ⟨n2, h2⟩ : ∃ n, cntR S.t.rows 2 = n := ⟨_, rfl⟩
 obtain ⟨n3, h3⟩ : ∃ n, cntR S.t.rows 3 = n := ⟨_, rfl⟩
 have HC := Lib.hid (fun (s : Int) (hs : In64 s) n => same_eq (T_Count (h.below (below_drN (Below.refl _ _) n)).t s hs))
 have H1 := Lib.hid (fun n => by have := HC.out 1 (by unfold In64; decide) n; rw [h1] at this; exact this)
 have H2 := Lib.hid (fun n => by have := HC.out 2 (by unfold In64; decide) n; rw [h2] at this; exact this)
 have H3 := Lib.hid (fun n => by have := HC.out 3 (by unfold In64; decide) n; rw [h3] at this; exact this)
 have hD : (S.cm A).drained = (n1 + n2 + n3 == 0) := by
  show (cntR S.t.rows 1 + cntR S.t.rows 2 + cntR S.t.rows 3 == 0) = _
  rw [h1, h2, h3]
 rw [hD]
 rw [h1] at b1
 rw [h2] at b2
 rw [h3] at b3
 have g1 : IntKind.i64.wrap (n1 + n2) = n1 + n2 := wrap_small (by omega) (by omega)
 have g2 : IntKind.i64.wrap (n1 + n2 + n3) = n1 + n2 + n3 := wrap_small (by omega) (by omega)
 clear h hcl hlen bd HC hD h1 h2 h3
 go_enter Tryz.func44, Tryz.ntmps44
 go_upto_region 1 with fail
 refine wp_region_still_lit (by kernel_rfl) (by kernel_rfl) ?_
 iterate 9 still_step
 still_call (H1.out _)
 iterate 4 still_step
 still_call (H2.out _)
 iterate 5 still_step
 still_call (H3.out _)
 iterate 4 still_step
 refine wpStill_nil ?_
 go_wp2_with fail
 go_ret
 exact ⟨by simp [g1, g2], below_dr (Below.refl _ _)⟩
theorem C_Shutdown (h : CoreAt W A S N) (hN : N ≤ 400000000) (hcl : S.closed = false) : Calls Tryz.prog 43 #[.pointer (some ⟨A.cb, 0, none⟩)] W fun e w' => (∃ a cap, e = .returned (.slice a 0 cap)) ∧ ∃ S', CStep W A S w' S' (N + 1) ∧ S'.cm A = (S.cm A).shut := by
 obtain ⟨-, -, -, -, -, -, -, -, -, c9, -⟩ := h.cells
 rw [hcl] at c9
 have z9 : W.frozen? ⟨A.cb, 9, none⟩ = false := frozen_of h.hdr
 have k1 := CStep.trans (CStep.refl h) (h.setClosed true)
 have HT := Lib.hid (C_tell k1.at_ (by omega) 9 (-1) 0 0)
 have H := Lib.hid k1
 clear h hcl k1
 go_enter Tryz.func43, Tryz.ntmps43
 go_wp2_with fail
 refine HT.out.mono ?_
 rintro e w2 ⟨rfl, v2, k2⟩
 have k02 := H.out.trans k2
 obtain ⟨-, -, -, -, d4, -⟩ := k02.at_.cells
 have HA := Lib.hid (Wh_All k02.at_.w)
 have H2 := Lib.hid k02
 clear k2 k02
 go_wp2_with fail
 refine HA.out.mono ?_
 rintro e w3 ⟨rfl, hb3⟩
 have k03 := H2.out.trans (CStep.below H2.out.at_ hb3)
 have HS := Lib.hid (SortI_01 (a := none) (cap := 0) 0 (by omega) w3)
 obtain ⟨-, -, -, -, -, -, -, -, -, -, d10, -⟩ := k03.at_.cells
 have HC := Lib.hid (CloneInt (W := w3) (by omega) (SlV.nil w3 3 1) (fun u hu => by cases hu))
 have H3 := Lib.hid k03
 clear hb3 k03
 go_wp2_with fail
 refine wp_loop_rounds 1 ?_
 rw [rounds_succ]
 go_wp2_with fail
 refine HS.out.mono ?_
 rintro e w' ⟨rfl, rfl⟩
 go_wp2_with fail
 refine wp_loop_rounds 1 ?_
 rw [rounds_succ]
 go_wp2_with fail
 refine HS.out.mono ?_
 rintro e w' ⟨rfl, rfl⟩
 go_wp2_with fail
 refine HC.out.mono ?_
 rintro e w4 ⟨v4, rfl, hv4, hb4⟩
 have HC4 := Lib.hid (ClipInt (SlV.of_owns hv4))
 have H4 := Lib.hid (H3.out.trans (CStep.below H3.out.at_ hb4))
 clear hv4 hb4
 go_wp2_with fail
 refine HC4.out.mono ?_
 rintro e w5 ⟨v5, rfl, hv5, -, rfl⟩
 obtain ⟨a5, cap5, rfl, -⟩ := hv5.clip
 clear hv5
 go_wp2_with fail
 go_ret
 exact ⟨⟨_, _, rfl⟩, _, H4.out, rfl⟩
end
theorem TasksAt.below {W W' : World} {lo n : Nat} {v : Value} {xs : List Value} (h : TasksAt W lo v n xs) (hb : Below W.heap.size W W') : TasksAt W' lo v n xs := by
 rcases h with h | ⟨c, rfl, h1, h2, h3⟩
 · exact .inl h
 · refine .inr ⟨c, rfl, h1, Nat.lt_of_lt_of_le h2 hb.size, fun j hj => ?_⟩
   rw [← h3 j hj]
   exact Below.cell hb h2
structure StP (W1 : World) (A : CA) (S : CS) (N : Nat) (tv sv hv : Value) (i : Nat) (w : World) : Prop where
 core : ∃ S', CStep W1 A S w S' (N + 210 * i) ∧ S'.cm A = S.cm A ∧ (S'.t.rv = S.t.rv ∧ S'.t.bo = S.t.bo ∧ S'.evv = S.evv) ∧ S'.q = S.q
 t : 3 ≤ i → ∃ lo, W1.heap.size ≤ lo ∧ TasksAt w lo tv S.t.rows.length (tasksV S.t.rows)
 s : 4 ≤ i → EsAt w sv (slotE (S.q.q A.q.k).slots) ∧ ∀ c, sv.ownBlock = some c → W1.heap.size ≤ c
 h : 5 ≤ i → EsAt w hv (S.q.q A.q.k).sh ∧ ∀ c, hv.ownBlock = some c → W1.heap.size ≤ c
def StK (W1 w w' : World) : Prop := ∀ (j : Nat) (o : Obj), W1.heap.size ≤ j → w.heap[j]? = some o → w'.heap[j]? = some o
section
variable {W1 W w w' : World} {A : CA} {S S' : CS} {N N' i : Nat} {tv sv hv : Value}
theorem StP.below (h : StP W1 A S N tv sv hv i w) (hb : Below w.heap.size w w') : StP W1 A S N tv sv hv i w' := by
 obtain ⟨S', k, hm, hr, hq⟩ := h.core
 exact ⟨⟨S', k.trans (CStep.below k.at_ hb), hm, hr, hq⟩, fun hi => by obtain ⟨lo, h1, h2⟩ := h.t hi; exact ⟨lo, h1, h2.below hb⟩, fun hi => ⟨EsAt.below (h.s hi).1 hb, (h.s hi).2⟩, fun hi => ⟨EsAt.below (h.h hi).1 hb, (h.h hi).2⟩⟩
theorem StP.al (h : StP W1 A S N tv sv hv i w) (o : Obj) : StP W1 A S N tv sv hv i (w.alloc o) := h.below (below_al (Below.refl _ _) _)
theorem StP.next (h : StP W1 A S N tv sv hv i w) (hb : Below w.heap.size w w') {tv' sv' hv' : Value} (ht : 3 ≤ i + 1 → ∃ lo, W1.heap.size ≤ lo ∧ TasksAt w' lo tv' S.t.rows.length (tasksV S.t.rows)) (hs : 4 ≤ i + 1 → EsAt w' sv' (slotE (S.q.q A.q.k).slots) ∧ ∀ c, sv'.ownBlock = some c → W1.heap.size ≤ c) (hh : 5 ≤ i + 1 → EsAt w' hv' (S.q.q A.q.k).sh ∧ ∀ c, hv'.ownBlock = some c → W1.heap.size ≤ c) : StP W1 A S N tv' sv' hv' (i + 1) w' := by
 obtain ⟨S', k, hm, hr, hq⟩ := h.core
 exact ⟨⟨S', (k.trans (CStep.below k.at_ hb)).up (by omega), hm, hr, hq⟩, ht, hs, hh⟩
theorem StK.below (hb : Below w.heap.size w w') : StK W1 w w' := fun j o hj ho => (hb.block _ (heap_lt ho)).trans ho
theorem StP.size (h : StP W1 A S N tv sv hv i w) : W1.heap.size ≤ w.heap.size := by
 obtain ⟨S', k, -⟩ := h.core
 exact k.ps.fr.size
theorem St_now (h : StP W1 A S N tv sv hv 0 w) : Calls Tryz.prog 41 #[.pointer (some ⟨A.wp, 0, none⟩)] w fun e w' => e = .returned (.int .u64 0) ∧ StP W1 A S N tv sv hv 1 w' ∧ StK W1 w w' := by
 obtain ⟨S', k, hm, hr, hq⟩ := id h.core
 refine (Wh_Now k.at_.w).mono ?_
 rintro e w' ⟨rfl, rfl⟩
 exact ⟨rfl, h.next (Below.refl _ _) (fun h => by omega) (fun h => by omega) (fun h => by omega), fun j o _ ho => ho⟩
theorem St_free (h0 : CoreAt W1 A S N) (hN : N ≤ 300000000) (h : StP W1 A S N tv sv hv 1 w) : Calls Tryz.prog 47 #[.pointer (some ⟨A.cc, 0, none⟩)] w fun e w' => e = .returned (.int .i64 ((A.C : Int) - S.o)) ∧ StP W1 A S N tv sv hv 2 w' ∧ StK W1 w w' := by
 obtain ⟨S', k, hm, hr, hq⟩ := h.core
 have ho : S'.o = S.o := congrArg CM.o hm
 have hb := k.at_.bnd
 refine (Free_in k.at_.cr (by omega)).mono ?_
 rintro e w' ⟨rfl, hc, hf⟩
 have k2 := k.at_.setCr (N' := N + 210 * 2) hc hf (by omega) (by omega)
 refine ⟨by rw [ho], ⟨⟨_, k.trans k2, hm, hr, hq⟩, fun h => by omega, fun h => by omega, fun h => by omega⟩, fun j o hj ho => (hf.block _ (heap_lt ho) (fun e => ?_)).trans ho⟩
 have hl : ∀ c, CrOwn A.cc A.cm A.cg c → c < W1.heap.size := fun c hc => h0.cr.lt hc
 rcases e with e | e
 · have := hl A.cm (.inr (.inl rfl)); omega
 · have := hl A.cg (.inr (.inr rfl)); omega
theorem St_all (h0 : CoreAt W1 A S N) (hN : N ≤ 300000000) (h : StP W1 A S N tv sv hv 2 w) : Calls Tryz.prog 48 #[.pointer (some ⟨A.t.t, 0, none⟩)] w fun e w' => ∃ tv', e = .returned tv' ∧ (∃ a, tv' = .slice a S.t.rows.length S.t.rows.length) ∧ (∀ c, tv'.ownBlock = some c → w.heap.size ≤ c) ∧ StP W1 A S N tv' sv hv 3 w' ∧ StK W1 w w' := by
 obtain ⟨S', k, hm, hr, hq⟩ := id h.core
 have hrows : S'.t.rows = S.t.rows := congrArg CM.rows hm
 have hb := k.at_.bnd
 have hlen := h0.t.len.2
 refine (T_All k.at_.t (by omega)).mono ?_
 rintro e w' ⟨⟨v, rfl, hv⟩, ht, hp⟩
 rw [hrows] at hv ht hp
 have k2 := k.at_.setT (N' := N + 210 * 3) ht hp (by show S'.t.B + (S.t.rows.length : Int) ≤ _; omega) (by omega)
 refine ⟨v, rfl, ?_, ?_, ⟨⟨_, k.trans k2, ?_, hr, hq⟩, fun _ => ⟨w.heap.size, h.size, hv⟩, fun h => by omega, fun h => by omega⟩, fun j o hj ho => (hp.fr.block _ (heap_lt ho) (fun e => ?_)).trans ho⟩
 · rcases hv with ⟨h1, h2⟩ | ⟨c, h1, -⟩
   · exact ⟨none, by rw [h2, h1]⟩
   · exact ⟨_, h1⟩
 ·
  intro c hc
  rcases hv with ⟨h1, h2⟩ | ⟨d, h1, h2, -⟩
  · rw [h2] at hc; cases hc
  ·
   rw [h1] at hc
   injection hc with hc
   have hc : d = c := hc
   omega
 ·
  rw [← hm]
  unfold CS.cm
  dsimp only
  rw [hrows]
 ·
  have hlt : j < W1.heap.size := h0.t.lt (j := j) (.inl (by
   rcases e with e | e | e | e | e | e
   · exact .inl e
   · exact .inr (.inl e)
   · exact .inr (.inr (.inl e))
   · exact .inr (.inr (.inr (.inl e)))
   · exact .inr (.inr (.inr (.inr (.inl e))))
   · exact .inr (.inr (.inr (.inr (.inr (by rw [← hr.1]; exact e)))))))
  omega
theorem St_slots (h : StP W1 A S N tv sv hv 3 w) : Calls Tryz.prog 49 #[.pointer (some ⟨A.q.qp, 0, none⟩)] w fun e w' => ∃ sv', e = .returned sv' ∧ (∃ a n c, sv' = .slice a n c) ∧ StP W1 A S N tv sv' hv 4 w' ∧ StK W1 w w' := by
 obtain ⟨S', k, hm, hr, hq⟩ := id h.core
 refine (Q_Slots k.at_.q).mono ?_
 rintro e w' ⟨v, rfl, hE, hc, hb⟩
 rw [hq] at hE
 obtain ⟨a, c, hv, -⟩ := SlV.clip hE
 refine ⟨v, rfl, ⟨a, _, c, hv⟩, h.next hb (fun _ => ?_) (fun _ => ⟨hE, fun c hc' => Nat.le_trans h.size (hc c hc')⟩) (fun h => by omega), StK.below hb⟩
 obtain ⟨lo, h1, h2⟩ := h.t (by omega)
 exact ⟨lo, h1, h2.below hb⟩
theorem St_shared (hN : (allB S.q.bs).length ≤ NB) (h : StP W1 A S N tv sv hv 4 w) : Calls Tryz.prog 50 #[.pointer (some ⟨A.q.qp, 0, none⟩)] w fun e w' => ∃ hv', e = .returned hv' ∧ (∃ a n c, hv' = .slice a n c) ∧ StP W1 A S N tv sv hv' 5 w' ∧ StK W1 w w' := by
 obtain ⟨S', k, hm, hr, hq⟩ := id h.core
 refine (Q_Shared k.at_.q (by rw [hq]; exact hN)).mono ?_
 rintro e w' ⟨v, rfl, hE, hc, hb⟩
 rw [hq] at hE
 obtain ⟨a, c, hv, -⟩ := SlV.clip hE
 refine ⟨v, rfl, ⟨a, _, c, hv⟩, h.next hb (fun _ => ?_) (fun _ => ?_) (fun _ => ⟨hE, fun c hc' => Nat.le_trans h.size (hc c hc')⟩), StK.below hb⟩
 · obtain ⟨lo, h1, h2⟩ := h.t (by omega)
   exact ⟨lo, h1, h2.below hb⟩
 · obtain ⟨h1, h2⟩ := h.s (by omega)
   exact ⟨EsAt.below h1 hb, h2⟩
theorem St_wheel (h : StP W1 A S N tv sv hv 5 w) : Calls Tryz.prog 51 #[.pointer (some ⟨A.wp, 0, none⟩)] w fun e w' => e = .returned (.slice none 0 0) ∧ StP W1 A S N tv sv hv 6 w' ∧ StK W1 w w' := by
 obtain ⟨S', k, hm, hr, hq⟩ := id h.core
 refine (Wh_All k.at_.w).mono ?_
 rintro e w' ⟨rfl, hb⟩
 refine ⟨rfl, h.next hb (fun _ => ?_) (fun _ => ?_) (fun _ => ?_), StK.below hb⟩
 · obtain ⟨lo, h1, h2⟩ := h.t (by omega)
   exact ⟨lo, h1, h2.below hb⟩
 · obtain ⟨h1, h2⟩ := h.s (by omega)
   exact ⟨EsAt.below h1 hb, h2⟩
 · obtain ⟨h1, h2⟩ := h.h (by omega)
   exact ⟨EsAt.below h1 hb, h2⟩
end
theorem cOS_own (A : CA) (S : CS) (j : Nat) : (cOS A S).own j ↔ (j = A.cb ∨ QOwn A.q S.q j ∨ WhOwn A.wp A.m1 A.m2 A.m3 j ∨ DagOwn A.dp A.pm A.nm j ∨ CrOwn A.cc A.cm A.cg j ∨ (TWr A.t S.t j ∨ S.t.bo j) ∨ S.evv.ownBlock = some j) := by
 constructor
 ·
  rintro ⟨c, hc, hj⟩
  simp only [cparts, List.mem_cons, List.not_mem_nil, or_false] at hc
  rcases hc with rfl | rfl | rfl | rfl | rfl | rfl | rfl
  · exact .inl hj
  · exact .inr (.inl hj)
  · exact .inr (.inr (.inl hj))
  · exact .inr (.inr (.inr (.inl hj)))
  · exact .inr (.inr (.inr (.inr (.inl hj))))
  · exact .inr (.inr (.inr (.inr (.inr (.inl hj)))))
  · exact .inr (.inr (.inr (.inr (.inr (.inr hj)))))
 ·
  intro h
  rcases h with h | h | h | h | h | h | h
  · exact ⟨PT.hdr A.cb (hdrC A S), by simp [cparts], h⟩
  · exact ⟨PT.queue A.q S.q, by simp [cparts], h⟩
  · exact ⟨PT.wheel A.wp A.m1 A.m2 A.m3 0, by simp [cparts], h⟩
  · exact ⟨PT.dag A.dp A.pm A.nm S.d, by simp [cparts], h⟩
  · exact ⟨PT.cred A.cc A.cm A.cg A.C S.o S.m S.K, by simp [cparts], h⟩
  · exact ⟨PT.tab A.t S.t, by simp [cparts], h⟩
  · exact ⟨PT.evs S.evv S.evs, by simp [cparts], h⟩
def stC (tick : Int) (cl : Bool) (fr : Int) (tv sv lv hv : Value) : Array Value := #[.int .u64 0, .int .u64 tick, .bool cl, .int .i64 fr, tv, sv, lv, hv, .slice none 0 0]
theorem set9_heap {w : World} {b : Nat} {z0 z1 z2 z3 z4 z5 z6 z7 z8 : Value} {t : TypeId} (h : w.heap[b]? = some (.cells #[z0, z1, z2, z3, z4, z5, z6, z7, z8] t (0, 0))) (a0 a1 a2 a3 a4 a5 a6 a7 a8 : Value) : (((((((((w.setCell ⟨b, 0, none⟩ a0).setCell ⟨b, 1, none⟩ a1).setCell ⟨b, 2, none⟩ a2).setCell ⟨b, 3, none⟩ a3).setCell ⟨b, 4, none⟩ a4).setCell ⟨b, 5, none⟩ a5).setCell ⟨b, 6, none⟩ a6).setCell ⟨b, 7, none⟩ a7).setCell ⟨b, 8, none⟩ a8).heap[b]? = some (.cells #[a0, a1, a2, a3, a4, a5, a6, a7, a8] t (0, 0)) := by
 rw [heap_set (heap_set (heap_set (heap_set (heap_set (heap_set (heap_set (heap_set (heap_set h _) _) _) _) _) _) _) _) _]
 simp
theorem set9_fr (w : World) (b : Nat) (a0 a1 a2 a3 a4 a5 a6 a7 a8 : Value) : Fr (fun j => j = b) w (((((((((w.setCell ⟨b, 0, none⟩ a0).setCell ⟨b, 1, none⟩ a1).setCell ⟨b, 2, none⟩ a2).setCell ⟨b, 3, none⟩ a3).setCell ⟨b, 4, none⟩ a4).setCell ⟨b, 5, none⟩ a5).setCell ⟨b, 6, none⟩ a6).setCell ⟨b, 7, none⟩ a7).setCell ⟨b, 8, none⟩ a8) := by
 have s : ∀ {w' : World} (h : Fr (fun j => j = b) w w') (i : Nat) (v : Value), Fr (fun j => j = b) w (w'.setCell ⟨b, i, none⟩ v) := fun h i v => Fr.set (S := fun j => j = b) h (p := ⟨b, i, none⟩) rfl v
 exact s (s (s (s (s (s (s (s (s (Fr.refl _ _) 0 _) 1 _) 2 _) 3 _) 4 _) 5 _) 6 _) 7 _) 8 _
section
variable {W1 W w w' : World} {A : CA} {S S' : CS} {N N' i : Nat} {tv sv hv : Value}
theorem TasksAt.fr {Z : Nat → Prop} {lo n : Nat} {v : Value} {xs : List Value} (h : TasksAt W lo v n xs) (f : Fr Z W w') (hn : ∀ c, v.ownBlock = some c → ¬ Z c) : TasksAt w' lo v n xs := by
 rcases h with h | ⟨c, rfl, h1, h2, h3⟩
 · exact .inl h
 ·
  refine .inr ⟨c, rfl, h1, Nat.lt_of_lt_of_le h2 f.size, fun j hj => ?_⟩
  rw [← h3 j hj]
  unfold World.cell?
  rw [f.block c h2 (hn c rfl)]
theorem StP.box (h0 : CoreAt W1 A S N) (h : StP W1 A S N tv sv hv i w) {b : Nat} (f : Fr (fun j => j = b) w w') (hge : W1.heap.size ≤ b) {c : Array Value} {t : TypeId} (hb : w.heap[b]? = some (.cells c t (0, 0))) (ht : t ≠ 63) (htv : tv.ownBlock ≠ some b) : StP W1 A S N tv sv hv i w' := by
 obtain ⟨S', k, hm, hr, hq⟩ := h.core
 have nE : ∀ {v : Value} {l : List En}, EsAt w v l → EsAt w' v l := fun he => EsAt.fr he f (fun c hc e => by
  obtain ⟨cu, h1⟩ := SlV.type he hc
  have e' : c = b := e
  rw [e', hb] at h1
  injection h1 with h1
  injection h1 with _ h1 _
  exact ht h1)
 refine ⟨⟨S', CStep.newer h0 k hq f (fun j hj => ?_), hm, hr, hq⟩, fun hi => ?_, fun hi => ⟨nE (h.s hi).1, (h.s hi).2⟩, fun hi => ⟨nE (h.h hi).1, (h.h hi).2⟩⟩
 ·
  have hj : j = b := hj
  rw [hj]
  refine ⟨hge, fun e => ?_⟩
  have : (cOS A S).own b := by
   rw [cOS_own] at e ⊢
   have et : TWr A.t S'.t b ↔ TWr A.t S.t b := by unfold TWr; rw [hr.1]
   rw [hq, hr.2.1, hr.2.2, et] at e
   exact e
  have := h0.lt this
  omega
 · obtain ⟨lo, h1, h2⟩ := h.t hi
   exact ⟨lo, h1, h2.fr f (fun c hc e => htv (by have e' : c = b := e; rw [← e']; exact hc))⟩
def StR (W1 : World) (A : CA) (S : CS) (N : Nat) (v3 : Value) (w : World) : Prop := ∃ yb tv sv hv, v3 = .pointer (some ⟨yb, 0, none⟩) ∧ w.heap[yb]? = some (.cells (stC S.tick S.closed ((A.C : Int) - S.o) tv sv (.slice none 0 0) hv) 46 (0, 0)) ∧ StP W1 A S N tv sv hv 6 w ∧ W1.heap.size ≤ yb ∧ (∃ a, tv = .slice a S.t.rows.length S.t.rows.length) ∧ (∃ a n c, sv = .slice a n c) ∧ (∃ a n c, hv = .slice a n c) ∧ tv.ownBlock ≠ some yb
def StS (A : CA) (S : CS) (w : World) : Prop := w.cell? ⟨A.cb, 1 + 2, none⟩ = some (.pointer (some ⟨A.q.qp, 0, none⟩)) ∧ w.cell? ⟨A.cb, 4, none⟩ = some (.pointer (some ⟨A.wp, 0, none⟩)) ∧ w.cell? ⟨A.cb, 6, none⟩ = some (.pointer (some ⟨A.cc, 0, none⟩)) ∧ w.cell? ⟨A.cb, 7, none⟩ = some (.pointer (some ⟨A.t.t, 0, none⟩)) ∧ w.cell? ⟨A.cb, 8, none⟩ = some (.int .u64 S.tick) ∧ w.cell? ⟨A.cb, 9, none⟩ = some (.bool S.closed)
theorem StP.sts (h : StP W1 A S N tv sv hv i w) : StS A S w := by
 obtain ⟨S', k, hm, hr, hq⟩ := h.core
 obtain ⟨-, -, -, c3, c4, -, c6, c7, c8, c9, -⟩ := k.at_.cells
 have e8 : S'.tick = S.tick := congrArg CM.tick hm
 have e9 : S'.closed = S.closed := congrArg CM.closed hm
 rw [e8] at c8
 rw [e9] at c9
 exact ⟨c3, c4, c6, c7, c8, c9⟩
end
structure Wk where
 ph : Int
 e : En
 pc : Int
 bad : Bool
def wkV (w : Wk) : Value := .agg #[.int .i64 w.ph, .int .u64 w.e.key, .int .i64 w.e.id, .int .i64 w.pc, .bool w.bad]
def wkO (w : Wk) : Obj := .cells #[.int .i64 w.ph, .int .u64 w.e.key, .int .i64 w.e.id, .int .i64 w.pc, .bool w.bad] 123
def wk0 : Wk := ⟨0, ⟨0, 0⟩, 0, false⟩
theorem set5_heap {w : World} {b : Nat} {z0 z1 z2 z3 z4 : Value} {t : TypeId} (h : w.heap[b]? = some (.cells #[z0, z1, z2, z3, z4] t (0, 0))) (a0 a1 a2 a3 a4 : Value) : (((((w.setCell ⟨b, 0, none⟩ a0).setCell ⟨b, 1, none⟩ a1).setCell ⟨b, 2, none⟩ a2).setCell ⟨b, 3, none⟩ a3).setCell ⟨b, 4, none⟩ a4).heap[b]? = some (.cells #[a0, a1, a2, a3, a4] t (0, 0)) := by
 rw [heap_set (heap_set (heap_set (heap_set (heap_set h _) _) _) _) _]
 simp
theorem set5_fr (w : World) (b : Nat) (a0 a1 a2 a3 a4 : Value) : Fr (fun j => j = b) w (((((w.setCell ⟨b, 0, none⟩ a0).setCell ⟨b, 1, none⟩ a1).setCell ⟨b, 2, none⟩ a2).setCell ⟨b, 3, none⟩ a3).setCell ⟨b, 4, none⟩ a4) := by
 have s : ∀ {w' : World} (h : Fr (fun j => j = b) w w') (i : Nat) (v : Value), Fr (fun j => j = b) w (w'.setCell ⟨b, i, none⟩ v) := fun h i v => Fr.set (S := fun j => j = b) h (p := ⟨b, i, none⟩) rfl v
 exact s (s (s (s (s (Fr.refl _ _) 0 _) 1 _) 2 _) 3 _) 4 _
theorem cells5 {w : World} {b : Nat} {z0 z1 z2 z3 z4 : Value} {t : TypeId} (h : w.heap[b]? = some (.cells #[z0, z1, z2, z3, z4] t (0, 0))) : w.cell? ⟨b, 0, none⟩ = some z0 ∧ w.cell? ⟨b, 1, none⟩ = some z1 ∧ w.cell? ⟨b, 2, none⟩ = some z2 ∧ w.cell? ⟨b, 3, none⟩ = some z3 ∧ w.cell? ⟨b, 4, none⟩ = some z4 ∧ ∀ i, w.frozen? ⟨b, i, none⟩ = false := by
 refine ⟨?_, ?_, ?_, ?_, ?_, fun i => frozen_of h⟩ <;> (rw [cell_of_heap h]; rfl)
section
variable {W W' w5 w6 : World} {A : CA} {S S' : CS} {N N' : Nat}
theorem CStep.box (k : CStep W A S w5 S' N') {b : Nat} (f : Fr (fun j => j = b) w5 w6) {c : Array Value} {t : TypeId} (hb : w5.heap[b]? = some (.cells c t (0, 0))) (ht : t ≠ 63) (hge : W.heap.size ≤ b) (hno : ¬ (cOS A S').own b) : CStep W A S w6 S' N' := by
 have hn : NoE w5 (fun j => j = b) := NoE.of fun j hj => by
  have hj : j = b := hj
  rw [hj]
  exact ⟨_, hb, cells_im ht⟩
 refine ⟨⟨k.at_.ps.keep f hn (fun j hj e => hno (by have e : j = b := e; rw [← e]; exact hj)), k.at_.bnd⟩, ⟨f.os.trans k.ps.fr.os, f.tape.trans k.ps.fr.tape, f.output.trans k.ps.fr.output, Nat.le_trans k.ps.fr.size f.size, fun j hj hnn => ?_⟩, k.ps.wr, k.ps.own⟩
 exact (f.block j (Nat.lt_of_lt_of_le hj k.ps.fr.size) (fun e => by have e : j = b := e; omega)).trans (k.ps.fr.block j hj hnn)
theorem CStep.stays (k : CStep W A S W' S' N') {b : Nat} (h : ¬ (cOS A S).own b) (hlt : b < W.heap.size) : ¬ (cOS A S').own b := fun e => by
 rcases k.ps.own _ e with e | e
 · exact h e
 · omega
theorem W_idle_none (h : CoreAt W A S N) (hq : (S.q.q A.q.k).Ok) (t : Nat) (ht : t < A.q.lp.length) (d : Int) (d0 : 0 ≤ d) (d1 : d ≤ top) (hl : (S.cm A).look t d = none) (v : Wk) : Calls Tryz.prog 106 #[.pointer (some ⟨A.cb, 0, none⟩), wkV v, .int .i64 t, .int .u64 d] W fun e w' => e = .returned (.tuple #[wkV v, .int .i64 0]) ∧ Below W.heap.size W w' := by
 obtain ⟨W2, hW2⟩ : ∃ W2, (W.alloc (wkO v)).alloc (wkO wk0) = W2 := ⟨_, rfl⟩
 have hb2 : Below W.heap.size W W2 := by rw [← hW2]; exact below_al (below_al (Below.refl _ _) _) _
 have x5 : W2.heap[W.heap.size]? = some (.cells #[.int .i64 v.ph, .int .u64 v.e.key, .int .i64 v.e.id, .int .i64 v.pc, .bool v.bad] 123 (0, 0)) := by rw [← hW2]; exact alloc_old (heap_alloc_new W _)
 have x8 : W2.heap[W.heap.size + 1]? = some (.cells #[.int .i64 0, .int .u64 0, .int .i64 0, .int .i64 0, .bool false] 123 (0, 0)) := by rw [← hW2]; exact alloc_at (by simp)
 have HL := Lib.hid (C_Look_none (h.below hb2) hq t ht d d0 d1 hl)
 unfold wkO wk0 at hW2
 have H := Lib.hid (And.intro hb2 (And.intro x5 x8))
 clear h hq hl hb2 x5 x8
 unfold wkV
 go_enter Tryz.func106, Tryz.ntmps106
 go_wp2_with fail
 refine HL.out.mono ?_
 rintro e w1 ⟨rfl, hb1⟩
 obtain ⟨hb2, x5, x8⟩ := H.out
 obtain ⟨w2, hw2⟩ : ∃ w2, w1.alloc (.cells #[.int .u64 0, .int .i64 0] 63) = w2 := ⟨_, rfl⟩
 have hba : Below W2.heap.size W2 w2 := by rw [← hw2]; exact below_al hb1 _
 have y5 := (hba.block _ (heap_lt x5)).trans x5
 have y8 := (hba.block _ (heap_lt x8)).trans x8
 obtain ⟨a0, a1, a2, a3, a4, -⟩ := cells5 y5
 obtain ⟨b0, b1, b2, b3, b4, zb⟩ := cells5 y8
 have hs := set5_heap y8 (.int .i64 v.ph) (.int .u64 v.e.key) (.int .i64 v.e.id) (.int .i64 v.pc) (.bool v.bad)
 obtain ⟨e0, e1, e2, e3, e4, -⟩ := cells5 hs
 have HF := Lib.hid (And.intro (below_step hba hb2) (set5_fr w2 (W.heap.size + 1) (.int .i64 v.ph) (.int .u64 v.e.key) (.int .i64 v.e.id) (.int .i64 v.pc) (.bool v.bad)))
 have HW2 := Lib.hid hw2
 clear hb2 x5 x8 hb1 hba y5 y8 hs hw2
 go_upto_region 3 with fail
 rw [HW2.out]
 go_wp2_with fail
 refine bodyPost_ret (v := .tuple #[.agg #[.int .i64 v.ph, .int .u64 v.e.key, .int .i64 v.e.id, .int .i64 v.pc, .bool v.bad], .int .i64 0]) (by simp [results, Tryz.results106, go_sem, e0, e1, e2, e3, e4]) rfl ?_
 refine ⟨rfl, HF.out.2.below HF.out.1 (fun k hk => by have hk : k = W.heap.size + 1 := hk; omega)⟩
theorem set3_heap {w : World} {b : Nat} {z0 z1 z2 z3 z4 : Value} {t : TypeId} (h : w.heap[b]? = some (.cells #[z0, z1, z2, z3, z4] t (0, 0))) (a0 a1 a2 : Value) : (((w.setCell ⟨b, 0, none⟩ a0).setCell ⟨b, 1, none⟩ a1).setCell ⟨b, 2, none⟩ a2).heap[b]? = some (.cells #[a0, a1, a2, z3, z4] t (0, 0)) := by
 rw [heap_set (heap_set (heap_set h _) _) _]
 simp
theorem set3_fr (w : World) (b : Nat) (a0 a1 a2 : Value) : Fr (fun j => j = b) w (((w.setCell ⟨b, 0, none⟩ a0).setCell ⟨b, 1, none⟩ a1).setCell ⟨b, 2, none⟩ a2) := by
 have s : ∀ {w' : World} (h : Fr (fun j => j = b) w w') (i : Nat) (v : Value), Fr (fun j => j = b) w (w'.setCell ⟨b, i, none⟩ v) := fun h i v => Fr.set (S := fun j => j = b) h (p := ⟨b, i, none⟩) rfl v
 exact s (s (s (Fr.refl _ _) 0 _) 1 _) 2 _
theorem W_idle (h : CoreAt W A S N) (hN : N ≤ 300000000) (hq : (S.q.q A.q.k).Ok) (t : Nat) (ht : t < A.q.lp.length) (d : Int) (d0 : 0 ≤ d) (d1 : d ≤ top) (en : En) (hl : (S.cm A).look t d = some en) (hne : (S.q.q A.q.k).all ≠ []) (v : Wk) : Calls Tryz.prog 106 #[.pointer (some ⟨A.cb, 0, none⟩), wkV v, .int .i64 t, .int .u64 d] W fun e w' => e = .returned (.tuple #[wkV ⟨1, en, v.pc, v.bad⟩, .int .i64 1]) ∧ ∃ S', CStep W A S w' S' (N + 1) ∧ S'.cm A = { S.cm A with evs := S.evs ++ [⟨10, t, en.id, en.key, S.tick⟩] } := by
 obtain ⟨W2, hW2⟩ : ∃ W2, (W.alloc (wkO v)).alloc (wkO wk0) = W2 := ⟨_, rfl⟩
 have hb2 : Below W.heap.size W W2 := by rw [← hW2]; exact below_al (below_al (Below.refl _ _) _) _
 have x5 : W2.heap[W.heap.size]? = some (.cells #[.int .i64 v.ph, .int .u64 v.e.key, .int .i64 v.e.id, .int .i64 v.pc, .bool v.bad] 123 (0, 0)) := by rw [← hW2]; exact alloc_old (heap_alloc_new W _)
 have x8 : W2.heap[W.heap.size + 1]? = some (.cells #[.int .i64 0, .int .u64 0, .int .i64 0, .int .i64 0, .bool false] 123 (0, 0)) := by rw [← hW2]; exact alloc_at (by simp)
 have HL := Lib.hid (C_Look (h.below hb2) (by omega) hq t ht d d0 d1 en hl hne)
 have n5 : ¬ (cOS A S).own W.heap.size := fun e => by have := h.lt e; omega
 have n8 : ¬ (cOS A S).own (W.heap.size + 1) := fun e => by have := h.lt e; omega
 unfold wkO wk0 at hW2
 have H := Lib.hid (And.intro h (And.intro hb2 (And.intro x5 (And.intro x8 (And.intro n5 n8)))))
 clear h hq hl hne hb2 x5 x8 n5 n8
 unfold wkV
 go_enter Tryz.func106, Tryz.ntmps106
 go_wp2_with fail
 refine HL.out.mono ?_
 rintro e w1 ⟨rfl, S1, k1, hm1⟩
 obtain ⟨h, hb2, x5, x8, n5, n8⟩ := H.out
 have h2 := h.below hb2
 have l8 := heap_lt x8
 have l5 := heap_lt x5
 obtain ⟨w2, hw2⟩ : ∃ w2, w1.alloc (.cells #[.int .u64 en.key, .int .i64 en.id] 63) = w2 := ⟨_, rfl⟩
 have hba : Below w1.heap.size w1 w2 := by rw [← hw2]; exact below_al (Below.refl _ _) _
 have xe : w2.heap[w1.heap.size]? = some (.cells #[.int .u64 en.key, .int .i64 en.id] 63 (0, 0)) := by rw [← hw2]; exact heap_alloc_new w1 _
 have k2 : CStep W2 A S w2 S1 (N + 1) := k1.trans (CStep.below k1.at_ hba)
 have y5 := CStep.kept h2 k2 n5 x5
 have y8 := CStep.kept h2 k2 n8 x8
 obtain ⟨a0, a1, a2, a3, a4, za⟩ := cells5 (w := w2.drew) y5
 obtain ⟨c0, c1, -, -⟩ := cells2 (w := w2.drew) xe
 obtain ⟨a0', a1', a2', -, -, za'⟩ := cells5 (w := w2) y5
 obtain ⟨c0', c1', -, -⟩ := cells2 (w := w2) xe
 have xs := heap_set_ne (o := 0) xe (by have := k1.ps.fr.size; have := hb2.size; omega : w1.heap.size ≠ W.heap.size) (.int .i64 1)
 obtain ⟨q0, q1, -, -⟩ := cells2 xs
 have k0 : CStep W A S w2 S1 (N + 1) := (CStep.below h hb2).trans k2
 have m5 := CStep.stays k2 n5 l5
 have m8 := CStep.stays k2 n8 l8
 have hs := set3_heap y5 (.int .i64 1) (.int .u64 en.key) (.int .i64 en.id)
 have f3 := set3_fr w2 W.heap.size (.int .i64 1) (.int .u64 en.key) (.int .i64 en.id)
 have k3 := k0.box f3 y5 (by decide) (Nat.le_refl _) m5
 have y83 := (f3.block _ (heap_lt y8) (by omega)).trans y8
 have HR := Lib.hid (And.intro hs (And.intro y83 k3))
 have HM := Lib.hid (And.intro hm1 (And.intro m5 m8))
 have HW2 := Lib.hid hw2
 clear h hb2 x5 x8 n5 n8 h2 l8 l5 hba xe k2 y5 y8 k0 m5 m8 hs f3 k3 y83 hw2 k1 hm1 xs
 go_upto_region 4 with fail
 rw [HW2.out]
 go_cut [] (fun w => w.heap[W.heap.size]? = some (.cells #[.int .i64 1, .int .u64 en.key, .int .i64 en.id, .int .i64 v.pc, .bool v.bad] 123 (0, 0)) ∧ w.heap[W.heap.size + 1]? = some (.cells #[.int .i64 0, .int .u64 0, .int .i64 0, .int .i64 0, .bool false] 123 (0, 0)) ∧ CStep W A S w S1 (N + 1))
 case first =>
  go_region
  all_goals
   go_wp2_with fail
   go_meet
   exact ⟨HR.out.1, HR.out.2.1, HR.out.2.2.trans (CStep.below HR.out.2.2.at_ (below_dr (Below.refl _ _)))⟩
 case rest =>
  clear q0 q1 a0 a1 a2 a3 a4 za c0 c1 a0' a1' a2' za' c0' c1' HR HW2
  obtain ⟨h5, h8, kc⟩ := hcut
  obtain ⟨a0, a1, a2, a3, a4, -⟩ := cells5 h5
  obtain ⟨b0, b1, b2, b3, b4, zb⟩ := cells5 h8
  have hs := set5_heap h8 (.int .i64 1) (.int .u64 en.key) (.int .i64 en.id) (.int .i64 v.pc) (.bool v.bad)
  obtain ⟨e0, e1, e2, e3, e4, -⟩ := cells5 hs
  have HF := Lib.hid (kc.box (set5_fr wc (W.heap.size + 1) (.int .i64 1) (.int .u64 en.key) (.int .i64 en.id) (.int .i64 v.pc) (.bool v.bad)) h8 (by decide) (by omega) HM.out.2.2)
  clear h5 h8 kc hs
  go_wp2_with fail
  refine bodyPost_ret (v := .tuple #[.agg #[.int .i64 1, .int .u64 en.key, .int .i64 en.id, .int .i64 v.pc, .bool v.bad], .int .i64 1]) (by simp [results, Tryz.results106, go_sem, e0, e1, e2, e3, e4]) rfl ?_
  exact ⟨rfl, S1, HF.out, HM.out.1⟩
end
section
variable {W W' w5 w6 : World} {A : CA} {S S' : CS} {N N' : Nat}
theorem W_claim (h : CoreAt W A S N) (hN : N ≤ 300000000) (hq : (S.q.q A.q.k).Ok) (t : Nat) (ht : t < A.q.lp.length) (k : Nat) (x : Int × Tk) (hx : S.t.rows[k]? = some x) (ph key pc : Int) (bad : Bool) (hit : Bool) (hhit : hit = (x.1 == 2 && x.2.ke == key)) : Calls Tryz.prog 107 #[.pointer (some ⟨A.cb, 0, none⟩), wkV ⟨ph, ⟨key, (k : Int) + 1⟩, pc, bad⟩, .int .i64 t] W fun e w' => e = .returned (.tuple #[wkV (if hit then ⟨2, ⟨key, (k : Int) + 1⟩, 0, false⟩ else wk0), .int .i64 (if hit then 1 else 0)]) ∧ ∃ S', CStep W A S w' S' (N + 5) ∧ S'.cm A = if hit then (S.cm A).claim t k x key else S.cm A := by
 obtain ⟨W2, hW2⟩ : ∃ W2, (W.alloc (wkO ⟨ph, ⟨key, (k : Int) + 1⟩, pc, bad⟩)).alloc (wkO wk0) = W2 := ⟨_, rfl⟩
 have hb2 : Below W.heap.size W W2 := by rw [← hW2]; exact below_al (below_al (Below.refl _ _) _) _
 have x5 : W2.heap[W.heap.size]? = some (.cells #[.int .i64 ph, .int .u64 key, .int .i64 ((k : Int) + 1), .int .i64 pc, .bool bad] 123 (0, 0)) := by rw [← hW2]; exact alloc_old (heap_alloc_new W _)
 have x8 : W2.heap[W.heap.size + 1]? = some (.cells #[.int .i64 0, .int .u64 0, .int .i64 0, .int .i64 0, .bool false] 123 (0, 0)) := by rw [← hW2]; exact alloc_at (by simp)
 have HC := Lib.hid (C_Claim (h.below hb2) hN hq t ht k x hx key hit hhit)
 have n5 : ¬ (cOS A S).own W.heap.size := fun e => by have := h.lt e; omega
 have n8 : ¬ (cOS A S).own (W.heap.size + 1) := fun e => by have := h.lt e; omega
 obtain ⟨s0, s1, s2, s3, s4, -⟩ := cells5 x5
 unfold wkO wk0 at hW2
 have H := Lib.hid (And.intro h (And.intro hb2 (And.intro x5 (And.intro x8 (And.intro n5 n8)))))
 clear h hq hx hb2 x5 x8 n5 n8 hhit
 obtain ⟨M, hM⟩ : ∃ M, (if hit then (S.cm A).claim t k x key else S.cm A) = M := ⟨_, rfl⟩
 rw [hM] at HC ⊢
 clear hM
 unfold wkV
 go_enter Tryz.func107, Tryz.ntmps107
 go_wp2_with fail
 refine HC.out.mono ?_
 rintro e w1 ⟨rfl, S1, k1, hm1⟩
 obtain ⟨h, hb2, x5, x8, n5, n8⟩ := H.out
 have h2 := h.below hb2
 have y5 := CStep.kept h2 k1 n5 x5
 have y8 := CStep.kept h2 k1 n8 x8
 have m8 := CStep.stays k1 n8 (heap_lt x8)
 obtain ⟨a0, a1, a2, a3, a4, -⟩ := cells5 y5
 obtain ⟨b0, b1, b2, b3, b4, zb⟩ := cells5 y8
 have k0 : CStep W A S w1 S1 (N + 5) := (CStep.below h hb2).trans k1
 cases hit with
 | true =>
  have hs := set5_heap y8 (.int .i64 2) (.int .u64 key) (.int .i64 ((k : Int) + 1)) (.int .i64 0) (.bool false)
  have HS := Lib.hid hs
  have HF := Lib.hid (And.intro (k0.box (set5_fr w1 (W.heap.size + 1) (.int .i64 2) (.int .u64 key) (.int .i64 ((k : Int) + 1)) (.int .i64 0) (.bool false)) y8 (by decide) (by omega) m8) hm1)
  clear h hb2 x5 x8 n5 n8 h2 y5 y8 m8 k0 hs k1 hm1
  go_wp2_with fail
  obtain ⟨e0, e1, e2, e3, e4, -⟩ := cells5 HS.out
  refine bodyPost_ret (v := .tuple #[.agg #[.int .i64 2, .int .u64 key, .int .i64 ((k : Int) + 1), .int .i64 0, .bool false], .int .i64 1]) (by simp [results, Tryz.results107, go_sem, e0, e1, e2, e3, e4]) rfl ?_
  exact ⟨rfl, S1, HF.out.1, HF.out.2⟩
 | false =>
  have hs := set5_heap y8 (.int .i64 0) (.int .u64 0) (.int .i64 0) (.int .i64 0) (.bool false)
  have HS := Lib.hid hs
  have HF := Lib.hid (And.intro (k0.box (set5_fr w1 (W.heap.size + 1) (.int .i64 0) (.int .u64 0) (.int .i64 0) (.int .i64 0) (.bool false)) y8 (by decide) (by omega) m8) hm1)
  clear h hb2 x5 x8 n5 n8 h2 y5 y8 m8 k0 hs k1 hm1
  go_wp2_with fail
  obtain ⟨e0, e1, e2, e3, e4, -⟩ := cells5 HS.out
  refine bodyPost_ret (v := .tuple #[.agg #[.int .i64 0, .int .u64 0, .int .i64 0, .int .i64 0, .bool false], .int .i64 0]) (by simp [results, Tryz.results107, go_sem, e0, e1, e2, e3, e4]) rfl ?_
  exact ⟨rfl, S1, HF.out.1, HF.out.2⟩
theorem W_run_end (h : CoreAt W A S N) (t : Nat) (k : Nat) (x : Int × Tk) (hx : S.t.rows[k]? = some x) (ph key pc : Int) (hpc0 : 0 ≤ pc) (hpc : (x.2.L.length : Int) ≤ pc) {M : CM} (hF : ∀ w, Below W.heap.size W w → Calls Tryz.prog 159 #[.pointer (some ⟨A.cb, 0, none⟩), .int .i64 t, .int .i64 ((k : Int) + 1), .bool true] w fun e w' => e = .returned (.int .i64 0) ∧ ∃ S', CStep w A S w' S' N' ∧ S'.cm A = M) : Calls Tryz.prog 108 #[.pointer (some ⟨A.cb, 0, none⟩), wkV ⟨ph, ⟨key, (k : Int) + 1⟩, pc, false⟩, .int .i64 t] W fun e w' => e = .returned (.tuple #[wkV wk0, .int .i64 0]) ∧ ∃ S', CStep W A S w' S' N' ∧ S'.cm A = M := by
 obtain ⟨W2, hW2⟩ : ∃ W2, (W.alloc (wkO ⟨ph, ⟨key, (k : Int) + 1⟩, pc, false⟩)).alloc (wkO wk0) = W2 := ⟨_, rfl⟩
 have hb2 : Below W.heap.size W W2 := by rw [← hW2]; exact below_al (below_al (Below.refl _ _) _) _
 have x5 : W2.heap[W.heap.size]? = some (.cells #[.int .i64 ph, .int .u64 key, .int .i64 ((k : Int) + 1), .int .i64 pc, .bool false] 123 (0, 0)) := by rw [← hW2]; exact alloc_old (heap_alloc_new W _)
 have x8 : W2.heap[W.heap.size + 1]? = some (.cells #[.int .i64 0, .int .u64 0, .int .i64 0, .int .i64 0, .bool false] 123 (0, 0)) := by rw [← hW2]; exact alloc_at (by simp)
 have HB := Lib.hid (C_Body (h.below hb2) k x hx)
 have n5 : ¬ (cOS A S).own W.heap.size := fun e => by have := h.lt e; omega
 have n8 : ¬ (cOS A S).own (W.heap.size + 1) := fun e => by have := h.lt e; omega
 obtain ⟨s0, s1, s2, s3, s4, -⟩ := cells5 x5
 have HF := Lib.hid hF
 have H := Lib.hid (And.intro h (And.intro hb2 (And.intro x5 (And.intro x8 (And.intro n5 n8)))))
 obtain ⟨n, hn⟩ : ∃ n, x.2.L.length = n := ⟨_, rfl⟩
 rw [hn] at hpc
 have HN := Lib.hid hn
 have g0 : decide (pc < 0) = false := by rw [decide_eq_false_iff_not]; omega
 have g1 : decide (pc ≥ (n : Int)) = true := by rw [decide_eq_true_eq]; omega
 have g1' : decide ((n : Int) ≤ pc) = true := g1
 unfold wkO wk0 at hW2
 clear h hx hb2 x5 x8 n5 n8 hF hn hpc0
 unfold wkV wk0
 go_enter Tryz.func108, Tryz.ntmps108
 go_wp2_with fail
 refine HB.out.mono ?_
 rintro e w1 ⟨v1, rfl, ho1, hb1⟩
 obtain ⟨av, cv, rfl, -⟩ := ho1.form
 rw [HN.out]
 obtain ⟨h, hb2, x5, x8, n5, n8⟩ := H.out
 have y5 := (hb1.block _ (heap_lt x5)).trans x5
 obtain ⟨a0, a1, a2, a3, a4, -⟩ := cells5 y5
 have HFi := Lib.hid (HF.out w1 (below_step hb1 hb2))
 have H1 := Lib.hid (And.intro (below_step hb1 hb2) ((hb1.block _ (heap_lt x8)).trans x8))
 clear ho1 h hb2 x5 x8 n5 n8 y5 hb1
 go_wp2_with fail
 refine HFi.out.mono ?_
 rintro e w2 ⟨rfl, S2, k2, hm2⟩
 obtain ⟨h, hb2, x5, x8, n5, n8⟩ := H.out
 have h1 := h.below H1.out.1
 have y8 := CStep.kept h1 k2 n8 H1.out.2
 have m8 := CStep.stays k2 n8 (heap_lt H1.out.2)
 obtain ⟨b0, b1, b2, b3, b4, zb⟩ := cells5 y8
 have k0 : CStep W A S w2 S2 N' := (CStep.below h H1.out.1).trans k2
 have hs := set5_heap y8 (.int .i64 0) (.int .u64 0) (.int .i64 0) (.int .i64 0) (.bool false)
 have HS := Lib.hid hs
 have HFF := Lib.hid (And.intro (k0.box (set5_fr w2 (W.heap.size + 1) (.int .i64 0) (.int .u64 0) (.int .i64 0) (.int .i64 0) (.bool false)) y8 (by decide) (by omega) m8) hm2)
 clear h hb2 x5 x8 n5 n8 h1 y8 m8 k0 hs k2 hm2
 go_wp2_with fail
 obtain ⟨e0, e1, e2, e3, e4, -⟩ := cells5 HS.out
 refine bodyPost_ret (v := .tuple #[.agg #[.int .i64 0, .int .u64 0, .int .i64 0, .int .i64 0, .bool false], .int .i64 0]) (by simp [results, Tryz.results108, go_sem, e0, e1, e2, e3, e4]) rfl ?_
 exact ⟨rfl, S2, HFF.out.1, HFF.out.2⟩
end
theorem settle_id {q : QM} {t : Nat} (h : q.fullAt t = false) : q.settle t = q := by
 unfold QM.fullAt at h
 unfold QM.settle
 split <;> simp_all
theorem conf_field (x y z : Value) (w : World) : (Instr.field 83 (.agg #[x, y, z]) 0).run Tryz.prog w = .ok x w := by kernel_rfl
section
variable {W W' w5 w6 : World} {A : CA} {S S' : CS} {N N' : Nat}
theorem kd_look {w : World} {mb : Nat} {es : Array MapEntry} {clock : Nat} (hb : w.heap[mb]? = some (.map es clock)) (h : PMapE es clock kdF) (x y : Int) (hx : In64 x) (hy : In64 y) {v : Value} (hv : kdF x y = some v) : (Instr.lookup 182 (.map (some mb)) (.agg #[.int .i64 x, .int .i64 y]) false).run Tryz.prog w = .ok v w := by
 have := PMap.lookup (f := kdF) ⟨es, clock, hb, h⟩ keyedFound key_found Tryz.underlying182 (.int .i64 0) (by kernel_rfl) x y hx hy
 rw [hv] at this
 exact this
theorem W_Step0 (h : CoreAt W A S N) (t : Nat) (ht : t < A.q.lp.length) (hq : (S.q.q A.q.k).Ok) (hf : (S.q.q A.q.k).fullAt t = false) (dr : Int) (key id pc : Int) (bad : Bool) (ph1 key1 id1 pc1 : Int) (bad1 : Bool) (r : Int) (hr : In64 r) (kd : Int) (hk : kdF 0 r = some (.int .i64 kd)) {M : CM} (HI : ∀ w S0, CStep W A S w S0 N → S0.cm A = S.cm A → Calls Tryz.prog 106 #[.pointer (some ⟨A.cb, 0, none⟩), .agg #[.int .i64 0, .int .u64 key, .int .i64 id, .int .i64 pc, .bool bad], .int .i64 t, .int .u64 dr] w fun e w' => e = .returned (.tuple #[.agg #[.int .i64 ph1, .int .u64 key1, .int .i64 id1, .int .i64 pc1, .bool bad1], .int .i64 r]) ∧ ∃ S', CStep w A S0 w' S' N' ∧ S'.cm A = M) : Calls Tryz.prog 59 #[.pointer (some ⟨A.cb, 0, none⟩), .agg #[.int .i64 0, .int .u64 key, .int .i64 id, .int .i64 pc, .bool bad], .int .i64 t, .int .u64 dr] W fun e w' => e = .returned (.tuple #[.agg #[.int .i64 ph1, .int .u64 key1, .int .i64 id1, .int .i64 pc1, .bool bad1], .int .i64 kd]) ∧ ∃ S', CStep W A S w' S' N' ∧ S'.cm A = M := by
 obtain ⟨W2, hW2⟩ : ∃ W2, (W.alloc (.cells #[.int .i64 0, .int .u64 key, .int .i64 id, .int .i64 pc, .bool bad] 123)).alloc (wkO wk0) = W2 := ⟨_, rfl⟩
 have hb2 : Below W.heap.size W W2 := by rw [← hW2]; exact below_al (below_al (Below.refl _ _) _) _
 have x5 : W2.heap[W.heap.size]? = some (.cells #[.int .i64 0, .int .u64 key, .int .i64 id, .int .i64 pc, .bool bad] 123 (0, 0)) := by rw [← hW2]; exact alloc_old (heap_alloc_new W _)
 have x8 : W2.heap[W.heap.size + 1]? = some (.cells #[.int .i64 0, .int .u64 0, .int .i64 0, .int .i64 0, .bool false] 123 (0, 0)) := by rw [← hW2]; exact alloc_at (by simp)
 have HC := Lib.hid (C_Conf (h.below hb2))
 have n5 : ¬ (cOS A S).own W.heap.size := fun e => by have := h.lt e; omega
 have n8 : ¬ (cOS A S).own (W.heap.size + 1) := fun e => by have := h.lt e; omega
 have l5 := heap_lt x5
 have l8 := heap_lt x8
 obtain ⟨s0, s1, s2, s3, s4, -⟩ := cells5 x5
 have hr' := Lib.hid hr
 have hk' := Lib.hid hk
 have HI' := Lib.hid HI
 have H := Lib.hid (And.intro h (And.intro hb2 (And.intro x5 (And.intro x8 (And.intro n5 (And.intro n8 (And.intro l5 l8)))))))
 have g0 : decide ((t : Int) < 0) = false := by rw [decide_eq_false_iff_not]; omega
 have g1 : decide ((t : Int) ≥ (A.q.lp.length : Int)) = false := by rw [decide_eq_false_iff_not]; omega
 have g2 : decide (A.q.lp.length ≤ t) = false := by rw [decide_eq_false_iff_not]; omega
 unfold wkO wk0 at hW2
 have HQ := Lib.hid (And.intro hq (And.intro ht hf))
 clear hq ht hf
 clear h hb2 x5 x8 n5 n8 l5 l8 hr hk HI
 go_enter Tryz.func59, Tryz.ntmps59
 go_wp2_with fail
 refine HC.out.mono ?_
 rintro e w1 ⟨rfl, hb1⟩
 obtain ⟨h, hb2, x5, x8, n5, n8, l5, l8⟩ := H.out
 have h1 := (h.below hb2).below hb1
 have y5 := (hb1.block _ l5).trans x5
 have y8 := (hb1.block _ l8).trans x8
 obtain ⟨a0, a1, a2, a3, a4, -⟩ := cells5 y5
 have k1 : CStep W A S w1 S N := CStep.below h (below_step hb1 hb2)
 have hcf := conf_field (.int .i64 A.q.lp.length) (.int .i64 A.q.k) (.int .i64 A.C) w1
 have HS := Lib.hid (C_Settle h1 HQ.out.1 t HQ.out.2.1)
 rw [HQ.out.2.2] at HS
 have H1 := Lib.hid (And.intro k1 (And.intro y5 (And.intro y8 (And.intro (And.intro n5 n8) (And.intro h1 (Nat.lt_of_lt_of_le l8 hb1.size))))))
 clear h hb2 x5 x8 n5 n8 h1 y5 y8 k1 hb1 l5 l8 s0 s1 s2 s3 s4
 go_wp2_with fail
 refine HS.out.mono ?_
 rintro e w2 ⟨rfl, s2, kS, hs2⟩
 clear a0 a1 a2 a3 a4
 obtain ⟨k1, y5, y8, ⟨n5, n8⟩, h1, l8⟩ := H1.out
 have z5 := CStep.kept h1 kS n5 y5
 have z8 := CStep.kept h1 kS n8 y8
 have m5 := CStep.stays kS n5 (heap_lt y5)
 have m8 := CStep.stays kS n8 (heap_lt y8)
 have k2 := k1.trans kS
 have hcm : CS.cm A { S with q := s2 } = S.cm A := by
  have := hs2.trans (settle_id HQ.out.2.2)
  unfold CS.cm
  rw [this]
 obtain ⟨a0, a1, a2, a3, a4, -⟩ := cells5 z5
 obtain ⟨S2, hS2⟩ : ∃ S2, { S with q := s2 } = S2 := ⟨_, rfl⟩
 rw [hS2] at k2 hcm m5 m8
 have H2 := Lib.hid (And.intro k2 (And.intro z5 (And.intro z8 (And.intro m5 (And.intro m8 hcm)))))
 clear kS hs2 k1 y5 y8 n5 n8 h1 l8 z5 z8 m5 m8 k2 hcm hS2
 have hba : Below w2.heap.size w2 (w2.alloc (.cells #[.int .i64 0, .int .i64 0] 180)) := by exact below_al (Below.refl _ _) _
 have xa : (w2.alloc (.cells #[.int .i64 0, .int .i64 0] 180)).heap[w2.heap.size]? = some (.cells #[.int .i64 0, .int .i64 0] 180 (0, 0)) := heap_alloc_new w2 _
 have y5 : (w2.alloc (.cells #[.int .i64 0, .int .i64 0] 180)).heap[W.heap.size]? = some (.cells #[.int .i64 0, .int .u64 key, .int .i64 id, .int .i64 pc, .bool bad] 123 (0, 0)) := (hba.block _ (heap_lt H2.out.2.1)).trans H2.out.2.1
 have y8 := (hba.block _ (heap_lt H2.out.2.2.1)).trans H2.out.2.2.1
 obtain ⟨p0, p1, p2, p3, p4, -⟩ := cells5 y5
 have kA : CStep W A S (w2.alloc (.cells #[.int .i64 0, .int .i64 0] 180)) S2 N := H2.out.1.trans (CStep.below H2.out.1.at_ hba)
 have hAt := kA.at_
 have nA : ¬ (cOS A S2).own w2.heap.size := fun e => by have := H2.out.1.at_.lt e; omega
 have hlt : W.heap.size + 1 < w2.heap.size := heap_lt H2.out.2.2.1
 have HI2 := Lib.hid (HI'.out _ _ kA H2.out.2.2.2.2.2)
 have H3 := Lib.hid (And.intro kA (And.intro y5 (And.intro y8 (And.intro xa (And.intro H2.out.2.2.2.1 (And.intro H2.out.2.2.2.2.1 (And.intro nA hlt)))))))
 have HB := Lib.hid (And.intro hba.size (heap_lt xa))
 clear hba xa y5 y8 kA hAt nA hlt
 go_wp2_with fail
 refine HI2.out.mono ?_
 rintro e w3 ⟨rfl, S3, k3, hm3⟩
 clear p0 p1 p2 p3 p4 a0 a1 a2 a3 a4 HI2
 obtain ⟨kA, y5, y8, xa, m5, m8, nA, hlt⟩ := H3.out
 have hAt := kA.at_
 have z5 := CStep.kept hAt k3 m5 y5
 have z8 := CStep.kept hAt k3 m8 y8
 have za := CStep.kept hAt k3 nA xa
 have m5 := CStep.stays k3 m5 (heap_lt y5)
 have m8 := CStep.stays k3 m8 (heap_lt y8)
 have mA := CStep.stays k3 nA (heap_lt xa)
 have k4 := kA.trans k3
 obtain ⟨p0, p1, p2, p3, p4, pz⟩ := cells5 z5
 obtain ⟨q0, q1, -, qz⟩ := cells2 za
 obtain ⟨WB, hWB⟩ : ∃ Z, ((((((w3.setCell ⟨W.heap.size, 0, none⟩ (.int .i64 ph1)).setCell ⟨W.heap.size, 1, none⟩ (.int .u64 key1)).setCell ⟨W.heap.size, 2, none⟩ (.int .i64 id1)).setCell ⟨W.heap.size, 3, none⟩ (.int .i64 pc1)).setCell ⟨W.heap.size, 4, none⟩ (.bool bad1)).setCell ⟨w2.heap.size, 1, none⟩ (.int .i64 r)) = Z := ⟨_, rfl⟩
 have hs5 := set5_heap z5 (.int .i64 ph1) (.int .u64 key1) (.int .i64 id1) (.int .i64 pc1) (.bool bad1)
 have f5 := set5_fr w3 W.heap.size (.int .i64 ph1) (.int .u64 key1) (.int .i64 id1) (.int .i64 pc1) (.bool bad1)
 have k5 := k4.box f5 z5 (by decide) (Nat.le_refl _) m5
 have z8' := (f5.block _ (heap_lt z8) (by omega)).trans z8
 have za' := (f5.block _ (heap_lt za) (by omega)).trans za
 have fB : Fr (fun j => j = w2.heap.size) (((((w3.setCell ⟨W.heap.size, 0, none⟩ (.int .i64 ph1)).setCell ⟨W.heap.size, 1, none⟩ (.int .u64 key1)).setCell ⟨W.heap.size, 2, none⟩ (.int .i64 id1)).setCell ⟨W.heap.size, 3, none⟩ (.int .i64 pc1)).setCell ⟨W.heap.size, 4, none⟩ (.bool bad1)) WB := by rw [← hWB]; exact Fr.set (S := fun j => j = w2.heap.size) (Fr.refl _ _) (p := ⟨w2.heap.size, 1, none⟩) rfl (.int .i64 r)
 have zaB : WB.heap[w2.heap.size]? = some (.cells #[.int .i64 0, .int .i64 r] 180 (0, 0)) := by rw [← hWB, heap_set za' _]; simp
 have z5B := (fB.block _ (heap_lt hs5) (by omega)).trans hs5
 have z8B := (fB.block _ (heap_lt z8') (by omega)).trans z8'
 have k6 := k5.box fB za' (by decide) (by omega) mA
 have H4 := Lib.hid (And.intro k6 (And.intro z5B (And.intro z8B (And.intro zaB (And.intro m8 (And.intro hlt hm3))))))
 have HWB := Lib.hid hWB
 have ne1 : ¬ w2.heap.size = W.heap.size := by omega
 have ne2 : ¬ W.heap.size = w2.heap.size := by omega
 clear kA y5 y8 xa m5 m8 nA hlt hAt z5 z8 za mA k4 hs5 f5 k5 z8' za' fB zaB z5B z8B k6 k3 hm3 HB H3 hWB
 go_wp2_with fail
 rw [HWB.out]
 refine (kinds_any _).mono ?_
 rintro e w4 ⟨es, clock, rfl, hw4, hE⟩
 clear p0 p1 p2 p3 p4 pz q0 q1 qz
 obtain ⟨k6, z5B, z8B, zaB, m8, hlt, hm3⟩ := H4.out
 have hb4 : Below WB.heap.size WB w4 := by rw [hw4]; exact below_dr (below_al (Below.refl _ _) _)
 have ym : w4.heap[WB.heap.size]? = some (.map es clock) := by rw [hw4]; exact heap_alloc_new WB _
 have y5 := (hb4.block _ (heap_lt z5B)).trans z5B
 have y8 := (hb4.block _ (heap_lt z8B)).trans z8B
 have ya := (hb4.block _ (heap_lt zaB)).trans zaB
 have k7 := k6.trans (CStep.below k6.at_ hb4)
 obtain ⟨p0, p1, p2, p3, p4, pz⟩ := cells5 (w := w4.drew) y5
 obtain ⟨b0, b1, b2, b3, b4, bz⟩ := cells5 (w := w4.drew) y8
 obtain ⟨q0, q1, -, -⟩ := cells2 (w := w4.drew) ya
 obtain ⟨p0', p1', p2', p3', p4', pz'⟩ := cells5 y5
 obtain ⟨b0', b1', b2', b3', b4', bz'⟩ := cells5 y8
 obtain ⟨q0', q1', -, -⟩ := cells2 ya
 have fV := set5_fr w4 (W.heap.size + 1) (.int .i64 ph1) (.int .u64 key1) (.int .i64 id1) (.int .i64 pc1) (.bool bad1)
 have lB := heap_lt z8B
 have yaV := (fV.block _ (heap_lt ya) (by omega)).trans ya
 have ymV := (fV.block _ (heap_lt ym) (by omega)).trans ym
 obtain ⟨V, hV⟩ : ∃ Z, (((((w4.setCell ⟨W.heap.size + 1, 0, none⟩ (.int .i64 ph1)).setCell ⟨W.heap.size + 1, 1, none⟩ (.int .u64 key1)).setCell ⟨W.heap.size + 1, 2, none⟩ (.int .i64 id1)).setCell ⟨W.heap.size + 1, 3, none⟩ (.int .i64 pc1)).setCell ⟨W.heap.size + 1, 4, none⟩ (.bool bad1)) = Z := ⟨_, rfl⟩
 have HS := Lib.hid (set5_heap y8 (.int .i64 ph1) (.int .u64 key1) (.int .i64 id1) (.int .i64 pc1) (.bool bad1))
 have HF := Lib.hid (And.intro (k7.box (set5_fr w4 (W.heap.size + 1) (.int .i64 ph1) (.int .u64 key1) (.int .i64 id1) (.int .i64 pc1) (.bool bad1)) y8 (by decide) (by omega) m8) hm3)
 rw [hV] at yaV ymV HS HF
 obtain ⟨v0, v1, -, -⟩ := cells2 (w := V.drew) yaV
 have hlV := kd_look (w := V.drew) ymV hE 0 r (by unfold In64; decide) hr'.out hk'.out
 have nx1 : ¬ w2.heap.size = W.heap.size + 1 := by omega
 have nx2 : ¬ W.heap.size + 1 = w2.heap.size := by omega
 have hlk := kd_look (w := w4.drew) ym hE 0 r (by unfold In64; decide) hr'.out hk'.out
 clear k6 z5B z8B zaB m8 hlt hm3 hb4 ym y5 y8 ya k7 hw4 hE H4 H2 fV yaV ymV lB
 go_upto_region 13 with fail
 go_region
 all_goals
  go_wp2_with fail
  obtain ⟨e0, e1, e2, e3, e4, -⟩ := cells5 (w := V.drew) HS.out
  refine bodyPost_ret (v := .tuple #[.agg #[.int .i64 ph1, .int .u64 key1, .int .i64 id1, .int .i64 pc1, .bool bad1], .int .i64 kd]) (by simp [results, Tryz.results59, go_sem, e0, e1, e2, e3, e4]) rfl ?_
  exact ⟨rfl, S3, HF.out.1.trans (CStep.below HF.out.1.at_ (below_dr (Below.refl _ _))), HF.out.2⟩
theorem W_Step1 (h : CoreAt W A S N) (t : Nat) (ht : t < A.q.lp.length) (dr : Int) (key id pc : Int) (bad : Bool) (ph1 key1 id1 pc1 : Int) (bad1 : Bool) (r : Int) (hr : In64 r) (kd : Int) (hk : kdF 1 r = some (.int .i64 kd)) {M : CM} (HI : ∀ w S0, CStep W A S w S0 N → S0.cm A = S.cm A → Calls Tryz.prog 107 #[.pointer (some ⟨A.cb, 0, none⟩), .agg #[.int .i64 1, .int .u64 key, .int .i64 id, .int .i64 pc, .bool bad], .int .i64 t] w fun e w' => e = .returned (.tuple #[.agg #[.int .i64 ph1, .int .u64 key1, .int .i64 id1, .int .i64 pc1, .bool bad1], .int .i64 r]) ∧ ∃ S', CStep w A S0 w' S' N' ∧ S'.cm A = M) : Calls Tryz.prog 59 #[.pointer (some ⟨A.cb, 0, none⟩), .agg #[.int .i64 1, .int .u64 key, .int .i64 id, .int .i64 pc, .bool bad], .int .i64 t, .int .u64 dr] W fun e w' => e = .returned (.tuple #[.agg #[.int .i64 ph1, .int .u64 key1, .int .i64 id1, .int .i64 pc1, .bool bad1], .int .i64 kd]) ∧ ∃ S', CStep W A S w' S' N' ∧ S'.cm A = M := by
 obtain ⟨W2, hW2⟩ : ∃ W2, (W.alloc (.cells #[.int .i64 1, .int .u64 key, .int .i64 id, .int .i64 pc, .bool bad] 123)).alloc (wkO wk0) = W2 := ⟨_, rfl⟩
 have hb2 : Below W.heap.size W W2 := by rw [← hW2]; exact below_al (below_al (Below.refl _ _) _) _
 have x5 : W2.heap[W.heap.size]? = some (.cells #[.int .i64 1, .int .u64 key, .int .i64 id, .int .i64 pc, .bool bad] 123 (0, 0)) := by rw [← hW2]; exact alloc_old (heap_alloc_new W _)
 have x8 : W2.heap[W.heap.size + 1]? = some (.cells #[.int .i64 0, .int .u64 0, .int .i64 0, .int .i64 0, .bool false] 123 (0, 0)) := by rw [← hW2]; exact alloc_at (by simp)
 have HC := Lib.hid (C_Conf (h.below hb2))
 have n5 : ¬ (cOS A S).own W.heap.size := fun e => by have := h.lt e; omega
 have n8 : ¬ (cOS A S).own (W.heap.size + 1) := fun e => by have := h.lt e; omega
 have l5 := heap_lt x5
 have l8 := heap_lt x8
 obtain ⟨s0, s1, s2, s3, s4, -⟩ := cells5 x5
 have hr' := Lib.hid hr
 have hk' := Lib.hid hk
 have HI' := Lib.hid HI
 have H := Lib.hid (And.intro h (And.intro hb2 (And.intro x5 (And.intro x8 (And.intro n5 (And.intro n8 (And.intro l5 l8)))))))
 have g0 : decide ((t : Int) < 0) = false := by rw [decide_eq_false_iff_not]; omega
 have g1 : decide ((t : Int) ≥ (A.q.lp.length : Int)) = false := by rw [decide_eq_false_iff_not]; omega
 have g2 : decide (A.q.lp.length ≤ t) = false := by rw [decide_eq_false_iff_not]; omega
 unfold wkO wk0 at hW2
 clear h hb2 x5 x8 n5 n8 l5 l8 hr hk HI
 go_enter Tryz.func59, Tryz.ntmps59
 go_wp2_with fail
 refine HC.out.mono ?_
 rintro e w1 ⟨rfl, hb1⟩
 obtain ⟨h, hb2, x5, x8, n5, n8, l5, l8⟩ := H.out
 have h1 := (h.below hb2).below hb1
 have y5 := (hb1.block _ l5).trans x5
 have y8 := (hb1.block _ l8).trans x8
 obtain ⟨a0, a1, a2, a3, a4, -⟩ := cells5 y5
 have k1 : CStep W A S w1 S N := CStep.below h (below_step hb1 hb2)
 have hcf := conf_field (.int .i64 A.q.lp.length) (.int .i64 A.q.k) (.int .i64 A.C) w1
 have H2 := Lib.hid (And.intro k1 (And.intro y5 (And.intro y8 (And.intro n5 (And.intro n8 (rfl : S.cm A = S.cm A))))))
 clear h hb2 x5 x8 n5 n8 h1 y5 y8 k1 hb1 l5 l8 s0 s1 s2 s3 s4
 have hba : Below w1.heap.size w1 (w1.alloc (.cells #[.int .i64 1, .int .i64 0] 180)) := by exact below_al (Below.refl _ _) _
 have xa : (w1.alloc (.cells #[.int .i64 1, .int .i64 0] 180)).heap[w1.heap.size]? = some (.cells #[.int .i64 1, .int .i64 0] 180 (0, 0)) := heap_alloc_new w1 _
 have y5 : (w1.alloc (.cells #[.int .i64 1, .int .i64 0] 180)).heap[W.heap.size]? = some (.cells #[.int .i64 1, .int .u64 key, .int .i64 id, .int .i64 pc, .bool bad] 123 (0, 0)) := (hba.block _ (heap_lt H2.out.2.1)).trans H2.out.2.1
 have y8 := (hba.block _ (heap_lt H2.out.2.2.1)).trans H2.out.2.2.1
 obtain ⟨p0, p1, p2, p3, p4, -⟩ := cells5 y5
 have kA : CStep W A S (w1.alloc (.cells #[.int .i64 1, .int .i64 0] 180)) S N := H2.out.1.trans (CStep.below H2.out.1.at_ hba)
 have hAt := kA.at_
 have nA : ¬ (cOS A S).own w1.heap.size := fun e => by have := H2.out.1.at_.lt e; omega
 have hlt : W.heap.size + 1 < w1.heap.size := heap_lt H2.out.2.2.1
 have HI2 := Lib.hid (HI'.out _ _ kA H2.out.2.2.2.2.2)
 have H3 := Lib.hid (And.intro kA (And.intro y5 (And.intro y8 (And.intro xa (And.intro H2.out.2.2.2.1 (And.intro H2.out.2.2.2.2.1 (And.intro nA hlt)))))))
 have HB := Lib.hid (And.intro hba.size (heap_lt xa))
 clear hba xa y5 y8 kA hAt nA hlt
 go_wp2_with fail
 refine HI2.out.mono ?_
 rintro e w3 ⟨rfl, S3, k3, hm3⟩
 clear p0 p1 p2 p3 p4 a0 a1 a2 a3 a4 HI2
 obtain ⟨kA, y5, y8, xa, m5, m8, nA, hlt⟩ := H3.out
 have hAt := kA.at_
 have z5 := CStep.kept hAt k3 m5 y5
 have z8 := CStep.kept hAt k3 m8 y8
 have za := CStep.kept hAt k3 nA xa
 have m5 := CStep.stays k3 m5 (heap_lt y5)
 have m8 := CStep.stays k3 m8 (heap_lt y8)
 have mA := CStep.stays k3 nA (heap_lt xa)
 have k4 := kA.trans k3
 obtain ⟨p0, p1, p2, p3, p4, pz⟩ := cells5 z5
 obtain ⟨q0, q1, -, qz⟩ := cells2 za
 obtain ⟨WB, hWB⟩ : ∃ Z, ((((((w3.setCell ⟨W.heap.size, 0, none⟩ (.int .i64 ph1)).setCell ⟨W.heap.size, 1, none⟩ (.int .u64 key1)).setCell ⟨W.heap.size, 2, none⟩ (.int .i64 id1)).setCell ⟨W.heap.size, 3, none⟩ (.int .i64 pc1)).setCell ⟨W.heap.size, 4, none⟩ (.bool bad1)).setCell ⟨w1.heap.size, 1, none⟩ (.int .i64 r)) = Z := ⟨_, rfl⟩
 have hs5 := set5_heap z5 (.int .i64 ph1) (.int .u64 key1) (.int .i64 id1) (.int .i64 pc1) (.bool bad1)
 have f5 := set5_fr w3 W.heap.size (.int .i64 ph1) (.int .u64 key1) (.int .i64 id1) (.int .i64 pc1) (.bool bad1)
 have k5 := k4.box f5 z5 (by decide) (Nat.le_refl _) m5
 have z8' := (f5.block _ (heap_lt z8) (by omega)).trans z8
 have za' := (f5.block _ (heap_lt za) (by omega)).trans za
 have fB : Fr (fun j => j = w1.heap.size) (((((w3.setCell ⟨W.heap.size, 0, none⟩ (.int .i64 ph1)).setCell ⟨W.heap.size, 1, none⟩ (.int .u64 key1)).setCell ⟨W.heap.size, 2, none⟩ (.int .i64 id1)).setCell ⟨W.heap.size, 3, none⟩ (.int .i64 pc1)).setCell ⟨W.heap.size, 4, none⟩ (.bool bad1)) WB := by rw [← hWB]; exact Fr.set (S := fun j => j = w1.heap.size) (Fr.refl _ _) (p := ⟨w1.heap.size, 1, none⟩) rfl (.int .i64 r)
 have zaB : WB.heap[w1.heap.size]? = some (.cells #[.int .i64 1, .int .i64 r] 180 (0, 0)) := by rw [← hWB, heap_set za' _]; simp
 have z5B := (fB.block _ (heap_lt hs5) (by omega)).trans hs5
 have z8B := (fB.block _ (heap_lt z8') (by omega)).trans z8'
 have k6 := k5.box fB za' (by decide) (by omega) mA
 have H4 := Lib.hid (And.intro k6 (And.intro z5B (And.intro z8B (And.intro zaB (And.intro m8 (And.intro hlt hm3))))))
 have HWB := Lib.hid hWB
 have ne1 : ¬ w1.heap.size = W.heap.size := by omega
 have ne2 : ¬ W.heap.size = w1.heap.size := by omega
 clear kA y5 y8 xa m5 m8 nA hlt hAt z5 z8 za mA k4 hs5 f5 k5 z8' za' fB zaB z5B z8B k6 k3 hm3 HB H3 hWB
 go_wp2_with fail
 rw [HWB.out]
 refine (kinds_any _).mono ?_
 rintro e w4 ⟨es, clock, rfl, hw4, hE⟩
 clear p0 p1 p2 p3 p4 pz q0 q1 qz
 obtain ⟨k6, z5B, z8B, zaB, m8, hlt, hm3⟩ := H4.out
 have hb4 : Below WB.heap.size WB w4 := by rw [hw4]; exact below_dr (below_al (Below.refl _ _) _)
 have ym : w4.heap[WB.heap.size]? = some (.map es clock) := by rw [hw4]; exact heap_alloc_new WB _
 have y5 := (hb4.block _ (heap_lt z5B)).trans z5B
 have y8 := (hb4.block _ (heap_lt z8B)).trans z8B
 have ya := (hb4.block _ (heap_lt zaB)).trans zaB
 have k7 := k6.trans (CStep.below k6.at_ hb4)
 obtain ⟨p0, p1, p2, p3, p4, pz⟩ := cells5 (w := w4.drew) y5
 obtain ⟨b0, b1, b2, b3, b4, bz⟩ := cells5 (w := w4.drew) y8
 obtain ⟨q0, q1, -, -⟩ := cells2 (w := w4.drew) ya
 obtain ⟨p0', p1', p2', p3', p4', pz'⟩ := cells5 y5
 obtain ⟨b0', b1', b2', b3', b4', bz'⟩ := cells5 y8
 obtain ⟨q0', q1', -, -⟩ := cells2 ya
 have fV := set5_fr w4 (W.heap.size + 1) (.int .i64 ph1) (.int .u64 key1) (.int .i64 id1) (.int .i64 pc1) (.bool bad1)
 have lB := heap_lt z8B
 have yaV := (fV.block _ (heap_lt ya) (by omega)).trans ya
 have ymV := (fV.block _ (heap_lt ym) (by omega)).trans ym
 obtain ⟨V, hV⟩ : ∃ Z, (((((w4.setCell ⟨W.heap.size + 1, 0, none⟩ (.int .i64 ph1)).setCell ⟨W.heap.size + 1, 1, none⟩ (.int .u64 key1)).setCell ⟨W.heap.size + 1, 2, none⟩ (.int .i64 id1)).setCell ⟨W.heap.size + 1, 3, none⟩ (.int .i64 pc1)).setCell ⟨W.heap.size + 1, 4, none⟩ (.bool bad1)) = Z := ⟨_, rfl⟩
 have HS := Lib.hid (set5_heap y8 (.int .i64 ph1) (.int .u64 key1) (.int .i64 id1) (.int .i64 pc1) (.bool bad1))
 have HF := Lib.hid (And.intro (k7.box (set5_fr w4 (W.heap.size + 1) (.int .i64 ph1) (.int .u64 key1) (.int .i64 id1) (.int .i64 pc1) (.bool bad1)) y8 (by decide) (by omega) m8) hm3)
 rw [hV] at yaV ymV HS HF
 obtain ⟨v0, v1, -, -⟩ := cells2 (w := V.drew) yaV
 have hlV := kd_look (w := V.drew) ymV hE 1 r (by unfold In64; decide) hr'.out hk'.out
 have nx1 : ¬ w1.heap.size = W.heap.size + 1 := by omega
 have nx2 : ¬ W.heap.size + 1 = w1.heap.size := by omega
 have hlk := kd_look (w := w4.drew) ym hE 1 r (by unfold In64; decide) hr'.out hk'.out
 clear k6 z5B z8B zaB m8 hlt hm3 hb4 ym y5 y8 ya k7 hw4 hE H4 H2 fV yaV ymV lB
 go_upto_region 13 with fail
 go_region
 all_goals
  go_wp2_with fail
  obtain ⟨e0, e1, e2, e3, e4, -⟩ := cells5 (w := V.drew) HS.out
  refine bodyPost_ret (v := .tuple #[.agg #[.int .i64 ph1, .int .u64 key1, .int .i64 id1, .int .i64 pc1, .bool bad1], .int .i64 kd]) (by simp [results, Tryz.results59, go_sem, e0, e1, e2, e3, e4]) rfl ?_
  exact ⟨rfl, S3, HF.out.1.trans (CStep.below HF.out.1.at_ (below_dr (Below.refl _ _))), HF.out.2⟩
theorem W_Step2 (h : CoreAt W A S N) (t : Nat) (ht : t < A.q.lp.length) (dr : Int) (key id pc : Int) (bad : Bool) (ph1 key1 id1 pc1 : Int) (bad1 : Bool) (r : Int) (hr : In64 r) (kd : Int) (hk : kdF 2 r = some (.int .i64 kd)) {M : CM} (HI : ∀ w S0, CStep W A S w S0 N → S0.cm A = S.cm A → Calls Tryz.prog 108 #[.pointer (some ⟨A.cb, 0, none⟩), .agg #[.int .i64 2, .int .u64 key, .int .i64 id, .int .i64 pc, .bool bad], .int .i64 t] w fun e w' => e = .returned (.tuple #[.agg #[.int .i64 ph1, .int .u64 key1, .int .i64 id1, .int .i64 pc1, .bool bad1], .int .i64 r]) ∧ ∃ S', CStep w A S0 w' S' N' ∧ S'.cm A = M) : Calls Tryz.prog 59 #[.pointer (some ⟨A.cb, 0, none⟩), .agg #[.int .i64 2, .int .u64 key, .int .i64 id, .int .i64 pc, .bool bad], .int .i64 t, .int .u64 dr] W fun e w' => e = .returned (.tuple #[.agg #[.int .i64 ph1, .int .u64 key1, .int .i64 id1, .int .i64 pc1, .bool bad1], .int .i64 kd]) ∧ ∃ S', CStep W A S w' S' N' ∧ S'.cm A = M := by
 obtain ⟨W2, hW2⟩ : ∃ W2, (W.alloc (.cells #[.int .i64 2, .int .u64 key, .int .i64 id, .int .i64 pc, .bool bad] 123)).alloc (wkO wk0) = W2 := ⟨_, rfl⟩
 have hb2 : Below W.heap.size W W2 := by rw [← hW2]; exact below_al (below_al (Below.refl _ _) _) _
 have x5 : W2.heap[W.heap.size]? = some (.cells #[.int .i64 2, .int .u64 key, .int .i64 id, .int .i64 pc, .bool bad] 123 (0, 0)) := by rw [← hW2]; exact alloc_old (heap_alloc_new W _)
 have x8 : W2.heap[W.heap.size + 1]? = some (.cells #[.int .i64 0, .int .u64 0, .int .i64 0, .int .i64 0, .bool false] 123 (0, 0)) := by rw [← hW2]; exact alloc_at (by simp)
 have HC := Lib.hid (C_Conf (h.below hb2))
 have n5 : ¬ (cOS A S).own W.heap.size := fun e => by have := h.lt e; omega
 have n8 : ¬ (cOS A S).own (W.heap.size + 1) := fun e => by have := h.lt e; omega
 have l5 := heap_lt x5
 have l8 := heap_lt x8
 obtain ⟨s0, s1, s2, s3, s4, -⟩ := cells5 x5
 have hr' := Lib.hid hr
 have hk' := Lib.hid hk
 have HI' := Lib.hid HI
 have H := Lib.hid (And.intro h (And.intro hb2 (And.intro x5 (And.intro x8 (And.intro n5 (And.intro n8 (And.intro l5 l8)))))))
 have g0 : decide ((t : Int) < 0) = false := by rw [decide_eq_false_iff_not]; omega
 have g1 : decide ((t : Int) ≥ (A.q.lp.length : Int)) = false := by rw [decide_eq_false_iff_not]; omega
 have g2 : decide (A.q.lp.length ≤ t) = false := by rw [decide_eq_false_iff_not]; omega
 unfold wkO wk0 at hW2
 clear h hb2 x5 x8 n5 n8 l5 l8 hr hk HI
 go_enter Tryz.func59, Tryz.ntmps59
 go_wp2_with fail
 refine HC.out.mono ?_
 rintro e w1 ⟨rfl, hb1⟩
 obtain ⟨h, hb2, x5, x8, n5, n8, l5, l8⟩ := H.out
 have h1 := (h.below hb2).below hb1
 have y5 := (hb1.block _ l5).trans x5
 have y8 := (hb1.block _ l8).trans x8
 obtain ⟨a0, a1, a2, a3, a4, -⟩ := cells5 y5
 have k1 : CStep W A S w1 S N := CStep.below h (below_step hb1 hb2)
 have hcf := conf_field (.int .i64 A.q.lp.length) (.int .i64 A.q.k) (.int .i64 A.C) w1
 have H2 := Lib.hid (And.intro k1 (And.intro y5 (And.intro y8 (And.intro n5 (And.intro n8 (rfl : S.cm A = S.cm A))))))
 clear h hb2 x5 x8 n5 n8 h1 y5 y8 k1 hb1 l5 l8 s0 s1 s2 s3 s4
 have hba : Below w1.heap.size w1 (w1.alloc (.cells #[.int .i64 2, .int .i64 0] 180)) := by exact below_al (Below.refl _ _) _
 have xa : (w1.alloc (.cells #[.int .i64 2, .int .i64 0] 180)).heap[w1.heap.size]? = some (.cells #[.int .i64 2, .int .i64 0] 180 (0, 0)) := heap_alloc_new w1 _
 have y5 : (w1.alloc (.cells #[.int .i64 2, .int .i64 0] 180)).heap[W.heap.size]? = some (.cells #[.int .i64 2, .int .u64 key, .int .i64 id, .int .i64 pc, .bool bad] 123 (0, 0)) := (hba.block _ (heap_lt H2.out.2.1)).trans H2.out.2.1
 have y8 := (hba.block _ (heap_lt H2.out.2.2.1)).trans H2.out.2.2.1
 obtain ⟨p0, p1, p2, p3, p4, -⟩ := cells5 y5
 have kA : CStep W A S (w1.alloc (.cells #[.int .i64 2, .int .i64 0] 180)) S N := H2.out.1.trans (CStep.below H2.out.1.at_ hba)
 have hAt := kA.at_
 have nA : ¬ (cOS A S).own w1.heap.size := fun e => by have := H2.out.1.at_.lt e; omega
 have hlt : W.heap.size + 1 < w1.heap.size := heap_lt H2.out.2.2.1
 have HI2 := Lib.hid (HI'.out _ _ kA H2.out.2.2.2.2.2)
 have H3 := Lib.hid (And.intro kA (And.intro y5 (And.intro y8 (And.intro xa (And.intro H2.out.2.2.2.1 (And.intro H2.out.2.2.2.2.1 (And.intro nA hlt)))))))
 have HB := Lib.hid (And.intro hba.size (heap_lt xa))
 clear hba xa y5 y8 kA hAt nA hlt
 go_wp2_with fail
 refine HI2.out.mono ?_
 rintro e w3 ⟨rfl, S3, k3, hm3⟩
 clear p0 p1 p2 p3 p4 a0 a1 a2 a3 a4 HI2
 obtain ⟨kA, y5, y8, xa, m5, m8, nA, hlt⟩ := H3.out
 have hAt := kA.at_
 have z5 := CStep.kept hAt k3 m5 y5
 have z8 := CStep.kept hAt k3 m8 y8
 have za := CStep.kept hAt k3 nA xa
 have m5 := CStep.stays k3 m5 (heap_lt y5)
 have m8 := CStep.stays k3 m8 (heap_lt y8)
 have mA := CStep.stays k3 nA (heap_lt xa)
 have k4 := kA.trans k3
 obtain ⟨p0, p1, p2, p3, p4, pz⟩ := cells5 z5
 obtain ⟨q0, q1, -, qz⟩ := cells2 za
 obtain ⟨WB, hWB⟩ : ∃ Z, ((((((w3.setCell ⟨W.heap.size, 0, none⟩ (.int .i64 ph1)).setCell ⟨W.heap.size, 1, none⟩ (.int .u64 key1)).setCell ⟨W.heap.size, 2, none⟩ (.int .i64 id1)).setCell ⟨W.heap.size, 3, none⟩ (.int .i64 pc1)).setCell ⟨W.heap.size, 4, none⟩ (.bool bad1)).setCell ⟨w1.heap.size, 1, none⟩ (.int .i64 r)) = Z := ⟨_, rfl⟩
 have hs5 := set5_heap z5 (.int .i64 ph1) (.int .u64 key1) (.int .i64 id1) (.int .i64 pc1) (.bool bad1)
 have f5 := set5_fr w3 W.heap.size (.int .i64 ph1) (.int .u64 key1) (.int .i64 id1) (.int .i64 pc1) (.bool bad1)
 have k5 := k4.box f5 z5 (by decide) (Nat.le_refl _) m5
 have z8' := (f5.block _ (heap_lt z8) (by omega)).trans z8
 have za' := (f5.block _ (heap_lt za) (by omega)).trans za
 have fB : Fr (fun j => j = w1.heap.size) (((((w3.setCell ⟨W.heap.size, 0, none⟩ (.int .i64 ph1)).setCell ⟨W.heap.size, 1, none⟩ (.int .u64 key1)).setCell ⟨W.heap.size, 2, none⟩ (.int .i64 id1)).setCell ⟨W.heap.size, 3, none⟩ (.int .i64 pc1)).setCell ⟨W.heap.size, 4, none⟩ (.bool bad1)) WB := by rw [← hWB]; exact Fr.set (S := fun j => j = w1.heap.size) (Fr.refl _ _) (p := ⟨w1.heap.size, 1, none⟩) rfl (.int .i64 r)
 have zaB : WB.heap[w1.heap.size]? = some (.cells #[.int .i64 2, .int .i64 r] 180 (0, 0)) := by rw [← hWB, heap_set za' _]; simp
 have z5B := (fB.block _ (heap_lt hs5) (by omega)).trans hs5
 have z8B := (fB.block _ (heap_lt z8') (by omega)).trans z8'
 have k6 := k5.box fB za' (by decide) (by omega) mA
 have H4 := Lib.hid (And.intro k6 (And.intro z5B (And.intro z8B (And.intro zaB (And.intro m8 (And.intro hlt hm3))))))
 have HWB := Lib.hid hWB
 have ne1 : ¬ w1.heap.size = W.heap.size := by omega
 have ne2 : ¬ W.heap.size = w1.heap.size := by omega
 clear kA y5 y8 xa m5 m8 nA hlt hAt z5 z8 za mA k4 hs5 f5 k5 z8' za' fB zaB z5B z8B k6 k3 hm3 HB H3 hWB
 go_wp2_with fail
 rw [HWB.out]
 refine (kinds_any _).mono ?_
 rintro e w4 ⟨es, clock, rfl, hw4, hE⟩
 clear p0 p1 p2 p3 p4 pz q0 q1 qz
 obtain ⟨k6, z5B, z8B, zaB, m8, hlt, hm3⟩ := H4.out
 have hb4 : Below WB.heap.size WB w4 := by rw [hw4]; exact below_dr (below_al (Below.refl _ _) _)
 have ym : w4.heap[WB.heap.size]? = some (.map es clock) := by rw [hw4]; exact heap_alloc_new WB _
 have y5 := (hb4.block _ (heap_lt z5B)).trans z5B
 have y8 := (hb4.block _ (heap_lt z8B)).trans z8B
 have ya := (hb4.block _ (heap_lt zaB)).trans zaB
 have k7 := k6.trans (CStep.below k6.at_ hb4)
 obtain ⟨p0, p1, p2, p3, p4, pz⟩ := cells5 (w := w4.drew) y5
 obtain ⟨b0, b1, b2, b3, b4, bz⟩ := cells5 (w := w4.drew) y8
 obtain ⟨q0, q1, -, -⟩ := cells2 (w := w4.drew) ya
 obtain ⟨p0', p1', p2', p3', p4', pz'⟩ := cells5 y5
 obtain ⟨b0', b1', b2', b3', b4', bz'⟩ := cells5 y8
 obtain ⟨q0', q1', -, -⟩ := cells2 ya
 have fV := set5_fr w4 (W.heap.size + 1) (.int .i64 ph1) (.int .u64 key1) (.int .i64 id1) (.int .i64 pc1) (.bool bad1)
 have lB := heap_lt z8B
 have yaV := (fV.block _ (heap_lt ya) (by omega)).trans ya
 have ymV := (fV.block _ (heap_lt ym) (by omega)).trans ym
 obtain ⟨V, hV⟩ : ∃ Z, (((((w4.setCell ⟨W.heap.size + 1, 0, none⟩ (.int .i64 ph1)).setCell ⟨W.heap.size + 1, 1, none⟩ (.int .u64 key1)).setCell ⟨W.heap.size + 1, 2, none⟩ (.int .i64 id1)).setCell ⟨W.heap.size + 1, 3, none⟩ (.int .i64 pc1)).setCell ⟨W.heap.size + 1, 4, none⟩ (.bool bad1)) = Z := ⟨_, rfl⟩
 have HS := Lib.hid (set5_heap y8 (.int .i64 ph1) (.int .u64 key1) (.int .i64 id1) (.int .i64 pc1) (.bool bad1))
 have HF := Lib.hid (And.intro (k7.box (set5_fr w4 (W.heap.size + 1) (.int .i64 ph1) (.int .u64 key1) (.int .i64 id1) (.int .i64 pc1) (.bool bad1)) y8 (by decide) (by omega) m8) hm3)
 rw [hV] at yaV ymV HS HF
 obtain ⟨v0, v1, -, -⟩ := cells2 (w := V.drew) yaV
 have hlV := kd_look (w := V.drew) ymV hE 2 r (by unfold In64; decide) hr'.out hk'.out
 have nx1 : ¬ w1.heap.size = W.heap.size + 1 := by omega
 have nx2 : ¬ W.heap.size + 1 = w1.heap.size := by omega
 have hlk := kd_look (w := w4.drew) ym hE 2 r (by unfold In64; decide) hr'.out hk'.out
 clear k6 z5B z8B zaB m8 hlt hm3 hb4 ym y5 y8 ya k7 hw4 hE H4 H2 fV yaV ymV lB
 go_upto_region 13 with fail
 go_region
 all_goals
  go_wp2_with fail
  obtain ⟨e0, e1, e2, e3, e4, -⟩ := cells5 (w := V.drew) HS.out
  refine bodyPost_ret (v := .tuple #[.agg #[.int .i64 ph1, .int .u64 key1, .int .i64 id1, .int .i64 pc1, .bool bad1], .int .i64 kd]) (by simp [results, Tryz.results59, go_sem, e0, e1, e2, e3, e4]) rfl ?_
  exact ⟨rfl, S3, HF.out.1.trans (CStep.below HF.out.1.at_ (below_dr (Below.refl _ _))), HF.out.2⟩
theorem W_StepS (h : CoreAt W A S N) (t : Nat) (ht : t < A.q.lp.length) (hq : (S.q.q A.q.k).Ok) (hf : (S.q.q A.q.k).fullAt t = true) (dr : Int) (key id pc : Int) (bad : Bool) : Calls Tryz.prog 59 #[.pointer (some ⟨A.cb, 0, none⟩), .agg #[.int .i64 0, .int .u64 key, .int .i64 id, .int .i64 pc, .bool bad], .int .i64 t, .int .u64 dr] W fun e w' => e = .returned (.tuple #[.agg #[.int .i64 0, .int .u64 key, .int .i64 id, .int .i64 pc, .bool bad], .int .i64 1]) ∧ ∃ S', CStep W A S w' S' N ∧ S'.cm A = { S.cm A with q := (S.cm A).q.settle t } := by
 obtain ⟨W2, hW2⟩ : ∃ W2, (W.alloc (.cells #[.int .i64 0, .int .u64 key, .int .i64 id, .int .i64 pc, .bool bad] 123)).alloc (wkO wk0) = W2 := ⟨_, rfl⟩
 have hb2 : Below W.heap.size W W2 := by rw [← hW2]; exact below_al (below_al (Below.refl _ _) _) _
 have x5 : W2.heap[W.heap.size]? = some (.cells #[.int .i64 0, .int .u64 key, .int .i64 id, .int .i64 pc, .bool bad] 123 (0, 0)) := by rw [← hW2]; exact alloc_old (heap_alloc_new W _)
 have x8 : W2.heap[W.heap.size + 1]? = some (.cells #[.int .i64 0, .int .u64 0, .int .i64 0, .int .i64 0, .bool false] 123 (0, 0)) := by rw [← hW2]; exact alloc_at (by simp)
 have HC := Lib.hid (C_Conf (h.below hb2))
 have n5 : ¬ (cOS A S).own W.heap.size := fun e => by have := h.lt e; omega
 have n8 : ¬ (cOS A S).own (W.heap.size + 1) := fun e => by have := h.lt e; omega
 have l5 := heap_lt x5
 have l8 := heap_lt x8
 obtain ⟨s0, s1, s2, s3, s4, -⟩ := cells5 x5
 have H := Lib.hid (And.intro h (And.intro hb2 (And.intro x5 (And.intro x8 (And.intro n5 (And.intro n8 (And.intro l5 l8)))))))
 have g0 : decide ((t : Int) < 0) = false := by rw [decide_eq_false_iff_not]; omega
 have g1 : decide ((t : Int) ≥ (A.q.lp.length : Int)) = false := by rw [decide_eq_false_iff_not]; omega
 have g2 : decide (A.q.lp.length ≤ t) = false := by rw [decide_eq_false_iff_not]; omega
 unfold wkO wk0 at hW2
 have HQ := Lib.hid (And.intro hq (And.intro ht hf))
 clear hq ht hf
 clear h hb2 x5 x8 n5 n8 l5 l8
 go_enter Tryz.func59, Tryz.ntmps59
 go_wp2_with fail
 refine HC.out.mono ?_
 rintro e w1 ⟨rfl, hb1⟩
 obtain ⟨h, hb2, x5, x8, n5, n8, l5, l8⟩ := H.out
 have h1 := (h.below hb2).below hb1
 have y5 := (hb1.block _ l5).trans x5
 have y8 := (hb1.block _ l8).trans x8
 obtain ⟨a0, a1, a2, a3, a4, -⟩ := cells5 y5
 have k1 : CStep W A S w1 S N := CStep.below h (below_step hb1 hb2)
 have hcf := conf_field (.int .i64 A.q.lp.length) (.int .i64 A.q.k) (.int .i64 A.C) w1
 have HS := Lib.hid (C_Settle h1 HQ.out.1 t HQ.out.2.1)
 rw [HQ.out.2.2] at HS
 have H1 := Lib.hid (And.intro k1 (And.intro y5 (And.intro y8 (And.intro (And.intro n5 n8) (And.intro h1 (Nat.lt_of_lt_of_le l8 hb1.size))))))
 clear h hb2 x5 x8 n5 n8 h1 y5 y8 k1 hb1 l5 l8 s0 s1 s2 s3 s4
 go_wp2_with fail
 refine HS.out.mono ?_
 rintro e w2 ⟨rfl, s2, kS, hs2⟩
 clear a0 a1 a2 a3 a4
 obtain ⟨k1, y5, y8, ⟨n5, n8⟩, h1, l8⟩ := H1.out
 have z5 := CStep.kept h1 kS n5 y5
 have z8 := CStep.kept h1 kS n8 y8
 have m8 := CStep.stays kS n8 (heap_lt y8)
 have k2 := k1.trans kS
 have hcm : CS.cm A { S with q := s2 } = { S.cm A with q := (S.cm A).q.settle t } := by
  unfold CS.cm
  rw [hs2]
 obtain ⟨a0, a1, a2, a3, a4, -⟩ := cells5 z5
 obtain ⟨b0, b1, b2, b3, b4, bz⟩ := cells5 z8
 have HS := Lib.hid (set5_heap z8 (.int .i64 0) (.int .u64 key) (.int .i64 id) (.int .i64 pc) (.bool bad))
 have HF := Lib.hid (And.intro (k2.box (set5_fr w2 (W.heap.size + 1) (.int .i64 0) (.int .u64 key) (.int .i64 id) (.int .i64 pc) (.bool bad)) z8 (by decide) (by omega) m8) hcm)
 clear kS hs2 k1 y5 y8 n5 n8 h1 l8 z5 z8 m8 k2 hcm
 go_wp2_with fail
 obtain ⟨e0, e1, e2, e3, e4, -⟩ := cells5 HS.out
 refine bodyPost_ret (v := .tuple #[.agg #[.int .i64 0, .int .u64 key, .int .i64 id, .int .i64 pc, .bool bad], .int .i64 1]) (by simp [results, Tryz.results59, go_sem, e0, e1, e2, e3, e4]) rfl ?_
 exact ⟨rfl, _, HF.out.1, HF.out.2⟩
end
structure MA where
 c : CA
 mp : Nat
 lb : Nat
structure MS where
 c : CS
 ws : List Wk
 did : List Int
 pk : Int
def wkF (w : Wk) : List Value := [.int .i64 w.ph, .int .u64 w.e.key, .int .i64 w.e.id, .int .i64 w.pc, .bool w.bad]
def wkC (l : List Wk) : List Value := l.flatMap wkF
def machC (M : MA) (s : MS) : List Value := .pointer (some ⟨M.c.cb, 0, none⟩) :: .slice (some ⟨M.lb, 0, none⟩) s.ws.length s.ws.length :: (s.did.map (Value.int .i64) ++ [.int .i64 s.pk])
structure MachAt (W : World) (M : MA) (s : MS) (N : Nat) : Prop where
 c : CoreAt W M.c s.c N
 m : W.heap[M.mp]? = some (.cells (machC M s).toArray 88 (0, 0))
 l : W.heap[M.lb]? = some (.cells (wkC s.ws).toArray 123 (0, 0))
 len : s.ws.length = M.c.q.lp.length
 did : s.did.length = 7
 nm : ¬ (cOS M.c s.c).own M.mp
 nl : ¬ (cOS M.c s.c).own M.lb
theorem wkC_len (l : List Wk) : (wkC l).length = 5 * l.length := by
 unfold wkC
 induction l with
 | nil => rfl
 | cons w l ih => rw [List.flatMap_cons, List.length_append, ih]; simp [wkF]; omega
theorem wkC_get (l : List Wk) (t : Nat) (w : Wk) (h : l[t]? = some w) (i : Nat) (hi : i < 5) : (wkC l)[5 * t + i]? = (wkF w)[i]? := by
 induction l generalizing t with
 | nil => simp at h
 | cons x l ih =>
  unfold wkC at *
  rw [List.flatMap_cons]
  cases t with
  | zero =>
   have h : x = w := by simpa using h
   subst h
   rw [Nat.mul_zero, Nat.zero_add, List.getElem?_append_left (by show i < 5; exact hi)]
  | succ t =>
   rw [List.getElem?_append_right (by show 5 ≤ _; omega)]
   have := ih t (by simpa using h)
   rw [← this]
   congr 1
   show 5 * (t + 1) + i - 5 = _
   omega
theorem wkC_set (l : List Wk) (t : Nat) (ht : t < l.length) (w : Wk) : ((((((wkC l).set (5 * t) (.int .i64 w.ph)).set (5 * t + 1) (.int .u64 w.e.key)).set (5 * t + 2) (.int .i64 w.e.id)).set (5 * t + 3) (.int .i64 w.pc)).set (5 * t + 4) (.bool w.bad)) = wkC (l.set t w) := by
 apply List.ext_getElem?
 intro j
 by_cases hj : j < 5 * l.length
 ·
  obtain ⟨a, b, hb, rfl⟩ : ∃ a b, b < 5 ∧ j = 5 * a + b := ⟨j / 5, j % 5, Nat.mod_lt _ (by decide), by omega⟩
  have ha : a < l.length := by omega
  by_cases he : a = t
  · subst he
    rw [wkC_get (l.set a w) a w (by simp [ha]) b hb]
    rcases (show b = 0 ∨ b = 1 ∨ b = 2 ∨ b = 3 ∨ b = 4 by omega) with rfl | rfl | rfl | rfl | rfl <;> simp [List.getElem?_set, wkC_len, wkF] <;> omega
  · have h1 : (l.set t w)[a]? = some l[a] := by rw [List.getElem?_set_ne (by omega)]; simp [ha]
    rw [wkC_get (l.set t w) a _ h1 b hb, ← wkC_get l a _ (by simp [ha]) b hb]
    rw [List.getElem?_set_ne (by omega), List.getElem?_set_ne (by omega), List.getElem?_set_ne (by omega), List.getElem?_set_ne (by omega), List.getElem?_set_ne (by omega)]
 · rw [List.getElem?_eq_none (by simp [wkC_len]; omega), List.getElem?_eq_none (by simp [wkC_len]; omega)]
section
variable {W W' : World} {M : MA} {s s' : MS} {N N' : Nat}
theorem MachAt.below (h : MachAt W M s N) (hb : Below W.heap.size W W') : MachAt W' M s N :=
 ⟨h.c.below hb, (hb.block _ (heap_lt h.m)).trans h.m, (hb.block _ (heap_lt h.l)).trans h.l, h.len, h.did, h.nm, h.nl⟩
theorem MachAt.ne (h : MachAt W M s N) : M.mp ≠ M.lb := fun e => by
 have h1 := h.m
 rw [e, h.l] at h1
 have := Option.some.inj h1
 injection this with a b c
 exact absurd b (by decide)
theorem MachAt.cell (h : MachAt W M s N) (i : Nat) : W.cell? ⟨M.mp, i, none⟩ = (machC M s)[i]? := by
 rw [cell_of_heap h.m]; simp
theorem MachAt.core (h : MachAt W M s N) {S' : CS} (k : CStep W M.c s.c W' S' N') : MachAt W' M { s with c := S' } N' :=
 ⟨k.at_, CStep.kept h.c k h.nm h.m, CStep.kept h.c k h.nl h.l, h.len, h.did, CStep.stays k h.nm (heap_lt h.m), CStep.stays k h.nl (heap_lt h.l)⟩
theorem M_Core (h : MachAt W M s N) : Calls Tryz.prog 11 #[.pointer (some ⟨M.mp, 0, none⟩)] W fun e w' => e = .returned (.pointer (some ⟨M.c.cb, 0, none⟩)) ∧ w' = W := by
 have c0 : W.cell? ⟨M.mp, 0, none⟩ = some (.pointer (some ⟨M.c.cb, 0, none⟩)) := by rw [h.cell]; rfl
 clear h
 go_enter Tryz.func11, Tryz.ntmps11
 go_wp2_with fail
 refine bodyPost_ret (v := .pointer (some ⟨M.c.cb, 0, none⟩)) (by simp [results, Tryz.results11, go_sem]) rfl ?_
 exact ⟨rfl, rfl⟩
end
structure PkS (M : MA) (T : Nat) (w : World) : Prop where
 c0 : w.cell? ⟨M.mp, 0, none⟩ = some (.pointer (some ⟨M.c.cb, 0, none⟩))
 c1 : w.cell? ⟨M.mp, 1, none⟩ = some (.slice (some ⟨M.lb, 0, none⟩) T T)
section
variable {W W' : World} {M : MA} {s s' : MS} {N N' : Nat}
theorem MachAt.pkS (h : MachAt W M s N) {T : Nat} (hT : s.ws.length = T) : PkS M T W := ⟨by rw [h.cell]; rfl, by rw [h.cell, ← hT]; rfl⟩
theorem MachAt.row (h : MachAt W M s N) {t : Nat} {w : Wk} (hw : s.ws[t]? = some w) : W.cell? ⟨M.lb, t * 5, none⟩ = some (.int .i64 w.ph) ∧ W.cell? ⟨M.lb, t * 5 + 1, none⟩ = some (.int .u64 w.e.key) ∧ W.cell? ⟨M.lb, t * 5 + 2, none⟩ = some (.int .i64 w.e.id) ∧ W.cell? ⟨M.lb, t * 5 + 3, none⟩ = some (.int .i64 w.pc) ∧ W.cell? ⟨M.lb, t * 5 + 4, none⟩ = some (.bool w.bad) ∧ ∀ i, W.frozen? ⟨M.lb, i, none⟩ = false := by
 have e : ∀ i, i < 5 → W.cell? ⟨M.lb, t * 5 + i, none⟩ = (wkF w)[i]? := fun i hi => by
  rw [cell_of_heap h.l, List.getElem?_toArray, Nat.mul_comm, wkC_get _ _ _ hw i hi]
 exact ⟨e 0 (by omega), e 1 (by omega), e 2 (by omega), e 3 (by omega), e 4 (by omega), fun i => frozen_of h.l⟩
theorem set5r_fr (w : World) (b o : Nat) (a0 a1 a2 a3 a4 : Value) : Fr (fun j => j = b) w (((((w.setCell ⟨b, o, none⟩ a0).setCell ⟨b, o + 1, none⟩ a1).setCell ⟨b, o + 2, none⟩ a2).setCell ⟨b, o + 3, none⟩ a3).setCell ⟨b, o + 4, none⟩ a4) := by
 have s : ∀ {w' : World} (h : Fr (fun j => j = b) w w') (i : Nat) (v : Value), Fr (fun j => j = b) w (w'.setCell ⟨b, i, none⟩ v) := fun h i v => Fr.set (S := fun j => j = b) h (p := ⟨b, i, none⟩) rfl v
 exact s (s (s (s (s (Fr.refl _ _) _ _) _ _) _ _) _ _) _ _
theorem CoreAt.other {A : CA} {S : CS} (h : CoreAt W A S N) {b : Nat} (f : Fr (fun j => j = b) W W') {c : Array Value} {t : TypeId} (hb : W.heap[b]? = some (.cells c t (0, 0))) (ht : t ≠ 63) (hno : ¬ (cOS A S).own b) : CoreAt W' A S N := by
 have hn : NoE W (fun j => j = b) := NoE.of fun j hj => by
  have hj : j = b := hj
  rw [hj]
  exact ⟨_, hb, cells_im ht⟩
 exact ⟨h.ps.keep f hn (fun j hj e => hno (by have e : j = b := e; rw [← e]; exact hj)), h.bnd⟩
theorem MachAt.setRow (h : MachAt W M s N) {t : Nat} (ht : t < s.ws.length) (w : Wk) : MachAt (((((W.setCell ⟨M.lb, t * 5, none⟩ (.int .i64 w.ph)).setCell ⟨M.lb, t * 5 + 1, none⟩ (.int .u64 w.e.key)).setCell ⟨M.lb, t * 5 + 2, none⟩ (.int .i64 w.e.id)).setCell ⟨M.lb, t * 5 + 3, none⟩ (.int .i64 w.pc)).setCell ⟨M.lb, t * 5 + 4, none⟩ (.bool w.bad)) M { s with ws := s.ws.set t w } N := by
 have f := set5r_fr W M.lb (t * 5) (.int .i64 w.ph) (.int .u64 w.e.key) (.int .i64 w.e.id) (.int .i64 w.pc) (.bool w.bad)
 refine ⟨h.c.other f h.l (by decide) h.nl, ?_, ?_, by simp only [List.length_set]; exact h.len, h.did, h.nm, h.nl⟩
 · rw [f.block _ (heap_lt h.m) h.ne, h.m]
   unfold machC
   simp only [List.length_set]
 ·
  rw [heap_set (heap_set (heap_set (heap_set (heap_set h.l _) _) _) _) _]
  have := wkC_set s.ws t ht w
  rw [Nat.mul_comm] at this
  rw [← this]
  simp only [List.setIfInBounds_toArray]
theorem machC_did {M : MA} {s : MS} {kd : Nat} {d : Int} (hd : s.did[kd]? = some d) : (machC M s)[2 + kd]? = some (.int .i64 d) := by
 have hl : kd < s.did.length := (List.getElem?_eq_some_iff.1 hd).1
 unfold machC
 rw [Nat.add_comm 2 kd, List.getElem?_cons_succ, List.getElem?_cons_succ, List.getElem?_append_left (by simpa using hl), List.getElem?_map, hd]
 rfl
theorem machC_pk {M : MA} {s : MS} (hl : s.did.length = 7) : (machC M s)[9]? = some (.int .i64 s.pk) := by
 unfold machC
 rw [List.getElem?_cons_succ, List.getElem?_cons_succ, List.getElem?_append_right (by simp [hl])]
 simp [hl]
theorem pk_did (h : MachAt W M s N) {kd : Nat} {d : Int} (hd : s.did[kd]? = some d) : W.cell? ⟨M.mp, 2 + kd, none⟩ = some (.int .i64 d) ∧ (∀ i, W.frozen? ⟨M.mp, i, none⟩ = false) ∧ W.cell? ⟨M.mp, 9, none⟩ = some (.int .i64 s.pk) ∧ True := by
 refine ⟨?_, fun i => frozen_of h.m, ?_, trivial⟩
 · rw [h.cell]; exact machC_did hd
 · rw [h.cell]; exact machC_pk h.did
theorem MachAt.count (h : MachAt W M s N) {kd : Nat} {d : Int} (hd : s.did[kd]? = some d) : MachAt ((W.setCell ⟨M.mp, 2 + kd, none⟩ (.int .i64 (wrap64 (d + 1)))).setCell ⟨M.mp, 9, none⟩ (.int .i64 (wrap64 (s.pk + 1)))) M { s with did := s.did.set kd (wrap64 (d + 1)), pk := wrap64 (s.pk + 1) } N := by
 have hl : kd < s.did.length := (List.getElem?_eq_some_iff.1 hd).1
 have h7 := h.did
 have f : Fr (fun j => j = M.mp) W ((W.setCell ⟨M.mp, 2 + kd, none⟩ (.int .i64 (wrap64 (d + 1)))).setCell ⟨M.mp, 9, none⟩ (.int .i64 (wrap64 (s.pk + 1)))) := Fr.set (S := fun j => j = M.mp) (Fr.set (S := fun j => j = M.mp) (Fr.refl _ _) (p := ⟨M.mp, 2 + kd, none⟩) rfl _) (p := ⟨M.mp, 9, none⟩) rfl _
 refine ⟨h.c.other f h.m (by decide) h.nm, ?_, (f.block _ (heap_lt h.l) (fun e => h.ne e.symm)).trans h.l, h.len, by simp only [List.length_set]; exact h.did, h.nm, h.nl⟩
 rw [heap_set (heap_set h.m _) _]
 simp only [List.setIfInBounds_toArray]
 congr 3
 unfold machC
 rw [Nat.add_comm 2 kd]
 simp only [List.set_cons_succ]
 congr 2
 rw [List.set_append_left _ _ (by simpa using hl), ← List.map_set, List.set_append_right _ _ (by simp [h7])]
 simp [h7]
theorem count_fr (W : World) (b o : Nat) (u v : Value) : Fr (fun j => j = b) W ((W.setCell ⟨b, o, none⟩ u).setCell ⟨b, 9, none⟩ v) := Fr.set (S := fun j => j = b) (Fr.set (S := fun j => j = b) (Fr.refl _ _) (p := ⟨b, o, none⟩) rfl _) (p := ⟨b, 9, none⟩) rfl _
def mOwn (M : MA) (s : MS) (j : Nat) : Prop := (cOS M.c s.c).own j ∨ j = M.mp ∨ j = M.lb
structure MStep (W : World) (M : MA) (s : MS) (W' : World) (s' : MS) (N' : Nat) : Prop where
 at_ : MachAt W' M s' N'
 fr : Fr (mOwn M s) W W'
 own : ∀ j, mOwn M s' j → mOwn M s j ∨ W.heap.size ≤ j
theorem pick_step {S1 : CS} {w4 X5 X6 X7 : World} {s5 : MS} (k : CStep W M.c s.c w4 S1 N') (f5 : Fr (fun j => j = M.lb) w4 X5) (f6 : Fr (fun j => j = M.mp) X5 X6) (hb : Below X6.heap.size X6 X7) (h : MachAt X7 M s5 N') (hs : s5.c = S1) : MStep W M s X7 s5 N' := by
 refine ⟨h, ⟨?_, ?_, ?_, ?_, ?_⟩, ?_⟩
 · exact ((hb.os.trans f6.os).trans f5.os).trans k.ps.fr.os
 · exact ((hb.tape.trans f6.tape).trans f5.tape).trans k.ps.fr.tape
 · exact ((hb.output.trans f6.output).trans f5.output).trans k.ps.fr.output
 · exact Nat.le_trans k.ps.fr.size (Nat.le_trans f5.size (Nat.le_trans f6.size hb.size))
 ·
  intro j hj hn
  have n1 : ¬ j = M.lb := fun e => hn (.inr (.inr e))
  have n2 : ¬ j = M.mp := fun e => hn (.inr (.inl e))
  have l4 := Nat.lt_of_lt_of_le hj k.ps.fr.size
  have l5 := Nat.lt_of_lt_of_le l4 f5.size
  have l6 := Nat.lt_of_lt_of_le l5 f6.size
  rw [hb.block j l6, f6.block j l5 n2, f5.block j l4 n1]
  exact k.ps.fr.block j hj (fun e => hn (.inl (by obtain ⟨c, hc, hw⟩ := e; exact ⟨c, hc, c.sub _ hw⟩)))
 ·
  rintro j (hj | hj | hj)
  ·
   rw [hs] at hj
   rcases k.ps.own j hj with h | h
   · exact .inl (.inl h)
   · exact .inr h
  · exact .inl (.inr (.inl hj))
  · exact .inl (.inr (.inr hj))
theorem M_Pick (h : MachAt W M s N) (p : Nat) (hp : (p : Int) ≤ top) (T t : Nat) (hT : s.ws.length = T) (hT0 : 0 < T) (hTt : T ≤ 64) (ht : p % T = t) (dr : Int) (w v : Wk) (hw : s.ws[t]? = some w) (kd : Nat) (hkd : kd < 7) {CM' : CM} (HS : ∀ V, Below W.heap.size W V → Calls Tryz.prog 59 #[.pointer (some ⟨M.c.cb, 0, none⟩), .agg #[.int .i64 w.ph, .int .u64 w.e.key, .int .i64 w.e.id, .int .i64 w.pc, .bool w.bad], .int .i64 t, .int .u64 dr] V fun e V' => e = .returned (.tuple #[.agg #[.int .i64 v.ph, .int .u64 v.e.key, .int .i64 v.e.id, .int .i64 v.pc, .bool v.bad], .int .i64 kd]) ∧ ∃ S', CStep V M.c s.c V' S' N' ∧ S'.cm M.c = CM') : Calls Tryz.prog 24 #[.pointer (some ⟨M.mp, 0, none⟩), .int .u64 p, .int .u64 dr] W fun e w' => e = .returned (.int .i64 kd) ∧ ∃ s', MStep W M s w' s' N' ∧ s'.c.cm M.c = CM' ∧ s'.ws = s.ws.set t v ∧ s'.pk = wrap64 (s.pk + 1) := by
 obtain ⟨c0, c1⟩ := h.pkS hT
 have hd := h.below (below_dr (Below.refl _ _))
 have HS3 := Lib.hid (hd.pkS hT)
 obtain ⟨l0, l1, l2, l3, l4, lz⟩ := hd.row hw
 have htT : t < T := by rw [← ht]; exact Nat.mod_lt _ hT0
 have hm : ((p : Int) % (T : Int)) = (t : Int) := by rw [← ht]; omega
 have hwr : wrap64 (t : Int) = (t : Int) := by unfold wrap64; omega
 have htT' : (t : Int) < (T : Int) := by omega
 have H := Lib.hid h
 have hw' := Lib.hid hw
 have HSS := Lib.hid (HS _ (below_dr (Below.refl _ _)))
 have HD := Lib.hid hd
 have hT' := Lib.hid hT
 clear h hd hT ht hp hw HS
 go_enter Tryz.func24, Tryz.ntmps24
 go_upto_region 3 with fail
 -- REGION 3 BEGIN
 refine wp_region_held_drew (S := PkS M T) (by kernel_rfl) HS3.out (fun hH => ?_)
 refine tk (i := 0) (v := ?_) rfl ?_ ?_
 rotate_left
 · (intro w h; obtain ⟨_, _⟩ := h; go_simp; try with_reducible rfl)
 (try simp only [List.getElem_toArray, List.getElem_cons_zero, List.getElem_cons_succ, Act.put, pA, pB, pC])
 refine tk (i := 1) (v := ?_) rfl ?_ ?_
 rotate_left
 · (intro w h; obtain ⟨_, _⟩ := h; go_simp; try with_reducible rfl)
 (try simp only [List.getElem_toArray, List.getElem_cons_zero, List.getElem_cons_succ, Act.put, pA, pB, pC])
 refine tk (i := 2) (v := ?_) rfl ?_ ?_
 rotate_left
 · (intro w h; obtain ⟨_, _⟩ := h; go_simp; try with_reducible rfl)
 (try simp only [List.getElem_toArray, List.getElem_cons_zero, List.getElem_cons_succ, Act.put, pA, pB, pC])
 refine tk (i := 3) (v := ?_) rfl ?_ ?_
 rotate_left
 · (intro w h; obtain ⟨_, _⟩ := h; go_simp; try with_reducible rfl)
 (try simp only [List.getElem_toArray, List.getElem_cons_zero, List.getElem_cons_succ, Act.put, pA, pB, pC])
 refine tk (i := 4) (v := ?_) rfl ?_ ?_
 rotate_left
 · (intro w h; obtain ⟨_, _⟩ := h; go_simp; try with_reducible rfl)
 (try simp only [List.getElem_toArray, List.getElem_cons_zero, List.getElem_cons_succ, Act.put, pA, pB, pC])
 refine tk (i := 5) (v := ?_) rfl ?_ ?_
 rotate_left
 · (intro w h; obtain ⟨_, _⟩ := h; go_simp; try with_reducible rfl)
 (try simp only [List.getElem_toArray, List.getElem_cons_zero, List.getElem_cons_succ, Act.put, pA, pB, pC])
 refine tk (i := 6) (v := ?_) rfl ?_ ?_
 rotate_left
 · (intro w h; obtain ⟨_, _⟩ := h; go_simp; try with_reducible rfl)
 (try simp only [List.getElem_toArray, List.getElem_cons_zero, List.getElem_cons_succ, Act.put, pA, pB, pC])
 refine tk (i := 7) (v := ?_) rfl ?_ ?_
 rotate_left
 · (intro w h; obtain ⟨_, _⟩ := h; go_simp; try with_reducible rfl)
 (try simp only [List.getElem_toArray, List.getElem_cons_zero, List.getElem_cons_succ, Act.put, pA, pB, pC])
 refine tk (i := 8) (v := ?_) rfl ?_ ?_
 rotate_left
 · (intro w h; obtain ⟨_, _⟩ := h; go_simp; try with_reducible rfl)
 (try simp only [List.getElem_toArray, List.getElem_cons_zero, List.getElem_cons_succ, Act.put, pA, pB, pC])
 refine tk (i := 9) (v := ?_) rfl ?_ ?_
 rotate_left
 · (intro w h; obtain ⟨_, _⟩ := h; go_simp; try with_reducible rfl)
 (try simp only [List.getElem_toArray, List.getElem_cons_zero, List.getElem_cons_succ, Act.put, pA, pB, pC])
 refine tk (i := 10) (v := ?_) rfl ?_ ?_
 rotate_left
 · (intro w h; obtain ⟨_, _⟩ := h; go_simp; try with_reducible rfl)
 (try simp only [List.getElem_toArray, List.getElem_cons_zero, List.getElem_cons_succ, Act.put, pA, pB, pC])
 refine tk (i := 11) (v := ?_) rfl ?_ ?_
 rotate_left
 · (intro w h; obtain ⟨_, _⟩ := h; go_simp; try with_reducible rfl)
 (try simp only [List.getElem_toArray, List.getElem_cons_zero, List.getElem_cons_succ, Act.put, pA, pB, pC])
 refine tk (i := 12) (v := ?_) rfl ?_ ?_
 rotate_left
 · (intro w h; obtain ⟨_, _⟩ := h; go_simp; try with_reducible rfl)
 (try simp only [List.getElem_toArray, List.getElem_cons_zero, List.getElem_cons_succ, Act.put, pA, pB, pC])
 refine tk (i := 13) (v := ?_) rfl ?_ ?_
 rotate_left
 · (intro w h; obtain ⟨_, _⟩ := h; go_simp; try with_reducible rfl)
 (try simp only [List.getElem_toArray, List.getElem_cons_zero, List.getElem_cons_succ, Act.put, pA, pB, pC])
 refine tk (i := 14) (v := ?_) rfl ?_ ?_
 rotate_left
 · (intro w h; obtain ⟨_, _⟩ := h; go_simp; try with_reducible rfl)
 (try simp only [List.getElem_toArray, List.getElem_cons_zero, List.getElem_cons_succ, Act.put, pA, pB, pC])
 refine tk (i := 16) (v := ?_) rfl ?_ ?_
 rotate_left
 · (intro w h; obtain ⟨_, _⟩ := h; go_simp; try with_reducible rfl)
 (try simp only [List.getElem_toArray, List.getElem_cons_zero, List.getElem_cons_succ, Act.put, pA, pB, pC])
 refine tk (i := 17) (v := ?_) rfl ?_ ?_
 rotate_left
 · (intro w h; obtain ⟨_, _⟩ := h; go_simp; try with_reducible rfl)
 (try simp only [List.getElem_toArray, List.getElem_cons_zero, List.getElem_cons_succ, Act.put, pA, pB, pC])
 refine wpAnyH_ready (rs := [15]) (by kernel_rfl) (by simp) ?_
 refine AllReadyH.cons rfl (fun K hK => ?_) ?_
 ·
  (go_simp)
  refine hK.out _ _ ?_ (fun hH => ?_)
  · (try dsimp only); (exact hH)
  clear hK K
  refine wpAnyH_ready (rs := [18]) (by kernel_rfl) (by simp) ?_
  refine AllReadyH.cons rfl (fun K hK => ?_) ?_
  ·
   (go_simp; go_at_call 59; refine HSS.out.mono ?_; rintro e w4 ⟨rfl, S1, k1, hm1⟩; have H1 := Lib.hid (And.intro (HD.out.core k1) (And.intro hm1 k1)); clear k1 hm1 l0 l1 l2 l3 l4 lz; obtain ⟨l0, l1, l2, l3, l4, lz⟩ := H1.out.1.row hw'.out)
   refine hK.out _ _ ?_ (fun hH => ?_)
   · (try dsimp only); (exact H1.out.1.pkS hT'.out)
   clear hK K
   refine tk (i := 19) (v := ?_) rfl ?_ ?_
   rotate_left
   · (intro w h; obtain ⟨_, _⟩ := h; go_simp; try with_reducible rfl)
   (try simp only [List.getElem_toArray, List.getElem_cons_zero, List.getElem_cons_succ, Act.put, pA, pB, pC])
   refine tk (i := 20) (v := ?_) rfl ?_ ?_
   rotate_left
   · (intro w h; obtain ⟨_, _⟩ := h; go_simp; try with_reducible rfl)
   (try simp only [List.getElem_toArray, List.getElem_cons_zero, List.getElem_cons_succ, Act.put, pA, pB, pC])
   refine tk (i := 21) (v := ?_) rfl ?_ ?_
   rotate_left
   · (intro w h; obtain ⟨_, _⟩ := h; go_simp; try with_reducible rfl)
   (try simp only [List.getElem_toArray, List.getElem_cons_zero, List.getElem_cons_succ, Act.put, pA, pB, pC])
   refine tk (i := 22) (v := ?_) rfl ?_ ?_
   rotate_left
   · (intro w h; obtain ⟨_, _⟩ := h; go_simp; try with_reducible rfl)
   (try simp only [List.getElem_toArray, List.getElem_cons_zero, List.getElem_cons_succ, Act.put, pA, pB, pC])
   refine wpAnyH_ready (rs := [23]) (by kernel_rfl) (by simp) ?_
   refine AllReadyH.cons rfl (fun K hK => ?_) ?_
   ·
    (go_simp)
    refine hK.out _ _ ?_ (fun hH => ?_)
    · (try dsimp only); (exact (H1.out.1.setRow (by rw [hT'.out]; exact htT) v).pkS (by rw [List.length_set]; exact hT'.out))
    clear hK K
    refine wpAnyH_ready (rs := [24]) (by kernel_rfl) (by simp) ?_
    refine AllReadyH.cons rfl (fun K hK => ?_) ?_
    ·
     (go_simp)
     refine hK.out _ _ ?_ (fun hH => ?_)
     · (try dsimp only); (exact hH)
     clear hK K
     refine wpAnyH_done (by kernel_rfl) ?_ _
     have hM5 := H1.out.1.setRow (t := t) (by show t < s.ws.length; rw [hT'.out]; exact htT) v
     obtain ⟨X5, hX5⟩ : ∃ X, (((((w4.setCell ⟨M.lb, t * 5, none⟩ (.int .i64 v.ph)).setCell ⟨M.lb, t * 5 + 1, none⟩ (.int .u64 v.e.key)).setCell ⟨M.lb, t * 5 + 2, none⟩ (.int .i64 v.e.id)).setCell ⟨M.lb, t * 5 + 3, none⟩ (.int .i64 v.pc)).setCell ⟨M.lb, t * 5 + 4, none⟩ (.bool v.bad)) = X := ⟨_, rfl⟩
     have hF5 := set5r_fr w4 M.lb (t * 5) (.int .i64 v.ph) (.int .u64 v.e.key) (.int .i64 v.e.id) (.int .i64 v.pc) (.bool v.bad)
     rw [hX5] at hM5 hF5 ⊢
     have HF5 := Lib.hid hF5
     obtain ⟨d, hdd⟩ : ∃ d, s.did[kd]? = some d := ⟨_, List.getElem?_eq_getElem (by rw [H.out.did]; exact hkd)⟩
     obtain ⟨d0, d0z, d1, d1z⟩ := pk_did hM5 hdd
     obtain ⟨b0, b0z, b1, b1z⟩ := pk_did (hM5.below (below_dr (Below.refl _ _))) hdd
     have hk7 : (kd : Int) < 7 := by omega
     have HM5 := Lib.hid hM5
     have HDD := Lib.hid hdd
     clear hM5 hX5 hdd hF5 l0 l1 l2 l3 l4 lz hH HD HS3 HSS
     go_upto_region 4 with fail
     go_region
     all_goals
      go_wp2_with fail
      refine bodyPost_ret (v := .int .i64 kd) (by simp [results, Tryz.results24, go_sem]) rfl ?_
      exact ⟨rfl, _, pick_step ((CStep.below H.out.c (below_dr (Below.refl _ _))).trans H1.out.2.2) HF5.out (count_fr _ _ _ _ _) (below_dr (Below.refl _ _)) ((HM5.out.count HDD.out).below (below_dr (Below.refl _ _))) rfl, H1.out.2.1, rfl, rfl⟩
    exact AllReadyH.nil
   exact AllReadyH.nil
  exact AllReadyH.nil
 exact AllReadyH.nil
 -- REGION 3 END
end
section
variable {W W' : World} {M : MA} {s s' : MS} {N N' : Nat}
theorem W_Idle (w : Wk) : Calls Tryz.prog 87 #[.agg #[.int .i64 w.ph, .int .u64 w.e.key, .int .i64 w.e.id, .int .i64 w.pc, .bool w.bad]] W fun e w' => e = .returned (.bool (w.ph == 0)) ∧ Below W.heap.size W w' := by
 go_enter Tryz.func87, Tryz.ntmps87
 go_wp2_with fail
 go_ret
 exact ⟨rfl, below_al (Below.refl _ _) _⟩
theorem W_Idle1 (w : Wk) : Calls Tryz.prog 86 #[.agg #[.int .i64 w.ph, .int .u64 w.e.key, .int .i64 w.e.id, .int .i64 w.pc, .bool w.bad]] W fun e w' => e = .returned (.bool (!(w.ph == 0))) ∧ Below W.heap.size W w' := by
 obtain ⟨W1, hW1⟩ : ∃ W1, W.alloc (wkO w) = W1 := ⟨_, rfl⟩
 have hb : Below W.heap.size W W1 := by rw [← hW1]; exact below_al (Below.refl _ _) _
 have x : W1.heap[W.heap.size]? = some (.cells #[.int .i64 w.ph, .int .u64 w.e.key, .int .i64 w.e.id, .int .i64 w.pc, .bool w.bad] 123 (0, 0)) := by rw [← hW1]; exact heap_alloc_new W _
 obtain ⟨s0, s1, s2, s3, s4, -⟩ := cells5 x
 obtain ⟨q, hq⟩ : ∃ q, (w.ph == 0) = q := ⟨_, rfl⟩
 have HI := Lib.hid (W_Idle (W := W1) w)
 rw [hq] at HI ⊢
 have HB := Lib.hid hb
 unfold wkO at hW1
 clear x hq hb
 go_enter Tryz.func86, Tryz.ntmps86
 go_wp2_with fail
 refine HI.out.mono ?_
 rintro e w1 ⟨rfl, hb1⟩
 have HB1 := Lib.hid (below_step hb1 HB.out)
 clear hb1
 go_wp2_with fail
 go_ret
 exact ⟨rfl, HB1.out⟩
def wkIdle (s : MS) : Bool := s.ws.all fun w => w.ph == 0
theorem M_cont (h : MachAt W M s N) (hl : s.ws.length ≤ 64) : Calls Tryz.prog 85 #[.slice (some ⟨M.lb, 0, none⟩) s.ws.length s.ws.length, .func (.func 86) #[] #[]] W fun e w' => e = .returned (.bool (!(wkIdle s))) ∧ Below W.heap.size W w' := by
 refine (ContainsWk M.lb 0 s.ws.length s.ws.length (by omega) (by unfold maxLen; omega) (fun i j => (wkC s.ws).getD (5 * i + j) undef) ?_ (fun i => !((s.ws.getD i wk0).ph == 0)) 86 #[] (enters_of Tryz.func86 (by kernel_rfl) rfl) ?_).mono ?_
 ·
  intro i j hi hj
  have h1 := wkC_get s.ws i s.ws[i] (List.getElem?_eq_getElem hi) j hj
  have h2 : (wkF s.ws[i])[j]? = some ((wkF s.ws[i]).getD j undef) := by
   rw [List.getD_eq_getElem?_getD, List.getElem?_eq_getElem (by show j < 5; exact hj)]; rfl
  rw [cell_of_heap h.l, List.getElem?_toArray, Nat.zero_add, Nat.mul_comm i 5, h1, h2]
  show _ = some ((wkC s.ws).getD (5 * i + j) undef)
  rw [List.getD_eq_getElem?_getD (l := wkC s.ws), h1, h2]
  rfl
 ·
  intro Y i hY hi
  have hg : s.ws.getD i wk0 = s.ws[i] := by rw [List.getD_eq_getElem?_getD, List.getElem?_eq_getElem hi]; rfl
  have e : ∀ j (hj : j < 5), (wkC s.ws).getD (5 * i + j) undef = (wkF s.ws[i]).getD j undef := fun j hj => by
   rw [List.getD_eq_getElem?_getD, wkC_get s.ws i s.ws[i] (List.getElem?_eq_getElem hi) j hj, ← List.getD_eq_getElem?_getD]
  rw [e 0 (by omega), e 1 (by omega), e 2 (by omega), e 3 (by omega), e 4 (by omega), hg]
  exact W_Idle1 s.ws[i]
 ·
  rintro e w' ⟨⟨r, rfl, hr⟩, hB⟩
  refine ⟨ret_bool ?_, hB⟩
  rw [Bool.eq_iff_iff, hr]
  unfold wkIdle
  simp only [Bool.not_eq_true', List.all_eq_false]
  constructor
  ·
   rintro ⟨i, hi, h⟩
   refine ⟨s.ws[i], List.getElem_mem _, ?_⟩
   rw [List.getD_eq_getElem?_getD, List.getElem?_eq_getElem hi] at h
   simpa using h
  ·
   rintro ⟨x, hx, h⟩
   obtain ⟨i, hi, rfl⟩ := List.getElem_of_mem hx
   refine ⟨i, hi, ?_⟩
   rw [List.getD_eq_getElem?_getD, List.getElem?_eq_getElem hi]
   simpa using h
theorem M_Idle (h : MachAt W M s N) (hl : s.ws.length ≤ 64) : Calls Tryz.prog 45 #[.pointer (some ⟨M.mp, 0, none⟩)] W fun e w' => e = .returned (.bool (wkIdle s)) ∧ Below W.heap.size W w' := by
 obtain ⟨q, hq⟩ : ∃ q, wkIdle s = q := ⟨_, rfl⟩
 obtain ⟨T, hT⟩ : ∃ T, s.ws.length = T := ⟨_, rfl⟩
 have HC := Lib.hid (M_cont h hl)
 rw [hq, hT] at HC
 rw [hq]
 obtain ⟨c0, c1⟩ := h.pkS hT
 clear h hq hT hl c0
 go_enter Tryz.func45, Tryz.ntmps45
 go_wp2_with fail
 refine HC.out.mono ?_
 rintro e w1 ⟨rfl, hb1⟩
 have HB1 := Lib.hid hb1
 clear hb1
 go_wp2_with fail
 refine bodyPost_ret (v := .bool q) (by simp [results, Tryz.results45, go_sem]) rfl ?_
 exact ⟨rfl, HB1.out⟩
end
end Go.Proofs.YtcfhkbcllijnkaaGreat
