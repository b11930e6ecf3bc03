/- Parts of the proof of TopOnce, under no condition. -/
import Derived.Test.YtcfhkbcllijnkaaGreatZTopOnceam
import Derived.Test.YtcfhkbcllijnkaaGreatZTopOnceak
set_option linter.unusedVariables false
set_option linter.unusedSimpArgs false
set_option maxRecDepth 100000
set_option maxHeartbeats 0
namespace Go.Proofs.YtcfhkbcllijnkaaGreat
open Go.RowKit Go.Proofs.YtcfhkbcllijnkaaGreatW.PrintWords
structure zc2 (W : World) (a b g : Nat) (ws : List Int) (B : Int) : Prop where
 hdr : W.heap[a]? = some (.cells #[.pointer (some ⟨b, 0, none⟩)] 263 (0, 0))
 mem : ∃ st wi at_ kd, zbm W b g ws st wi at_ kd ∧ st ≤ B
 na : a ≠ b
 ng : a ≠ g
 wf : ∀ j, 0 ≤ ws.getD j 0 ∧ ws.getD j 0 ≤ top
theorem zg0 {S : Nat → Prop} {W W' : World} {b o : Nat} {v : Value} (f : Fr S W W') (hn : ¬ S b) (h : W.cell? ⟨b, o, none⟩ = some v) : W'.cell? ⟨b, o, none⟩ = some v := by
 have hlt := World.block_lt_of_cell? W _ h
 have hb := f.block b hlt hn
 simp only [World.cell?] at h ⊢
 rw [hb]
 exact h
section
variable {W W' : World} {a b g : Nat} {ws : List Int} {B : Int}
theorem zc2.cell (h : zc2 W a b g ws B) : W.cell? ⟨a, 0, none⟩ = some (.pointer (some ⟨b, 0, none⟩)) := by simp [World.cell?, h.hdr]
theorem zc2.nS (h : zc2 W a b g ws B) : ¬ zb5 b g a := by
 intro hh
 rcases hh with hh | hh
 · exact h.na hh
 · exact h.ng hh
theorem zc2.le (h : zc2 W a b g ws B) {B' : Int} (hB : B ≤ B') : zc2 W a b g ws B' := by
 obtain ⟨st, wi, at_, kd, hM, hst⟩ := h.mem
 exact ⟨h.hdr, ⟨st, wi, at_, kd, hM, by omega⟩, h.na, h.ng, h.wf⟩
theorem zbm.below' {b g : Nat} {ws : List Int} {st wi at_ kd : Int} (h : zbm W b g ws st wi at_ kd) (hb : Below W.heap.size W W') : zbm W' b g ws st wi at_ kd :=
 ⟨(hb.block b (yya.1 h.hdr).1).trans h.hdr, (hb.block g (yya.1 h.row).1).trans h.row, h.ne, h.len, h.st0, h.wi0, h.wst⟩
theorem zbm.fr' {S : Nat → Prop} {b g : Nat} {ws : List Int} {st wi at_ kd : Int} (h : zbm W b g ws st wi at_ kd) (f : Fr S W W') (hb : ¬ S b) (hg : ¬ S g) : zbm W' b g ws st wi at_ kd :=
 ⟨(f.block b (yya.1 h.hdr).1 hb).trans h.hdr, (f.block g (yya.1 h.row).1 hg).trans h.row, h.ne, h.len, h.st0, h.wi0, h.wst⟩
theorem zc2.below (h : zc2 W a b g ws B) (hb : Below W.heap.size W W') : zc2 W' a b g ws B := by
 obtain ⟨st, wi, at_, kd, hM, hst⟩ := h.mem
 exact ⟨(hb.block a (yya.1 h.hdr).1).trans h.hdr, ⟨st, wi, at_, kd, hM.below' hb, hst⟩, h.na, h.ng, h.wf⟩
theorem zc2.fr {S : Nat → Prop} (h : zc2 W a b g ws B) (f : Fr S W W') (ha : ¬ S a) (hb : ¬ S b) (hg : ¬ S g) : zc2 W' a b g ws B := by
 obtain ⟨st, wi, at_, kd, hM, hst⟩ := h.mem
 exact ⟨(f.block a (yya.1 h.hdr).1 ha).trans h.hdr, ⟨st, wi, at_, kd, hM.fr' f hb hg, hst⟩, h.na, h.ng, h.wf⟩
theorem zc2.dr (h : zc2 W a b g ws B) : zc2 W.drew a b g ws B := by
 obtain ⟨st, wi, at_, kd, hM, hst⟩ := h.mem
 exact ⟨h.hdr, ⟨st, wi, at_, kd, ⟨hM.hdr, hM.row, hM.ne, hM.len, hM.st0, hM.wi0, hM.wst⟩, hst⟩, h.na, h.ng, h.wf⟩
theorem zc2.drN (h : zc2 W a b g ws B) (n : Nat) : zc2 (W.drewN n) a b g ws B := by
 obtain ⟨st, wi, at_, kd, hM, hst⟩ := h.mem
 exact ⟨h.hdr, ⟨st, wi, at_, kd, ⟨hM.hdr, hM.row, hM.ne, hM.len, hM.st0, hM.wi0, hM.wst⟩, hst⟩, h.na, h.ng, h.wf⟩
theorem zc2.al (h : zc2 W a b g ws B) (o : Obj) : zc2 (W.alloc o) a b g ws B := h.below (zab yyr _)
theorem zc2.step {ws' : List Int} {st wi at_ kd : Int} (h : zc2 W a b g ws B) (f : Fr (zb5 b g) W W') (hM : zbm W' b g ws' st wi at_ kd) {B' : Int} (hs : st ≤ B') (hwf : ∀ j, 0 ≤ ws'.getD j 0 ∧ ws'.getD j 0 ≤ top) : zc2 W' a b g ws' B' :=
 ⟨(f.block a (yya.1 h.hdr).1 h.nS).trans h.hdr, ⟨st, wi, at_, kd, hM, hs⟩, h.na, h.ng, hwf⟩
theorem zjx {ws : List Int} {k : Nat} {x : Int} (j : Nat) : (ws.set k x).getD j 0 = if k = j ∧ j < ws.length then x else ws.getD j 0 := by
 simp only [yyd, List.getElem?_set]
 by_cases h : k = j
 ·
  subst h
  by_cases h2 : k < ws.length
  · simp [h2]
  · simp [h2]
 · simp [h]
theorem zs2 {ws : List Int} (h : ∀ j, 0 ≤ ws.getD j 0 ∧ ws.getD j 0 ≤ top) (k : Nat) (x : Int) (h0 : 0 ≤ x) (h1 : x ≤ top) : ∀ j, 0 ≤ (ws.set k x).getD j 0 ∧ (ws.set k x).getD j 0 ≤ top := by
 intro j
 rw [zjx]
 split
 · exact ⟨h0, h1⟩
 · exact h j
theorem zlf (x s : Int) : 0 ≤ zcu x s ∧ zcu x s ≤ top := zt6 _ _
def thB (ws : List Int) (id : Int) : Bool := decide (1 ≤ id ∧ id ≤ ws.length)
theorem zjy (h : zc2 W a b g ws B) (id : Int) : Calls Tryz.prog 204 #[.pointer (some ⟨a, 0, none⟩), .int .i64 id] W fun e w' => e = .returned (.bool (thB ws id)) ∧ W = w' := by
 obtain ⟨st, wi, at_, kd, hM, hst⟩ := h.mem
 have c0 := h.cell
 have H := yyh h
 clear h
 by_cases h1 : 1 ≤ id
 ·
  have g1 : decide (id ≥ 1) = true := by simpa using h1
  have g2 : decide (1 ≤ id) = true := by simpa using h1
  have e1 : thB ws id = decide (id ≤ ws.length) := by unfold thB; simp [h1]
  rw [e1]
  clear e1 h1
  go_enter Tryz.func204, Tryz.ntmps204
  go_wp2_with fail
  refine (zk9 hM).mono ?_
  rintro e w' ⟨rfl, rfl⟩
  go_wp2_with fail
  go_ret
  exact ⟨rfl, rfl⟩
 ·
  have g1 : decide (id ≥ 1) = false := by simpa using h1
  have g2 : decide (1 ≤ id) = false := by simpa using h1
  have e1 : thB ws id = false := by unfold thB; simp [h1]
  rw [e1]
  clear e1 h1
  go_enter Tryz.func204, Tryz.ntmps204
  go_wp2_with fail
  go_ret
  exact ⟨rfl, rfl⟩
theorem zwy {ws : List Int} {id : Int} {k : Nat} (hid : id = k + 1) (hk : k < ws.length) : thB ws id = true := by unfold thB; simp; omega
theorem zlg (h : zc2 W a b g ws B) (hs : B ≤ 1000000000) (id : Int) (k : Nat) (hid : id = k + 1) (hk : k < ws.length) : Calls Tryz.prog 144 #[.pointer (some ⟨a, 0, none⟩), .int .i64 id] W fun e w' => e = .returned (.int .u64 (ws.getD k 0)) ∧ zc2 w' a b g ws (B + 1) ∧ Fr (zb5 b g) W w' := by
 have ht := zwy hid hk
 have hT := zjy h id
 rw [ht] at hT
 obtain ⟨st, wi, at_, kd, hM, hst⟩ := h.mem
 have c0 := h.cell
 have hwf := h.wf
 have H := yyh h
 have HT := yyh hT
 have HW := yyh hwf
 have hlen := hM.len
 obtain ⟨X, hX⟩ := yye (ws.getD k 0)
 rw [hX]
 have HX := yyh hX
 clear h hT hwf ht hX
 subst hid
 go_enter Tryz.func144, Tryz.ntmps144
 go_wp2_with fail
 refine HT.out.mono ?_
 rintro e w' ⟨rfl, rfl⟩
 go_wp2_with fail
 refine (zgv hM (by omega) k (by omega) (by omega)).mono ?_
 rintro e w' ⟨rfl, hM2, hF⟩
 rw [Int.toNat_natCast, HX.out]
 go_wp2_with fail
 go_ret
 exact ⟨rfl, H.out.step hF hM2 (by omega) HW.out, hF⟩
theorem zmd (h : zc2 W a b g ws B) (hs : B ≤ 1000000000) (id : Int) (k : Nat) (hid : id = k + 1) (hk : k < ws.length) : Calls Tryz.prog 99 #[.pointer (some ⟨a, 0, none⟩), .int .i64 id] W fun e w' => e = .returned (.int .i64 (ws.getD k 0 % 8)) ∧ zc2 w' a b g ws (B + 1) ∧ Fr (zb5 b g) W w' := by
 have hWd := zlg h hs id k hid hk
 obtain ⟨X, hX⟩ := yye (ws.getD k 0)
 rw [hX] at hWd ⊢
 have H := yyh hWd
 clear h hWd hX hid hk
 go_enter Tryz.func99, Tryz.ntmps99
 go_wp2_with fail
 refine H.out.mono ?_
 rintro e w' ⟨rfl, hA, hF⟩
 go_wp2_with fail
 refine (zd7 _ _).mono ?_
 rintro e w2 ⟨rfl, rfl⟩
 go_wp2_with fail
 go_ret
 exact ⟨rfl, hA, hF⟩
theorem zun (h : zc2 W a b g ws B) (id old s : Int) (k : Nat) (hid : id = k + 1) (hk : k < ws.length) (o0 : 0 ≤ old) (o1 : old ≤ top) (s0 : 1 ≤ s) (s1 : s ≤ 6) (hcan : canB (old % 8) s = true) (hs : B ≤ 1000000000) (hit : (ws.getD k 0 != old) = false) : Calls Tryz.prog 145 #[.pointer (some ⟨a, 0, none⟩), .int .i64 id, .int .u64 old, .int .i64 s] W fun e w' => e = .returned (.tuple #[.int .u64 (zcu old s), .int .i64 0]) ∧ zc2 w' a b g (ws.set k (zcu old s)) (B + 1) ∧ Fr (zb5 b g) W w' := by
 subst hid
 have hT := zjy h ((k : Int) + 1)
 rw [zwy rfl hk] at hT
 have HT := yyh hT
 have g1 : decide (s ≤ 0) = false := by simp; omega
 have g2 : decide (s ≥ 7) = false := by simp; omega
 have g3 : decide (7 ≤ s) = false := by simp; omega
 have hC := fun w => zk7 (old % 8) s (show (Lit.int .i64 (old % 8)).wf = true from by simp [Lit.wf, IntKind.min, IntKind.max, IntKind.signed, IntKind.bits]; omega) (show (Lit.int .i64 s).wf = true from by simp [Lit.wf, IntKind.min, IntKind.max, IntKind.signed, IntKind.bits]; omega) w
 rw [hcan] at hC
 have HC := yyh hC
 obtain ⟨st, wi, at_, kd, hM, hst⟩ := h.mem
 have c0 := h.cell
 have hwf := h.wf
 have hnS := h.nS
 have hlen := hM.len
 have H := yyh h
 have HW := yyh hwf
 have HNS := yyh hnS
 have MX := yyh hM
 clear h hT hC hwf hnS hM hcan
 obtain ⟨x, hx⟩ := yye (zcu old s)
 have HX := yyh hx
 have HIT := yyh hit
 clear hit
 rw [hx]
 go_enter Tryz.func145, Tryz.ntmps145
 go_wp2_with fail
 refine (zma old s o0 o1 _).mono ?_
 rintro e w' ⟨rfl, rfl⟩
 rw [hx]
 clear hx
 go_wp2_with fail
 refine HT.out.mono ?_
 rintro e w' ⟨rfl, rfl⟩
 go_wp2_with fail
 refine (zd7 old _).mono ?_
 rintro e w2 ⟨rfl, rfl⟩
 go_wp2_with fail
 refine (HC.out _).mono ?_
 rintro e w2 ⟨rfl, hB⟩
 have c1 := zg0 (Fr.of_below (S := zb5 b g) hB) HNS.out c0
 have hM2 := zbm.below' MX.out hB
 have hF1 : Fr (zb5 b g) W w2 := Fr.of_below hB
 have hA2 := H.out.below hB
 go_wp2_with fail
 refine (zoq hM2 (by omega) k (by omega) (by omega) old x (by rw [Int.toNat_natCast]; exact HIT.out)).mono ?_
 rintro e w3 ⟨rfl, hM3, hF3⟩
 try rw [Int.toNat_natCast] at hM3
 go_wp2_with fail
 go_ret2
 exact ⟨rfl, hA2.step hF3 hM3 (by omega) (zs2 HW.out _ _ (by rw [← HX.out]; exact (zlf _ _).1) (by rw [← HX.out]; exact (zlf _ _).2)), hF1.trans hF3⟩
end
end Go.Proofs.YtcfhkbcllijnkaaGreat
