/- Parts of the proof of TopOnce, under no condition. -/
import Derived.Test.YtcfhkbcllijnkaaGreatZTopOnceaq
import Derived.Test.YtcfhkbcllijnkaaGreatZTopOnceaa
import Derived.Shelf.SlSortCmp.KitK
import Derived.Sort.WalkB2
import Derived.Sort.WalkB12
import Derived.BigRegion
set_option linter.unusedVariables false
set_option linter.unusedSimpArgs false
set_option maxRecDepth 100000
set_option maxHeartbeats 0
namespace Go.Proofs.YtcfhkbcllijnkaaGreat
open Go.RowKit Go.Sort Go.Shelf Go.Lib
structure zcg (w0 : World) (blk off : Nat) (d0 d : Array En) (W : World) : Prop where
 R : RowK ze2 2 w0 blk off d0
 hs : d0.size = d.size
 S : SWK ze2 2 w0 blk off d W
 sz : d.size ≤ 100000
theorem zmh : Tryz.prog.follows .mixedOrders = true := by kernel_rfl
section
variable {W w0 : World} {blk off cap : Nat} {d dk d0 : Array En}
theorem zcg.cells (h : zcg w0 blk off d0 dk W) (i : Nat) (hi : i < dk.size) : W.cell? ⟨blk, off + i * 2, none⟩ = some (.int .u64 dk[i]!.key) ∧ W.cell? ⟨blk, off + i * 2 + 1, none⟩ = some (.int .i64 dk[i]!.id) ∧ W.frozen? ⟨blk, off + i * 2, none⟩ = false ∧ W.frozen? ⟨blk, off + i * 2 + 1, none⟩ = false := by
 have hH := h.S.holds h.R.hblk h.R.hH h.hs.symm
 have e0 := hH (i * 2) (by rw [size_flatK]; omega)
 have e1 := hH (i * 2 + 1) (by rw [size_flatK]; omega)
 rw [get_flatK ze2 2 dk (i * 2) (by omega), show i * 2 / 2 = i by omega, show i * 2 % 2 = 0 by omega] at e0
 rw [get_flatK ze2 2 dk (i * 2 + 1) (by omega), show (i * 2 + 1) / 2 = i by omega, show (i * 2 + 1) % 2 = 1 by omega] at e1
 exact ⟨e0.1, e1.1, e0.2, e1.2⟩
theorem zcg.drew (h : zcg w0 blk off d0 dk W) : zcg w0 blk off d0 dk W.drew := ⟨h.R, h.hs, h.S.drew, h.sz⟩
theorem zcg.swapped (h : zcg w0 blk off d0 dk W) {i j : Nat} (hi : i < dk.size) (hj : j < dk.size) {x y : En} (hx : dk[i]! = x) (hy : dk[j]! = y) : zcg w0 blk off d0 (swp dk i j) ((((W.setCell ⟨blk, off + i * 2, none⟩ (.int .u64 y.key)).setCell ⟨blk, off + i * 2 + 1, none⟩ (.int .i64 y.id)).setCell ⟨blk, off + j * 2, none⟩ (.int .u64 x.key)).setCell ⟨blk, off + j * 2 + 1, none⟩ (.int .i64 x.id)).drew := by
 subst hx hy
 exact ⟨h.R, by rw [size_swp]; exact h.hs, h.S.swapped h.R i j hi hj, by rw [size_swp]; exact h.sz⟩
theorem zci {W : World} {b o o' : Nat} {v : Value} {r : Option Value} (h : W.cell? ⟨b, o, none⟩ = r) (hn : o ≠ o') : (W.setCell ⟨b, o', none⟩ v).cell? ⟨b, o, none⟩ = r := by
 rw [← h]
 exact World.cell?_setCell_other W ⟨b, o', none⟩ ⟨b, o, none⟩ v (fun e => hn (Addr.mk.inj e).2.1.symm)
theorem zcg.stores (h : zcg w0 blk off d0 dk W) {i j : Nat} (hi : i < dk.size) (hj : j < dk.size) (hij : i ≠ j) (u0 u1 u2 : Value) : (W.setCell ⟨blk, off + i * 2, none⟩ u0).cell? ⟨blk, off + i * 2 + 1, none⟩ = some (.int .i64 dk[i]!.id) ∧ ((W.setCell ⟨blk, off + i * 2, none⟩ u0).setCell ⟨blk, off + i * 2 + 1, none⟩ u1).cell? ⟨blk, off + j * 2, none⟩ = some (.int .u64 dk[j]!.key) ∧ (((W.setCell ⟨blk, off + i * 2, none⟩ u0).setCell ⟨blk, off + i * 2 + 1, none⟩ u1).setCell ⟨blk, off + j * 2, none⟩ u2).cell? ⟨blk, off + j * 2 + 1, none⟩ = some (.int .i64 dk[j]!.id) := by
 obtain ⟨x0, x1, xf0, xf1⟩ := h.cells i hi
 obtain ⟨y0, y1, yf0, yf1⟩ := h.cells j hj
 exact ⟨zci x1 (by omega), zci (zci y0 (by omega)) (by omega), zci (zci (zci y1 (by omega)) (by omega)) (by omega)⟩
theorem zcg.grown (h : zcg w0 blk off d0 dk W) (n : Nat) (os : Array Obj) : zcg w0 blk off d0 dk (grow (W.drewN n) os) := ⟨h.R, h.hs, h.S.grown n os, h.sz⟩
theorem zcg.cmp (h : zcg w0 blk off d0 dk W) (x y : En) (n : Nat) (os : Array Obj) : Calls Tryz.prog 284 #[.agg #[.int .u64 x.key, .int .i64 x.id], .agg #[.int .u64 y.key, .int .i64 y.id]] (grow (W.drewN n) os) fun e w' => e = .returned (.int .i64 (zb1 x y)) ∧ ∃ q os', w' = grow ((grow (W.drewN n) os).drewN q) os' := h.S.cmp (zim blk off d0.size w0) h.hs.symm x y n os
theorem zlh (h : zcg w0 blk off d0 d W) (g : Nat) (cb : Array Value) (a b n : Nat) (hab : a + n ≤ b) (hb : b + n ≤ d.size) : Calls Tryz.prog 308 #[.slice (some ⟨blk, off, none⟩) d.size cap, .int .i64 a, .int .i64 b, .int .i64 n, .func (.func g) #[] cb] W fun e w' => e = .returned (.tuple #[]) ∧ ∃ d', zcg w0 blk off d0 d' w' ∧ d'.size = d.size ∧ (∀ x, d'[x]! = swx d a b n x) ∧ PermIn a (b + n) d d' := by
 have hsz := h.sz
 have S0 : Aside (zcg w0 blk off d0 d W) := h
 clear h
 go_enter Tryz.func308, Tryz.ntmps308
 go_wp2_with fail
 go_loopg [10] n (fun kx s5 wr => ∃ (i : Nat) (dk : Array En), s5 = .int .i64 i ∧ i ≤ n ∧ n - i ≤ kx ∧ dk.size = d.size ∧ Aside (zcg w0 blk off d0 dk wr) ∧ Aside ((∀ x, dk[x]! = swx d a b i x) ∧ PermIn a (b + n) d dk))
 case atStart => exact ⟨0, d, rfl, Nat.zero_le _, yyn, rfl, S0, ⟨fun x => (zqs d a b x).symm, permIn_refl _ _ _⟩⟩
 case round =>
  obtain ⟨i, dk, rfl, hin, hkx, hds, S1, A1⟩ := hrel
  clear S0
  by_cases hlt : i < n
  ·
   have hltz : (i : Int) < (n : Int) := by omega
   have mixed := zmh
   go_wp2_with fail
   have ea44 : ((a : Int) + (i : Int)).toNat = a + i := by omega
   have pa44 : (0 : Int) ≤ (a : Int) + (i : Int) := by omega
   have ba44 : (a : Int) + (i : Int) < (d.size : Int) := by omega
   have ra44 : IntKind.i64.wrap ((a : Int) + (i : Int)) = (a : Int) + (i : Int) := by rw [IntKind.wrap_i64]; omega
   have ec44 : ((b : Int) + (i : Int)).toNat = b + i := by omega
   have pc44 : (0 : Int) ≤ (b : Int) + (i : Int) := by omega
   have bc44 : (b : Int) + (i : Int) < (d.size : Int) := by omega
   have rc44 : IntKind.i64.wrap ((b : Int) + (i : Int)) = (b : Int) + (i : Int) := by rw [IntKind.wrap_i64]; omega
   obtain ⟨x, hx⟩ := yye (dk[a + i]!)
   obtain ⟨y, hy⟩ := yye (dk[b + i]!)
   have S2 : Aside _ := S1.out.swapped (i := a + i) (j := b + i) (by omega) (by omega) hx hy
   obtain ⟨x0, x1, xf0, xf1⟩ := S1.out.drew.cells (a + i) (by omega)
   obtain ⟨y0, y1, yf0, yf1⟩ := S1.out.drew.cells (b + i) (by omega)
   have A2 : Aside ((∀ x, (swp dk (a + i) (b + i))[x]! = swx d a b (i + 1) x) ∧ PermIn a (b + n) d (swp dk (a + i) (b + i))) := ⟨zqt (by omega) (by omega) A1.out.1, permIn_trans _ _ _ _ _ A1.out.2 (swp_permIn _ _ _ _ _ (by omega) (by omega) (by omega) (by omega) (by omega))⟩
   obtain ⟨t1, t2, t3⟩ := S1.out.drew.stores (i := a + i) (j := b + i) (by omega) (by omega) (by omega) (.int .u64 y.key) (.int .i64 y.id) (.int .u64 x.key)
   obtain ⟨X0, X1, Xf0, Xf1⟩ := S1.out.cells (a + i) (by omega)
   obtain ⟨Y0, Y1, Yf0, Yf1⟩ := S1.out.cells (b + i) (by omega)
   rw [hx] at x0 x1 t1 X0 X1
   rw [hy] at y0 y1 t2 t3 Y0 Y1
   clear S1 A1 hx hy
   go_wp2_with fail
   go_region
   generalize ((((wr.setCell ⟨blk, off + (a + i) * 2, none⟩ (.int .u64 y.key)).setCell ⟨blk, off + (a + i) * 2 + 1, none⟩ (.int .i64 y.id)).setCell ⟨blk, off + (b + i) * 2, none⟩ (.int .u64 x.key)).setCell ⟨blk, off + (b + i) * 2 + 1, none⟩ (.int .i64 x.id)).drew = w2 at S2 ⊢
   go_wp2
   go_roundg (n - (i + 1))
   case measure => omega
   case rel => exact ⟨i + 1, swp dk (a + i) (b + i), by go_num, by omega, yyn, by rw [size_swp]; exact hds, S2, A2⟩
  ·
   have hltz : ¬ (i : Int) < (n : Int) := by omega
   obtain rfl : i = n := by omega
   go_wp2
   go_end0
   exact ⟨rfl, dk, S1.out, hds, A1.out.1, A1.out.2⟩
theorem zyp (h : zcg w0 blk off d0 d W) (g : Nat) (cb : Array Value) (a m b : Nat) (ham : a < m) (hmb : m < b) (hb : b ≤ d.size) : Calls Tryz.prog 306 #[.slice (some ⟨blk, off, none⟩) d.size cap, .int .i64 a, .int .i64 m, .int .i64 b, .func (.func g) #[] cb] W fun e w' => e = .returned (.tuple #[]) ∧ ∃ d', zcg w0 blk off d0 d' w' ∧ d'.size = d.size ∧ (∀ x, d'[x]! = zcy d a m b x) ∧ PermIn a b d d' := by
 have hsz := h.sz
 have S0 : Aside (zcg w0 blk off d0 d W) := h
 clear h
 obtain ⟨i0, hi0⟩ : ∃ i0, a + i0 = m := ⟨m - a, by omega⟩
 obtain ⟨j0, hj0⟩ : ∃ j0, m + j0 = b := ⟨b - m, by omega⟩
 have A0 : Aside ((∀ x, zcy d (m - i0) m (m + j0) x = zcy d a m b x) ∧ PermIn a b d d) := ⟨fun x => by rw [show m - i0 = a by omega, hj0], permIn_refl _ _ _⟩
 have ei0 : (m : Int) - (a : Int) = (i0 : Int) := by omega
 have ej0 : (b : Int) - (m : Int) = (j0 : Int) := by omega
 go_enter Tryz.func306, Tryz.ntmps306
 go_wp2_with fail
 clear ei0 ej0
 go_loopg [10, 11] (i0 + j0) (fun kx s5 s6 wr => ∃ (i j : Nat) (dk : Array En), s5 = .int .i64 i ∧ s6 = .int .i64 j ∧ 0 < i ∧ 0 < j ∧ i ≤ i0 ∧ j ≤ j0 ∧ i + j ≤ kx ∧ dk.size = d.size ∧ Aside (zcg w0 blk off d0 dk wr) ∧ Aside ((∀ x, zcy dk (m - i) m (m + j) x = zcy d a m b x) ∧ PermIn a b d dk))
 case atStart => exact ⟨i0, j0, d, rfl, rfl, by omega, by omega, yyn, yyn, yyn, rfl, S0, A0⟩
 case round =>
  clear S0 A0
  obtain ⟨i, j, dk, rfl, rfl, hi, hj, hii, hjj, hkx, hds, S1, A1⟩ := hrel
  obtain ⟨p, hp⟩ : ∃ p, p + i = m := ⟨m - i, by omega⟩
  have ep : (m : Int) - (i : Int) = (p : Int) := by omega
  by_cases heq : i = j
  ·
   subst heq
   have HC := yyh (zlh (cap := cap) S1.out g cb p m i (by omega) (by omega))
   rw [hds] at HC
   clear S1
   go_wp2_with fail
   refine HC.out.mono ?_
   rintro e w1 ⟨rfl, d1, S2, h2, hx, hpm⟩
   go_wp2_with fail
   go_end0
   refine ⟨rfl, d1, S2, h2, zqw (by omega) A1.out.1 (fun x => by rw [hx, show m - i = p by omega]), permIn_trans _ _ _ _ _ A1.out.2 (permIn_mono _ _ _ _ _ _ (by omega) (by omega) (by omega) hpm)⟩
  ·
   have hne : ((i : Int) != (j : Int)) = true := by simp; omega
   have hne' : ¬ (i : Int) = (j : Int) := by omega
   by_cases hgt : j < i
   ·
    have hgz : decide ((j : Int) < (i : Int)) = true := by simp; omega
    have HC := yyh (zlh (cap := cap) S1.out g cb p m j (by omega) (by omega))
    rw [hds] at HC
    clear S1
    go_wp2_with fail
    refine HC.out.mono ?_
    rintro e w1 ⟨rfl, d1, S2, h2, hx, hpm⟩
    have S3 : Aside (zcg w0 blk off d0 d1 w1) := S2
    have A3 : Aside ((∀ x, zcy d1 (m - (i - j)) m (m + j) x = zcy d a m b x) ∧ PermIn a b d d1) := ⟨zqu (by omega) hgt A1.out.1 (fun x => by rw [hx, show m - i = p by omega]), permIn_trans _ _ _ _ _ A1.out.2 (permIn_mono _ _ _ _ _ _ (by omega) (by omega) (by omega) hpm)⟩
    clear S2 hx hpm A1
    go_wp2
    go_roundg (i - j + j)
    case measure => omega
    case rel => exact ⟨i - j, j, d1, by congr 1; omega, rfl, by omega, hj, by omega, hjj, by omega, h2, S3, A3⟩
   ·
    have hgz : decide ((j : Int) < (i : Int)) = false := by simp; omega
    obtain ⟨q, hq⟩ : ∃ q, q + i = m + j := ⟨m + j - i, by omega⟩
    have eq : (m : Int) + (j : Int) - (i : Int) = (q : Int) := by omega
    have HC := yyh (zlh (cap := cap) S1.out g cb p q i (by omega) (by omega))
    rw [hds] at HC
    clear S1
    go_wp2_with fail
    refine HC.out.mono ?_
    rintro e w1 ⟨rfl, d1, S2, h2, hx, hpm⟩
    have S3 : Aside (zcg w0 blk off d0 d1 w1) := S2
    have A3 : Aside ((∀ x, zcy d1 (m - i) m (m + (j - i)) x = zcy d a m b x) ∧ PermIn a b d d1) := ⟨zqv (by omega) (by omega) A1.out.1 (fun x => by rw [hx, show m - i = p by omega, show m + j - i = q by omega]), permIn_trans _ _ _ _ _ A1.out.2 (permIn_mono _ _ _ _ _ _ (by omega) (by omega) (by omega) hpm)⟩
    clear S2 hx hpm A1
    go_wp2
    go_roundg (i + (j - i))
    case measure => omega
    case rel => exact ⟨i, j - i, d1, rfl, by congr 1; omega, hi, by omega, hii, by omega, by omega, h2, S3, A3⟩
end
end Go.Proofs.YtcfhkbcllijnkaaGreat
