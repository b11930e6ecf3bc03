/- Parts of the proof of TopOnce, under no condition. -/
import Derived.Test.YtcfhkbcllijnkaaGreatZTopOnceat
import Derived.Shelf.GgClosure.Gives
set_option linter.unusedVariables false
set_option linter.unusedSimpArgs false
set_option maxRecDepth 100000
set_option maxHeartbeats 0
namespace Go.Proofs.YtcfhkbcllijnkaaGreat
open Go.RowKit Go.Sort Go.Shelf Go.Lib
section
variable {W w0 : World} {blk off cap : Nat} {d dk d0 : Array En}
def zux (w0 : World) (blk off : Nat) (d0 d : Array En) (a b : Nat) (w' : World) : Prop := ∃ d', zcg w0 blk off d0 d' w' ∧ d'.size = d.size ∧ PermIn a b d d' ∧ SortedIn (ltOf zb1) a b d'
theorem zeg (i j : Nat) (h : Nat) (hh : h = (i + j) / 2) (hb : i + j ≤ 400000) : ((i : Int) + (j : Int)) / 2 = (h : Int) ∧ IntKind.u64.wrap ((i : Int) + (j : Int)) = (i : Int) + (j : Int) ∧ IntKind.i64.wrap ((i : Int) + (j : Int)) = (i : Int) + (j : Int) := by
 refine ⟨by omega, ?_, ?_⟩
 · rw [IntKind.wrap_u64]; omega
 · rw [IntKind.wrap_i64]; omega
theorem zip : ∀ args w, (callFunc 284 args).run Tryz.prog w = .ok (.enter 284 args) w := enters_of Tryz.func284 (by kernel_rfl) rfl
theorem zw3 (h : zcg w0 blk off d0 d W) (a m b : Nat) (hm : m = a + 1) (hmb : m < b) (hb : b ≤ d.size) (hs : SortedIn (ltOf zb1) m b d) : Calls Tryz.prog 303 #[.slice (some ⟨blk, off, none⟩) d.size cap, .int .i64 a, .int .i64 m, .int .i64 b, clE] W fun e w' => e = .returned (.tuple #[]) ∧ zux w0 blk off d0 d a b w' := by
 have hsz := h.sz
 have S0 : Aside (zcg w0 blk off d0 d W) := h
 have HS := yyh hs
 have HM := yyh hm
 have ham : a < m := by omega
 have g1 : decide ((m : Int) - (a : Int) = 1) = true := by simp; omega
 have g1' : ((m : Int) - (a : Int) == 1) = true := by simp; omega
 clear h hs hm
 unfold clE
 go_enter Tryz.func303, Tryz.ntmps303
 have mixed := zmh
 have eg := zip
 go_wp2_with fail
 go_loopg [10, 11] (b - m) (fun kx s5 s6 wr => ∃ (i j : Nat), s5 = .int .i64 i ∧ s6 = .int .i64 j ∧ m ≤ i ∧ i ≤ j ∧ j ≤ b ∧ j - i ≤ kx ∧ Aside (zcg w0 blk off d0 d wr) ∧ Aside ((i = m ∨ ltOf zb1 d[i - 1]! d[a]! = true) ∧ (j = b ∨ ltOf zb1 d[j]! d[a]! = false)))
 case atStart => exact ⟨m, b, rfl, rfl, by omega, by omega, by omega, yyn, S0, .inl rfl, .inl rfl⟩
 case round =>
  clear S0
  obtain ⟨i, j, rfl, rfl, hmi, hij, hjb, hkx, S1, A1⟩ := hrel
  by_cases hlt : i < j
  ·
   have hltz : (i : Int) < (j : Int) := by omega
   obtain ⟨h, hh⟩ : ∃ h, h = (i + j) / 2 := ⟨_, rfl⟩
   have h1 : i ≤ h := by omega
   have h2 : h < j := by omega
   obtain ⟨e1, e2, e3⟩ := zeg i j h hh (by omega)
   clear hh
   have ea : ((h : Int)).toNat = h := by omega
   have pa : (0 : Int) ≤ (h : Int) := by omega
   have ba : (h : Int) < (d.size : Int) := by omega
   have ra : IntKind.i64.wrap ((h : Int)) = (h : Int) := by rw [IntKind.wrap_i64]; omega
   have eb : ((a : Int)).toNat = a := by omega
   have pb : (0 : Int) ≤ (a : Int) := by omega
   have bb : (a : Int) < (d.size : Int) := by omega
   have rb : IntKind.i64.wrap ((a : Int)) = (a : Int) := by rw [IntKind.wrap_i64]; omega
   obtain ⟨x, hx⟩ := yye (d[h]!)
   obtain ⟨y, hy⟩ := yye (d[a]!)
   have hc := S1.out.cmp x y
   have lda := fun n os => (S1.out.grown n os).cells (h) (by omega)
   have ldb := fun n os => (S1.out.grown n os).cells (a) (by omega)
   rw [hx] at lda
   rw [hy] at ldb
   cases hL : ltOf zb1 d[h]! d[a]! with
   | true =>
    have hd : decide (zb1 x y < 0) = true := by rw [← hx, ← hy]; exact hL
    have A2 : Aside ((h + 1 = m ∨ ltOf zb1 d[h + 1 - 1]! d[a]! = true) ∧ (j = b ∨ ltOf zb1 d[j]! d[a]! = false)) := ⟨.inr hL, A1.out.2⟩
    clear hx hy hL A1
    go_wp2_with fail
    go_quiet_grown (first | (go_at_fn 284; refine Calls.grown_of (hc _ _)))
    have S2 : Aside (zcg w0 blk off d0 d (grow (wr.drewN nq) osq)) := S1.out.grown nq osq
    clear lda ldb hc S1
    generalize grow (wr.drewN nq) osq = w2 at S2 ⊢
    clear nq osq
    go_wp2
    go_roundg (j - (h + 1))
    case measure => omega
    case rel => exact ⟨h + 1, j, by go_num, rfl, by omega, by omega, hjb, yyn, S2, A2⟩
   | false =>
    have hd : decide (zb1 x y < 0) = false := by rw [← hx, ← hy]; exact hL
    have A2 : Aside ((i = m ∨ ltOf zb1 d[i - 1]! d[a]! = true) ∧ (h = b ∨ ltOf zb1 d[h]! d[a]! = false)) := ⟨A1.out.1, .inr hL⟩
    clear hx hy hL A1
    go_wp2_with fail
    go_quiet_grown (first | (go_at_fn 284; refine Calls.grown_of (hc _ _)))
    have S2 : Aside (zcg w0 blk off d0 d (grow (wr.drewN nq) osq)) := S1.out.grown nq osq
    clear lda ldb hc S1
    generalize grow (wr.drewN nq) osq = w2 at S2 ⊢
    clear nq osq
    go_wp2
    go_roundg (h - i)
    case measure => omega
    case rel => exact ⟨i, h, rfl, rfl, hmi, h1, by omega, yyn, S2, A2⟩
  ·
   have hltz : ¬ (i : Int) < (j : Int) := by omega
   obtain rfl : i = j := by omega
   obtain ⟨p, hp⟩ : ∃ p, p + 1 = i := ⟨i - 1, by omega⟩
   have ep : (i : Int) - 1 = (p : Int) := by omega
   have A3 : Aside ((∀ x, d[x]! = zcy d a (a + 1) (a + 1) x) ∧ PermIn a b d d) := ⟨fun x => (zjj d a (a + 1) x).symm, permIn_refl _ _ _⟩
   go_wp2_with fail
   go_loopg [13] (p - a) (fun kx s5 wr => ∃ (k : Nat) (dk : Array En), s5 = .int .i64 k ∧ a ≤ k ∧ k ≤ p ∧ p - k ≤ kx ∧ dk.size = d.size ∧ Aside (zcg w0 blk off d0 dk wr) ∧ Aside ((∀ x, dk[x]! = zcy d a (a + 1) (k + 1) x) ∧ PermIn a b d dk))
   case atStart => exact ⟨a, d, rfl, yyn, by omega, yyn, rfl, S1, A3⟩
   case round =>
    clear S1 A3
    obtain ⟨k, dk, rfl, hak, hkp, hkx, hds, S3, A4⟩ := hrel
    by_cases hlt : k < p
    ·
     have hltz : (k : Int) < (p : Int) := by omega
     have ea : ((k : Int)).toNat = k := by omega
     have pa : (0 : Int) ≤ (k : Int) := by omega
     have ba : (k : Int) < (d.size : Int) := by omega
     have ra : IntKind.i64.wrap ((k : Int)) = (k : Int) := by rw [IntKind.wrap_i64]; omega
     have eb : ((k : Int) + 1).toNat = k + 1 := by omega
     have pb : (0 : Int) ≤ (k : Int) + 1 := by omega
     have bb : (k : Int) + 1 < (d.size : Int) := by omega
     have rb : IntKind.i64.wrap ((k : Int) + 1) = (k : Int) + 1 := by rw [IntKind.wrap_i64]; omega
     obtain ⟨x, hx⟩ := yye (dk[k]!)
     obtain ⟨y, hy⟩ := yye (dk[k + 1]!)
     have S2 : Aside _ := S3.out.swapped (i := k) (j := k + 1) (by omega) (by omega) hx hy
     obtain ⟨x0, x1, xf0, xf1⟩ := S3.out.drew.cells (k) (by omega)
     obtain ⟨y0, y1, yf0, yf1⟩ := S3.out.drew.cells (k + 1) (by omega)
     obtain ⟨X0, X1, Xf0, Xf1⟩ := S3.out.cells (k) (by omega)
     obtain ⟨Y0, Y1, Yf0, Yf1⟩ := S3.out.cells (k + 1) (by omega)
     obtain ⟨t1, t2, t3⟩ := S3.out.drew.stores (i := k) (j := k + 1) (by omega) (by omega) (by omega) (.int .u64 y.key) (.int .i64 y.id) (.int .u64 x.key)
     have A2 : Aside ((∀ x, (swp dk k (k + 1))[x]! = zcy d a (a + 1) (k + 1 + 1) x) ∧ PermIn a b d (swp dk k (k + 1))) := ⟨zwn hak (by omega) A4.out.1, permIn_trans _ _ _ _ _ A4.out.2 (swp_permIn _ _ _ _ _ (by omega) (by omega) (by omega) (by omega) (by omega))⟩
     rw [hx] at x0 x1 t1 X0 X1
     rw [hy] at y0 y1 t2 t3 Y0 Y1
     clear S3 A4 hx hy
     go_wp2_with fail
     go_region
     generalize ((((wr.setCell ⟨blk, off + (k) * 2, none⟩ (.int .u64 y.key)).setCell ⟨blk, off + (k) * 2 + 1, none⟩ (.int .i64 y.id)).setCell ⟨blk, off + (k + 1) * 2, none⟩ (.int .u64 x.key)).setCell ⟨blk, off + (k + 1) * 2 + 1, none⟩ (.int .i64 x.id)).drew = w2 at S2 ⊢
     go_wp2
     go_roundg (p - (k + 1))
     case measure => omega
     case rel => exact ⟨k + 1, swp dk k (k + 1), by go_num, by omega, by omega, yyn, by rw [size_swp]; exact hds, S2, A2⟩
    ·
     have hltz : ¬ (k : Int) < (p : Int) := by omega
     obtain rfl : k = p := by omega
     go_wp2
     (try simp only [Exit.inBlock, Exit.then]); refine bodyPost_ret (results_none rfl _ _ _) rfl ?_
     have hm := HM.out
     refine ⟨rfl, dk, S3.out, hds, A4.out.2, zwo zwm (i := i) (by rw [← hm]; exact HS.out) (by omega) hjb ?_ A1.out.2 (fun x => by rw [A4.out.1, hp])⟩
     rw [← hm]
     exact A1.out.1
end
section
variable {W w0 : World} {blk off cap : Nat} {d dk d0 : Array En}
theorem zw4 (h : zcg w0 blk off d0 d W) (a m b : Nat) (ham : a + 1 < m) (hm : b = m + 1) (hb : b ≤ d.size) (hs : SortedIn (ltOf zb1) a m d) : Calls Tryz.prog 303 #[.slice (some ⟨blk, off, none⟩) d.size cap, .int .i64 a, .int .i64 m, .int .i64 b, clE] W fun e w' => e = .returned (.tuple #[]) ∧ zux w0 blk off d0 d a b w' := by
 have hsz := h.sz
 have S0 : Aside (zcg w0 blk off d0 d W) := h
 have HS := yyh hs
 have HM := yyh hm
 have hmb : m < b := by omega
 have g1 : decide ((m : Int) - (a : Int) = 1) = false := by simp; omega
 have g1' : ((m : Int) - (a : Int) == 1) = false := by simp; omega
 have g2 : decide ((b : Int) - (m : Int) = 1) = true := by simp; omega
 have g2' : ((b : Int) - (m : Int) == 1) = true := by simp; omega
 clear h hs hm
 unfold clE
 go_enter Tryz.func303, Tryz.ntmps303
 have mixed := zmh
 have eg := zip
 go_wp2_with fail
 go_loopg [14, 15] (m - a) (fun kx s5 s6 wr => ∃ (i j : Nat), s5 = .int .i64 i ∧ s6 = .int .i64 j ∧ a ≤ i ∧ i ≤ j ∧ j ≤ m ∧ j - i ≤ kx ∧ Aside (zcg w0 blk off d0 d wr) ∧ Aside ((i = a ∨ ltOf zb1 d[m]! d[i - 1]! = false) ∧ (j = m ∨ ltOf zb1 d[m]! d[j]! = true)))
 case atStart => exact ⟨a, m, rfl, rfl, by omega, by omega, by omega, yyn, S0, .inl rfl, .inl rfl⟩
 case round =>
  clear S0
  obtain ⟨i, j, rfl, rfl, hai, hij, hjm, hkx, S1, A1⟩ := hrel
  by_cases hlt : i < j
  ·
   have hltz : (i : Int) < (j : Int) := by omega
   obtain ⟨h, hh⟩ : ∃ h, h = (i + j) / 2 := ⟨_, rfl⟩
   have h1 : i ≤ h := by omega
   have h2 : h < j := by omega
   obtain ⟨e1, e2, e3⟩ := zeg i j h hh (by omega)
   clear hh
   have ea : ((m : Int)).toNat = m := by omega
   have pa : (0 : Int) ≤ (m : Int) := by omega
   have ba : (m : Int) < (d.size : Int) := by omega
   have ra : IntKind.i64.wrap ((m : Int)) = (m : Int) := by rw [IntKind.wrap_i64]; omega
   have eb : ((h : Int)).toNat = h := by omega
   have pb : (0 : Int) ≤ (h : Int) := by omega
   have bb : (h : Int) < (d.size : Int) := by omega
   have rb : IntKind.i64.wrap ((h : Int)) = (h : Int) := by rw [IntKind.wrap_i64]; omega
   obtain ⟨x, hx⟩ := yye (d[m]!)
   obtain ⟨y, hy⟩ := yye (d[h]!)
   have hc := S1.out.cmp x y
   have lda := fun n os => (S1.out.grown n os).cells (m) (by omega)
   have ldb := fun n os => (S1.out.grown n os).cells (h) (by omega)
   rw [hx] at lda
   rw [hy] at ldb
   cases hL : ltOf zb1 d[m]! d[h]! with
   | true =>
    have hd : decide (zb1 x y < 0) = true := by rw [← hx, ← hy]; exact hL
    have A2 : Aside ((i = a ∨ ltOf zb1 d[m]! d[i - 1]! = false) ∧ (h = m ∨ ltOf zb1 d[m]! d[h]! = true)) := ⟨A1.out.1, .inr hL⟩
    clear hx hy hL A1
    go_wp2_with fail
    go_quiet_grown (first | (go_at_fn 284; refine Calls.grown_of (hc _ _)))
    have S2 : Aside (zcg w0 blk off d0 d (grow (wr.drewN nq) osq)) := S1.out.grown nq osq
    clear lda ldb hc S1
    generalize grow (wr.drewN nq) osq = w2 at S2 ⊢
    clear nq osq
    go_wp2
    go_roundg (h - i)
    case measure => omega
    case rel => exact ⟨i, h, rfl, rfl, hai, h1, by omega, yyn, S2, A2⟩
   | false =>
    have hd : decide (zb1 x y < 0) = false := by rw [← hx, ← hy]; exact hL
    have A2 : Aside ((h + 1 = a ∨ ltOf zb1 d[m]! d[h + 1 - 1]! = false) ∧ (j = m ∨ ltOf zb1 d[m]! d[j]! = true)) := ⟨.inr hL, A1.out.2⟩
    clear hx hy hL A1
    go_wp2_with fail
    go_quiet_grown (first | (go_at_fn 284; refine Calls.grown_of (hc _ _)))
    have S2 : Aside (zcg w0 blk off d0 d (grow (wr.drewN nq) osq)) := S1.out.grown nq osq
    clear lda ldb hc S1
    generalize grow (wr.drewN nq) osq = w2 at S2 ⊢
    clear nq osq
    go_wp2
    go_roundg (j - (h + 1))
    case measure => omega
    case rel => exact ⟨h + 1, j, by go_num, rfl, by omega, by omega, hjm, yyn, S2, A2⟩
  ·
   have hltz : ¬ (i : Int) < (j : Int) := by omega
   obtain rfl : i = j := by omega
   have A3 : Aside ((∀ x, d[x]! = zcy d m m (m + 1) x) ∧ PermIn a b d d) := ⟨fun x => (zl7 d m (m + 1) x).symm, permIn_refl _ _ _⟩
   go_wp2_with fail
   go_loopg [17] (m - i) (fun kx s5 wr => ∃ (k : Nat) (dk : Array En), s5 = .int .i64 k ∧ i ≤ k ∧ k ≤ m ∧ k - i ≤ kx ∧ dk.size = d.size ∧ Aside (zcg w0 blk off d0 dk wr) ∧ Aside ((∀ x, dk[x]! = zcy d k m (m + 1) x) ∧ PermIn a b d dk))
   case atStart => exact ⟨m, d, rfl, hjm, yyn, yyn, rfl, S1, A3⟩
   case round =>
    clear S1 A3
    obtain ⟨k0, dk, rfl, hik, hkm, hkx, hds, S3, A4⟩ := hrel
    by_cases hlt : i < k0
    ·
     have hltz : (i : Int) < (k0 : Int) := by omega
     obtain ⟨k, hk⟩ : ∃ k, k + 1 = k0 := ⟨k0 - 1, by omega⟩
     have ek : (k0 : Int) - 1 = (k : Int) := by omega
     have HK := yyh hk
     have hk1 : k < k0 := by omega
     have hk2 : i ≤ k := by omega
     clear hk
     have ea : ((k0 : Int)).toNat = k0 := by omega
     have pa : (0 : Int) ≤ (k0 : Int) := by omega
     have ba : (k0 : Int) < (d.size : Int) := by omega
     have ra : IntKind.i64.wrap ((k0 : Int)) = (k0 : Int) := by rw [IntKind.wrap_i64]; omega
     have eb : ((k : Int)).toNat = k := by omega
     have pb : (0 : Int) ≤ (k : Int) := by omega
     have bb : (k : Int) < (d.size : Int) := by omega
     have rb : IntKind.i64.wrap ((k : Int)) = (k : Int) := by rw [IntKind.wrap_i64]; omega
     obtain ⟨x, hx⟩ := yye (dk[k0]!)
     obtain ⟨y, hy⟩ := yye (dk[k]!)
     have S2 : Aside _ := S3.out.swapped (i := k0) (j := k) (by omega) (by omega) hx hy
     obtain ⟨x0, x1, xf0, xf1⟩ := S3.out.drew.cells (k0) (by omega)
     obtain ⟨y0, y1, yf0, yf1⟩ := S3.out.drew.cells (k) (by omega)
     obtain ⟨X0, X1, Xf0, Xf1⟩ := S3.out.cells (k0) (by omega)
     obtain ⟨Y0, Y1, Yf0, Yf1⟩ := S3.out.cells (k) (by omega)
     obtain ⟨t1, t2, t3⟩ := S3.out.drew.stores (i := k0) (j := k) (by omega) (by omega) (by omega) (.int .u64 y.key) (.int .i64 y.id) (.int .u64 x.key)
     have A2 : Aside ((∀ x, (swp dk k0 k)[x]! = zcy d k m (m + 1) x) ∧ PermIn a b d (swp dk k0 k)) := by
      have hk := HK.out
      subst hk
      exact ⟨zqx (by omega) (by omega) A4.out.1, permIn_trans _ _ _ _ _ A4.out.2 (swp_permIn _ _ _ _ _ (by omega) (by omega) (by omega) (by omega) (by omega))⟩
     rw [hx] at x0 x1 t1 X0 X1
     rw [hy] at y0 y1 t2 t3 Y0 Y1
     clear S3 A4 hx hy
     go_wp2_with fail
     go_region
     generalize ((((wr.setCell ⟨blk, off + (k0) * 2, none⟩ (.int .u64 y.key)).setCell ⟨blk, off + (k0) * 2 + 1, none⟩ (.int .i64 y.id)).setCell ⟨blk, off + (k) * 2, none⟩ (.int .u64 x.key)).setCell ⟨blk, off + (k) * 2 + 1, none⟩ (.int .i64 x.id)).drew = w2 at S2 ⊢
     go_wp2
     go_roundg (k - i)
     case measure => have hk := HK.out; omega
     case rel => exact ⟨k, swp dk k0 k, by rfl, by have hk := HK.out; omega, by have hk := HK.out; omega, yyn, by rw [size_swp]; exact hds, S2, A2⟩
    ·
     have hltz : ¬ (i : Int) < (k0 : Int) := by omega
     obtain rfl : i = k0 := by omega
     go_wp2
     (try simp only [Exit.inBlock, Exit.then]); refine bodyPost_ret (results_none rfl _ _ _) rfl ?_
     have hm := HM.out
     refine ⟨rfl, dk, S3.out, hds, A4.out.2, ?_⟩
     rw [hm]
     exact zqy zwm (i := i) HS.out hai hjm A1.out.1 A1.out.2 A4.out.1
end
section
variable {W w0 : World} {blk off cap : Nat} {d dk d0 : Array En}
def zw5 (w0 : World) (blk off cap : Nat) (d0 : Array En) (a m b : Nat) : Prop := ∀ (d : Array En) (W : World), zcg w0 blk off d0 d W → a < m → m < b → b ≤ d.size → SortedIn (ltOf zb1) a m d → SortedIn (ltOf zb1) m b d → Calls Tryz.prog 303 #[.slice (some ⟨blk, off, none⟩) d.size cap, .int .i64 a, .int .i64 m, .int .i64 b, clE] W fun e w' => e = .returned (.tuple #[]) ∧ zux w0 blk off d0 d a b w'
def zzo (w0 : World) (blk off : Nat) (d0 d : Array En) (a m b s e : Nat) (w : World) (d1 : Array En) : Prop := zcg w0 blk off d0 d1 w ∧ d1.size = d.size ∧ (∀ x, d1[x]! = zcy d s m e x) ∧ PermIn a b d d1
theorem zw6 (h : zcg w0 blk off d0 d W) (a m b : Nat) (ham : a + 1 < m) (hmb : m + 1 < b) (hb : b ≤ d.size) (h1 : SortedIn (ltOf zb1) a m d) (h2 : SortedIn (ltOf zb1) m b d) (hI : ∀ a' m' b', b' - a' < b - a → zw5 w0 blk off cap d0 a' m' b') : Calls Tryz.prog 303 #[.slice (some ⟨blk, off, none⟩) d.size cap, .int .i64 a, .int .i64 m, .int .i64 b, clE] W fun e w' => e = .returned (.tuple #[]) ∧ zux w0 blk off d0 d a b w' := by
 have hsz := h.sz
 have S0 : Aside (zcg w0 blk off d0 d W) := h
 have HI := yyh hI
 have HS := yyh (yyi h1 h2)
 have g1 : decide ((m : Int) - (a : Int) = 1) = false := by simp; omega
 have g1' : ((m : Int) - (a : Int) == 1) = false := by simp; omega
 have g2 : decide ((b : Int) - (m : Int) = 1) = false := by simp; omega
 have g2' : ((b : Int) - (m : Int) == 1) = false := by simp; omega
 obtain ⟨mid, hmid⟩ : ∃ mid, mid = (a + b) / 2 := ⟨_, rfl⟩
 obtain ⟨m1, m2, m3⟩ := zeg a b mid hmid (by omega)
 obtain ⟨n, hn⟩ : ∃ n, n = mid + m := ⟨_, rfl⟩
 have en : (mid : Int) + (m : Int) = (n : Int) := by omega
 obtain ⟨p, hp⟩ : ∃ p, p + 1 = n := ⟨n - 1, by omega⟩
 have ep : (n : Int) - 1 = (p : Int) := by omega
 obtain ⟨s0, hs0⟩ : ∃ s0, s0 = if mid < m then mid + m - b else a := ⟨_, rfl⟩
 obtain ⟨r0, hr0⟩ : ∃ r0, r0 = if mid < m then mid else m := ⟨_, rfl⟩
 have hc0 : (mid < m ∧ s0 + b = mid + m ∧ r0 = mid) ∨ (m ≤ mid ∧ s0 = a ∧ r0 = m) := by
  by_cases c : mid < m
  · rw [if_pos c] at hs0 hr0; exact .inl ⟨c, by omega, hr0⟩
  · rw [if_neg c] at hs0 hr0; exact .inr ⟨by omega, hs0, hr0⟩
 have HC0 := yyh hc0
 have HN := yyh (yyi hn (yyi hp hmid))
 have HR0 := yyh (yyi hs0 hr0)
 have HL := yyh (show s0 ≤ r0 ∧ r0 ≤ m ∧ r0 ≤ mid ∧ a ≤ s0 ∧ a < mid ∧ mid < b ∧ n < s0 + b + 1 by omega)
 clear h h1 h2 hI hmid hn hp hs0 hr0 hc0
 unfold clE
 go_enter Tryz.func303, Tryz.ntmps303
 have mixed := zmh
 have eg := zip
 go_upto_if 140 with fail
 go_cut [20, 21] (fun v20 v21 wc => v20 = .int .i64 s0 ∧ v21 = .int .i64 r0 ∧ W = wc)
 case first =>
  rcases HC0.out with ⟨c1, c2, c3⟩ | ⟨c1, c2, c3⟩
  ·
   have k1 : (mid : Int) < (m : Int) := by omega
   have k2 : (n : Int) - (b : Int) = (s0 : Int) := by have := HN.out; omega
   have c3 := yyh c3
   clear c2
   go_wp2_with fail
   go_meet
   exact ⟨rfl, by rw [c3.out], rfl⟩
  ·
   have k1 : ¬ (mid : Int) < (m : Int) := by omega
   have c3 := yyh (yyi c2 c3)
   clear c2
   go_wp2_with fail
   go_meet
   exact ⟨by rw [c3.out.1], by rw [c3.out.2], rfl⟩
 case rest =>
  obtain ⟨rfl, rfl, rfl⟩ := hcut
  go_wp2_with fail
  go_loopg [20, 21] (r0 - s0) (fun kx v20 v21 wr => ∃ (s r : Nat), v20 = .int .i64 s ∧ v21 = .int .i64 r ∧ s0 ≤ s ∧ s ≤ r ∧ r ≤ r0 ∧ r - s ≤ kx ∧ Aside (zcg w0 blk off d0 d wr) ∧ Aside ((s = s0 ∨ ltOf zb1 d[mid + m - 1 - (s - 1)]! d[s - 1]! = false) ∧ (r = r0 ∨ ltOf zb1 d[mid + m - 1 - r]! d[r]! = true)))
  case atStart => exact ⟨s0, r0, rfl, rfl, yyn, by have := HL.out; omega, yyn, yyn, S0, .inl rfl, .inl rfl⟩
  case round => as_aux_lemma =>
   clear S0
   obtain ⟨s, r, rfl, rfl, hss, hsr, hrr, hkx, S1, A1⟩ := hrel
   by_cases hlt : s < r
   ·
    have hltz : (s : Int) < (r : Int) := by omega
    obtain ⟨c, hc⟩ : ∃ c, c = (s + r) / 2 := ⟨_, rfl⟩
    have c1 : s ≤ c := by omega
    have c2 : c < r := by omega
    have hl := HL.out
    obtain ⟨e1, e2, e3⟩ := zeg s r c hc (by omega)
    clear hc
    obtain ⟨q, hq⟩ : ∃ q, q + c = p := ⟨p - c, by have := HN.out; omega⟩
    have eq : (p : Int) - (c : Int) = (q : Int) := by omega
    have hqb : q < d.size := by have := HN.out; omega
    have hqe : mid + m - 1 - c = q := by have := HN.out; omega
    have hcb : c < d.size := by omega
    have HQ := yyh hqe
    clear hq hqe hl
    have ea : ((q : Int)).toNat = q := by omega
    have pa : (0 : Int) ≤ (q : Int) := by omega
    have ba : (q : Int) < (d.size : Int) := by omega
    have ra : IntKind.i64.wrap ((q : Int)) = (q : Int) := by rw [IntKind.wrap_i64]; omega
    have eb : ((c : Int)).toNat = c := by omega
    have pb : (0 : Int) ≤ (c : Int) := by omega
    have bb : (c : Int) < (d.size : Int) := by omega
    have rb : IntKind.i64.wrap ((c : Int)) = (c : Int) := by rw [IntKind.wrap_i64]; omega
    obtain ⟨x, hx⟩ := yye (d[q]!)
    obtain ⟨y, hy⟩ := yye (d[c]!)
    have hc := S1.out.cmp x y
    have lda := fun n os => (S1.out.grown n os).cells (q) (by omega)
    have ldb := fun n os => (S1.out.grown n os).cells (c) (by omega)
    rw [hx] at lda
    rw [hy] at ldb
    cases hL : ltOf zb1 d[q]! d[c]! with
    | true =>
     have hd : decide (zb1 x y < 0) = true := by rw [← hx, ← hy]; exact hL
     have A2 : Aside ((s = s0 ∨ ltOf zb1 d[mid + m - 1 - (s - 1)]! d[s - 1]! = false) ∧ (c = r0 ∨ ltOf zb1 d[mid + m - 1 - c]! d[c]! = true)) := ⟨A1.out.1, .inr (by rw [HQ.out]; exact hL)⟩
     clear hx hy hL A1
     go_wp2_with fail
     go_quiet_grown (first | (go_at_fn 284; refine Calls.grown_of (hc _ _)))
     have S2 : Aside (zcg w0 blk off d0 d (grow (wr.drewN nq) osq)) := S1.out.grown nq osq
     clear lda ldb hc S1
     generalize grow (wr.drewN nq) osq = w2 at S2 ⊢
     clear nq osq
     go_wp2
     go_roundg (c - s)
     case measure => omega
     case rel => exact ⟨s, c, rfl, rfl, hss, c1, by omega, yyn, S2, A2⟩
    | false =>
     have hd : decide (zb1 x y < 0) = false := by rw [← hx, ← hy]; exact hL
     have A2 : Aside ((c + 1 = s0 ∨ ltOf zb1 d[mid + m - 1 - (c + 1 - 1)]! d[c + 1 - 1]! = false) ∧ (r = r0 ∨ ltOf zb1 d[mid + m - 1 - r]! d[r]! = true)) := ⟨.inr (by rw [Nat.add_sub_cancel, HQ.out]; exact hL), A1.out.2⟩
     clear hx hy hL A1
     go_wp2_with fail
     go_quiet_grown (first | (go_at_fn 284; refine Calls.grown_of (hc _ _)))
     have S2 : Aside (zcg w0 blk off d0 d (grow (wr.drewN nq) osq)) := S1.out.grown nq osq
     clear lda ldb hc S1
     generalize grow (wr.drewN nq) osq = w2 at S2 ⊢
     clear nq osq
     go_wp2
     go_roundg (r - (c + 1))
     case measure => omega
     case rel => exact ⟨c + 1, r, by go_num, rfl, by omega, by omega, hrr, yyn, S2, A2⟩
   ·
    have hltz : ¬ (s : Int) < (r : Int) := by omega
    obtain rfl : s = r := by omega
    obtain ⟨hn, hp, hmid⟩ := HN.out
    have SC := zwp zwm HS.out.1 HS.out.2 (by omega) (by omega) hmid HR0.out.1 HR0.out.2 hss hrr A1.out.1 A1.out.2
    have SC0 := SC
    obtain ⟨q1, q2, q3, q4, q5, -, -⟩ := SC0
    obtain ⟨e, he⟩ : ∃ e, e = mid + m - s := ⟨_, rfl⟩
    have ee : (n : Int) - (s : Int) = (e : Int) := by omega
    have q4' : m ≤ e := by omega
    have q5' : e ≤ b := by omega
    have q6 : mid ≤ e := by omega
    have HSC := yyh (yyi SC he)
    have hl := HL.out
    have hl1 : a < mid := by omega
    have hl2 : mid < b := by omega
    clear SC A1 hn hp hmid he q4 q5 hl
    go_upto_region 39 with fail
    go_cut [185] (fun v wx => ∃ q : Bool, v = .bool q ∧ (q = true ↔ s < m ∧ m < e) ∧ wr = wx)
    case first => as_aux_lemma =>
     clear S1
     by_cases hx1 : s < m
     ·
      have k1 : (s : Int) < (m : Int) := by omega
      by_cases hx2 : m < e
      ·
       have k2 : (m : Int) < (e : Int) := by omega
       go_wp2_with fail
       go_meet
       exact ⟨true, rfl, ⟨fun _ => ⟨hx1, hx2⟩, fun _ => rfl⟩, rfl⟩
      ·
       have k2 : ¬ (m : Int) < (e : Int) := by omega
       go_wp2_with fail
       go_meet
       exact ⟨false, rfl, ⟨fun h => (by cases h), fun h => absurd h.2 hx2⟩, rfl⟩
     ·
      have k1 : ¬ (s : Int) < (m : Int) := by omega
      go_wp2_with fail
      go_meet
      exact ⟨false, rfl, ⟨fun h => (by cases h), fun h => absurd h.1 hx1⟩, rfl⟩
    case rest => as_aux_lemma =>
    obtain ⟨qb, rfl, hqb, rfl⟩ := hcut
    go_upto_if 185 with fail
    go_cut [] (fun wc => ∃ d1, zzo w0 blk off d0 d a m b s e wc d1)
    case first => as_aux_lemma =>
     by_cases hx : s < m ∧ m < e
     ·
      obtain rfl : qb = true := hqb.2 hx
      clear hqb
      have HC := yyh (zyp (cap := cap) S1.out 284 #[] s m e hx.1 hx.2 (by omega))
      clear S1
      go_wp2_with fail
      refine HC.out.mono ?_
      rintro en w1 ⟨rfl, d1, S2, z1, z2, z3⟩
      go_wp2_with fail
      go_meet
      exact ⟨d1, S2, z1, z2, permIn_mono _ _ _ _ _ _ q1 q5' hb z3⟩
     ·
      have k0 : s = m ∨ m = e := by omega
      have hid : ∃ d1, zzo w0 blk off d0 d a m b s e wr d1 := ⟨d, S1.out, rfl, fun x => by rcases k0 with k | k <;> rw [k] <;> first | exact (zl7 d m e x).symm | exact (zjj d s e x).symm, permIn_refl _ _ _⟩
      have HD := yyh hid
      obtain rfl : qb = false := by cases qb with | false => rfl | true => exact absurd (hqb.1 rfl) hx
      clear S1 k0 hid hqb hx
      go_wp2_with fail
      go_meet
      exact HD.out
    case rest => as_aux_lemma =>
     clear S1 hqb
     obtain ⟨d1, S1, z1, z2, z3⟩ := hcut
     have hd1 : d1.size = d.size := z1
     have SR := HSC.out.1.rot HS.out.1 HS.out.2 (fun x => by rw [z2, HSC.out.2])
     rw [← HSC.out.2] at SR
     have HSR := yyh (yyi SR z3)
     have S1 : Aside (zcg w0 blk off d0 d1 wc) := S1
     clear z1 z2 z3 SR
     go_upto_region 41 with fail
     go_cut [199] (fun v wx => ∃ q : Bool, v = .bool q ∧ (q = true ↔ a < s ∧ s < mid) ∧ wc = wx)
     case first => as_aux_lemma =>
      clear S1
      by_cases hx1 : a < s
      ·
       have k1 : (a : Int) < (s : Int) := by omega
       by_cases hx2 : s < mid
       ·
        have k2 : (s : Int) < (mid : Int) := by omega
        go_wp2_with fail
        go_meet
        exact ⟨true, rfl, ⟨fun _ => ⟨hx1, hx2⟩, fun _ => rfl⟩, rfl⟩
       ·
        have k2 : ¬ (s : Int) < (mid : Int) := by omega
        go_wp2_with fail
        go_meet
        exact ⟨false, rfl, ⟨fun h => (by cases h), fun h => absurd h.2 hx2⟩, rfl⟩
      ·
       have k1 : ¬ (a : Int) < (s : Int) := by omega
       go_wp2_with fail
       go_meet
       exact ⟨false, rfl, ⟨fun h => (by cases h), fun h => absurd h.1 hx1⟩, rfl⟩
     case rest => as_aux_lemma =>
     obtain ⟨qb, rfl, hqb, rfl⟩ := hcut
     go_upto_if 199 with fail
     go_cut [] (fun wd => ∃ d2, zcg w0 blk off d0 d2 wd ∧ d2.size = d1.size ∧ PermIn a mid d1 d2 ∧ SortedIn (ltOf zb1) a mid d2)
     case first => as_aux_lemma =>
      by_cases hx : a < s ∧ s < mid
      ·
       obtain rfl : qb = true := hqb.2 hx
       clear hqb
       have hC := HI.out a s mid (by omega) d1 wc S1.out hx.1 hx.2 (by omega) HSR.out.1.s1 HSR.out.1.s2
       rw [hd1] at hC
       unfold clE at hC
       have HC := yyh hC
       clear S1 hC
       go_wp2_with fail
       refine HC.out.mono ?_
       rintro en w1 ⟨rfl, d2, S2, y1, y2, y3⟩
       go_wp2_with fail
       go_meet
       exact ⟨d2, S2, y1, y2, y3⟩
      ·
       have k0 : s = a ∨ s = mid := by omega
       have hid : ∃ d2, zcg w0 blk off d0 d2 wc ∧ d2.size = d1.size ∧ PermIn a mid d1 d2 ∧ SortedIn (ltOf zb1) a mid d2 := ⟨d1, S1.out, rfl, permIn_refl _ _ _, by
        have h1 := HSR.out.1.s1
        have h2 := HSR.out.1.s2
        rcases k0 with k | k <;> rw [k] at h1 h2 <;> assumption⟩
       have HD := yyh hid
       obtain rfl : qb = false := by cases qb with | false => rfl | true => exact absurd (hqb.1 rfl) hx
       clear S1 k0 hid hqb hx
       go_wp2_with fail
       go_meet
       exact HD.out
     case rest => as_aux_lemma =>
      clear S1 hqb
      obtain ⟨d2, S1, y1, y2, y3⟩ := hcut
      have hd2 : d2.size = d.size := y1.trans hd1
      have y4 : SortedIn (ltOf zb1) mid e d2 := SortedIn.out HSR.out.1.s3 y2 (.inr yyn)
      have y5 : SortedIn (ltOf zb1) e b d2 := SortedIn.out HSR.out.1.s4 y2 (.inr q6)
      have HY := yyh (yyi y2 y3)
      have HZ := yyh (yyi y4 y5)
      have S1 : Aside _ := S1
      clear y1 y2 y3 y4 y5
      have hfin : ∀ (d3 : Array En) (w3 : World), zcg w0 blk off d0 d3 w3 → d3.size = d2.size → PermIn mid b d2 d3 → SortedIn (ltOf zb1) mid b d3 → zux w0 blk off d0 d a b w3 := fun d3 w3 u1 u2 u3 u4 => by
       have h1 := HSR.out.1.end_ (Nat.le_of_lt hl1) (Nat.le_of_lt hl2) (by omega) HY.out.1 HY.out.2 u3 u4
       exact ⟨d3, u1, u2.trans hd2, permIn_trans _ _ _ _ _ HSR.out.2 h1.2, h1.1⟩
      have HFIN := yyh hfin
      clear hfin
      by_cases hx : mid < e ∧ e < b
      ·
       have k1 : (mid : Int) < (e : Int) := by omega
       have k2 : (e : Int) < (b : Int) := by omega
       have hC := HI.out mid e b (by omega) d2 _ S1.out hx.1 hx.2 (by omega) HZ.out.1 HZ.out.2
       rw [hd2] at hC
       unfold clE at hC
       have HC := yyh hC
       clear S1 hC
       go_wp2_with fail
       refine HC.out.mono ?_
       rintro en w1 ⟨rfl, d3, S2, u1, u2, u3⟩
       have HE := yyh (HFIN.out d3 w1 S2 u1 u2 u3)
       clear S2 u1 u2 u3
       go_wp2_with fail
       go_end0
       exact ⟨rfl, HE.out⟩
      ·
       have k0 : mid = e ∨ e = b := by omega
       have HE := yyh (HFIN.out d2 _ S1.out rfl (permIn_refl _ _ _) (by
        have h1 := HZ.out.1
        have h2 := HZ.out.2
        rcases k0 with k | k
        · rw [k]; exact h2
        · rw [k] at h1; exact h1))
       clear S1 k0
       by_cases hx1 : mid < e
       ·
        have k1 : (mid : Int) < (e : Int) := by omega
        have k2 : ¬ (e : Int) < (b : Int) := by omega
        go_wp2_with fail
        go_end0
        exact ⟨rfl, HE.out⟩
       ·
        have k1 : ¬ (mid : Int) < (e : Int) := by omega
        go_wp2_with fail
        go_end0
        exact ⟨rfl, HE.out⟩
theorem zyq : ∀ (N a m b : Nat), b - a < N → zw5 w0 blk off cap d0 a m b := by
 intro N
 induction N with
 | zero => intro a m b h; omega
 | succ N ih =>
  intro a m b hN d W h ham hmb hb h1 h2
  by_cases e1 : m = a + 1
  · exact zw3 h a m b e1 hmb hb h2
  · by_cases e2 : b = m + 1
    · exact zw4 h a m b (by omega) e2 hb h1
    · exact zw6 h a m b (by omega) (by omega) hb h1 h2 (fun a' m' b' hlt => ih a' m' b' (by omega))
end
section
variable {W w0 : World} {blk off cap : Nat} {d dk d0 : Array En}
theorem zyr (h : zcg w0 blk off d0 d W) (a b : Nat) (hab : a ≤ b) (hb : b ≤ d.size) : Calls Tryz.prog 302 #[.slice (some ⟨blk, off, none⟩) d.size cap, .int .i64 a, .int .i64 b, clE] W fun e w' => e = .returned (.tuple #[]) ∧ zux w0 blk off d0 d a b w' := by
 have hs' : (Sort.insertionSort (ltOf zb1) d a b).size = d.size := (insertionSort_holds zwm d a b hab hb).1.1
 have hC : CmpLays Tryz.prog 284 #[] ze2 2 zb1 blk off d.size W := zim blk off _ W
 have hH := h.S.holds h.R.hblk h.R.hH h.hs.symm
 have key := AnyQ.insertionSortCmpFunc Tryz.sortEn 2 Tryz.isAgg63 Tryz.sizeOf63 ze2 (fun _ => rfl) h.R.h1 zb1 284 #[] blk off cap a b d W zip hC hH (h.S.lt h.R.hblk) hab hb (by have := h.sz; omega)
 change Calls Tryz.prog 302 _ _ _ at key
 refine key.mono ?_
 rintro e w' ⟨rfl, n, os, rfl⟩
 have hI := insertionSort_holds zwm d a b hab hb
 exact ⟨rfl, _, ⟨h.R, by rw [hs']; exact h.hs, h.S.on h.R.hblk n _ os hs', by rw [hs']; exact h.sz⟩, hs', hI.1, hI.2⟩
theorem zrl (h : zcg w0 blk off d0 d W) (n : Nat) (hn : d.size = n) : Calls Tryz.prog 295 #[.slice (some ⟨blk, off, none⟩) n cap, .int .i64 n, clE] W fun e w' => e = .returned (.tuple #[]) ∧ zux w0 blk off d0 d 0 n w' := by
 have hsz := h.sz
 have S0 : Aside (zcg w0 blk off d0 d W) := h
 have HN := yyh hn
 have hn5 : n ≤ 100000 := by omega
 have CI := fun (d1 : Array En) (w1 : World) (S : zcg w0 blk off d0 d1 w1) (h1 : d1.size = n) (a b : Nat) (hab : a ≤ b) (hb : b ≤ n) => zyr (cap := cap) S a b hab (by omega)
 have CS := fun (a m b : Nat) => zyq (w0 := w0) (blk := blk) (off := off) (cap := cap) (d0 := d0) (b - a + 1) a m b (Nat.lt_succ_self _)
 have CI := yyh CI
 have CS := yyh CS
 have hr0 : Aside (zcp (ltOf zb1) 20 0 d ∧ PermIn 0 n d d ∧ ∃ i, 0 = 20 * i) := ⟨zcp.zero (by decide), permIn_refl _ _ _, 0, rfl⟩
 clear h hn hsz
 unfold clE
 go_enter Tryz.func295, Tryz.ntmps295
 go_wp2_with fail
 go_loopg [7, 8] n (fun kx v7 v8 wr => ∃ (p q : Nat) (dk : Array En), v7 = .int .i64 p ∧ v8 = .int .i64 q ∧ q = p + 20 ∧ p ≤ n ∧ n - p ≤ kx ∧ Aside (dk.size = n) ∧ Aside (zcg w0 blk off d0 dk wr) ∧ Aside (zcp (ltOf zb1) 20 p dk ∧ PermIn 0 n d dk ∧ ∃ i, p = 20 * i))
 case atStart => exact ⟨0, 20, d, rfl, rfl, rfl, Nat.zero_le _, yyn, HN.out, S0, hr0⟩
 case round =>
  clear S0 hr0
  obtain ⟨p, q, dk, rfl, rfl, hq, hp, hkx, hds, S1, A1⟩ := hrel
  have HQ := yyh hq
  by_cases hlt : q ≤ n
  ·
   have hltz : (q : Int) ≤ (n : Int) := by omega
   have hC := CI.out dk wr S1.out hds.out p q (by omega) hlt
   rw [hds.out] at hC
   unfold clE at hC
   have HC := yyh hC
   clear S1 hC hq
   go_wp2_with fail
   refine HC.out.mono ?_
   rintro e w1 ⟨rfl, d1, S2, z1, z2, z3⟩
   have S3 : Aside (zcg w0 blk off d0 d1 w1) := S2
   have hd1 : Aside (d1.size = n) := z1.trans hds.out
   have A3 : Aside (zcp (ltOf zb1) 20 q d1 ∧ PermIn 0 n d d1 ∧ ∃ i, q = 20 * i) := by
    obtain ⟨a1, a2, i, a3⟩ := A1.out
    have hq := HQ.out
    rw [hq] at z3 ⊢
    refine ⟨(a1.out z2 yyn).next a3 z3, permIn_trans _ _ _ _ _ a2 (zdq z2 hlt (Nat.le_of_eq hds.out.symm)), i + 1, by omega⟩
   clear S2 z1 z2 z3 A1 hds
   go_wp2
   go_roundg (n - q)
   case measure => have := HQ.out; omega
   case rel => exact ⟨q, q + 20, d1, rfl, by go_num, rfl, hlt, yyn, hd1, S3, A3⟩
  ·
   have hltz : ¬ (q : Int) ≤ (n : Int) := by omega
   have hC := CI.out dk wr S1.out hds.out p n hp yyn
   rw [hds.out] at hC
   unfold clE at hC
   have HC := yyh hC
   clear S1 hC hq
   go_wp2_with fail
   refine HC.out.mono ?_
   rintro e w1 ⟨rfl, d1, S2, z1, z2, z3⟩
   have S3 : Aside (zcg w0 blk off d0 d1 w1) := S2
   have hd1 : Aside (d1.size = n) := z1.trans hds.out
   have A3 : Aside (zbo (ltOf zb1) 20 0 n d1 ∧ PermIn 0 n d d1) := by
    obtain ⟨a1, a2, i, a3⟩ := A1.out
    have hq := HQ.out
    exact ⟨zib (a1.out z2 yyn) a3 z3 (by omega), permIn_trans _ _ _ _ _ a2 (zdq z2 yyn (Nat.le_of_eq hds.out.symm))⟩
   clear S2 z1 z2 z3 A1 hds HQ HC hlt hltz
   go_wp2_with fail
   go_loopg [6, 7, 8, 9] n (fun kx v6 v7 v8 v9 wr => ∃ (c : Nat) (dk : Array En), v6 = .int .i64 c ∧ 20 ≤ c ∧ c ≤ 300000 ∧ n - c ≤ kx ∧ Aside (dk.size = n) ∧ Aside (zcg w0 blk off d0 dk wr) ∧ Aside (zbo (ltOf zb1) c 0 n dk ∧ PermIn 0 n d dk))
   case atStart => exact ⟨20, d1, rfl, by omega, by omega, by omega, hd1, S3, A3⟩
   case round =>
    clear S3 hd1 A3
    obtain ⟨c, dk, rfl, h20, hcm, hkx, hds, S1, A1⟩ := hrel
    by_cases hlt : c < n
    ·
     have hltz : (c : Int) < (n : Int) := by omega
     obtain ⟨c2, hc2⟩ : ∃ c2, c2 = 2 * c := ⟨_, rfl⟩
     have e2 : 2 * (c : Int) = (c2 : Int) := by omega
     have HC2 := yyh hc2
     have hc3 : c2 ≤ 200000 := by omega
     have hc4 : 0 < c2 := by omega
     clear hc2
     have A3 : Aside (zcp (ltOf zb1) c2 0 dk ∧ zbo (ltOf zb1) c 0 n dk ∧ PermIn 0 n d dk ∧ ∃ i, 0 = c2 * i) := ⟨zcp.zero hc4, A1.out.1, A1.out.2, 0, rfl⟩
     clear A1
     go_wp2_with fail
     go_loopg [7, 8] n (fun kx v7 v8 wr => ∃ (p q : Nat) (dk : Array En), v7 = .int .i64 p ∧ v8 = .int .i64 q ∧ q = p + c2 ∧ p ≤ n ∧ n - p ≤ kx ∧ Aside (dk.size = n) ∧ Aside (zcg w0 blk off d0 dk wr) ∧ Aside (zcp (ltOf zb1) c2 p dk ∧ zbo (ltOf zb1) c p n dk ∧ PermIn 0 n d dk ∧ ∃ i, p = c2 * i))
     case atStart => exact ⟨0, c2, dk, rfl, rfl, by omega, Nat.zero_le _, yyn, hds, S1, A3⟩
     case round =>
      clear S1 A3 hds
      obtain ⟨p, q, dk, rfl, rfl, hq, hp, hkx3, hds, S1, A1⟩ := hrel
      have HQ := yyh hq
      have hsplit : ∀ d1, zbo (ltOf zb1) c p n d1 → p + c ≤ n → SortedIn (ltOf zb1) p (p + c) d1 := fun d1 h hle => by
       have := h.head
       rw [Nat.min_eq_left hle] at this
       exact this
      have hspl2 : ∀ d1 x, zbo (ltOf zb1) c p n d1 → x ≤ n → x ≤ p + c + c → SortedIn (ltOf zb1) (p + c) x d1 := fun d1 x h hle hx => SortedIn.part h.next.head yyn (by omega)
      have HS1 := yyh hsplit
      have HS2 := yyh hspl2
      clear hsplit hspl2
      obtain ⟨m, hm⟩ : ∃ m, m = p + c := ⟨_, rfl⟩
      have em : (p : Int) + (c : Int) = (m : Int) := by omega
      have HM := yyh hm
      clear hm
      by_cases hlq : q ≤ n
      ·
       have hlqz : (q : Int) ≤ (n : Int) := by omega
       have hC := CS.out p m q dk wr S1.out (by have := HM.out; omega) (by have := HM.out; have := HC2.out; omega) (by rw [hds.out]; exact hlq) (by rw [HM.out]; exact HS1.out dk A1.out.2.1 (by have := HC2.out; omega)) (by rw [HM.out]; exact HS2.out dk q A1.out.2.1 hlq (by have := HC2.out; omega))
       rw [hds.out] at hC
       unfold clE at hC
       have HC := yyh hC
       clear S1 hC hq
       go_wp2_with fail
       refine HC.out.mono ?_
       rintro e w1 ⟨rfl, d1, S2, z1, z2, z3⟩
       have S3 : Aside (zcg w0 blk off d0 d1 w1) := S2
       have hd1 : Aside (d1.size = n) := z1.trans hds.out
       have A3 : Aside (zcp (ltOf zb1) c2 q d1 ∧ zbo (ltOf zb1) c q n d1 ∧ PermIn 0 n d d1 ∧ ∃ i, q = c2 * i) := by
        obtain ⟨a1, a2, a4, i, a3⟩ := A1.out
        have hq := HQ.out
        have hc := HC2.out
        have a5 := (a2.next.next).out z2 (by omega)
        rw [show p + c + c = q by omega] at a5
        rw [hq] at z3
        have a6 := (a1.out z2 yyn).next a3 z3
        rw [← hq] at a6
        exact ⟨a6, a5, permIn_trans _ _ _ _ _ a4 (zdq z2 hlq (Nat.le_of_eq hds.out.symm)), i + 1, by rw [Nat.mul_succ, ← a3]; exact hq⟩
       clear S2 z1 z2 z3 A1 hds
       go_wp2
       go_roundg (n - q)
       case measure => have := HQ.out; omega
       case rel => exact ⟨q, q + c2, d1, rfl, by go_num, rfl, hlq, yyn, hd1, S3, A3⟩
      ·
       have hlqz : ¬ (q : Int) ≤ (n : Int) := by omega
       have e3 : (c : Int) * 2 = (c2 : Int) := by omega
       by_cases hmn : m < n
       ·
        have hmnz : (m : Int) < (n : Int) := by omega
        have hC := CS.out p m n dk wr S1.out (by have := HM.out; omega) hmn (by rw [hds.out]; exact yyn) (by rw [HM.out]; exact HS1.out dk A1.out.2.1 (by have := HM.out; omega)) (by rw [HM.out]; exact HS2.out dk n A1.out.2.1 yyn (by have := HC2.out; omega))
        rw [hds.out] at hC
        unfold clE at hC
        have HC := yyh hC
        clear S1 hC hq
        go_wp2_with fail
        refine HC.out.mono ?_
        rintro e w1 ⟨rfl, d1, S2, z1, z2, z3⟩
        have S3 : Aside (zcg w0 blk off d0 d1 w1) := S2
        have hd1 : Aside (d1.size = n) := z1.trans hds.out
        have A3 : Aside (zbo (ltOf zb1) c2 0 n d1 ∧ PermIn 0 n d d1) := by
         obtain ⟨a1, a2, a4, i, a3⟩ := A1.out
         have hq := HQ.out
         exact ⟨zib (a1.out z2 yyn) a3 z3 (by omega), permIn_trans _ _ _ _ _ a4 (zdq z2 yyn (Nat.le_of_eq hds.out.symm))⟩
        clear S2 z1 z2 z3 A1 hds
        go_wp2
        go_roundg (n - c2)
        case measure => have := HC2.out; omega
        case rel => exact ⟨c2, d1, rfl, by have := HC2.out; omega, by omega, yyn, hd1, S3, A3⟩
       ·
        have hmnz : ¬ (m : Int) < (n : Int) := by omega
        have A3 : Aside (zbo (ltOf zb1) c2 0 n dk ∧ PermIn 0 n d dk) := by
         obtain ⟨a1, a2, a4, i, a3⟩ := A1.out
         have hq := HQ.out
         have hm := HM.out
         have hh := a2.head
         rw [Nat.min_eq_right (by omega)] at hh
         exact ⟨zib a1 a3 hh (by omega), a4⟩
        clear A1 hq
        go_wp2
        go_roundg (n - c2)
        case measure => have := HC2.out; omega
        case rel => exact ⟨c2, dk, rfl, by have := HC2.out; omega, by omega, yyn, hds, S1, A3⟩
    ·
     have hltz : ¬ (c : Int) < (n : Int) := by omega
     go_wp2
     go_end0
     refine ⟨rfl, dk, S1.out, by rw [hds.out, HN.out], A1.out.2, ?_⟩
     have := A1.out.1.head
     rw [Nat.min_eq_right (by omega)] at this
     exact this
end
end Go.Proofs.YtcfhkbcllijnkaaGreat
namespace Go.Proofs.YtcfhkbcllijnkaaGreat
open Go.RowKit Go.Sort
def NB : Nat := 64
theorem zli {W : World} {v : Value} {l : List En} (hl : l.length ≤ 19) (h : SlV W 63 2 v l.length (zbf l)) : Calls Tryz.prog 295 #[v, .int .i64 l.length, clE] W fun e w' => e = .returned (.tuple #[]) ∧ SlV w' 63 2 v l.length (zbf (zaj l)) ∧ Fr (fun k => v.ownBlock = some k) W w' := by
 have HI := zwx (by omega) h
 clear h
 generalize zbf (zaj l) = F at *
 generalize l.length = n at *
 unfold clE at *
 have HI := yyh HI
 go_enter Tryz.func295, Tryz.ntmps295
 have g1 : decide ((20 : Int) ≤ n) = false := by simp; omega
 have g2 : decide ((20 : Int) < n) = false := by simp; omega
 go_wp2_with fail
 refine wp_loop_rounds 1 ?_
 rw [rounds_succ]
 go_wp2_with fail
 refine HI.out.mono ?_
 rintro e w' ⟨rfl, hS, hF⟩
 go_wp2_with fail
 refine wp_loop_rounds 1 ?_
 rw [rounds_succ]
 go_wp2_with fail
 go_end0
 exact ⟨rfl, hS, hF⟩
theorem ziq {l : List En} {d' : Array En} (hP : PermIn 0 l.length l.toArray d') (hs : SortedIn (ltOf zb1) 0 l.length d') : d'.toList = zaj l := by
 have hsz : d'.size = l.length := by rw [hP.1]; simp
 have hperm : d'.toList.Perm l := by
  have h := hP.2.2
  have hx : d'.extract 0 l.length = d' := by rw [← hsz]; exact Array.extract_size
  rw [hx] at h
  simpa using h
 refine (ze6 hperm ?_).symm
 unfold zbh
 rw [List.pairwise_iff_getElem]
 intro i j hi hj hij
 have hi' : i < d'.size := by simpa using hi
 have hj' : j < d'.size := by simpa using hj
 have h := hs i j (Nat.zero_le _) hij (by omega)
 rw [getElem!_pos _ i hi', getElem!_pos _ j hj'] at h
 exact h
theorem zox {W : World} {v : Value} {l : List En} (hl : l.length ≤ NB) (h : SlV W 63 2 v l.length (zbf l)) : Calls Tryz.prog 295 #[v, .int .i64 l.length, clE] W fun e w' => e = .returned (.tuple #[]) ∧ SlV w' 63 2 v l.length (zbf (zaj l)) ∧ Fr (fun k => v.ownBlock = some k) W w' := by
 by_cases h19 : l.length ≤ 19
 · exact zli h19 h
 ·
  rcases h.2 with ⟨rfl, h0⟩ | ⟨b, off, cap, cur, rfl, h1, h2, hg, h3⟩
  · omega
  ·
   unfold NB at hl
   have hH : HoldsK ze2 2 W b off l.toArray := zjw hg h3
   have hR : zcg W b off l.toArray l.toArray W := ⟨⟨fun _ => rfl, fun x v hv => by simp [ze2] at hv; rcases hv with rfl | rfl <;> rfl, hH, zac hg⟩, rfl, SWK.start hH, by simp; omega⟩
   refine (zrl (cap := cap) hR l.length (by simp)).mono ?_
   rintro e w' ⟨rfl, d', hS, hsz, hP, hO⟩
   have hL := ziq hP hO
   obtain ⟨n, os, hw⟩ := hS.S
   have e1 : d' = (zaj l).toArray := by rw [← hL]
   rw [e1] at hw
   subst hw
   exact ⟨rfl, zh2 h (zam l) n os, (ze9 n _ os).mono (fun k hk => by subst hk; rfl)⟩
theorem zir {W : World} {v : Value} {l : List En} (hl : l.length ≤ NB) (h : SlV W 63 2 v l.length (zbf l)) : Calls Tryz.prog 283 #[v, clE] W fun e w' => e = .returned (.tuple #[]) ∧ SlV w' 63 2 v l.length (zbf (zaj l)) ∧ Fr (fun k => v.ownBlock = some k) W w' := by
 have HI := zox hl h
 obtain ⟨a, cap, rfl, -, -, -, -⟩ := h.clip
 clear h
 generalize zbf (zaj l) = F at *
 generalize l.length = n at *
 unfold NB at hl
 unfold clE at *
 have HI := yyh HI
 go_enter Tryz.func283, Tryz.ntmps283
 go_wp2_with fail
 refine HI.out.mono ?_
 rintro e w' ⟨rfl, hS, hF⟩
 go_wp2_with fail
 go_end0
 exact ⟨rfl, hS, hF⟩
def zay (W : World) (v : Value) (l : List En) : Prop := SlV W 63 2 v l.length (zbf l)
theorem zrm {W : World} {v : Value} {l : List En} (hl : l.length ≤ NB) (h : zay W v l) : Calls Tryz.prog 244 #[v] W fun e w' => ∃ v', e = .returned v' ∧ zay w' v' (zaj l) ∧ (∀ c, v'.ownBlock = some c → W.heap.size ≤ c) ∧ Below W.heap.size W w' := by
 unfold zay at *
 have HC := zos (by unfold NB at hl; omega) h (zgx l)
 have HS := fun (w : World) (v : Value) (hw : SlV w 63 2 v l.length (zbf l)) => zir hl hw
 rw [show SlV W 63 2 v = SlV W 63 2 v from rfl] at h
 have hlen : (zaj l).length = l.length := zam l
 rw [hlen]
 clear h hlen
 generalize zbf (zaj l) = G at *
 generalize zbf l = F at *
 generalize l.length = n at *
 unfold clE at HS
 have HC := yyh HC
 have HS := yyh HS
 go_enter Tryz.func244, Tryz.ntmps244
 go_wp2_with fail
 refine HC.out.mono ?_
 rintro e w1 ⟨v1, rfl, hO1, hB1⟩
 go_wp2_with fail
 refine (zh0 (SlV.of_owns hO1)).mono ?_
 rintro e w2 ⟨v2, rfl, hS2, hb2, rfl⟩
 go_wp2_with fail
 refine (HS.out _ _ hS2).mono ?_
 rintro e w3 ⟨rfl, hS3, hF3⟩
 go_wp2_with fail
 go_ret
 have hge : ∀ c, v2.ownBlock = some c → W.heap.size ≤ c := fun c hc => (hO1.lt c (hb2 ▸ hc)).1
 exact ⟨_, rfl, hS3, hge, hF3.below hB1 (fun k hk => hge k hk)⟩
end Go.Proofs.YtcfhkbcllijnkaaGreat
