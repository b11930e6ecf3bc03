/- Contract of grid.Ahead. -/
import Derived.Test.YtpcbcnheogjofaaGridTick
import Derived.Test.YtpcbcnheogjofaaWWords
import Derived.Deep.DeepCutAuto
import Derived.Deep.LoopGhost
namespace Go.Proofs.Ytpcbcnheogjofaa
open Go.RowKit Go.Proofs.YtpcbcnheogjofaaW.PrintWords
set_option linter.unusedVariables false
set_option linter.unusedSimpArgs false

def ahL (f p : Int) : Nat → Int → List Int
  | 0, _ => []
  | k + 1, now => if gB f p now then gN f p now :: ahL f p k (gN f p now) else []
def ahM (n : Int) : Nat := (min (max n 0) 100).toNat
set_option maxRecDepth 100000 in
theorem Clip_nil (w : World) : Calls Try.prog 80 #[.slice none 0 0] w fun e w' => e = .returned (.slice none 0 0) ∧ w = w' := by
  go_enter Try.func80, Try.ntmps80
  go_wp2
  go_ret
  exact ⟨rfl, rfl⟩
set_option maxRecDepth 100000 in
theorem Clip_row (g n c : Nat) (h : n ≤ c) (hc : c ≤ 9223372036854775807) (w : World) : Calls Try.prog 80 #[.slice (some ⟨g, 0, none⟩) n c] w fun e w' => e = .returned (.slice (some ⟨g, 0, none⟩) n n) ∧ w = w' := by
  go_enter Try.func80, Try.ntmps80
  go_wp2
  go_ret
  exact ⟨rfl, rfl⟩
theorem ahL_len (f p : Int) (k : Nat) (now : Int) : (ahL f p k now).length ≤ k := by
  induction k generalizing now with
  | zero => simp [ahL]
  | succ k ih =>
    simp only [ahL]
    split
    · have := ih (gN f p now)
      simp only [List.length_cons]
      omega
    · simp
theorem own_cases {W : World} {b n : Nat} {e : TypeId} {k : IntKind} {v : Value} {xs : List Int} (h : W.ownsRow b e 1 v n (nums k xs)) : (v = .slice none 0 0 ∧ n = 0 ∧ ReadsInt W k none 0 xs) ∨ ∃ g c, v = .slice (some ⟨g, 0, none⟩) n c ∧ n ≤ c ∧ c ≤ 9223372036854775807 ∧ ReadsInt W k (some ⟨g, 0, none⟩) n xs := by
  obtain ⟨A, c, hv, hr⟩ := own_reads h
  rcases h.2 with ⟨h1, h2⟩ | ⟨g, cap, cur, h1, h2, h3, h4, h5, h6⟩
  · subst h2
    rw [h1] at hv
    injection hv with e1 e2 e3
    subst e1
    exact .inl ⟨h1, rfl, hr⟩
  · rw [h1] at hv
    injection hv with e1 e2 e3
    subst e1
    refine .inr ⟨g, cap, h1, ?_, ?_, hr⟩
    · omega
    · unfold maxLen at h5; omega
theorem below_of {b : Nat} {w W0 wr : World} (h : Below (b + 1) W0 wr) (h0 : Below b w W0) : Below b w wr :=
  ⟨h.os.trans h0.os, h.tape.trans h0.tape, h.output.trans h0.output, Nat.le_trans h0.size h.size, fun k hk => (h.block k (by omega)).trans (h0.block k hk)⟩
set_option maxRecDepth 100000 in
set_option maxHeartbeats 4000000 in
theorem Ahead_any (f p d r m now n : Int) (f0 : 0 ≤ f) (f1 : f ≤ top) (p0 : 0 ≤ p) (p1 : p ≤ top) (x0 : 0 ≤ now) (x1 : now ≤ top) (w : World) : Calls Try.prog 42 #[.agg #[.int .u64 f, .int .u64 p, .int .u64 d, .int .u64 r, .int .u64 m], .int .u64 now, .int .i64 n] w fun e w' => ∃ A c, e = .returned (.slice A (ahL f p (ahM n) now).length c) ∧ ReadsInt w' .u64 A (ahL f p (ahM n) now).length (ahL f p (ahM n) now) ∧ Below w.heap.size w w' := by
  obtain ⟨M, hM, hM1⟩ : ∃ M : Nat, ((n ≤ 0 ∧ M = 0) ∨ (0 < n ∧ n < 100 ∧ (M : Int) = n) ∨ (100 ≤ n ∧ M = 100)) ∧ ahM n = M := by
    refine ⟨ahM n, ?_, rfl⟩
    unfold ahM
    omega
  rw [hM1]
  have hM2 : M ≤ 100 := by omega
  obtain ⟨L, hL⟩ : ∃ L, ahL f p M now = L := ⟨_, rfl⟩
  rw [hL]
  have HL := Lib.hid hL
  clear hL hM1
  go_enter Try.func42, Try.ntmps42
  go_upto_region 2 with fail
  go_cut [12, 13] (fun v12 v13 wx => v12 = .int .i64 M ∧ v13 = .int .i64 0 ∧ w.alloc (.cells #[.int .u64 f, .int .u64 p, .int .u64 d, .int .u64 r, .int .u64 m] 57) = wx)
  case first =>
    rcases hM with ⟨h, rfl⟩ | ⟨h, h', h''⟩ | ⟨h, rfl⟩
    all_goals go_wp2_with fail
    all_goals (go_meet; exact ⟨by first | rfl | (rw [h'']) | (simp; omega), rfl, rfl⟩)
  case rest =>
  obtain ⟨rfl, rfl, rfl⟩ := hcut
  clear hM
  obtain ⟨W0, hW0⟩ : ∃ W0, w.alloc (.cells #[.int .u64 f, .int .u64 p, .int .u64 d, .int .u64 r, .int .u64 m] 57) = W0 := ⟨_, rfl⟩
  have hJ0 : W0.heap[w.heap.size]? = some (.cells #[.int .u64 f, .int .u64 p, .int .u64 d, .int .u64 r, .int .u64 m] 57) := by rw [← hW0]; exact heap_alloc_new w _
  have hB0 : Below w.heap.size w W0 := by rw [← hW0]; exact below_al (Below.refl _ _) _
  have hS0 : w.heap.size + 1 ≤ W0.heap.size := by rw [← hW0]; simp
  rw [hW0]
  clear hW0
  generalize hb : w.heap.size = b at *
  go_wp2_with fail
  go_loopg [1, 7, 8, 9, 13] M (fun g v1 v7 _ _ v13 wr => ∃ (i : Nat) (ws : List Int) (x : Int), g = M - i ∧ i ≤ M ∧ v13 = .int .i64 i ∧ v1 = .int .u64 x ∧ 0 ≤ x ∧ x ≤ top ∧ ws.length = i ∧ wr.ownsRow (b + 1) 29 1 v7 ws.length (nums .u64 ws) ∧ ws ++ ahL f p (M - i) x = L ∧ Below (b + 1) W0 wr)
  case atStart => exact ⟨0, [], now, rfl, by omega, rfl, rfl, x0, x1, rfl, own_nil _ _ _ _, by simpa using HL.out, ⟨rfl, rfl, rfl, Nat.le_refl _, fun _ _ => rfl⟩⟩
  case round =>
    obtain ⟨i, ws, x, rfl, hi, rfl, rfl, y0, y1, hws, hown, hsum, hB⟩ := hrel
    have hJ : wr.heap[b]? = some (.cells #[.int .u64 f, .int .u64 p, .int .u64 d, .int .u64 r, .int .u64 m] 57) := (hB.block b (by omega)).trans hJ0
    have c0 : wr.cell? ⟨b, 0, none⟩ = some (.int .u64 f) := by simp [World.cell?, hJ]
    have c1 : wr.cell? ⟨b, 1, none⟩ = some (.int .u64 p) := by simp [World.cell?, hJ]
    have HO := Lib.hid hown
    have HS := Lib.hid hsum
    clear hown hsum hJ
    by_cases hlt : i < M
    · have hstep : ahL f p (M - i) x = if gB f p x then gN f p x :: ahL f p (M - (i + 1)) (gN f p x) else [] := by
        rw [show M - i = (M - (i + 1)) + 1 from by omega]
        rfl
      obtain ⟨z0, z1⟩ := gN_bd f p x f0 p0 y0
      have HT := Lib.hid hstep
      clear hstep
      cases hg : gB f p x
      · go_wp2_with fail
        refine (grid_any f p x f0 f1 p0 p1 y0 y1 _).mono ?_
        rintro e w2 ⟨rfl, rfl⟩
        rw [hg]
        go_wp2_with fail
        have hLw : ws = L := by have := HS.out; rw [HT.out, hg] at this; simpa using this
        rcases own_cases HO.out with ⟨rfl, hn, hr⟩ | ⟨gg, cc, rfl, hn, hcm, hr⟩
        · rw [hLw] at hn hr
          refine (Clip_nil _).mono ?_
          rintro e w2 ⟨rfl, rfl⟩
          go_wp2_with fail
          go_ret
          refine ⟨none, 0, by rw [hn]; rfl, by rw [hn]; exact hr, ?_⟩
          rw [hb]; exact below_of hB hB0
        · rw [hLw] at hn hr ⊢
          refine (Clip_row gg _ cc hn hcm _).mono ?_
          rintro e w2 ⟨rfl, rfl⟩
          go_wp2_with fail
          go_ret
          exact ⟨_, _, rfl, hr, by rw [hb]; exact below_of hB hB0⟩
      · go_wp2_with fail
        refine (grid_any f p x f0 f1 p0 p1 y0 y1 _).mono ?_
        rintro e w2 ⟨rfl, rfl⟩
        rw [hg]
        generalize hG : gN f p x = G at *
        go_wp2_with (first | (at_builtin; refine print_append_num (P := Try.prog) (w0 := W0) (b + 1) rfl (.tmp 26) (.tmp 28) 27 29 .u64 8 rfl Try.underlying27 (by kernel_rfl) (by decide) _ ws G rfl rfl HO.out hB (Nat.le_trans hS0 hB.size) (by omega) ?_; intro v1 w1 hown1 hB1 hg1 hat1))
        go_roundg (M - (i + 1))
        case measure => omega
        case rel => exact ⟨i + 1, ws ++ [G], G, rfl, by omega, by go_num, rfl, z0, z1, by simp; omega, hown1, by have := HS.out; rw [HT.out, if_pos hg] at this; simpa using this, hB1⟩
    · obtain rfl : i = M := by omega
      go_wp2_with fail
      have hLw : ws = L := by have := HS.out; rw [Nat.sub_self] at this; simpa [ahL] using this
      rcases own_cases HO.out with ⟨rfl, hn, hr⟩ | ⟨gg, cc, rfl, hn, hcm, hr⟩
      · rw [hLw] at hn hr
        refine (Clip_nil _).mono ?_
        rintro e w2 ⟨rfl, rfl⟩
        go_wp2_with fail
        go_ret
        refine ⟨none, 0, by rw [hn]; rfl, by rw [hn]; exact hr, ?_⟩
        rw [hb]; exact below_of hB hB0
      · rw [hLw] at hn hr ⊢
        refine (Clip_row gg _ cc hn hcm _).mono ?_
        rintro e w2 ⟨rfl, rfl⟩
        go_wp2_with fail
        go_ret
        exact ⟨_, _, rfl, hr, by rw [hb]; exact below_of hB hB0⟩
end Go.Proofs.Ytpcbcnheogjofaa
