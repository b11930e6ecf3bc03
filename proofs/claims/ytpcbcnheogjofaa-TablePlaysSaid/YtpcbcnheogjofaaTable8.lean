/- Rows of ops that are handed on: Clone, Clip, whether two are the same. -/
import Derived.Test.YtpcbcnheogjofaaBody2
import Derived.Deep.AppendLies
import Derived.BigQuiet
namespace Go.Proofs.Ytpcbcnheogjofaa
open Go.RowKit Go.Maps Go.Shelf Go.Proofs.YtpcbcnheogjofaaW.PrintWords
set_option linter.unusedVariables false
set_option linter.unusedSimpArgs false

/-- Cell j of a row of ops. -/
def opC (L : List Op3) (j : Nat) : Int := if j % 3 = 0 then (L.getD (j / 3) (0, 0, 0)).1 else if j % 3 = 1 then (L.getD (j / 3) (0, 0, 0)).2.1 else (L.getD (j / 3) (0, 0, 0)).2.2
def encL (L : List Op3) : List Value := (List.range (L.length * 3)).map (fun j => .int .i64 (opC L j))
theorem encL_len (L : List Op3) : (encL L).length = L.length * 3 := by simp [encL]
theorem encL_at (L : List Op3) (j : Nat) (hj : j < L.length * 3) : (encL L)[j]? = some (.int .i64 (opC L j)) := by
  simp [encL, List.getElem?_map, List.getElem?_range hj]
theorem opC_at {L : List Op3} {i : Nat} {k x y : Int} (h : L[i]? = some (k, x, y)) : opC L (i * 3) = k ∧ opC L (i * 3 + 1) = x ∧ opC L (i * 3 + 2) = y := by
  have hd : L.getD i (0, 0, 0) = (k, x, y) := by rw [List.getD_eq_getElem?_getD, h]; rfl
  unfold opC
  rw [if_pos (by omega), if_neg (show ¬ (i * 3 + 1) % 3 = 0 by omega), if_pos (by omega), if_neg (show ¬ (i * 3 + 2) % 3 = 0 by omega), if_neg (by omega), show i * 3 / 3 = i from by omega, show (i * 3 + 1) / 3 = i from by omega, show (i * 3 + 2) / 3 = i from by omega, hd]
  exact ⟨rfl, rfl, rfl⟩
/-- A value that is a row of ops. -/
def OpsV (W : World) (v : Value) (L : List Op3) : Prop :=
  (v = .slice none 0 0 ∧ L = []) ∨ ∃ a cap, v = .slice (some a) L.length cap ∧ L.length ≤ cap ∧ cap ≤ maxLen ∧ (L = [] ∨ ∃ c off, a = ⟨c, off, none⟩ ∧ c < W.heap.size ∧ ∀ j, j < L.length * 3 → W.cell? ⟨c, off + j, none⟩ = some (.int .i64 (opC L j)))
theorem OpsV.form {W : World} {v : Value} {L : List Op3} (h : OpsV W v L) : ∃ A cap, v = .slice A L.length cap ∧ OpsAt W A L := by
  rcases h with ⟨rfl, rfl⟩ | ⟨a, cap, rfl, _, _, h⟩
  · exact ⟨none, 0, rfl, .inl rfl⟩
  · refine ⟨some a, cap, rfl, ?_⟩
    rcases h with h | ⟨c, off, rfl, hc, h⟩
    · exact .inl h
    · refine .inr ⟨c, off, rfl, hc, fun i k x y hi => ?_⟩
      have hlt : i < L.length := (List.getElem?_eq_some_iff.1 hi).1
      obtain ⟨h0, h1, h2⟩ := opC_at hi
      exact ⟨by rw [h (i * 3) (by omega), h0], by rw [Nat.add_assoc, h (i * 3 + 1) (by omega), h1], by rw [Nat.add_assoc, h (i * 3 + 2) (by omega), h2]⟩
theorem OpsV.below {W W' : World} {v : Value} {L : List Op3} (h : OpsV W v L) (hb : Below W.heap.size W W') : OpsV W' v L := by
  rcases h with h | ⟨a, cap, rfl, h1, h2, h⟩
  · exact .inl h
  · refine .inr ⟨a, cap, rfl, h1, h2, ?_⟩
    rcases h with h | ⟨c, off, rfl, hc, h⟩
    · exact .inl h
    · exact .inr ⟨c, off, rfl, Nat.lt_of_lt_of_le hc hb.size, fun j hj => cell_goes hb (h j hj)⟩
theorem OpsV.fr {S : Nat → Prop} {W W' : World} {v : Value} {L : List Op3} (h : OpsV W v L) (f : Fr S W W') (hn : ∀ c, v.ownBlock = some c → ¬ S c) : OpsV W' v L := by
  rcases h with h | ⟨a, cap, rfl, h1, h2, h⟩
  · exact .inl h
  · refine .inr ⟨a, cap, rfl, h1, h2, ?_⟩
    rcases h with h | ⟨c, off, rfl, hc, h⟩
    · exact .inl h
    · exact .inr ⟨c, off, rfl, Nat.lt_of_lt_of_le hc f.size, fun j hj => cellFr f (hn c rfl) (h j hj)⟩
theorem OpsV.frOr {S : Nat → Prop} {W W' : World} {v : Value} {L : List Op3} (h : OpsV W v L) (f : Fr S W W') (hn : L = [] ∨ ∀ c, v.ownBlock = some c → ¬ S c) : OpsV W' v L := by
  rcases hn with rfl | hn
  · rcases h with h | ⟨a, cap, rfl, h1, h2, _⟩
    · exact .inl h
    · exact .inr ⟨a, cap, rfl, h1, h2, .inl rfl⟩
  · exact h.fr f hn
def opZ : Value := .agg #[.int .i64 0, .int .i64 0, .int .i64 0]
theorem opInfo : (Try.prog.info? 135).map (fun i => (i.zero, i.size, i.bytes)) = some (some opZ, 3, 24) := by kernel_rfl
section
variable {W W' : World}
set_option maxRecDepth 100000 in
theorem Clip_any {v : Value} {L : List Op3} (h : OpsV W v L) : Calls Try.prog 93 #[v] W fun e w' => ∃ v', e = .returned v' ∧ OpsV W v' L ∧ v'.ownBlock = v.ownBlock ∧ W = w' := by
  rcases h with ⟨rfl, rfl⟩ | ⟨a, cap, rfl, h1, h2, h⟩
  · exact (ClipOp_nil W).mono (by rintro e w' ⟨rfl, rfl⟩; exact ⟨_, rfl, .inl ⟨rfl, rfl⟩, rfl, rfl⟩)
  · obtain ⟨n, hn⟩ : ∃ n, L.length = n := ⟨_, rfl⟩
    have H := Lib.hid h
    have HN := Lib.hid hn
    have H1 := Lib.hid h1
    rw [hn] at h1 ⊢
    have hm : (n : Int) ≤ 9223372036854775807 := by unfold maxLen at h2; omega
    clear h hn
    go_enter Try.func93, Try.ntmps93
    go_wp2_with fail
    go_ret
    refine ⟨_, rfl, .inr ⟨a, n, by rw [HN.out]; simp, by rw [HN.out]; exact Nat.le_refl _, Nat.le_trans h1 h2, H.out⟩, rfl, rfl⟩
set_option maxRecDepth 100000 in
set_option maxHeartbeats 2000000 in
theorem Clone_any {v : Value} {L : List Op3} (hL : L.length ≤ 1000) (h : OpsV W v L) : Calls Try.prog 94 #[v] W fun e w' => ∃ v', e = .returned v' ∧ OpsV w' v' L ∧ (∀ c, v'.ownBlock = some c → W.heap.size ≤ c ∧ c < w'.heap.size) ∧ Below W.heap.size W w' := by
  rcases h with ⟨rfl, rfl⟩ | ⟨a, cap, rfl, h1, h2, h⟩
  · exact (Clone_nil W).mono (by rintro e w' ⟨rfl, rfl⟩; exact ⟨_, rfl, .inl ⟨rfl, rfl⟩, (fun c hc => by cases hc), Below.refl _ _⟩)
  · have he : ∀ w, (binOp .eql 105 (.slice (some a) L.length cap) (.slice none 0 0)).run Try.prog w = .ok (.bool false) w := fun _ => by kernel_rfl
    have H := Lib.hid h
    clear h
    go_enter Try.func94, Try.ntmps94
    have hown : (W.alloc (.cells #[] 135)).ownsRow W.heap.size 135 3 (.slice (some ⟨W.heap.size, 0, none⟩) 0 0) 0 [] := World.ownsRow_made W #[] 0 (Nat.le_refl _) (by decide) rfl
    have hnews : ∀ j u, (encL L)[j]? = some u → (W.alloc (.cells #[] 135)).cell? (a.add j) = some u := by
      intro j u hu
      have hj : j < L.length * 3 := by rw [← encL_len]; exact (List.getElem?_eq_some_iff.1 hu).1
      rw [encL_at L j hj] at hu
      rcases H.out with h | ⟨c, off, rfl, hc, hcs⟩
      · rw [h] at hj; simp at hj
      · rw [show (⟨c, off, none⟩ : Addr).add j = ⟨c, off + j, none⟩ from by simp [Addr.add], ← hu]
        exact Lib.cell?_alloc_some _ (hcs j hj)
    have hone : ∀ u ∈ encL L, u.oneCell' = true := by
      intro u hu
      simp only [encL, List.mem_map] at hu
      obtain ⟨j, _, rfl⟩ := hu
      rfl
    obtain ⟨i0, hi0, hz0, hz1, hz2⟩ := info_parts opInfo
    have HOWN := Lib.hid hown
    have HNEWS := Lib.hid hnews
    have HONE := Lib.hid hone
    clear hown hnews hone
    go_wp2_with (at_builtin; refine wpList_append_own_at _ rfl (.tmp 5) (.tmp 6) 105 rfl W.heap.size 135 i0 opZ 3 24 Try.underlying105 hi0 hz0 hz1 hz2 rfl (by decide) _ _ _ rfl HOWN.out a L.length cap (encL L) rfl (encL_len L) HNEWS.out HONE.out (by unfold maxLen; omega) (by omega) (by simp) ?_; intro v' w1 hown1 hg1 hnil1 hblk1)
    go_ret
    have hB1 : Below W.heap.size W w1 := by
      refine ⟨hg1.os, hg1.tape, hg1.output, Nat.le_trans (by simp) hg1.size, fun k hk => ?_⟩
      rw [hg1.block k (by simp; omega) (show some k ≠ some W.heap.size from fun e => by injection e with e; omega)]
      exact heap_alloc_old W _ hk
    have hlt : ∀ c, v'.ownBlock = some c → W.heap.size ≤ c ∧ c < w1.heap.size := hown1.lt
    refine ⟨v', rfl, ?_, hlt, hB1⟩
    rw [Nat.zero_add, List.nil_append] at hown1
    rcases hown1.2 with ⟨rfl, h0⟩ | ⟨g, cp, cur, rfl, hg0, hgg, hle, hmx, _⟩
    · exact .inl ⟨rfl, List.eq_nil_of_length_eq_zero h0⟩
    · refine .inr ⟨_, cp, rfl, hle, hmx, .inr ⟨g, 0, rfl, (hlt g rfl).2, fun j hj => ?_⟩⟩
      rw [Nat.zero_add, hown1.cellAt j hj, encL_at L j hj]
end
end Go.Proofs.Ytpcbcnheogjofaa
