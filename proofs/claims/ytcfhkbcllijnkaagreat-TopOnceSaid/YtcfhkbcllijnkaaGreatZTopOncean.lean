/- Parts of the proof of TopOnce, under no condition. -/
import Derived.Test.YtcfhkbcllijnkaaGreatZTopOnceam
import Derived.Sort.Grow
set_option linter.unusedVariables false
set_option linter.unusedSimpArgs false
set_option maxRecDepth 100000
set_option maxHeartbeats 0
namespace Go.Proofs.YtcfhkbcllijnkaaGreat
open Go.RowKit Go.Proofs.YtcfhkbcllijnkaaGreatW.PrintWords
def SlV (W : World) (t : TypeId) (k : Nat) (v : Value) (n : Nat) (F : List Value) : Prop :=
 F.length = n * k ∧ ((v = .slice none 0 0 ∧ n = 0) ∨ ∃ b off cap cur, v = .slice (some ⟨b, off, none⟩) n cap ∧ n ≤ cap ∧ cap ≤ maxLen ∧ W.heap[b]? = some (.cells cur t (0, 0)) ∧ ∀ j, j < n * k → cur[off + j]? = F[j]?)
theorem zac {W : World} {b : Nat} {o : Obj} (h : W.heap[b]? = some o) : b < W.heap.size := (yya.1 h).1
section
variable {W W' : World} {t : TypeId} {k : Nat} {v : Value} {n : Nat} {F : List Value}
theorem SlV.nil (W : World) (t : TypeId) (k : Nat) : SlV W t k (.slice none 0 0) 0 [] := ⟨by simp, .inl ⟨rfl, rfl⟩⟩
theorem SlV.lt (h : SlV W t k v n F) {c : Nat} (hc : v.ownBlock = some c) : c < W.heap.size := by
 rcases h.2 with ⟨rfl, _⟩ | ⟨b, off, cap, cur, rfl, _, _, hb, _⟩
 · cases hc
 · injection hc with hc
   subst hc
   exact zac hb
theorem SlV.keep (h : SlV W t k v n F) (hk : ∀ c o, v.ownBlock = some c → W.heap[c]? = some o → W'.heap[c]? = some o) : SlV W' t k v n F := by
 refine ⟨h.1, ?_⟩
 rcases h.2 with h2 | ⟨b, off, cap, cur, rfl, h1, h2, hb, h3⟩
 · exact .inl h2
 · exact .inr ⟨b, off, cap, cur, rfl, h1, h2, hk b _ rfl hb, h3⟩
theorem SlV.below (h : SlV W t k v n F) (hb : Below W.heap.size W W') : SlV W' t k v n F := h.keep fun c o hc ho => (hb.block c (zac ho)).trans ho
theorem SlV.fr {S : Nat → Prop} (h : SlV W t k v n F) (f : Fr S W W') (hn : ∀ c, v.ownBlock = some c → ¬ S c) : SlV W' t k v n F := h.keep fun c o hc ho => (f.block c (zac ho) (hn c hc)).trans ho
theorem SlV.type (h : SlV W t k v n F) {c : Nat} (hc : v.ownBlock = some c) : ∃ cur, W.heap[c]? = some (.cells cur t (0, 0)) := by
 rcases h.2 with ⟨rfl, _⟩ | ⟨b, off, cap, cur, rfl, _, _, hb, _⟩
 · cases hc
 · injection hc with hc
   subst hc
   exact ⟨cur, hb⟩
theorem SlV.zero (h : SlV W t k v n F) (h0 : n = 0) : F = [] := List.eq_nil_of_length_eq_zero (by rw [h.1, h0]; simp)
theorem SlV.clip (h : SlV W t k v n F) : ∃ a cap, v = .slice a n cap ∧ n ≤ cap ∧ cap ≤ maxLen ∧ (a = none → n = 0 ∧ cap = 0) ∧ SlV W t k (.slice a n n) n F := by
 rcases h.2 with ⟨rfl, rfl⟩ | ⟨b, off, cap, cur, rfl, h1, h2, hb, h3⟩
 · exact ⟨none, 0, rfl, yyn, by unfold maxLen; omega, fun _ => ⟨rfl, rfl⟩, h⟩
 · exact ⟨_, cap, rfl, h1, h2, fun e => (by cases e), h.1, .inr ⟨b, off, n, cur, rfl, yyn, Nat.le_trans h1 h2, hb, h3⟩⟩
theorem SlV.of_owns {base : Nat} (h : W.ownsRow base t k v n F) : SlV W t k v n F := by
 refine ⟨h.1, ?_⟩
 rcases h.2 with h2 | ⟨g, cap, cur, rfl, hb, hg, hle, hmx, hsz, hF⟩
 · exact .inl h2
 · refine .inr ⟨g, 0, cap, cur, rfl, hle, hmx, hg, fun j hj => ?_⟩
   rw [Nat.zero_add, ← hF, List.getElem?_take, if_pos hj, Array.getElem?_toList]
theorem SlV.cell (h : SlV W t k v n F) {b off cap : Nat} (hv : v = .slice (some ⟨b, off, none⟩) n cap) {j : Nat} (hj : j < n * k) {x : Value} (hx : F[j]? = some x) : W.cell? ⟨b, off + j, none⟩ = some x := by
 rcases h.2 with ⟨rfl, _⟩ | ⟨b', off', cap', cur, rfl, h1, h2, hb, h3⟩
 · cases hv
 ·
  injection hv with e1 e2 e3
  injection e1 with e1
  injection e1 with e1 e4
  subst e1 e4
  rw [← hx, ← h3 j hj]
  simp [World.cell?, hb]
theorem SlV.form (h : SlV W t k v n F) : (v = .slice none 0 0 ∧ n = 0 ∧ F = []) ∨ ∃ b off cap, v = .slice (some ⟨b, off, none⟩) n cap ∧ n ≤ cap ∧ cap ≤ maxLen ∧ b < W.heap.size ∧ (∀ j x, F[j]? = some x → W.cell? ⟨b, off + j, none⟩ = some x) := by
 rcases h.2 with ⟨rfl, h0⟩ | ⟨b, off, cap, cur, rfl, h1, h2, hb, h3⟩
 · exact .inl ⟨rfl, h0, h.zero h0⟩
 · refine .inr ⟨b, off, cap, rfl, h1, h2, zac hb, fun j x hx => ?_⟩
   have hj : j < n * k := by rw [← h.1]; exact (yyk.1 hx).1
   exact h.cell rfl hj hx
theorem SlV.part (h : SlV W t k v n F) {b off cap : Nat} (hv : v = .slice (some ⟨b, off, none⟩) n cap) (i m c : Nat) (hm : i + m ≤ n) (hc : m ≤ c) (hc2 : c ≤ maxLen) : SlV W t k (.slice (some ⟨b, off + i * k, none⟩) m c) m ((F.drop (i * k)).take (m * k)) := by
 have hmk : i * k + m * k ≤ n * k := by rw [← Nat.add_mul]; exact Nat.mul_le_mul_right k hm
 refine ⟨by rw [List.length_take, List.length_drop, h.1]; omega, ?_⟩
 rcases h.2 with ⟨rfl, _⟩ | ⟨b', off', cap', cur, rfl, h1, h2, hb, h3⟩
 · cases hv
 ·
  injection hv with e1 e2 e3
  injection e1 with e1
  injection e1 with e1 e4
  subst e1 e4
  refine .inr ⟨_, _, c, cur, rfl, hc, hc2, hb, fun j hj => ?_⟩
  rw [List.getElem?_take, if_pos hj, List.getElem?_drop, ← h3 (i * k + j) (by omega), Nat.add_assoc]
end
def Gr (w w' : World) : Prop := ∃ q os, w' = Go.Sort.grow (w.drewN q) os
theorem Gr.refl (w : World) : Gr w w := ⟨0, #[], by simp [World.drewN]⟩
theorem Gr.al {w w' : World} (h : Gr w w') (o : Obj) : Gr w (w'.alloc o) := by
 obtain ⟨q, os, rfl⟩ := h
 exact ⟨q, os ++ #[o], by rw [Go.Sort.alloc_eq_grow, Go.Sort.grow_grow]⟩
theorem Gr.dr {w w' : World} (h : Gr w w') : Gr w w'.drew := by
 obtain ⟨q, os, rfl⟩ := h
 exact ⟨q + 1, os, rfl⟩
theorem Gr.trans {a b c : World} (h : Gr a b) (k : Gr b c) : Gr a c := by
 obtain ⟨q, os, rfl⟩ := h
 obtain ⟨q', os', rfl⟩ := k
 refine ⟨q + q', os ++ os', ?_⟩
 simp only [Go.Sort.grow, World.drewN, Array.append_assoc]
 rw [Nat.add_assoc]
theorem Gr.below {w w' : World} (h : Gr w w') : Below w.heap.size w w' := by
 obtain ⟨q, os, rfl⟩ := h
 refine ⟨rfl, rfl, rfl, by simp [Go.Sort.grow, World.drewN], fun k hk => ?_⟩
 simp only [Go.Sort.grow, World.drewN]
 rw [Array.getElem?_append_left hk]
end Go.Proofs.YtcfhkbcllijnkaaGreat
namespace Go.Proofs.YtcfhkbcllijnkaaGreat
open Go.RowKit
section
variable {W : World} {v : Value} {n : Nat} {F : List Value}
theorem zh0 (h : SlV W 63 2 v n F) : Calls Tryz.prog 135 #[v] W fun e w' => ∃ v', e = .returned v' ∧ SlV W 63 2 v' n F ∧ v'.ownBlock = v.ownBlock ∧ w' = W := by
 obtain ⟨a, cap, rfl, h1, h2, h3, h4⟩ := h.clip
 have hm : (n : Int) ≤ 9223372036854775807 := by unfold maxLen at h2; omega
 have H4 := yyh h4
 cases a with
 | none =>
  obtain ⟨rfl, rfl⟩ := h3 rfl
  clear h h4
  go_enter Tryz.func135, Tryz.ntmps135
  go_wp2_with fail
  go_ret
  exact ⟨_, rfl, H4.out, rfl, rfl⟩
 | some x =>
  clear h h3 h4
  go_enter Tryz.func135, Tryz.ntmps135
  go_wp2_with fail
  go_ret
  refine ⟨.slice (some x) n n, by simp, H4.out, rfl, rfl⟩
def zEn : Value := .agg #[.int .u64 0, .int .i64 0]
theorem zjr : (Tryz.prog.info? 63).map (fun i => (i.zero, i.size, i.bytes)) = some (some zEn, 2, 16) := by kernel_rfl
theorem zos (hn : n ≤ 100000) (h : SlV W 63 2 v n F) (hone : ∀ u ∈ F, u.oneCell' = true) : Calls Tryz.prog 282 #[v] W fun e w' => ∃ v', e = .returned v' ∧ w'.ownsRow W.heap.size 63 2 v' n F ∧ Below W.heap.size W w' := by
 rcases h.form with ⟨rfl, rfl, rfl⟩ | ⟨b, off, cap, rfl, h1, h2, hb, hc⟩
 ·
  clear h hone
  have he : ∀ w, (binOp .eql 42 (.slice none 0 0) (.slice none 0 0)).run Tryz.prog w = .ok (.bool true) w := fun _ => by kernel_rfl
  go_enter Tryz.func282, Tryz.ntmps282
  go_wp2
  go_ret
  exact ⟨_, rfl, ⟨by simp, .inl ⟨rfl, rfl⟩⟩, yyr⟩
 ·
  have he : ∀ w, (binOp .eql 42 (.slice (some ⟨b, off, none⟩) n cap) (.slice none 0 0)).run Tryz.prog w = .ok (.bool false) w := fun _ => by kernel_rfl
  have hlen := h.1
  clear h
  go_enter Tryz.func282, Tryz.ntmps282
  have hown : (W.alloc (.cells #[] 63)).ownsRow W.heap.size 63 2 (.slice (some ⟨W.heap.size, 0, none⟩) 0 0) 0 [] := World.ownsRow_made W #[] 0 yyn (by decide) rfl
  have hnews : ∀ j u, F[j]? = some u → (W.alloc (.cells #[] 63)).cell? ((⟨b, off, none⟩ : Addr).add j) = some u := by
   intro j u hu
   rw [show (⟨b, off, none⟩ : Addr).add j = ⟨b, off + j, none⟩ from by simp [Addr.add]]
   exact zae (zab yyr _) (hc j u hu)
  obtain ⟨i0, hi0, hz0, hz1, hz2⟩ := info_parts zjr
  have HOWN := yyh hown
  have HNEWS := yyh hnews
  have HONE := yyh hone
  have HLEN := yyh hlen
  clear hown hnews hone hlen hc
  go_wp2_with (at_builtin; refine wpList_append_own_at _ rfl (.tmp 5) (.tmp 6) 42 rfl W.heap.size 63 i0 zEn 2 16 Tryz.underlying42 hi0 hz0 hz1 hz2 rfl (by decide) _ _ _ rfl HOWN.out ⟨b, off, none⟩ n cap F rfl HLEN.out HNEWS.out HONE.out (by unfold maxLen; omega) (by omega) (by simp) ?_; intro v' w1 hown1 hg1 hnil1 hblk1)
  go_ret
  refine ⟨v', rfl, ?_, ⟨hg1.os, hg1.tape, hg1.output, Nat.le_trans (by simp) hg1.size, fun k hk => ?_⟩⟩
  · rw [Nat.zero_add, List.nil_append] at hown1
    exact hown1
  · rw [hg1.block k (by simp; omega) (show some k ≠ some W.heap.size from fun e => by injection e with e; omega)]
    exact heap_alloc_old W _ hk
theorem zwt (h : SlV W 222 2 v n F) : Calls Tryz.prog 292 #[v] W fun e w' => ∃ v', e = .returned v' ∧ SlV W 222 2 v' n F ∧ v'.ownBlock = v.ownBlock ∧ w' = W := by
 obtain ⟨a, cap, rfl, h1, h2, h3, h4⟩ := h.clip
 have hm : (n : Int) ≤ 9223372036854775807 := by unfold maxLen at h2; omega
 have H4 := yyh h4
 cases a with
 | none =>
  obtain ⟨rfl, rfl⟩ := h3 rfl
  clear h h4
  go_enter Tryz.func292, Tryz.ntmps292
  go_wp2_with fail
  go_ret
  exact ⟨_, rfl, H4.out, rfl, rfl⟩
 | some x =>
  clear h h3 h4
  go_enter Tryz.func292, Tryz.ntmps292
  go_wp2_with fail
  go_ret
  refine ⟨.slice (some x) n n, by simp, H4.out, rfl, rfl⟩
def zBl : Value := .agg #[.int .i64 0, .slice none 0 0]
theorem zgw : (Tryz.prog.info? 222).map (fun i => (i.zero, i.size, i.bytes)) = some (some zBl, 2, 32) := by kernel_rfl
theorem zlb (hn : n ≤ 100000) (h : SlV W 222 2 v n F) (hone : ∀ u ∈ F, u.oneCell' = true) : Calls Tryz.prog 229 #[v] W fun e w' => ∃ v', e = .returned v' ∧ w'.ownsRow W.heap.size 222 2 v' n F ∧ Below W.heap.size W w' := by
 rcases h.form with ⟨rfl, rfl, rfl⟩ | ⟨b, off, cap, rfl, h1, h2, hb, hc⟩
 ·
  clear h hone
  have he : ∀ w, (binOp .eql 218 (.slice none 0 0) (.slice none 0 0)).run Tryz.prog w = .ok (.bool true) w := fun _ => by kernel_rfl
  go_enter Tryz.func229, Tryz.ntmps229
  go_wp2
  go_ret
  exact ⟨_, rfl, ⟨by simp, .inl ⟨rfl, rfl⟩⟩, yyr⟩
 ·
  have he : ∀ w, (binOp .eql 218 (.slice (some ⟨b, off, none⟩) n cap) (.slice none 0 0)).run Tryz.prog w = .ok (.bool false) w := fun _ => by kernel_rfl
  have hlen := h.1
  clear h
  go_enter Tryz.func229, Tryz.ntmps229
  have hown : (W.alloc (.cells #[] 222)).ownsRow W.heap.size 222 2 (.slice (some ⟨W.heap.size, 0, none⟩) 0 0) 0 [] := World.ownsRow_made W #[] 0 yyn (by decide) rfl
  have hnews : ∀ j u, F[j]? = some u → (W.alloc (.cells #[] 222)).cell? ((⟨b, off, none⟩ : Addr).add j) = some u := by
   intro j u hu
   rw [show (⟨b, off, none⟩ : Addr).add j = ⟨b, off + j, none⟩ from by simp [Addr.add]]
   exact zae (zab yyr _) (hc j u hu)
  obtain ⟨i0, hi0, hz0, hz1, hz2⟩ := info_parts zgw
  have HOWN := yyh hown
  have HNEWS := yyh hnews
  have HONE := yyh hone
  have HLEN := yyh hlen
  clear hown hnews hone hlen hc
  go_wp2_with (at_builtin; refine wpList_append_own_at _ rfl (.tmp 5) (.tmp 6) 218 rfl W.heap.size 222 i0 zBl 2 32 Tryz.underlying218 hi0 hz0 hz1 hz2 rfl (by decide) _ _ _ rfl HOWN.out ⟨b, off, none⟩ n cap F rfl HLEN.out HNEWS.out HONE.out (by unfold maxLen; omega) (by omega) (by simp) ?_; intro v' w1 hown1 hg1 hnil1 hblk1)
  go_ret
  refine ⟨v', rfl, ?_, ⟨hg1.os, hg1.tape, hg1.output, Nat.le_trans (by simp) hg1.size, fun k hk => ?_⟩⟩
  · rw [Nat.zero_add, List.nil_append] at hown1
    exact hown1
  · rw [hg1.block k (by simp; omega) (show some k ≠ some W.heap.size from fun e => by injection e with e; omega)]
    exact heap_alloc_old W _ hk
theorem zwu (h : SlV W 71 6 v n F) : Calls Tryz.prog 60 #[v] W fun e w' => ∃ v', e = .returned v' ∧ SlV W 71 6 v' n F ∧ v'.ownBlock = v.ownBlock ∧ w' = W := by
 obtain ⟨a, cap, rfl, h1, h2, h3, h4⟩ := h.clip
 have hm : (n : Int) ≤ 9223372036854775807 := by unfold maxLen at h2; omega
 have H4 := yyh h4
 cases a with
 | none =>
  obtain ⟨rfl, rfl⟩ := h3 rfl
  clear h h4
  go_enter Tryz.func60, Tryz.ntmps60
  go_wp2_with fail
  go_ret
  exact ⟨_, rfl, H4.out, rfl, rfl⟩
 | some x =>
  clear h h3 h4
  go_enter Tryz.func60, Tryz.ntmps60
  go_wp2_with fail
  go_ret
  refine ⟨.slice (some x) n n, by simp, H4.out, rfl, rfl⟩
def zEv : Value := .agg #[.int .i64 0, .int .i64 0, .int .i64 0, .int .u64 0, .int .u64 0, .int .u64 0]
theorem zs0 : (Tryz.prog.info? 71).map (fun i => (i.zero, i.size, i.bytes)) = some (some zEv, 6, 48) := by kernel_rfl
theorem zud (hn : n ≤ 100000) (h : SlV W 71 6 v n F) (hone : ∀ u ∈ F, u.oneCell' = true) : Calls Tryz.prog 61 #[v] W fun e w' => ∃ v', e = .returned v' ∧ w'.ownsRow W.heap.size 71 6 v' n F ∧ Below W.heap.size W w' := by
 rcases h.form with ⟨rfl, rfl, rfl⟩ | ⟨b, off, cap, rfl, h1, h2, hb, hc⟩
 ·
  clear h hone
  have he : ∀ w, (binOp .eql 60 (.slice none 0 0) (.slice none 0 0)).run Tryz.prog w = .ok (.bool true) w := fun _ => by kernel_rfl
  go_enter Tryz.func61, Tryz.ntmps61
  go_wp2
  go_ret
  exact ⟨_, rfl, ⟨by simp, .inl ⟨rfl, rfl⟩⟩, yyr⟩
 ·
  have he : ∀ w, (binOp .eql 60 (.slice (some ⟨b, off, none⟩) n cap) (.slice none 0 0)).run Tryz.prog w = .ok (.bool false) w := fun _ => by kernel_rfl
  have hlen := h.1
  clear h
  go_enter Tryz.func61, Tryz.ntmps61
  have hown : (W.alloc (.cells #[] 71)).ownsRow W.heap.size 71 6 (.slice (some ⟨W.heap.size, 0, none⟩) 0 0) 0 [] := World.ownsRow_made W #[] 0 yyn (by decide) rfl
  have hnews : ∀ j u, F[j]? = some u → (W.alloc (.cells #[] 71)).cell? ((⟨b, off, none⟩ : Addr).add j) = some u := by
   intro j u hu
   rw [show (⟨b, off, none⟩ : Addr).add j = ⟨b, off + j, none⟩ from by simp [Addr.add]]
   exact zae (zab yyr _) (hc j u hu)
  obtain ⟨i0, hi0, hz0, hz1, hz2⟩ := info_parts zs0
  have HOWN := yyh hown
  have HNEWS := yyh hnews
  have HONE := yyh hone
  have HLEN := yyh hlen
  clear hown hnews hone hlen hc
  go_wp2_with (at_builtin; refine wpList_append_own_at _ rfl (.tmp 5) (.tmp 6) 60 rfl W.heap.size 71 i0 zEv 6 48 Tryz.underlying60 hi0 hz0 hz1 hz2 rfl (by decide) _ _ _ rfl HOWN.out ⟨b, off, none⟩ n cap F rfl HLEN.out HNEWS.out HONE.out (by unfold maxLen; omega) (by omega) (by simp) ?_; intro v' w1 hown1 hg1 hnil1 hblk1)
  go_ret
  refine ⟨v', rfl, ?_, ⟨hg1.os, hg1.tape, hg1.output, Nat.le_trans (by simp) hg1.size, fun k hk => ?_⟩⟩
  · rw [Nat.zero_add, List.nil_append] at hown1
    exact hown1
  · rw [hg1.block k (by simp; omega) (show some k ≠ some W.heap.size from fun e => by injection e with e; omega)]
    exact heap_alloc_old W _ hk
theorem zfo (h : SlV W 3 1 v n F) : Calls Tryz.prog 79 #[v] W fun e w' => ∃ v', e = .returned v' ∧ SlV W 3 1 v' n F ∧ v'.ownBlock = v.ownBlock ∧ w' = W := by
 obtain ⟨a, cap, rfl, h1, h2, h3, h4⟩ := h.clip
 have hm : (n : Int) ≤ 9223372036854775807 := by unfold maxLen at h2; omega
 have H4 := yyh h4
 cases a with
 | none =>
  obtain ⟨rfl, rfl⟩ := h3 rfl
  clear h h4
  go_enter Tryz.func79, Tryz.ntmps79
  go_wp2_with fail
  go_ret
  exact ⟨_, rfl, H4.out, rfl, rfl⟩
 | some x =>
  clear h h3 h4
  go_enter Tryz.func79, Tryz.ntmps79
  go_wp2_with fail
  go_ret
  refine ⟨.slice (some x) n n, by simp, H4.out, rfl, rfl⟩
def zue : Value := .int .i64 0
theorem zfp : (Tryz.prog.info? 3).map (fun i => (i.zero, i.size, i.bytes)) = some (some zue, 1, 8) := by kernel_rfl
theorem zrc (hn : n ≤ 100000) (h : SlV W 3 1 v n F) (hone : ∀ u ∈ F, u.oneCell' = true) : Calls Tryz.prog 83 #[v] W fun e w' => ∃ v', e = .returned v' ∧ w'.ownsRow W.heap.size 3 1 v' n F ∧ Below W.heap.size W w' := by
 rcases h.form with ⟨rfl, rfl, rfl⟩ | ⟨b, off, cap, rfl, h1, h2, hb, hc⟩
 ·
  clear h hone
  have he : ∀ w, (binOp .eql 33 (.slice none 0 0) (.slice none 0 0)).run Tryz.prog w = .ok (.bool true) w := fun _ => by kernel_rfl
  go_enter Tryz.func83, Tryz.ntmps83
  go_wp2
  go_ret
  exact ⟨_, rfl, ⟨by simp, .inl ⟨rfl, rfl⟩⟩, yyr⟩
 ·
  have he : ∀ w, (binOp .eql 33 (.slice (some ⟨b, off, none⟩) n cap) (.slice none 0 0)).run Tryz.prog w = .ok (.bool false) w := fun _ => by kernel_rfl
  have hlen := h.1
  clear h
  go_enter Tryz.func83, Tryz.ntmps83
  have hown : (W.alloc (.cells #[] 3)).ownsRow W.heap.size 3 1 (.slice (some ⟨W.heap.size, 0, none⟩) 0 0) 0 [] := World.ownsRow_made W #[] 0 yyn (by decide) rfl
  have hnews : ∀ j u, F[j]? = some u → (W.alloc (.cells #[] 3)).cell? ((⟨b, off, none⟩ : Addr).add j) = some u := by
   intro j u hu
   rw [show (⟨b, off, none⟩ : Addr).add j = ⟨b, off + j, none⟩ from by simp [Addr.add]]
   exact zae (zab yyr _) (hc j u hu)
  obtain ⟨i0, hi0, hz0, hz1, hz2⟩ := info_parts zfp
  have HOWN := yyh hown
  have HNEWS := yyh hnews
  have HONE := yyh hone
  have HLEN := yyh hlen
  clear hown hnews hone hlen hc
  go_wp2_with (at_builtin; refine wpList_append_own_at _ rfl (.tmp 5) (.tmp 6) 33 rfl W.heap.size 3 i0 zue 1 8 Tryz.underlying33 hi0 hz0 hz1 hz2 rfl (by decide) _ _ _ rfl HOWN.out ⟨b, off, none⟩ n cap F rfl HLEN.out HNEWS.out HONE.out (by unfold maxLen; omega) (by omega) (by simp) ?_; intro v' w1 hown1 hg1 hnil1 hblk1)
  go_ret
  refine ⟨v', rfl, ?_, ⟨hg1.os, hg1.tape, hg1.output, Nat.le_trans (by simp) hg1.size, fun k hk => ?_⟩⟩
  · rw [Nat.zero_add, List.nil_append] at hown1
    exact hown1
  · rw [hg1.block k (by simp; omega) (show some k ≠ some W.heap.size from fun e => by injection e with e; omega)]
    exact heap_alloc_old W _ hk
theorem zuf (h : SlV W 42 1 v n F) : Calls Tryz.prog 53 #[v] W fun e w' => ∃ v', e = .returned v' ∧ SlV W 42 1 v' n F ∧ v'.ownBlock = v.ownBlock ∧ w' = W := by
 obtain ⟨a, cap, rfl, h1, h2, h3, h4⟩ := h.clip
 have hm : (n : Int) ≤ 9223372036854775807 := by unfold maxLen at h2; omega
 have H4 := yyh h4
 cases a with
 | none =>
  obtain ⟨rfl, rfl⟩ := h3 rfl
  clear h h4
  go_enter Tryz.func53, Tryz.ntmps53
  go_wp2_with fail
  go_ret
  exact ⟨_, rfl, H4.out, rfl, rfl⟩
 | some x =>
  clear h h3 h4
  go_enter Tryz.func53, Tryz.ntmps53
  go_wp2_with fail
  go_ret
  refine ⟨.slice (some x) n n, by simp, H4.out, rfl, rfl⟩
theorem zug (h : SlV W 152 2 v n F) : Calls Tryz.prog 95 #[v] W fun e w' => ∃ v', e = .returned v' ∧ SlV W 152 2 v' n F ∧ v'.ownBlock = v.ownBlock ∧ w' = W := by
 obtain ⟨a, cap, rfl, h1, h2, h3, h4⟩ := h.clip
 have hm : (n : Int) ≤ 9223372036854775807 := by unfold maxLen at h2; omega
 have H4 := yyh h4
 cases a with
 | none =>
  obtain ⟨rfl, rfl⟩ := h3 rfl
  clear h h4
  go_enter Tryz.func95, Tryz.ntmps95
  go_wp2_with fail
  go_ret
  exact ⟨_, rfl, H4.out, rfl, rfl⟩
 | some x =>
  clear h h3 h4
  go_enter Tryz.func95, Tryz.ntmps95
  go_wp2_with fail
  go_ret
  refine ⟨.slice (some x) n n, by simp, H4.out, rfl, rfl⟩
end
theorem zuh (W : World) : Calls Tryz.prog 191 #[.int .u64 0] W fun e w' => e = .returned (.int .i64 0) ∧ W = w' := by
 go_enter Tryz.func191, Tryz.ntmps191
 go_wp2_with fail
 go_ret
 exact ⟨by kernel_rfl, rfl⟩
theorem zui (W : World) : Calls Tryz.prog 191 #[.int .u64 1] W fun e w' => e = .returned (.int .i64 1) ∧ W = w' := by
 go_enter Tryz.func191, Tryz.ntmps191
 go_wp2_with fail
 go_ret
 exact ⟨by kernel_rfl, rfl⟩
theorem zs1 (n : Nat) (hn : n ≤ 1) (W : World) : Calls Tryz.prog 133 #[.int .u64 n] W fun e w' => e = .returned (.int .i64 n) ∧ W = w' := by
 obtain rfl | rfl : n = 0 ∨ n = 1 := by omega
 ·
  have H := yyh (zuh W)
  go_enter Tryz.func133, Tryz.ntmps133
  go_wp2_with fail
  refine H.out.mono ?_
  rintro e w' ⟨rfl, rfl⟩
  go_wp2_with fail
  go_ret
  exact ⟨rfl, rfl⟩
 ·
  have H := yyh (zui W)
  go_enter Tryz.func133, Tryz.ntmps133
  go_wp2_with fail
  refine H.out.mono ?_
  rintro e w' ⟨rfl, rfl⟩
  go_wp2_with fail
  go_ret
  exact ⟨rfl, rfl⟩
theorem zuj (v : Value) (n : Nat) (hn : n ≤ 1) (W : World) : Calls Tryz.prog 181 #[v, .int .i64 0, .int .i64 n] W fun e w' => e = .returned (.tuple #[]) ∧ W = w' := by
 have g : decide ((1 : Int) < (n : Int)) = false := by rw [decide_eq_false_iff_not]; omega
 have g2 : ¬ (1 : Int) < (n : Int) := by omega
 go_enter Tryz.func181, Tryz.ntmps181
 go_wp2_with fail
 refine wp_loop_rounds 1 ?_
 rw [rounds_succ]
 go_wp2_with fail
 go_end0
 exact ⟨rfl, rfl⟩
theorem zuk (v : Value) (n : Nat) (m : Int) (hn : n ≤ 1) (W : World) : Calls Tryz.prog 132 #[v, .int .i64 0, .int .i64 n, .int .i64 m] W fun e w' => e = .returned (.tuple #[]) ∧ W = w' := by
 have HI := yyh (zuj v n hn W)
 have g : wrap64 (n : Int) = n := by unfold wrap64; omega
 have g2 : (n : Int) ≤ 12 := by omega
 go_enter Tryz.func132, Tryz.ntmps132
 go_wp2_with fail
 refine wp_loop_rounds 1 ?_
 rw [rounds_succ]
 go_wp2_with fail
 refine HI.out.mono ?_
 rintro e w' ⟨rfl, rfl⟩
 go_wp2_with fail
 refine bodyPost_ret (results_none rfl _ _ _) rfl ?_
 exact ⟨rfl, rfl⟩
theorem zij {a : Option Addr} {cap : Nat} (n : Nat) (hn : n ≤ 1) (W : World) : Calls Tryz.prog 82 #[.slice a n cap] W fun e w' => e = .returned (.tuple #[]) ∧ W = w' := by
 have HL := yyh (zs1 n hn W)
 have HP := yyh (zuk (.slice a n cap) n n hn W)
 have hu : (n : Int) % 18446744073709551616 = n := by omega
 have g0 : (0 : Int) ≤ (n : Int) := by omega
 go_enter Tryz.func82, Tryz.ntmps82
 go_wp2_with fail
 refine HL.out.mono ?_
 rintro e w' ⟨rfl, rfl⟩
 go_wp2_with fail
 refine HP.out.mono ?_
 rintro e w' ⟨rfl, rfl⟩
 go_wp2_with fail
 go_end0
 exact ⟨rfl, rfl⟩
end Go.Proofs.YtcfhkbcllijnkaaGreat
