/- Parts of the proof of TopOnce, under no condition. -/
import Derived.Test.YtcfhkbcllijnkaaGreatZTopOncebe
import Derived.Shelf.Abstract
set_option linter.unusedVariables false
set_option linter.unusedSimpArgs false
set_option maxRecDepth 100000
set_option maxHeartbeats 0
namespace Go.Proofs.YtcfhkbcllijnkaaGreat
open Go.RowKit Go.Maps Go.Shelf Go.Proofs.YtcfhkbcllijnkaaGreatW.PrintWords
section
variable {W W' : World}
theorem zu8 (k x y : Int) {mb c : Nat} (hc : W.cell? ⟨c, 0, none⟩ = some (.map (some mb))) (hM : zdo W mb zho) : Calls Tryz.prog 117 #[.agg #[.int .i64 k, .int .i64 x, .int .i64 y], .pointer (some ⟨c, 0, none⟩)] W fun e w' => e = .returned (.bool (!okOp k x y)) ∧ Below W.heap.size W w' := by
 obtain ⟨W1, hW1⟩ := yye (W.alloc (.cells #[.int .i64 k, .int .i64 x, .int .i64 y] 68))
 have hB1 : Below W.heap.size W W1 := by rw [← hW1]; exact zab yyr _
 have hP1 : W1.heap[W.heap.size]? = some (.cells #[.int .i64 k, .int .i64 x, .int .i64 y] 68 (0, 0)) := by rw [← hW1]; exact heap_alloc_new W _
 obtain ⟨bx, hbx⟩ := yye (W.heap.size)
 rw [hbx] at hP1
 obtain ⟨c0, c1, c2⟩ : W1.cell? ⟨bx, 0, none⟩ = some (.int .i64 k) ∧ W1.cell? ⟨bx, 1, none⟩ = some (.int .i64 x) ∧ W1.cell? ⟨bx, 2, none⟩ = some (.int .i64 y) := by
  refine ⟨?_, ?_, ?_⟩ <;> simp [World.cell?, hP1]
 have d0 := zae hB1 hc
 have HF := yyh (zrs k x y (zdo.below hM hB1))
 have HB := yyh hB1
 clear hB1 hP1 hM hc
 go_enter Tryz.func117, Tryz.ntmps117
 go_wp2_with fail
 refine HF.out.mono ?_
 rintro e w' ⟨rfl, hB⟩
 go_wp2_with fail
 go_ret
 exact ⟨rfl, zad hB HB.out⟩
theorem zu9 (A : Option Addr) (cap : Nat) (L : List Op3) (hL : L.length ≤ 1000) (hO : zj9 W A L) {mb c : Nat} (hc : W.cell? ⟨c, 0, none⟩ = some (.map (some mb))) (hM : zdo W mb zho) :
 Calls Tryz.prog 166 #[.slice A L.length cap, .func (Fn.func 117) #[] #[.pointer (some ⟨c, 0, none⟩)]] W fun e w' => (∃ r : Int, e = .returned (.int .i64 r) ∧ decide (r ≥ 0) = !okL L) ∧ Below W.heap.size W w' := by
 have eg : ∀ args w, (callFunc 117 args).run Tryz.prog w = .ok (.enter 117 args) w := enters_of Tryz.func117 (by kernel_rfl) rfl
 obtain ⟨n, hn⟩ := yye (L.length)
 have HN := yyh hn
 have HO := yyh hO
 have HC := yyh hc
 have HM := yyh hM
 rw [hn] at hL ⊢
 clear hO hc hM hn
 go_enter Tryz.func166, Tryz.ntmps166
 go_wp2_with fail
 go_loopg [5, 8] n (fun gg v5 v8 wr => ∃ i : Nat, gg = n - i ∧ i ≤ n ∧ v8 = .int .i64 i ∧ okL (L.take i) = true ∧ Below W.heap.size W wr)
 case atStart => exact ⟨0, by omega, by omega, rfl, rfl, yyr⟩
 case round =>
  obtain ⟨i, rfl, hi, rfl, hok, hB⟩ := hrel
  by_cases hlt : i < n
  ·
   have hg : L[i]? = some (L[i]'(by rw [HN.out]; exact hlt)) := yyg _
   obtain ⟨⟨k, x, y⟩, ho⟩ : ∃ o, L[i]'(by rw [HN.out]; exact hlt) = o := ⟨_, rfl⟩
   rw [ho] at hg
   have htk : okL (L.take (i + 1)) = (okL (L.take i) && okOp k x y) := by
    unfold okL
    rw [List.take_add_one, List.all_append, hg]
    simp
   rcases HO.out with h0 | ⟨b, off, rfl, hlt', hcs⟩
   · exfalso; rw [h0] at hg; simp at hg
   obtain ⟨x0, x1, x2⟩ := hcs i k x y hg
   have c0 := zbr hB hlt' x0
   have c1 := zbr hB hlt' x1
   have c2 := zbr hB hlt' x2
   have hcc := zae hB HC.out
   have hMM := zdo.below HM.out hB
   have HNF := yyh (zu8 k x y hcc hMM)
   have HTK := yyh htk
   have HOK := yyh hok
   have HG := yyh hg
   clear hcs x0 x1 x2 hcc hMM htk hok hg ho
   go_wp2_with fail
   refine HNF.out.mono ?_
   rintro e w2 ⟨rfl, hB2⟩
   cases hk : okOp k x y with
   | false =>
    have HK := yyh hk
    clear hk
    go_wp2_with fail
    go_ret
    refine ⟨⟨i, rfl, ?_⟩, zad hB2 hB⟩
    have : okL L = false := by
     unfold okL
     rw [List.all_eq_false]
     exact ⟨(k, x, y), List.mem_of_getElem? HG.out, by simp [HK.out]⟩
    rw [this]
    simp
   | true =>
    have hst : okL (L.take (i + 1)) = true := by rw [HTK.out, HOK.out, hk]; rfl
    have HST := yyh hst
    clear hk hst
    go_wp2_with fail
    go_roundg (n - (i + 1))
    case measure => omega
    case rel => exact ⟨i + 1, rfl, by omega, by go_num, HST.out, zad hB2 hB⟩
  ·
   obtain rfl : i = n := by omega
   have hall : okL L = true := by rw [← HN.out, List.take_length] at hok; exact hok
   have HALL := yyh hall
   clear hall hok
   go_wp2_with fail
   go_ret
   refine ⟨⟨-1, rfl, ?_⟩, hB⟩
   rw [HALL.out]
   rfl
theorem zll (A : Option Addr) (cap : Nat) (L : List Op3) (hL : L.length ≤ 1000) (hO : zj9 W A L) {mb c : Nat} (hc : W.cell? ⟨c, 0, none⟩ = some (.map (some mb))) (hM : zdo W mb zho) :
 Calls Tryz.prog 116 #[.slice A L.length cap, .func (Fn.func 117) #[] #[.pointer (some ⟨c, 0, none⟩)]] W fun e w' => e = .returned (.bool (!okL L)) ∧ Below W.heap.size W w' := by
 have HI := yyh (zu9 A cap L hL hO hc hM)
 clear hO hc hM
 go_enter Tryz.func116, Tryz.ntmps116
 go_wp2_with fail
 refine HI.out.mono ?_
 rintro e w1 ⟨⟨r, rfl, hr⟩, hB⟩
 have hr2 : decide (0 ≤ r) = !okL L := hr
 go_wp2_with fail
 go_ret
 exact ⟨rfl, hB⟩
theorem zh6 (A : Option Addr) (cap : Nat) (L : List Op3) (hL : L.length ≤ 1000) (hO : zj9 W A L) : Calls Tryz.prog 67 #[.slice A L.length cap] W fun e w' => e = .returned (.bool (bodyB L)) ∧ Below W.heap.size W w' := by
 have HO := yyh hO
 clear hO
 go_enter Tryz.func67, Tryz.ntmps67
 go_wp2_with fail
 refine (zon _).mono ?_
 rintro e w1 ⟨es, clock, rfl, rfl, hE⟩
 go_upto_region 2 with fail
 obtain ⟨W2, hW2⟩ : ∃ W2, ((W.alloc (.map es clock)).alloc (.cells #[.map (some W.heap.size)] 192)).drew = W2 := ⟨_, rfl⟩
 have hB2 : Below W.heap.size W W2 := by rw [← hW2]; exact zaf (zab (zab yyr _) _)
 have hM2 : zdo W2 W.heap.size zho := by
  refine ⟨es, clock, ?_, hE⟩
  rw [← hW2]
  exact zan (heap_alloc_new W _)
 have hc2 : W2.cell? ⟨W.heap.size + 1, 0, none⟩ = some (.map (some W.heap.size)) := by
  have : W2.heap[W.heap.size + 1]? = some (.cells #[.map (some W.heap.size)] 192 (0, 0)) := by
   rw [← hW2]
   show ((W.alloc (.map es clock)).alloc (.cells #[.map (some W.heap.size)] 192)).heap[W.heap.size + 1]? = _
   rw [show W.heap.size + 1 = (W.alloc (.map es clock)).heap.size from by simp]
   exact heap_alloc_new _ _
  simp [World.cell?, this]
 rw [hW2]
 have HCB := yyh (zll A cap L hL (HO.out.below hB2) hc2 hM2)
 have HB := yyh hB2
 clear hW2 hE hM2 hc2 hB2
 by_cases h16 : L.length ≤ 16
 ·
  go_wp2_with fail
  refine HCB.out.mono ?_
  rintro e w3 ⟨rfl, hB3⟩
  go_wp2_with fail
  go_ret
  exact ⟨by simp [bodyB, h16], zad hB3 HB.out⟩
 ·
  have g16 : decide (L.length ≤ 16) = false := by simpa using h16
  go_wp2_with fail
  go_ret
  exact ⟨by simp [bodyB, h16], HB.out⟩
end
def opC (L : List Op3) (j : Nat) : Int := if j % 3 = 0 then (L.getD (j / 3) (0, 0, 0)).1 else if j % 3 = 1 then (L.getD (j / 3) (0, 0, 0)).2.1 else (L.getD (j / 3) (0, 0, 0)).2.2
def zs9 (L : List Op3) : List Value := (List.range (L.length * 3)).map (fun j => .int .i64 (opC L j))
theorem zmm (L : List Op3) : (zs9 L).length = L.length * 3 := by simp [zs9]
theorem zo6 (L : List Op3) (j : Nat) (hj : j < L.length * 3) : (zs9 L)[j]? = some (.int .i64 (opC L j)) := by
 simp [zs9, List.getElem?_map, List.getElem?_range hj]
theorem zxm {L : List Op3} {i : Nat} {k x y : Int} (h : L[i]? = some (k, x, y)) : opC L (i * 3) = k ∧ opC L (i * 3 + 1) = x ∧ opC L (i * 3 + 2) = y := by
 have hd : L.getD i (0, 0, 0) = (k, x, y) := by rw [yyd, h]; rfl
 unfold opC
 rw [if_pos (by omega), if_neg (show ¬ (i * 3 + 1) % 3 = 0 by omega), if_pos (by omega), if_neg (show ¬ (i * 3 + 2) % 3 = 0 by omega), if_neg (by omega), show i * 3 / 3 = i from by omega, show (i * 3 + 1) / 3 = i from by omega, show (i * 3 + 2) / 3 = i from by omega, hd]
 exact ⟨rfl, rfl, rfl⟩
def zd4 (W : World) (v : Value) (L : List Op3) : Prop :=
 (v = .slice none 0 0 ∧ L = []) ∨ ∃ a cap, v = .slice (some a) L.length cap ∧ L.length ≤ cap ∧ cap ≤ maxLen ∧ (L = [] ∨ ∃ c off, a = ⟨c, off, none⟩ ∧ c < W.heap.size ∧ ∀ j, j < L.length * 3 → W.cell? ⟨c, off + j, none⟩ = some (.int .i64 (opC L j)))
theorem zd4.form {W : World} {v : Value} {L : List Op3} (h : zd4 W v L) : ∃ A cap, v = .slice A L.length cap ∧ zj9 W A L := by
 rcases h with ⟨rfl, rfl⟩ | ⟨a, cap, rfl, _, _, h⟩
 · exact ⟨none, 0, rfl, .inl rfl⟩
 ·
  refine ⟨some a, cap, rfl, ?_⟩
  rcases h with h | ⟨c, off, rfl, hc, h⟩
  · exact .inl h
  ·
   refine .inr ⟨c, off, rfl, hc, fun i k x y hi => ?_⟩
   have hlt : i < L.length := (yyk.1 hi).1
   obtain ⟨h0, h1, h2⟩ := zxm hi
   exact ⟨by rw [h (i * 3) (by omega), h0], by rw [Nat.add_assoc, h (i * 3 + 1) (by omega), h1], by rw [Nat.add_assoc, h (i * 3 + 2) (by omega), h2]⟩
theorem zd4.below {W W' : World} {v : Value} {L : List Op3} (h : zd4 W v L) (hb : Below W.heap.size W W') : zd4 W' v L := by
 rcases h with h | ⟨a, cap, rfl, h1, h2, h⟩
 · exact .inl h
 ·
  refine .inr ⟨a, cap, rfl, h1, h2, ?_⟩
  rcases h with h | ⟨c, off, rfl, hc, h⟩
  · exact .inl h
  · exact .inr ⟨c, off, rfl, Nat.lt_of_lt_of_le hc hb.size, fun j hj => zae hb (h j hj)⟩
theorem zd4.fr {S : Nat → Prop} {W W' : World} {v : Value} {L : List Op3} (h : zd4 W v L) (f : Fr S W W') (hn : ∀ c, v.ownBlock = some c → ¬ S c) : zd4 W' v L := by
 rcases h with h | ⟨a, cap, rfl, h1, h2, h⟩
 · exact .inl h
 ·
  refine .inr ⟨a, cap, rfl, h1, h2, ?_⟩
  rcases h with h | ⟨c, off, rfl, hc, h⟩
  · exact .inl h
  · exact .inr ⟨c, off, rfl, Nat.lt_of_lt_of_le hc f.size, fun j hj => zg0 f (hn c rfl) (h j hj)⟩
theorem zd4.frOr {S : Nat → Prop} {W W' : World} {v : Value} {L : List Op3} (h : zd4 W v L) (f : Fr S W W') (hn : L = [] ∨ ∀ c, v.ownBlock = some c → ¬ S c) : zd4 W' v L := by
 rcases hn with rfl | hn
 · rcases h with h | ⟨a, cap, rfl, h1, h2, _⟩
   · exact .inl h
   · exact .inr ⟨a, cap, rfl, h1, h2, .inl rfl⟩
 · exact h.fr f hn
def opZ : Value := .agg #[.int .i64 0, .int .i64 0, .int .i64 0]
theorem zxn : (Tryz.prog.info? 68).map (fun i => (i.zero, i.size, i.bytes)) = some (some opZ, 3, 24) := by kernel_rfl
section
variable {W W' : World}
theorem zge {v : Value} {L : List Op3} (h : zd4 W v L) : Calls Tryz.prog 123 #[v] W fun e w' => ∃ v', e = .returned v' ∧ zd4 W v' L ∧ v'.ownBlock = v.ownBlock ∧ W = w' := by
 rcases h with ⟨rfl, rfl⟩ | ⟨a, cap, rfl, h1, h2, h⟩
 · exact (znn W).mono (by rintro e w' ⟨rfl, rfl⟩; exact ⟨_, rfl, .inl ⟨rfl, rfl⟩, rfl, rfl⟩)
 ·
  obtain ⟨n, hn⟩ := yye (L.length)
  have H := yyh h
  have HN := yyh hn
  have H1 := yyh h1
  rw [hn] at h1 ⊢
  have hm : (n : Int) ≤ 9223372036854775807 := by unfold maxLen at h2; omega
  clear h hn
  go_enter Tryz.func123, Tryz.ntmps123
  go_wp2_with fail
  go_ret
  refine ⟨_, rfl, .inr ⟨a, n, by rw [HN.out]; simp, by rw [HN.out]; exact yyn, Nat.le_trans h1 h2, H.out⟩, rfl, rfl⟩
theorem zg6 {v : Value} {L : List Op3} (hL : L.length ≤ 1000) (h : zd4 W v L) : Calls Tryz.prog 124 #[v] W fun e w' => ∃ v', e = .returned v' ∧ zd4 w' v' L ∧ (∀ c, v'.ownBlock = some c → W.heap.size ≤ c ∧ c < w'.heap.size) ∧ Below W.heap.size W w' := by
 rcases h with ⟨rfl, rfl⟩ | ⟨a, cap, rfl, h1, h2, h⟩
 · exact (zoz W).mono (by rintro e w' ⟨rfl, rfl⟩; exact ⟨_, rfl, .inl ⟨rfl, rfl⟩, (fun c hc => by cases hc), yyr⟩)
 ·
  have he : ∀ w, (binOp .eql 51 (.slice (some a) L.length cap) (.slice none 0 0)).run Tryz.prog w = .ok (.bool false) w := fun _ => by kernel_rfl
  have H := yyh h
  clear h
  go_enter Tryz.func124, Tryz.ntmps124
  have hown : (W.alloc (.cells #[] 68)).ownsRow W.heap.size 68 3 (.slice (some ⟨W.heap.size, 0, none⟩) 0 0) 0 [] := World.ownsRow_made W #[] 0 yyn (by decide) rfl
  have hnews : ∀ j u, (zs9 L)[j]? = some u → (W.alloc (.cells #[] 68)).cell? (a.add j) = some u := by
   intro j u hu
   have hj : j < L.length * 3 := by rw [← zmm]; exact (yyk.1 hu).1
   rw [zo6 L j hj] at hu
   rcases H.out with h | ⟨c, off, rfl, hc, hcs⟩
   · rw [h] at hj; simp at hj
   · rw [show (⟨c, off, none⟩ : Addr).add j = ⟨c, off + j, none⟩ from by simp [Addr.add], ← hu]
     exact Lib.cell?_alloc_some _ (hcs j hj)
  have hone : ∀ u ∈ zs9 L, u.oneCell' = true := by
   intro u hu
   simp only [zs9, List.mem_map] at hu
   obtain ⟨j, _, rfl⟩ := hu
   rfl
  obtain ⟨i0, hi0, hz0, hz1, hz2⟩ := info_parts zxn
  have HOWN := yyh hown
  have HNEWS := yyh hnews
  have HONE := yyh hone
  clear hown hnews hone
  go_wp2_with (at_builtin; refine wpList_append_own_at _ rfl (.tmp 5) (.tmp 6) 51 rfl W.heap.size 68 i0 opZ 3 24 Tryz.underlying51 hi0 hz0 hz1 hz2 rfl (by decide) _ _ _ rfl HOWN.out a L.length cap (zs9 L) rfl (zmm L) HNEWS.out HONE.out (by unfold maxLen; omega) (by omega) (by simp) ?_; intro v' w1 hown1 hg1 hnil1 hblk1)
  go_ret
  have hB1 : Below W.heap.size W w1 := by
   refine ⟨hg1.os, hg1.tape, hg1.output, Nat.le_trans (by simp) hg1.size, fun k hk => ?_⟩
   rw [hg1.block k (by simp; omega) (show some k ≠ some W.heap.size from fun e => by injection e with e; omega)]
   exact heap_alloc_old W _ hk
  have hlt : ∀ c, v'.ownBlock = some c → W.heap.size ≤ c ∧ c < w1.heap.size := hown1.lt
  refine ⟨v', rfl, ?_, hlt, hB1⟩
  rw [Nat.zero_add, List.nil_append] at hown1
  rcases hown1.2 with ⟨rfl, h0⟩ | ⟨g, cp, cur, rfl, hg0, hgg, hle, hmx, _⟩
  · exact .inl ⟨rfl, List.eq_nil_of_length_eq_zero h0⟩
  · refine .inr ⟨_, cp, rfl, hle, hmx, .inr ⟨g, 0, rfl, (hlt g rfl).2, fun j hj => ?_⟩⟩
    rw [Nat.zero_add, hown1.cellAt j hj, zo6 L j hj]
end
section
variable {W W' : World} {t a b g mb : Nat} {ws : List Int} {B : Int} {rv : Value} {n : Nat} {R : List Value} {C : Int → Int → Int} {base : Nat} {q cap : Nat}
theorem zva (h : zbz W t a b g mb ws B (.slice (some ⟨q, 0, none⟩) n cap) n R C base) (id : Int) (k : Nat) (hid : id = k + 1) (hk : k < n) (hn : n ≤ 5000) (old key : Int) (hR : R[k * 13 + 4]? = some (.int .u64 old)) : Calls Tryz.prog 77 #[.pointer (some ⟨t, 0, none⟩), .int .i64 id, .int .u64 key] W fun e w' => e = .returned (.int .i64 0) ∧ w' = W.setCell ⟨q, k * 13 + 4, none⟩ (.int .u64 key) := by
 subst hid
 have hat := zni h ((k : Int) + 1) k rfl hk hn
 have c3 := h.rcell (k * 13 + 4) (by omega) _ hR
 have f3 := h.rfree (k * 13 + 4)
 have HAT := yyh hat
 clear h hat hR
 go_enter Tryz.func77, Tryz.ntmps77
 go_wp2_with fail
 refine HAT.out.mono ?_
 rintro e w' ⟨rfl, rfl⟩
 go_wp2_with fail
 go_ret
 exact ⟨rfl, rfl⟩
theorem zrt (h : zbz W t a b g mb ws B (.slice (some ⟨q, 0, none⟩) n cap) n R C base) (id : Int) (k : Nat) (hid : id = k + 1) (hk : k < n) (hn : n ≤ 5000) (bv : Value) (L : List Op3) (hR : R[k * 13 + 7]? = some bv) (hL : L.length ≤ 1000) (hO : zd4 W bv L) : Calls Tryz.prog 218 #[.pointer (some ⟨t, 0, none⟩), .int .i64 id] W fun e w' => ∃ v', e = .returned v' ∧ zd4 w' v' L ∧ Below W.heap.size W w' := by
 subst hid
 have hat := zni h ((k : Int) + 1) k rfl hk hn
 have c7 := h.rcell (k * 13 + 7) (by omega) _ hR
 have HAT := yyh hat
 have HO := yyh hO
 clear h hat hR hO
 go_enter Tryz.func218, Tryz.ntmps218
 go_wp2_with fail
 refine HAT.out.mono ?_
 rintro e w' ⟨rfl, rfl⟩
 go_wp2_with fail
 refine (zg6 hL HO.out).mono ?_
 rintro e w1 ⟨v1, rfl, hO1, hf1, hB1⟩
 go_wp2_with fail
 refine (zge hO1).mono ?_
 rintro e w2 ⟨v2, rfl, hO2, hb2, rfl⟩
 go_wp2_with fail
 go_ret
 exact ⟨v2, rfl, hO2, hB1⟩
end
structure Tk where
 pr : Int
 du : Int
 ke : Int
 ru : Int
 f : Int
 p : Int
 d : Int
 r : Int
 m : Int
 L : List Op3
def Tk.RU (T : Tk) : Int := if T.p = 0 then T.ru else T.r
def Tk.MI (T : Tk) : Int := if T.p = 0 then 0 else T.m
def zht (R : List Value) (k : Nat) (T : Tk) (bv : Value) : Prop :=
 zus R k (.int .i64 ((k : Int) + 1)) (.int .i64 T.pr) (.int .i64 0) (.int .u64 T.du) (.int .u64 T.ke) (.int .u64 T.ru) (.int .u64 0) ∧ R[k * 13 + 7]? = some bv ∧ zyo R k T.f T.p T.d T.r T.m
section
variable {W W' : World} {t a b g mb : Nat} {ws : List Int} {B : Int} {rv : Value} {n : Nat} {R : List Value} {C : Int → Int → Int} {base : Nat} {q cap : Nat}
theorem zo7 (h : zbz W t a b g mb ws B (.slice (some ⟨q, 0, none⟩) n cap) n R C base) (hB : B ≤ 800000000) (k : Nat) (hk : k < n) (hkw : k < ws.length) (hn : n ≤ 5000) (ID PR S0 DU KE RU MI : Int) (hT : zus R k (.int .i64 ID) (.int .i64 PR) (.int .i64 S0) (.int .u64 DU) (.int .u64 KE) (.int .u64 RU) (.int .u64 MI)) (hJ : R[k * 13 + 9]? = some (.int .u64 0)) :
 Calls Tryz.prog 56 #[.pointer (some ⟨t, 0, none⟩), .int .i64 ((k : Int) + 1)] W fun e w' => e = .returned (.tuple #[.agg #[.int .i64 ID, .int .i64 PR, .int .i64 (ws.getD k 0 % 8), .int .u64 DU, .int .u64 KE, .int .u64 RU, .int .u64 MI], .bool true]) ∧ zbz w' t a b g mb ws (B + 1) (.slice (some ⟨q, 0, none⟩) n cap) n R C base ∧ Fr (zb5 b g) W w' := by
 obtain ⟨Z, hZ⟩ := yye (ws.getD k 0 % 8)
 rw [hZ]
 have HZ := yyh hZ
 clear hZ
 obtain ⟨x, hx⟩ := yye (W.heap.size)
 obtain ⟨W0, hW0⟩ := yye (W.alloc (.cells #[.int .i64 0, .int .i64 0, .int .i64 0, .int .u64 0, .int .u64 0, .int .u64 0, .int .u64 0] 49))
 have h0 : zbz W0 t a b g mb ws B (.slice (some ⟨q, 0, none⟩) n cap) n R C base := by rw [← hW0]; exact h.al _
 have HAT := yyh (zni h0 ((k : Int) + 1) k rfl hk hn)
 have hx0 : W0.heap[x]? = some (.cells #[.int .i64 0, .int .i64 0, .int .i64 0, .int .u64 0, .int .u64 0, .int .u64 0, .int .u64 0] 49 (0, 0)) := by rw [← hW0, ← hx]; exact heap_alloc_new W _
 have hs0 : W0.heap.size = x + 1 := by rw [← hW0, ← hx]; simp
 have hF0 : Fr (zb5 b g) W W0 := by rw [← hW0]; exact (Fr.refl _ _).al _
 obtain ⟨q0, q1, q2, q3, q4, q5, q6⟩ := hT
 have t0 := h0.rcell (k * 13) (by omega) _ q0
 have t1 := h0.rcell (k * 13 + 1) (by omega) _ q1
 have t2 := h0.rcell (k * 13 + 2) (by omega) _ q2
 have t3 := h0.rcell (k * 13 + 3) (by omega) _ q3
 have t4 := h0.rcell (k * 13 + 4) (by omega) _ q4
 have t5 := h0.rcell (k * 13 + 5) (by omega) _ q5
 have t6 := h0.rcell (k * 13 + 6) (by omega) _ q6
 obtain ⟨lt1, lt2, lt3, lt4, lt5⟩ := h.lt
 have hqx : q < x := by rw [← hx]; exact h.q_ge.2
 have hqb := h.q_ge.1
 obtain ⟨la, lb, lg⟩ := h.ar.lts
 have NX := yyh (show ¬ zb5 b g x ∧ ¬ zb5 b g (x + 1) from ⟨fun hh => by rcases hh with hh | hh <;> omega, fun hh => by rcases hh with hh | hh <;> omega⟩)
 have HH := yyh h0
 have HJ := yyh hJ
 go_enter Tryz.func56, Tryz.ntmps56
 go_upto_region 1 with fail
 try rw [hW0]
 clear hW0 h h0 q0 q1 q2 q3 q4 q5 q6 hJ la lb lg lt1 lt2 lt3 lt4 lt5
 go_wp2_with fail
 refine HAT.out.mono ?_
 rintro e w' ⟨rfl, rfl⟩
 go_upto_region 5 with fail
 obtain ⟨W1, hW1⟩ := yye (W0.alloc (.cells #[.int .i64 ID, .int .i64 PR, .int .i64 S0, .int .u64 DU, .int .u64 KE, .int .u64 RU, .int .u64 MI] 49))
 have h1 : zbz W1 t a b g mb ws B (.slice (some ⟨q, 0, none⟩) n cap) n R C base := by rw [← hW1]; exact HH.out.al _
 have hx1 : W1.heap[x]? = some (.cells #[.int .i64 0, .int .i64 0, .int .i64 0, .int .u64 0, .int .u64 0, .int .u64 0, .int .u64 0] 49 (0, 0)) := by rw [← hW1]; exact zan hx0
 have hy1 : W1.heap[x + 1]? = some (.cells #[.int .i64 ID, .int .i64 PR, .int .i64 S0, .int .u64 DU, .int .u64 KE, .int .u64 RU, .int .u64 MI] 49 (0, 0)) := by rw [← hW1]; exact zax hs0.symm
 have hF1 : Fr (zb5 b g) W W1 := by rw [← hW1]; exact hF0.al _
 try rw [hW1]
 try rw [hs0]
 clear hW1 hx0 hs0 hF0 t0 t1 t2 t3 t4 t5 t6
 obtain ⟨c0, c1, c2⟩ := h1.cells
 have H1 := yyh h1
 clear h1
 go_wp2_with fail
 refine (zmd H1.out.ar (by omega) _ k rfl hkw).mono ?_
 rintro e w2 ⟨rfl, hA2, hF2⟩
 rw [HZ.out]
 have h2 := H1.out.arFr hF2 hA2
 have hx2 := (hF2.block x (yya.1 hx1).1 NX.out.1).trans hx1
 have hy2 := (hF2.block (x + 1) (yya.1 hy1).1 NX.out.2).trans hy1
 have hF3 := hF1.trans hF2
 clear hA2 hF2 hF1 hx1 hy1 c0 c1 c2
 have y2 : w2.cell? ⟨x + 1, 2, none⟩ = some (.int .i64 S0) := by simp [World.cell?, hy2]
 have yf : ∀ i, w2.frozen? ⟨x + 1, i, none⟩ = false := fun i => by simp [World.frozen?, hy2]
 have yf2 := yf 2
 go_upto_region 6 with fail
 obtain ⟨W3, hW3⟩ := yye (w2.setCell ⟨x + 1, 2, none⟩ (.int .i64 Z))
 have h3 : zbz W3 t a b g mb ws (B + 1) (.slice (some ⟨q, 0, none⟩) n cap) n R C base := by rw [← hW3]; exact h2.other (by omega) (by omega) _
 have hx4 : W3.heap[x]? = some (.cells #[.int .i64 0, .int .i64 0, .int .i64 0, .int .u64 0, .int .u64 0, .int .u64 0, .int .u64 0] 49 (0, 0)) := by rw [← hW3]; exact za1 hx2 (by omega) _
 have hy4 : W3.heap[x + 1]? = some (.cells #[.int .i64 ID, .int .i64 PR, .int .i64 Z, .int .u64 DU, .int .u64 KE, .int .u64 RU, .int .u64 MI] 49 (0, 0)) := by rw [← hW3, zai hy2]; rfl
 have hF5 : Fr (fun k => zb5 b g k ∨ x ≤ k) W W3 := by rw [← hW3]; exact (hF3.mono (fun k hk => Or.inl hk)).set (p := ⟨x + 1, 2, none⟩) (.inr (by show x ≤ x + 1; omega)) _
 try rw [hW3]
 clear hW3 h2 hx2 hy2 hF3 y2 yf yf2
 have j9 := h3.rcell (k * 13 + 9) (by omega) _ HJ.out
 have y0 : W3.cell? ⟨x + 1, 0, none⟩ = some (.int .i64 ID) := by simp [World.cell?, hy4]
 have y1 : W3.cell? ⟨x + 1, 1, none⟩ = some (.int .i64 PR) := by simp [World.cell?, hy4]
 have y2 : W3.cell? ⟨x + 1, 2, none⟩ = some (.int .i64 Z) := by simp [World.cell?, hy4]
 have y3 : W3.cell? ⟨x + 1, 3, none⟩ = some (.int .u64 DU) := by simp [World.cell?, hy4]
 have y4 : W3.cell? ⟨x + 1, 4, none⟩ = some (.int .u64 KE) := by simp [World.cell?, hy4]
 have y5 : W3.cell? ⟨x + 1, 5, none⟩ = some (.int .u64 RU) := by simp [World.cell?, hy4]
 have y6 : W3.cell? ⟨x + 1, 6, none⟩ = some (.int .u64 MI) := by simp [World.cell?, hy4]
 have x0 : W3.cell? ⟨x, 0, none⟩ = some (.int .i64 0) := by simp [World.cell?, hx4]
 have x1 : W3.cell? ⟨x, 1, none⟩ = some (.int .i64 0) := by simp [World.cell?, hx4]
 have x2 : W3.cell? ⟨x, 2, none⟩ = some (.int .i64 0) := by simp [World.cell?, hx4]
 have x3 : W3.cell? ⟨x, 3, none⟩ = some (.int .u64 0) := by simp [World.cell?, hx4]
 have x4 : W3.cell? ⟨x, 4, none⟩ = some (.int .u64 0) := by simp [World.cell?, hx4]
 have x5 : W3.cell? ⟨x, 5, none⟩ = some (.int .u64 0) := by simp [World.cell?, hx4]
 have x6 : W3.cell? ⟨x, 6, none⟩ = some (.int .u64 0) := by simp [World.cell?, hx4]
 have f0 : W3.frozen? ⟨x, 0, none⟩ = false := by simp [World.frozen?, hx4]
 have f1 : W3.frozen? ⟨x, 1, none⟩ = false := by simp [World.frozen?, hx4]
 have f2 : W3.frozen? ⟨x, 2, none⟩ = false := by simp [World.frozen?, hx4]
 have f3 : W3.frozen? ⟨x, 3, none⟩ = false := by simp [World.frozen?, hx4]
 have f4 : W3.frozen? ⟨x, 4, none⟩ = false := by simp [World.frozen?, hx4]
 have f5 : W3.frozen? ⟨x, 5, none⟩ = false := by simp [World.frozen?, hx4]
 have f6 : W3.frozen? ⟨x, 6, none⟩ = false := by simp [World.frozen?, hx4]
 have H4 := yyh h3
 clear h3 hx4 hy4
 go_wp2_with fail
 refine bodyPost_ret (v := .tuple #[.agg #[.int .i64 ID, .int .i64 PR, .int .i64 Z, .int .u64 DU, .int .u64 KE, .int .u64 RU, .int .u64 MI], .bool true]) (by simp [results, Tryz.results56, go_sem, x0, x1, x2, x3, x4, x5, x6]) rfl ?_
 refine ⟨rfl, ?_, ?_⟩
 · exact ((((((H4.out.other (by omega) (by omega) _).other (by omega) (by omega) _).other (by omega) (by omega) _).other (by omega) (by omega) _).other (by omega) (by omega) _).other (by omega) (by omega) _).other (by omega) (by omega) _
 · have hFn := (((((((hF5.set (p := ⟨x, 0, none⟩) (Or.inr (Nat.le_refl x)) (.int .i64 ID)).set (p := ⟨x, 1, none⟩) (Or.inr (Nat.le_refl x)) (.int .i64 PR)).set (p := ⟨x, 2, none⟩) (Or.inr (Nat.le_refl x)) (.int .i64 Z)).set (p := ⟨x, 3, none⟩) (Or.inr (Nat.le_refl x)) (.int .u64 DU)).set (p := ⟨x, 4, none⟩) (Or.inr (Nat.le_refl x)) (.int .u64 KE)).set (p := ⟨x, 5, none⟩) (Or.inr (Nat.le_refl x)) (.int .u64 RU)).set (p := ⟨x, 6, none⟩) (Or.inr (Nat.le_refl x)) (.int .u64 MI))
   exact ⟨hFn.os, hFn.tape, hFn.output, hFn.size, fun i hi hn => hFn.block i hi (fun hh => by rcases hh with hh | hh; exact hn hh; omega)⟩
theorem zmn (h : zbz W t a b g mb ws B (.slice (some ⟨q, 0, none⟩) n cap) n R C base) (hB : B ≤ 800000000) (k : Nat) (hk : k < n) (hkw : k < ws.length) (hn : n ≤ 5000) (T : Tk) (bv : Value) (hp : 0 ≤ T.p) (hR : zht R k T bv) :
 Calls Tryz.prog 56 #[.pointer (some ⟨t, 0, none⟩), .int .i64 ((k : Int) + 1)] W fun e w' => e = .returned (.tuple #[.agg #[.int .i64 ((k : Int) + 1), .int .i64 T.pr, .int .i64 (ws.getD k 0 % 8), .int .u64 T.du, .int .u64 T.ke, .int .u64 T.RU, .int .u64 T.MI], .bool true]) ∧ zbz w' t a b g mb ws (B + 1) (.slice (some ⟨q, 0, none⟩) n cap) n R C base ∧ Fr (zb5 b g) W w' := by
 obtain ⟨h1, h2, h3⟩ := hR
 by_cases hz : T.p = 0
 ·
  rw [show T.RU = T.ru from by simp [Tk.RU, hz], show T.MI = 0 from by simp [Tk.MI, hz]]
  have h9 := h3.2.1
  rw [hz] at h9
  exact zo7 h hB k hk hkw hn _ _ _ _ _ _ _ h1 h9
 · rw [show T.RU = T.r from by simp [Tk.RU, hz], show T.MI = T.m from by simp [Tk.MI, hz]]
   exact zut h hB k hk hkw hn _ _ _ _ _ _ _ _ _ _ _ _ (by omega) h1 h3
theorem zru (h : zbz W t a b g mb ws B (.slice (some ⟨q, 0, none⟩) n cap) n R C base) (k : Nat) (hk : k < n) (hn : n ≤ 5000) (f p d r m : Int) (hJ : zyo R k f p d r m) :
 Calls Tryz.prog 264 #[.pointer (some ⟨t, 0, none⟩), .int .i64 ((k : Int) + 1)] W fun e w' => e = .returned (.tuple #[if p = 0 then .agg #[.int .u64 0, .int .u64 0, .int .u64 0, .int .u64 0, .int .u64 0] else .agg #[.int .u64 f, .int .u64 p, .int .u64 d, .int .u64 r, .int .u64 m], .bool (!(p == 0))]) ∧ Below W.heap.size W w' := by
 obtain ⟨x, hx⟩ := yye (W.heap.size)
 obtain ⟨W0, hW0⟩ := yye (W.alloc (.cells #[.int .u64 0, .int .u64 0, .int .u64 0, .int .u64 0, .int .u64 0] 93))
 have h0 : zbz W0 t a b g mb ws B (.slice (some ⟨q, 0, none⟩) n cap) n R C base := by rw [← hW0]; exact h.al _
 have HAT := yyh (zni h0 ((k : Int) + 1) k rfl hk hn)
 have hx0 : W0.heap[x]? = some (.cells #[.int .u64 0, .int .u64 0, .int .u64 0, .int .u64 0, .int .u64 0] 93 (0, 0)) := by rw [← hW0, ← hx]; exact heap_alloc_new W _
 have hB0 : Below W.heap.size W W0 := by rw [← hW0]; exact zab yyr _
 have HB := yyh hB0
 have HX := yyh hx
 obtain ⟨q8, q9, q10, q11, q12⟩ := hJ
 have t8 := h0.rcell (k * 13 + 8) (by omega) _ q8
 have t9 := h0.rcell (k * 13 + 9) (by omega) _ q9
 have t10 := h0.rcell (k * 13 + 10) (by omega) _ q10
 have t11 := h0.rcell (k * 13 + 11) (by omega) _ q11
 have t12 := h0.rcell (k * 13 + 12) (by omega) _ q12
 have hqx : q ≠ x := by have := h.q_ge.2; omega
 have hqx2 : x ≠ q := fun e => hqx e.symm
 have x0 : W0.cell? ⟨x, 0, none⟩ = some (.int .u64 0) := by simp [World.cell?, hx0]
 have x1 : W0.cell? ⟨x, 1, none⟩ = some (.int .u64 0) := by simp [World.cell?, hx0]
 have x2 : W0.cell? ⟨x, 2, none⟩ = some (.int .u64 0) := by simp [World.cell?, hx0]
 have x3 : W0.cell? ⟨x, 3, none⟩ = some (.int .u64 0) := by simp [World.cell?, hx0]
 have x4 : W0.cell? ⟨x, 4, none⟩ = some (.int .u64 0) := by simp [World.cell?, hx0]
 have f0 : W0.frozen? ⟨x, 0, none⟩ = false := by simp [World.frozen?, hx0]
 have f1 : W0.frozen? ⟨x, 1, none⟩ = false := by simp [World.frozen?, hx0]
 have f2 : W0.frozen? ⟨x, 2, none⟩ = false := by simp [World.frozen?, hx0]
 have f3 : W0.frozen? ⟨x, 3, none⟩ = false := by simp [World.frozen?, hx0]
 have f4 : W0.frozen? ⟨x, 4, none⟩ = false := by simp [World.frozen?, hx0]
 have hge : W.heap.size ≤ x := by rw [hx]; exact yyn
 have HGE := yyh hge
 by_cases hp : p = 0
 ·
  subst hp
  rw [if_pos rfl]
  go_enter Tryz.func264, Tryz.ntmps264
  go_upto_region 1 with fail
  try rw [hW0]
  clear hW0 h h0 hx0 hB0 hge hx q8 q9 q10 q11 q12
  go_wp2_with fail
  refine HAT.out.mono ?_
  rintro e w' ⟨rfl, rfl⟩
  go_wp2_with fail
  refine bodyPost_ret (v := .tuple #[.agg #[.int .u64 0, .int .u64 0, .int .u64 0, .int .u64 0, .int .u64 0], .bool false]) (by simp [results, Tryz.results264, go_sem, x0, x1, x2, x3, x4]) rfl ?_
  refine ⟨rfl, ?_⟩
  exact (((((HB.out.setCell (p := (⟨x, 0, none⟩ : Addr)) HGE.out _).setCell (p := (⟨x, 1, none⟩ : Addr)) HGE.out _).setCell (p := (⟨x, 2, none⟩ : Addr)) HGE.out _).setCell (p := (⟨x, 3, none⟩ : Addr)) HGE.out _).setCell (p := (⟨x, 4, none⟩ : Addr)) HGE.out _)
 ·
  rw [if_neg hp]
  have g1 : (p == 0) = false := by simpa using hp
  rw [g1]
  go_enter Tryz.func264, Tryz.ntmps264
  go_upto_region 1 with fail
  try rw [hW0]
  clear hW0 h h0 hx0 hB0 hge hx q8 q9 q10 q11 q12
  go_wp2_with fail
  refine HAT.out.mono ?_
  rintro e w' ⟨rfl, rfl⟩
  go_wp2_with fail
  refine bodyPost_ret (v := .tuple #[.agg #[.int .u64 f, .int .u64 p, .int .u64 d, .int .u64 r, .int .u64 m], .bool true]) (by simp [results, Tryz.results264, go_sem, x0, x1, x2, x3, x4]) rfl ?_
  refine ⟨rfl, ?_⟩
  exact (((((HB.out.setCell (p := (⟨x, 0, none⟩ : Addr)) HGE.out _).setCell (p := (⟨x, 1, none⟩ : Addr)) HGE.out _).setCell (p := (⟨x, 2, none⟩ : Addr)) HGE.out _).setCell (p := (⟨x, 3, none⟩ : Addr)) HGE.out _).setCell (p := (⟨x, 4, none⟩ : Addr)) HGE.out _)
end
def zg7 (k : Nat) (s : Int) (T : Tk) : List Value := [.int .i64 ((k : Int) + 1), .int .i64 T.pr, .int .i64 s, .int .u64 T.du, .int .u64 T.ke, .int .u64 T.RU, .int .u64 T.MI]
def zkx (st : Nat → Int) (TT : Nat → Tk) : Nat → List Value
 | 0 => []
 | k + 1 => zkx st TT k ++ zg7 k (st k) (TT k)
theorem zgf (st : Nat → Int) (TT : Nat → Tk) (n : Nat) : (zkx st TT n).length = n * 7 := by
 induction n with
 | zero => rfl
 | succ k ih => simp only [zkx, List.length_append, ih]; simp [zg7]; omega
theorem zo8 (st : Nat → Int) (TT : Nat → Tk) (n k j : Nat) (hk : k < n) (hj : j < 7) : (zkx st TT n)[k * 7 + j]? = (zg7 k (st k) (TT k))[j]? := by
 induction n with
 | zero => omega
 | succ i ih =>
  simp only [zkx]
  rcases Nat.lt_or_ge k i with h | h
  · rw [List.getElem?_append_left (by rw [zgf]; omega)]
    exact ih h
  · obtain rfl : k = i := by omega
    rw [List.getElem?_append_right (by rw [zgf]; omega), zgf, show k * 7 + j - k * 7 = j from by omega]
theorem zo9 (k : Nat) (s : Int) (T : Tk) : ∀ u ∈ zg7 k s T, u.oneCell' = true := by
 intro u hu
 simp only [zg7, List.mem_cons, List.not_mem_nil, or_false] at hu
 rcases hu with rfl | rfl | rfl | rfl | rfl | rfl | rfl <;> rfl
def zxo : Value := .agg #[.int .i64 0, .int .i64 0, .int .i64 0, .int .u64 0, .int .u64 0, .int .u64 0, .int .u64 0]
theorem zrv : (Tryz.prog.info? 49).map (fun i => (i.zero, i.size, i.bytes)) = some (some zxo, 7, 56) := by kernel_rfl
theorem zh7 {S : Nat → Prop} {w w' : World} {base : Nat} {e : TypeId} {size : Nat} {v : Value} {n : Nat} {xs : List Value} (h : w.ownsRow base e size v n xs) (f : Fr S w w') (hn : ∀ c, v.ownBlock = some c → ¬ S c) : w'.ownsRow base e size v n xs := by
 refine ⟨h.1, ?_⟩
 rcases h.2 with h2 | ⟨g, cap, cur, rfl, hb, hgg, rest⟩
 · exact .inl h2
 · exact .inr ⟨g, cap, cur, rfl, hb, (f.block g (yya.1 hgg).1 (hn g rfl)).trans hgg, rest⟩
theorem Fr.of_grown {w w' : World} {row : Option Nat} (hg : w.grownBy w' row) : Fr (fun k => some k = row) w w' := ⟨hg.os, hg.tape, hg.output, hg.size, fun k hk hn => hg.block k hk hn⟩
def zcc (W : World) (lo : Nat) (v : Value) (n : Nat) (xs : List Value) : Prop :=
 (n = 0 ∧ v = .slice none 0 0) ∨ ∃ c, v = .slice (some ⟨c, 0, none⟩) n n ∧ lo ≤ c ∧ c < W.heap.size ∧ ∀ j, j < n * 7 → W.cell? ⟨c, j, none⟩ = xs[j]?
section
variable {W W' : World} {t a b g mb : Nat} {ws : List Int} {B : Int} {rv : Value} {n : Nat} {R : List Value} {C : Int → Int → Int} {base : Nat} {q cap : Nat}
theorem zbz.frAll {S : Nat → Prop} (h : zbz W t a b g mb ws B rv n R C base) (f : Fr S W W') (hn : ∀ x, (x = t ∨ x = a ∨ x = b ∨ x = g ∨ x = mb ∨ rv.ownBlock = some x) → ¬ S x) : zbz W' t a b g mb ws B rv n R C base := by
 obtain ⟨fm, ⟨es, clock, h1, h2⟩, hf⟩ := h.map
 exact ⟨(f.block t (yya.1 h.hdr).1 (hn t (.inl rfl))).trans h.hdr, h.ar.fr f (hn a (.inr (.inl rfl))) (hn b (.inr (.inr (.inl rfl)))) (hn g (.inr (.inr (.inr (.inl rfl))))), zh7 h.rows f (fun c hc => hn c (.inr (.inr (.inr (.inr (.inr hc)))))), zmf.of_block ⟨fm, ⟨es, clock, h1, h2⟩, hf⟩ (f.block mb (yya.1 h1).1 (hn mb (.inr (.inr (.inr (.inr (.inl rfl)))))) ), h.lt, h.ne⟩
theorem ziz (A : Option Addr) (n cap : Nat) (hn : n ≤ 5000) (hc : n ≤ cap) (hm : cap ≤ maxLen) (hA : A = none → n = 0) : Calls Tryz.prog 90 #[.slice A n cap] W fun e w' => e = .returned (.slice A n n) ∧ W = w' := by
 cases A with
 | none =>
  obtain rfl := hA rfl
  go_enter Tryz.func90, Tryz.ntmps90
  go_wp2_with fail
  go_ret
  exact ⟨rfl, rfl⟩
 | some x =>
  go_enter Tryz.func90, Tryz.ntmps90
  go_wp2_with fail
  go_ret
  exact ⟨by simp, rfl⟩
theorem zrw {cap : Nat} (h : zbz W t a b g mb ws B (.slice none 0 cap) 0 R C base) : Calls Tryz.prog 48 #[.pointer (some ⟨t, 0, none⟩)] W fun e w' => e = .returned (.slice none 0 0) ∧ W = w' := by
 obtain ⟨c0, c1, c2⟩ := h.cells
 clear h
 go_enter Tryz.func48, Tryz.ntmps48
 go_wp2_with fail
 refine wp_loop_rounds 1 ?_
 rw [rounds_succ]
 go_wp2_with fail
 refine (ziz none 0 0 (by decide) (by decide) (by decide) (fun _ => rfl)).mono ?_
 rintro e w1 ⟨rfl, rfl⟩
 go_wp2_with fail
 go_ret
 exact ⟨rfl, rfl⟩
theorem zvb (h : zbz W t a b g mb ws B (.slice (some ⟨q, 0, none⟩) n cap) n R C base) (hbs : base ≤ W.heap.size) (hn : n ≤ 5000) (hB : B ≤ 700000000) (hkw : n ≤ ws.length) (TT : Nat → Tk) (hTT : ∀ k, k < n → 0 ≤ (TT k).p ∧ ∃ bv, zht R k (TT k) bv) :
 Calls Tryz.prog 48 #[.pointer (some ⟨t, 0, none⟩)] W fun e w' => (∃ v, e = .returned v ∧ zcc w' W.heap.size v n (zkx (fun k => ws.getD k 0 % 8) TT n)) ∧ zbz w' t a b g mb ws (B + n) (.slice (some ⟨q, 0, none⟩) n cap) n R C base ∧ Fr (zb5 b g) W w' := by
 obtain ⟨c0, c1, c2⟩ := h.cells
 have H := yyh h
 have HTT := yyh hTT
 have HKW := yyh hkw
 obtain ⟨lt1, lt2, lt3, lt4, lt5⟩ := h.lt
 have hqx := h.q_ge.2
 have HLT := yyh (show ∀ x, (x = t ∨ x = a ∨ x = b ∨ x = g ∨ x = mb ∨ (Value.slice (some ⟨q, 0, none⟩) n cap).ownBlock = some x) → x < W.heap.size from fun x hx => by
  rcases hx with h | h | h | h | h | h
  · omega
  · omega
  · omega
  · omega
  · omega
  · simp [Value.ownBlock] at h; omega)
 clear h hTT hkw lt1 lt2 lt3 lt4 lt5 hqx
 go_enter Tryz.func48, Tryz.ntmps48
 go_wp2_with fail
 go_loopg [3, 4, 5, 6, 12] n (fun gg v3 v4 v5 v6 v12 wr => ∃ (i : Nat) (ov : Value), gg = n - i ∧ i ≤ n ∧ v12 = .int .i64 i ∧ ov = v3 ∧ wr.ownsRow W.heap.size 49 7 ov i (zkx (fun k => ws.getD k 0 % 8) TT i) ∧ zbz wr t a b g mb ws (B + i) (.slice (some ⟨q, 0, none⟩) n cap) n R C base ∧ Fr (zb5 b g) W wr)
 case atStart => exact ⟨0, _, by omega, by omega, rfl, rfl, World.ownsRow_nil _ _ _ _, by simpa using H.out, Fr.refl _ _⟩
 case round =>
  obtain ⟨i, ov, rfl, hi, rfl, rfl, hO, hT, hF⟩ := hrel
  by_cases hlt : i < n
  ·
   obtain ⟨hp, bv, hR⟩ := HTT.out i hlt
   have hst : zkx (fun k => ws.getD k 0 % 8) TT (i + 1) = zkx (fun k => ws.getD k 0 % 8) TT i ++ zg7 i (ws.getD i 0 % 8) (TT i) := rfl
   have HG := yyh (zmn hT (by omega) i hlt (by have := HKW.out; omega) hn (TT i) bv hp hR)
   have HST := yyh hst
   have HO := yyh hO
   have HF := yyh hF
   clear hp hR hst hO hT hF
   go_wp2_with fail
   refine HG.out.mono ?_
   rintro e w2 ⟨rfl, hT2, hF2⟩
   have hO2 := zh7 HO.out hF2 (fun c hc hs => by
    have h1 := (HO.out.lt c hc).1
    rcases hs with hs | hs
    · have := HLT.out b (.inr (.inr (.inl rfl))); omega
    · have := HLT.out g (.inr (.inr (.inr (.inl rfl)))); omega)
   have hF3 := HF.out.trans hF2
   have hbig : W.heap.size ≤ w2.heap.size := hF3.size
   obtain ⟨T, hT⟩ := yye (TT i)
   obtain ⟨S0, hS0⟩ : ∃ z, ws.getD i 0 % 8 = z := ⟨_, rfl⟩
   obtain ⟨RU, hRU⟩ : ∃ z, T.RU = z := ⟨_, rfl⟩
   obtain ⟨MI, hMI⟩ : ∃ z, T.MI = z := ⟨_, rfl⟩
   have HTV := yyh (show zg7 i (ws.getD i 0 % 8) (TT i) = [.int .i64 ((i : Int) + 1), .int .i64 T.pr, .int .i64 S0, .int .u64 T.du, .int .u64 T.ke, .int .u64 RU, .int .u64 MI] from by rw [hT, hS0, ← hRU, ← hMI]; rfl)
   rw [hS0, hT, hRU, hMI]
   obtain ⟨PR, hPR⟩ : ∃ z, T.pr = z := ⟨_, rfl⟩
   obtain ⟨DU, hDU⟩ : ∃ z, T.du = z := ⟨_, rfl⟩
   obtain ⟨KE, hKE⟩ : ∃ z, T.ke = z := ⟨_, rfl⟩
   rw [hPR, hDU, hKE] at HTV ⊢
   obtain ⟨W3, hW3⟩ := yye (w2.alloc (.cells #[.int .i64 ((i : Int) + 1), .int .i64 PR, .int .i64 S0, .int .u64 DU, .int .u64 KE, .int .u64 RU, .int .u64 MI] 49))
   have hx3 : W3.heap[w2.heap.size]? = some (.cells #[.int .i64 ((i : Int) + 1), .int .i64 PR, .int .i64 S0, .int .u64 DU, .int .u64 KE, .int .u64 RU, .int .u64 MI] 49 (0, 0)) := by rw [← hW3]; exact heap_alloc_new w2 _
   have hO3 : W3.ownsRow W.heap.size 49 7 ov i (zkx (fun k => ws.getD k 0 % 8) TT i) := by rw [← hW3]; exact hO2.alloc _
   have hT3 : zbz W3 t a b g mb ws (B + i + 1) (.slice (some ⟨q, 0, none⟩) n cap) n R C base := by rw [← hW3]; exact hT2.al _
   have hF4 : Fr (zb5 b g) W W3 := by rw [← hW3]; exact hF3.al _
   obtain ⟨y, hy⟩ := yye (w2.heap.size)
   rw [hy] at hx3
   have y0 : W3.cell? ⟨y, 0, none⟩ = some (.int .i64 ((i : Int) + 1)) := by simp [World.cell?, hx3]
   have y1 : W3.cell? ⟨y, 1, none⟩ = some (.int .i64 PR) := by simp [World.cell?, hx3]
   have y2 : W3.cell? ⟨y, 2, none⟩ = some (.int .i64 S0) := by simp [World.cell?, hx3]
   have y3 : W3.cell? ⟨y, 3, none⟩ = some (.int .u64 DU) := by simp [World.cell?, hx3]
   have y4 : W3.cell? ⟨y, 4, none⟩ = some (.int .u64 KE) := by simp [World.cell?, hx3]
   have y5 : W3.cell? ⟨y, 5, none⟩ = some (.int .u64 RU) := by simp [World.cell?, hx3]
   have y6 : W3.cell? ⟨y, 6, none⟩ = some (.int .u64 MI) := by simp [World.cell?, hx3]
   have hbig3 : W.heap.size ≤ W3.heap.size := hF4.size
   have HB := yyh (show B + i + 1 = B + ((i + 1 : Nat) : Int) from by omega)
   clear hT hS0 hRU hMI hPR hDU hKE hO2 hT2 hF3 hx3 hbig
   go_upto_region 6 with fail
   try rw [hW3]
   try rw [hy]
   clear hW3 hy
   obtain ⟨o, ho⟩ : ∃ o : Obj, Obj.cells #[.int .i64 ((i : Int) + 1), .int .i64 PR, .int .i64 S0, .int .u64 DU, .int .u64 KE, .int .u64 RU, .int .u64 MI] 49 = o := ⟨_, rfl⟩
   have hO5 : (W3.alloc o).ownsRow W.heap.size 49 7 ov i (zkx (fun k => ws.getD k 0 % 8) TT i) := hO3.alloc o
   have hnb : (W3.alloc o).heap[W3.heap.size]? = some (.cells #[.int .i64 ((i : Int) + 1), .int .i64 PR, .int .i64 S0, .int .u64 DU, .int .u64 KE, .int .u64 RU, .int .u64 MI] 49) := by rw [← ho]; exact heap_alloc_new W3 _
   have hnews : ∀ j u, (zg7 i (ws.getD i 0 % 8) (TT i))[j]? = some u → (W3.alloc o).cell? ((⟨W3.heap.size, 0, none⟩ : Addr).add j) = some u := by
    rw [HTV.out]
    exact World.news_of_block hnb
   obtain ⟨i0, hi0, hz0, hz1, hz2⟩ := info_parts zrv
   have HOWN := yyh hO5
   have HNEWS := yyh hnews
   have HO3 := yyh hO3
   have HT3 := yyh hT3
   clear hO5 hnews hO3 hT3 hnb
   go_wp2_with (at_builtin; refine wpList_append_lies _ rfl (.tmp 22) (.tmp 24) 41 rfl W.heap.size 49 i0 zxo 7 56 Tryz.underlying41 hi0 hz0 hz1 hz2 rfl (by decide) ov i _ rfl HOWN.out ⟨W3.heap.size, 0, none⟩ 1 1 (zg7 i (ws.getD i 0 % 8) (TT i)) rfl rfl HNEWS.out (zo9 _ _ _) (by decide) (by unfold maxLen; omega) (by omega) (by simp; omega) _ rfl ?_; intro c6 cap6 w6 hO6 hg6 hat6 hlt6)
   have hF6 : Fr (fun k => some k = ov.ownBlock) (W3.alloc o) w6 := Fr.of_grown hg6
   have hno : ∀ k, k < W.heap.size → ¬ some k = ov.ownBlock := fun k hk e => by have := (HO3.out.lt k e.symm).1; omega
   have hT6 : zbz w6 t a b g mb ws (B + i + 1) (.slice (some ⟨q, 0, none⟩) n cap) n R C base := (HT3.out.al o).frAll hF6 (fun x hx => hno x (HLT.out x hx))
   have hF7 : Fr (zb5 b g) W w6 := by
    have h1 := hF4.al o
    refine ⟨hF6.os.trans h1.os, hF6.tape.trans h1.tape, hF6.output.trans h1.output, Nat.le_trans h1.size hF6.size, fun k hk hn => ?_⟩
    exact (hF6.block k (Nat.lt_of_lt_of_le hk h1.size) (hno k hk)).trans (h1.block k hk hn)
   rw [← HST.out] at hO6
   clear hF6 hg6 hF4 hno
   go_roundg (n - (i + 1))
   case measure => omega
   case rel => exact ⟨i + 1, _, rfl, by omega, by go_num, rfl, hO6, by rw [← HB.out]; exact hT6, hF7⟩
  ·
   obtain rfl : i = n := by omega
   have HO := yyh hO
   have HT := yyh hT
   rcases hO.2 with ⟨rfl, h0⟩ | ⟨c5, cap5, cur, rfl, hb5, hg5, hl5, hm5, _⟩
   ·
    subst h0
    clear hO hT
    go_wp2_with fail
    refine (ziz none 0 0 (by decide) (by decide) (by decide) (fun _ => rfl)).mono ?_
    rintro e w6 ⟨rfl, rfl⟩
    go_wp2_with fail
    go_ret
    exact ⟨⟨_, rfl, .inl ⟨rfl, rfl⟩⟩, HT.out, hF⟩
   ·
    clear hO hT
    go_wp2_with fail
    refine (ziz (some ⟨c5, 0, none⟩) i cap5 hn hl5 hm5 (fun h => by cases h)).mono ?_
    rintro e w6 ⟨rfl, rfl⟩
    go_wp2_with fail
    go_ret
    exact ⟨⟨_, rfl, .inr ⟨c5, rfl, (HO.out.lt c5 rfl).1, (HO.out.lt c5 rfl).2, fun j hj => HO.out.cellAt j hj⟩⟩, HT.out, hF⟩
end
theorem zaw {w w' : World} {row : Option Nat} (hg : w.grownBy w' row) {b : Nat} (hlt : b < w.heap.size) (hne : some b ≠ row) {v0 v1 v2 v3 v4 : Value} (h : w.cell? ⟨b, 0, none⟩ = some v0 ∧ w.cell? ⟨b, 1, none⟩ = some v1 ∧ w.cell? ⟨b, 2, none⟩ = some v2 ∧ w.cell? ⟨b, 3, none⟩ = some v3 ∧ w.cell? ⟨b, 4, none⟩ = some v4) : w'.cell? ⟨b, 0, none⟩ = some v0 ∧ w'.cell? ⟨b, 1, none⟩ = some v1 ∧ w'.cell? ⟨b, 2, none⟩ = some v2 ∧ w'.cell? ⟨b, 3, none⟩ = some v3 ∧ w'.cell? ⟨b, 4, none⟩ = some v4 :=
 ⟨(hg.cell_far ⟨b, 0, none⟩ hlt hne).trans h.1, (hg.cell_far ⟨b, 1, none⟩ hlt hne).trans h.2.1, (hg.cell_far ⟨b, 2, none⟩ hlt hne).trans h.2.2.1, (hg.cell_far ⟨b, 3, none⟩ hlt hne).trans h.2.2.2.1, (hg.cell_far ⟨b, 4, none⟩ hlt hne).trans h.2.2.2.2⟩
theorem zbq {S : Nat → Prop} {w w' : World} (f : Fr S w w') {b : Nat} (hn : ¬ S b) {v0 v1 v2 v3 v4 : Value} (h : w.cell? ⟨b, 0, none⟩ = some v0 ∧ w.cell? ⟨b, 1, none⟩ = some v1 ∧ w.cell? ⟨b, 2, none⟩ = some v2 ∧ w.cell? ⟨b, 3, none⟩ = some v3 ∧ w.cell? ⟨b, 4, none⟩ = some v4) : w'.cell? ⟨b, 0, none⟩ = some v0 ∧ w'.cell? ⟨b, 1, none⟩ = some v1 ∧ w'.cell? ⟨b, 2, none⟩ = some v2 ∧ w'.cell? ⟨b, 3, none⟩ = some v3 ∧ w'.cell? ⟨b, 4, none⟩ = some v4 :=
 ⟨zg0 f hn h.1, zg0 f hn h.2.1, zg0 f hn h.2.2.1, zg0 f hn h.2.2.2.1, zg0 f hn h.2.2.2.2⟩
def zky (id pr d f p r m : Int) (bv : Value) : List Value := [.int .i64 id, .int .i64 pr, .int .i64 0, .int .u64 d, .int .u64 0, .int .u64 0, .int .u64 0, bv, .int .u64 f, .int .u64 p, .int .u64 d, .int .u64 r, .int .u64 m]
theorem zgg (id pr d f p r m : Int) (A : Option Addr) (n c : Nat) : ∀ u ∈ zky id pr d f p r m (.slice A n c), u.oneCell' = true := by
 intro u hu
 simp only [zky, List.mem_cons, List.not_mem_nil, or_false] at hu
 rcases hu with rfl | rfl | rfl | rfl | rfl | rfl | rfl | rfl | rfl | rfl | rfl | rfl | rfl <;> rfl
def zrx (PR s p : Int) (ok : Bool) (L : List Op3) : Bool := decide (PR < 0) || decide (7 < PR) || !bodyB L || !canB 0 s || (decide (0 < p) && !ok)
section
variable {W W' : World} {t a b g mb : Nat} {ws : List Int} {B : Int} {rv : Value} {n : Nat} {R : List Value} {C : Int → Int → Int} {base : Nat}
theorem zpa (h : zbz W t a b g mb ws B rv n R C base) (hbs : base ≤ W.heap.size) (hn : n ≤ 5000) (hB : B ≤ 800000000) (hkn : n < ws.length) (hpre : ∀ j, j < n → (ws.getD j 0 % 8 == 0) = false) (hfree : (ws.getD n 0 % 8 == 0) = true) (hC : ∀ x y, 0 ≤ C x y ∧ C x y ≤ 1000000)
 (PR s f p d r m : Int) (A : Option Addr) (cb : Nat) (L : List Op3) (hL : L.length ≤ 1000) (hsw : (Lit.int .i64 s).wf = true) (f0 : 0 ≤ f) (pp0 : 0 ≤ p) (d0 : 0 ≤ d) (d1 : d ≤ top) (hO : zj9 W A L) (hbad : zrx PR s p (okB f p d) L = false) (hOV : zd4 W (.slice A L.length cb) L) (hdis : L = [] ∨ ∀ c, (Value.slice A L.length cb).ownBlock = some c → ¬ zb5 b g c) :
 Calls Tryz.prog 71 #[.pointer (some ⟨t, 0, none⟩), .int .i64 PR, .slice A L.length cb, .agg #[.int .u64 f, .int .u64 p, .int .u64 d, .int .u64 r, .int .u64 m], .int .i64 s] W fun e wx => ∃ q cap bv, e = .returned (.tuple #[.int .i64 ((n : Int) + 1), .int .i64 0]) ∧ zbz wx t a b g mb (ws.set n (zcu (ws.getD n 0) s)) (B + n + 2) (.slice (some ⟨q, 0, none⟩) (n + 1) cap) (n + 1) (R ++ zky ((n : Int) + 1) PR d f p r m bv) (zkw C s PR (C s PR + 1)) base ∧ zd4 wx bv L ∧ (∀ c, bv.ownBlock = some c → W.heap.size ≤ c ∧ c < wx.heap.size ∧ c ≠ q) ∧ (rv.ownBlock = some q ∨ W.heap.size ≤ q) ∧ Fr (fun x => zb5 b g x ∨ x = mb ∨ x = t ∨ some x = rv.ownBlock) W wx := by
 obtain ⟨jb, hjb⟩ := yye (W.heap.size)
 obtain ⟨W0, hW0⟩ := yye (W.alloc (.cells #[.int .u64 f, .int .u64 p, .int .u64 d, .int .u64 r, .int .u64 m] 93))
 have hj0 : W0.heap[jb]? = some (.cells #[.int .u64 f, .int .u64 p, .int .u64 d, .int .u64 r, .int .u64 m] 93 (0, 0)) := by rw [← hW0, ← hjb]; exact heap_alloc_new W _
 have hb0 : Below W.heap.size W W0 := by rw [← hW0]; exact zab yyr _
 have HCAN := yyh (fun w => zk7 0 s (show (Lit.int .i64 0).wf = true from by decide) hsw w)
 have HBO := yyh (zh6 A cb L hL (hO.below hb0))
 have hgood : 0 ≤ PR ∧ PR ≤ 7 ∧ bodyB L = true ∧ canB 0 s = true ∧ (p = 0 ∨ (0 < p ∧ okB f p d = true)) := by
  unfold zrx at hbad
  simp only [Bool.or_eq_false_iff, Bool.and_eq_false_iff, decide_eq_false_iff_not, Bool.not_eq_false'] at hbad
  obtain ⟨⟨⟨⟨h1, h2⟩, h3⟩, h4⟩, h5⟩ := hbad
  exact ⟨by omega, by omega, h3, h4, by rcases h5 with h | h; exact .inl (by omega); by_cases hz : p = 0; exact .inl hz; exact .inr ⟨by omega, h⟩⟩
 obtain ⟨p0, p1, hbody, hcan, hok⟩ := hgood
 have q1 : decide (PR < 0) = false := by simp; omega
 have q2 : decide (PR > 7) = false := by simp; omega
 have q3 : decide (7 < PR) = false := by simp; omega
 rw [hcan] at HCAN
 rw [hbody] at HBO
 have HOK := yyh hok
 have h0 : zbz W0 t a b g mb ws B rv n R C base := by rw [← hW0]; exact h.al _
 have hs0 : base ≤ W0.heap.size := Nat.le_trans hbs hb0.size
 have HAL := yyh (fun (w : World) (hA : zc2 w a b g ws B) => zrf hA (by omega) s hsw hcan n hkn hpre hfree)
 have i2 : zbl PR := by show (Lit.int .i64 PR).wf = true; simp [Lit.wf, IntKind.min, IntKind.max, IntKind.signed, IntKind.bits]; omega
 have I2 := yyh i2
 have I3 := yyh (show zbl s from hsw)
 have HCB := yyh hC
 obtain ⟨WS, hWS⟩ := yye (ws.set n (zcu (ws.getD n 0) s))
 rw [hWS] at HAL
 rw [hWS]
 have HJ := yyh (show jb ≠ t ∧ ¬ zb5 b g jb ∧ some jb ≠ rv.ownBlock from by
  obtain ⟨l1, l2, l3, l4, l5⟩ := h.lt
  refine ⟨by omega, fun hh => by rcases hh with hh | hh <;> omega, fun e => ?_⟩
  have := (h.rows.lt jb e.symm).2
  omega)
 have HOV0 := yyh (hOV.below hb0)
 have HDIS := yyh hdis
 have HH0 := yyh h0
 have HB0 := yyh hb0
 have HS0 := yyh hs0
 have HWB := yyh (show (∀ c, rv.ownBlock = some c → c < W.heap.size) ∧ t < W.heap.size from ⟨fun c hc => (h.rows.lt c hc).2, by have := h.lt; omega⟩)
 clear h h0 hb0 hs0 hpre hfree hcan hok hC hsw i2 hWS hkn hbody hbad hO hOV hdis
 go_enter Tryz.func71, Tryz.ntmps71
 go_upto_region 1 with fail
 try rw [hW0]
 try rw [hjb]
 clear hW0
 obtain ⟨j0, j1, j2, j3, j4⟩ : W0.cell? ⟨jb, 0, none⟩ = some (.int .u64 f) ∧ W0.cell? ⟨jb, 1, none⟩ = some (.int .u64 p) ∧ W0.cell? ⟨jb, 2, none⟩ = some (.int .u64 d) ∧ W0.cell? ⟨jb, 3, none⟩ = some (.int .u64 r) ∧ W0.cell? ⟨jb, 4, none⟩ = some (.int .u64 m) := by
  refine ⟨?_, ?_, ?_, ?_, ?_⟩ <;> simp [World.cell?, hj0]
 go_cut [39] (fun v39 wx => v39 = .bool false ∧ Below W0.heap.size W0 wx)
 case first =>
  go_wp2_with fail
  refine HBO.out.mono ?_
  rintro e w1 ⟨rfl, hB1⟩
  go_wp2_with fail
  refine (HCAN.out _).mono ?_
  rintro e w2 ⟨rfl, hB2⟩
  have hB3 := zad hB2 hB1
  have hj2 := (hB3.block jb (yya.1 hj0).1).trans hj0
  clear j0 j1 j2 j3 j4
  obtain ⟨j0, j1, j2, j3, j4⟩ : w2.cell? ⟨jb, 0, none⟩ = some (.int .u64 f) ∧ w2.cell? ⟨jb, 1, none⟩ = some (.int .u64 p) ∧ w2.cell? ⟨jb, 2, none⟩ = some (.int .u64 d) ∧ w2.cell? ⟨jb, 3, none⟩ = some (.int .u64 r) ∧ w2.cell? ⟨jb, 4, none⟩ = some (.int .u64 m) := by
   refine ⟨?_, ?_, ?_, ?_, ?_⟩ <;> simp [World.cell?, hj2]
  rcases HOK.out with rfl | ⟨hp, hok⟩
  · go_wp2_with fail
    go_meet
    exact ⟨rfl, hB3⟩
  ·
   have g1 : decide (p > 0) = true := by simpa using hp
   have g2 : decide (0 < p) = true := by simpa using hp
   go_wp2_with fail
   refine (zt1 f p d r m f0 pp0 d0 d1 _).mono ?_
   rintro e w3 ⟨rfl, rfl⟩
   rw [hok]
   go_wp2_with fail
   go_meet
   exact ⟨rfl, zab hB3 _⟩
 case rest =>
 obtain ⟨rfl, hB1⟩ := hcut
 have h1 := HH0.out.below hB1
 have hOV1 := HOV0.out.below hB1
 have hj1 := (hB1.block jb (yya.1 hj0).1).trans hj0
 have hF1 : Fr (fun x => zb5 b g x ∨ x = mb ∨ x = t ∨ some x = rv.ownBlock) W wc := Fr.of_below (zad hB1 HB0.out)
 have hs1 : base ≤ wc.heap.size := Nat.le_trans HS0.out hB1.size
 obtain ⟨k0, k1, k2⟩ := h1.cells
 have H1 := yyh h1
 have HOV1 := yyh hOV1
 clear h1 hj0 hB1 j0 j1 j2 j3 j4 hOV1
 go_wp2_with fail
 refine (HAL.out _ H1.out.ar).mono ?_
 rintro e w4 ⟨rfl, hA4, hF4⟩
 have h4 := H1.out.arFr hF4 hA4
 have hOV4 : zd4 w4.drew (.slice A L.length cb) L := HOV1.out.frOr (hF4.dr) HDIS.out
 have hj4 := (hF4.block jb (yya.1 hj1).1 HJ.out.2.1).trans hj1
 have hF5 : Fr (fun x => zb5 b g x ∨ x = mb ∨ x = t ∨ some x = rv.ownBlock) W w4 := hF1.trans (hF4.mono (fun k hk => Or.inl hk))
 have hs4 : base ≤ w4.heap.size := Nat.le_trans hs1 hF4.size
 clear hj1 hF1 hF4 hA4 hs1 k0 k1 k2
 obtain ⟨k0, k1, k2⟩ := h4.cells
 obtain ⟨j0, j1, j2, j3, j4⟩ : w4.cell? ⟨jb, 0, none⟩ = some (.int .u64 f) ∧ w4.cell? ⟨jb, 1, none⟩ = some (.int .u64 p) ∧ w4.cell? ⟨jb, 2, none⟩ = some (.int .u64 d) ∧ w4.cell? ⟨jb, 3, none⟩ = some (.int .u64 r) ∧ w4.cell? ⟨jb, 4, none⟩ = some (.int .u64 m) := by
  refine ⟨?_, ?_, ?_, ?_, ?_⟩ <;> simp [World.cell?, hj4]
 have H4 := yyh h4
 have HOV4 := yyh hOV4
 have HF5 := yyh hF5
 have HW4 := yyh (show W.heap.size ≤ w4.heap.size from hF5.size)
 clear h4 hOV4
 go_upto_region 6 with fail
 go_cut [] (fun wx => ∃ q cap bv, zbz wx t a b g mb WS (B + n + 2) (.slice (some ⟨q, 0, none⟩) (n + 1) cap) (n + 1) (R ++ zky ((n : Int) + 1) PR d f p r m bv) C base ∧ zd4 wx bv L ∧ (∀ c, bv.ownBlock = some c → W.heap.size ≤ c ∧ c < wx.heap.size ∧ c ≠ q) ∧ (rv.ownBlock = some q ∨ W.heap.size ≤ q) ∧ Fr (fun x => zb5 b g x ∨ x = mb ∨ x = t ∨ some x = rv.ownBlock) W wx)
 case first =>
  obtain ⟨i0, hi0, hz0, hz1, hz2⟩ := info_parts zuy
  have h4d := H4.out.dr
  have HT4 := yyh (show t < w4.drew.heap.size from (yya.1 h4d.hdr).1)
  have HSD := yyh (show w4.drew.cell? ⟨jb, 0, none⟩ = some (.int .u64 f) ∧ w4.drew.cell? ⟨jb, 1, none⟩ = some (.int .u64 p) ∧ w4.drew.cell? ⟨jb, 2, none⟩ = some (.int .u64 d) ∧ w4.drew.cell? ⟨jb, 3, none⟩ = some (.int .u64 r) ∧ w4.drew.cell? ⟨jb, 4, none⟩ = some (.int .u64 m) from ⟨j0, j1, j2, j3, j4⟩)
  have HFACT := yyh (show ∀ w5 : World, Below w4.drew.heap.size w4.drew w5 → ∀ A6 cap6 (o6 : Obj), Obj.cells #[.int .i64 ((n : Int) + 1), .int .i64 PR, .int .i64 0, .int .u64 d, .int .u64 0, .int .u64 0, .int .u64 0, .slice A6 L.length cap6, .int .u64 f, .int .u64 p, .int .u64 d, .int .u64 r, .int .u64 m] 177 = o6 →
   Hid ((w5.alloc o6).ownsRow base 177 13 rv n R) ∧ Hid (∀ j u, (zky ((n : Int) + 1) PR d f p r m (.slice A6 L.length cap6))[j]? = some u → (w5.alloc o6).cell? ((⟨w5.heap.size, 0, none⟩ : Addr).add j) = some u) ∧ Hid ((w5.alloc o6).cell? ⟨t, 1, none⟩ = some rv) ∧ Hid ((w5.alloc o6).frozen? ⟨t, 1, none⟩ = false) ∧ Hid (t < (w5.alloc o6).heap.size) ∧ Hid (some t ≠ rv.ownBlock) ∧ Hid (zbz (w5.alloc o6) t a b g mb WS (B + n + 2) rv n R C base) ∧ Hid ((w5.alloc o6).cell? ⟨jb, 0, none⟩ = some (.int .u64 f) ∧ (w5.alloc o6).cell? ⟨jb, 1, none⟩ = some (.int .u64 p) ∧ (w5.alloc o6).cell? ⟨jb, 2, none⟩ = some (.int .u64 d) ∧ (w5.alloc o6).cell? ⟨jb, 3, none⟩ = some (.int .u64 r) ∧ (w5.alloc o6).cell? ⟨jb, 4, none⟩ = some (.int .u64 m)) ∧ Hid (jb < (w5.alloc o6).heap.size) from by
   intro w5 hB5 A6 cap6 o6 ho6
   have h5 := h4d.below hB5
   have h5o := h5.al o6
   have hnb : (w5.alloc o6).heap[w5.heap.size]? = some (.cells #[.int .i64 ((n : Int) + 1), .int .i64 PR, .int .i64 0, .int .u64 d, .int .u64 0, .int .u64 0, .int .u64 0, .slice A6 L.length cap6, .int .u64 f, .int .u64 p, .int .u64 d, .int .u64 r, .int .u64 m] 177) := by rw [← ho6]; exact heap_alloc_new w5 _
   have hcs : (w5.alloc o6).cell? ⟨jb, 0, none⟩ = some (.int .u64 f) ∧ (w5.alloc o6).cell? ⟨jb, 1, none⟩ = some (.int .u64 p) ∧ (w5.alloc o6).cell? ⟨jb, 2, none⟩ = some (.int .u64 d) ∧ (w5.alloc o6).cell? ⟨jb, 3, none⟩ = some (.int .u64 r) ∧ (w5.alloc o6).cell? ⟨jb, 4, none⟩ = some (.int .u64 m) := by
    refine ⟨?_, ?_, ?_, ?_, ?_⟩
    · exact zae (zab (Below.refl _ w5) o6) (zae hB5 HSD.out.1)
    · exact zae (zab (Below.refl _ w5) o6) (zae hB5 HSD.out.2.1)
    · exact zae (zab (Below.refl _ w5) o6) (zae hB5 HSD.out.2.2.1)
    · exact zae (zab (Below.refl _ w5) o6) (zae hB5 HSD.out.2.2.2.1)
    · exact zae (zab (Below.refl _ w5) o6) (zae hB5 HSD.out.2.2.2.2)
   exact ⟨h5o.rows, World.news_of_block hnb, h5o.cells.2.1, (by simp only [World.frozen?, h5o.hdr]; rfl), (yya.1 h5o.hdr).1, (fun e => by have := (h5o.rows.lt t e.symm).1; have := h5o.lt.1; omega), h5o, hcs, World.block_lt_of_cell? _ _ hcs.1⟩)
  have HEND := yyh (show ∀ w5 : World, Below w4.drew.heap.size w4.drew w5 → ∀ A6 cap6, zd4 w5 (.slice A6 L.length cap6) L → (∀ c, (Value.slice A6 L.length cap6).ownBlock = some c → w4.drew.heap.size ≤ c ∧ c < w5.heap.size) → ∀ o6 : Obj, Obj.cells #[.int .i64 ((n : Int) + 1), .int .i64 PR, .int .i64 0, .int .u64 d, .int .u64 0, .int .u64 0, .int .u64 0, .slice A6 L.length cap6, .int .u64 f, .int .u64 p, .int .u64 d, .int .u64 r, .int .u64 m] 177 = o6 → ∀ q cap w6, (w5.alloc o6).grownBy w6 rv.ownBlock → w6.ownsRow base 177 13 (.slice (some ⟨q, 0, none⟩) (n + 1) cap) (n + 1) (R ++ zky ((n : Int) + 1) PR d f p r m (.slice A6 L.length cap6)) → (rv.ownBlock = some q ∨ q = w5.heap.size + 1) → ∃ q' cap' bv, zbz (w6.setCell ⟨t, 1, none⟩ (.slice (some ⟨q, 0, none⟩) (n + 1) cap)) t a b g mb WS (B + n + 2) (.slice (some ⟨q', 0, none⟩) (n + 1) cap') (n + 1) (R ++ zky ((n : Int) + 1) PR d f p r m bv) C base ∧ zd4 (w6.setCell ⟨t, 1, none⟩ (.slice (some ⟨q, 0, none⟩) (n + 1) cap)) bv L ∧ (∀ c, bv.ownBlock = some c → W.heap.size ≤ c ∧ c < (w6.setCell ⟨t, 1, none⟩ (.slice (some ⟨q, 0, none⟩) (n + 1) cap)).heap.size ∧ c ≠ q') ∧ (rv.ownBlock = some q' ∨ W.heap.size ≤ q') ∧ Fr (fun x => zb5 b g x ∨ x = mb ∨ x = t ∨ some x = rv.ownBlock) W (w6.setCell ⟨t, 1, none⟩ (.slice (some ⟨q, 0, none⟩) (n + 1) cap)) from by
   intro w5 hB5 A6 cap6 hO6 hblk o6 ho6 q cap w6 hgrow hown hat
   have h5o := (h4d.below hB5).al o6
   have hw5 : w4.heap.size ≤ w5.heap.size := hB5.size
   have h45 : W.heap.size ≤ w4.heap.size := HW4.out
   have hF6 : Fr (fun k => some k = rv.ownBlock) (w5.alloc o6) w6 := Fr.of_grown hgrow
   have hsz6 : w5.heap.size + 1 ≤ w6.heap.size := by have := hF6.size; simpa using this
   refine ⟨q, cap, .slice A6 L.length cap6, h5o.grown hgrow hown, ?_, ?_, ?_, ?_⟩
   ·
    refine zd4.fr (zd4.fr (hO6.below (zab (Below.refl _ w5) o6)) hF6 (fun c hc e => ?_)) ((Fr.refl (zc3 t) w6).set (p := ⟨t, 1, none⟩) (show zc3 t t from rfl) _) (fun c hc e => ?_)
    ·
     have h1 := (hblk c hc).1
     have h2 := HWB.out.1 c e.symm
     have h3 : w4.drew.heap.size = w4.heap.size := rfl
     omega
    ·
     have h1 := (hblk c hc).1
     have h2 := HWB.out.2
     have h3 : w4.drew.heap.size = w4.heap.size := rfl
     unfold zc3 at e
     omega
   ·
    intro c hc
    have h1 := hblk c hc
    have h3 : w4.drew.heap.size = w4.heap.size := rfl
    refine ⟨by omega, by simp; omega, fun e => ?_⟩
    rcases hat with h | h
    · have := HWB.out.1 q h; omega
    · omega
   · rcases hat with h | h
     · exact .inl h
     · right; omega
   · exact (((HF5.out.dr).trans (Fr.of_below hB5)).al o6).trans ((hF6.mono (fun k hk => .inr (.inr (.inr hk)))).set (p := ⟨t, 1, none⟩) (.inr (.inr (.inl rfl))) _))
  clear h4d
  refine wp_region_held_drew (S := (fun X => X.cell? ⟨jb, 0, none⟩ = some (.int .u64 f) ∧ X.cell? ⟨jb, 1, none⟩ = some (.int .u64 p) ∧ X.cell? ⟨jb, 2, none⟩ = some (.int .u64 d) ∧ X.cell? ⟨jb, 3, none⟩ = some (.int .u64 r) ∧ X.cell? ⟨jb, 4, none⟩ = some (.int .u64 m))) (by kernel_rfl) ?_ (fun hH => ?_)
  · (try dsimp only); (first | exact HSD.out | exact HS5.out | exact HSO.out | assumption | exact zaw hgrow HJ2.out HJ.out.2.2 HSO.out | exact zbq ((Fr.refl (zc3 t) _).set (p := ⟨t, 1, none⟩) (show zc3 t t from rfl) _) HJ.out.1 (zaw hgrow HJ2.out HJ.out.2.2 HSO.out))
  refine tq 0 ?_ rfl ?_ ?_
  rotate_left
  · (intro w hSw; (try dsimp only at hSw); go_simp; try with_reducible rfl)
  try simp only [Act.put, pA, pB, pC]
  refine tq 1 ?_ rfl ?_ ?_
  rotate_left
  · (intro w hSw; (try dsimp only at hSw); go_simp; try with_reducible rfl)
  try simp only [Act.put, pA, pB, pC]
  refine tq 2 ?_ rfl ?_ ?_
  rotate_left
  · (intro w hSw; (try dsimp only at hSw); go_simp; try with_reducible rfl)
  try simp only [Act.put, pA, pB, pC]
  refine tq 3 ?_ rfl ?_ ?_
  rotate_left
  · (intro w hSw; (try dsimp only at hSw); go_simp; try with_reducible rfl)
  try simp only [Act.put, pA, pB, pC]
  refine tq 5 ?_ rfl ?_ ?_
  rotate_left
  · (intro w hSw; (try dsimp only at hSw); go_simp; try with_reducible rfl)
  try simp only [Act.put, pA, pB, pC]
  refine tq 6 ?_ rfl ?_ ?_
  rotate_left
  · (intro w hSw; (try dsimp only at hSw); go_simp; try with_reducible rfl)
  try simp only [Act.put, pA, pB, pC]
  refine tq 7 ?_ rfl ?_ ?_
  rotate_left
  · (intro w hSw; (try dsimp only at hSw); go_simp; try with_reducible rfl)
  try simp only [Act.put, pA, pB, pC]
  refine tq 8 ?_ rfl ?_ ?_
  rotate_left
  · (intro w hSw; (try dsimp only at hSw); go_simp; try with_reducible rfl)
  try simp only [Act.put, pA, pB, pC]
  refine tq 9 ?_ rfl ?_ ?_
  rotate_left
  · (intro w hSw; (try dsimp only at hSw); go_simp; try with_reducible rfl)
  try simp only [Act.put, pA, pB, pC]
  refine tq 10 ?_ rfl ?_ ?_
  rotate_left
  · (intro w hSw; (try dsimp only at hSw); go_simp; try with_reducible rfl)
  try simp only [Act.put, pA, pB, pC]
  refine tq 13 ?_ rfl ?_ ?_
  rotate_left
  · (intro w hSw; (try dsimp only at hSw); go_simp; try with_reducible rfl)
  try simp only [Act.put, pA, pB, pC]
  refine wpAnyH_ready (rs := [4, 11]) (by kernel_rfl) (by simp) ?_
  refine AllReadyH.cons rfl (fun K hK => ?_) ?_
  ·
   go_simp
   refine hK.out _ _ ?_ (fun hH => ?_)
   · (try dsimp only); (first | exact HSD.out | exact HS5.out | exact HSO.out | assumption | exact zaw hgrow HJ2.out HJ.out.2.2 HSO.out | exact zbq ((Fr.refl (zc3 t) _).set (p := ⟨t, 1, none⟩) (show zc3 t t from rfl) _) HJ.out.1 (zaw hgrow HJ2.out HJ.out.2.2 HSO.out))
   clear hK K
   refine rd 11 (by kernel_rfl) rfl (fun K hK => ?_)
   ·
    (go_simp; go_at_call 124; refine (zg6 hL HOV4.out).mono ?_; rintro e w5 ⟨v5, rfl, hO5, hf5, hB5⟩; have hb5 := World.cell?_of_block (w := w4.drew) (w' := w5) (a := ⟨t, 1, none⟩) (hB5.block t HT4.out); have k1x : w5.cell? ⟨t, 1, none⟩ = some rv := hb5.trans k1; have HS5 := yyh (show w5.cell? ⟨jb, 0, none⟩ = some (.int .u64 f) ∧ w5.cell? ⟨jb, 1, none⟩ = some (.int .u64 p) ∧ w5.cell? ⟨jb, 2, none⟩ = some (.int .u64 d) ∧ w5.cell? ⟨jb, 3, none⟩ = some (.int .u64 r) ∧ w5.cell? ⟨jb, 4, none⟩ = some (.int .u64 m) from ⟨zae hB5 (HSD.out.1), zae hB5 (HSD.out.2.1), zae hB5 (HSD.out.2.2.1), zae hB5 (HSD.out.2.2.2.1), zae hB5 (HSD.out.2.2.2.2)⟩); clear hb5)
    refine hK.out _ _ ?_ (fun hH => ?_)
    · (try dsimp only); (first | exact HSD.out | exact HS5.out | exact HSO.out | assumption | exact zaw hgrow HJ2.out HJ.out.2.2 HSO.out | exact zbq ((Fr.refl (zc3 t) _).set (p := ⟨t, 1, none⟩) (show zc3 t t from rfl) _) HJ.out.1 (zaw hgrow HJ2.out HJ.out.2.2 HSO.out))
    clear hK K
    refine rd 12 (by kernel_rfl) rfl (fun K hK => ?_)
    ·
     (go_simp; go_at_call 123; refine (zge hO5).mono ?_; rintro e w5' ⟨v6, rfl, hO6, hb6, rfl⟩; obtain ⟨A6, cap6, rfl, -⟩ := hO6.form; obtain ⟨o6, ho6⟩ : ∃ o : Obj, Obj.cells #[.int .i64 ((n : Int) + 1), .int .i64 PR, .int .i64 0, .int .u64 d, .int .u64 0, .int .u64 0, .int .u64 0, .slice A6 L.length cap6, .int .u64 f, .int .u64 p, .int .u64 d, .int .u64 r, .int .u64 m] 177 = o := ⟨_, rfl⟩; obtain ⟨HOWN, HNEWS, HTC, HTF, HTL, HTN, H4O, HSO, HJ2⟩ := HFACT.out w5 hB5 A6 cap6 o6 ho6; have k1y := HTC.out)
     refine hK.out _ _ ?_ (fun hH => ?_)
     · (try dsimp only); (first | exact HSD.out | exact HS5.out | exact HSO.out | assumption | exact zaw hgrow HJ2.out HJ.out.2.2 HSO.out | exact zbq ((Fr.refl (zc3 t) _).set (p := ⟨t, 1, none⟩) (show zc3 t t from rfl) _) HJ.out.1 (zaw hgrow HJ2.out HJ.out.2.2 HSO.out))
     clear hK K
     refine tq 14 ?_ rfl ?_ ?_
     rotate_left
     · (intro w hSw; (try dsimp only at hSw); go_simp; try with_reducible rfl)
     try simp only [Act.put, pA, pB, pC]
     refine rd 15 (by kernel_rfl) rfl (fun K hK => ?_)
     ·
      go_simp
      refine hK.out _ _ ?_ (fun hH => ?_)
      · (try dsimp only); (first | exact HSD.out | exact HS5.out | exact HSO.out | assumption | exact zaw hgrow HJ2.out HJ.out.2.2 HSO.out | exact zbq ((Fr.refl (zc3 t) _).set (p := ⟨t, 1, none⟩) (show zc3 t t from rfl) _) HJ.out.1 (zaw hgrow HJ2.out HJ.out.2.2 HSO.out))
      clear hK K
      refine rd 16 (by kernel_rfl) rfl (fun K hK => ?_)
      ·
       (refine step_append_lies _ rfl (.tmp 56) (.tmp 67) 160 rfl base 177 i0 zw8 13 120 Tryz.underlying160 hi0 hz0 hz1 hz2 rfl (by decide) rv n R (by simp [Act.eval, Act.put]) HOWN.out ⟨w5.heap.size, 0, none⟩ 1 1 (zky ((n : Int) + 1) PR d f p r m (.slice A6 L.length cap6)) (by simp [Act.eval, Act.put]) rfl HNEWS.out (zgg _ _ _ _ _ _ _ _ _ _) (by decide) (by unfold maxLen; omega) (by omega) (by simp; have := hB5.size; have : w4.drew.heap.size = w4.heap.size := rfl; omega) (w5.heap.size + 1) (by simp) ?_; intro q cap w6 hown hgrow hat hlt; have tc := (hgrow.cell_far ⟨t, 1, none⟩ HTL.out HTN.out).trans HTC.out; have tf := (hgrow.frozen_far ⟨t, 1, none⟩ HTL.out HTN.out).trans HTF.out)
       refine hK.out _ _ ?_ (fun hH => ?_)
       · (try dsimp only); (first | exact HSD.out | exact HS5.out | exact HSO.out | assumption | exact zaw hgrow HJ2.out HJ.out.2.2 HSO.out | exact zbq ((Fr.refl (zc3 t) _).set (p := ⟨t, 1, none⟩) (show zc3 t t from rfl) _) HJ.out.1 (zaw hgrow HJ2.out HJ.out.2.2 HSO.out))
       clear hK K
       refine tq 17 ?_ rfl ?_ ?_
       rotate_left
       · (intro w hSw; (try dsimp only at hSw); go_simp; try with_reducible rfl)
       try simp only [Act.put, pA, pB, pC]
       refine tq 18 ?_ rfl ?_ ?_
       rotate_left
       · (intro w hSw; (try dsimp only at hSw); go_simp; try with_reducible rfl)
       try simp only [Act.put, pA, pB, pC]
       refine rd 19 (by kernel_rfl) rfl (fun K hK => ?_)
       ·
        go_simp
        refine hK.out _ _ ?_ (fun hH => ?_)
        · (try dsimp only); (first | exact HSD.out | exact HS5.out | exact HSO.out | assumption | exact zaw hgrow HJ2.out HJ.out.2.2 HSO.out | exact zbq ((Fr.refl (zc3 t) _).set (p := ⟨t, 1, none⟩) (show zc3 t t from rfl) _) HJ.out.1 (zaw hgrow HJ2.out HJ.out.2.2 HSO.out))
        clear hK K
        refine wpAnyH_done (by kernel_rfl) ?_ _
        go_wp2_with fail
        go_meet
        exact HEND.out w5 hB5 A6 cap6 hO6 (by rw [hb6]; exact hf5) o6 ho6 q cap w6 hgrow hown hat
  refine AllReadyH.cons rfl (fun K hK => ?_) ?_
  ·
   (go_simp; go_at_call 124; refine (zg6 hL HOV4.out).mono ?_; rintro e w5 ⟨v5, rfl, hO5, hf5, hB5⟩; have hb5 := World.cell?_of_block (w := w4.drew) (w' := w5) (a := ⟨t, 1, none⟩) (hB5.block t HT4.out); have k1x : w5.cell? ⟨t, 1, none⟩ = some rv := hb5.trans k1; have HS5 := yyh (show w5.cell? ⟨jb, 0, none⟩ = some (.int .u64 f) ∧ w5.cell? ⟨jb, 1, none⟩ = some (.int .u64 p) ∧ w5.cell? ⟨jb, 2, none⟩ = some (.int .u64 d) ∧ w5.cell? ⟨jb, 3, none⟩ = some (.int .u64 r) ∧ w5.cell? ⟨jb, 4, none⟩ = some (.int .u64 m) from ⟨zae hB5 (HSD.out.1), zae hB5 (HSD.out.2.1), zae hB5 (HSD.out.2.2.1), zae hB5 (HSD.out.2.2.2.1), zae hB5 (HSD.out.2.2.2.2)⟩); clear hb5)
   refine hK.out _ _ ?_ (fun hH => ?_)
   · (try dsimp only); (first | exact HSD.out | exact HS5.out | exact HSO.out | assumption | exact zaw hgrow HJ2.out HJ.out.2.2 HSO.out | exact zbq ((Fr.refl (zc3 t) _).set (p := ⟨t, 1, none⟩) (show zc3 t t from rfl) _) HJ.out.1 (zaw hgrow HJ2.out HJ.out.2.2 HSO.out))
   clear hK K
   refine wpAnyH_ready (rs := [4, 12]) (by kernel_rfl) (by simp) ?_
   refine AllReadyH.cons rfl (fun K hK => ?_) ?_
   ·
    go_simp
    refine hK.out _ _ ?_ (fun hH => ?_)
    · (try dsimp only); (first | exact HSD.out | exact HS5.out | exact HSO.out | assumption | exact zaw hgrow HJ2.out HJ.out.2.2 HSO.out | exact zbq ((Fr.refl (zc3 t) _).set (p := ⟨t, 1, none⟩) (show zc3 t t from rfl) _) HJ.out.1 (zaw hgrow HJ2.out HJ.out.2.2 HSO.out))
    clear hK K
    refine rd 12 (by kernel_rfl) rfl (fun K hK => ?_)
    ·
     (go_simp; go_at_call 123; refine (zge hO5).mono ?_; rintro e w5' ⟨v6, rfl, hO6, hb6, rfl⟩; obtain ⟨A6, cap6, rfl, -⟩ := hO6.form; obtain ⟨o6, ho6⟩ : ∃ o : Obj, Obj.cells #[.int .i64 ((n : Int) + 1), .int .i64 PR, .int .i64 0, .int .u64 d, .int .u64 0, .int .u64 0, .int .u64 0, .slice A6 L.length cap6, .int .u64 f, .int .u64 p, .int .u64 d, .int .u64 r, .int .u64 m] 177 = o := ⟨_, rfl⟩; obtain ⟨HOWN, HNEWS, HTC, HTF, HTL, HTN, H4O, HSO, HJ2⟩ := HFACT.out w5 hB5 A6 cap6 o6 ho6; have k1y := HTC.out)
     refine hK.out _ _ ?_ (fun hH => ?_)
     · (try dsimp only); (first | exact HSD.out | exact HS5.out | exact HSO.out | assumption | exact zaw hgrow HJ2.out HJ.out.2.2 HSO.out | exact zbq ((Fr.refl (zc3 t) _).set (p := ⟨t, 1, none⟩) (show zc3 t t from rfl) _) HJ.out.1 (zaw hgrow HJ2.out HJ.out.2.2 HSO.out))
     clear hK K
     refine tq 14 ?_ rfl ?_ ?_
     rotate_left
     · (intro w hSw; (try dsimp only at hSw); go_simp; try with_reducible rfl)
     try simp only [Act.put, pA, pB, pC]
     refine rd 15 (by kernel_rfl) rfl (fun K hK => ?_)
     ·
      go_simp
      refine hK.out _ _ ?_ (fun hH => ?_)
      · (try dsimp only); (first | exact HSD.out | exact HS5.out | exact HSO.out | assumption | exact zaw hgrow HJ2.out HJ.out.2.2 HSO.out | exact zbq ((Fr.refl (zc3 t) _).set (p := ⟨t, 1, none⟩) (show zc3 t t from rfl) _) HJ.out.1 (zaw hgrow HJ2.out HJ.out.2.2 HSO.out))
      clear hK K
      refine rd 16 (by kernel_rfl) rfl (fun K hK => ?_)
      ·
       (refine step_append_lies _ rfl (.tmp 56) (.tmp 67) 160 rfl base 177 i0 zw8 13 120 Tryz.underlying160 hi0 hz0 hz1 hz2 rfl (by decide) rv n R (by simp [Act.eval, Act.put]) HOWN.out ⟨w5.heap.size, 0, none⟩ 1 1 (zky ((n : Int) + 1) PR d f p r m (.slice A6 L.length cap6)) (by simp [Act.eval, Act.put]) rfl HNEWS.out (zgg _ _ _ _ _ _ _ _ _ _) (by decide) (by unfold maxLen; omega) (by omega) (by simp; have := hB5.size; have : w4.drew.heap.size = w4.heap.size := rfl; omega) (w5.heap.size + 1) (by simp) ?_; intro q cap w6 hown hgrow hat hlt; have tc := (hgrow.cell_far ⟨t, 1, none⟩ HTL.out HTN.out).trans HTC.out; have tf := (hgrow.frozen_far ⟨t, 1, none⟩ HTL.out HTN.out).trans HTF.out)
       refine hK.out _ _ ?_ (fun hH => ?_)
       · (try dsimp only); (first | exact HSD.out | exact HS5.out | exact HSO.out | assumption | exact zaw hgrow HJ2.out HJ.out.2.2 HSO.out | exact zbq ((Fr.refl (zc3 t) _).set (p := ⟨t, 1, none⟩) (show zc3 t t from rfl) _) HJ.out.1 (zaw hgrow HJ2.out HJ.out.2.2 HSO.out))
       clear hK K
       refine tq 17 ?_ rfl ?_ ?_
       rotate_left
       · (intro w hSw; (try dsimp only at hSw); go_simp; try with_reducible rfl)
       try simp only [Act.put, pA, pB, pC]
       refine tq 18 ?_ rfl ?_ ?_
       rotate_left
       · (intro w hSw; (try dsimp only at hSw); go_simp; try with_reducible rfl)
       try simp only [Act.put, pA, pB, pC]
       refine rd 19 (by kernel_rfl) rfl (fun K hK => ?_)
       ·
        go_simp
        refine hK.out _ _ ?_ (fun hH => ?_)
        · (try dsimp only); (first | exact HSD.out | exact HS5.out | exact HSO.out | assumption | exact zaw hgrow HJ2.out HJ.out.2.2 HSO.out | exact zbq ((Fr.refl (zc3 t) _).set (p := ⟨t, 1, none⟩) (show zc3 t t from rfl) _) HJ.out.1 (zaw hgrow HJ2.out HJ.out.2.2 HSO.out))
        clear hK K
        refine wpAnyH_done (by kernel_rfl) ?_ _
        go_wp2_with fail
        go_meet
        exact HEND.out w5 hB5 A6 cap6 hO6 (by rw [hb6]; exact hf5) o6 ho6 q cap w6 hgrow hown hat
   refine AllReadyH.cons rfl (fun K hK => ?_) ?_
   ·
    (go_simp; go_at_call 123; refine (zge hO5).mono ?_; rintro e w5' ⟨v6, rfl, hO6, hb6, rfl⟩; obtain ⟨A6, cap6, rfl, -⟩ := hO6.form; obtain ⟨o6, ho6⟩ : ∃ o : Obj, Obj.cells #[.int .i64 ((n : Int) + 1), .int .i64 PR, .int .i64 0, .int .u64 d, .int .u64 0, .int .u64 0, .int .u64 0, .slice A6 L.length cap6, .int .u64 f, .int .u64 p, .int .u64 d, .int .u64 r, .int .u64 m] 177 = o := ⟨_, rfl⟩; obtain ⟨HOWN, HNEWS, HTC, HTF, HTL, HTN, H4O, HSO, HJ2⟩ := HFACT.out w5 hB5 A6 cap6 o6 ho6; have k1y := HTC.out)
    refine hK.out _ _ ?_ (fun hH => ?_)
    · (try dsimp only); (first | exact HSD.out | exact HS5.out | exact HSO.out | assumption | exact zaw hgrow HJ2.out HJ.out.2.2 HSO.out | exact zbq ((Fr.refl (zc3 t) _).set (p := ⟨t, 1, none⟩) (show zc3 t t from rfl) _) HJ.out.1 (zaw hgrow HJ2.out HJ.out.2.2 HSO.out))
    clear hK K
    refine tq 14 ?_ rfl ?_ ?_
    rotate_left
    · (intro w hSw; (try dsimp only at hSw); go_simp; try with_reducible rfl)
    try simp only [Act.put, pA, pB, pC]
    refine wpAnyH_ready (rs := [4, 15]) (by kernel_rfl) (by simp) ?_
    refine AllReadyH.cons rfl (fun K hK => ?_) ?_
    ·
     go_simp
     refine hK.out _ _ ?_ (fun hH => ?_)
     · (try dsimp only); (first | exact HSD.out | exact HS5.out | exact HSO.out | assumption | exact zaw hgrow HJ2.out HJ.out.2.2 HSO.out | exact zbq ((Fr.refl (zc3 t) _).set (p := ⟨t, 1, none⟩) (show zc3 t t from rfl) _) HJ.out.1 (zaw hgrow HJ2.out HJ.out.2.2 HSO.out))
     clear hK K
     refine rd 15 (by kernel_rfl) rfl (fun K hK => ?_)
     ·
      go_simp
      refine hK.out _ _ ?_ (fun hH => ?_)
      · (try dsimp only); (first | exact HSD.out | exact HS5.out | exact HSO.out | assumption | exact zaw hgrow HJ2.out HJ.out.2.2 HSO.out | exact zbq ((Fr.refl (zc3 t) _).set (p := ⟨t, 1, none⟩) (show zc3 t t from rfl) _) HJ.out.1 (zaw hgrow HJ2.out HJ.out.2.2 HSO.out))
      clear hK K
      refine rd 16 (by kernel_rfl) rfl (fun K hK => ?_)
      ·
       (refine step_append_lies _ rfl (.tmp 56) (.tmp 67) 160 rfl base 177 i0 zw8 13 120 Tryz.underlying160 hi0 hz0 hz1 hz2 rfl (by decide) rv n R (by simp [Act.eval, Act.put]) HOWN.out ⟨w5.heap.size, 0, none⟩ 1 1 (zky ((n : Int) + 1) PR d f p r m (.slice A6 L.length cap6)) (by simp [Act.eval, Act.put]) rfl HNEWS.out (zgg _ _ _ _ _ _ _ _ _ _) (by decide) (by unfold maxLen; omega) (by omega) (by simp; have := hB5.size; have : w4.drew.heap.size = w4.heap.size := rfl; omega) (w5.heap.size + 1) (by simp) ?_; intro q cap w6 hown hgrow hat hlt; have tc := (hgrow.cell_far ⟨t, 1, none⟩ HTL.out HTN.out).trans HTC.out; have tf := (hgrow.frozen_far ⟨t, 1, none⟩ HTL.out HTN.out).trans HTF.out)
       refine hK.out _ _ ?_ (fun hH => ?_)
       · (try dsimp only); (first | exact HSD.out | exact HS5.out | exact HSO.out | assumption | exact zaw hgrow HJ2.out HJ.out.2.2 HSO.out | exact zbq ((Fr.refl (zc3 t) _).set (p := ⟨t, 1, none⟩) (show zc3 t t from rfl) _) HJ.out.1 (zaw hgrow HJ2.out HJ.out.2.2 HSO.out))
       clear hK K
       refine tq 17 ?_ rfl ?_ ?_
       rotate_left
       · (intro w hSw; (try dsimp only at hSw); go_simp; try with_reducible rfl)
       try simp only [Act.put, pA, pB, pC]
       refine tq 18 ?_ rfl ?_ ?_
       rotate_left
       · (intro w hSw; (try dsimp only at hSw); go_simp; try with_reducible rfl)
       try simp only [Act.put, pA, pB, pC]
       refine rd 19 (by kernel_rfl) rfl (fun K hK => ?_)
       ·
        go_simp
        refine hK.out _ _ ?_ (fun hH => ?_)
        · (try dsimp only); (first | exact HSD.out | exact HS5.out | exact HSO.out | assumption | exact zaw hgrow HJ2.out HJ.out.2.2 HSO.out | exact zbq ((Fr.refl (zc3 t) _).set (p := ⟨t, 1, none⟩) (show zc3 t t from rfl) _) HJ.out.1 (zaw hgrow HJ2.out HJ.out.2.2 HSO.out))
        clear hK K
        refine wpAnyH_done (by kernel_rfl) ?_ _
        go_wp2_with fail
        go_meet
        exact HEND.out w5 hB5 A6 cap6 hO6 (by rw [hb6]; exact hf5) o6 ho6 q cap w6 hgrow hown hat
    refine AllReadyH.cons rfl (fun K hK => ?_) ?_
    ·
     go_simp
     refine hK.out _ _ ?_ (fun hH => ?_)
     · (try dsimp only); (first | exact HSD.out | exact HS5.out | exact HSO.out | assumption | exact zaw hgrow HJ2.out HJ.out.2.2 HSO.out | exact zbq ((Fr.refl (zc3 t) _).set (p := ⟨t, 1, none⟩) (show zc3 t t from rfl) _) HJ.out.1 (zaw hgrow HJ2.out HJ.out.2.2 HSO.out))
     clear hK K
     refine rd 4 (by kernel_rfl) rfl (fun K hK => ?_)
     ·
      go_simp
      refine hK.out _ _ ?_ (fun hH => ?_)
      · (try dsimp only); (first | exact HSD.out | exact HS5.out | exact HSO.out | assumption | exact zaw hgrow HJ2.out HJ.out.2.2 HSO.out | exact zbq ((Fr.refl (zc3 t) _).set (p := ⟨t, 1, none⟩) (show zc3 t t from rfl) _) HJ.out.1 (zaw hgrow HJ2.out HJ.out.2.2 HSO.out))
      clear hK K
      refine rd 16 (by kernel_rfl) rfl (fun K hK => ?_)
      ·
       (refine step_append_lies _ rfl (.tmp 56) (.tmp 67) 160 rfl base 177 i0 zw8 13 120 Tryz.underlying160 hi0 hz0 hz1 hz2 rfl (by decide) rv n R (by simp [Act.eval, Act.put]) HOWN.out ⟨w5.heap.size, 0, none⟩ 1 1 (zky ((n : Int) + 1) PR d f p r m (.slice A6 L.length cap6)) (by simp [Act.eval, Act.put]) rfl HNEWS.out (zgg _ _ _ _ _ _ _ _ _ _) (by decide) (by unfold maxLen; omega) (by omega) (by simp; have := hB5.size; have : w4.drew.heap.size = w4.heap.size := rfl; omega) (w5.heap.size + 1) (by simp) ?_; intro q cap w6 hown hgrow hat hlt; have tc := (hgrow.cell_far ⟨t, 1, none⟩ HTL.out HTN.out).trans HTC.out; have tf := (hgrow.frozen_far ⟨t, 1, none⟩ HTL.out HTN.out).trans HTF.out)
       refine hK.out _ _ ?_ (fun hH => ?_)
       · (try dsimp only); (first | exact HSD.out | exact HS5.out | exact HSO.out | assumption | exact zaw hgrow HJ2.out HJ.out.2.2 HSO.out | exact zbq ((Fr.refl (zc3 t) _).set (p := ⟨t, 1, none⟩) (show zc3 t t from rfl) _) HJ.out.1 (zaw hgrow HJ2.out HJ.out.2.2 HSO.out))
       clear hK K
       refine tq 17 ?_ rfl ?_ ?_
       rotate_left
       · (intro w hSw; (try dsimp only at hSw); go_simp; try with_reducible rfl)
       try simp only [Act.put, pA, pB, pC]
       refine tq 18 ?_ rfl ?_ ?_
       rotate_left
       · (intro w hSw; (try dsimp only at hSw); go_simp; try with_reducible rfl)
       try simp only [Act.put, pA, pB, pC]
       refine rd 19 (by kernel_rfl) rfl (fun K hK => ?_)
       ·
        go_simp
        refine hK.out _ _ ?_ (fun hH => ?_)
        · (try dsimp only); (first | exact HSD.out | exact HS5.out | exact HSO.out | assumption | exact zaw hgrow HJ2.out HJ.out.2.2 HSO.out | exact zbq ((Fr.refl (zc3 t) _).set (p := ⟨t, 1, none⟩) (show zc3 t t from rfl) _) HJ.out.1 (zaw hgrow HJ2.out HJ.out.2.2 HSO.out))
        clear hK K
        refine wpAnyH_done (by kernel_rfl) ?_ _
        go_wp2_with fail
        go_meet
        exact HEND.out w5 hB5 A6 cap6 hO6 (by rw [hb6]; exact hf5) o6 ho6 q cap w6 hgrow hown hat
    exact AllReadyH.nil
   exact AllReadyH.nil
  exact AllReadyH.nil
 case rest =>
 clear hj4 hF5 hs4 k0 k1 k2 j0 j1 j2 j3 j4
 obtain ⟨q, cap, bv, h5, hO5, hbv, hqq, hF6⟩ := hcut
 obtain ⟨k0, k1, k2⟩ := h5.cells
 have H5 := yyh h5
 have HO5 := yyh hO5
 have HBV := yyh hbv
 have HMB := yyh (show mb < W.heap.size from by have := h5.lt; omega)
 have HQQ := yyh hqq
 clear h5 hO5 hbv hqq
 go_upto_region 7 with fail
 go_cut [] (fun wx => zbz wx t a b g mb WS (B + n + 2) (.slice (some ⟨q, 0, none⟩) (n + 1) cap) (n + 1) (R ++ zky ((n : Int) + 1) PR d f p r m bv) (zkw C s PR (C s PR + 1)) base ∧ zd4 wx bv L ∧ (∀ c, bv.ownBlock = some c → W.heap.size ≤ c ∧ c < wx.heap.size ∧ c ≠ q) ∧ Fr (fun x => zb5 b g x ∨ x = mb ∨ x = t ∨ some x = rv.ownBlock) W wx)
 case first =>
  have h2d := H5.out.dr
  have hO2 : zd4 wc.drew bv L := HO5.out.fr (Fr.refl (fun _ => False) _).dr (fun _ _ h => h)
  obtain ⟨f0', f1', f2'⟩ := h2d.cells
  have hl1 := h2d.map.look s PR I3.out I2.out
  obtain ⟨st1, es1, ck1, hen1, hmid, hst1⟩ := h2d.map.entry s PR I3.out I2.out
  have h2m := h2d.setMap hmid
  obtain ⟨g0, g1, g2⟩ := h2m.cells
  have hl2 := hmid.look s PR I3.out I2.out
  have hcb := HCB.out s PR
  obtain ⟨C0, hC0⟩ : ∃ z, C s PR = z := ⟨_, rfl⟩
  rw [hC0] at hl1 hl2 hen1 hcb
  have hwr : IntKind.i64.wrap (C0 + 1) = C0 + 1 := by rw [IntKind.wrap_i64]; omega
  obtain ⟨es2, ck2, hes1, hcm1⟩ := hst1 (C0 + 1)
  have H2D := yyh h2d
  have HO2 := yyh hO2
  have HCM1 := yyh hcm1
  have HC0 := yyh hC0
  clear h2d h2m hmid hst1 hcm1 hC0 k0 k1 k2 hO2
  go_region
  all_goals
   go_wp2_with fail
   go_meet
   rw [HC0.out]
   refine ⟨H2D.out.setMap HCM1.out, HO2.out.fr (Fr.of_setBlk (S := fun k => k = mb) _ _ _ rfl) (fun c hc e => ?_), fun c hc => ?_, (hF6.dr).trans (Fr.of_setBlk _ _ _ (.inr (.inl rfl)))⟩
   · have h1 := (HBV.out c hc).1; have h2 := HMB.out; omega
   · have h1 := HBV.out c hc; exact ⟨h1.1, by rw [zbj]; exact h1.2.1, h1.2.2⟩
 case rest =>
 clear k0 k1 k2 hF6
 obtain ⟨h6, hO6, hbv6, hF7⟩ := hcut
 have H6 := yyh h6
 have HO6 := yyh hO6
 have HBV6 := yyh hbv6
 clear h6 hO6 hbv6
 go_wp2_with fail
 go_ret2
 exact ⟨q, cap, bv, rfl, H6.out, HO6.out, HBV6.out, HQQ.out, hF7⟩
end
end Go.Proofs.YtcfhkbcllijnkaaGreat
