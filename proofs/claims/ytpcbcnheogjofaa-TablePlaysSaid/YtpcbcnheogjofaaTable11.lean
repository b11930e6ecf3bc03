/- Contracts of package table: All. -/
import Derived.Test.YtpcbcnheogjofaaTable10
namespace Go.Proofs.Ytpcbcnheogjofaa
open Go.RowKit Go.Maps Go.Shelf Go.Proofs.YtpcbcnheogjofaaW.PrintWords
set_option linter.unusedVariables false
set_option linter.unusedSimpArgs false

def taskV (k : Nat) (s : Int) (T : Tk) : List Value := [.int .i64 ((k : Int) + 1), .int .i64 T.pr, .int .i64 s, .int .u64 T.du, .int .u64 T.ke, .int .u64 T.RU, .int .u64 T.MI]
def allV (st : Nat → Int) (TT : Nat → Tk) : Nat → List Value
  | 0 => []
  | k + 1 => allV st TT k ++ taskV k (st k) (TT k)
theorem allV_len (st : Nat → Int) (TT : Nat → Tk) (n : Nat) : (allV st TT n).length = n * 7 := by
  induction n with
  | zero => rfl
  | succ k ih => simp only [allV, List.length_append, ih]; simp [taskV]; omega
theorem allV_at (st : Nat → Int) (TT : Nat → Tk) (n k j : Nat) (hk : k < n) (hj : j < 7) : (allV st TT n)[k * 7 + j]? = (taskV k (st k) (TT k))[j]? := by
  induction n with
  | zero => omega
  | succ i ih =>
    simp only [allV]
    rcases Nat.lt_or_ge k i with h | h
    · rw [List.getElem?_append_left (by rw [allV_len]; omega)]
      exact ih h
    · obtain rfl : k = i := by omega
      rw [List.getElem?_append_right (by rw [allV_len]; omega), allV_len, show k * 7 + j - k * 7 = j from by omega]
theorem taskV_one (k : Nat) (s : Int) (T : Tk) : ∀ u ∈ taskV k s T, u.oneCell' = true := by
  intro u hu
  simp only [taskV, List.mem_cons, List.not_mem_nil, or_false] at hu
  rcases hu with rfl | rfl | rfl | rfl | rfl | rfl | rfl <;> rfl
def taskZ : Value := .agg #[.int .i64 0, .int .i64 0, .int .i64 0, .int .u64 0, .int .u64 0, .int .u64 0, .int .u64 0]
theorem taskInfo : (Try.prog.info? 98).map (fun i => (i.zero, i.size, i.bytes)) = some (some taskZ, 7, 56) := by kernel_rfl
theorem ownsRow_fr {S : Nat → Prop} {w w' : World} {base : Nat} {e : TypeId} {size : Nat} {v : Value} {n : Nat} {xs : List Value} (h : w.ownsRow base e size v n xs) (f : Fr S w w') (hn : ∀ c, v.ownBlock = some c → ¬ S c) : w'.ownsRow base e size v n xs := by
  refine ⟨h.1, ?_⟩
  rcases h.2 with h2 | ⟨g, cap, cur, rfl, hb, hgg, rest⟩
  · exact .inl h2
  · exact .inr ⟨g, cap, cur, rfl, hb, (f.block g (Array.getElem?_eq_some_iff.1 hgg).1 (hn g rfl)).trans hgg, rest⟩
theorem Fr.of_grown {w w' : World} {row : Option Nat} (hg : w.grownBy w' row) : Fr (fun k => some k = row) w w' := ⟨hg.os, hg.tape, hg.output, hg.size, fun k hk hn => hg.block k hk hn⟩
/-- A row of all tasks. -/
def TasksAt (W : World) (lo : Nat) (v : Value) (n : Nat) (xs : List Value) : Prop :=
  (n = 0 ∧ v = .slice none 0 0) ∨ ∃ c, v = .slice (some ⟨c, 0, none⟩) n n ∧ lo ≤ c ∧ c < W.heap.size ∧ ∀ j, j < n * 7 → W.cell? ⟨c, j, none⟩ = xs[j]?
section
variable {W W' : World} {t a b g mb : Nat} {ws : List Int} {B : Int} {rv : Value} {n : Nat} {R : List Value} {C : Int → Int → Int} {base : Nat} {q cap : Nat}
theorem TbAt.frAll {S : Nat → Prop} (h : TbAt W t a b g mb ws B rv n R C base) (f : Fr S W W') (hn : ∀ x, (x = t ∨ x = a ∨ x = b ∨ x = g ∨ x = mb ∨ rv.ownBlock = some x) → ¬ S x) : TbAt W' t a b g mb ws B rv n R C base := by
  obtain ⟨fm, ⟨es, clock, h1, h2⟩, hf⟩ := h.map
  exact ⟨(f.block t (Array.getElem?_eq_some_iff.1 h.hdr).1 (hn t (.inl rfl))).trans h.hdr, h.ar.fr f (hn a (.inr (.inl rfl))) (hn b (.inr (.inr (.inl rfl)))) (hn g (.inr (.inr (.inr (.inl rfl))))), ownsRow_fr h.rows f (fun c hc => hn c (.inr (.inr (.inr (.inr (.inr hc)))))), CntM.of_block ⟨fm, ⟨es, clock, h1, h2⟩, hf⟩ (f.block mb (Array.getElem?_eq_some_iff.1 h1).1 (hn mb (.inr (.inr (.inr (.inr (.inl rfl)))))) ), h.lt, h.ne⟩
set_option maxRecDepth 100000 in
theorem ClipTask (A : Option Addr) (n cap : Nat) (hn : n ≤ 5000) (hc : n ≤ cap) (hm : cap ≤ maxLen) (hA : A = none → n = 0) : Calls Try.prog 115 #[.slice A n cap] W fun e w' => e = .returned (.slice A n n) ∧ W = w' := by
  cases A with
  | none =>
    obtain rfl := hA rfl
    go_enter Try.func115, Try.ntmps115
    go_wp2_with fail
    go_ret
    exact ⟨rfl, rfl⟩
  | some x =>
    go_enter Try.func115, Try.ntmps115
    go_wp2_with fail
    go_ret
    exact ⟨by simp, rfl⟩
set_option maxRecDepth 100000 in
theorem TAll_nil {cap : Nat} (h : TbAt W t a b g mb ws B (.slice none 0 cap) 0 R C base) : Calls Try.prog 97 #[.pointer (some ⟨t, 0, none⟩)] W fun e w' => e = .returned (.slice none 0 0) ∧ W = w' := by
  obtain ⟨c0, c1, c2⟩ := h.cells
  clear h
  go_enter Try.func97, Try.ntmps97
  go_wp2_with fail
  refine wp_loop_rounds 1 ?_
  rw [rounds_succ]
  go_wp2_with fail
  refine (ClipTask none 0 0 (by decide) (by decide) (by decide) (fun _ => rfl)).mono ?_
  rintro e w1 ⟨rfl, rfl⟩
  go_wp2_with fail
  go_ret
  exact ⟨rfl, rfl⟩
set_option maxRecDepth 100000 in
set_option maxHeartbeats 8000000 in
theorem TAll_in (h : TbAt W t a b g mb ws B (.slice (some ⟨q, 0, none⟩) n cap) n R C base) (hbs : base ≤ W.heap.size) (hn : n ≤ 5000) (hB : B ≤ 700000000) (hkw : n ≤ ws.length) (TT : Nat → Tk) (hTT : ∀ k, k < n → 0 ≤ (TT k).p ∧ ∃ bv, RowP R k (TT k) bv) :
    Calls Try.prog 97 #[.pointer (some ⟨t, 0, none⟩)] W fun e w' => (∃ v, e = .returned v ∧ TasksAt w' W.heap.size v n (allV (fun k => ws.getD k 0 % 8) TT n)) ∧ TbAt w' t a b g mb ws (B + n) (.slice (some ⟨q, 0, none⟩) n cap) n R C base ∧ Fr (own2 b g) W w' := by
  obtain ⟨c0, c1, c2⟩ := h.cells
  have H := Lib.hid h
  have HTT := Lib.hid hTT
  have HKW := Lib.hid hkw
  obtain ⟨lt1, lt2, lt3, lt4, lt5⟩ := h.lt
  have hqx := h.q_ge.2
  have HLT := Lib.hid (show ∀ x, (x = t ∨ x = a ∨ x = b ∨ x = g ∨ x = mb ∨ (Value.slice (some ⟨q, 0, none⟩) n cap).ownBlock = some x) → x < W.heap.size from fun x hx => by
    rcases hx with h | h | h | h | h | h
    · omega
    · omega
    · omega
    · omega
    · omega
    · simp [Value.ownBlock] at h; omega)
  clear h hTT hkw lt1 lt2 lt3 lt4 lt5 hqx
  go_enter Try.func97, Try.ntmps97
  go_wp2_with fail
  go_loopg [3, 4, 5, 6, 12] n (fun gg v3 v4 v5 v6 v12 wr => ∃ (i : Nat) (ov : Value), gg = n - i ∧ i ≤ n ∧ v12 = .int .i64 i ∧ ov = v3 ∧ wr.ownsRow W.heap.size 98 7 ov i (allV (fun k => ws.getD k 0 % 8) TT i) ∧ TbAt wr t a b g mb ws (B + i) (.slice (some ⟨q, 0, none⟩) n cap) n R C base ∧ Fr (own2 b g) W wr)
  case atStart => exact ⟨0, _, by omega, by omega, rfl, rfl, World.ownsRow_nil _ _ _ _, by simpa using H.out, Fr.refl _ _⟩
  case round =>
    obtain ⟨i, ov, rfl, hi, rfl, rfl, hO, hT, hF⟩ := hrel
    by_cases hlt : i < n
    · obtain ⟨hp, bv, hR⟩ := HTT.out i hlt
      have hst : allV (fun k => ws.getD k 0 % 8) TT (i + 1) = allV (fun k => ws.getD k 0 % 8) TT i ++ taskV i (ws.getD i 0 % 8) (TT i) := rfl
      have HG := Lib.hid (TGet_any hT (by omega) i hlt (by have := HKW.out; omega) hn (TT i) bv hp hR)
      have HST := Lib.hid hst
      have HO := Lib.hid hO
      have HF := Lib.hid hF
      clear hp hR hst hO hT hF
      go_wp2_with fail
      refine HG.out.mono ?_
      rintro e w2 ⟨rfl, hT2, hF2⟩
      have hO2 := ownsRow_fr HO.out hF2 (fun c hc hs => by
        have h1 := (HO.out.lt c hc).1
        rcases hs with hs | hs
        · have := HLT.out b (.inr (.inr (.inl rfl))); omega
        · have := HLT.out g (.inr (.inr (.inr (.inl rfl)))); omega)
      have hF3 := HF.out.trans hF2
      have hbig : W.heap.size ≤ w2.heap.size := hF3.size
      obtain ⟨T, hT⟩ : ∃ T, TT i = T := ⟨_, rfl⟩
      obtain ⟨S0, hS0⟩ : ∃ z, ws.getD i 0 % 8 = z := ⟨_, rfl⟩
      obtain ⟨RU, hRU⟩ : ∃ z, T.RU = z := ⟨_, rfl⟩
      obtain ⟨MI, hMI⟩ : ∃ z, T.MI = z := ⟨_, rfl⟩
      have HTV := Lib.hid (show taskV i (ws.getD i 0 % 8) (TT i) = [.int .i64 ((i : Int) + 1), .int .i64 T.pr, .int .i64 S0, .int .u64 T.du, .int .u64 T.ke, .int .u64 RU, .int .u64 MI] from by rw [hT, hS0, ← hRU, ← hMI]; rfl)
      rw [hS0, hT, hRU, hMI]
      obtain ⟨PR, hPR⟩ : ∃ z, T.pr = z := ⟨_, rfl⟩
      obtain ⟨DU, hDU⟩ : ∃ z, T.du = z := ⟨_, rfl⟩
      obtain ⟨KE, hKE⟩ : ∃ z, T.ke = z := ⟨_, rfl⟩
      rw [hPR, hDU, hKE] at HTV ⊢
      obtain ⟨W3, hW3⟩ : ∃ W3, w2.alloc (.cells #[.int .i64 ((i : Int) + 1), .int .i64 PR, .int .i64 S0, .int .u64 DU, .int .u64 KE, .int .u64 RU, .int .u64 MI] 98) = W3 := ⟨_, rfl⟩
      have hx3 : W3.heap[w2.heap.size]? = some (.cells #[.int .i64 ((i : Int) + 1), .int .i64 PR, .int .i64 S0, .int .u64 DU, .int .u64 KE, .int .u64 RU, .int .u64 MI] 98 (0, 0)) := by rw [← hW3]; exact heap_alloc_new w2 _
      have hO3 : W3.ownsRow W.heap.size 98 7 ov i (allV (fun k => ws.getD k 0 % 8) TT i) := by rw [← hW3]; exact hO2.alloc _
      have hT3 : TbAt W3 t a b g mb ws (B + i + 1) (.slice (some ⟨q, 0, none⟩) n cap) n R C base := by rw [← hW3]; exact hT2.al _
      have hF4 : Fr (own2 b g) W W3 := by rw [← hW3]; exact hF3.al _
      obtain ⟨y, hy⟩ : ∃ y, w2.heap.size = y := ⟨_, rfl⟩
      rw [hy] at hx3
      have y0 : W3.cell? ⟨y, 0, none⟩ = some (.int .i64 ((i : Int) + 1)) := by simp [World.cell?, hx3]
      have y1 : W3.cell? ⟨y, 1, none⟩ = some (.int .i64 PR) := by simp [World.cell?, hx3]
      have y2 : W3.cell? ⟨y, 2, none⟩ = some (.int .i64 S0) := by simp [World.cell?, hx3]
      have y3 : W3.cell? ⟨y, 3, none⟩ = some (.int .u64 DU) := by simp [World.cell?, hx3]
      have y4 : W3.cell? ⟨y, 4, none⟩ = some (.int .u64 KE) := by simp [World.cell?, hx3]
      have y5 : W3.cell? ⟨y, 5, none⟩ = some (.int .u64 RU) := by simp [World.cell?, hx3]
      have y6 : W3.cell? ⟨y, 6, none⟩ = some (.int .u64 MI) := by simp [World.cell?, hx3]
      have hbig3 : W.heap.size ≤ W3.heap.size := hF4.size
      have HB := Lib.hid (show B + i + 1 = B + ((i + 1 : Nat) : Int) from by omega)
      clear hT hS0 hRU hMI hPR hDU hKE hO2 hT2 hF3 hx3 hbig
      go_upto_region 6 with fail
      try rw [hW3]
      try rw [hy]
      clear hW3 hy
      obtain ⟨o, ho⟩ : ∃ o : Obj, Obj.cells #[.int .i64 ((i : Int) + 1), .int .i64 PR, .int .i64 S0, .int .u64 DU, .int .u64 KE, .int .u64 RU, .int .u64 MI] 98 = o := ⟨_, rfl⟩
      have hO5 : (W3.alloc o).ownsRow W.heap.size 98 7 ov i (allV (fun k => ws.getD k 0 % 8) TT i) := hO3.alloc o
      have hnb : (W3.alloc o).heap[W3.heap.size]? = some (.cells #[.int .i64 ((i : Int) + 1), .int .i64 PR, .int .i64 S0, .int .u64 DU, .int .u64 KE, .int .u64 RU, .int .u64 MI] 98) := by rw [← ho]; exact heap_alloc_new W3 _
      have hnews : ∀ j u, (taskV i (ws.getD i 0 % 8) (TT i))[j]? = some u → (W3.alloc o).cell? ((⟨W3.heap.size, 0, none⟩ : Addr).add j) = some u := by
        rw [HTV.out]
        exact World.news_of_block hnb
      obtain ⟨i0, hi0, hz0, hz1, hz2⟩ := info_parts taskInfo
      have HOWN := Lib.hid hO5
      have HNEWS := Lib.hid hnews
      have HO3 := Lib.hid hO3
      have HT3 := Lib.hid hT3
      clear hO5 hnews hO3 hT3 hnb
      go_wp2_with (at_builtin; refine wpList_append_lies _ rfl (.tmp 22) (.tmp 24) 142 rfl W.heap.size 98 i0 taskZ 7 56 Try.underlying142 hi0 hz0 hz1 hz2 rfl (by decide) ov i _ rfl HOWN.out ⟨W3.heap.size, 0, none⟩ 1 1 (taskV i (ws.getD i 0 % 8) (TT i)) rfl rfl HNEWS.out (taskV_one _ _ _) (by decide) (by unfold maxLen; omega) (by omega) (by simp; omega) _ rfl ?_; intro c6 cap6 w6 hO6 hg6 hat6 hlt6)
      have hF6 : Fr (fun k => some k = ov.ownBlock) (W3.alloc o) w6 := Fr.of_grown hg6
      have hno : ∀ k, k < W.heap.size → ¬ some k = ov.ownBlock := fun k hk e => by have := (HO3.out.lt k e.symm).1; omega
      have hT6 : TbAt w6 t a b g mb ws (B + i + 1) (.slice (some ⟨q, 0, none⟩) n cap) n R C base := (HT3.out.al o).frAll hF6 (fun x hx => hno x (HLT.out x hx))
      have hF7 : Fr (own2 b g) W w6 := by
        have h1 := hF4.al o
        refine ⟨hF6.os.trans h1.os, hF6.tape.trans h1.tape, hF6.output.trans h1.output, Nat.le_trans h1.size hF6.size, fun k hk hn => ?_⟩
        exact (hF6.block k (Nat.lt_of_lt_of_le hk h1.size) (hno k hk)).trans (h1.block k hk hn)
      rw [← HST.out] at hO6
      clear hF6 hg6 hF4 hno
      go_roundg (n - (i + 1))
      case measure => omega
      case rel => exact ⟨i + 1, _, rfl, by omega, by go_num, rfl, hO6, by rw [← HB.out]; exact hT6, hF7⟩
    · obtain rfl : i = n := by omega
      have HO := Lib.hid hO
      have HT := Lib.hid hT
      rcases hO.2 with ⟨rfl, h0⟩ | ⟨c5, cap5, cur, rfl, hb5, hg5, hl5, hm5, _⟩
      · subst h0
        clear hO hT
        go_wp2_with fail
        refine (ClipTask none 0 0 (by decide) (by decide) (by decide) (fun _ => rfl)).mono ?_
        rintro e w6 ⟨rfl, rfl⟩
        go_wp2_with fail
        go_ret
        exact ⟨⟨_, rfl, .inl ⟨rfl, rfl⟩⟩, HT.out, hF⟩
      · clear hO hT
        go_wp2_with fail
        refine (ClipTask (some ⟨c5, 0, none⟩) i cap5 hn hl5 hm5 (fun h => by cases h)).mono ?_
        rintro e w6 ⟨rfl, rfl⟩
        go_wp2_with fail
        go_ret
        exact ⟨⟨_, rfl, .inr ⟨c5, rfl, (HO.out.lt c5 rfl).1, (HO.out.lt c5 rfl).2, fun j hj => HO.out.cellAt j hj⟩⟩, HT.out, hF⟩
end
end Go.Proofs.Ytpcbcnheogjofaa
