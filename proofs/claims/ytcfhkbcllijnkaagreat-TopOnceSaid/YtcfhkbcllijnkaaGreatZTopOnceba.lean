/- Parts of the proof of TopOnce, under no condition. -/
import Derived.Test.YtcfhkbcllijnkaaGreatZTopOnceay
import Derived.Test.YtcfhkbcllijnkaaGreatZTopOnceaz
set_option linter.unusedVariables false
set_option linter.unusedSimpArgs false
set_option maxRecDepth 100000
set_option maxHeartbeats 0
namespace Go.Proofs.YtcfhkbcllijnkaaGreat
open Go.RowKit
def zbt (w : World) (base : Nat) (v : Value) (bs : List Bk) : Prop := w.ownsRow base 222 2 v bs.length (zau bs)
theorem za9 (l m : List Bk) : zau (l ++ m) = zau l ++ zau m := by simp [zau]
theorem zcf (l : List Bk) (n : Nat) : (zau l).take (n * 2) = zau (l.take n) := by
 induction l generalizing n with
 | nil => simp [zau]
 | cons e l ih =>
  cases n with
  | zero => simp [zau]
  | succ n =>
   rw [show (n + 1) * 2 = n * 2 + 1 + 1 from by omega, show zau (e :: l) = .int .i64 (lvl e.L.length) :: e.v :: zau l from rfl, List.take_succ_cons, List.take_succ_cons, ih]
   rfl
theorem zcj (l : List Bk) (n : Nat) : (zau l).drop (n * 2) = zau (l.drop n) := by
 induction l generalizing n with
 | nil => simp [zau]
 | cons e l ih =>
  cases n with
  | zero => simp [zau]
  | succ n =>
   rw [show (n + 1) * 2 = n * 2 + 1 + 1 from by omega, show zau (e :: l) = .int .i64 (lvl e.L.length) :: e.v :: zau l from rfl, List.drop_succ_cons, List.drop_succ_cons, ih]
   rfl
theorem zc5 (l : List Bk) : ∀ u ∈ zau l, u.oneCell' = true := by
 intro u hu
 obtain ⟨b, _, hb⟩ := List.mem_flatMap.1 hu
 exact zc4 b u hb
theorem zex {w : World} {base : Nat} {e : TypeId} {k g n cap : Nat} {xs : List Value} (h : w.ownsRow base e k (.slice (some ⟨g, 0, none⟩) n cap) n xs) (m : Nat) (hm : m ≤ n) : w.ownsRow base e k (.slice (some ⟨g, 0, none⟩) m cap) m (xs.take (m * k)) := by
 have hmk : m * k ≤ n * k := Nat.mul_le_mul_right k hm
 refine ⟨by rw [List.length_take, h.1]; omega, ?_⟩
 rcases h.2 with ⟨e1, _⟩ | ⟨g', cap', cur, e1, hb, hg, hle, hmx, hsz, hF⟩
 · cases e1
 ·
  injection e1 with e1 e2 e3
  injection e1 with e1
  injection e1 with e1
  subst e1 e3
  refine .inr ⟨g, cap, cur, rfl, hb, hg, by omega, hmx, hsz, ?_⟩
  rw [← hF, List.take_take, Nat.min_eq_left hmk]
theorem zco {w : World} {base : Nat} {e : TypeId} {k n : Nat} {v : Value} {xs : List Value} (h : w.ownsRow base e k v n xs) (hn : 0 < n) : ∃ g cap, v = .slice (some ⟨g, 0, none⟩) n cap ∧ n ≤ cap ∧ cap ≤ maxLen ∧ base ≤ g ∧ ∃ cur, w.heap[g]? = some (.cells cur e (0, 0)) ∧ cur.size = cap * k ∧ cur.toList.take (n * k) = xs := by
 rcases h.2 with ⟨_, e1⟩ | ⟨g', cap', cur, e1, hb, hg, hle, hmx, hsz, hF⟩
 · omega
 · exact ⟨g', cap', e1, hle, hmx, hb, cur, hg, hsz, hF⟩
theorem zg4 {w : World} {base : Nat} {e : TypeId} {k g n cap : Nat} {xs : List Value} (h : w.ownsRow base e k (.slice (some ⟨g, 0, none⟩) n cap) n xs) (off : Nat) (vs : List Value) (h1 : n * k ≤ off) (h2 : off + vs.length ≤ cap * k) : (w.setCells g off vs).ownsRow base e k (.slice (some ⟨g, 0, none⟩) n cap) n xs ∧ Fr (fun k => k = g) w (w.setCells g off vs) := by
 rcases h.2 with ⟨e1, _⟩ | ⟨g', cap', cur, e1, hb, hg, hle, hmx, hsz, hF⟩
 · cases e1
 ·
  injection e1 with e1 e2 e3
  injection e1 with e1
  injection e1 with e1
  subst e1 e3
  obtain ⟨cur', c1, c2, c3, _, _, c6, _⟩ := zcd g e vs off w cur hg (by omega)
  refine ⟨⟨h.1, .inr ⟨g, cap, cur', rfl, hb, c1, hle, hmx, by omega, ?_⟩⟩, c6⟩
  rw [← hF]
  apply List.ext_getElem?
  intro j
  rw [List.getElem?_take, List.getElem?_take]
  split
  · rw [Array.getElem?_toList, Array.getElem?_toList, c3 j (by omega)]
  · rfl
theorem ziv {W : World} {base : Nat} {v : Value} {bs : List Bk} (h : zbt W base v bs) (hl : bs.length ≤ 1000) (i : Nat) (hi : i < bs.length) : Calls Tryz.prog 233 #[v, .int .i64 i, .int .i64 ((i : Int) + 1)] W fun e w' => ∃ v', e = .returned v' ∧ zbt w' base v' (bs.take i ++ bs.drop (i + 1)) ∧ Fr (fun k => v.ownBlock = some k) W w' ∧ v'.ownBlock = v.ownBlock := by
 obtain ⟨g, cap, rfl, hle, hmx, hb, cur, hg, hsz, hF⟩ := zco h (by omega)
 have hm : (cap : Int) ≤ 9223372036854775807 := by unfold maxLen at hmx; omega
 obtain ⟨n, hn⟩ := yye (bs.length)
 have HN := yyh hn
 unfold zbt at h
 rw [hn] at h hl hi hle ⊢
 have HW := yyh h
 have HI := yyh hi
 have hi2 : (i : Int) < (n : Int) := by omega
 have hi3 : (i : Int) + 1 ≤ (n : Int) := by omega
 have hz : (0 : Int) ≤ (i : Int) + 1 := by omega
 have hic : i ≤ cap := by omega
 have hw1 : IntKind.i64.wrap ((i : Int) + 1) = (i : Int) + 1 := by rw [IntKind.wrap_i64]; omega
 have g1 : ((i : Int) == (i : Int) + 1) = false := by rw [beq_eq_false_iff_ne]; omega
 clear h hg hsz hF
 go_enter Tryz.func233, Tryz.ntmps233
 go_upto_region 5 with fail
 refine wp_region_still_tail 6 (by kernel_rfl) (by kernel_rfl) ?_
 simp only [List.take_succ_cons, List.take_zero, List.drop_succ_cons, List.drop_zero]
 iterate 6 still_step
 refine wpStill_nil ?_
 change wpList _ _ _ _ _ W.drew
 obtain ⟨i0, hi0, hz0, hz1, hz2⟩ := info_parts zgw
 have hdrop : (zau (bs.drop (i + 1))).length = (n - (i + 1)) * 2 := by rw [za4, List.length_drop, HN.out]
 have hpre := zex HW.out.drew i (by omega)
 rw [zcf] at hpre
 have HPRE := yyh hpre
 have HCE := yyh (fun j x hx => by
  have hjl : j < (n - (i + 1)) * 2 := by rw [← hdrop]; exact (yyk.1 hx).1
  have := HW.out.cellAt ((i + 1) * 2 + j) (by omega)
  rw [← List.getElem?_drop, zcj, hx] at this
  exact this : ∀ (j : Nat) x, (zau (bs.drop (i + 1)))[j]? = some x → W.cell? ⟨g, (i + 1) * 2 + j, none⟩ = some x)
 clear hpre
 refine wpList_append_fits_any _ rfl (.tmp 22) (.tmp 25) 218 rfl base 222 i0 2 Tryz.underlying218 hi0 hz1 g i cap _ rfl HPRE.out _ (n - (i + 1)) (cap - (i + 1)) (zau (bs.drop (i + 1))) rfl hdrop (fun e => by split at e <;> cases e) (fun ad e j u hu => ?_) (zc5 _) (by omega) ?_
 ·
  have hjl : j < (n - (i + 1)) * 2 := by rw [← hdrop]; exact (yyk.1 hu).1
  rw [if_neg (by omega)] at e
  injection e with e
  subst e
  rw [show (⟨g, (i + 1) * 2, none⟩ : Addr).add j = ⟨g, (i + 1) * 2 + j, none⟩ from by simp [Addr.add]]
  exact HCE.out j u hu
 intro w1 hown1 hg1
 generalize (if cap = i + 1 then some (⟨g, 0, none⟩ : Addr) else some ⟨g, (i + 1) * 2, none⟩) = ad
 rw [← za9] at hown1
 have hk1 : i + (n - (i + 1)) = n - 1 := by omega
 rw [hk1] at hown1 ⊢
 have hbnd : ((n - 1 : Nat) : Int) = (n : Int) - 1 := by omega
 have HOW := yyh hown1
 have HG1 := yyh hg1
 have hn1 : n - 1 ≤ n := by omega
 have hn2 : n - 1 ≤ cap := by omega
 have hne : ¬ cap = n - 1 := by omega
 have hdec : ((n - 1 : Nat) : Int) ≤ (n : Int) := by omega
 have hsub : n - (n - 1) = 1 := by omega
 have hcap2 : n ≤ cap := hle
 have hv : ∀ w, (zeroValue 222).run Tryz.prog w = .ok zBl w := fun _ => by kernel_rfl
 obtain ⟨g2, cap2, e2, -, -, -, cur2, hg2, hsz2, -⟩ : ∃ g2 cap2, Value.slice (some ⟨g, 0, none⟩) (n - 1) cap = .slice (some ⟨g2, 0, none⟩) (n - 1) cap2 ∧ True ∧ True ∧ True ∧ ∃ cur, w1.heap[g]? = some (.cells cur 222 (0, 0)) ∧ cur.size = cap * 2 ∧ True := by
  rcases hown1.2 with ⟨e1, _⟩ | ⟨g', cap', cur, e1, hb, hg, hle, hmx, hsz, hF⟩
  · cases e1
  ·
   injection e1 with e1 e2 e3
   injection e1 with e1
   injection e1 with e1
   subst e1 e3
   exact ⟨_, _, rfl, trivial, trivial, trivial, cur, hg, hsz, trivial⟩
 have hrun := zg3 (P := Tryz.prog) w1 218 222 0 zBl Tryz.underlying218 hv (by intro u hu; simp [zBl, Value.cells] at hu; rcases hu with rfl | rfl <;> rfl) g ((n - 1) * 2) 1 (cap - (n - 1)) (by decide)
  (fun j hj => by
   have hj : j < 2 := by simpa [zBl, Value.cells] using hj
   rw [zaa hg2]
   simp
   omega) (fun j hj => by simp [World.frozen?, hg2])
 have hlen2 : (Builtin.zeroCells zBl.cells 1).toList.length = 2 := by rw [Array.length_toList, size_zeroCells]; rfl
 obtain ⟨hown3, hF3⟩ := zg4 hown1 ((n - 1) * 2) (Builtin.zeroCells zBl.cells 1).toList yyn (by rw [hlen2]; omega)
 generalize w1.setCells g ((n - 1) * 2) (Builtin.zeroCells zBl.cells 1).toList = w3 at hrun hown3 hF3
 have HX := yyh (yyi hown3 hF3)
 clear hown1 hg1 hbnd hv hg2 hsz2 e2 hlen2 hown3 hF3
 go_wp2_with fail
 go_ret
 have hlen3 : (bs.take i ++ bs.drop (i + 1)).length = n - 1 := by rw [List.length_append, List.length_take, List.length_drop, HN.out]; omega
 refine ⟨_, rfl, ?_, ?_, rfl⟩
 · unfold zbt
   rw [hlen3]
   exact HX.out.1
 · exact ((Fr.refl _ W).dr.trans (Fr.mono (Fr.grown HG1.out) (fun k hk => hk.symm))).trans (Fr.mono HX.out.2 (fun k hk => by rw [hk]))
theorem ziw {w : World} {base : Nat} {e : TypeId} {k g n cap : Nat} {xs : List Value} (h : w.ownsRow base e k (.slice (some ⟨g, 0, none⟩) n cap) n xs) (off : Nat) (vs : List Value) (h2 : off + vs.length ≤ n * k) : (w.setCells g off vs).ownsRow base e k (.slice (some ⟨g, 0, none⟩) n cap) n (xs.take off ++ vs ++ xs.drop (off + vs.length)) ∧ Fr (fun k => k = g) w (w.setCells g off vs) := by
 rcases h.2 with ⟨e1, _⟩ | ⟨g', cap', cur, e1, hb, hg, hle, hmx, hsz, hF⟩
 · cases e1
 ·
  injection e1 with e1 e2 e3
  injection e1 with e1
  injection e1 with e1
  subst e1 e3
  have hck : n * k ≤ cap * k := Nat.mul_le_mul_right k hle
  obtain ⟨cur', c1, c2, c3, c4, c5, c6, _⟩ := zcd g e vs off w cur hg (by omega)
  have hxl : xs.length = n * k := h.1
  refine ⟨⟨by simp; omega, .inr ⟨g, cap, cur', rfl, hb, c1, hle, hmx, by omega, ?_⟩⟩, c6⟩
  apply List.ext_getElem?
  intro j
  rw [List.getElem?_take]
  split
  ·
   rename_i hj
   have hxj : ∀ j, j < n * k → xs[j]? = cur[j]? := fun j hj => by rw [← hF, List.getElem?_take, if_pos hj, Array.getElem?_toList]
   rw [Array.getElem?_toList]
   rcases Nat.lt_or_ge j off with h1 | h1
   · rw [c3 j h1, List.append_assoc, List.getElem?_append_left (by simp; omega), List.getElem?_take, if_pos h1, hxj j hj]
   ·
    rcases Nat.lt_or_ge j (off + vs.length) with h3 | h3
    · obtain ⟨q, rfl⟩ : ∃ q, j = off + q := ⟨j - off, by omega⟩
      rw [c4 q (by omega), List.append_assoc, List.getElem?_append_right (by simp; omega), List.length_take, Nat.min_eq_left (by omega), show off + q - off = q from by omega, List.getElem?_append_left (by omega)]
    · rw [c5 j h3, List.getElem?_append_right (by simp; omega), List.length_append, List.length_take, Nat.min_eq_left (by omega), List.getElem?_drop, show off + vs.length + (j - (off + vs.length)) = j from by omega, hxj j hj]
  · rename_i hj
    rw [List.getElem?_eq_none (by simp; omega)]
theorem zeh {w : World} {base : Nat} {e : TypeId} {k g n cap : Nat} {xs : List Value} (h : w.ownsRow base e k (.slice (some ⟨g, 0, none⟩) n cap) n xs) : (∀ j, j < cap * k → (w.cell? ⟨g, j, none⟩).isSome = true) ∧ (∀ j, w.frozen? ⟨g, j, none⟩ = false) := by
 rcases h.2 with ⟨e1, _⟩ | ⟨g', cap', cur, e1, hb, hg, hle, hmx, hsz, hF⟩
 · cases e1
 ·
  injection e1 with e1 e2 e3
  injection e1 with e1
  injection e1 with e1
  subst e1 e3
  refine ⟨fun j hj => ?_, fun j => by simp [World.frozen?, hg]⟩
  rw [zaa hg]
  simp
  omega
theorem zlk {w : World} {base : Nat} {e : TypeId} {k g n cap : Nat} {xs : List Value} (h : w.ownsRow base e k (.slice (some ⟨g, 0, none⟩) n cap) n xs) : n ≤ cap ∧ cap ≤ maxLen := by
 rcases h.2 with ⟨e1, _⟩ | ⟨g', cap', cur, e1, hb, hg, hle, hmx, hsz, hF⟩
 · cases e1
 · injection e1 with e1 e2 e3
   subst e3
   exact ⟨hle, hmx⟩
theorem zw9 : (Tryz.prog.info? 222).map (·.size) = some 2 := by
 obtain ⟨i0, hi0, hz0, hz1, hz2⟩ := info_parts zgw
 rw [hi0]
 simp [hz1]
theorem zxa (w : World) : (zeroValue 222).run Tryz.prog w = .ok zBl w := by kernel_rfl
theorem zu3 : ∀ u ∈ zBl.cells.toList, u.oneCell' = true := by
 intro u hu
 simp [zBl, Value.cells] at hu
 rcases hu with rfl | rfl <;> rfl
theorem zf0 {w : World} {base g n cap : Nat} {xs : List Value} (h : w.ownsRow base 222 2 (.slice (some ⟨g, 0, none⟩) n cap) n xs) (hn : n + 1 ≤ cap) (c : Nat) :
 ∃ w', (Builtin.clear_ #[218] 0 #[.slice (some ⟨g, n * 2, none⟩) 1 c]).run Tryz.prog w = .ok (.tuple #[]) w' ∧ w'.ownsRow base 222 2 (.slice (some ⟨g, 0, none⟩) n cap) n xs ∧ Fr (fun k => k = g) w w' := by
 obtain ⟨hc, hf⟩ := zeh h
 have hlen2 : (Builtin.zeroCells zBl.cells 1).toList.length = 2 := by rw [Array.length_toList, size_zeroCells]; rfl
 refine ⟨_, zg3 (P := Tryz.prog) w 218 222 0 zBl Tryz.underlying218 zxa zu3 g (n * 2) 1 c (by decide) (fun j hj => hc _ ?_) (fun j hj => hf _), ?_⟩
 · have hj : j < 2 := by simpa [zBl, Value.cells] using hj
   omega
 · exact zg4 h (n * 2) _ yyn (by rw [hlen2]; omega)
theorem zei {w : World} {base g n cap : Nat} {xs : List Value} (h : w.ownsRow base 222 2 (.slice (some ⟨g, 0, none⟩) n cap) n xs) (ty : TypeId) (p dLen dCap : Nat) (a : Addr) (sLen sCap : Nat) (cs : List Value) (hn : cs.length = Nat.min sLen dLen * 2) (hfit : p * 2 + cs.length ≤ n * 2)
 (hsrc : ∀ j v, cs[j]? = some v → w.cell? (a.add j) = some v) (h1 : ∀ v ∈ cs, v.oneCell' = true) :
 ∃ w', (Builtin.copy_ #[218, 218] ty #[.slice (some ⟨g, p * 2, none⟩) dLen dCap, .slice (some a) sLen sCap]).run Tryz.prog w = .ok (goInt (Nat.min sLen dLen)) w' ∧ w'.ownsRow base 222 2 (.slice (some ⟨g, 0, none⟩) n cap) n (xs.take (p * 2) ++ cs ++ xs.drop (p * 2 + cs.length)) ∧ Fr (fun k => k = g) w w' := by
 obtain ⟨hc, hf⟩ := zeh h
 have hle := (zlk h).1
 have hck : n * 2 ≤ cap * 2 := Nat.mul_le_mul_right 2 hle
 exact ⟨_, zns (P := Tryz.prog) 2 w 218 218 ty 222 g (p * 2) dLen dCap a sLen sCap cs Tryz.underlying218 zw9 hn hsrc (fun j hj => hc _ (by omega)) (fun j hj => hf _) h1, ziw h (p * 2) cs hfit⟩
theorem zfa {w : World} {q : Nat} {x : Bk} (h : w.heap[q]? = some (.cells (bkC x).toArray 222 (0, 0))) : ∀ j v, (bkC x)[j]? = some v → w.cell? ((⟨q, 0, none⟩ : Addr).add j) = some v := by
 intro j v hv
 rw [show (⟨q, 0, none⟩ : Addr).add j = ⟨q, 0 + j, none⟩ from by simp [Addr.add]; intro h; exact h.symm, Nat.zero_add, zaa h]
 simpa using hv
theorem zo1 {W : World} {base : Nat} {v : Value} {bs : List Bk} {q : Nat} {x : Bk} (h : zbt W base v bs) (hx : W.heap[q]? = some (.cells (bkC x).toArray 222 (0, 0))) (hq : v.ownBlock ≠ some q) (hl : bs.length ≤ 1000) (p : Nat) (hp : p + 2 ≤ bs.length) : Calls Tryz.prog 271 #[v, .int .i64 p, .int .i64 ((p : Int) + 2), .slice (some ⟨q, 0, none⟩) 1 1] W fun e w' => ∃ v', e = .returned v' ∧ zbt w' base v' (bs.take p ++ [x] ++ bs.drop (p + 2)) ∧ Fr (fun k => v.ownBlock = some k) W w' ∧ v'.ownBlock = v.ownBlock := by
 obtain ⟨g, cap, rfl, hle, hmx, hb, cur, hg, hsz, hF⟩ := zco h (by omega)
 have hgq : g ≠ q := fun e => hq (by rw [← e]; rfl)
 have hm : (cap : Int) ≤ 9223372036854775807 := by unfold maxLen at hmx; omega
 obtain ⟨n, hn⟩ := yye (bs.length)
 have HN := yyh hn
 unfold zbt at h
 rw [hn] at h hl hp hle ⊢
 have HW := yyh h
 have hz : (0 : Int) ≤ (p : Int) + 2 := by omega
 have hpc : p ≤ cap := by omega
 have hpn : (p : Int) ≤ (p : Int) + 2 := by omega
 have hpn2 : (p : Int) + 2 ≤ (cap : Int) := by omega
 have g1 : ((p : Int) == (p : Int) + 2) = false := by rw [beq_eq_false_iff_ne]; omega
 obtain ⟨i0, hi0, hz0, hz1, hz2⟩ := info_parts zgw
 clear h hg hsz hF hq
 by_cases hpe : p + 2 = n
 ·
  subst hpe
  have hpre := zex HW.out p (by omega)
  rw [zcf] at hpre
  have g2 : ((p : Int) + 2 == ((p + 2 : Nat) : Int)) = true := by rw [beq_iff_eq]; omega
  have HPRE := yyh hpre
  have HONE := yyh (zfa hx)
  have HXX := yyh hx
  clear hpre hx
  go_enter Tryz.func271, Tryz.ntmps271
  go_wp2_with (at_builtin; go_loud (refine wpList_append_fits_any _ rfl (.tmp 32) (.tmp 33) 218 rfl base 222 i0 2 Tryz.underlying218 hi0 hz1 g p cap _ rfl HPRE.out _ 1 1 (bkC x) rfl rfl (fun e => by cases e) (fun ad e j u hu => by injection e with e; subst e; exact HONE.out j u hu) (zc4 x) (by omega) ?_; intro w1 hown1 hg1; have HOW := yyh hown1; have HG1 := yyh hg1; obtain ⟨w2, hrun, hown2, hF2⟩ := zf0 hown1 (by omega) (cap - (p + 1)); have HX := yyh (yyi hown2 hF2); clear hown1 hg1 hown2 hF2))
  go_ret
  have hfl : zau (bs.take p) ++ bkC x = zau (bs.take p ++ [x] ++ bs.drop (p + 2)) := by
   rw [List.drop_of_length_le (by rw [HN.out]; exact yyn), List.append_nil, za9]
   simp [zau]
  have hln : (bs.take p ++ [x] ++ bs.drop (p + 2)).length = p + 1 := by
   rw [List.drop_of_length_le (by rw [HN.out]; exact yyn)]
   simp
   rw [HN.out]
   omega
  refine ⟨_, rfl, ?_, ?_, rfl⟩
  · unfold zbt
    rw [hln, ← hfl]
    exact HX.out.1
  · exact ((Fr.mono (Fr.grown HG1.out) (fun k hk => hk.symm))).trans (Fr.mono HX.out.2 (fun k hk => by rw [hk]))
 ·
  have g2 : ((p : Int) + 2 == (n : Int)) = false := by rw [beq_eq_false_iff_ne]; omega
  have hc1 : ¬ cap = p + 2 := by omega
  have hc2 : ¬ cap = p := by omega
  have hc3 : ¬ cap = p + 1 := by omega
  have hpn3 : (p : Int) + 2 ≤ (n : Int) := by omega
  have hpn4 : p ≤ n := by omega
  obtain ⟨m, hm2⟩ := yye (n - (p + 2))
  have hm3 : ((n - (p + 2) : Nat) : Int) = (m : Int) := by rw [hm2]
  have HM := yyh (show n = p + 2 + m ∧ 0 < m from by omega)
  have hs2 : p + 1 + m - p = m + 1 := by omega
  have hs3 : p + 1 + m - (p + 1) = m := by omega
  have hw1 : IntKind.i64.wrap ((p : Int) + 1) = (p : Int) + 1 := by rw [IntKind.wrap_i64]; omega
  have hw2 : IntKind.i64.wrap ((p : Int) + 1 + (m : Int)) = (p : Int) + 1 + (m : Int) := by rw [IntKind.wrap_i64]; omega
  have hmc : p + 1 + m ≤ cap := by omega
  have hmn : p + 1 + m ≤ n := by omega
  have hc4 : ¬ cap = p + 1 + m := by omega
  -- what the three steps make
  obtain ⟨w1, hr1, ho1, hF1⟩ := zei HW.out.drew 3 p (m + 1) (cap - p) ⟨q, 0, none⟩ 1 1 (bkC x) (by rw [show Nat.min 1 (m + 1) = 1 from Nat.min_eq_left (by omega)]; rfl) (by show p * 2 + 2 ≤ n * 2; omega) (zfa (w := W.drew) hx) (zc4 x)
  have hbl : (bkC x).length = 2 := rfl
  rw [hbl, show p * 2 + 2 = (p + 1) * 2 from by omega, zcf, zcj, show bkC x = zau [x] from by simp [zau], ← za9, ← za9] at ho1
  have hlen1 : (bs.take p ++ [x] ++ bs.drop (p + 1)).length = n := by simp; rw [HN.out]; omega
  have hcs : (zau (bs.drop (p + 2))).length = m * 2 := by rw [za4, List.length_drop, HN.out, hm2]
  obtain ⟨w2, hr2, ho2, hF2⟩ := zei ho1.drew 3 (p + 1) m (cap - (p + 1)) ⟨g, (p + 2) * 2, none⟩ m (cap - (p + 2)) (zau (bs.drop (p + 2))) (by rw [show Nat.min m m = m from Nat.min_self m]; exact hcs) (by rw [hcs]; omega) (fun j u hu => by
   have hj : j < m * 2 := by rw [← hcs]; exact (yyk.1 hu).1
   rw [show (⟨g, (p + 2) * 2, none⟩ : Addr).add j = ⟨g, (p + 2) * 2 + j, none⟩ from by simp [Addr.add]]
   have h1 := ho1.cellAt ((p + 2) * 2 + j) (by omega)
   have h2 : (bs.take p ++ [x] ++ bs.drop (p + 1)).drop (p + 2) = bs.drop (p + 2) := by
    rw [List.drop_append]
    have e1 : (bs.take p ++ [x]).length = p + 1 := by simp; rw [HN.out]; omega
    rw [e1, List.drop_of_length_le (by rw [e1]; omega), List.nil_append, List.drop_drop]
    congr 1
    omega
   rw [← List.getElem?_drop, zcj, h2, hu] at h1
   exact h1) (zc5 _)
  have hpre := zex ho2 (p + 1 + m) (by omega)
  have hfl : ((zau (bs.take p ++ [x] ++ bs.drop (p + 1))).take ((p + 1) * 2) ++ zau (bs.drop (p + 2)) ++ (zau (bs.take p ++ [x] ++ bs.drop (p + 1))).drop ((p + 1) * 2 + (zau (bs.drop (p + 2))).length)).take ((p + 1 + m) * 2) = zau (bs.take p ++ [x] ++ bs.drop (p + 2)) := by
   rw [zcf]
   have e1 : (bs.take p ++ [x]).length = p + 1 := by simp; rw [HN.out]; omega
   have e2 : (bs.take p ++ [x] ++ bs.drop (p + 1)).take (p + 1) = bs.take p ++ [x] := by
    rw [List.take_append_of_le_length (by rw [e1]; exact yyn), List.take_of_length_le (by rw [e1]; exact yyn)]
   rw [e2, ← za9, List.take_append_of_le_length (by rw [za4, List.length_append, e1, List.length_drop, HN.out]; omega), List.take_of_length_le (by rw [za4, List.length_append, e1, List.length_drop, HN.out]; omega)]
  rw [hfl] at hpre
  obtain ⟨w3, hr3, ho3, hF3⟩ := zf0 hpre (by omega) (cap - (p + 1 + m))
  have HX := yyh (yyi ho3 (yyi hF1 (yyi hF2 hF3)))
  have hs4 : n - (p + 1 + m) = 1 := by omega
  have hfl2 : (bs.take p ++ [x] ++ bs.drop (p + 2)).length = p + 1 + m := by simp; rw [HN.out]; omega
  have HFL := yyh hfl2
  have hmin : Nat.min m m = m := Nat.min_self m
  have hb1 : (0 : Int) ≤ (p : Int) + 1 := by omega
  have hb2 : (p : Int) + 1 ≤ (p : Int) + 1 + (m : Int) := by omega
  have hmin1 : Nat.min 1 (m + 1) = 1 := Nat.min_eq_left (by omega)
  clear ho1 ho2 ho3 hpre hfl hF1 hF2 hF3 hlen1 hcs hbl hfl2
  go_enter Tryz.func271, Tryz.ntmps271
  go_upto_region 9 with fail
  refine wp_region_still_lit (by kernel_rfl) (by kernel_rfl) ?_
  iterate 13 still_step
  refine wpStill_nil ?_
  go_upto_region 18 with fail
  refine wp_region_still_tail 9 (by kernel_rfl) (by kernel_rfl) ?_
  simp only [List.take_succ_cons, List.take_zero, List.drop_succ_cons, List.drop_zero]
  iterate 9 still_step
  refine wpStill_nil ?_
  change wpList _ _ _ _ _ w1.drew
  rw [show n - ((p : Int) + 2).toNat = m from by omega]
  rw [show ((p : Int) + 2).toNat = p + 2 from by omega]
  go_wp2_with fail
  go_ret
  refine ⟨_, rfl, ?_, ?_, rfl⟩
  · unfold zbt
    rw [HFL.out]
    exact HX.out.1
  · obtain ⟨_, f1, f2, f3⟩ := HX.out
    exact Fr.mono ((((Fr.refl _ W).dr.trans f1).dr.trans f2).trans f3) (fun k hk => by rw [hk]; rfl)
end Go.Proofs.YtcfhkbcllijnkaaGreat
