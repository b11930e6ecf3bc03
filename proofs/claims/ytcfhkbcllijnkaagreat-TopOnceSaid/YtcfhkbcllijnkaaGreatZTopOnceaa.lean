/- Parts of the proof of TopOnce, under no condition. -/
import Derived.Sort.LotA
set_option linter.unusedVariables false
set_option linter.unusedSimpArgs false
set_option maxRecDepth 100000
set_option maxHeartbeats 0
namespace Go.Proofs.YtcfhkbcllijnkaaGreat
open Go.Sort
section
variable {α : Type} [Inhabited α]
def swx (d : Array α) (a b n x : Nat) : α := if a ≤ x ∧ x < a + n then d[x + (b - a)]! else if b ≤ x ∧ x < b + n then d[x - (b - a)]! else d[x]!
def zcy (d : Array α) (a m b x : Nat) : α := if a ≤ x ∧ x < a + (b - m) then d[x + (m - a)]! else if a + (b - m) ≤ x ∧ x < b then d[x - (b - m)]! else d[x]!
theorem ze4 (d : Array α) {x y : Nat} (h : x = y) : d[x]! = d[y]! := by rw [h]
theorem zqs (d : Array α) (a b x : Nat) : swx d a b 0 x = d[x]! := by
 unfold swx
 rw [if_neg (by omega), if_neg (by omega)]
theorem zqt {d dk : Array α} {a b i : Nat} (hab : a + i < b) (hb : b + i < dk.size) (h : ∀ x, dk[x]! = swx d a b i x) (x : Nat) : (swp dk (a + i) (b + i))[x]! = swx d a b (i + 1) x := by
 rw [swp_get dk (by omega) hb]
 by_cases h1 : x = b + i
 · subst h1
   rw [if_pos rfl, h, swx, swx, if_neg (by omega), if_neg (by omega), if_neg (by omega), if_pos (by omega)]
   exact ze4 d (by omega)
 ·
  rw [if_neg h1]
  by_cases h2 : x = a + i
  · subst h2
    rw [if_pos rfl, h, swx, swx, if_neg (by omega), if_neg (by omega), if_pos (by omega)]
    exact ze4 d (by omega)
  ·
   rw [if_neg h2, h]
   unfold swx
   repeat' split
   all_goals first | rfl | (exfalso; omega)
theorem zqu {d dk dk' : Array α} {a m b i j : Nat} (hi : i ≤ m) (hij : j < i) (h : ∀ x, zcy dk (m - i) m (m + j) x = zcy d a m b x) (h' : ∀ x, dk'[x]! = swx dk (m - i) m j x) (x : Nat) : zcy dk' (m - (i - j)) m (m + j) x = zcy d a m b x := by
 rw [← h]
 unfold zcy
 simp only [h']
 unfold swx
 repeat' split
 all_goals first | rfl | (exfalso; omega) | exact ze4 dk (by omega)
theorem zqv {d dk dk' : Array α} {a m b i j : Nat} (hi : i ≤ m) (hij : i < j) (h : ∀ x, zcy dk (m - i) m (m + j) x = zcy d a m b x) (h' : ∀ x, dk'[x]! = swx dk (m - i) (m + j - i) i x) (x : Nat) : zcy dk' (m - i) m (m + (j - i)) x = zcy d a m b x := by
 rw [← h]
 unfold zcy
 simp only [h']
 unfold swx
 repeat' split
 all_goals first | rfl | (exfalso; omega) | exact ze4 dk (by omega)
theorem zqw {d dk dk' : Array α} {a m b i : Nat} (hi : i ≤ m) (h : ∀ x, zcy dk (m - i) m (m + i) x = zcy d a m b x) (h' : ∀ x, dk'[x]! = swx dk (m - i) m i x) (x : Nat) : dk'[x]! = zcy d a m b x := by
 rw [← h, h']
 unfold zcy swx
 repeat' split
 all_goals first | rfl | (exfalso; omega) | exact ze4 dk (by omega)
theorem zwn {d dk : Array α} {a k : Nat} (hk : a ≤ k) (hb : k + 1 < dk.size) (h : ∀ x, dk[x]! = zcy d a (a + 1) (k + 1) x) (x : Nat) : (swp dk k (k + 1))[x]! = zcy d a (a + 1) (k + 1 + 1) x := by
 rw [swp_get dk (by omega) hb]
 simp only [h]
 unfold zcy
 repeat' split
 all_goals first | rfl | (exfalso; omega) | exact ze4 d (by omega)
theorem zqx {d dk : Array α} {k m : Nat} (hk : k + 1 ≤ m) (hb : m < dk.size) (h : ∀ x, dk[x]! = zcy d (k + 1) m (m + 1) x) (x : Nat) : (swp dk (k + 1) k)[x]! = zcy d k m (m + 1) x := by
 rw [swp_get dk (by omega) (by omega)]
 simp only [h]
 unfold zcy
 repeat' split
 all_goals first | rfl | (exfalso; omega) | exact ze4 d (by omega)
theorem zl7 (d : Array α) (a b x : Nat) : zcy d a a b x = d[x]! := by
 unfold zcy
 repeat' split
 all_goals first | rfl | exact ze4 d (by omega)
theorem zjj (d : Array α) (a m x : Nat) : zcy d a m m x = d[x]! := by
 unfold zcy
 repeat' split
 all_goals first | rfl | (exfalso; omega) | exact ze4 d (by omega)
end
section
variable {α : Type} [Inhabited α] {lt : α → α → Bool} {d d1 d2 d3 : Array α} {a m b s : Nat}
theorem SortedIn.part {a b a' b' : Nat} (h : SortedIn lt a b d) (ha : a ≤ a') (hb : b' ≤ b) : SortedIn lt a' b' d := fun i j hi hij hj => h i j (by omega) hij (by omega)
theorem SortedIn.le (hO : SWO lt) (h : SortedIn lt a b d) {i j : Nat} (hi : a ≤ i) (hij : i ≤ j) (hj : j < b) : lt d[j]! d[i]! = false := by
 rcases Nat.lt_or_eq_of_le hij with e | e
 · exact h i j hi e hj
 · subst e; exact hO.irrefl _
omit [Inhabited α] in
theorem SWO.lt_of_lt_le (hO : SWO lt) {x y z : α} (h : lt x y = true) (k : lt z y = false) : lt x z = true := by
 cases e : lt x z with
 | true => rfl
 | false =>
  have := hO.ntrans x z y e k
  rw [h] at this
  cases this
omit [Inhabited α] in
theorem SWO.lt_of_le_lt (hO : SWO lt) {x y z : α} (h : lt y x = false) (k : lt y z = true) : lt x z = true := by
 cases e : lt x z with
 | true => rfl
 | false =>
  have := hO.ntrans y x z h e
  rw [k] at this
  cases this
theorem zwo (hO : SWO lt) (hs : SortedIn lt (a + 1) b d) {i : Nat} (hi : a + 1 ≤ i) (hib : i ≤ b) (h1 : i = a + 1 ∨ lt d[i - 1]! d[a]! = true) (h2 : i = b ∨ lt d[i]! d[a]! = false) (h : ∀ x, d1[x]! = zcy d a (a + 1) i x) : SortedIn lt a b d1 := by
 have lo : ∀ x, a + 1 ≤ x → x < i → lt d[x]! d[a]! = true := fun x hx hxi => by
  rcases h1 with e | e
  · omega
  · exact SWO.lt_of_le_lt hO (SortedIn.le hO hs hx (show x ≤ i - 1 by omega) (by omega)) e
 have hi' : ∀ x, i ≤ x → x < b → lt d[x]! d[a]! = false := fun x hx hxb => by
  rcases h2 with e | e
  · omega
  · exact hO.ntrans _ _ _ (SortedIn.le hO hs hi hx hxb) e
 intro p q hp hpq hq
 rw [h, h]
 unfold zcy
 by_cases h3 : q < a + (i - (a + 1))
 · rw [if_pos (by omega), if_pos (by omega)]
   exact hs _ _ (by omega) (by omega) (by omega)
 ·
  by_cases h4 : q < i
  ·
   have : q = i - 1 := by omega
   subst this
   rw [if_neg (by omega), if_pos (by omega), if_pos (by omega), ze4 d (show i - 1 - (i - (a + 1)) = a by omega)]
   have := lo (p + (a + 1 - a)) (by omega) (by omega)
   exact hO.asymmA this
  ·
   rw [if_neg (by omega), if_neg (by omega)]
   by_cases h5 : p < a + (i - (a + 1))
   · rw [if_pos (by omega)]
     exact hs _ _ (by omega) (by omega) hq
   ·
    rw [if_neg (by omega)]
    by_cases h6 : p < i
    · rw [if_pos (by omega), ze4 d (show p - (i - (a + 1)) = a by omega)]
      exact hi' q (by omega) hq
    · rw [if_neg (by omega)]
      exact hs _ _ (by omega) hpq hq
theorem zqy (hO : SWO lt) (hs : SortedIn lt a m d) {i : Nat} (hi : a ≤ i) (him : i ≤ m) (h1 : i = a ∨ lt d[m]! d[i - 1]! = false) (h2 : i = m ∨ lt d[m]! d[i]! = true) (h : ∀ x, d1[x]! = zcy d i m (m + 1) x) : SortedIn lt a (m + 1) d1 := by
 have lo : ∀ x, a ≤ x → x < i → lt d[m]! d[x]! = false := fun x hx hxi => by
  rcases h1 with e | e
  · omega
  · exact hO.ntrans _ _ _ e (SortedIn.le hO hs hx (show x ≤ i - 1 by omega) (by omega))
 have hi' : ∀ x, i ≤ x → x < m → lt d[m]! d[x]! = true := fun x hx hxm => by
  rcases h2 with e | e
  · omega
  · exact SWO.lt_of_lt_le hO e (SortedIn.le hO hs hi hx hxm)
 intro p q hp hpq hq
 rw [h, h]
 unfold zcy
 by_cases h3 : q < i
 · rw [if_neg (by omega), if_neg (by omega), if_neg (by omega), if_neg (by omega)]
   exact hs _ _ (by omega) (by omega) (by omega)
 ·
  by_cases h4 : q = i
  · subst h4
    rw [if_pos (by omega), ze4 d (show q + (m - q) = m by omega), if_neg (by omega), if_neg (by omega)]
    exact lo p hp hpq
  ·
   rw [if_neg (show ¬(i ≤ q ∧ q < i + (m + 1 - m)) by omega), if_pos (show i + (m + 1 - m) ≤ q ∧ q < m + 1 by omega)]
   by_cases h5 : p < i
   · rw [if_neg (by omega), if_neg (by omega)]
     exact hs _ _ (by omega) (by omega) (by omega)
   ·
    by_cases h6 : p = i
    · subst h6
      rw [if_pos (by omega), ze4 d (show p + (m - p) = m by omega)]
      exact hO.asymmA (hi' _ (by omega) (by omega))
    · rw [if_neg (by omega), if_pos (by omega)]
      exact hs _ _ (by omega) (by omega) (by omega)
structure zn9 (lt : α → α → Bool) (d : Array α) (a m b mid s : Nat) : Prop where
 as : a ≤ s
 sm : s ≤ m
 smid : s ≤ mid
 em : m ≤ mid + m - s
 eb : mid + m - s ≤ b
 p1 : ∀ x y, a ≤ x → x < s → mid + m - s ≤ y → y < b → lt d[y]! d[x]! = false
 p2 : ∀ x y, s ≤ x → x < m → m ≤ y → y < mid + m - s → lt d[x]! d[y]! = false
theorem zwp (hO : SWO lt) (h1 : SortedIn lt a m d) (h2 : SortedIn lt m b d) {mid s0 r0 : Nat} (ham : a < m) (hmb : m < b) (hmid : mid = (a + b) / 2) (hs0 : s0 = if mid < m then mid + m - b else a) (hr0 : r0 = if mid < m then mid else m) (g1 : s0 ≤ s) (g2 : s ≤ r0) (lo : s = s0 ∨ lt d[mid + m - 1 - (s - 1)]! d[s - 1]! = false) (hi : s = r0 ∨ lt d[mid + m - 1 - s]! d[s]! = true) : zn9 lt d a m b mid s := by
 have e0 : (mid < m ∧ s0 = mid + m - b ∧ r0 = mid) ∨ (m ≤ mid ∧ s0 = a ∧ r0 = m) := by
  by_cases c : mid < m
  · rw [if_pos c] at hs0 hr0; exact .inl ⟨c, hs0, hr0⟩
  · rw [if_neg c] at hs0 hr0; exact .inr ⟨by omega, hs0, hr0⟩
 refine ⟨by omega, by omega, by omega, by omega, by omega, fun x y hx hxs hy hyb => ?_, fun x y hx hxm hy hye => ?_⟩
 ·
  rcases lo with e | e
  · omega
  · have l1 := SortedIn.le hO h2 (show m ≤ mid + m - 1 - (s - 1) by omega) (show mid + m - 1 - (s - 1) ≤ y by omega) hyb
    have l2 := SortedIn.le hO h1 hx (show x ≤ s - 1 by omega) (by omega)
    exact hO.ntrans _ _ _ (hO.ntrans _ _ _ l1 e) l2
 ·
  rcases hi with e | e
  · omega
  ·
   have l1 := SortedIn.le hO h2 hy (show y ≤ mid + m - 1 - s by omega) (by omega)
   have l2 := SortedIn.le hO h1 (show a ≤ s by omega) hx hxm
   have e' := hO.asymmA e
   exact hO.ntrans _ _ _ (hO.ntrans _ _ _ l2 e') l1
structure zoa (lt : α → α → Bool) (d : Array α) (a b mid s e : Nat) : Prop where
 s1 : SortedIn lt a s d
 s2 : SortedIn lt s mid d
 s3 : SortedIn lt mid e d
 s4 : SortedIn lt e b d
 cr : ∀ x y, a ≤ x → x < mid → mid ≤ y → y < b → lt d[y]! d[x]! = false
theorem zn9.rot {mid : Nat} (h : zn9 lt d a m b mid s) (h1 : SortedIn lt a m d) (h2 : SortedIn lt m b d) (hr : ∀ x, d1[x]! = zcy d s m (mid + m - s) x) : zoa lt d1 a b mid s (mid + m - s) := by
 obtain ⟨as, sm, smid, em, eb, p1, p2⟩ := h
 have r1 : ∀ x, x < s → d1[x]! = d[x]! := fun x hx => by rw [hr, zcy, if_neg (by omega), if_neg (by omega)]
 have r2 : ∀ x, s ≤ x → x < mid → d1[x]! = d[x + (m - s)]! := fun x hx hy => by rw [hr, zcy, if_pos (by omega)]
 have r3 : ∀ x, mid ≤ x → x < mid + m - s → d1[x]! = d[x - (mid - s)]! := fun x hx hy => by
  rw [hr, zcy, if_neg (by omega), if_pos (by omega)]
  exact ze4 d (by omega)
 have r4 : ∀ x, mid + m - s ≤ x → d1[x]! = d[x]! := fun x hx => by rw [hr, zcy, if_neg (by omega), if_neg (by omega)]
 refine ⟨fun i j hi hij hj => ?_, fun i j hi hij hj => ?_, fun i j hi hij hj => ?_, fun i j hi hij hj => ?_, fun x y hx hxm hy hyb => ?_⟩
 · rw [r1 i (by omega), r1 j hj]; exact h1 _ _ hi hij (by omega)
 · rw [r2 i hi (by omega), r2 j (by omega) hj]; exact h2 _ _ (by omega) (by omega) (by omega)
 · rw [r3 i hi (by omega), r3 j (by omega) hj]; exact h1 _ _ (by omega) (by omega) (by omega)
 · rw [r4 i hi, r4 j (by omega)]; exact h2 _ _ (by omega) hij hj
 ·
  by_cases hxs : x < s
  ·
   rw [r1 x hxs]
   by_cases hye : y < mid + m - s
   · rw [r3 y hy hye]; exact h1 _ _ hx (by omega) (by omega)
   · rw [r4 y (by omega)]; exact p1 x y hx hxs (by omega) hyb
  ·
   rw [r2 x (by omega) hxm]
   by_cases hye : y < mid + m - s
   · rw [r3 y hy hye]; exact p2 _ _ (by omega) (by omega) (by omega) (by omega)
   · rw [r4 y (by omega)]; exact h2 _ _ (by omega) (by omega) hyb
theorem zoa.end_ {mid e : Nat} (h : zoa lt d1 a b mid s e) (hm : a ≤ mid) (hb : mid ≤ b) (hsz : b ≤ d1.size) (p2 : PermIn a mid d1 d2) (o2 : SortedIn lt a mid d2) (p3 : PermIn mid b d2 d3) (o3 : SortedIn lt mid b d3) : SortedIn lt a b d3 ∧ PermIn a b d1 d3 := by
 have c2 : ∀ x, a ≤ x → x < mid → ∀ y, mid ≤ y → y < b → lt d2[y]! d2[x]! = false := fun x hx hxm y hy hyb => by
  rw [p2.2.1 y (.inr hy)]
  exact permIn_all d1 d2 a mid (fun u => lt d1[y]! u = false) (by omega) p2 (fun i hi hm => h.cr i y hi hm hy hyb) x hx hxm
 have c3 : ∀ y, mid ≤ y → y < b → ∀ x, a ≤ x → x < mid → lt d3[y]! d3[x]! = false := fun y hy hyb x hx hxm => by
  rw [p3.2.1 x (.inl hxm)]
  exact permIn_all d2 d3 mid b (fun u => lt u d2[x]! = false) (by rw [p2.1]; exact hsz) p3 (fun i hi hm => c2 x hx hxm i hi hm) y hy hyb
 refine ⟨fun i j hi hij hj => ?_, permIn_trans _ _ _ _ _ (permIn_mono _ _ _ _ _ _ (Nat.le_refl _) hb hsz p2) (permIn_mono _ _ _ _ _ _ hm (Nat.le_refl _) (by rw [p2.1]; exact hsz) p3)⟩
 by_cases h1 : j < mid
 · rw [p3.2.1 i (.inl (by omega)), p3.2.1 j (.inl h1)]
   exact o2 i j hi hij h1
 · by_cases h2 : i < mid
   · exact c3 j (by omega) hj i hi h2
   · exact o3 i j (by omega) hij hj
theorem SortedIn.out {x y : Nat} (h : SortedIn lt x y d) (p : PermIn a b d d1) (ho : y ≤ a ∨ b ≤ x) : SortedIn lt x y d1 := fun i j hi hij hj => by
 rw [p.2.1 i (by omega), p.2.1 j (by omega)]
 exact h i j hi hij hj
def zbo (lt : α → α → Bool) (c p n : Nat) (d : Array α) : Prop := ∀ j, SortedIn lt (p + c * j) (min (p + c * j + c) n) d
def zcp (lt : α → α → Bool) (c p : Nat) (d : Array α) : Prop := ∀ j, c * j + c ≤ p → SortedIn lt (c * j) (c * j + c) d
variable {c p n : Nat}
theorem zbo.head (h : zbo lt c p n d) : SortedIn lt p (min (p + c) n) d := h 0
theorem zbo.next (h : zbo lt c p n d) : zbo lt c (p + c) n d := fun j => by
 have := h (j + 1)
 rw [Nat.mul_succ] at this
 rw [show p + c + c * j = p + (c * j + c) by omega]
 exact this
theorem zbo.out (h : zbo lt c p n d) (q : PermIn a b d d1) (hb : b ≤ p) : zbo lt c p n d1 := fun j => SortedIn.out (h j) q (.inr (by omega))
theorem zcp.zero (hc : 0 < c) : zcp lt c 0 d := fun j hj => by omega
theorem zcp.out (h : zcp lt c p d) (q : PermIn a b d d1) (hb : p ≤ a) : zcp lt c p d1 := fun j hj => SortedIn.out (h j hj) q (.inl (by omega))
theorem zcp.next (h : zcp lt c p d) {i : Nat} (hp : p = c * i) (hs : SortedIn lt p (p + c) d) : zcp lt c (p + c) d := fun j hj => by
 rcases Nat.lt_or_ge j i with e | e
 ·
  refine h j ?_
  have := Nat.mul_le_mul_left c e
  rw [Nat.mul_succ] at this
  omega
 · have := Nat.mul_le_mul_left c e
   rw [show c * j = p by omega]
   exact hs
theorem zib (h : zcp lt c p d) {i : Nat} (hp : p = c * i) (hs : SortedIn lt p n d) (hn : n ≤ p + c) : zbo lt c 0 n d := fun j => by
 rw [Nat.zero_add]
 rcases Nat.lt_or_ge j i with e | e
 · have := Nat.mul_le_mul_left c e
   rw [Nat.mul_succ] at this
   exact SortedIn.part (h j (by omega)) (Nat.le_refl _) (Nat.min_le_left _ _)
 · have := Nat.mul_le_mul_left c e
   exact SortedIn.part hs (by omega) (Nat.min_le_right _ _)
theorem zdq {n : Nat} (h : PermIn a b d d1) (hb : b ≤ n) (hn : n ≤ d.size) : PermIn 0 n d d1 := permIn_mono _ _ _ _ _ _ (Nat.zero_le _) hb hn h
end
end Go.Proofs.YtcfhkbcllijnkaaGreat
