/- Parts of the proof of TopOnce, under no condition. -/
import Derived.Test.YtcfhkbcllijnkaaGreatZTopOnceap
import Derived.Test.YtcfhkbcllijnkaaGreatZTopOnceab
set_option linter.unusedVariables false
set_option linter.unusedSimpArgs false
set_option maxRecDepth 100000
set_option maxHeartbeats 0
namespace Go.Proofs.YtcfhkbcllijnkaaGreat
open Go.RowKit Go.Sort
def ze2 (e : En) : List Value := [.int .u64 e.key, .int .i64 e.id]
def zbf (l : List En) : List Value := l.flatMap ze2
theorem zef (e : En) (l : List En) : zbf (e :: l) = .int .u64 e.key :: .int .i64 e.id :: zbf l := rfl
theorem zjv (l m : List En) : zbf (l ++ m) = zbf l ++ zbf m := by simp [zbf]
theorem zcr (l : List En) : (zbf l).length = l.length * 2 := by
 induction l with
 | nil => rfl
 | cons e l ih => rw [zef]; simp only [List.length_cons, ih]; omega
theorem zcz (l : List En) (j i : Nat) (hi : i < 2) : (zbf l)[j * 2 + i]? = l[j]?.bind fun e => (ze2 e)[i]? := by
 induction l generalizing j with
 | nil => simp [zbf]
 | cons e l ih =>
  cases j with
  | zero =>
   rcases (show i = 0 ∨ i = 1 from by omega) with rfl | rfl <;> rfl
  | succ j =>
   rw [zef, show (j + 1) * 2 + i = (j * 2 + i) + 1 + 1 from by omega, List.getElem?_cons_succ, List.getElem?_cons_succ, ih]
   rfl
theorem zgx (l : List En) : ∀ u ∈ zbf l, u.oneCell' = true := by
 intro u hu
 simp only [zbf, List.mem_flatMap, ze2, List.mem_cons, List.not_mem_nil, or_false] at hu
 obtain ⟨e, _, rfl | rfl⟩ := hu <;> rfl
theorem znh (l : List En) (n : Nat) : (zbf l).take (n * 2) = zbf (l.take n) := by
 induction l generalizing n with
 | nil => simp [zbf]
 | cons e l ih =>
  cases n with
  | zero => simp [zbf]
  | succ n => rw [show (n + 1) * 2 = n * 2 + 1 + 1 from by omega, zef]; simp only [List.take_succ_cons, ih, zef]
theorem zgy (l : List En) : (flatK ze2 2 l.toArray).toList = zbf l := by
 apply List.ext_getElem?
 intro t
 rcases Nat.lt_or_ge t (l.length * 2) with h | h
 ·
  have e : t = t / 2 * 2 + t % 2 := by omega
  have hd : t / 2 < l.length := by omega
  rw [show (zbf l)[t]? = (zbf l)[t / 2 * 2 + t % 2]? from by rw [← e], zcz l (t / 2) (t % 2) (by omega)]
  have hs : t < (flatK ze2 2 l.toArray).size := by simpa using h
  rw [Array.getElem?_toList, Array.getElem?_eq_getElem hs, ← getElem!_pos (flatK ze2 2 l.toArray) t hs, get_flatK ze2 2 l.toArray t (by simpa using h)]
  rw [yyg hd]
  have h2 : (l.toArray)[t / 2]! = l[t / 2] := by simp [hd]
  rw [h2]
  have hm : t % 2 < (ze2 l[t / 2]).length := by show t % 2 < 2; omega
  simp only [Option.bind_some]
  rw [getElem!_pos (ze2 l[t / 2]) (t % 2) hm, yyg hm]
 · rw [List.getElem?_eq_none (show (zbf l).length ≤ t from by rw [zcr]; exact h), List.getElem?_eq_none (by rw [Array.length_toList, size_flatK]; simpa using h)]
theorem zwm : SWO (ltOf zb1) where
 irrefl x := zm8 x
 trans x y z h k := zoc h k
 ntrans x y z h k := by
  have h : ltE x y = false := h
  have k : ltE y z = false := k
  show ltE x z = false
  rw [zd5] at *
  omega
theorem zgz (l : List En) : (Sort.insertionSort (ltOf zb1) l.toArray 0 l.length).toList = zaj l := by
 obtain ⟨hp, hs⟩ := insertionSort_holds zwm l.toArray 0 l.length (Nat.zero_le _) (by simp)
 have hsz : (Sort.insertionSort (ltOf zb1) l.toArray 0 l.length).size = l.length := by rw [hp.1]; simp
 have hperm : (Sort.insertionSort (ltOf zb1) l.toArray 0 l.length).toList.Perm l := by
  have h := hp.2.2
  generalize Sort.insertionSort (ltOf zb1) l.toArray 0 l.length = X at h hsz
  have hx : X.extract 0 l.length = X := by rw [← hsz]; exact Array.extract_size
  rw [hx] at h
  simpa using h
 refine (ze6 hperm ?_).symm
 unfold zbh
 rw [List.pairwise_iff_getElem]
 intro i j hi hj hij
 have hi' : i < (Sort.insertionSort (ltOf zb1) l.toArray 0 l.length).size := by simpa using hi
 have hj' : j < (Sort.insertionSort (ltOf zb1) l.toArray 0 l.length).size := by simpa using hj
 have h := hs i j (Nat.zero_le _) hij (by omega)
 rw [getElem!_pos _ i hi', getElem!_pos _ j hj'] at h
 exact h
theorem zim (blk off size : Nat) (w : World) : CmpLays Tryz.prog 284 #[] ze2 2 zb1 blk off size w := fun _ _ _ _ x y => zot x y _
theorem zjw {W : World} {g off : Nat} {cur : Array Value} {t : TypeId} {l : List En} (hg : W.heap[g]? = some (.cells cur t (0, 0))) (hc : ∀ j, j < l.length * 2 → cur[off + j]? = (zbf l)[j]?) : HoldsK ze2 2 W g off l.toArray := by
 intro j hj
 have hj2 : j < l.length * 2 := by simpa using hj
 constructor
 · have h := hc j hj2
   rw [← zgy l, Array.getElem?_toList, Array.getElem?_eq_getElem hj, ← getElem!_pos _ j hj] at h
   simp [World.cell?, hg, h]
 · simp [World.frozen?, hg]
theorem zf7 {W : World} {g off : Nat} {cur : Array Value} {t : TypeId} (hg : W.heap[g]? = some (.cells cur t (0, 0))) (m : Nat) (d : Array En) (os : Array Obj) : (sortWorldK ze2 2 W g off m d os).heap[g]? = some (.cells (putCells id off (flatK ze2 2 d) cur) t (0, 0)) := by
 unfold sortWorldK putRowK putRow
 show ((mapBlock (Sort.ahead W m) g _).heap ++ os)[g]? = _
 have hlt : g < (mapBlock (Sort.ahead W m) g (putCells id off (flatK ze2 2 d))).heap.size := by
  show g < (W.heap.modify g _).size
  rw [Array.size_modify]
  exact zac hg
 rw [Array.getElem?_append_left hlt]
 show (W.heap.modify g _)[g]? = _
 rw [Array.getElem?_modify, if_pos rfl, hg]
 rfl
theorem ze9 {W : World} {g off : Nat} (m : Nat) (d : Array En) (os : Array Obj) : Fr (fun k => k = g) W (sortWorldK ze2 2 W g off m d os) := by
 refine ⟨rfl, rfl, rfl, ?_, fun k hk hn => ?_⟩
 · show W.heap.size ≤ ((W.heap.modify g _) ++ os).size
   rw [Array.size_append, Array.size_modify]
   omega
 · show ((W.heap.modify g _) ++ os)[k]? = _
   rw [Array.getElem?_append_left (by rw [Array.size_modify]; exact hk), Array.getElem?_modify, if_neg (fun e => hn e.symm)]
theorem zev (F : Array Value) (off : Nat) (cur : Array Value) (j : Nat) (hj : j < F.size) (hb : off + j < cur.size) : (putCells id off F cur)[off + j]? = F.toList[j]? := by
 unfold putCells
 rw [Array.getElem?_mapIdx, Array.getElem?_eq_getElem hb, Option.map_some, if_pos ⟨by omega, by omega⟩, show off + j - off = j from by omega, getElem!_pos F j hj, Array.getElem?_toList, Array.getElem?_eq_getElem hj]
 rfl
theorem zin (F : Array Value) (off : Nat) (cur : Array Value) : (putCells id off F cur).size = cur.size := by simp [putCells]
theorem zh2 {W : World} {b off cap : Nat} {l m : List En} (h : SlV W 63 2 (.slice (some ⟨b, off, none⟩) l.length cap) l.length (zbf l)) (hm : m.length = l.length) (n : Nat) (os : Array Obj) : SlV (sortWorldK ze2 2 W b off n m.toArray os) 63 2 (.slice (some ⟨b, off, none⟩) l.length cap) l.length (zbf m) := by
 refine ⟨by rw [zcr, hm], ?_⟩
 rcases h.2 with ⟨h1, _⟩ | ⟨b', off', cap', cur, e1, h1, h2, hg, h3⟩
 · cases h1
 ·
  injection e1 with e1 e2 e3
  injection e1 with e1
  injection e1 with e1 e4
  subst e1 e3 e4
  refine .inr ⟨b, off, cap, putCells id off (flatK ze2 2 m.toArray) cur, rfl, h1, h2, zf7 hg n m.toArray os, fun j hj => ?_⟩
  have hb : off + j < cur.size := by
   have := h3 j hj
   rw [yyg (show j < (zbf l).length from by rw [zcr]; exact hj)] at this
   exact (yya.1 this).1
  rw [zev (flatK ze2 2 m.toArray) off cur j (by rw [size_flatK]; simpa [hm] using hj) hb, zgy]
theorem zww (f : Value) (W : World) : Calls Tryz.prog 302 #[.slice none 0 0, .int .i64 0, .int .i64 0, f] W fun e w' => e = .returned (.tuple #[]) ∧ w' = W := by
 go_enter Tryz.func302, Tryz.ntmps302
 go_wp2_with fail
 refine wp_loop_rounds 1 ?_
 rw [rounds_succ]
 go_wp2_with fail
 go_end0
 exact ⟨rfl, rfl⟩
def clE : Value := .func (.func 284) #[] #[]
theorem zwx {W : World} {v : Value} {l : List En} (hl : l.length ≤ 100000) (h : SlV W 63 2 v l.length (zbf l)) : Calls Tryz.prog 302 #[v, .int .i64 0, .int .i64 l.length, clE] W fun e w' => e = .returned (.tuple #[]) ∧ SlV w' 63 2 v l.length (zbf (zaj l)) ∧ Fr (fun k => v.ownBlock = some k) W w' := by
 rcases h.2 with ⟨rfl, h0⟩ | ⟨b, off, cap, cur, rfl, h1, h2, hg, h3⟩
 ·
  have : l = [] := List.eq_nil_of_length_eq_zero h0
  subst this
  refine (zww clE W).mono ?_
  rintro e w' ⟨rfl, rfl⟩
  exact ⟨rfl, h, Fr.refl _ _⟩
 ·
  have hH : HoldsK ze2 2 W b off l.toArray := zjw hg h3
  have eg : ∀ args w, (callFunc 284 args).run Tryz.prog w = .ok (.enter 284 args) w := enters_of Tryz.func284 (by kernel_rfl) rfl
  have key := AnyQ.insertionSortCmpFunc Tryz.sortEn 2 Tryz.isAgg63 Tryz.sizeOf63 ze2 (fun _ => rfl) (fun x v hv => by simp [ze2] at hv; rcases hv with rfl | rfl <;> rfl) zb1 284 #[] b off cap 0 l.length l.toArray W eg (zim b off _ W) hH (zac hg) (Nat.zero_le _) (by simp) (by simp; omega)
  change Calls Tryz.prog 302 _ _ _ at key
  have hsl : (l.toArray).size = l.length := by simp
  rw [hsl] at key
  refine key.mono ?_
  rintro e w' ⟨rfl, n, os, rfl⟩
  have hm : Sort.insertionSort (ltOf zb1) l.toArray 0 l.length = (zaj l).toArray := by rw [← zgz]
  rw [hm]
  refine ⟨rfl, zh2 h (zam l) n os, (ze9 n _ os).mono (fun k hk => by subst hk; rfl)⟩
end Go.Proofs.YtcfhkbcllijnkaaGreat
