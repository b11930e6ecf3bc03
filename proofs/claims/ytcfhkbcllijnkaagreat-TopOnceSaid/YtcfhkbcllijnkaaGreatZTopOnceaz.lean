/- Parts of the proof of TopOnce, under no condition. -/
import Derived.Test.YtcfhkbcllijnkaaGreatZTopOnceaw
import Derived.Lib.SliceRun
set_option linter.unusedVariables false
set_option linter.unusedSimpArgs false
set_option maxRecDepth 100000
set_option maxHeartbeats 0
namespace Go.Proofs.YtcfhkbcllijnkaaGreat
open Go.RowKit
theorem zcd (g : Nat) (t : TypeId) : ∀ (vs : List Value) (off : Nat) (W : World) (cur : Array Value), W.heap[g]? = some (.cells cur t (0, 0)) → off + vs.length ≤ cur.size →
 ∃ cur', (W.setCells g off vs).heap[g]? = some (.cells cur' t (0, 0)) ∧ cur'.size = cur.size ∧ (∀ j, j < off → cur'[j]? = cur[j]?) ∧ (∀ j, j < vs.length → cur'[off + j]? = vs[j]?) ∧ (∀ j, off + vs.length ≤ j → cur'[j]? = cur[j]?) ∧ Fr (fun k => k = g) W (W.setCells g off vs) ∧ (W.setCells g off vs).heap.size = W.heap.size
 | [], off, W, cur, h, hs => ⟨cur, h, rfl, fun _ _ => rfl, fun j hj => by simp at hj, fun _ _ => rfl, Fr.refl _ _, rfl⟩
 | v :: r, off, W, cur, h, hs => by
  have h1 : (W.setCell ⟨g, off, none⟩ v).heap[g]? = some (.cells (cur.setIfInBounds off v) t (0, 0)) := by
   simp [World.setCell, Array.getElem?_modify, h]
  obtain ⟨cur', e1, e2, e3, e4, e5, e6, e7⟩ := zcd g t r (off + 1) _ _ h1 (by simp at hs ⊢; omega)
  simp only [Array.size_setIfInBounds] at e2
  refine ⟨cur', e1, e2, fun j hj => ?_, fun j hj => ?_, fun j hj => ?_, ?_, ?_⟩
  · rw [e3 j (by omega), Array.getElem?_setIfInBounds, if_neg (by omega)]
  ·
   cases j with
   | zero =>
    rw [Nat.add_zero, e3 off (by omega), Array.getElem?_setIfInBounds, if_pos rfl]
    simp at hs
    rw [if_pos (by omega)]
    rfl
   | succ j =>
    rw [show off + (j + 1) = off + 1 + j from by omega, e4 j (by simpa using hj)]
    rfl
  · simp at hj
    rw [e5 j (by omega), Array.getElem?_setIfInBounds, if_neg (by omega)]
  · exact (Fr.set (S := fun k => k = g) (Fr.refl _ W) (p := ⟨g, off, none⟩) rfl v).trans e6
  · show ((W.setCell ⟨g, off, none⟩ v).setCells g (off + 1) r).heap.size = _
    rw [e7]
    simp
section
variable {P : Program}
theorem zg3 (w : World) (t e ty : TypeId) (z : Value) (ht : P.underlying t = some (.slice e)) (hv : ∀ w, (zeroValue e).run P w = .ok z w) (h1 : ∀ v ∈ z.cells.toList, v.oneCell' = true) (b o n c : Nat) (hn : 0 < n)
 (hc : ∀ j, j < n * z.cells.size → (w.cell? ⟨b, o + j, none⟩).isSome = true) (hf : ∀ j, j < n * z.cells.size → w.frozen? ⟨b, o + j, none⟩ = false) :
 (Builtin.clear_ #[t] ty #[.slice (some ⟨b, o, none⟩) n c]).run P w = .ok (.tuple #[]) (w.setCells b o (Builtin.zeroCells z.cells n).toList) := by
 have hl : (Builtin.zeroCells z.cells n).toList.length = n * z.cells.size := by simpa using size_zeroCells z.cells n
 have hst := run_storeCells_cells (P := P) b o (Builtin.zeroCells z.cells n).toList 0 w (by rw [hl]; simpa using hc) (by rw [hl]; simpa using hf) (by
  intro v hv'
  simp only [Builtin.zeroCells, Array.toList_map, List.mem_map] at hv'
  obtain ⟨j, hj, rfl⟩ := hv'
  simp at hj
  have hz : 0 < z.cells.size := by
   rcases Nat.eq_zero_or_pos z.cells.size with h | h
   · rw [h] at hj; simp at hj
   · exact h
  refine h1 _ ?_
  have hm : j % z.cells.size < z.cells.size := Nat.mod_lt _ hz
  simp [Array.getD, hm])
 simp only [Nat.add_zero] at hst
 obtain ⟨m, rfl⟩ : ∃ m, n = m + 1 := ⟨n - 1, by omega⟩
 simp [Builtin.clear_, run_underlying ht, hv, hst]
theorem zns (k : Nat) (w : World) (dT sT ty elem : TypeId) (b o dLen dCap : Nat) (a : Addr) (sLen sCap : Nat) (cs : List Value)
 (hu : P.underlying dT = some (.slice elem)) (hs : (P.info? elem).map (·.size) = some k) (hn : cs.length = Nat.min sLen dLen * k)
 (hsrc : ∀ j v, cs[j]? = some v → w.cell? (a.add j) = some v) (hc : ∀ j, j < cs.length → (w.cell? ⟨b, o + j, none⟩).isSome = true) (hf : ∀ j, j < cs.length → w.frozen? ⟨b, o + j, none⟩ = false) (h1 : ∀ v ∈ cs, v.oneCell' = true) :
 (Builtin.copy_ #[dT, sT] ty #[.slice (some ⟨b, o, none⟩) dLen dCap, .slice (some a) sLen sCap]).run P w = .ok (goInt (Nat.min sLen dLen)) (w.setCells b o cs) := by
 have hl := run_loadCells_list (P := P) w a cs hsrc
 have hst := run_storeCells_cells (P := P) b o cs 0 w (by simpa using hc) (by simpa using hf) h1
 cases hq : P.info? elem with
 | none => simp [hq] at hs
 | some i =>
  have hi : i.size = k := by simpa [hq] using hs
  simp [Builtin.copy_, run_underlying hu, Builtin.lenOf, Builtin.firstCells, sizeOf, typeInfo, hq, hi, ← hn, hl, hst]
end
end Go.Proofs.YtcfhkbcllijnkaaGreat
