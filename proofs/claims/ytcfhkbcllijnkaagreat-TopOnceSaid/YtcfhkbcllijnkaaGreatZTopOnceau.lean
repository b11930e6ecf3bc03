/- Parts of the proof of TopOnce, under no condition. -/
import Derived.Test.YtcfhkbcllijnkaaGreatZTopOnceas
import Derived.Maps.RangeRun
set_option linter.unusedVariables false
set_option linter.unusedSimpArgs false
set_option maxRecDepth 100000
set_option maxHeartbeats 0
namespace Go.Proofs.YtcfhkbcllijnkaaGreat
open Go.RowKit Go.Maps Go.Proofs.YtcfhkbcllijnkaaGreatW.PrintWords
section
variable {P : Program} {k et t : TypeId} {w : World} {b ck : Nat} {key v z : Value} {l : Lit} {e : MapEntry}
theorem zuu (K : Keyed P k) (hl : keyOf P k key = some l) (w : World) : (Instr.findKey k key []).run P w = .ok none w := by
 rcases K.find w hl [] (fun e he => absurd he (by simp)) with ⟨h, -⟩ | ⟨j, e, -, h, -⟩
 · exact h
 · simp at h
theorem zuv (K : Keyed P k) (hl : keyOf P k key = some l) (w : World) (he : e.key = key) : (Instr.findKey k key [e]).run P w = .ok (some (0, e.val)) w := by
 rcases K.find w hl [e] (fun x hx => by
  have : x = e := by simpa using hx
  rw [this, he]
  exact ⟨l, hl⟩) with ⟨-, h⟩ | ⟨j, x, h, hj, -⟩
 · exact absurd he (h e (by simp))
 ·
  cases j with
  | zero =>
   have : x = e := by simpa using hj.symm
   rw [h, this]
  | succ j => simp at hj
theorem zw1 (K : Keyed P k) (ht : P.underlying t = some (.map k et)) (hb : w.heap[b]? = some (.map #[] ck)) (hl : keyOf P k key = some l) (hz : (zeroValue et).run P w = .ok z w) : (Instr.lookup t (.map (some b)) key false).run P w = .ok z w := by
 simp [Instr.lookup, run_underlying ht, MapKept.run_getObj_map hb, K.check w _ hl, zuu K hl w, hz, Result.andThen]
theorem zw2 (K : Keyed P k) (ht : P.underlying t = some (.map k et)) (hb : w.heap[b]? = some (.map #[] ck)) (hl : keyOf P k key = some l) (hz : (zeroValue et).run P w = .ok z w) : (Instr.lookup t (.map (some b)) key true).run P w = .ok (.tuple #[z, .bool false]) w := by
 simp [Instr.lookup, run_underlying ht, MapKept.run_getObj_map hb, K.check w _ hl, zuu K hl w, hz, Result.andThen]
theorem zuw (K : Keyed P k) (ht : P.underlying t = some (.map k et)) (hb : w.heap[b]? = some (.map #[e] ck)) (hl : keyOf P k key = some l) (he : e.key = key) : (Instr.lookup t (.map (some b)) key false).run P w = .ok e.val w := by
 simp [Instr.lookup, run_underlying ht, MapKept.run_getObj_map hb, K.check w _ hl, zuv K hl w he, Result.andThen]
theorem zzm (K : Keyed P k) (ht : P.underlying t = some (.map k et)) (hb : w.heap[b]? = some (.map #[] ck)) (hl : keyOf P k key = some l) (v : Value) : (Instr.mapUpdate t (.map (some b)) key v).run P w = .ok () (World.setBlk w b (.map #[{ key := key, val := v, born := ck }] (ck + 1))) := by
 simp [Instr.mapUpdate, run_underlying ht, MapKept.run_getObj_map hb, K.check w _ hl, zuu K hl w, K.stays w hl, MapKept.run_setObj_map _ hb, Result.andThen, World.setBlk]
theorem zzv (K : Keyed P k) (ht : P.underlying t = some (.map k et)) (hb : w.heap[b]? = some (.map #[e] ck)) (hl : keyOf P k key = some l) (he : e.key = key) (v : Value) : (Instr.mapUpdate t (.map (some b)) key v).run P w = .ok () (World.setBlk w b (.map #[{ e with key := key, val := v }] ck)) := by
 simp [Instr.mapUpdate, run_underlying ht, MapKept.run_getObj_map hb, K.check w _ hl, zuv K hl w he, he, K.stays w hl, MapKept.run_setObj_map _ hb, Result.andThen, World.setBlk]
theorem zzn (K : Keyed P k) (ht : P.underlying t = some (.map k et)) (hb : w.heap[b]? = some (.map #[e] ck)) (hl : keyOf P k key = some l) (he : e.key = key) (ty : TypeId) : (Builtin.delete_ #[t, k] ty #[.map (some b), key]).run P w = .ok (.tuple #[]) (World.setBlk w b (.map #[] ck)) := by
 simp [Builtin.delete_, run_underlying ht, MapKept.run_getObj_map hb, K.check w _ hl, zuv K hl w he, MapKept.run_setObj_map _ hb, Result.andThen, World.setBlk]
theorem zrk (w : World) (ty : TypeId) {r bm since c0 : Nat} {seen : Array Nat} {es : Array MapEntry} {clock : Nat} (hr : w.heap[r]? = some (.mapIter (some bm) since seen c0)) (hb : w.heap[bm]? = some (.map es clock)) (hold : ∀ x ∈ es.toList, x.born < since) (hsc : since ≤ c0) (h0 : ∀ x ∈ es.toList, seen.contains x.born = true) : (Instr.next (.pointer (some ⟨r, 0, none⟩)) false ty).run P w = .ok (.tuple #[.bool false]) w := by
 rcases run_next_at (P := P) w ty r bm since c0 seen es clock hr hb hold hsc with ⟨-, h⟩ | ⟨x, hx, -⟩
 · exact h
 ·
  unfold leftOf at hx
  simp at hx
  have := h0 x (by simpa using hx.1)
  simp at this
  exact absurd this hx.2
theorem next1 (w : World) (ty : TypeId) {r bm since c0 : Nat} {clock : Nat} (hr : w.heap[r]? = some (.mapIter (some bm) since #[] c0)) (hb : w.heap[bm]? = some (.map #[e] clock)) (hold : e.born < since) (hsc : since ≤ c0) : ∃ w1, (w1 = w ∨ w1 = w.drew) ∧ (Instr.next (.pointer (some ⟨r, 0, none⟩)) false ty).run P w = .ok (.tuple #[.bool true, e.key, e.val]) (World.setBlk w1 r (.mapIter (some bm) since #[e.born] clock)) := by
 rcases run_next_at (P := P) w ty r bm since c0 #[] #[e] clock hr hb (fun x hx => by rw [show x = e from by simpa using hx]; exact hold) hsc with ⟨h, -⟩ | ⟨x, hx, w1, hw, h⟩
 · simp [leftOf] at h
 · have : x = e := by simpa [leftOf] using hx
   subst this
   exact ⟨w1, hw, h⟩
end
end Go.Proofs.YtcfhkbcllijnkaaGreat
