/- Maps keyed by pairs of ints: an entry that is read, and stored anew ('m[k]++'). Over any program. -/
import Derived.Test.YtpcbcnheogjofaaMaps
namespace Go.Proofs.Ytpcbcnheogjofaa
open Go.RowKit Go.Maps
set_option linter.unusedVariables false
set_option linter.unusedSimpArgs false

theorem PMapE.born_at {es : Array MapEntry} {clock : Nat} {f : Int → Int → Option Value} (h : PMapE es clock f) {j : Nat} {e0 : MapEntry} (hj : es[j]? = some e0) : es.findIdx? (fun e => ((e.born : Nat) : Int) == ((e0.born : Nat) : Int)) = some j := by
  obtain ⟨hlt, he⟩ := Array.getElem?_eq_some_iff.1 hj
  rw [Array.findIdx?_eq_some_iff_getElem]
  refine ⟨hlt, by rw [he]; simp, fun i hi => ?_⟩
  intro hc
  have hi2 : es[i]? = some es[i] := Array.getElem?_eq_getElem (by omega)
  have := h.inj i j es[i] e0 hi2 hj (.inl (Int.natCast_inj.1 (by simpa using hc)))
  omega
theorem updF_twice (f : Int → Int → Option Value) (x y : Int) (u v : Value) : updF (updF f x y u) x y v = updF f x y v := by
  funext a b
  unfold updF
  split
  · rfl
  · rfl
section
variable {P : Program} {t k et : TypeId} {w : World} {b : Nat} {f : Int → Int → Option Value}
theorem setBlk_get (w : World) (b : Nat) (o o' : Obj) (hb : w.heap[b]? = some o') : (World.setBlk w b o).heap[b]? = some o := by
  have hlt := (Array.getElem?_eq_some_iff.1 hb).1
  simp [World.setBlk, hlt]
theorem entryStore_run {es : Array MapEntry} {clock : Nat} (h : PMapE es clock f) (x y : Int) (j : Nat) (e0 : MapEntry) (hj : es[j]? = some e0) (hk : e0.key = pk x y) (w2 : World) (hb : w2.heap[b]? = some (.map es clock)) (v : Value) :
    ∃ es' clock', (Instr.entryStore t (.map (some b)) (goInt e0.born) v).run P w2 = .ok () (World.setBlk w2 b (.map es' clock')) ∧ PMapE es' clock' (updF f x y v) := by
  refine ⟨es.modify j fun e => { e with val := v }, clock, ?_, h.modify x y v j e0 hj hk _ rfl⟩
  have hidx := h.born_at hj
  simp only [Instr.entryStore, Sem.run_bind, MapKept.run_getObj_map hb, Result.andThen]
  have ha : (asInt (goInt e0.born)).run P w2 = .ok ((e0.born : Nat) : Int) w2 := rfl
  simp only [ha]
  rw [hidx]
  simp [MapKept.run_setObj_map _ hb, World.setBlk]
/-- 'm[k]' as an entry: its value, and what a store behind it makes of the map. -/
theorem PMap.entry (h : PMap w b f) (K : Keyed P k) (hkey : ∀ a b, In64 a → In64 b → ∃ l, keyOf P k (pk a b) = some l) (ht : P.underlying t = some (.map k et)) (z : Value) (hz : (zeroValue et).run P w = .ok z w) (x y : Int) (hx : In64 x) (hy : In64 y) :
    ∃ (st : Nat) (es : Array MapEntry) (clock : Nat), (Instr.mapEntry t (.map (some b)) (pk x y)).run P w = .ok (.tuple #[(f x y).getD z, goInt st]) (World.setBlk w b (.map es clock)) ∧ PMapE es clock (updF f x y ((f x y).getD z)) ∧
      (∀ (w2 : World) (v : Value), w2.heap[b]? = some (.map es clock) → ∃ es' clock', (Instr.entryStore t (.map (some b)) (goInt st) v).run P w2 = .ok () (World.setBlk w2 b (.map es' clock')) ∧ PMapE es' clock' (updF f x y v)) := by
  obtain ⟨es, clock, hb, h⟩ := h
  obtain ⟨l, hl⟩ := hkey x y hx hy
  rcases h.find K hkey x y hx hy w with ⟨h1, h2, h3⟩ | ⟨j, e, h1, h2, h3, h4⟩
  · have hp := h.push x y z hx hy h3
    refine ⟨clock, es.push { key := pk x y, val := z, born := clock }, clock + 1, ?_, by rw [h2]; exact hp, fun w2 v hw2 => ?_⟩
    · simp [Instr.mapEntry, run_underlying ht, MapKept.run_getObj_map hb, K.check w _ hl, h1, h2, hz, MapKept.run_setObj_map _ hb, Result.andThen, World.setBlk]
    · obtain ⟨es', clock', q1, q2⟩ := entryStore_run (P := P) (t := t) (b := b) hp x y es.size { key := pk x y, val := z, born := clock } (by simp) rfl w2 hw2 v
      rw [updF_twice] at q2
      exact ⟨es', clock', q1, q2⟩
  · have hp := h.modify x y e.val j e h2 h3 (fun e => { e with key := pk x y }) (by simp [h3])
    refine ⟨e.born, es.modify j fun e => { e with key := pk x y }, clock, ?_, by rw [h4]; exact hp, fun w2 v hw2 => ?_⟩
    · simp [Instr.mapEntry, run_underlying ht, MapKept.run_getObj_map hb, K.check w _ hl, h1, h2, h3, h4, K.stays w hl, MapKept.run_setObj_map _ hb, Result.andThen, World.setBlk]
    · obtain ⟨es', clock', q1, q2⟩ := entryStore_run (P := P) (t := t) (b := b) hp x y j { e with key := pk x y } (by rw [Array.getElem?_modify]; simp [h2]) rfl w2 hw2 v
      rw [updF_twice] at q2
      exact ⟨es', clock', q1, q2⟩
end
end Go.Proofs.Ytpcbcnheogjofaa
