/- Parts of the proof of TopOnce, under no condition. -/
import Derived.Test.YtcfhkbcllijnkaaGreatZTopOncead
import Derived.Maps.Own
import Derived.WideKeyPair
import Derived.DeepKeys4
import Derived.MapKept
set_option linter.unusedVariables false
set_option linter.unusedSimpArgs false
set_option maxRecDepth 100000
set_option maxHeartbeats 0
namespace Go.Proofs.YtcfhkbcllijnkaaGreat
open Go.RowKit Go.Maps
def pk (a b : Int) : Value := .agg #[.int .i64 a, .int .i64 b]
def zbl (a : Int) : Prop := (Lit.int .i64 a).wf = true
theorem zog {a b c d : Int} (h : pk a b = pk c d) : a = c ∧ b = d := by
 unfold pk at h
 injection h with h
 have h := congrArg Array.toList h
 simp at h
 exact h
structure zca (es : Array MapEntry) (clock : Nat) (f : Int → Int → Option Value) : Prop where
 keys : ∀ (i : Nat) (e : MapEntry), es[i]? = some e → ∃ a b, zbl a ∧ zbl b ∧ e.key = pk a b ∧ f a b = some e.val
 has : ∀ a b v, f a b = some v → ∃ (i : Nat) (e : MapEntry), es[i]? = some e ∧ e.key = pk a b ∧ e.val = v
 born : ∀ (i : Nat) (e : MapEntry), es[i]? = some e → e.born < clock
 inj : ∀ (i j : Nat) (e e' : MapEntry), es[i]? = some e → es[j]? = some e' → e.born = e'.born ∨ e.key = e'.key → i = j
def zdo (w : World) (b : Nat) (f : Int → Int → Option Value) : Prop := ∃ es clock, w.heap[b]? = some (.map es clock) ∧ zca es clock f
def zds (f : Int → Int → Option Value) (x y : Int) (v : Value) : Int → Int → Option Value := fun a b => if a = x ∧ b = y then some v else f a b
theorem zca.empty : zca #[] 0 (fun _ _ => none) := ⟨fun i e h => by simp at h, fun a b v h => by simp at h, fun i e h => by simp at h, fun i j e e' h => by simp at h⟩
section
variable {P : Program} {t k et : TypeId} {w : World} {b : Nat} {f : Int → Int → Option Value}
theorem zca.find {es : Array MapEntry} {clock : Nat} (h : zca es clock f) (K : Keyed P k) (hkey : ∀ a b, zbl a → zbl b → ∃ l, keyOf P k (pk a b) = some l) (x y : Int) (hx : zbl x) (hy : zbl y) (w : World) :
 ((Instr.findKey k (pk x y) es.toList).run P w = .ok none w ∧ f x y = none ∧ ∀ (i : Nat) (e : MapEntry), es[i]? = some e → e.key ≠ pk x y) ∨
 ∃ (j : Nat) (e : MapEntry), (Instr.findKey k (pk x y) es.toList).run P w = .ok (some (j, e.val)) w ∧ es[j]? = some e ∧ e.key = pk x y ∧ f x y = some e.val := by
 obtain ⟨l, hl⟩ := hkey x y hx hy
 rcases K.find w hl es.toList (fun e he => by
  obtain ⟨i, hi⟩ := List.getElem?_of_mem he
  obtain ⟨a, b, ha, hb, he, _⟩ := h.keys i e (by simpa using hi)
  rw [he]; exact hkey a b ha hb) with ⟨h1, h2⟩ | ⟨j, e, h1, h2, h3⟩
 ·
  have h2' : ∀ (i : Nat) (e : MapEntry), es[i]? = some e → e.key ≠ pk x y := fun i e hi => h2 e (by
   have := List.mem_of_getElem? (l := es.toList) (i := i) (a := e) (by simpa using hi)
   exact this)
  refine .inl ⟨h1, ?_, h2'⟩
  cases hf : f x y with
  | none => rfl
  | some v =>
   obtain ⟨i, e, hi, he, _⟩ := h.has x y v hf
   exact absurd he (h2' i e hi)
 ·
  have hj : es[j]? = some e := by simpa using h2
  obtain ⟨a, b, _, _, he, hfe⟩ := h.keys j e hj
  obtain ⟨rfl, rfl⟩ := zog (he.symm.trans h3)
  exact .inr ⟨j, e, h1, hj, h3, hfe⟩
theorem zdo.lookup (h : zdo w b f) (K : Keyed P k) (hkey : ∀ a b, zbl a → zbl b → ∃ l, keyOf P k (pk a b) = some l) (ht : P.underlying t = some (.map k et)) (z : Value) (hz : (zeroValue et).run P w = .ok z w)
 (x y : Int) (hx : zbl x) (hy : zbl y) : (Instr.lookup t (.map (some b)) (pk x y) false).run P w = .ok ((f x y).getD z) w := by
 obtain ⟨es, clock, hb, h⟩ := h
 obtain ⟨l, hl⟩ := hkey x y hx hy
 rcases h.find K hkey x y hx hy w with ⟨h1, h2, _⟩ | ⟨j, e, h1, _, _, h4⟩
 · simp [Instr.lookup, run_underlying ht, MapKept.run_getObj_map hb, K.check w _ hl, h1, h2, hz, Result.andThen]
 · simp [Instr.lookup, run_underlying ht, MapKept.run_getObj_map hb, K.check w _ hl, h1, h4, Result.andThen]
theorem zca.push {es : Array MapEntry} {clock : Nat} (h : zca es clock f) (x y : Int) (v : Value) (hx : zbl x) (hy : zbl y) (hn : ∀ (i : Nat) (e : MapEntry), es[i]? = some e → e.key ≠ pk x y) :
 zca (es.push { key := pk x y, val := v, born := clock }) (clock + 1) (zds f x y v) := by
 have key : ∀ (i : Nat) (e : MapEntry), (es.push { key := pk x y, val := v, born := clock })[i]? = some e → (es[i]? = some e ∧ i < es.size) ∨ (i = es.size ∧ e = { key := pk x y, val := v, born := clock }) := fun i e he => by
  rw [Array.getElem?_push] at he
  split at he
  · rename_i hi; injection he with he; exact .inr ⟨hi, he.symm⟩
  · exact .inl ⟨he, (yya.1 he).1⟩
 refine ⟨fun i e he => ?_, fun a b u hu => ?_, fun i e he => ?_, fun i j e e' he he' hh => ?_⟩
 ·
  rcases key i e he with ⟨he, _⟩ | ⟨_, rfl⟩
  ·
   obtain ⟨a, b, ha, hb, hk, hf⟩ := h.keys i e he
   refine ⟨a, b, ha, hb, hk, ?_⟩
   unfold zds
   rw [if_neg (fun hc => hn i e he (by rw [hk, hc.1, hc.2]))]
   exact hf
  · exact ⟨x, y, hx, hy, rfl, by simp [zds]⟩
 ·
  unfold zds at hu
  split at hu
  ·
   rename_i hc
   obtain ⟨rfl, rfl⟩ := hc
   injection hu with hu
   exact ⟨es.size, { key := pk a b, val := v, born := clock }, by simp, rfl, hu⟩
  · obtain ⟨i, e, hi, hk, hv⟩ := h.has a b u hu
    have hlt := (yya.1 hi).1
    exact ⟨i, e, by rw [Array.getElem?_push]; rw [if_neg (by omega)]; exact hi, hk, hv⟩
 · rcases key i e he with ⟨he, _⟩ | ⟨_, rfl⟩
   · have := h.born i e he; omega
   · simp
 ·
  rcases key i e he with ⟨he, hi⟩ | ⟨hi, rfl⟩ <;> rcases key j e' he' with ⟨he', hj⟩ | ⟨hj, rfl⟩
  · exact h.inj i j e e' he he' hh
  ·
   have h1 := h.born i e he
   have h2 := hn i e he
   rcases hh with hh | hh
   · simp at hh; omega
   · exact absurd hh h2
  ·
   have h1 := h.born j e' he'
   have h2 := hn j e' he'
   rcases hh with hh | hh
   · simp at hh; omega
   · exact absurd hh.symm h2
  · omega
theorem zca.modify {es : Array MapEntry} {clock : Nat} (h : zca es clock f) (x y : Int) (v : Value) (j : Nat) (e0 : MapEntry) (hj : es[j]? = some e0) (hk : e0.key = pk x y) (g : MapEntry → MapEntry) (hg : g e0 = { e0 with val := v }) :
 zca (es.modify j g) clock (zds f x y v) := by
 have key : ∀ (i : Nat) (e : MapEntry), (es.modify j g)[i]? = some e → (i ≠ j ∧ es[i]? = some e) ∨ (i = j ∧ e = { e0 with val := v }) := fun i e he => by
  rw [Array.getElem?_modify] at he
  split at he
  · rename_i hi; subst hi; rw [hj] at he; simp [hg] at he; exact .inr ⟨rfl, he.symm⟩
  · rename_i hi; exact .inl ⟨fun h => hi h.symm, he⟩
 obtain ⟨a0, b0, ha0, hb0, hk0, hf0⟩ := h.keys j e0 hj
 obtain ⟨rfl, rfl⟩ := zog (hk0.symm.trans hk)
 refine ⟨fun i e he => ?_, fun a b u hu => ?_, fun i e he => ?_, fun i i' e e' he he' hh => ?_⟩
 ·
  rcases key i e he with ⟨hne, he⟩ | ⟨rfl, rfl⟩
  ·
   obtain ⟨a, b, ha, hb, hk', hf⟩ := h.keys i e he
   refine ⟨a, b, ha, hb, hk', ?_⟩
   unfold zds
   rw [if_neg (fun hc => hne (h.inj i j e e0 he hj (.inr (by rw [hk', hk, hc.1, hc.2]))))]
   exact hf
  · exact ⟨a0, b0, ha0, hb0, hk, by simp [zds]⟩
 ·
  unfold zds at hu
  split at hu
  ·
   rename_i hc
   obtain ⟨rfl, rfl⟩ := hc
   injection hu with hu
   exact ⟨j, { e0 with val := v }, by rw [Array.getElem?_modify]; simp [hj, hg], hk, hu⟩
  ·
   rename_i hc
   obtain ⟨i, e, hi, hk', hv⟩ := h.has a b u hu
   refine ⟨i, e, ?_, hk', hv⟩
   rw [Array.getElem?_modify, if_neg (fun hij => ?_)]
   · exact hi
   ·
    subst hij
    rw [hj] at hi
    injection hi with hi
    subst hi
    obtain ⟨rfl, rfl⟩ := zog (hk.symm.trans hk')
    exact hc ⟨rfl, rfl⟩
 · rcases key i e he with ⟨_, he⟩ | ⟨_, rfl⟩
   · exact h.born i e he
   · exact h.born j e0 hj
 ·
  rcases key i e he with ⟨hi, he⟩ | ⟨hi, rfl⟩ <;> rcases key i' e' he' with ⟨hi', he'⟩ | ⟨hi', rfl⟩
  · exact h.inj i i' e e' he he' hh
  · exact absurd (h.inj i j e e0 he hj hh) hi
  · exact absurd (h.inj j i' e0 e' hj he' hh).symm hi'
  · omega
def World.setBlk (w : World) (b : Nat) (o : Obj) : World := { w with heap := w.heap.setIfInBounds b o }
theorem zdo.update (h : zdo w b f) (K : Keyed P k) (hkey : ∀ a b, zbl a → zbl b → ∃ l, keyOf P k (pk a b) = some l) (ht : P.underlying t = some (.map k et)) (x y : Int) (hx : zbl x) (hy : zbl y) (v : Value) :
 ∃ es clock, (Instr.mapUpdate t (.map (some b)) (pk x y) v).run P w = .ok () (World.setBlk w b (.map es clock)) ∧ zca es clock (zds f x y v) := by
 obtain ⟨es, clock, hb, h⟩ := h
 obtain ⟨l, hl⟩ := hkey x y hx hy
 rcases h.find K hkey x y hx hy w with ⟨h1, h2, h3⟩ | ⟨j, e, h1, h2, h3, h4⟩
 · refine ⟨es.push { key := pk x y, val := v, born := clock }, clock + 1, ?_, h.push x y v hx hy h3⟩
   simp [Instr.mapUpdate, run_underlying ht, MapKept.run_getObj_map hb, K.check w _ hl, h1, MapKept.run_setObj_map _ hb, Result.andThen, World.setBlk]
 · refine ⟨es.modify j fun e => { e with key := pk x y, val := v }, clock, ?_, h.modify x y v j e h2 h3 _ (by simp [h3])⟩
   simp [Instr.mapUpdate, run_underlying ht, MapKept.run_getObj_map hb, K.check w _ hl, h1, h2, h3, K.stays w hl, MapKept.run_setObj_map _ hb, Result.andThen, World.setBlk]
end
theorem zca.born_at {es : Array MapEntry} {clock : Nat} {f : Int → Int → Option Value} (h : zca es clock f) {j : Nat} {e0 : MapEntry} (hj : es[j]? = some e0) : es.findIdx? (fun e => ((e.born : Nat) : Int) == ((e0.born : Nat) : Int)) = some j := by
 obtain ⟨hlt, he⟩ := yya.1 hj
 rw [Array.findIdx?_eq_some_iff_getElem]
 refine ⟨hlt, by rw [he]; simp, fun i hi => ?_⟩
 intro hc
 have hi2 : es[i]? = some es[i] := Array.getElem?_eq_getElem (by omega)
 have := h.inj i j es[i] e0 hi2 hj (.inl (Int.natCast_inj.1 (by simpa using hc)))
 omega
theorem zhx (f : Int → Int → Option Value) (x y : Int) (u v : Value) : zds (zds f x y u) x y v = zds f x y v := by
 funext a b
 unfold zds
 split
 · rfl
 · rfl
section
variable {P : Program} {t k et : TypeId} {w : World} {b : Nat} {f : Int → Int → Option Value}
theorem zbs (w : World) (b : Nat) (o o' : Obj) (hb : w.heap[b]? = some o') : (World.setBlk w b o).heap[b]? = some o := by
 have hlt := (yya.1 hb).1
 simp [World.setBlk, hlt]
theorem zep {es : Array MapEntry} {clock : Nat} (h : zca es clock f) (x y : Int) (j : Nat) (e0 : MapEntry) (hj : es[j]? = some e0) (hk : e0.key = pk x y) (w2 : World) (hb : w2.heap[b]? = some (.map es clock)) (v : Value) :
 ∃ es' clock', (Instr.entryStore t (.map (some b)) (goInt e0.born) v).run P w2 = .ok () (World.setBlk w2 b (.map es' clock')) ∧ zca es' clock' (zds f x y v) := by
 refine ⟨es.modify j fun e => { e with val := v }, clock, ?_, h.modify x y v j e0 hj hk _ rfl⟩
 have hidx := h.born_at hj
 simp only [Instr.entryStore, Sem.run_bind, MapKept.run_getObj_map hb, Result.andThen]
 have ha : (asInt (goInt e0.born)).run P w2 = .ok ((e0.born : Nat) : Int) w2 := rfl
 simp only [ha]
 rw [hidx]
 simp [MapKept.run_setObj_map _ hb, World.setBlk]
theorem zdo.entry (h : zdo w b f) (K : Keyed P k) (hkey : ∀ a b, zbl a → zbl b → ∃ l, keyOf P k (pk a b) = some l) (ht : P.underlying t = some (.map k et)) (z : Value) (hz : (zeroValue et).run P w = .ok z w) (x y : Int) (hx : zbl x) (hy : zbl y) :
 ∃ (st : Nat) (es : Array MapEntry) (clock : Nat), (Instr.mapEntry t (.map (some b)) (pk x y)).run P w = .ok (.tuple #[(f x y).getD z, goInt st]) (World.setBlk w b (.map es clock)) ∧ zca es clock (zds f x y ((f x y).getD z)) ∧
  (∀ (w2 : World) (v : Value), w2.heap[b]? = some (.map es clock) → ∃ es' clock', (Instr.entryStore t (.map (some b)) (goInt st) v).run P w2 = .ok () (World.setBlk w2 b (.map es' clock')) ∧ zca es' clock' (zds f x y v)) := by
 obtain ⟨es, clock, hb, h⟩ := h
 obtain ⟨l, hl⟩ := hkey x y hx hy
 rcases h.find K hkey x y hx hy w with ⟨h1, h2, h3⟩ | ⟨j, e, h1, h2, h3, h4⟩
 ·
  have hp := h.push x y z hx hy h3
  refine ⟨clock, es.push { key := pk x y, val := z, born := clock }, clock + 1, ?_, by rw [h2]; exact hp, fun w2 v hw2 => ?_⟩
  · simp [Instr.mapEntry, run_underlying ht, MapKept.run_getObj_map hb, K.check w _ hl, h1, h2, hz, MapKept.run_setObj_map _ hb, Result.andThen, World.setBlk]
  · obtain ⟨es', clock', q1, q2⟩ := zep (P := P) (t := t) (b := b) hp x y es.size { key := pk x y, val := z, born := clock } (by simp) rfl w2 hw2 v
    rw [zhx] at q2
    exact ⟨es', clock', q1, q2⟩
 ·
  have hp := h.modify x y e.val j e h2 h3 (fun e => { e with key := pk x y }) (by simp [h3])
  refine ⟨e.born, es.modify j fun e => { e with key := pk x y }, clock, ?_, by rw [h4]; exact hp, fun w2 v hw2 => ?_⟩
  · simp [Instr.mapEntry, run_underlying ht, MapKept.run_getObj_map hb, K.check w _ hl, h1, h2, h3, h4, K.stays w hl, MapKept.run_setObj_map _ hb, Result.andThen, World.setBlk]
  · obtain ⟨es', clock', q1, q2⟩ := zep (P := P) (t := t) (b := b) hp x y j { e with key := pk x y } (by rw [Array.getElem?_modify]; simp [h2]) rfl w2 hw2 v
    rw [zhx] at q2
    exact ⟨es', clock', q1, q2⟩
end
end Go.Proofs.YtcfhkbcllijnkaaGreat
