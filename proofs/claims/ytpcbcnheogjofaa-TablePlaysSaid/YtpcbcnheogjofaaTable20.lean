/- TablePlays: a body appended to an empty row in a region whose order is drawn. -/
import Derived.Test.YtpcbcnheogjofaaTable19
import Derived.Maps.AppendAt
import Derived.Laws.OwnMore
namespace Go.Proofs.Ytpcbcnheogjofaa
open Go.RowKit Go.Maps Go.Shelf Go.Proofs.YtpcbcnheogjofaaW.PrintWords
set_option linter.unusedVariables false
set_option linter.unusedSimpArgs false

theorem run_append_body {W : World} {E base : Nat} {sv : Value} {L : List Op3} (hE : W.heap[E]? = some (.cells #[] 135 (0, 0))) (hb : base ≤ E) (hO : OpsV W sv L) (hL : L.length ≤ 30) (ty : TypeId) :
    ∃ v' W', (Builtin.append_ #[105, 105] ty #[.slice (some ⟨E, 0, none⟩) 0 0, sv]).run Try.prog W = .ok v' W' ∧ W'.ownsRow base 135 3 v' L.length (encL L) ∧ W.grownBy W' (some E) ∧ (v'.ownBlock = some E ∨ v'.ownBlock = some W.heap.size) := by
  obtain ⟨i0, hi0, hz0, hz1, hz2⟩ := info_parts opInfo
  have hlt := (Array.getElem?_eq_some_iff.1 hE).1
  have hown : W.ownsRow base 135 3 (.slice (some ⟨E, 0, none⟩) 0 0) 0 [] := ⟨rfl, .inr ⟨E, 0, #[], rfl, hb, hE, Nat.le_refl _, by decide, rfl, rfl⟩⟩
  rcases hO with ⟨rfl, rfl⟩ | ⟨a, cap, rfl, h1, h2, h⟩
  · exact ⟨_, _, run_append_owned_none (P := Try.prog) W base 105 ty 135 i0 3 Try.underlying105 hi0 _ 0 [] hown, hown, ⟨rfl, rfl, rfl, Nat.le_refl _, fun _ _ _ => rfl⟩, .inl rfl⟩
  · have hnews : ∀ j u, (encL L)[j]? = some u → W.cell? (a.add j) = some u := by
      intro j u hu
      have hj : j < L.length * 3 := by rw [← encL_len]; exact (List.getElem?_eq_some_iff.1 hu).1
      rw [encL_at L j hj] at hu
      rcases h with h | ⟨c, off, rfl, hc, hcs⟩
      · rw [h] at hj; simp at hj
      · rw [show (⟨c, off, none⟩ : Addr).add j = ⟨c, off + j, none⟩ from by simp [Addr.add], ← hu]
        exact hcs j hj
    have hone : ∀ u ∈ encL L, u.oneCell' = true := by
      intro u hu
      simp only [encL, List.mem_map] at hu
      obtain ⟨j, _, rfl⟩ := hu
      rfl
    obtain ⟨v', W', hr, ho, hg, _, hat⟩ := run_append_own_at (P := Try.prog) W base 105 ty 135 i0 opZ 3 24 Try.underlying105 hi0 hz0 hz1 hz2 rfl (by decide) _ 0 [] hown a L.length cap (encL L) (encL_len L) hnews hone (by unfold maxLen; omega) (by omega) (by omega)
    rw [Nat.zero_add, List.nil_append] at ho
    exact ⟨v', W', hr, ho, hg, hat⟩
theorem step_append_body {W : World} {ops : Array Oper} {o : Oper} {a : Act} {K : Act → World → Prop} {Q : Exit → Act → World → Prop} {E0 : Prop} (hgd : o.guard = none) (s x : Operand)
    (ho : o.op = .call { callee := .builtin .append, args := #[s, x], argTypes := #[105, 105] }) {E base : Nat} {sv : Value} {L : List Op3} (hs : a.eval s = .slice (some ⟨E, 0, none⟩) 0 0) (hx : a.eval x = sv) (hE : W.heap[E]? = some (.cells #[] 135 (0, 0))) (hb : base ≤ E) (hO : OpsV W sv L) (hL : L.length ≤ 30)
    (h : ∀ (X6 : Option Addr) (c6 : Nat) (W' : World), W'.ownsRow base 135 3 (.slice X6 L.length c6) L.length (encL L) → W.grownBy W' (some E) → ((Value.slice X6 L.length c6).ownBlock = some E ∨ (Value.slice X6 L.length c6).ownBlock = some W.heap.size) → K (a.put o.dst (.slice X6 L.length c6)) W') :
    if Region.wanted o (yielded ops a.tmps) = true then Oper.wp Try.prog o a W K Q else E0 := by
  have hw : Region.wanted o (yielded ops a.tmps) = true := by simp [Region.wanted, hgd]
  rw [if_pos hw]
  obtain ⟨v', W', hr, h1, h2, h3⟩ := run_append_body (base := base) hE hb hO hL o.type
  unfold Oper.wp execOp
  simp only [ho, resolve, invoke, builtin, Sem.run_bind, Sem.run_pure, Result.andThen_ok, List.map_toArray, List.map_cons, List.map_nil, hs, hx, hr]
  obtain ⟨X6, c6, rfl⟩ : ∃ X6 c6, v' = .slice X6 L.length c6 := by
    rcases h1.2 with ⟨e, h0⟩ | ⟨g2, c2, cur, e, _⟩
    · exact ⟨none, 0, by rw [e, h0]⟩
    · exact ⟨_, _, e⟩
  exact h X6 c6 W' h1 h2 h3
theorem below_gr {w X Y : World} {E : Nat} (h : Below w.heap.size w X) (hg : X.grownBy Y (some E)) (hE : w.heap.size ≤ E) : Below w.heap.size w Y :=
  (Fr.of_grown hg).below h (fun c hc => by injection hc with hc; omega)
theorem opsV_owned {W : World} {base : Nat} {v : Value} {L : List Op3} (h : W.ownsRow base 135 3 v L.length (encL L)) : OpsV W v L ∧ ∀ c, v.ownBlock = some c → base ≤ c ∧ c < W.heap.size := by
  refine ⟨?_, h.lt⟩
  rcases h.2 with ⟨rfl, h0⟩ | ⟨g, cp, cur, rfl, hg0, hgg, hle, hmx, _⟩
  · exact .inl ⟨rfl, List.eq_nil_of_length_eq_zero h0⟩
  · refine .inr ⟨_, cp, rfl, hle, hmx, .inr ⟨g, 0, rfl, (h.lt g rfl).2, fun j hj => ?_⟩⟩
    rw [Nat.zero_add, h.cellAt j hj, encL_at L j hj]
theorem row14 {X : World} {xb : Nat} {v0 v1 v2 v3 v4 v5 v6 v7 v8 v9 v10 v11 v12 v13 : Value} {ty : TypeId} (h : X.heap[xb]? = some (.cells #[v0, v1, v2, v3, v4, v5, v6, v7, v8, v9, v10, v11, v12, v13] ty (0, 0))) :
    X.cell? ⟨xb, 0, none⟩ = some v0 ∧ X.cell? ⟨xb, 1, none⟩ = some v1 ∧ X.cell? ⟨xb, 2, none⟩ = some v2 ∧ X.cell? ⟨xb, 3, none⟩ = some v3 ∧ X.cell? ⟨xb, 4, none⟩ = some v4 ∧ X.cell? ⟨xb, 5, none⟩ = some v5 ∧ X.cell? ⟨xb, 6, none⟩ = some v6 ∧ X.cell? ⟨xb, 7, none⟩ = some v7 ∧ X.cell? ⟨xb, 8, none⟩ = some v8 ∧ X.cell? ⟨xb, 9, none⟩ = some v9 ∧ X.cell? ⟨xb, 10, none⟩ = some v10 ∧ X.cell? ⟨xb, 11, none⟩ = some v11 ∧ X.cell? ⟨xb, 12, none⟩ = some v12 ∧ X.cell? ⟨xb, 13, none⟩ = some v13 := by
  refine ⟨?_, ?_, ?_, ?_, ?_, ?_, ?_, ?_, ?_, ?_, ?_, ?_, ?_, ?_⟩ <;> simp [World.cell?, h]
theorem blockf {X : World} {xb : Nat} {cs : Array Value} {ty : TypeId} (h : X.heap[xb]? = some (.cells cs ty (0, 0))) (j : Nat) : X.frozen? ⟨xb, j, none⟩ = false := by simp [World.frozen?, h]
def lawZ : Value := .agg #[.int .i64 0, .int .i64 0, .int .i64 0, .int .u64 0, .int .u64 0, .int .u64 0, .int .u64 0, .slice none 0 0, .bool false, .int .u64 0, .int .u64 0, .int .u64 0, .int .u64 0, .int .u64 0]
theorem lawInfo : (Try.prog.info? 110).map (fun i => (i.zero, i.size, i.bytes)) = some (some lawZ, 14, 128) := by kernel_rfl
theorem lawRow_one (k : Nat) (s : Int) (T : Tk) (v : Value) (hv : v.oneCell' = true) : ∀ u ∈ lawRow k s T v, u.oneCell' = true := by
  intro u hu
  simp only [lawRow, List.mem_cons, List.not_mem_nil, or_false] at hu
  rcases hu with rfl | rfl | rfl | rfl | rfl | rfl | rfl | rfl | rfl | rfl | rfl | rfl | rfl | rfl
  all_goals first | rfl | exact hv
theorem opsV_one {W : World} {v : Value} {L : List Op3} (h : OpsV W v L) : v.oneCell' = true := by
  rcases h with ⟨rfl, _⟩ | ⟨a, cap, rfl, _⟩ <;> rfl
theorem row14_set {X : World} {xb : Nat} {a0 a1 a2 a3 a4 a5 a6 a7 a8 a9 a10 a11 a12 a13 v0 v1 v2 v3 v4 v5 v6 v7 v8 v9 v10 v11 v12 v13 : Value} {ty : TypeId} (h : X.heap[xb]? = some (.cells #[a0, a1, a2, a3, a4, a5, a6, a7, a8, a9, a10, a11, a12, a13] ty (0, 0))) : ((((((((((((((X.setCell ⟨xb, 0, none⟩ v0).setCell ⟨xb, 1, none⟩ v1).setCell ⟨xb, 2, none⟩ v2).setCell ⟨xb, 3, none⟩ v3).setCell ⟨xb, 4, none⟩ v4).setCell ⟨xb, 5, none⟩ v5).setCell ⟨xb, 6, none⟩ v6).setCell ⟨xb, 7, none⟩ v7).setCell ⟨xb, 8, none⟩ v8).setCell ⟨xb, 9, none⟩ v9).setCell ⟨xb, 10, none⟩ v10).setCell ⟨xb, 11, none⟩ v11).setCell ⟨xb, 12, none⟩ v12).setCell ⟨xb, 13, none⟩ v13).heap[xb]? = some (.cells #[v0, v1, v2, v3, v4, v5, v6, v7, v8, v9, v10, v11, v12, v13] ty (0, 0)) := by
  rw [(heap_set (heap_set (heap_set (heap_set (heap_set (heap_set (heap_set (heap_set (heap_set (heap_set (heap_set (heap_set (heap_set (heap_set h v0) v1) v2) v3) v4) v5) v6) v7) v8) v9) v10) v11) v12) v13)]
  simp
theorem below14 {w X : World} {xb : Nat} {v0 v1 v2 v3 v4 v5 v6 v7 v8 v9 v10 v11 v12 v13 : Value} (h : Below w.heap.size w X) (hx : w.heap.size ≤ xb) : Below w.heap.size w ((((((((((((((X.setCell ⟨xb, 0, none⟩ v0).setCell ⟨xb, 1, none⟩ v1).setCell ⟨xb, 2, none⟩ v2).setCell ⟨xb, 3, none⟩ v3).setCell ⟨xb, 4, none⟩ v4).setCell ⟨xb, 5, none⟩ v5).setCell ⟨xb, 6, none⟩ v6).setCell ⟨xb, 7, none⟩ v7).setCell ⟨xb, 8, none⟩ v8).setCell ⟨xb, 9, none⟩ v9).setCell ⟨xb, 10, none⟩ v10).setCell ⟨xb, 11, none⟩ v11).setCell ⟨xb, 12, none⟩ v12).setCell ⟨xb, 13, none⟩ v13) := ((((((((((((((h.setCell (p := (⟨xb, 0, none⟩ : Addr)) hx v0).setCell (p := (⟨xb, 1, none⟩ : Addr)) hx v1).setCell (p := (⟨xb, 2, none⟩ : Addr)) hx v2).setCell (p := (⟨xb, 3, none⟩ : Addr)) hx v3).setCell (p := (⟨xb, 4, none⟩ : Addr)) hx v4).setCell (p := (⟨xb, 5, none⟩ : Addr)) hx v5).setCell (p := (⟨xb, 6, none⟩ : Addr)) hx v6).setCell (p := (⟨xb, 7, none⟩ : Addr)) hx v7).setCell (p := (⟨xb, 8, none⟩ : Addr)) hx v8).setCell (p := (⟨xb, 9, none⟩ : Addr)) hx v9).setCell (p := (⟨xb, 10, none⟩ : Addr)) hx v10).setCell (p := (⟨xb, 11, none⟩ : Addr)) hx v11).setCell (p := (⟨xb, 12, none⟩ : Addr)) hx v12).setCell (p := (⟨xb, 13, none⟩ : Addr)) hx v13)
theorem fr14 {X : World} {xb : Nat} {v0 v1 v2 v3 v4 v5 v6 v7 v8 v9 v10 v11 v12 v13 : Value} : Fr (fun k => k = xb) X ((((((((((((((X.setCell ⟨xb, 0, none⟩ v0).setCell ⟨xb, 1, none⟩ v1).setCell ⟨xb, 2, none⟩ v2).setCell ⟨xb, 3, none⟩ v3).setCell ⟨xb, 4, none⟩ v4).setCell ⟨xb, 5, none⟩ v5).setCell ⟨xb, 6, none⟩ v6).setCell ⟨xb, 7, none⟩ v7).setCell ⟨xb, 8, none⟩ v8).setCell ⟨xb, 9, none⟩ v9).setCell ⟨xb, 10, none⟩ v10).setCell ⟨xb, 11, none⟩ v11).setCell ⟨xb, 12, none⟩ v12).setCell ⟨xb, 13, none⟩ v13) := (Fr.set (S := fun k => k = xb) (Fr.set (S := fun k => k = xb) (Fr.set (S := fun k => k = xb) (Fr.set (S := fun k => k = xb) (Fr.set (S := fun k => k = xb) (Fr.set (S := fun k => k = xb) (Fr.set (S := fun k => k = xb) (Fr.set (S := fun k => k = xb) (Fr.set (S := fun k => k = xb) (Fr.set (S := fun k => k = xb) (Fr.set (S := fun k => k = xb) (Fr.set (S := fun k => k = xb) (Fr.set (S := fun k => k = xb) (Fr.set (S := fun k => k = xb) (Fr.refl (fun k => k = xb) X) (p := ⟨xb, 0, none⟩) rfl v0) (p := ⟨xb, 1, none⟩) rfl v1) (p := ⟨xb, 2, none⟩) rfl v2) (p := ⟨xb, 3, none⟩) rfl v3) (p := ⟨xb, 4, none⟩) rfl v4) (p := ⟨xb, 5, none⟩) rfl v5) (p := ⟨xb, 6, none⟩) rfl v6) (p := ⟨xb, 7, none⟩) rfl v7) (p := ⟨xb, 8, none⟩) rfl v8) (p := ⟨xb, 9, none⟩) rfl v9) (p := ⟨xb, 10, none⟩) rfl v10) (p := ⟨xb, 11, none⟩) rfl v11) (p := ⟨xb, 12, none⟩) rfl v12) (p := ⟨xb, 13, none⟩) rfl v13)
/-- A new row stands whole behind the region. -/
def XbI (w2 X : World) (xb : Nat) (lvn : Value) (L : List Op3) (cs : List Value) : Prop :=
  X.heap[xb]? = some (.cells cs.toArray 110 (0, 0)) ∧ OpsV X lvn L ∧ (∀ c, lvn.ownBlock = some c → w2.heap.size ≤ c ∧ c < X.heap.size ∧ c ≠ xb) ∧ w2.heap.size ≤ xb ∧ Below w2.heap.size w2 X
end Go.Proofs.Ytpcbcnheogjofaa
