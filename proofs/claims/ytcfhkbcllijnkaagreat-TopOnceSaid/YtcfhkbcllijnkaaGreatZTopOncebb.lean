/- Parts of the proof of TopOnce, under no condition. -/
import Derived.Test.YtcfhkbcllijnkaaGreatZTopOnceba
import Derived.ScopeJumps
import Derived.WalkMore
set_option linter.unusedVariables false
set_option linter.unusedSimpArgs false
set_option maxRecDepth 100000
set_option maxHeartbeats 0
namespace Go.Proofs.YtcfhkbcllijnkaaGreat
open Go.RowKit
structure zbi (W : World) (p base : Nat) (v : Value) (bs : List Bk) : Prop where
 hdr : W.heap[p]? = some (.cells #[v] 220 (0, 0))
 own : zbt W base v bs
 ins : ∀ b ∈ bs, zf9 W b ∧ b.L ≠ []
def zhr (p : Nat) (v : Value) : Nat → Prop := fun k => k = p ∨ v.ownBlock = some k
theorem zba {w : World} {base : Nat} {e : TypeId} {k n : Nat} {v : Value} {xs : List Value} (h : w.ownsRow base e k v n xs) {c : Nat} (hc : v.ownBlock = some c) : ∃ cur, w.heap[c]? = some (.cells cur e (0, 0)) := by
 rcases h.2 with ⟨rfl, _⟩ | ⟨g', cap', cur, rfl, hb, hg, _⟩
 · cases hc
 · injection hc with hc
   subst hc
   exact ⟨cur, hg⟩
def zj5 (W : World) (S : Nat → Prop) : Prop := ∀ k, S k → ∃ cur t, W.heap[k]? = some (.cells cur t (0, 0)) ∧ t ≠ 63
theorem zay.frT {S : Nat → Prop} {W W' : World} {v : Value} {l : List En} (h : zay W v l) (f : Fr S W W') (hS : zj5 W S) : zay W' v l :=
 zay.fr h f (fun c hc hs => by
  obtain ⟨cur, t, h1, h2⟩ := hS c hs
  obtain ⟨cu, h3⟩ := SlV.type h hc
  rw [h3] at h1
  injection h1 with h1
  injection h1 with _ h1 _
  exact h2 h1.symm)
theorem zf9.frT {S : Nat → Prop} {W W' : World} {b : Bk} (h : zf9 W b) (f : Fr S W W') (hS : zj5 W S) : zf9 W' b := ⟨zay.frT h.1 f hS, h.2⟩
section
variable {W W' : World} {p base : Nat} {v : Value} {bs : List Bk}
theorem zbi.noEn (h : zbi W p base v bs) : zj5 W (zhr p v) := by
 intro k hk
 rcases hk with rfl | hk
 · exact ⟨_, _, h.hdr, by decide⟩
 · obtain ⟨cur, hc⟩ := zba h.own hk
   exact ⟨cur, _, hc, by decide⟩
theorem zbi.ne (h : zbi W p base v bs) : ∀ c, v.ownBlock = some c → c ≠ p := by
 rintro c hc rfl
 obtain ⟨cur, h1⟩ := zba h.own hc
 rw [h.hdr] at h1
 injection h1 with h1
 injection h1 with _ h1 _
 exact absurd h1 (by decide)
theorem zb3 {W W' : World} {base : Nat} {e : TypeId} {k n : Nat} {v : Value} {xs : List Value} (h : W.ownsRow base e k v n xs) (hb : Below W.heap.size W W') : W'.ownsRow base e k v n xs := by
 refine ⟨h.1, ?_⟩
 rcases h.2 with h2 | ⟨g, cap, cur, rfl, h3, hg, rest⟩
 · exact .inl h2
 · exact .inr ⟨g, cap, cur, rfl, h3, (hb.block g (zac hg)).trans hg, rest⟩
theorem zcv {S : Nat → Prop} {W W' : World} {base : Nat} {e : TypeId} {k n : Nat} {v : Value} {xs : List Value} (h : W.ownsRow base e k v n xs) (f : Fr S W W') (hn : ∀ c, v.ownBlock = some c → ¬ S c) : W'.ownsRow base e k v n xs := by
 refine ⟨h.1, ?_⟩
 rcases h.2 with h2 | ⟨g, cap, cur, rfl, h3, hg, rest⟩
 · exact .inl h2
 · exact .inr ⟨g, cap, cur, rfl, h3, (f.block g (zac hg) (hn g rfl)).trans hg, rest⟩
theorem zbi.below (h : zbi W p base v bs) (hb : Below W.heap.size W W') : zbi W' p base v bs :=
 ⟨(hb.block p (zac h.hdr)).trans h.hdr, zb3 h.own hb, fun b hm => ⟨(h.ins b hm).1.below hb, (h.ins b hm).2⟩⟩
theorem zbi.cell (h : zbi W p base v bs) : W.cell? ⟨p, 0, none⟩ = some v ∧ W.frozen? ⟨p, 0, none⟩ = false := ⟨zaa h.hdr, by simp [World.frozen?, h.hdr]⟩
theorem zbi.bks (h : zbi W p base v bs) : zch W v bs := ⟨SlV.of_owns h.own, fun b hm => (h.ins b hm).1⟩
theorem zbi.row (h : zbi W p base v bs) {bs' : List Bk} (hf : Fr (fun k => v.ownBlock = some k) W W') {v' : Value} (ho : zbt W' base v' bs') (hv : v' = v) (hi : ∀ b ∈ bs', zf9 W b ∧ b.L ≠ []) : zbi W' p base v bs' := by
 subst hv
 refine ⟨(hf.block p (zac h.hdr) (fun e => h.ne p e rfl)).trans h.hdr, ho, fun b hm => ⟨(hi b hm).1.frT hf (fun k hk => h.noEn k (.inr hk)), (hi b hm).2⟩⟩
end
def zo2 (w : World) (p : Nat) : Nat := match w.cell? ⟨p, 0, none⟩ with | some (.slice _ n _) => n | _ => 0
theorem zj6 {w : World} {p : Nat} {a : Option Addr} {n c : Nat} (h : w.cell? ⟨p, 0, none⟩ = some (.slice a n c)) : zo2 w p = n := by simp [zo2, h]
theorem zbi.val {W : World} {p base : Nat} {v : Value} {bs : List Bk} (h : zbi W p base v bs) : ∃ a cap, v = .slice a bs.length cap ∧ bs.length ≤ cap ∧ cap ≤ maxLen ∧ (a = none → bs.length = 0) := by
 obtain ⟨a, cap, e, h1, h2, h3, -⟩ := SlV.clip (SlV.of_owns h.own)
 exact ⟨a, cap, e, h1, h2, fun e => (h3 e).1⟩
def JF (p : Nat) (a : Act) : Prop := a.defers = [] ∧ a.tmps.size = 61 ∧ a.tmps[0]? = some (.pointer (some ⟨p, 0, none⟩))
theorem zu4 {p : Nat} {a : Act} (h : JF p a) : ∃ u1 u2 u3 u4 u5 u6 u7 u8 u9 u10 u11 u12 u13 u14 u15 u16 u17 u18 u19 u20 u21 u22 u23 u24 u25 u26 u27 u28 u29 u30 u31 u32 u33 u34 u35 u36 u37 u38 u39 u40 u41 u42 u43 u44 u45 u46 u47 u48 u49 u50 u51 u52 u53 u54 u55 u56 u57 u58 u59 u60 : Value, a = { tmps := #[.pointer (some ⟨p, 0, none⟩), u1, u2, u3, u4, u5, u6, u7, u8, u9, u10, u11, u12, u13, u14, u15, u16, u17, u18, u19, u20, u21, u22, u23, u24, u25, u26, u27, u28, u29, u30, u31, u32, u33, u34, u35, u36, u37, u38, u39, u40, u41, u42, u43, u44, u45, u46, u47, u48, u49, u50, u51, u52, u53, u54, u55, u56, u57, u58, u59, u60], defers := [] } := by
 obtain ⟨⟨l⟩, d⟩ := a
 obtain ⟨h1, h2, h3⟩ := h
 subst h1
 match l, h2, h3 with
 | u0 :: u1 :: u2 :: u3 :: u4 :: u5 :: u6 :: u7 :: u8 :: u9 :: u10 :: u11 :: u12 :: u13 :: u14 :: u15 :: u16 :: u17 :: u18 :: u19 :: u20 :: u21 :: u22 :: u23 :: u24 :: u25 :: u26 :: u27 :: u28 :: u29 :: u30 :: u31 :: u32 :: u33 :: u34 :: u35 :: u36 :: u37 :: u38 :: u39 :: u40 :: u41 :: u42 :: u43 :: u44 :: u45 :: u46 :: u47 :: u48 :: u49 :: u50 :: u51 :: u52 :: u53 :: u54 :: u55 :: u56 :: u57 :: u58 :: u59 :: u60 :: [], _, h3 =>
  simp at h3
  subst h3
  exact ⟨u1, u2, u3, u4, u5, u6, u7, u8, u9, u10, u11, u12, u13, u14, u15, u16, u17, u18, u19, u20, u21, u22, u23, u24, u25, u26, u27, u28, u29, u30, u31, u32, u33, u34, u35, u36, u37, u38, u39, u40, u41, u42, u43, u44, u45, u46, u47, u48, u49, u50, u51, u52, u53, u54, u55, u56, u57, u58, u59, u60, rfl⟩
def JM (W0 : World) (p base : Nat) (v0 : Value) (E : List En) : Act → World → Prop := fun a w =>
 JF p a ∧ ∃ v bs, zbi w p base v bs ∧ (zaq bs).Perm E ∧ bs.length ≤ 19 ∧ v.ownBlock = v0.ownBlock ∧ Fr (zhr p v0) W0 w
end Go.Proofs.YtcfhkbcllijnkaaGreat
