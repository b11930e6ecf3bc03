/- Parts of the proof of TopOnce, under no condition. -/
import Derived.Test.YtcfhkbcllijnkaaGreatZTopOnceas
import Derived.Test.YtcfhkbcllijnkaaGreatZTopOnceae
import Derived.Deep.RegionHeldLaw
import Derived.Deep.RegionLaw
set_option linter.unusedVariables false
set_option linter.unusedSimpArgs false
set_option maxRecDepth 100000
set_option maxHeartbeats 0
namespace Go.Proofs.YtcfhkbcllijnkaaGreat
open Go.RowKit Go.Maps Go.Proofs.YtcfhkbcllijnkaaGreatW.PrintWords
theorem zoz (w : World) : Calls Tryz.prog 124 #[.slice none 0 0] w fun e w' => e = .returned (.slice none 0 0) ∧ w = w' := by
 have he : ∀ w, (binOp .eql 51 (.slice none 0 0) (.slice none 0 0)).run Tryz.prog w = .ok (.bool true) w := fun _ => by kernel_rfl
 go_enter Tryz.func124, Tryz.ntmps124
 go_wp2
 go_ret
 exact ⟨rfl, rfl⟩
theorem znn (w : World) : Calls Tryz.prog 123 #[.slice none 0 0] w fun e w' => e = .returned (.slice none 0 0) ∧ w = w' := by
 go_enter Tryz.func123, Tryz.ntmps123
 go_wp2
 go_ret
 exact ⟨rfl, rfl⟩
def zw8 : Value := .agg #[.int .i64 0, .int .i64 0, .int .i64 0, .int .u64 0, .int .u64 0, .int .u64 0, .int .u64 0, .slice none 0 0, .int .u64 0, .int .u64 0, .int .u64 0, .int .u64 0, .int .u64 0]
theorem zuy : (Tryz.prog.info? 177).map (fun i => (i.zero, i.size, i.bytes)) = some (some zw8, 13, 120) := by kernel_rfl
section
variable {W W' : World} {t a b g mb : Nat} {ws : List Int} {B : Int} {rv : Value} {n : Nat} {R : List Value} {C : Int → Int → Int} {base : Nat}
theorem zbz.grown (h : zbz W t a b g mb ws B rv n R C base) {rv' : Value} {n' : Nat} {R' : List Value} (hg : W.grownBy W' rv.ownBlock) (hown : W'.ownsRow base 177 13 rv' n' R') : zbz (W'.setCell ⟨t, 1, none⟩ rv') t a b g mb ws B rv' n' R' C base := by
 obtain ⟨l1, l2, l3, l4, l5⟩ := h.lt
 obtain ⟨n1, n2, n3, n4, n5, n6, n7⟩ := h.ne
 have hno : ∀ k, k < base → some k ≠ rv.ownBlock := fun k hk e => by have := (h.rows.lt k e.symm).1; omega
 obtain ⟨f, ⟨es, clock, h1, h2⟩, hf⟩ := h.map
 have ht : W'.heap[t]? = W.heap[t]? := hg.block t (yya.1 h.hdr).1 (hno t l1)
 have hmb : W'.heap[mb]? = W.heap[mb]? := hg.block mb (yya.1 h1).1 (hno mb l5)
 have hF : Fr (fun k => some k = rv.ownBlock) W W' := ⟨hg.os, hg.tape, hg.output, hg.size, fun k hk hn => hg.block k hk hn⟩
 have hA : zc2 W' a b g ws B := h.ar.fr hF (hno a l2) (hno b l3) (hno g l4)
 refine ⟨by rw [zai (ht.trans h.hdr)]; rfl, hA.put (Ne.symm n1) (Ne.symm n2) (Ne.symm n3) _, ?_, zmf.of_block ⟨f, ⟨es, clock, hmb.trans h1, h2⟩, hf⟩ (Below.heap_setCell W' ⟨t, 1, none⟩ _ mb (by show mb ≠ t; omega)), h.lt, h.ne⟩
 refine hown.kept (row := some t) ⟨rfl, rfl, rfl, by simp, fun k _ hn => Below.heap_setCell W' ⟨t, 1, none⟩ rv' k (fun e => hn (by rw [e]))⟩ ?_
 cases hv : rv'.ownBlock with
 | none => exact .inl rfl
 | some x =>
  right
  have := (hown.lt x hv).1
  intro e
  injection e with e
  omega
end
section
variable {W W' : World} {t a b g mb : Nat} {ws : List Int} {B : Int} {rv : Value} {n : Nat} {R : List Value} {C : Int → Int → Int} {base : Nat}
theorem zmi {A : Option Addr} {cap : Nat} (h : zbz W t a b g mb ws B (.slice A n cap) n R C base) (hn : n ≤ 5000) : Calls Tryz.prog 70 #[.pointer (some ⟨t, 0, none⟩)] W fun e w' => e = .returned (.int .i64 n) ∧ W = w' := by
 obtain ⟨c0, c1, c2⟩ := h.cells
 clear h
 go_enter Tryz.func70, Tryz.ntmps70
 go_wp2_with fail
 go_ret
 exact ⟨rfl, rfl⟩
end
end Go.Proofs.YtcfhkbcllijnkaaGreat
