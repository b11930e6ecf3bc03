/- Contracts and plain laws that the proof of TopPairs goes by, under no condition. -/
import Derived.Test.YtcfhkbcllijnkaaGreatZTopPairsab
import Derived.Test.YtcfhkbcllijnkaaGreatZTopPairsaw
import Derived.WalkKit
import Derived.OwnWalkIn
set_option linter.unusedVariables false
set_option linter.unusedSimpArgs false
set_option maxRecDepth 100000
set_option maxHeartbeats 40000000
namespace Go.Proofs.YtcfhkbcllijnkaaGreat
open Go.RowKit Go.Maps Go.Sort Go.Shelf
theorem sortsB (m : Nat) : AnyZI.SortsIn Tryz.prog Tryz.sortedB_ren Fence.wide m :=
 ⟨fun blk off cap ss W hH hblk hsz => callsIn_wide.2 (AnyM.slices_Sort_int Tryz.sortB blk off cap ss W hH hblk hsz),
  fun p cap W => callsIn_wide.2 (AnyM.slices_Sort_int_none Tryz.sortB p cap W)⟩
theorem Keys_any (mb : Option Nat) (W : World) : Calls Tryz.prog 155 #[.map mb] W fun e w' => e = .returned (.func (.func 214) #[] #[.pointer (some ⟨W.heap.size, 0, none⟩)]) ∧ w' = W.alloc (.cells #[.map mb] 237) := by
 refine (callsIn_wide (n := 5)).1 ?_
 exact AnyZI.keys_in Tryz.keysB Fence.wide 5 trivial rfl mb W
theorem Sorted_any {H : Type} (Bm b nn : Nat) (D0 : DataW H) (R : Value → Option (DataW H × List MemPlace)) (W : World) (hm : W.cell? ⟨Bm, 0, none⟩ = some (.map (some b))) (hown : W.ownsMap Tryz.prog 3 R b nn D0) (hmax : Maps.size D0 ≤ maxLen) (hbytes : Maps.size D0 * 8 ≤ 140737488355328) :
 Calls Tryz.prog 154 #[.func (.func 214) #[] #[.pointer (some ⟨Bm, 0, none⟩)]] W fun e w' => ∃ (v : Value) (ss : List Int), e = .returned v ∧ ss.Perm (intKeys D0) ∧ w'.ownsRow W.heap.size 3 1 v ss.length ((ss.mergeSort (fun x y => decide (x ≤ y))).map encZ) ∧ (v = .slice none 0 0 ↔ ss = []) ∧ Below W.heap.size W w' := by
 refine (callsIn_wide (n := 5)).1 ?_
 have hBm : Bm < W.heap.size := World.block_lt_of_cell? W _ hm
 have hseq : SeqGives Fence.wide 2 Tryz.prog 214 #[.pointer (some ⟨Bm, 0, none⟩)] encZ (fun ss => ss.Perm (intKeys D0)) (Maps.size D0) W :=
  AnyZI.keys_gives (ρ := Tryz.keysB_ren) { Tryz.keysB with } Fence.wide _ trivial rfl (by omega) Bm b nn D0 _ hBm hm hown
 exact AnyZI.sorted_in Tryz.sortedB Fence.wide 5 trivial trivial trivial trivial rfl (by omega) (sortsB _) (enters_of Tryz.func82 (by kernel_rfl) rfl) 214 #[.pointer (some ⟨Bm, 0, none⟩)] trivial (enters_of Tryz.func214 (by kernel_rfl) rfl) _ _ hmax hbytes _ hseq
theorem ownsMap_0 {H : Type} {W : World} {b ck : Nat} (R : Value → Option (DataW H × List MemPlace)) (hb : W.heap[b]? = some (.map #[] ck)) : W.ownsMap Tryz.prog 3 R b 0 (.map []) := by
 refine ⟨#[], ck, hb, ⟨by simp, ?_, by simp⟩, Nat.le_refl _, rfl⟩
 unfold MapKept.Stamped
 simp
theorem Sorted_0 {W : World} {Bm b ck : Nat} (hm : W.cell? ⟨Bm, 0, none⟩ = some (.map (some b))) (hb : W.heap[b]? = some (.map #[] ck)) : Calls Tryz.prog 154 #[.func (.func 214) #[] #[.pointer (some ⟨Bm, 0, none⟩)]] W fun e w' => e = .returned (.slice none 0 0) ∧ Below W.heap.size W w' := by
 refine (Sorted_any (H := Unit) Bm b 0 (.map []) (fun _ => none) W hm (ownsMap_0 _ hb) (Nat.zero_le _) (by decide)).mono ?_
 rintro e w' ⟨v, ss, rfl, hp, -, hn, hB⟩
 have hss : ss = [] := hp.eq_nil
 exact ⟨by rw [hn.2 hss], hB⟩
end Go.Proofs.YtcfhkbcllijnkaaGreat
