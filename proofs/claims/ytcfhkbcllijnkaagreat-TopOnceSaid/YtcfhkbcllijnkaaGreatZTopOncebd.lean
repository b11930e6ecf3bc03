/- Parts of the proof of TopOnce, under no condition. -/
import Derived.Test.YtcfhkbcllijnkaaGreatZTopOncebc
set_option linter.unusedVariables false
set_option linter.unusedSimpArgs false
set_option maxRecDepth 100000
set_option maxHeartbeats 0
namespace Go.Proofs.YtcfhkbcllijnkaaGreat
open Go.RowKit
theorem zf1 {X : World} {b off cap n : Nat} {bs : List Bk} (hE : zch X (.slice (some ⟨b, off, none⟩) n cap) bs) : ∀ i j, i < bs.length → j < 2 → X.cell? ⟨b, off + i * 2 + j, none⟩ = some (if j = 0 then .int .i64 (lvl (bs.getD i default).L.length) else (bs.getD i default).v) := by
 intro i j hi hj
 obtain ⟨k0, k1⟩ := zch.at hE i bs[i] (yyg hi)
 have hg : bs.getD i default = bs[i] := by rw [yyd, yyg hi]; rfl
 rw [hg]
 rcases (show j = 0 ∨ j = 1 from by omega) with rfl | rfl
 · exact k0
 · exact k1
theorem zs8 {X : World} {v : Value} {bs : List Bk} (hE : zch X v bs) (hbs : bs.length ≤ 1000) (p : Nat → Bool) (g : Nat) (lb : Array Value) (eg : ∀ args w, (callFunc g args).run Tryz.prog w = .ok (.enter g args) w)
 (hp : ∀ (Y : World) (i : Nat) (b : Bk), Below X.heap.size X Y → bs[i]? = some b → Calls Tryz.prog g (#[.agg #[.int .i64 (lvl b.L.length), b.v]] ++ lb) Y fun e w' => e = .returned (.bool (p i)) ∧ Below Y.heap.size Y w') :
 Calls Tryz.prog 231 #[v, .func (.func g) #[] lb] X fun e w' => (∃ r, e = .returned (.int .i64 r) ∧ zhp p bs.length r) ∧ Below X.heap.size X w' := by
 rcases SlV.form hE.1 with ⟨rfl, h0, _⟩ | ⟨b, off, cap, rfl, h1, h2, h3, h4⟩
 · refine (zdx _).mono ?_
   rintro e w' ⟨rfl, rfl⟩
   exact ⟨⟨_, rfl, .inl ⟨rfl, fun i hi => by omega⟩⟩, yyr⟩
 ·
  refine zik b off cap bs.length (by omega) h2 _ (zf1 hE) _ g lb eg ?_
  intro Y i hY hi
  have hg : bs.getD i default = bs[i] := by rw [yyd, yyg hi]; rfl
  rw [hg]
  exact hp Y i bs[i] hY (yyg hi)
theorem zxk {X : World} {v : Value} {bs : List Bk} (hE : zch X v bs) (hbs : bs.length ≤ 1000) (p : Nat → Bool) (g : Nat) (lb : Array Value) (eg : ∀ args w, (callFunc g args).run Tryz.prog w = .ok (.enter g args) w)
 (hp : ∀ (Y : World) (i : Nat) (b : Bk), Below X.heap.size X Y → bs[i]? = some b → Calls Tryz.prog g (#[.agg #[.int .i64 (lvl b.L.length), b.v]] ++ lb) Y fun e w' => e = .returned (.bool (p i)) ∧ Below Y.heap.size Y w') :
 Calls Tryz.prog 274 #[v, .func (.func g) #[] lb] X fun e w' => (∃ r, e = .returned (.bool r) ∧ (r = true ↔ ∃ i, i < bs.length ∧ p i = true)) ∧ Below X.heap.size X w' := by
 rcases SlV.form hE.1 with ⟨rfl, h0, _⟩ | ⟨b, off, cap, rfl, h1, h2, h3, h4⟩
 · refine (zhq _).mono ?_
   rintro e w' ⟨rfl, rfl⟩
   exact ⟨⟨_, rfl, by simp [h0]⟩, yyr⟩
 ·
  refine zne b off cap bs.length (by omega) h2 _ (zf1 hE) _ g lb eg ?_
  intro Y i hY hi
  have hg : bs.getD i default = bs[i] := by rw [yyd, yyg hi]; rfl
  rw [hg]
  exact hp Y i bs[i] hY (yyg hi)
theorem zfr {bs : List Bk} {b : Bk} (h : b ∈ bs) : b.L.length ≤ (zaq bs).length := by
 obtain ⟨s, t, rfl⟩ := List.append_of_mem h
 rw [zav]
 simp [zaq]
 omega
theorem zz5 {W : World} {v : Value} {l : List En} (hl : l.length ≤ 1000) (h : zay W v l) (hs : zbh l) : Calls Tryz.prog 275 #[.agg #[.int .i64 (lvl l.length), v]] W fun e w' => e = .returned (.bool false) ∧ Below W.heap.size W w' := by
 obtain ⟨a, k, rfl, -⟩ := SlV.clip h
 have hba : Below W.heap.size W (W.alloc (.cells #[.int .i64 (lvl l.length), .slice a l.length k] 222)) := zab yyr _
 have HO := BOk hl (zay.below h hba) hs
 unfold bkV at HO
 generalize l.length = n at *
 generalize lvl n = q at *
 have H := yyh HO
 have HB := yyh hba
 clear HO h hba
 go_enter Tryz.func275, Tryz.ntmps275
 go_wp2_with fail
 refine H.out.mono ?_
 rintro e w' ⟨rfl, hB⟩
 have HX := yyh (zad hB HB.out)
 clear hB
 go_wp2_with fail
 go_ret
 exact ⟨rfl, HX.out⟩
theorem zxl {W : World} {p : Nat} {v v2 : Value} {bs2 : List Bk} {ver : Int} (hv0 : 0 ≤ ver) (hvt : ver ≤ top) (hh : W.heap[p]? = some (.cells #[.int .u64 ver, v] 288 (0, 0))) (h2 : zch W v2 bs2) (hne : ∀ b ∈ bs2, b.L ≠ []) (hN : (zaq bs2).length ≤ 1000) :
 Calls Tryz.prog 235 #[.pointer (some ⟨p, 0, none⟩), .int .u64 ver, v2] W fun e w' => e = .returned (.bool true) ∧ ∃ v' bs', zg5 w' p v' bs' ∧ bs'.map (·.L) = bs2.map (·.L) ∧ (∀ c, v'.ownBlock = some c → W.heap.size ≤ c) ∧ Fr (fun k => k = p) W w' := by
 have hle := zck hne
 have HC := yyh (zxk h2 (by omega) (fun _ => false) 275 #[] (enters_of Tryz.func275 (by kernel_rfl) rfl) (fun Y i b hY hb => by
  have hm := List.mem_of_getElem? hb
  exact zz5 (Nat.le_trans (zfr hm) hN) ((h2.2 b hm).below hY).1 (h2.2 b hm).2))
 have HP := yyh (fun (w : World) (hb : Below W.heap.size W w) => zxj (h2.below hb) (by omega) hN)
 obtain ⟨c0, c1, f0, f1⟩ := zao hh
 have HH := yyh (yyi hh hne)
 have e0 : (ver == ver) = true := by simp
 clear h2 hne hN hle hh
 go_enter Tryz.func235, Tryz.ntmps235
 go_wp2_with fail
 refine HC.out.mono ?_
 rintro e w1 ⟨⟨r, rfl, hr⟩, hB1⟩
 have hrf : r = false := by
  cases r with
  | false => rfl
  | true => obtain ⟨i, -, hi⟩ := hr.1 rfl; cases hi
 subst hrf
 have HB1 := yyh hB1
 clear hr hB1
 go_wp2_with fail
 refine (HP.out _ HB1.out).mono ?_
 rintro e w2 ⟨v3, bs3, rfl, h3, hm3, hge, hB2⟩
 have hb2 : Below W.heap.size W w2 := zad hB2 HB1.out
 have hh2 := (hb2.block _ (zac HH.out.1)).trans HH.out.1
 obtain ⟨x0, x1, g0, g1⟩ := zao hh2
 obtain ⟨a3, k3, rfl, -, -, -⟩ := zix h3
 obtain ⟨n3, hn3⟩ := yye (bs3.length)
 have hpl := zac HH.out.1
 have hs1 := HB1.out.size
 have HX := yyh (yyi h3 (yyi hm3 (yyi hge (yyi hb2 (yyi hh2 (yyi hpl (yyi hs1 hn3)))))))
 have hw : 0 ≤ IntKind.u64.wrap (ver + 1) ∧ IntKind.u64.wrap (ver + 1) ≤ top := by rw [IntKind.wrap_u64]; unfold top; omega
 obtain ⟨ver2, hver2⟩ := yye (IntKind.u64.wrap (ver + 1))
 rw [hver2] at hw
 rw [hn3]
 have HW := yyh hw
 clear h3 hm3 hge hb2 hh2 hB2 hn3 hw hs1 hpl
 go_wp2_with fail
 go_ret
 obtain ⟨h3, hm3, hge, hb2, hh2, hpl, hs1, hn3⟩ := HX.out
 rw [hn3] at hge
 have h3' : zch w2 (.slice a3 n3 k3) bs3 := by rw [← hn3]; exact h3
 refine ⟨rfl, .slice a3 n3 k3, bs3, ⟨⟨ver2, HW.out.1, HW.out.2, ?_⟩, ?_, ?_⟩, hm3, fun c hc => Nat.le_trans hs1 (hge c hc), ?_⟩
 · rw [zai (zai hh2 _)]
   rfl
 ·
  have hF : Fr (fun k => k = p) w2 ((w2.setCell ⟨p, 0, none⟩ (.int .u64 ver2)).setCell ⟨p, 1, none⟩ (.slice a3 n3 k3)) := (Fr.set (S := fun k => k = p) (Fr.refl _ _) (p := ⟨p, 0, none⟩) rfl _).trans (Fr.set (S := fun k => k = p) (Fr.refl _ _) (p := ⟨p, 1, none⟩) rfl _)
  have hno : zj5 w2 (fun k => k = p) := fun k hk => ⟨#[.int .u64 ver, v], 288, by have hk' : k = p := hk; rw [hk']; exact hh2, by decide⟩
  refine ⟨SlV.fr h3'.1 hF (fun c hc e => ?_), fun b hb => (h3'.2 b hb).frT hF hno⟩
  have e' : c = p := e
  have := hge c hc
  omega
 ·
  intro b hb e
  have h1 : b.L ∈ bs3.map (·.L) := List.mem_map_of_mem hb
  rw [hm3] at h1
  obtain ⟨b', hb', e'⟩ := List.mem_map.1 h1
  exact HH.out.2 b' hb' (e'.trans e)
 · exact (Fr.of_below hb2).trans ((Fr.set (S := fun k => k = p) (Fr.refl _ _) (p := ⟨p, 0, none⟩) rfl _).trans (Fr.set (S := fun k => k = p) (Fr.refl _ _) (p := ⟨p, 1, none⟩) rfl _))
end Go.Proofs.YtcfhkbcllijnkaaGreat
