/- Parts of the proof of TopOnce, under no condition. -/
import Derived.Test.YtcfhkbcllijnkaaGreatZTopOncead
import Derived.Test.YtcfhkbcllijnkaaGreatZTopOnceal
set_option linter.unusedVariables false
set_option linter.unusedSimpArgs false
set_option maxRecDepth 100000
set_option maxHeartbeats 0
namespace Go.Proofs.YtcfhkbcllijnkaaGreat
open Go.RowKit Go.Proofs.YtcfhkbcllijnkaaGreatW.PrintWords
structure Fr (S : Nat → Prop) (W W' : World) : Prop where
 os : W'.os = W.os
 tape : W'.tape = W.tape
 output : W'.output = W.output
 size : W.heap.size ≤ W'.heap.size
 block : ∀ k, k < W.heap.size → ¬ S k → W'.heap[k]? = W.heap[k]?
theorem Fr.refl (S : Nat → Prop) (W : World) : Fr S W W := ⟨rfl, rfl, rfl, yyn, fun _ _ _ => rfl⟩
theorem Fr.trans {S : Nat → Prop} {A B C : World} (h : Fr S A B) (k : Fr S B C) : Fr S A C :=
 ⟨k.os.trans h.os, k.tape.trans h.tape, k.output.trans h.output, Nat.le_trans h.size k.size, fun i hi hs => (k.block i (Nat.lt_of_lt_of_le hi h.size) hs).trans (h.block i hi hs)⟩
theorem Fr.mono {S S' : Nat → Prop} {A B : World} (h : Fr S A B) (hs : ∀ k, S k → S' k) : Fr S' A B := ⟨h.os, h.tape, h.output, h.size, fun k hk hn => h.block k hk (fun hk' => hn (hs k hk'))⟩
theorem Fr.set {S : Nat → Prop} {A B : World} (h : Fr S A B) {p : Addr} (hp : S p.block) (u : Value) : Fr S A (B.setCell p u) :=
 ⟨h.os, h.tape, h.output, by simpa using h.size, fun k hk hs => (Below.heap_setCell B p u k (fun e => hs (e ▸ hp))).trans (h.block k hk hs)⟩
theorem Fr.al {S : Nat → Prop} {A B : World} (h : Fr S A B) (o : Obj) : Fr S A (B.alloc o) :=
 ⟨h.os, h.tape, h.output, by simp; exact Nat.le_succ_of_le h.size, fun k hk hs => (Below.heap_alloc B o k (Nat.lt_of_lt_of_le hk h.size)).trans (h.block k hk hs)⟩
theorem Fr.dr {S : Nat → Prop} {A B : World} (h : Fr S A B) : Fr S A B.drew := ⟨h.os, h.tape, h.output, h.size, h.block⟩
theorem Fr.drN {S : Nat → Prop} {A B : World} (h : Fr S A B) (n : Nat) : Fr S A (B.drewN n) := ⟨h.os, h.tape, h.output, h.size, h.block⟩
theorem Fr.of_below {S : Nat → Prop} {A B : World} (h : Below A.heap.size A B) : Fr S A B := ⟨h.os, h.tape, h.output, h.size, fun k hk _ => h.block k hk⟩
theorem Fr.below {S : Nat → Prop} {w A B : World} (h : Fr S A B) (hw : Below w.heap.size w A) (hs : ∀ k, S k → w.heap.size ≤ k) : Below w.heap.size w B :=
 ⟨h.os.trans hw.os, h.tape.trans hw.tape, h.output.trans hw.output, Nat.le_trans hw.size h.size, fun k hk => (h.block k (Nat.lt_of_lt_of_le hk hw.size) (fun hk' => by have := hs k hk'; omega)).trans (hw.block k hk)⟩
structure zbm (W : World) (b g : Nat) (ws : List Int) (st wi at_ kd : Int) : Prop where
 hdr : W.heap[b]? = some (.cells #[.slice (some ⟨g, 0, none⟩) ws.length ws.length, .int .u64 st, .int .u64 wi, .int .i64 at_, .int .i64 kd] 307 (0, 0))
 row : W.heap[g]? = some (.cells (ws.map (Value.int .u64)).toArray 22 (0, 0))
 ne : b ≠ g
 len : ws.length ≤ 4096
 st0 : 0 ≤ st
 wi0 : 0 ≤ wi
 wst : wi ≤ st
theorem zra (m : Nat) : (madeCells #[Value.int .u64 0] m) = ((List.replicate m (0 : Int)).map (Value.int .u64)).toArray := by
 apply Array.ext_getElem?
 intro i
 simp [madeCells, Nat.mod_one, Array.getElem?_range, Array.getElem?_replicate]
theorem zax {W : World} {o : Obj} {n : Nat} (h : n = W.heap.size) : (W.alloc o).heap[n]? = some o := by rw [h]; exact heap_alloc_new W o
theorem zan {W : World} {o p : Obj} {n : Nat} (h : W.heap[n]? = some p) : (W.alloc o).heap[n]? = some p := (Below.heap_alloc W o n (yya.1 h).1).trans h
theorem zsx (n : Int) (h1 : 1 ≤ n) (h2 : n ≤ 4096) (w : World) : Calls Tryz.prog 164 #[.int .i64 n] w fun e w' => e = .returned (.tuple #[.pointer (some ⟨w.heap.size + 1, 0, none⟩), .int .i64 0]) ∧ zbm w' (w.heap.size + 1) w.heap.size (List.replicate n.toNat 0) 0 0 0 0 ∧ Below w.heap.size w w' := by
 obtain ⟨m, rfl⟩ := Int.eq_ofNat_of_zero_le (show 0 ≤ n from by omega)
 have hmk := znc (P := Tryz.prog) 65 22 .u64 8 Tryz.underlying65 (by kernel_rfl) (by decide) m (by omega)
 rw [zra] at hmk
 go_enter Tryz.func164, Tryz.ntmps164
 go_wp2
 go_ret2
 refine ⟨rfl, ⟨?_, ?_, by omega, by simp; omega, by omega, by omega, by omega⟩, zab (zab yyr _) _⟩
 · rw [zax (by simp)]
   simp
 · refine (zan (zax rfl)).trans ?_
   simp
theorem zai {W : World} {b o : Nat} {c : Array Value} {t : TypeId} {fr : Nat × Nat} (h : W.heap[b]? = some (.cells c t fr)) (v : Value) : (W.setCell ⟨b, o, none⟩ v).heap[b]? = some (.cells (c.setIfInBounds o v) t fr) := by
 simp [World.setCell, Array.getElem?_modify, h]
theorem za1 {W : World} {b o k : Nat} {p : Obj} (h : W.heap[k]? = some p) (hk : k ≠ b) (v : Value) : (W.setCell ⟨b, o, none⟩ v).heap[k]? = some p := (Below.heap_setCell W ⟨b, o, none⟩ v k hk).trans h
section
variable {W : World} {b g : Nat} {ws : List Int} {st wi at_ kd : Int}
theorem zbm.acc (h : zbm W b g ws st wi at_ kd) (i k : Int) : zbm (((W.setCell ⟨b, 1, none⟩ (.int .u64 (st + 1))).setCell ⟨b, 3, none⟩ (.int .i64 i)).setCell ⟨b, 4, none⟩ (.int .i64 k)) b g ws (st + 1) wi i k :=
 ⟨by rw [zai (zai (zai h.hdr _) _) _]; rfl, za1 (za1 (za1 h.row h.ne.symm _) h.ne.symm _) h.ne.symm _, h.ne, h.len, by have := h.st0; omega, h.wi0, by have := h.wst; omega⟩
theorem zbm.word (h : zbm W b g ws st wi at_ kd) (i : Nat) (v : Int) : zbm (W.setCell ⟨g, i, none⟩ (.int .u64 v)) b g (ws.set i v) st wi at_ kd :=
 ⟨by rw [za1 h.hdr h.ne _]; simp, by rw [zai h.row]; simp, h.ne, by have := h.len; simpa using this, h.st0, h.wi0, h.wst⟩
theorem zbm.win (h : zbm W b g ws st wi at_ kd) (hl : wi + 1 ≤ st) : zbm (W.setCell ⟨b, 2, none⟩ (.int .u64 (wi + 1))) b g ws st (wi + 1) at_ kd :=
 ⟨by rw [zai h.hdr]; rfl, za1 h.row h.ne.symm _, h.ne, h.len, h.st0, by have := h.wi0; omega, hl⟩
theorem zbm.cells (h : zbm W b g ws st wi at_ kd) : W.cell? ⟨b, 0, none⟩ = some (.slice (some ⟨g, 0, none⟩) ws.length ws.length) ∧ W.cell? ⟨b, 1, none⟩ = some (.int .u64 st) ∧ W.cell? ⟨b, 2, none⟩ = some (.int .u64 wi) ∧ W.cell? ⟨b, 3, none⟩ = some (.int .i64 at_) ∧ W.cell? ⟨b, 4, none⟩ = some (.int .i64 kd) := by
 refine ⟨?_, ?_, ?_, ?_, ?_⟩ <;> simp [World.cell?, h.hdr]
theorem zbm.free (h : zbm W b g ws st wi at_ kd) (i : Nat) : W.frozen? ⟨b, i, none⟩ = false ∧ W.frozen? ⟨g, i, none⟩ = false := by
 constructor <;> simp [World.frozen?, h.hdr, h.row]
theorem zbm.word_at (h : zbm W b g ws st wi at_ kd) (i : Nat) (hi : i < ws.length) : W.cell? ⟨g, i, none⟩ = some (.int .u64 (ws.getD i 0)) := by
 simp [World.cell?, h.row, hi, yyd, yyg hi]
def zb5 (b g : Nat) : Nat → Prop := fun k => k = b ∨ k = g
theorem zgv (h : zbm W b g ws st wi at_ kd) (hs : st ≤ 1000000000) (i : Int) (h0 : 0 ≤ i) (h1 : i < ws.length) : Calls Tryz.prog 126 #[.pointer (some ⟨b, 0, none⟩), .int .i64 i] W fun e w' => e = .returned (.int .u64 (ws.getD i.toNat 0)) ∧ zbm w' b g ws (st + 1) wi i 1 ∧ Fr (zb5 b g) W w' := by
 obtain ⟨c0, c1, c2, c3, c4⟩ := h.cells
 obtain ⟨z1, _⟩ := h.free 1
 obtain ⟨z2, _⟩ := h.free 2
 obtain ⟨z3, _⟩ := h.free 3
 obtain ⟨z4, _⟩ := h.free 4
 have hne := h.ne
 have hne' := h.ne.symm
 have hst := h.st0
 have hwi := h.wi0
 have hws := h.wst
 have hll := h.len
 obtain ⟨j, rfl⟩ := Int.eq_ofNat_of_zero_le h0
 have hj : j < ws.length := by omega
 rw [Int.toNat_natCast]
 have cj := h.word_at j hj
 obtain ⟨_, zj⟩ := h.free j
 have H := yyh h
 clear h
 generalize hx : ws.getD j 0 = x at *
 have HX := yyh hx
 clear hx
 go_enter Tryz.func126, Tryz.ntmps126
 go_wp2
 go_ret
 exact ⟨rfl, H.out.acc _ _, (((Fr.refl _ _).set (Or.inl rfl) _).set (Or.inl rfl) _).set (Or.inl rfl) _⟩
theorem zii (h : zbm W b g ws st wi at_ kd) (hs : st ≤ 1000000000) (i : Int) (h0 : 0 ≤ i) (h1 : i < ws.length) (v : Int) : Calls Tryz.prog 125 #[.pointer (some ⟨b, 0, none⟩), .int .i64 i, .int .u64 v] W fun e w' => e = .returned (.tuple #[]) ∧ zbm w' b g (ws.set i.toNat v) (st + 1) wi i 2 ∧ Fr (zb5 b g) W w' := by
 obtain ⟨c0, c1, c2, c3, c4⟩ := h.cells
 obtain ⟨z1, _⟩ := h.free 1
 obtain ⟨z2, _⟩ := h.free 2
 obtain ⟨z3, _⟩ := h.free 3
 obtain ⟨z4, _⟩ := h.free 4
 have hne := h.ne
 have hne' := h.ne.symm
 have hst := h.st0
 have hwi := h.wi0
 have hws := h.wst
 have hll := h.len
 obtain ⟨j, rfl⟩ := Int.eq_ofNat_of_zero_le h0
 have hj : j < ws.length := by omega
 rw [Int.toNat_natCast]
 have cj := h.word_at j hj
 obtain ⟨_, zj⟩ := h.free j
 have H := yyh h
 clear h
 generalize hx : ws.getD j 0 = x at *
 have HX := yyh hx
 clear hx
 go_enter Tryz.func125, Tryz.ntmps125
 go_wp2
 go_end0
 exact ⟨rfl, (H.out.acc _ _).word _ _, ((((Fr.refl _ _).set (Or.inl rfl) _).set (Or.inl rfl) _).set (Or.inl rfl) _).set (Or.inr rfl) _⟩
theorem zsy (h : zbm W b g ws st wi at_ kd) (hs : st ≤ 1000000000) (i : Int) (h0 : 0 ≤ i) (h1 : i < ws.length) (v : Int) : Calls Tryz.prog 127 #[.pointer (some ⟨b, 0, none⟩), .int .i64 i, .int .u64 v] W fun e w' => e = .returned (.int .u64 (IntKind.u64.wrap (ws.getD i.toNat 0 + v))) ∧ zbm w' b g (ws.set i.toNat (IntKind.u64.wrap (ws.getD i.toNat 0 + v))) (st + 1) wi i 4 ∧ Fr (zb5 b g) W w' := by
 obtain ⟨c0, c1, c2, c3, c4⟩ := h.cells
 obtain ⟨z1, _⟩ := h.free 1
 obtain ⟨z2, _⟩ := h.free 2
 obtain ⟨z3, _⟩ := h.free 3
 obtain ⟨z4, _⟩ := h.free 4
 have hne := h.ne
 have hne' := h.ne.symm
 have hst := h.st0
 have hwi := h.wi0
 have hws := h.wst
 have hll := h.len
 obtain ⟨j, rfl⟩ := Int.eq_ofNat_of_zero_le h0
 have hj : j < ws.length := by omega
 rw [Int.toNat_natCast]
 have cj := h.word_at j hj
 obtain ⟨_, zj⟩ := h.free j
 have H := yyh h
 clear h
 generalize hx : ws.getD j 0 = x at *
 have HX := yyh hx
 clear hx
 generalize hy : IntKind.u64.wrap (x + v) = y at *
 go_enter Tryz.func127, Tryz.ntmps127
 go_wp2
 go_ret
 exact ⟨rfl, (H.out.acc _ _).word _ _, ((((Fr.refl _ _).set (Or.inl rfl) _).set (Or.inl rfl) _).set (Or.inl rfl) _).set (Or.inr rfl) _⟩
theorem zoq (h : zbm W b g ws st wi at_ kd) (hs : st ≤ 1000000000) (i : Int) (h0 : 0 ≤ i) (h1 : i < ws.length) (old new : Int) (hit : (ws.getD i.toNat 0 != old) = false) : Calls Tryz.prog 169 #[.pointer (some ⟨b, 0, none⟩), .int .i64 i, .int .u64 old, .int .u64 new] W fun e w' => e = .returned (.bool true) ∧ zbm w' b g (ws.set i.toNat new) (st + 1) (wi + 1) i 3 ∧ Fr (zb5 b g) W w' := by
 obtain ⟨c0, c1, c2, c3, c4⟩ := h.cells
 obtain ⟨z1, _⟩ := h.free 1
 obtain ⟨z2, _⟩ := h.free 2
 obtain ⟨z3, _⟩ := h.free 3
 obtain ⟨z4, _⟩ := h.free 4
 have hne := h.ne
 have hne' := h.ne.symm
 have hst := h.st0
 have hwi := h.wi0
 have hws := h.wst
 have hll := h.len
 obtain ⟨j, rfl⟩ := Int.eq_ofNat_of_zero_le h0
 have hj : j < ws.length := by omega
 rw [Int.toNat_natCast] at *
 have cj := h.word_at j hj
 obtain ⟨_, zj⟩ := h.free j
 have H := yyh h
 clear h
 generalize hx : ws.getD j 0 = x at *
 have HX := yyh hx
 clear hx
 go_enter Tryz.func169, Tryz.ntmps169
 go_wp2
 go_ret
 exact ⟨rfl, ((H.out.acc _ _).word _ _).win (by omega), (((((Fr.refl _ _).set (Or.inl rfl) _).set (Or.inl rfl) _).set (Or.inl rfl) _).set (Or.inr rfl) _).set (Or.inl rfl) _⟩
theorem zk9 (h : zbm W b g ws st wi at_ kd) : Calls Tryz.prog 168 #[.pointer (some ⟨b, 0, none⟩)] W fun e w' => e = .returned (.int .i64 ws.length) ∧ W = w' := by
 obtain ⟨c0, c1, c2, c3, c4⟩ := h.cells
 obtain ⟨z1, _⟩ := h.free 1
 obtain ⟨z2, _⟩ := h.free 2
 obtain ⟨z3, _⟩ := h.free 3
 obtain ⟨z4, _⟩ := h.free 4
 have hne := h.ne
 have hne' := h.ne.symm
 have hst := h.st0
 have hwi := h.wi0
 have hws := h.wst
 have hll := h.len
 go_enter Tryz.func168, Tryz.ntmps168
 go_wp2
 go_ret
 exact ⟨rfl, rfl⟩
end
section
variable {k : IntKind} {t : TypeId} {W W' : World} {r : Nat} {xs : List Int} {bs : List Bool}
theorem zbm.al {b g : Nat} {ws : List Int} {st wi at_ kd : Int} (h : zbm W b g ws st wi at_ kd) (o : Obj) : zbm (W.alloc o) b g ws st wi at_ kd :=
 ⟨zan h.hdr, zan h.row, h.ne, h.len, h.st0, h.wi0, h.wst⟩
theorem zbm.dr {b g : Nat} {ws : List Int} {st wi at_ kd : Int} (h : zbm W b g ws st wi at_ kd) : zbm W.drew b g ws st wi at_ kd := ⟨h.hdr, h.row, h.ne, h.len, h.st0, h.wi0, h.wst⟩
theorem zbm.fr {S : Nat → Prop} {b g : Nat} {ws : List Int} {st wi at_ kd : Int} (h : zbm W b g ws st wi at_ kd) (f : Fr S W W') (hb : ¬ S b) (hg : ¬ S g) : zbm W' b g ws st wi at_ kd :=
 ⟨(f.block b (yya.1 h.hdr).1 hb).trans h.hdr, (f.block g (yya.1 h.row).1 hg).trans h.row, h.ne, h.len, h.st0, h.wi0, h.wst⟩
end
structure zet (W : World) (c b g : Nat) (n o m K : Int) : Prop where
 hdr : W.heap[c]? = some (.cells #[.int .i64 n, .pointer (some ⟨b, 0, none⟩)] 158 (0, 0))
 mem : ∃ st wi at_ kd : Int, st ≤ K ∧ zbm W b g [o, m] st wi at_ kd
 cb : c ≠ b
 cg : c ≠ g
 n1 : 1 ≤ n
 n64 : n ≤ 64
 o0 : 0 ≤ o
 on : o ≤ n
 m0 : 0 ≤ m
 mn : m ≤ n
section
variable {W W' : World} {c b g : Nat} {n o m K : Int}
theorem zet.cells (h : zet W c b g n o m K) : W.cell? ⟨c, 0, none⟩ = some (.int .i64 n) ∧ W.cell? ⟨c, 1, none⟩ = some (.pointer (some ⟨b, 0, none⟩)) := by
 have h1 := h.hdr
 constructor <;> simp [World.cell?, h1]
theorem zet.dr (h : zet W c b g n o m K) : zet W.drew c b g n o m K := by
 obtain ⟨st, wi, at_, kd, hs, hM⟩ := h.mem
 exact { h with mem := ⟨st, wi, at_, kd, hs, hM.dr⟩, hdr := h.hdr }
theorem zet.nown (h : zet W c b g n o m K) : ¬ zb5 b g c := fun k => k.elim h.cb h.cg
theorem zla (h : zet W c b g n o m K) : ¬ zb5 b g c := h.nown
theorem zce {S : Nat → Prop} (f : Fr S W W') {k j : Nat} {v : Value} (hs : ¬ S k) (hc : W.cell? ⟨k, j, none⟩ = some v) : W'.cell? ⟨k, j, none⟩ = some v := by
 have hk : k < W.heap.size := by
  apply Nat.lt_of_not_le
  intro hle
  simp [World.cell?, Array.getElem?_eq_none hle] at hc
 simp only [World.cell?, f.block k hk hs] at hc ⊢
 exact hc
theorem zet.to (h : zet W c b g n o m K) (f : Fr (zb5 b g) W W') {o' m' K' st wi at_ kd : Int} (hM : zbm W' b g [o', m'] st wi at_ kd) (hs : st ≤ K') (h0 : 0 ≤ o') (h1 : o' ≤ n) (h2 : 0 ≤ m') (h3 : m' ≤ n) : zet W' c b g n o' m' K' :=
 ⟨(f.block c (yya.1 h.hdr).1 h.nown).trans h.hdr, ⟨st, wi, at_, kd, hs, hM⟩, h.cb, h.cg, h.n1, h.n64, h0, h1, h2, h3⟩
theorem zsz (h : zet W c b g n o m K) (hs : K ≤ 900000000) : Calls Tryz.prog 89 #[.pointer (some ⟨c, 0, none⟩)] W fun e w' => e = .returned (.int .i64 o) ∧ zet w' c b g n o m (K + 1) ∧ Fr (zb5 b g) W w' := by
 obtain ⟨c0, c1⟩ := h.cells
 obtain ⟨st, wi, at_, kd, hst, hM⟩ := h.mem
 have h0 := h.o0
 have h1 := h.on
 have h2 := h.n64
 have q : IntKind.i64.wrap o = o := by rw [IntKind.wrap_i64]; omega
 go_enter Tryz.func89, Tryz.ntmps89
 go_wp2_with fail
 refine (zgv hM (by omega) 0 (by decide) (by simp)).mono ?_
 rintro e w' ⟨rfl, hM', hF⟩
 rw [show List.getD [o, m] (0 : Int).toNat 0 = o from rfl]
 go_wp2_with fail
 go_ret
 exact ⟨rfl, h.to hF hM' (by omega) h0 h1 h.m0 h.mn, hF⟩
theorem zor (h : zet W c b g n o m K) (hs : K ≤ 900000000) : Calls Tryz.prog 47 #[.pointer (some ⟨c, 0, none⟩)] W fun e w' => e = .returned (.int .i64 (n - o)) ∧ zet w' c b g n o m (K + 1) ∧ Fr (zb5 b g) W w' := by
 obtain ⟨c0, c1⟩ := h.cells
 have h0 := h.o0
 have h1 := h.on
 have h2 := h.n64
 have q : IntKind.i64.wrap (n - o) = n - o := by rw [IntKind.wrap_i64]; omega
 have hd := h.dr
 have fd := (Fr.refl (zb5 b g) W).dr
 go_enter Tryz.func47, Tryz.ntmps47
 go_wp2_with fail
 go_region_held3 (fun w' => w'.cell? ⟨c, 0, none⟩ = some (.int .i64 n)) ((first | assumption | exact hC.cells.1)) (first | (go_at_call 89; refine (zsz hd (by omega)).mono ?_; rintro e w' ⟨rfl, hC, hF⟩))
 go_wp2_with fail
 go_ret
 exact ⟨rfl, hC, fd.trans hF⟩
theorem zrb (h : zet W c b g n o m K) (hs : K ≤ 900000000) (ho : o < n) {m' : Int} (hm : (m < o + 1 ∧ m' = o + 1) ∨ (o + 1 ≤ m ∧ m' = m)) : Calls Tryz.prog 73 #[.pointer (some ⟨c, 0, none⟩)] W fun e w' => e = .returned (.bool true) ∧ zet w' c b g n (o + 1) m' (K + 4) ∧ Fr (zb5 b g) W w' := by
 have q : ((n - o : Int) == 0) = false := by simp; omega
 have q0 := h.o0
 have q1 := h.n64
 have q2 : IntKind.u64.wrap (o + 1) = o + 1 := by rw [IntKind.wrap_u64]; omega
 go_enter Tryz.func73, Tryz.ntmps73
 go_wp2_with fail
 refine (zor h hs).mono ?_
 rintro e w' ⟨rfl, hC, hF⟩
 obtain ⟨c0, c1⟩ := hC.cells
 obtain ⟨st, wi, at_, kd, hst, hM⟩ := hC.mem
 go_wp2_with fail
 have q3 := hC.m0
 have q4 := hC.mn
 rcases hm with ⟨hmx, rfl⟩ | ⟨hmx, rfl⟩
 ·
  have hmx' : ¬ (o + 1 ≤ m) := by omega
  have hMd := hM.dr
  have HN := yyh (zla hC)
  go_region_held3 (fun w' => w'.cell? ⟨c, 1, none⟩ = some (.pointer (some ⟨b, 0, none⟩))) ((first | assumption | exact (zce hF1 HN.out c1) | exact (zce hF2 HN.out (by assumption)) | exact (zce hF3 HN.out (by assumption)))) (first | (go_at_call 126; refine (zgv hMd (by omega) 1 (by decide) (by simp)).mono ?_; rintro e w1 ⟨rfl, hM1, hF1⟩; rw [show List.getD [o, m] (1 : Int).toNat 0 = m from rfl]) | (go_at_call 127; refine (zsy hM1 (by omega) 0 (by decide) (by simp) 1).mono ?_; rintro e w2 ⟨rfl, hM2, hF2⟩; rw [show List.getD [o, m] (0 : Int).toNat 0 = o from rfl, q2] at *) | (go_at_call 125; refine (zii hM2 (by omega) 1 (by decide) (by simp) _).mono ?_; rintro e w3 ⟨rfl, hM3, hF3⟩))
  go_wp2_with fail
  go_ret
  first | exact ⟨rfl, hC.to (((Fr.refl (zb5 b g) _).dr.trans hF1).trans (hF2.trans hF3)) hM3 (by omega) (by omega) (by omega) (by omega) (by omega), hF.trans (((Fr.refl (zb5 b g) _).dr.trans hF1).trans (hF2.trans hF3))⟩ | (have hmm : max m (o + 1) = o + 1 := (by omega); rw [hmm] at hM3; exact ⟨rfl, hC.to (((Fr.refl (zb5 b g) _).dr.trans hF1).trans (hF2.trans hF3)) hM3 (by omega) (by omega) (by omega) (by omega) (by omega), hF.trans (((Fr.refl (zb5 b g) _).dr.trans hF1).trans (hF2.trans hF3))⟩) | (have hmm : max m (o + 1) = m := (by omega); rw [hmm] at hM3; exact ⟨rfl, hC.to (((Fr.refl (zb5 b g) _).dr.trans hF1).trans (hF2.trans hF3)) hM3 (by omega) (by omega) (by omega) (by omega) (by omega), hF.trans (((Fr.refl (zb5 b g) _).dr.trans hF1).trans (hF2.trans hF3))⟩)
 ·
  have hmx' : ¬ (m' < o + 1) := by omega
  have hMd := hM.dr
  have HN := yyh (zla hC)
  go_region_held3 (fun w' => w'.cell? ⟨c, 1, none⟩ = some (.pointer (some ⟨b, 0, none⟩))) ((first | assumption | exact (zce hF1 HN.out c1) | exact (zce hF2 HN.out (by assumption)) | exact (zce hF3 HN.out (by assumption)))) (first | (go_at_call 126; refine (zgv hMd (by omega) 1 (by decide) (by simp)).mono ?_; rintro e w1 ⟨rfl, hM1, hF1⟩; rw [show List.getD [o, m'] (1 : Int).toNat 0 = m' from rfl]) | (go_at_call 127; refine (zsy hM1 (by omega) 0 (by decide) (by simp) 1).mono ?_; rintro e w2 ⟨rfl, hM2, hF2⟩; rw [show List.getD [o, m'] (0 : Int).toNat 0 = o from rfl, q2] at *) | (go_at_call 125; refine (zii hM2 (by omega) 1 (by decide) (by simp) _).mono ?_; rintro e w3 ⟨rfl, hM3, hF3⟩))
  try rw [if_neg (by omega)] at hM3
  go_wp2_with fail
  go_ret
  first | exact ⟨rfl, hC.to (((Fr.refl (zb5 b g) _).dr.trans hF1).trans (hF2.trans hF3)) hM3 (by omega) (by omega) (by omega) (by omega) (by omega), hF.trans (((Fr.refl (zb5 b g) _).dr.trans hF1).trans (hF2.trans hF3))⟩ | (have hmm : max m' (o + 1) = o + 1 := (by omega); rw [hmm] at hM3; exact ⟨rfl, hC.to (((Fr.refl (zb5 b g) _).dr.trans hF1).trans (hF2.trans hF3)) hM3 (by omega) (by omega) (by omega) (by omega) (by omega), hF.trans (((Fr.refl (zb5 b g) _).dr.trans hF1).trans (hF2.trans hF3))⟩) | (have hmm : max m' (o + 1) = m' := (by omega); rw [hmm] at hM3; exact ⟨rfl, hC.to (((Fr.refl (zb5 b g) _).dr.trans hF1).trans (hF2.trans hF3)) hM3 (by omega) (by omega) (by omega) (by omega) (by omega), hF.trans (((Fr.refl (zb5 b g) _).dr.trans hF1).trans (hF2.trans hF3))⟩)
theorem zmb (h : zet W c b g n o m K) (hs : K ≤ 900000000) (ho : 0 < o) : Calls Tryz.prog 74 #[.pointer (some ⟨c, 0, none⟩)] W fun e w' => e = .returned (.int .i64 0) ∧ zet w' c b g n (o - 1) m (K + 3) ∧ Fr (zb5 b g) W w' := by
 have q : ((o : Int) == 0) = false := by simp; omega
 have q0 := h.o0
 have q1 := h.n64
 have q2 := h.on
 have q3 : IntKind.u64.wrap (o - 1) = o - 1 := by rw [IntKind.wrap_u64]; omega
 go_enter Tryz.func74, Tryz.ntmps74
 go_wp2_with fail
 refine (zsz h hs).mono ?_
 rintro e w' ⟨rfl, hC, hF⟩
 obtain ⟨c0, c1⟩ := hC.cells
 obtain ⟨st, wi, at_, kd, hst, hM⟩ := hC.mem
 go_wp2_with fail
 have q5 := hC.m0
 have q6 := hC.mn
 have hMd := hM.dr
 have HN := yyh (zla hC)
 go_region_held3 (fun w' => w'.cell? ⟨c, 1, none⟩ = some (.pointer (some ⟨b, 0, none⟩))) ((first | assumption | exact (zce hF1 HN.out c1) | exact (zce hF2 HN.out (by assumption)))) (first | (go_at_call 126; refine (zgv hMd (by omega) 0 (by decide) (by simp)).mono ?_; rintro e w1 ⟨rfl, hM1, hF1⟩; rw [show List.getD [o, m] (0 : Int).toNat 0 = o from rfl]) | (go_at_call 125; refine (zii hM1 (by omega) 0 (by decide) (by simp) _).mono ?_; rintro e w2 ⟨rfl, hM2, hF2⟩))
 go_wp2_with fail
 go_ret
 exact ⟨rfl, hC.to (((Fr.refl (zb5 b g) _).dr.trans hF1).trans hF2) hM2 (by omega) (by omega) (by omega) (by omega) (by omega), hF.trans (((Fr.refl (zb5 b g) _).dr.trans hF1).trans hF2)⟩
end
theorem zuc (n : Int) (h1 : 1 ≤ n) (h2 : n ≤ 64) (w : World) : Calls Tryz.prog 111 #[.int .i64 n] w fun e w' => e = .returned (.tuple #[.pointer (some ⟨w'.heap.size - 1, 0, none⟩), .int .i64 0]) ∧ zet w' (w'.heap.size - 1) (w.heap.size + 1) w.heap.size n 0 0 0 ∧ Below w.heap.size w w' := by
 go_enter Tryz.func111, Tryz.ntmps111
 go_wp2_with fail
 refine (zsx 2 (by decide) (by decide) _).mono ?_
 rintro e w1 ⟨rfl, hM, hB⟩
 rw [show List.replicate (2 : Int).toNat (0 : Int) = [0, 0] from rfl] at hM
 have k1 : w.heap.size + 1 < w1.heap.size := (yya.1 hM.hdr).1
 go_wp2_with fail
 go_ret2
 refine ⟨by simp, ⟨?_, ⟨0, 0, 0, 0, by decide, hM.al _⟩, ?_, ?_, h1, h2, by decide, by omega, by decide, by omega⟩, zab hB _⟩
 · rw [zax (by simp)]
 · simp; omega
 · simp; omega
end Go.Proofs.YtcfhkbcllijnkaaGreat
