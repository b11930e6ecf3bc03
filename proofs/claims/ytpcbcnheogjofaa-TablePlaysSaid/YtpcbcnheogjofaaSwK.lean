/- TablePlays: cases of the switch. Printed by gen/gensw.py. -/
import Derived.Test.YtpcbcnheogjofaaTable18
import Derived.Test.YtpcbcnheogjofaaTable20
import Derived.Deep.AppendLies
namespace Go.Proofs.Ytpcbcnheogjofaa
open Go.RowKit Go.Maps Go.Shelf Go.Proofs.YtpcbcnheogjofaaW.PrintWords
set_option linter.unusedVariables false
set_option linter.unusedSimpArgs false
section
variable {w W5 : World} {M k n dd t a b g mb base lcap rcap PB PO cb : Nat} {LA RA A : Option Addr} {IN : Bool} {KD ID PR ST NN f p d r m : Int} {L : List Op3} {ws : List Int} {R XS : List Value} {TT : Nat → Tk} {bv lv : Nat → Value}
variable {u1 u2 u3 u4 u6 u12 u13 u14 u15 u16 u17 u18 u19 u20 u21 u22 u23 u24 u25 u26 u27 u28 u29 u30 u31 u32 u33 u34 u35 u36 u37 u38 u39 u40 u41 u42 u43 u44 u45 u46 u47 u48 u49 u50 u51 u52 u53 u54 u55 u56 u57 u58 u59 u60 u61 u62 u63 u64 u65 u66 u67 u68 u69 u70 u71 u72 u73 u74 u75 u76 u77 u78 u79 u80 u81 u82 u83 u84 u86 u87 u88 u89 u90 u91 u92 u93 u94 u95 u96 u97 u98 u99 u100 u101 u102 u103 u104 u105 u106 u107 u108 u109 u110 u111 u112 u113 u114 u115 u116 u117 u118 u119 u120 u121 u122 u123 u124 u125 u126 u127 u128 u129 u130 u131 u132 u133 u134 u135 u136 u137 u138 u139 u140 u141 u142 u143 u144 u145 u146 u147 u148 u149 u150 u151 u152 u153 u154 u155 u156 u157 u158 u159 u160 u161 u162 u163 u164 u165 u166 u167 u168 u169 u170 u171 u172 u173 u174 u175 u176 u177 u178 u179 u180 u181 u182 u183 u184 u185 u186 u187 u188 u189 u190 u191 u192 u193 u194 u195 u196 u197 u198 u199 u200 u201 u202 u203 u204 u205 u206 u207 u208 u209 u210 u211 u212 u213 u214 u215 u216 u217 u218 u219 u220 u221 u222 u223 u224 u225 u226 u227 u228 u229 u230 u231 u232 u233 u234 u235 u236 u237 u238 u239 u240 u241 u242 u243 u244 u245 u246 u247 u248 u249 u250 u251 u252 u253 u254 u255 u256 u257 u258 u259 u260 u261 u262 u263 u264 u265 u266 u267 u268 u269 u270 u271 u272 u273 u274 u275 u276 u277 u278 u279 u280 u281 u282 u283 u284 u285 u286 u287 u288 u289 u290 u291 u292 u293 u294 u295 u296 u297 u298 u299 u300 u301 u302 u303 u304 u305 u306 u307 u308 u309 u310 u311 u312 u313 u314 u315 u316 u317 u318 u319 u320 u321 u322 u323 u324 u325 u326 u327 u328 u329 u330 u331 u332 u333 u334 u335 u336 u337 u338 u339 u340 u341 u342 u343 u344 u345 u346 u347 u348 u349 u350 u351 : Value}
variable {Q : Exit → Act → World → Prop}
set_option maxRecDepth 1000000 in
set_option maxHeartbeats 20000000 in
theorem sw_make_again (h : SwI w W5 M k n dd t a b g mb base lcap rcap PB PO cb LA RA A IN 0 ID PR ST NN f p d r m L ws R XS TT bv lv) (hbad : badMk PR ST p (okB f p d) L = false) (hlt : n < M) (hp : 0 < p)
    (hQ : ∀ (Lv' x12 x13 x14 x15 x16 x17 x18 x19 x20 x86 x87 x88 x89 x90 x91 x92 x93 x94 x95 x96 x97 x98 x99 x100 x101 x102 x103 x104 x105 x106 x107 x108 x109 x110 x111 x112 x113 x114 x115 x116 x117 x118 x119 x120 x121 x122 x123 x124 x125 x126 x127 x128 x129 x130 x131 x132 x133 x134 x135 x136 x137 x138 x139 x140 x141 x142 x143 x144 x145 x146 x147 x148 x149 x150 x151 x152 x153 x154 x155 x156 x157 x158 x159 x160 x161 x162 x163 x164 x165 x166 x167 x168 x169 x170 x171 x172 x173 x174 x175 x176 x177 x178 x179 x180 x181 x182 x183 x184 x185 x186 x187 x188 x189 x190 x191 x192 x193 x194 x195 x196 x197 x198 x199 x200 x201 x202 x203 x204 x205 x206 x207 x208 x209 x210 x211 x212 x213 x214 x215 x216 x217 x218 x219 x220 x221 x222 x223 x224 x225 x226 x227 x228 x229 x230 x231 x232 x233 x234 x235 x236 x237 x238 x239 x240 x241 x242 x243 x244 x245 x246 x247 x248 x249 x250 x251 x252 x253 x254 x255 x256 x257 x258 x259 x260 x261 x262 x263 x264 x265 x266 x267 x268 x269 x270 x271 x272 x273 x274 x275 x276 x277 x278 x279 x280 x281 x282 x283 x284 x285 x286 x287 x288 x289 x290 x291 x292 x293 x294 x295 x296 x297 x298 x299 x300 x301 x302 x303 x304 x305 x306 x307 x308 x309 x310 x311 x312 x313 x314 x315 x316 x317 x318 x319 x320 x321 x322 x323 x324 x325 x326 x327 x328 x329 x330 x331 x332 x333 x334 x335 x336 x337 x338 x339 x340 x341 x342 x343 x344 x345 x346 x347 x348 x349 x350 : Value) (w' : World), PI w w' t a b g mb M base (2000 * k + 1500) (k + 1) Lv' → w'.heap[dd]? = some (.cells #[.int .i64 0, .int .i64 ID, .int .i64 PR, .int .i64 ST, .int .u64 NN, .int .u64 f, .int .u64 p, .int .u64 d, .int .u64 r, .int .u64 m, .slice A L.length cb] 107 (0, 0)) → Q .normal ⟨#[.int .i64 (M : Int), u1, u2, u3, u4, .pointer (some ⟨t, 0, none⟩), u6, Lv', .int .i64 (k : Int), .pointer (some ⟨dd, 0, none⟩), .bool IN, .pointer (some ⟨PB, PO, none⟩), x12, x13, x14, x15, x16, x17, x18, x19, x20, u21, u22, u23, u24, u25, u26, u27, u28, u29, u30, u31, u32, u33, u34, u35, u36, u37, u38, u39, u40, u41, u42, u43, u44, u45, u46, u47, u48, u49, u50, u51, u52, u53, u54, u55, u56, u57, u58, u59, u60, u61, u62, u63, u64, u65, u66, u67, u68, u69, u70, u71, u72, u73, u74, u75, u76, u77, u78, u79, u80, u81, u82, u83, u84, .int .i64 0, x86, x87, x88, x89, x90, x91, x92, x93, x94, x95, x96, x97, x98, x99, x100, x101, x102, x103, x104, x105, x106, x107, x108, x109, x110, x111, x112, x113, x114, x115, x116, x117, x118, x119, x120, x121, x122, x123, x124, x125, x126, x127, x128, x129, x130, x131, x132, x133, x134, x135, x136, x137, x138, x139, x140, x141, x142, x143, x144, x145, x146, x147, x148, x149, x150, x151, x152, x153, x154, x155, x156, x157, x158, x159, x160, x161, x162, x163, x164, x165, x166, x167, x168, x169, x170, x171, x172, x173, x174, x175, x176, x177, x178, x179, x180, x181, x182, x183, x184, x185, x186, x187, x188, x189, x190, x191, x192, x193, x194, x195, x196, x197, x198, x199, x200, x201, x202, x203, x204, x205, x206, x207, x208, x209, x210, x211, x212, x213, x214, x215, x216, x217, x218, x219, x220, x221, x222, x223, x224, x225, x226, x227, x228, x229, x230, x231, x232, x233, x234, x235, x236, x237, x238, x239, x240, x241, x242, x243, x244, x245, x246, x247, x248, x249, x250, x251, x252, x253, x254, x255, x256, x257, x258, x259, x260, x261, x262, x263, x264, x265, x266, x267, x268, x269, x270, x271, x272, x273, x274, x275, x276, x277, x278, x279, x280, x281, x282, x283, x284, x285, x286, x287, x288, x289, x290, x291, x292, x293, x294, x295, x296, x297, x298, x299, x300, x301, x302, x303, x304, x305, x306, x307, x308, x309, x310, x311, x312, x313, x314, x315, x316, x317, x318, x319, x320, x321, x322, x323, x324, x325, x326, x327, x328, x329, x330, x331, x332, x333, x334, x335, x336, x337, x338, x339, x340, x341, x342, x343, x344, x345, x346, x347, x348, x349, x350, u351], []⟩ w') :
    Code.wp Try.prog swC Q ⟨#[.int .i64 (M : Int), u1, u2, u3, u4, .pointer (some ⟨t, 0, none⟩), u6, .slice LA n lcap, .int .i64 (k : Int), .pointer (some ⟨dd, 0, none⟩), .bool IN, .pointer (some ⟨PB, PO, none⟩), u12, u13, u14, u15, u16, u17, u18, u19, u20, u21, u22, u23, u24, u25, u26, u27, u28, u29, u30, u31, u32, u33, u34, u35, u36, u37, u38, u39, u40, u41, u42, u43, u44, u45, u46, u47, u48, u49, u50, u51, u52, u53, u54, u55, u56, u57, u58, u59, u60, u61, u62, u63, u64, u65, u66, u67, u68, u69, u70, u71, u72, u73, u74, u75, u76, u77, u78, u79, u80, u81, u82, u83, u84, .int .i64 0, u86, u87, u88, u89, u90, u91, u92, u93, u94, u95, u96, u97, u98, u99, u100, u101, u102, u103, u104, u105, u106, u107, u108, u109, u110, u111, u112, u113, u114, u115, u116, u117, u118, u119, u120, u121, u122, u123, u124, u125, u126, u127, u128, u129, u130, u131, u132, u133, u134, u135, u136, u137, u138, u139, u140, u141, u142, u143, u144, u145, u146, u147, u148, u149, u150, u151, u152, u153, u154, u155, u156, u157, u158, u159, u160, u161, u162, u163, u164, u165, u166, u167, u168, u169, u170, u171, u172, u173, u174, u175, u176, u177, u178, u179, u180, u181, u182, u183, u184, u185, u186, u187, u188, u189, u190, u191, u192, u193, u194, u195, u196, u197, u198, u199, u200, u201, u202, u203, u204, u205, u206, u207, u208, u209, u210, u211, u212, u213, u214, u215, u216, u217, u218, u219, u220, u221, u222, u223, u224, u225, u226, u227, u228, u229, u230, u231, u232, u233, u234, u235, u236, u237, u238, u239, u240, u241, u242, u243, u244, u245, u246, u247, u248, u249, u250, u251, u252, u253, u254, u255, u256, u257, u258, u259, u260, u261, u262, u263, u264, u265, u266, u267, u268, u269, u270, u271, u272, u273, u274, u275, u276, u277, u278, u279, u280, u281, u282, u283, u284, u285, u286, u287, u288, u289, u290, u291, u292, u293, u294, u295, u296, u297, u298, u299, u300, u301, u302, u303, u304, u305, u306, u307, u308, u309, u310, u311, u312, u313, u314, u315, u316, u317, u318, u319, u320, u321, u322, u323, u324, u325, u326, u327, u328, u329, u330, u331, u332, u333, u334, u335, u336, u337, u338, u339, u340, u341, u342, u343, u344, u345, u346, u347, u348, u349, u350, u351], []⟩ W5 := by
  obtain ⟨d0, d1, d2, d3, d4, d5, d6, d7, d8, d9, d10⟩ := opc h.d6
  have H := Lib.hid h
  have HQ := Lib.hid hQ
  have k40 := h.hk
  have n40 : n ≤ 40 := by have := h.hnk; omega
  have hOA : OpsAt W5 A L := by
    obtain ⟨A2, c2, e2, h2⟩ := h.ov.form
    simp only [Value.slice.injEq] at e2
    obtain ⟨rfl, _⟩ := e2
    exact h2
  obtain ⟨b1, bf, bp, bd, br, bm, bn, bi⟩ := h.bd
  have hcan : canB 0 ST = true := by
    unfold badMk at hbad
    simp only [Bool.or_eq_false_iff, Bool.not_eq_false'] at hbad
    exact hbad.1.2
  have hpr : 0 ≤ PR ∧ PR ≤ 7 := by
    unfold badMk at hbad
    simp only [Bool.or_eq_false_iff, decide_eq_false_iff_not] at hbad
    omega
  have hs16 := can_bd hcan
  have hz0 := h.hws0 n (Nat.le_refl _)
  have hbs : base ≤ W5.heap.size := by have := h.s5; have := h.hdb; omega
  have HK := Lib.hid (TMake_new h.ti.tb hbs (by omega) (by omega) (by rw [h.hwl]; exact hlt) (fun j hj => by have := h.hws j hj; rw [beq_eq_false_iff_ne]; omega) (by rw [hz0]; rfl) (fun x y => by have := CG_bd (stOf ws) (prOf TT) n x y; omega) PR ST f p d r m A cb L (by have := h.hl; omega) b1 bf.1 bp.1 bd.1 bd.2 hOA hbad h.ov (by
    rcases h.ob with e | e
    · exact .inl e
    · exact .inr (fun c hc hs => by
        have h1 := e c hc
        have h2 := h.l5
        rcases hs with hs | hs <;> omega)))
  have HM := Lib.hid (fun (X : World) (hX : OpsAt X A L) => made_good (W := X) 0 ID PR ST NN f p d r m A cb L (by have := h.hl; omega) bf.1 bp.1 bd.1 bd.2 hX (n : Int) (M : Int) hbad)
  rw [if_neg (by omega)] at HM
  have HS := Lib.hid hs16
  have HLT := Lib.hid hlt
  have HL := Lib.hid h.hl
  have HOK := Lib.hid (show TkOk (newT PR d f p r m L) from ⟨hpr, bf, bp, bd, br, bm, by have := h.hl; show L.length ≤ 1000; omega⟩)
  have HZ := Lib.hid (show W5.heap.size = dd + 2 from h.s5)
  have gp : decide (p > 0) = true := by simp; omega
  have gp2 : decide (0 < p) = true := by simpa using gp
  have HP := Lib.hid hp
  clear hp
  clear h hQ b1 bf bp bd br bm bn bi hbad hOA hcan hpr hs16 hz0 hbs hlt
  conv => arg 2; whnf
  go_wp2_with fail
  refine HK.out.mono ?_
  rintro e w1 ⟨q, cap, bvn, rfl, hT1, hO1, hf1, hq1, hF1⟩
  dsimp only
  obtain ⟨hTI, hWI, hdd, hbw⟩ := H.out.made1 HLT.out HS.out.1 HS.out.2 HOK.out hF1 hT1 hO1 hf1
  have hOA1 := H.out.ovfrS hF1
  clear d0 d1 d2 d3 d4 d5 d6 d7 d8 d9 d10
  obtain ⟨d0, d1, d2, d3, d4, d5, d6, d7, d8, d9, d10⟩ := opc hdd
  have HTI := Lib.hid hTI
  have HWI := Lib.hid hWI
  have HDD := Lib.hid hdd
  have HBW := Lib.hid hbw
  have HQ1 := Lib.hid hq1
  have HF1 := Lib.hid hf1
  have HSZ := Lib.hid (show W5.heap.size ≤ w1.heap.size from hF1.size)
  have HOV1 := Lib.hid hOA1
  clear hT1 hO1 hf1 hq1 hF1 hTI hWI hdd hbw hOA1
  go_wp2_with fail
  refine (HM.out _ HOV1.out.2).mono ?_
  rintro e w2 ⟨rfl, hB2⟩
  dsimp only
  have hTI := HTI.out.below hB2
  have hWI := HWI.out.below hB2
  have hdd := (hB2.block dd (Array.getElem?_eq_some_iff.1 HDD.out).1).trans HDD.out
  have hbw := below_step hB2 HBW.out
  have HO2 := Lib.hid (HOV1.out.1.below hB2)
  have HTI := Lib.hid hTI
  have HWI := Lib.hid hWI
  have HBW := Lib.hid hbw
  have HSZ := Lib.hid (show W5.heap.size ≤ w2.heap.size from Nat.le_trans HSZ.out hB2.size)
  have HF1 := Lib.hid (fun c hc => by have i1 := HF1.out c hc; have i2 := hB2.size; exact (⟨i1.1, by omega, i1.2.2⟩ : W5.heap.size ≤ c ∧ c < w2.heap.size ∧ c ≠ q))
  clear d0 d1 d2 d3 d4 d5 d6 d7 d8 d9 d10 hTI hWI hbw hB2
  obtain ⟨d0, d1, d2, d3, d4, d5, d6, d7, d8, d9, d10⟩ := opc hdd
  have HLD := Lib.hid (fun (X : World) (hX : Below w2.heap.size w2 X) => show X.cell? ⟨dd, 2, none⟩ = some (.int .i64 PR) ∧ X.cell? ⟨dd, 3, none⟩ = some (.int .i64 ST) ∧ X.cell? ⟨dd, 7, none⟩ = some (.int .u64 d) ∧ X.cell? ⟨dd, 10, none⟩ = some (.slice A L.length cb) ∧ Below w2.heap.size w2 X from ⟨cell_goes hX d2, cell_goes hX d3, cell_goes hX d7, cell_goes hX d10, hX⟩)
  have HDD := Lib.hid hdd
  clear hdd
  go_upto_region 31 with fail
  go_cut [14] from 192 to 205 (fun v14 wx => ∃ (xb : Nat) (X6 : Option Addr) (c6 : Nat), v14 = .pointer (some ⟨xb, 0, none⟩) ∧ wx.heap[xb]? = some (.cells #[.int .i64 ((n : Int) + 1), .int .i64 PR, .int .i64 ST, .int .u64 d, .int .u64 0, .int .u64 0, .int .u64 0, .slice X6 L.length c6, .bool false, .int .u64 0, .int .u64 0, .int .u64 0, .int .u64 0, .int .u64 0] 110 (0, 0)) ∧ OpsV wx (.slice X6 L.length c6) L ∧ (∀ c, (Value.slice X6 L.length c6).ownBlock = some c → w2.heap.size ≤ c ∧ c < wx.heap.size ∧ c ≠ xb) ∧ w2.heap.size ≤ xb ∧ Below w2.heap.size w2 wx)
  case first =>
    refine wp_region_noPanic ?_
    refine wp_region_held_drew (S := (fun X => X.cell? ⟨dd, 2, none⟩ = some (.int .i64 PR) ∧ X.cell? ⟨dd, 3, none⟩ = some (.int .i64 ST) ∧ X.cell? ⟨dd, 7, none⟩ = some (.int .u64 d) ∧ X.cell? ⟨dd, 10, none⟩ = some (.slice A L.length cb) ∧ Below w2.heap.size w2 X)) (by kernel_rfl) ?_ (fun hHeld => ?_)
    · exact HLD.out _ (below_dr (Below.refl _ _))
    refine wpAnyH_take (i := 0) (oi := { dst := some 192,
                                                                          op := Op.move (Operand.tmp 12),
                                                                          type := 3, pos := "law.go:76", after := #[],
                                                                          guard := none }) (v := ?_) rfl (by kernel_rfl) (by kernel_rfl) (by kernel_rfl) (fun _ _ _ h => h) (Or.inl ⟨by rfl, ?_⟩) (by assumption) ?_
    rotate_left
    · (intro w hSw; (try dsimp only at hSw); go_simp; try with_reducible rfl)
    (try simp only [Act.put, List.setIfInBounds_toArray, List.set_cons_zero, List.set_cons_succ])
    refine wpAnyH_take (i := 1) (oi := { dst := some 193,
                                                                          op :=
                                                                            Op.fieldAddr 107 (Operand.tmp 9) 2,
                                                                          type := 0, pos := "law.go:76", after := #[],
                                                                          guard := none }) (v := ?_) rfl (by kernel_rfl) (by kernel_rfl) (by kernel_rfl) (fun _ _ _ h => h) (Or.inl ⟨by rfl, ?_⟩) (by assumption) ?_
    rotate_left
    · (intro w hSw; (try dsimp only at hSw); go_simp; try with_reducible rfl)
    (try simp only [Act.put, List.setIfInBounds_toArray, List.set_cons_zero, List.set_cons_succ])
    refine wpAnyH_take (i := 2) (oi := { dst := some 194,
                                                                          op := Op.load 3 (Operand.tmp 193),
                                                                          type := 3, pos := "law.go:76",
                                                                          after :=
                                                                            #[{ on := 1, ground := Ground.data }],
                                                                          guard := none }) (v := ?_) rfl (by kernel_rfl) (by kernel_rfl) (by kernel_rfl) (fun _ _ _ h => h) (Or.inl ⟨by rfl, ?_⟩) (by assumption) ?_
    rotate_left
    · (intro w hSw; (try dsimp only at hSw); go_simp; try with_reducible rfl)
    (try simp only [Act.put, List.setIfInBounds_toArray, List.set_cons_zero, List.set_cons_succ])
    refine wpAnyH_take (i := 3) (oi := { dst := some 195,
                                                                          op :=
                                                                            Op.fieldAddr 107 (Operand.tmp 9) 3,
                                                                          type := 0, pos := "law.go:76", after := #[],
                                                                          guard := none }) (v := ?_) rfl (by kernel_rfl) (by kernel_rfl) (by kernel_rfl) (fun _ _ _ h => h) (Or.inl ⟨by rfl, ?_⟩) (by assumption) ?_
    rotate_left
    · (intro w hSw; (try dsimp only at hSw); go_simp; try with_reducible rfl)
    (try simp only [Act.put, List.setIfInBounds_toArray, List.set_cons_zero, List.set_cons_succ])
    refine wpAnyH_take (i := 4) (oi := { dst := some 196,
                                                                          op := Op.load 3 (Operand.tmp 195),
                                                                          type := 3, pos := "law.go:76",
                                                                          after :=
                                                                            #[{ on := 3, ground := Ground.data }],
                                                                          guard := none }) (v := ?_) rfl (by kernel_rfl) (by kernel_rfl) (by kernel_rfl) (fun _ _ _ h => h) (Or.inl ⟨by rfl, ?_⟩) (by assumption) ?_
    rotate_left
    · (intro w hSw; (try dsimp only at hSw); go_simp; try with_reducible rfl)
    (try simp only [Act.put, List.setIfInBounds_toArray, List.set_cons_zero, List.set_cons_succ])
    refine wpAnyH_take (i := 5) (oi := { dst := some 197,
                                                                          op :=
                                                                            Op.fieldAddr 107 (Operand.tmp 9) 5,
                                                                          type := 0, pos := "law.go:76", after := #[],
                                                                          guard := none }) (v := ?_) rfl (by kernel_rfl) (by kernel_rfl) (by kernel_rfl) (fun _ _ _ h => h) (Or.inl ⟨by rfl, ?_⟩) (by assumption) ?_
    rotate_left
    · (intro w hSw; (try dsimp only at hSw); go_simp; try with_reducible rfl)
    (try simp only [Act.put, List.setIfInBounds_toArray, List.set_cons_zero, List.set_cons_succ])
    refine wpAnyH_take (i := 6) (oi := { dst := some 198,
                                                                          op :=
                                                                            Op.fieldAddr 57 (Operand.tmp 197) 2,
                                                                          type := 0, pos := "law.go:76",
                                                                          after :=
                                                                            #[{ on := 5, ground := Ground.data }],
                                                                          guard := none }) (v := ?_) rfl (by kernel_rfl) (by kernel_rfl) (by kernel_rfl) (fun _ _ _ h => h) (Or.inl ⟨by rfl, ?_⟩) (by assumption) ?_
    rotate_left
    · (intro w hSw; (try dsimp only at hSw); go_simp; try with_reducible rfl)
    (try simp only [Act.put, List.setIfInBounds_toArray, List.set_cons_zero, List.set_cons_succ])
    refine wpAnyH_take (i := 7) (oi := { dst := some 199,
                                                                          op := Op.load 29 (Operand.tmp 198),
                                                                          type := 29, pos := "law.go:76",
                                                                          after :=
                                                                            #[{ on := 6, ground := Ground.data }],
                                                                          guard := none }) (v := ?_) rfl (by kernel_rfl) (by kernel_rfl) (by kernel_rfl) (fun _ _ _ h => h) (Or.inl ⟨by rfl, ?_⟩) (by assumption) ?_
    rotate_left
    · (intro w hSw; (try dsimp only at hSw); go_simp; try with_reducible rfl)
    (try simp only [Act.put, List.setIfInBounds_toArray, List.set_cons_zero, List.set_cons_succ])
    refine wpAnyH_take (i := 8) (oi := { dst := some 200,
                                                                          op :=
                                                                            Op.build 98
                                                                              #[(0, Operand.tmp 192),
                                                                                (1, Operand.tmp 194),
                                                                                (2, Operand.tmp 196),
                                                                                (3, Operand.tmp 199)],
                                                                          type := 98, pos := "law.go:76",
                                                                          after :=
                                                                            #[{ on := 0, ground := Ground.data },
                                                                              { on := 2, ground := Ground.data },
                                                                              { on := 4, ground := Ground.data },
                                                                              { on := 7, ground := Ground.data }],
                                                                          guard := none }) (v := ?_) rfl (by kernel_rfl) (by kernel_rfl) (by kernel_rfl) (fun _ _ _ h => h) (Or.inl ⟨by rfl, ?_⟩) (by assumption) ?_
    rotate_left
    · (intro w hSw; (try dsimp only at hSw); go_simp; try with_reducible rfl)
    (try simp only [Act.put, List.setIfInBounds_toArray, List.set_cons_zero, List.set_cons_succ])
    refine wpAnyH_take (i := 10) (oi := { dst := some 202,
                                                                          op :=
                                                                            Op.fieldAddr 107 (Operand.tmp 9) 6,
                                                                          type := 0, pos := "law.go:76", after := #[],
                                                                          guard := none }) (v := ?_) rfl (by kernel_rfl) (by kernel_rfl) (by kernel_rfl) (fun _ _ _ h => h) (Or.inl ⟨by rfl, ?_⟩) (by assumption) ?_
    rotate_left
    · (intro w hSw; (try dsimp only at hSw); go_simp; try with_reducible rfl)
    (try simp only [Act.put, List.setIfInBounds_toArray, List.set_cons_zero, List.set_cons_succ])
    refine wpAnyH_take (i := 11) (oi := { dst := some 203,
                                                                          op := Op.load 105 (Operand.tmp 202),
                                                                          type := 105, pos := "law.go:76",
                                                                          after :=
                                                                            #[{ on := 10, ground := Ground.data }],
                                                                          guard := none }) (v := ?_) rfl (by kernel_rfl) (by kernel_rfl) (by kernel_rfl) (fun _ _ _ h => h) (Or.inl ⟨by rfl, ?_⟩) (by assumption) ?_
    rotate_left
    · (intro w hSw; (try dsimp only at hSw); go_simp; try with_reducible rfl)
    (try simp only [Act.put, List.setIfInBounds_toArray, List.set_cons_zero, List.set_cons_succ])
    refine wpAnyH_ready (rs := [9, 14]) (by kernel_rfl) (by simp) ?_
    refine AllReadyH.cons (o := { dst := some 201,
                                                                          op := Op.buildSlice 105 0 #[], type := 105,
                                                                          pos := "law.go:76", after := #[],
                                                                          guard := none }) rfl (fun K hK => ?_) ?_
    · skip
      go_simp
      refine hK.out _ _ ?_ (fun hHeld => ?_)
      · exact HLD.out _ (below_al (below_dr (Below.refl _ _)) _)
      clear hK K
      (try simp only [Act.put, List.setIfInBounds_toArray, List.set_cons_zero, List.set_cons_succ])
      refine wpAnyH_ready (rs := [12, 14]) (by kernel_rfl) (by simp) ?_
      refine AllReadyH.cons (o := { dst := some 204,
                                                                          op :=
                                                                            Op.call
                                                                              {
                                                                                callee :=
                                                                                  Callee.builtin Builtin.append,
                                                                                args :=
                                                                                  #[Operand.tmp 201,
                                                                                    Operand.tmp 203],
                                                                                argTypes := #[105, 105] },
                                                                          type := 105, pos := "law.go:76",
                                                                          after :=
                                                                            #[{ on := 9, ground := Ground.data },
                                                                              { on := 11, ground := Ground.data }],
                                                                          guard := none }) rfl (fun K hK => ?_) ?_
      · skip
        refine step_append_body rfl (.tmp 201) (.tmp 203) rfl (E := w2.heap.size) (base := w2.heap.size) (sv := .slice A L.length cb) (L := L) (by simp [Act.eval, Act.put]) (by simp [Act.eval, Act.put]) (by exact alloc_at rfl) (by omega) (HO2.out.below (below_al (below_dr (Below.refl _ _)) _)) HL.out ?_
        intro X6 c6 W6 hO6 hg6 hat6
        have hB6 := below_gr (below_al (below_dr (Below.refl _ _)) _) hg6 (by omega)
        refine hK.out _ _ ?_ (fun hHeld => ?_)
        · exact HLD.out _ (hB6)
        clear hK K
        (try simp only [Act.put, List.setIfInBounds_toArray, List.set_cons_zero, List.set_cons_succ])
        refine wpAnyH_take (i := 13) (oi := { dst := some 205,
                                                                          op :=
                                                                            Op.build 110
                                                                              #[(0, Operand.tmp 200),
                                                                                (1, Operand.tmp 204)],
                                                                          type := 110, pos := "law.go:76",
                                                                          after :=
                                                                            #[{ on := 8, ground := Ground.data },
                                                                              { on := 12, ground := Ground.data }],
                                                                          guard := none }) (v := ?_) rfl (by kernel_rfl) (by kernel_rfl) (by kernel_rfl) (fun _ _ _ h => h) (Or.inl ⟨by rfl, ?_⟩) (by assumption) ?_
        rotate_left
        · (intro w hSw; (try dsimp only at hSw); go_simp; try with_reducible rfl)
        (try simp only [Act.put, List.setIfInBounds_toArray, List.set_cons_zero, List.set_cons_succ])
        refine wpAnyH_ready (rs := [14]) (by kernel_rfl) (by simp) ?_
        refine AllReadyH.cons (o := { dst := some 14, op := Op.alloc 110,
                                                                          type := 0, pos := "law.go:76", after := #[],
                                                                          guard := none }) rfl (fun K hK => ?_) ?_
        · skip
          go_simp
          refine hK.out _ _ ?_ (fun hHeld => ?_)
          · exact HLD.out _ (below_al (hB6) _)
          clear hK K
          (try simp only [Act.put, List.setIfInBounds_toArray, List.set_cons_zero, List.set_cons_succ])
          refine wpAnyH_ready (rs := [15]) (by kernel_rfl) (by simp) ?_
          refine AllReadyH.cons (o := { dst := none,
                                                                          op :=
                                                                            Op.store 110 (Operand.tmp 14)
                                                                              (Operand.tmp 205),
                                                                          type := 0, pos := "law.go:76",
                                                                          after :=
                                                                            #[{ on := 14, ground := Ground.data },
                                                                              { on := 13, ground := Ground.data },
                                                                              { on := 12, ground := Ground.chain },
                                                                              { on := 0, ground := Ground.phase },
                                                                              { on := 1, ground := Ground.phase },
                                                                              { on := 2, ground := Ground.phase },
                                                                              { on := 3, ground := Ground.phase },
                                                                              { on := 4, ground := Ground.phase },
                                                                              { on := 5, ground := Ground.phase },
                                                                              { on := 6, ground := Ground.phase },
                                                                              { on := 7, ground := Ground.phase },
                                                                              { on := 8, ground := Ground.phase },
                                                                              { on := 9, ground := Ground.phase },
                                                                              { on := 10, ground := Ground.phase },
                                                                              { on := 11, ground := Ground.phase },
                                                                              { on := 12, ground := Ground.phase },
                                                                              { on := 13, ground := Ground.phase },
                                                                              { on := 14, ground := Ground.phase }],
                                                                          guard := none }) rfl (fun K hK => ?_) ?_
          · skip
            go_simp
            refine hK.out _ _ ?_ (fun hHeld => ?_)
            · exact HLD.out _ (below_al (hB6) _)
            clear hK K
            (try simp only [Act.put, List.setIfInBounds_toArray, List.set_cons_zero, List.set_cons_succ])
            refine wpAnyH_done (by kernel_rfl) ?_ _
            refine NoPanic.normal ?_
            go_wp2_with fail
            go_meet
            exact ⟨W6.heap.size, X6, c6, rfl, by rw [alloc_at rfl], (opsV_owned hO6).1.below (below_al (Below.refl _ _) _), (fun c hc => by have h1 := (opsV_owned hO6).2 c hc; refine ⟨h1.1, ?_, ?_⟩ <;> simp <;> omega), hB6.size, below_al hB6 _⟩
          exact AllReadyH.nil
        exact AllReadyH.nil
      refine AllReadyH.cons (o := { dst := some 14, op := Op.alloc 110,
                                                                          type := 0, pos := "law.go:76", after := #[],
                                                                          guard := none }) rfl (fun K hK => ?_) ?_
      · skip
        go_simp
        refine hK.out _ _ ?_ (fun hHeld => ?_)
        · exact HLD.out _ (below_al (below_al (below_dr (Below.refl _ _)) _) _)
        clear hK K
        (try simp only [Act.put, List.setIfInBounds_toArray, List.set_cons_zero, List.set_cons_succ])
        refine wpAnyH_ready (rs := [12]) (by kernel_rfl) (by simp) ?_
        refine AllReadyH.cons (o := { dst := some 204,
                                                                          op :=
                                                                            Op.call
                                                                              {
                                                                                callee :=
                                                                                  Callee.builtin Builtin.append,
                                                                                args :=
                                                                                  #[Operand.tmp 201,
                                                                                    Operand.tmp 203],
                                                                                argTypes := #[105, 105] },
                                                                          type := 105, pos := "law.go:76",
                                                                          after :=
                                                                            #[{ on := 9, ground := Ground.data },
                                                                              { on := 11, ground := Ground.data }],
                                                                          guard := none }) rfl (fun K hK => ?_) ?_
        · skip
          refine step_append_body rfl (.tmp 201) (.tmp 203) rfl (E := w2.heap.size) (base := w2.heap.size) (sv := .slice A L.length cb) (L := L) (by simp [Act.eval, Act.put]) (by simp [Act.eval, Act.put]) (by exact alloc_old (alloc_at rfl)) (by omega) (HO2.out.below (below_al (below_al (below_dr (Below.refl _ _)) _) _)) HL.out ?_
          intro X6 c6 W6 hO6 hg6 hat6
          have hx6 : W6.heap[w2.heap.size + 1]? = some (.cells #[.int .i64 0, .int .i64 0, .int .i64 0, .int .u64 0, .int .u64 0, .int .u64 0, .int .u64 0, .slice none 0 0, .bool false, .int .u64 0, .int .u64 0, .int .u64 0, .int .u64 0, .int .u64 0] 110 (0, 0)) := (hg6.block _ (by simp <;> omega) (by simp)).trans (alloc_at (by simp))
          obtain ⟨x0, x1, x2, x3, x4, x5, x6, x7, x8, x9, x10, x11, x12, x13⟩ := row14 hx6
          have f0 := blockf hx6 0
          have f1 := blockf hx6 1
          have f2 := blockf hx6 2
          have f3 := blockf hx6 3
          have f4 := blockf hx6 4
          have f5 := blockf hx6 5
          have f6 := blockf hx6 6
          have f7 := blockf hx6 7
          have f8 := blockf hx6 8
          have f9 := blockf hx6 9
          have f10 := blockf hx6 10
          have f11 := blockf hx6 11
          have f12 := blockf hx6 12
          have f13 := blockf hx6 13
          have hB6 := below_gr (below_al (below_al (below_dr (Below.refl _ _)) _) _) hg6 (by omega)
          refine hK.out _ _ ?_ (fun hHeld => ?_)
          · exact HLD.out _ (hB6)
          clear hK K
          (try simp only [Act.put, List.setIfInBounds_toArray, List.set_cons_zero, List.set_cons_succ])
          refine wpAnyH_take (i := 13) (oi := { dst := some 205,
                                                                          op :=
                                                                            Op.build 110
                                                                              #[(0, Operand.tmp 200),
                                                                                (1, Operand.tmp 204)],
                                                                          type := 110, pos := "law.go:76",
                                                                          after :=
                                                                            #[{ on := 8, ground := Ground.data },
                                                                              { on := 12, ground := Ground.data }],
                                                                          guard := none }) (v := ?_) rfl (by kernel_rfl) (by kernel_rfl) (by kernel_rfl) (fun _ _ _ h => h) (Or.inl ⟨by rfl, ?_⟩) (by assumption) ?_
          rotate_left
          · (intro w hSw; (try dsimp only at hSw); go_simp; try with_reducible rfl)
          (try simp only [Act.put, List.setIfInBounds_toArray, List.set_cons_zero, List.set_cons_succ])
          refine wpAnyH_ready (rs := [15]) (by kernel_rfl) (by simp) ?_
          refine AllReadyH.cons (o := { dst := none,
                                                                          op :=
                                                                            Op.store 110 (Operand.tmp 14)
                                                                              (Operand.tmp 205),
                                                                          type := 0, pos := "law.go:76",
                                                                          after :=
                                                                            #[{ on := 14, ground := Ground.data },
                                                                              { on := 13, ground := Ground.data },
                                                                              { on := 12, ground := Ground.chain },
                                                                              { on := 0, ground := Ground.phase },
                                                                              { on := 1, ground := Ground.phase },
                                                                              { on := 2, ground := Ground.phase },
                                                                              { on := 3, ground := Ground.phase },
                                                                              { on := 4, ground := Ground.phase },
                                                                              { on := 5, ground := Ground.phase },
                                                                              { on := 6, ground := Ground.phase },
                                                                              { on := 7, ground := Ground.phase },
                                                                              { on := 8, ground := Ground.phase },
                                                                              { on := 9, ground := Ground.phase },
                                                                              { on := 10, ground := Ground.phase },
                                                                              { on := 11, ground := Ground.phase },
                                                                              { on := 12, ground := Ground.phase },
                                                                              { on := 13, ground := Ground.phase },
                                                                              { on := 14, ground := Ground.phase }],
                                                                          guard := none }) rfl (fun K hK => ?_) ?_
          · skip
            go_simp
            refine hK.out _ _ ?_ (fun hHeld => ?_)
            · exact HLD.out _ (below14 hB6 (by omega))
            clear hK K
            (try simp only [Act.put, List.setIfInBounds_toArray, List.set_cons_zero, List.set_cons_succ])
            refine wpAnyH_done (by kernel_rfl) ?_ _
            refine NoPanic.normal ?_
            go_wp2_with fail
            go_meet
            exact ⟨w2.heap.size + 1, X6, c6, rfl, row14_set hx6, (opsV_owned hO6).1.fr fr14 (fun c hc e => by rcases hat6 with h1 | h1 <;> (rw [hc] at h1; injection h1 with h1; first | omega | (simp at h1; omega))), (fun c hc => by have h1 := (opsV_owned hO6).2 c hc; refine ⟨h1.1, by simpa using h1.2, fun e => ?_⟩; rcases hat6 with h2 | h2 <;> (rw [hc] at h2; injection h2 with h2; first | omega | (simp at h2; omega))), by omega, below14 hB6 (by omega)⟩
          exact AllReadyH.nil
        exact AllReadyH.nil
      exact AllReadyH.nil
    refine AllReadyH.cons (o := { dst := some 14, op := Op.alloc 110,
                                                                          type := 0, pos := "law.go:76", after := #[],
                                                                          guard := none }) rfl (fun K hK => ?_) ?_
    · skip
      go_simp
      refine hK.out _ _ ?_ (fun hHeld => ?_)
      · exact HLD.out _ (below_al (below_dr (Below.refl _ _)) _)
      clear hK K
      (try simp only [Act.put, List.setIfInBounds_toArray, List.set_cons_zero, List.set_cons_succ])
      refine wpAnyH_ready (rs := [9]) (by kernel_rfl) (by simp) ?_
      refine AllReadyH.cons (o := { dst := some 201,
                                                                          op := Op.buildSlice 105 0 #[], type := 105,
                                                                          pos := "law.go:76", after := #[],
                                                                          guard := none }) rfl (fun K hK => ?_) ?_
      · skip
        go_simp
        refine hK.out _ _ ?_ (fun hHeld => ?_)
        · exact HLD.out _ (below_al (below_al (below_dr (Below.refl _ _)) _) _)
        clear hK K
        (try simp only [Act.put, List.setIfInBounds_toArray, List.set_cons_zero, List.set_cons_succ])
        refine wpAnyH_ready (rs := [12]) (by kernel_rfl) (by simp) ?_
        refine AllReadyH.cons (o := { dst := some 204,
                                                                          op :=
                                                                            Op.call
                                                                              {
                                                                                callee :=
                                                                                  Callee.builtin Builtin.append,
                                                                                args :=
                                                                                  #[Operand.tmp 201,
                                                                                    Operand.tmp 203],
                                                                                argTypes := #[105, 105] },
                                                                          type := 105, pos := "law.go:76",
                                                                          after :=
                                                                            #[{ on := 9, ground := Ground.data },
                                                                              { on := 11, ground := Ground.data }],
                                                                          guard := none }) rfl (fun K hK => ?_) ?_
        · skip
          refine step_append_body rfl (.tmp 201) (.tmp 203) rfl (E := w2.heap.size + 1) (base := w2.heap.size) (sv := .slice A L.length cb) (L := L) (by simp [Act.eval, Act.put]) (by simp [Act.eval, Act.put]) (by exact alloc_at (by simp)) (by omega) (HO2.out.below (below_al (below_al (below_dr (Below.refl _ _)) _) _)) HL.out ?_
          intro X6 c6 W6 hO6 hg6 hat6
          have hx6 : W6.heap[w2.heap.size]? = some (.cells #[.int .i64 0, .int .i64 0, .int .i64 0, .int .u64 0, .int .u64 0, .int .u64 0, .int .u64 0, .slice none 0 0, .bool false, .int .u64 0, .int .u64 0, .int .u64 0, .int .u64 0, .int .u64 0] 110 (0, 0)) := (hg6.block _ (by simp <;> omega) (by simp)).trans (alloc_old (alloc_at rfl))
          obtain ⟨x0, x1, x2, x3, x4, x5, x6, x7, x8, x9, x10, x11, x12, x13⟩ := row14 hx6
          have f0 := blockf hx6 0
          have f1 := blockf hx6 1
          have f2 := blockf hx6 2
          have f3 := blockf hx6 3
          have f4 := blockf hx6 4
          have f5 := blockf hx6 5
          have f6 := blockf hx6 6
          have f7 := blockf hx6 7
          have f8 := blockf hx6 8
          have f9 := blockf hx6 9
          have f10 := blockf hx6 10
          have f11 := blockf hx6 11
          have f12 := blockf hx6 12
          have f13 := blockf hx6 13
          have hB6 := below_gr (below_al (below_al (below_dr (Below.refl _ _)) _) _) hg6 (by omega)
          refine hK.out _ _ ?_ (fun hHeld => ?_)
          · exact HLD.out _ (hB6)
          clear hK K
          (try simp only [Act.put, List.setIfInBounds_toArray, List.set_cons_zero, List.set_cons_succ])
          refine wpAnyH_take (i := 13) (oi := { dst := some 205,
                                                                          op :=
                                                                            Op.build 110
                                                                              #[(0, Operand.tmp 200),
                                                                                (1, Operand.tmp 204)],
                                                                          type := 110, pos := "law.go:76",
                                                                          after :=
                                                                            #[{ on := 8, ground := Ground.data },
                                                                              { on := 12, ground := Ground.data }],
                                                                          guard := none }) (v := ?_) rfl (by kernel_rfl) (by kernel_rfl) (by kernel_rfl) (fun _ _ _ h => h) (Or.inl ⟨by rfl, ?_⟩) (by assumption) ?_
          rotate_left
          · (intro w hSw; (try dsimp only at hSw); go_simp; try with_reducible rfl)
          (try simp only [Act.put, List.setIfInBounds_toArray, List.set_cons_zero, List.set_cons_succ])
          refine wpAnyH_ready (rs := [15]) (by kernel_rfl) (by simp) ?_
          refine AllReadyH.cons (o := { dst := none,
                                                                          op :=
                                                                            Op.store 110 (Operand.tmp 14)
                                                                              (Operand.tmp 205),
                                                                          type := 0, pos := "law.go:76",
                                                                          after :=
                                                                            #[{ on := 14, ground := Ground.data },
                                                                              { on := 13, ground := Ground.data },
                                                                              { on := 12, ground := Ground.chain },
                                                                              { on := 0, ground := Ground.phase },
                                                                              { on := 1, ground := Ground.phase },
                                                                              { on := 2, ground := Ground.phase },
                                                                              { on := 3, ground := Ground.phase },
                                                                              { on := 4, ground := Ground.phase },
                                                                              { on := 5, ground := Ground.phase },
                                                                              { on := 6, ground := Ground.phase },
                                                                              { on := 7, ground := Ground.phase },
                                                                              { on := 8, ground := Ground.phase },
                                                                              { on := 9, ground := Ground.phase },
                                                                              { on := 10, ground := Ground.phase },
                                                                              { on := 11, ground := Ground.phase },
                                                                              { on := 12, ground := Ground.phase },
                                                                              { on := 13, ground := Ground.phase },
                                                                              { on := 14, ground := Ground.phase }],
                                                                          guard := none }) rfl (fun K hK => ?_) ?_
          · skip
            go_simp
            refine hK.out _ _ ?_ (fun hHeld => ?_)
            · exact HLD.out _ (below14 hB6 (by omega))
            clear hK K
            (try simp only [Act.put, List.setIfInBounds_toArray, List.set_cons_zero, List.set_cons_succ])
            refine wpAnyH_done (by kernel_rfl) ?_ _
            refine NoPanic.normal ?_
            go_wp2_with fail
            go_meet
            exact ⟨w2.heap.size, X6, c6, rfl, row14_set hx6, (opsV_owned hO6).1.fr fr14 (fun c hc e => by rcases hat6 with h1 | h1 <;> (rw [hc] at h1; injection h1 with h1; first | omega | (simp at h1; omega))), (fun c hc => by have h1 := (opsV_owned hO6).2 c hc; refine ⟨h1.1, by simpa using h1.2, fun e => ?_⟩; rcases hat6 with h2 | h2 <;> (rw [hc] at h2; injection h2 with h2; first | omega | (simp at h2; omega))), by omega, below14 hB6 (by omega)⟩
          exact AllReadyH.nil
        exact AllReadyH.nil
      exact AllReadyH.nil
    exact AllReadyH.nil
  case rest =>
  obtain ⟨xb, X6, c6, rfl, hx, hO, hl, hxb, hB⟩ := hcut
  have hrow : lawRow n ST (newT PR d f p r m L) (.slice X6 L.length c6) = [.int .i64 ((n : Int) + 1), .int .i64 PR, .int .i64 ST, .int .u64 d, .int .u64 0, .int .u64 r, .int .u64 m, .slice X6 L.length c6, .bool true, .int .u64 f, .int .u64 p, .int .u64 d, .int .u64 r, .int .u64 m] := by
    have h9 : p ≠ 0 := by have := HP.out; omega
    simp [lawRow, newT, Tk.RU, Tk.MI, h9]
  have HROW := Lib.hid hrow
  have hdc := (hB.block dd (Array.getElem?_eq_some_iff.1 HDD.out).1).trans HDD.out
  clear d0 d1 d2 d3 d4 d5 d6 d7 d8 d9 d10 hrow
  obtain ⟨d0, d1, d2, d3, d4, d5, d6, d7, d8, d9, d10⟩ := opc hdc
  have hnx : dd ≠ xb := by have := (Array.getElem?_eq_some_iff.1 HDD.out).1; omega
  have hnx2 : xb ≠ dd := fun e => hnx e.symm
  have HXL := Lib.hid hl
  have HXB := Lib.hid hxb
  clear hl hxb hdc
  obtain ⟨x0, x1, x2, x3, x4, x5, x6, x7, x8, x9, x10, x11, x12, x13⟩ := row14 hx
  have y8 := blockf hx 8
  have y9 := blockf hx 9
  have y10 := blockf hx 10
  have y11 := blockf hx 11
  have y12 := blockf hx 12
  have y13 := blockf hx 13
  have HX := Lib.hid hx
  have HO := Lib.hid hO
  have HB := Lib.hid hB
  clear hx hO hB
  go_upto_region 35 with fail
  obtain ⟨W7, hW7⟩ : ∃ W7, (((((wc.setCell ⟨xb, 8, none⟩ (.bool true)).setCell ⟨xb, 9, none⟩ (.int .u64 f)).setCell ⟨xb, 10, none⟩ (.int .u64 p)).setCell ⟨xb, 11, none⟩ (.int .u64 d)).setCell ⟨xb, 12, none⟩ (.int .u64 r)).setCell ⟨xb, 13, none⟩ (.int .u64 m) = W7 := ⟨_, rfl⟩
  have hx7 : W7.heap[xb]? = some (.cells #[.int .i64 ((n : Int) + 1), .int .i64 PR, .int .i64 ST, .int .u64 d, .int .u64 0, .int .u64 0, .int .u64 0, .slice X6 L.length c6, .bool true, .int .u64 f, .int .u64 p, .int .u64 d, .int .u64 r, .int .u64 m] 110 (0, 0)) := by
    rw [← hW7, heap_set (heap_set (heap_set (heap_set (heap_set (heap_set HX.out _) _) _) _) _) _]
    simp
  have F7 : Fr (fun k => k = xb) wc W7 := by
    rw [← hW7]
    exact Fr.set (S := fun k => k = xb) (Fr.set (S := fun k => k = xb) (Fr.set (S := fun k => k = xb) (Fr.set (S := fun k => k = xb) (Fr.set (S := fun k => k = xb) (Fr.set (S := fun k => k = xb) (Fr.refl _ _) (p := ⟨xb, 8, none⟩) rfl _) (p := ⟨xb, 9, none⟩) rfl _) (p := ⟨xb, 10, none⟩) rfl _) (p := ⟨xb, 11, none⟩) rfl _) (p := ⟨xb, 12, none⟩) rfl _) (p := ⟨xb, 13, none⟩) rfl _
  rw [hW7]
  have hdc := (F7.block dd (World.block_lt_of_cell? wc _ d0) hnx).trans ((HB.out.block dd (Array.getElem?_eq_some_iff.1 HDD.out).1).trans HDD.out)
  clear hW7 d0 d1 d2 d3 d4 d5 d6 d7 d8 d9 d10 x0 x1 x2 x3 x4 x5 x6 x7 x8 x9 x10 x11 x12 x13 y8 y9 y10 y11 y12 y13
  obtain ⟨d0, d1, d2, d3, d4, d5, d6, d7, d8, d9, d10⟩ := opc hdc
  obtain ⟨x0, x1, x2, x3, x4, x5, x6, x7, x8, x9, x10, x11, x12, x13⟩ := row14 hx7
  have y5 := blockf hx7 5
  have y6 := blockf hx7 6
  have HX7 := Lib.hid hx7
  have HF7 := Lib.hid F7
  clear hx7 F7 hdc
  go_cut [] from 214 to 223 (fun wx => wx.heap[xb]? = some (.cells #[.int .i64 ((n : Int) + 1), .int .i64 PR, .int .i64 ST, .int .u64 d, .int .u64 0, .int .u64 r, .int .u64 m, .slice X6 L.length c6, .bool true, .int .u64 f, .int .u64 p, .int .u64 d, .int .u64 r, .int .u64 m] 110 (0, 0)) ∧ Fr (fun k => k = xb) wc wx)
  case first =>
    go_region
    all_goals
      go_wp2_with fail
      go_meet
      first
        | exact ⟨by show (World.setCell (World.setCell W7 _ _) _ _).heap[xb]? = _; rw [heap_set (heap_set HX7.out _) _]; simp, (Fr.set (S := fun k => k = xb) (Fr.set (S := fun k => k = xb) HF7.out (p := ⟨xb, 5, none⟩) rfl _) (p := ⟨xb, 6, none⟩) rfl _).dr⟩
        | exact ⟨by show (World.setCell (World.setCell W7 _ _) _ _).heap[xb]? = _; rw [heap_set (heap_set HX7.out _) _]; simp, (Fr.set (S := fun k => k = xb) (Fr.set (S := fun k => k = xb) HF7.out (p := ⟨xb, 6, none⟩) rfl _) (p := ⟨xb, 5, none⟩) rfl _).dr⟩
  case rest =>
  obtain ⟨hx, hF8⟩ := hcut
  have HO := Lib.hid (HO.out.fr hF8 (fun c hc e => (HXL.out c hc).2.2 e))
  have HXL := Lib.hid (fun c hc => by have i1 := HXL.out c hc; have i2 := hF8.size; exact (⟨i1.1, by omega, i1.2.2⟩ : w2.heap.size ≤ c ∧ c < wc.heap.size ∧ c ≠ xb))
  have HB := Lib.hid (hF8.below HB.out (fun c e => by have i1 := HXB.out; have : c = xb := e; omega))
  have hdc := (HB.out.block dd (Array.getElem?_eq_some_iff.1 HDD.out).1).trans HDD.out
  clear d0 d1 d2 d3 d4 d5 d6 d7 d8 d9 d10 x0 x1 x2 x3 x4 x5 x6 x7 x8 x9 x10 x11 x12 x13 y5 y6
  obtain ⟨d0, d1, d2, d3, d4, d5, d6, d7, d8, d9, d10⟩ := opc hdc
  obtain ⟨x0, x1, x2, x3, x4, x5, x6, x7, x8, x9, x10, x11, x12, x13⟩ := row14 hx
  clear hx hF8 hdc
  obtain ⟨W8, hW8⟩ : ∃ W8, wc.alloc (.cells #[.int .i64 ((n : Int) + 1), .int .i64 PR, .int .i64 ST, .int .u64 d, .int .u64 0, .int .u64 r, .int .u64 m, .slice X6 L.length c6, .bool true, .int .u64 f, .int .u64 p, .int .u64 d, .int .u64 r, .int .u64 m] 110) = W8 := ⟨_, rfl⟩
  have hB8 : Below w2.heap.size w2 W8 := by rw [← hW8]; exact below_al HB.out _
  have hbl8 : W8.heap[wc.heap.size]? = some (.cells #[.int .i64 ((n : Int) + 1), .int .i64 PR, .int .i64 ST, .int .u64 d, .int .u64 0, .int .u64 r, .int .u64 m, .slice X6 L.length c6, .bool true, .int .u64 f, .int .u64 p, .int .u64 d, .int .u64 r, .int .u64 m] 110 (0, 0)) := by rw [← hW8]; exact alloc_at rfl
  have hO8 : OpsV W8 (.slice X6 L.length c6) L := by rw [← hW8]; exact HO.out.below (below_al (Below.refl _ _) _)
  have hnews : ∀ j u, (lawRow n ST (newT PR d f p r m L) (.slice X6 L.length c6))[j]? = some u → W8.cell? ((⟨wc.heap.size, 0, none⟩ : Addr).add j) = some u := by
    rw [HROW.out]
    exact World.news_of_block hbl8
  have hown8 := (HWI.out.below hB8).lw
  have hs8 : W8.heap.size = wc.heap.size + 1 := by rw [← hW8]; simp
  obtain ⟨i0, hi0, hz0, hz1, hz2⟩ := info_parts lawInfo
  have HNEWS := Lib.hid hnews
  have HOWN := Lib.hid hown8
  have HO8 := Lib.hid hO8
  have HB8 := Lib.hid hB8
  have HS8 := Lib.hid hs8
  have HBS := Lib.hid (show base ≤ W8.heap.size from by have i1 := hB8.size; have i2 := HSZ.out; have i3 := HZ.out; have i4 := H.out.hdb; omega)
  clear hnews hown8 hO8 hB8 hs8 hbl8
  go_upto_region 36 with fail
  go_wp2_with (at_builtin; (try rw [hW8]); refine wpList_append_lies _ rfl (.tmp 224) (.tmp 226) 104 rfl base 110 i0 lawZ 14 128 Try.underlying104 hi0 hz0 hz1 hz2 rfl (by decide) (.slice LA n lcap) n XS rfl HOWN.out ⟨wc.heap.size, 0, none⟩ 1 1 (lawRow n ST (newT PR d f p r m L) (.slice X6 L.length c6)) rfl rfl HNEWS.out (lawRow_one _ _ _ _ rfl) (by decide) (by unfold maxLen; omega) (by omega) HBS.out _ rfl ?_; intro lq' cap' w9 hown9 hg9 hat9 hlt9)
  exact HQ.out _ _ _ _ _ _ _ _ _ _ _ _ _ _ _ _ _ _ _ _ _ _ _ _ _ _ _ _ _ _ _ _ _ _ _ _ _ _ _ _ _ _ _ _ _ _ _ _ _ _ _ _ _ _ _ _ _ _ _ _ _ _ _ _ _ _ _ _ _ _ _ _ _ _ _ _ _ _ _ _ _ _ _ _ _ _ _ _ _ _ _ _ _ _ _ _ _ _ _ _ _ _ _ _ _ _ _ _ _ _ _ _ _ _ _ _ _ _ _ _ _ _ _ _ _ _ _ _ _ _ _ _ _ _ _ _ _ _ _ _ _ _ _ _ _ _ _ _ _ _ _ _ _ _ _ _ _ _ _ _ _ _ _ _ _ _ _ _ _ _ _ _ _ _ _ _ _ _ _ _ _ _ _ _ _ _ _ _ _ _ _ _ _ _ _ _ _ _ _ _ _ _ _ _ _ _ _ _ _ _ _ _ _ _ _ _ _ _ _ _ _ _ _ _ _ _ _ _ _ _ _ _ _ _ _ _ _ _ _ _ _ _ _ _ _ _ _ _ _ _ _ _ _ _ _ _ _ _ _ _ _ _ _ _ _ _ _ _ _ _ _ _ _ _ _ _ (H.out.made2 HLT.out HS.out.1 HS.out.2 (by omega) (HTI.out.below HB8.out) (HWI.out.below HB8.out) ((HB8.out.block dd (Array.getElem?_eq_some_iff.1 HDD.out).1).trans HDD.out) (below_step HB8.out HBW.out) HQ1.out (fun c hc => ⟨(HF1.out c hc).1, (HF1.out c hc).2.2⟩) HO8.out (fun c hc => by have i1 := HXL.out c hc; have i2 := HS8.out; have i3 := HSZ.out; have i4 := (HTI.out.tb.rows.lt q rfl).2; exact ⟨by omega, by omega, by omega⟩) (by have i1 := HSZ.out; have i2 := HB8.out.size; omega) hown9 hg9 (hat9.imp id (fun e => by omega))).1 (H.out.made2 HLT.out HS.out.1 HS.out.2 (by omega) (HTI.out.below HB8.out) (HWI.out.below HB8.out) ((HB8.out.block dd (Array.getElem?_eq_some_iff.1 HDD.out).1).trans HDD.out) (below_step HB8.out HBW.out) HQ1.out (fun c hc => ⟨(HF1.out c hc).1, (HF1.out c hc).2.2⟩) HO8.out (fun c hc => by have i1 := HXL.out c hc; have i2 := HS8.out; have i3 := HSZ.out; have i4 := (HTI.out.tb.rows.lt q rfl).2; exact ⟨by omega, by omega, by omega⟩) (by have i1 := HSZ.out; have i2 := HB8.out.size; omega) hown9 hg9 (hat9.imp id (fun e => by omega))).2
end
end Go.Proofs.Ytpcbcnheogjofaa
