/- TablePlays: cases of the switch. Printed by gen/gensw.py. -/
import Derived.Test.YtpcbcnheogjofaaTable18
namespace Go.Proofs.Ytpcbcnheogjofaa
open Go.RowKit Go.Maps Go.Shelf Go.Proofs.YtpcbcnheogjofaaW.PrintWords
set_option linter.unusedVariables false
set_option linter.unusedSimpArgs false
section
variable {w W5 : World} {M k n dd t a b g mb base lcap rcap PB PO cb : Nat} {LA RA A : Option Addr} {IN : Bool} {KD ID PR ST NN f p d r m : Int} {L : List Op3} {ws : List Int} {R XS : List Value} {TT : Nat → Tk} {bv lv : Nat → Value}
variable {u1 u2 u3 u4 u6 u12 u13 u14 u15 u16 u17 u18 u19 u20 u21 u22 u23 u24 u25 u26 u27 u28 u29 u30 u31 u32 u33 u34 u35 u36 u37 u38 u39 u40 u41 u42 u43 u44 u45 u46 u47 u48 u49 u50 u51 u52 u53 u54 u55 u56 u57 u58 u59 u60 u61 u62 u63 u64 u65 u66 u67 u68 u69 u70 u71 u72 u73 u74 u75 u76 u77 u78 u79 u80 u81 u82 u83 u84 u86 u87 u88 u89 u90 u91 u92 u93 u94 u95 u96 u97 u98 u99 u100 u101 u102 u103 u104 u105 u106 u107 u108 u109 u110 u111 u112 u113 u114 u115 u116 u117 u118 u119 u120 u121 u122 u123 u124 u125 u126 u127 u128 u129 u130 u131 u132 u133 u134 u135 u136 u137 u138 u139 u140 u141 u142 u143 u144 u145 u146 u147 u148 u149 u150 u151 u152 u153 u154 u155 u156 u157 u158 u159 u160 u161 u162 u163 u164 u165 u166 u167 u168 u169 u170 u171 u172 u173 u174 u175 u176 u177 u178 u179 u180 u181 u182 u183 u184 u185 u186 u187 u188 u189 u190 u191 u192 u193 u194 u195 u196 u197 u198 u199 u200 u201 u202 u203 u204 u205 u206 u207 u208 u209 u210 u211 u212 u213 u214 u215 u216 u217 u218 u219 u220 u221 u222 u223 u224 u225 u226 u227 u228 u229 u230 u231 u232 u233 u234 u235 u236 u237 u238 u239 u240 u241 u242 u243 u244 u245 u246 u247 u248 u249 u250 u251 u252 u253 u254 u255 u256 u257 u258 u259 u260 u261 u262 u263 u264 u265 u266 u267 u268 u269 u270 u271 u272 u273 u274 u275 u276 u277 u278 u279 u280 u281 u282 u283 u284 u285 u286 u287 u288 u289 u290 u291 u292 u293 u294 u295 u296 u297 u298 u299 u300 u301 u302 u303 u304 u305 u306 u307 u308 u309 u310 u311 u312 u313 u314 u315 u316 u317 u318 u319 u320 u321 u322 u323 u324 u325 u326 u327 u328 u329 u330 u331 u332 u333 u334 u335 u336 u337 u338 u339 u340 u341 u342 u343 u344 u345 u346 u347 u348 u349 u350 u351 : Value}
variable {Q : Exit → Act → World → Prop}
set_option maxRecDepth 1000000 in
set_option maxHeartbeats 20000000 in
theorem sw_again_go (h : SwI w W5 M k n dd t a b g mb base lcap rcap PB PO cb LA RA A IN KD ID PR ST NN f p d r m L ws R XS TT bv lv) (hkd : KD ≠ 0 ∧ KD ≠ 1 ∧ KD ≠ 2 ∧ KD ≠ 4) (hin : IN = true) (hp : ∀ kk : Nat, ID = (kk : Int) + 1 → (TT kk).p ≠ 0) 
    (hQ : ∀ (Lv' x12 x13 x14 x15 x16 x17 x18 x19 x20 x86 x87 x88 x89 x90 x91 x92 x93 x94 x95 x96 x97 x98 x99 x100 x101 x102 x103 x104 x105 x106 x107 x108 x109 x110 x111 x112 x113 x114 x115 x116 x117 x118 x119 x120 x121 x122 x123 x124 x125 x126 x127 x128 x129 x130 x131 x132 x133 x134 x135 x136 x137 x138 x139 x140 x141 x142 x143 x144 x145 x146 x147 x148 x149 x150 x151 x152 x153 x154 x155 x156 x157 x158 x159 x160 x161 x162 x163 x164 x165 x166 x167 x168 x169 x170 x171 x172 x173 x174 x175 x176 x177 x178 x179 x180 x181 x182 x183 x184 x185 x186 x187 x188 x189 x190 x191 x192 x193 x194 x195 x196 x197 x198 x199 x200 x201 x202 x203 x204 x205 x206 x207 x208 x209 x210 x211 x212 x213 x214 x215 x216 x217 x218 x219 x220 x221 x222 x223 x224 x225 x226 x227 x228 x229 x230 x231 x232 x233 x234 x235 x236 x237 x238 x239 x240 x241 x242 x243 x244 x245 x246 x247 x248 x249 x250 x251 x252 x253 x254 x255 x256 x257 x258 x259 x260 x261 x262 x263 x264 x265 x266 x267 x268 x269 x270 x271 x272 x273 x274 x275 x276 x277 x278 x279 x280 x281 x282 x283 x284 x285 x286 x287 x288 x289 x290 x291 x292 x293 x294 x295 x296 x297 x298 x299 x300 x301 x302 x303 x304 x305 x306 x307 x308 x309 x310 x311 x312 x313 x314 x315 x316 x317 x318 x319 x320 x321 x322 x323 x324 x325 x326 x327 x328 x329 x330 x331 x332 x333 x334 x335 x336 x337 x338 x339 x340 x341 x342 x343 x344 x345 x346 x347 x348 x349 x350 : Value) (w' : World), PI w w' t a b g mb M base (2000 * k + 1500) (k + 1) Lv' → w'.heap[dd]? = some (.cells #[.int .i64 KD, .int .i64 ID, .int .i64 PR, .int .i64 ST, .int .u64 NN, .int .u64 f, .int .u64 p, .int .u64 d, .int .u64 r, .int .u64 m, .slice A L.length cb] 107 (0, 0)) → Q .normal ⟨#[.int .i64 (M : Int), u1, u2, u3, u4, .pointer (some ⟨t, 0, none⟩), u6, Lv', .int .i64 (k : Int), .pointer (some ⟨dd, 0, none⟩), .bool IN, .pointer (some ⟨PB, PO, none⟩), x12, x13, x14, x15, x16, x17, x18, x19, x20, u21, u22, u23, u24, u25, u26, u27, u28, u29, u30, u31, u32, u33, u34, u35, u36, u37, u38, u39, u40, u41, u42, u43, u44, u45, u46, u47, u48, u49, u50, u51, u52, u53, u54, u55, u56, u57, u58, u59, u60, u61, u62, u63, u64, u65, u66, u67, u68, u69, u70, u71, u72, u73, u74, u75, u76, u77, u78, u79, u80, u81, u82, u83, u84, .int .i64 KD, x86, x87, x88, x89, x90, x91, x92, x93, x94, x95, x96, x97, x98, x99, x100, x101, x102, x103, x104, x105, x106, x107, x108, x109, x110, x111, x112, x113, x114, x115, x116, x117, x118, x119, x120, x121, x122, x123, x124, x125, x126, x127, x128, x129, x130, x131, x132, x133, x134, x135, x136, x137, x138, x139, x140, x141, x142, x143, x144, x145, x146, x147, x148, x149, x150, x151, x152, x153, x154, x155, x156, x157, x158, x159, x160, x161, x162, x163, x164, x165, x166, x167, x168, x169, x170, x171, x172, x173, x174, x175, x176, x177, x178, x179, x180, x181, x182, x183, x184, x185, x186, x187, x188, x189, x190, x191, x192, x193, x194, x195, x196, x197, x198, x199, x200, x201, x202, x203, x204, x205, x206, x207, x208, x209, x210, x211, x212, x213, x214, x215, x216, x217, x218, x219, x220, x221, x222, x223, x224, x225, x226, x227, x228, x229, x230, x231, x232, x233, x234, x235, x236, x237, x238, x239, x240, x241, x242, x243, x244, x245, x246, x247, x248, x249, x250, x251, x252, x253, x254, x255, x256, x257, x258, x259, x260, x261, x262, x263, x264, x265, x266, x267, x268, x269, x270, x271, x272, x273, x274, x275, x276, x277, x278, x279, x280, x281, x282, x283, x284, x285, x286, x287, x288, x289, x290, x291, x292, x293, x294, x295, x296, x297, x298, x299, x300, x301, x302, x303, x304, x305, x306, x307, x308, x309, x310, x311, x312, x313, x314, x315, x316, x317, x318, x319, x320, x321, x322, x323, x324, x325, x326, x327, x328, x329, x330, x331, x332, x333, x334, x335, x336, x337, x338, x339, x340, x341, x342, x343, x344, x345, x346, x347, x348, x349, x350, u351], []⟩ w') :
    Code.wp Try.prog swC Q ⟨#[.int .i64 (M : Int), u1, u2, u3, u4, .pointer (some ⟨t, 0, none⟩), u6, .slice LA n lcap, .int .i64 (k : Int), .pointer (some ⟨dd, 0, none⟩), .bool IN, .pointer (some ⟨PB, PO, none⟩), u12, u13, u14, u15, u16, u17, u18, u19, u20, u21, u22, u23, u24, u25, u26, u27, u28, u29, u30, u31, u32, u33, u34, u35, u36, u37, u38, u39, u40, u41, u42, u43, u44, u45, u46, u47, u48, u49, u50, u51, u52, u53, u54, u55, u56, u57, u58, u59, u60, u61, u62, u63, u64, u65, u66, u67, u68, u69, u70, u71, u72, u73, u74, u75, u76, u77, u78, u79, u80, u81, u82, u83, u84, .int .i64 KD, u86, u87, u88, u89, u90, u91, u92, u93, u94, u95, u96, u97, u98, u99, u100, u101, u102, u103, u104, u105, u106, u107, u108, u109, u110, u111, u112, u113, u114, u115, u116, u117, u118, u119, u120, u121, u122, u123, u124, u125, u126, u127, u128, u129, u130, u131, u132, u133, u134, u135, u136, u137, u138, u139, u140, u141, u142, u143, u144, u145, u146, u147, u148, u149, u150, u151, u152, u153, u154, u155, u156, u157, u158, u159, u160, u161, u162, u163, u164, u165, u166, u167, u168, u169, u170, u171, u172, u173, u174, u175, u176, u177, u178, u179, u180, u181, u182, u183, u184, u185, u186, u187, u188, u189, u190, u191, u192, u193, u194, u195, u196, u197, u198, u199, u200, u201, u202, u203, u204, u205, u206, u207, u208, u209, u210, u211, u212, u213, u214, u215, u216, u217, u218, u219, u220, u221, u222, u223, u224, u225, u226, u227, u228, u229, u230, u231, u232, u233, u234, u235, u236, u237, u238, u239, u240, u241, u242, u243, u244, u245, u246, u247, u248, u249, u250, u251, u252, u253, u254, u255, u256, u257, u258, u259, u260, u261, u262, u263, u264, u265, u266, u267, u268, u269, u270, u271, u272, u273, u274, u275, u276, u277, u278, u279, u280, u281, u282, u283, u284, u285, u286, u287, u288, u289, u290, u291, u292, u293, u294, u295, u296, u297, u298, u299, u300, u301, u302, u303, u304, u305, u306, u307, u308, u309, u310, u311, u312, u313, u314, u315, u316, u317, u318, u319, u320, u321, u322, u323, u324, u325, u326, u327, u328, u329, u330, u331, u332, u333, u334, u335, u336, u337, u338, u339, u340, u341, u342, u343, u344, u345, u346, u347, u348, u349, u350, u351], []⟩ W5 := by
  obtain ⟨k0, k1, k2, k4⟩ := hkd
  have gk0 : (KD == 0) = false := by simpa using k0
  have gk1 : (KD == 1) = false := by simpa using k1
  have gk2 : (KD == 2) = false := by simpa using k2
  have gk4 : (KD == 4) = false := by simpa using k4
  clear k0 k1 k2 k4
  obtain ⟨d0, d1, d2, d3, d4, d5, d6, d7, d8, d9, d10⟩ := opc h.d6
  have H := Lib.hid h
  have HQ := Lib.hid hQ
  have k40 := h.hk
  have n40 : n ≤ 40 := by have := h.hnk; omega
  obtain ⟨kk, hkk, rfl, ⟨lq, hLA, hPB⟩, rfl⟩ : ∃ kk : Nat, kk < n ∧ ID = (kk : Int) + 1 ∧ (∃ lq, LA = some ⟨lq, 0, none⟩ ∧ PB = lq) ∧ PO = kk * 14 := by
    rcases h.hq with ⟨_, h1⟩ | ⟨e, _⟩
    · exact h1
    · rw [hin] at e; cases e
  subst hin
  have hPB2 := hPB.symm
  clear hPB
  subst hPB2
  subst hLA
  obtain ⟨q, lq', rfl, e2, hne, hqd, hld, bq, bl⟩ := h.form (by omega)
  simp only [Option.some.injEq, Addr.mk.injEq, and_true] at e2
  subst e2
  obtain ⟨T, hT⟩ : ∃ T, TT kk = T := ⟨_, rfl⟩
  have hp := hp kk rfl
  have hok := h.ti.ok kk hkk
  obtain ⟨b1, bf, bp, bd, br, bm, bn, bi⟩ := h.bd
  obtain ⟨D, R', M', gg, hbd, hPP, hRR⟩ := after_both (TT kk).f (TT kk).p (TT kk).d (TT kk).r (TT kk).m NN hok.2.1.1 hok.2.1.2 hok.2.2.1.1 hok.2.2.1.2 hok.2.2.2.1.1 hok.2.2.2.1.2 hok.2.2.2.2.1.1 hok.2.2.2.2.1.2 hok.2.2.2.2.2.1.1 hok.2.2.2.2.2.1.2 bn.1 bn.2
  have hJ := (h.ti.rr.rowP kk hkk).2.2
  have HK := Lib.hid (TAgain_in h.ti.tb ((kk : Int) + 1) NN kk rfl hkk (by omega) (TT kk).f (TT kk).p (TT kk).d (TT kk).r (TT kk).m D R' M' gg (by simpa using hp) hJ hPP)
  have HRR := Lib.hid hRR
  have HKO := Lib.hid (show TkOk (agT (TT kk) D R' M') from ⟨hok.1, hok.2.1, hok.2.2.1, ⟨hbd.1, hbd.2.1⟩, ⟨hbd.2.2.1, hbd.2.2.2.1⟩, ⟨hbd.2.2.2.2.1, hbd.2.2.2.2.2⟩, hok.2.2.2.2.2.2⟩)
  have HKK := Lib.hid hkk
  have HP := Lib.hid hp
  have HN5 := Lib.hid (show lq ≠ dd ∧ dd ≠ lq from ⟨by omega, by omega⟩)
  have HLD := Lib.hid (fun (X : World) (xb : Nat) (hX : AgI w X t a b g mb base ws (2000 * k) q lq n rcap lcap (setJob R kk (TT kk).f (TT kk).p D R' M') XS (upd TT kk (agT (TT kk) D R' M')) TT (fun i => lawRow i (ws.getD i 0 % 8) (TT i) (lv i)) bv lv dd xb KD ((kk : Int) + 1) PR ST NN f p d r m A L.length cb) => show X.cell? ⟨lq, kk * 14 + 9, none⟩ = some (.int .u64 (TT kk).f) ∧ X.cell? ⟨lq, kk * 14 + 10, none⟩ = some (.int .u64 (TT kk).p) ∧ X.cell? ⟨lq, kk * 14 + 11, none⟩ = some (.int .u64 (TT kk).d) ∧ X.cell? ⟨lq, kk * 14 + 12, none⟩ = some (.int .u64 (TT kk).r) ∧ X.cell? ⟨lq, kk * 14 + 13, none⟩ = some (.int .u64 (TT kk).m) ∧ X.cell? ⟨dd, 4, none⟩ = some (.int .u64 NN) ∧ AgI w X t a b g mb base ws (2000 * k) q lq n rcap lcap (setJob R kk (TT kk).f (TT kk).p D R' M') XS (upd TT kk (agT (TT kk) D R' M')) TT (fun i => lawRow i (ws.getD i 0 % 8) (TT i) (lv i)) bv lv dd xb KD ((kk : Int) + 1) PR ST NN f p d r m A L.length cb from by
    have e9 := hX.cell hkk (j := 9) (by decide)
    have e10 := hX.cell hkk (j := 10) (by decide)
    have e11 := hX.cell hkk (j := 11) (by decide)
    have e12 := hX.cell hkk (j := 12) (by decide)
    have e13 := hX.cell hkk (j := 13) (by decide)
    simp only [lawRow, List.getElem?_cons_succ, List.getElem?_cons_zero, if_neg hp] at e9 e10 e11 e12 e13
    exact ⟨e9, e10, e11, e12, e13, (opc hX.dh).2.2.2.2.1, hX⟩)
  clear h hQ hT hkk hok hbd hPP hRR hJ hp b1 bf bp bd br bm bn bi bq bl hqd hld
  cases gg with
  | false =>
    rw [if_neg (by decide)] at HK
    conv => arg 2; whnf
    go_wp2_with fail
    refine HK.out.mono ?_
    rintro e w1 ⟨rfl, hT1, hF1⟩
    dsimp only
    obtain ⟨xb, hxb⟩ : ∃ z, z = w1.heap.size := ⟨_, rfl⟩
    clear d0 d1 d2 d3 d4 d5 d6 d7 d8 d9 d10
    go_upto_region 20 with fail
    obtain ⟨W2, hW2⟩ : ∃ W2, w1.alloc (.cells #[.int .u64 0, .int .u64 0, .int .u64 0, .int .u64 0, .int .u64 0] 57) = W2 := ⟨_, rfl⟩
    have hA := H.out.ag HKK.out HKO.out hF1 hT1 (o := .cells #[.int .u64 0, .int .u64 0, .int .u64 0, .int .u64 0, .int .u64 0] 57) hxb
    rw [hW2] at hA
    have hx2 : W2.heap[xb]? = some (.cells #[.int .u64 0, .int .u64 0, .int .u64 0, .int .u64 0, .int .u64 0] 57 (0, 0)) := by rw [← hW2]; exact alloc_at hxb
    try rw [← hxb]
    rw [hW2]
    have e8 := hA.cell HKK.out (j := 8) (by decide)
    simp only [lawRow, List.getElem?_cons_succ, List.getElem?_cons_zero] at e8
    rw [show (!((TT kk).p == 0)) = true from by have := HP.out; simpa using this] at e8
    have HNX := Lib.hid (show xb ≠ lq ∧ lq ≠ xb ∧ xb ≠ dd ∧ dd ≠ xb from by have := hA.ne; omega)
    have hAd := hA.dr
    have HAD := Lib.hid hAd
    have HX2 := Lib.hid hx2
    clear hW2 hxb hT1 hF1 hA hx2
    go_upto_region 21 with fail
    go_cut [20] from 103 to 112 (fun v20 wx => v20 = .bool false ∧ AgI w wx t a b g mb base ws (2000 * k) q lq n rcap lcap (setJob R kk (TT kk).f (TT kk).p D R' M') XS (upd TT kk (agT (TT kk) D R' M')) TT (fun i => lawRow i (ws.getD i 0 % 8) (TT i) (lv i)) bv lv dd xb KD ((kk : Int) + 1) PR ST NN f p d r m A L.length cb ∧ wx.heap[xb]? = some (.cells #[.int .u64 (TT kk).f, .int .u64 (TT kk).p, .int .u64 D, .int .u64 R', .int .u64 M'] 57 (0, 0)))
    case first =>
      clear e8
      obtain ⟨q9, q10, q11, q12, q13, qd, _⟩ := HLD.out _ _ HAD.out
      go_region_held3 (fun X => X.cell? ⟨lq, kk * 14 + 9, none⟩ = some (.int .u64 (TT kk).f) ∧ X.cell? ⟨lq, kk * 14 + 10, none⟩ = some (.int .u64 (TT kk).p) ∧ X.cell? ⟨lq, kk * 14 + 11, none⟩ = some (.int .u64 (TT kk).d) ∧ X.cell? ⟨lq, kk * 14 + 12, none⟩ = some (.int .u64 (TT kk).r) ∧ X.cell? ⟨lq, kk * 14 + 13, none⟩ = some (.int .u64 (TT kk).m) ∧ X.cell? ⟨dd, 4, none⟩ = some (.int .u64 NN) ∧ AgI w X t a b g mb base ws (2000 * k) q lq n rcap lcap (setJob R kk (TT kk).f (TT kk).p D R' M') XS (upd TT kk (agT (TT kk) D R' M')) TT (fun i => lawRow i (ws.getD i 0 % 8) (TT i) (lv i)) bv lv dd xb KD ((kk : Int) + 1) PR ST NN f p d r m A L.length cb) ((first | exact HLD.out _ _ (by assumption) | exact HLD.out _ _ (AgI.xset (AgI.xset (AgI.xset (AgI.xset (AgI.xset (by assumption) _ _) _ _) _ _) _ _) _ _))) (first | (go_at_call 45; refine (HRR.out _).mono ?_; rintro e wA ⟨rfl, hBA⟩; dsimp only; have hAA := AgI.below HAD.out hBA; have hxA := (hBA.block xb (Array.getElem?_eq_some_iff.1 HX2.out).1).trans HX2.out; obtain ⟨y0, y1, y2, y3, y4⟩ := job5 hxA; have z0 := job5f hxA 0; have z1 := job5f hxA 1; have z2 := job5f hxA 2; have z3 := job5f hxA 3; have z4 := job5f hxA 4))
      all_goals
        go_wp2_with fail
        go_meet
        exact ⟨rfl, AgI.xset (AgI.xset (AgI.xset (AgI.xset (AgI.xset (by assumption) _ _) _ _) _ _) _ _) _ _, by rw [heap_set (heap_set (heap_set (heap_set (heap_set (by assumption) _) _) _) _) _]; rfl⟩
    case rest =>
    obtain ⟨rfl, hA3, hx3⟩ := hcut
    clear e8
    have e9 := hA3.cell HKK.out (j := 9) (by decide)
    have e10 := hA3.cell HKK.out (j := 10) (by decide)
    have e11 := hA3.cell HKK.out (j := 11) (by decide)
    have e12 := hA3.cell HKK.out (j := 12) (by decide)
    have e13 := hA3.cell HKK.out (j := 13) (by decide)
    simp only [lawRow, List.getElem?_cons_succ, List.getElem?_cons_zero] at e9 e10 e11 e12 e13
    have z9 := hA3.free (kk * 14 + 9)
    have z10 := hA3.free (kk * 14 + 10)
    have z11 := hA3.free (kk * 14 + 11)
    have z12 := hA3.free (kk * 14 + 12)
    have z13 := hA3.free (kk * 14 + 13)
    obtain ⟨y0, y1, y2, y3, y4⟩ := job5 hx3
    obtain ⟨nx1, nx2, nx3, nx4⟩ := HNX.out
    go_upto_region 23 with fail
    obtain ⟨W4, hW4⟩ : ∃ W4, ((((wc.setCell ⟨lq, kk * 14 + 9, none⟩ (.int .u64 (TT kk).f)).setCell ⟨lq, kk * 14 + 10, none⟩ (.int .u64 (TT kk).p)).setCell ⟨lq, kk * 14 + 11, none⟩ (.int .u64 D)).setCell ⟨lq, kk * 14 + 12, none⟩ (.int .u64 R')).setCell ⟨lq, kk * 14 + 13, none⟩ (.int .u64 M') = W4 := ⟨_, rfl⟩
    have hA4 := ((((hA3.lset HKK.out (j := 9) (by decide) (.int .u64 (TT kk).f)).lset HKK.out (j := 10) (by decide) (.int .u64 (TT kk).p)).lset HKK.out (j := 11) (by decide) (.int .u64 D)).lset HKK.out (j := 12) (by decide) (.int .u64 R')).lset HKK.out (j := 13) (by decide) (.int .u64 M')
    have hx4 := set_dd (c := lq) (j := kk * 14 + 13) (set_dd (c := lq) (j := kk * 14 + 12) (set_dd (c := lq) (j := kk * 14 + 11) (set_dd (c := lq) (j := kk * 14 + 10) (set_dd (c := lq) (j := kk * 14 + 9) hx3 nx1 (.int .u64 (TT kk).f)) nx1 (.int .u64 (TT kk).p)) nx1 (.int .u64 D)) nx1 (.int .u64 R')) nx1 (.int .u64 M')
    rw [hW4] at hA4 hx4
    rw [hW4]
    clear hW4 e9 e10 e11 e12 e13 z9 z10 z11 z12 z13 y0 y1 y2 y3 y4 hA3 hx3
    have e5 := hA4.cell HKK.out (j := 5) (by decide)
    have e6 := hA4.cell HKK.out (j := 6) (by decide)
    simp only [upd_self, lawRow, List.set_cons_succ, List.set_cons_zero, List.getElem?_cons_succ, List.getElem?_cons_zero] at e5 e6
    have z5 := hA4.free (kk * 14 + 5)
    have z6 := hA4.free (kk * 14 + 6)
    obtain ⟨y0, y1, y2, y3, y4⟩ := job5 hx4
    have HA4 := Lib.hid hA4
    have HX4 := Lib.hid hx4
    clear hA4 hx4
    go_cut [] from 117 to 128 (fun wx => AgF wx w t a b g mb base ws k q lq n rcap lcap R TT bv lv dd xb KD kk PR ST NN f p d r m A L.length cb D R' M' ∧ wx.heap[xb]? = some (.cells #[.int .u64 (TT kk).f, .int .u64 (TT kk).p, .int .u64 D, .int .u64 R', .int .u64 M'] 57 (0, 0)))
    case first =>
      go_region
      all_goals
        go_wp2_with fail
        go_meet
        first
          | exact ⟨agf (AgI.dr (AgI.lset (AgI.lset HA4.out HKK.out (j := 5) (by decide) _) HKK.out (j := 6) (by decide) _)) (by have h9 := HP.out; simp [upd, lawRow, agT, Tk.RU, Tk.MI, h9]) (fun i hi => by simp [upd, hi]), set_dd (set_dd HX4.out nx1 _) nx1 _⟩
          | exact ⟨agf (AgI.dr (AgI.lset (AgI.lset HA4.out HKK.out (j := 6) (by decide) _) HKK.out (j := 5) (by decide) _)) (by have h9 := HP.out; simp [upd, lawRow, agT, Tk.RU, Tk.MI, h9]) (fun i hi => by simp [upd, hi]), set_dd (set_dd HX4.out nx1 _) nx1 _⟩
    case rest =>
    obtain ⟨hA5, hx5⟩ := hcut
    clear e5 e6 z5 z6 y0 y1 y2 y3 y4
    obtain ⟨y0, y1, y2, y3, y4⟩ := job5 hx5
    have HA5 := Lib.hid hA5
    clear hA5 hx5
    go_wp2_with fail
    exact HQ.out _ _ _ _ _ _ _ _ _ _ _ _ _ _ _ _ _ _ _ _ _ _ _ _ _ _ _ _ _ _ _ _ _ _ _ _ _ _ _ _ _ _ _ _ _ _ _ _ _ _ _ _ _ _ _ _ _ _ _ _ _ _ _ _ _ _ _ _ _ _ _ _ _ _ _ _ _ _ _ _ _ _ _ _ _ _ _ _ _ _ _ _ _ _ _ _ _ _ _ _ _ _ _ _ _ _ _ _ _ _ _ _ _ _ _ _ _ _ _ _ _ _ _ _ _ _ _ _ _ _ _ _ _ _ _ _ _ _ _ _ _ _ _ _ _ _ _ _ _ _ _ _ _ _ _ _ _ _ _ _ _ _ _ _ _ _ _ _ _ _ _ _ _ _ _ _ _ _ _ _ _ _ _ _ _ _ _ _ _ _ _ _ _ _ _ _ _ _ _ _ _ _ _ _ _ _ _ _ _ _ _ _ _ _ _ _ _ _ _ _ _ _ _ _ _ _ _ _ _ _ _ _ _ _ _ _ _ _ _ _ _ _ _ _ _ _ _ _ _ _ _ _ _ _ _ _ _ _ _ _ _ _ _ _ _ _ _ _ _ _ _ _ _ _ _ _ (agfin H.out HKK.out HP.out HA5.out).1 (agfin H.out HKK.out HP.out HA5.out).2
  | true =>
    rw [if_pos rfl] at HK
    conv => arg 2; whnf
    go_wp2_with fail
    refine HK.out.mono ?_
    rintro e w1 ⟨rfl, hT1, hF1⟩
    dsimp only
    obtain ⟨xb, hxb⟩ : ∃ z, z = w1.heap.size := ⟨_, rfl⟩
    clear d0 d1 d2 d3 d4 d5 d6 d7 d8 d9 d10
    go_upto_region 20 with fail
    obtain ⟨W2, hW2⟩ : ∃ W2, w1.alloc (.cells #[.int .u64 0, .int .u64 0, .int .u64 0, .int .u64 0, .int .u64 0] 57) = W2 := ⟨_, rfl⟩
    have hA := H.out.ag HKK.out HKO.out hF1 hT1 (o := .cells #[.int .u64 0, .int .u64 0, .int .u64 0, .int .u64 0, .int .u64 0] 57) hxb
    rw [hW2] at hA
    have hx2 : W2.heap[xb]? = some (.cells #[.int .u64 0, .int .u64 0, .int .u64 0, .int .u64 0, .int .u64 0] 57 (0, 0)) := by rw [← hW2]; exact alloc_at hxb
    try rw [← hxb]
    rw [hW2]
    have e8 := hA.cell HKK.out (j := 8) (by decide)
    simp only [lawRow, List.getElem?_cons_succ, List.getElem?_cons_zero] at e8
    rw [show (!((TT kk).p == 0)) = true from by have := HP.out; simpa using this] at e8
    have HNX := Lib.hid (show xb ≠ lq ∧ lq ≠ xb ∧ xb ≠ dd ∧ dd ≠ xb from by have := hA.ne; omega)
    have hAd := hA.dr
    have HAD := Lib.hid hAd
    have HX2 := Lib.hid hx2
    clear hW2 hxb hT1 hF1 hA hx2
    go_upto_region 21 with fail
    go_cut [20] from 103 to 112 (fun v20 wx => v20 = .bool true ∧ AgI w wx t a b g mb base ws (2000 * k) q lq n rcap lcap (setJob R kk (TT kk).f (TT kk).p D R' M') XS (upd TT kk (agT (TT kk) D R' M')) TT (fun i => lawRow i (ws.getD i 0 % 8) (TT i) (lv i)) bv lv dd xb KD ((kk : Int) + 1) PR ST NN f p d r m A L.length cb ∧ wx.heap[xb]? = some (.cells #[.int .u64 (TT kk).f, .int .u64 (TT kk).p, .int .u64 D, .int .u64 R', .int .u64 M'] 57 (0, 0)))
    case first =>
      clear e8
      obtain ⟨q9, q10, q11, q12, q13, qd, _⟩ := HLD.out _ _ HAD.out
      go_region_held3 (fun X => X.cell? ⟨lq, kk * 14 + 9, none⟩ = some (.int .u64 (TT kk).f) ∧ X.cell? ⟨lq, kk * 14 + 10, none⟩ = some (.int .u64 (TT kk).p) ∧ X.cell? ⟨lq, kk * 14 + 11, none⟩ = some (.int .u64 (TT kk).d) ∧ X.cell? ⟨lq, kk * 14 + 12, none⟩ = some (.int .u64 (TT kk).r) ∧ X.cell? ⟨lq, kk * 14 + 13, none⟩ = some (.int .u64 (TT kk).m) ∧ X.cell? ⟨dd, 4, none⟩ = some (.int .u64 NN) ∧ AgI w X t a b g mb base ws (2000 * k) q lq n rcap lcap (setJob R kk (TT kk).f (TT kk).p D R' M') XS (upd TT kk (agT (TT kk) D R' M')) TT (fun i => lawRow i (ws.getD i 0 % 8) (TT i) (lv i)) bv lv dd xb KD ((kk : Int) + 1) PR ST NN f p d r m A L.length cb) ((first | exact HLD.out _ _ (by assumption) | exact HLD.out _ _ (AgI.xset (AgI.xset (AgI.xset (AgI.xset (AgI.xset (by assumption) _ _) _ _) _ _) _ _) _ _))) (first | (go_at_call 45; refine (HRR.out _).mono ?_; rintro e wA ⟨rfl, hBA⟩; dsimp only; have hAA := AgI.below HAD.out hBA; have hxA := (hBA.block xb (Array.getElem?_eq_some_iff.1 HX2.out).1).trans HX2.out; obtain ⟨y0, y1, y2, y3, y4⟩ := job5 hxA; have z0 := job5f hxA 0; have z1 := job5f hxA 1; have z2 := job5f hxA 2; have z3 := job5f hxA 3; have z4 := job5f hxA 4))
      all_goals
        go_wp2_with fail
        go_meet
        exact ⟨rfl, AgI.xset (AgI.xset (AgI.xset (AgI.xset (AgI.xset (by assumption) _ _) _ _) _ _) _ _) _ _, by rw [heap_set (heap_set (heap_set (heap_set (heap_set (by assumption) _) _) _) _) _]; rfl⟩
    case rest =>
    obtain ⟨rfl, hA3, hx3⟩ := hcut
    clear e8
    have e9 := hA3.cell HKK.out (j := 9) (by decide)
    have e10 := hA3.cell HKK.out (j := 10) (by decide)
    have e11 := hA3.cell HKK.out (j := 11) (by decide)
    have e12 := hA3.cell HKK.out (j := 12) (by decide)
    have e13 := hA3.cell HKK.out (j := 13) (by decide)
    simp only [lawRow, List.getElem?_cons_succ, List.getElem?_cons_zero] at e9 e10 e11 e12 e13
    have z9 := hA3.free (kk * 14 + 9)
    have z10 := hA3.free (kk * 14 + 10)
    have z11 := hA3.free (kk * 14 + 11)
    have z12 := hA3.free (kk * 14 + 12)
    have z13 := hA3.free (kk * 14 + 13)
    obtain ⟨y0, y1, y2, y3, y4⟩ := job5 hx3
    obtain ⟨nx1, nx2, nx3, nx4⟩ := HNX.out
    go_upto_region 23 with fail
    obtain ⟨W4, hW4⟩ : ∃ W4, ((((wc.setCell ⟨lq, kk * 14 + 9, none⟩ (.int .u64 (TT kk).f)).setCell ⟨lq, kk * 14 + 10, none⟩ (.int .u64 (TT kk).p)).setCell ⟨lq, kk * 14 + 11, none⟩ (.int .u64 D)).setCell ⟨lq, kk * 14 + 12, none⟩ (.int .u64 R')).setCell ⟨lq, kk * 14 + 13, none⟩ (.int .u64 M') = W4 := ⟨_, rfl⟩
    have hA4 := ((((hA3.lset HKK.out (j := 9) (by decide) (.int .u64 (TT kk).f)).lset HKK.out (j := 10) (by decide) (.int .u64 (TT kk).p)).lset HKK.out (j := 11) (by decide) (.int .u64 D)).lset HKK.out (j := 12) (by decide) (.int .u64 R')).lset HKK.out (j := 13) (by decide) (.int .u64 M')
    have hx4 := set_dd (c := lq) (j := kk * 14 + 13) (set_dd (c := lq) (j := kk * 14 + 12) (set_dd (c := lq) (j := kk * 14 + 11) (set_dd (c := lq) (j := kk * 14 + 10) (set_dd (c := lq) (j := kk * 14 + 9) hx3 nx1 (.int .u64 (TT kk).f)) nx1 (.int .u64 (TT kk).p)) nx1 (.int .u64 D)) nx1 (.int .u64 R')) nx1 (.int .u64 M')
    rw [hW4] at hA4 hx4
    rw [hW4]
    clear hW4 e9 e10 e11 e12 e13 z9 z10 z11 z12 z13 y0 y1 y2 y3 y4 hA3 hx3
    have e5 := hA4.cell HKK.out (j := 5) (by decide)
    have e6 := hA4.cell HKK.out (j := 6) (by decide)
    simp only [upd_self, lawRow, List.set_cons_succ, List.set_cons_zero, List.getElem?_cons_succ, List.getElem?_cons_zero] at e5 e6
    have z5 := hA4.free (kk * 14 + 5)
    have z6 := hA4.free (kk * 14 + 6)
    obtain ⟨y0, y1, y2, y3, y4⟩ := job5 hx4
    have HA4 := Lib.hid hA4
    have HX4 := Lib.hid hx4
    clear hA4 hx4
    go_cut [] from 117 to 128 (fun wx => AgF wx w t a b g mb base ws k q lq n rcap lcap R TT bv lv dd xb KD kk PR ST NN f p d r m A L.length cb D R' M' ∧ wx.heap[xb]? = some (.cells #[.int .u64 (TT kk).f, .int .u64 (TT kk).p, .int .u64 D, .int .u64 R', .int .u64 M'] 57 (0, 0)))
    case first =>
      go_region
      all_goals
        go_wp2_with fail
        go_meet
        first
          | exact ⟨agf (AgI.dr (AgI.lset (AgI.lset HA4.out HKK.out (j := 5) (by decide) _) HKK.out (j := 6) (by decide) _)) (by have h9 := HP.out; simp [upd, lawRow, agT, Tk.RU, Tk.MI, h9]) (fun i hi => by simp [upd, hi]), set_dd (set_dd HX4.out nx1 _) nx1 _⟩
          | exact ⟨agf (AgI.dr (AgI.lset (AgI.lset HA4.out HKK.out (j := 6) (by decide) _) HKK.out (j := 5) (by decide) _)) (by have h9 := HP.out; simp [upd, lawRow, agT, Tk.RU, Tk.MI, h9]) (fun i hi => by simp [upd, hi]), set_dd (set_dd HX4.out nx1 _) nx1 _⟩
    case rest =>
    obtain ⟨hA5, hx5⟩ := hcut
    clear e5 e6 z5 z6 y0 y1 y2 y3 y4
    obtain ⟨y0, y1, y2, y3, y4⟩ := job5 hx5
    have HA5 := Lib.hid hA5
    clear hA5 hx5
    go_wp2_with fail
    exact HQ.out _ _ _ _ _ _ _ _ _ _ _ _ _ _ _ _ _ _ _ _ _ _ _ _ _ _ _ _ _ _ _ _ _ _ _ _ _ _ _ _ _ _ _ _ _ _ _ _ _ _ _ _ _ _ _ _ _ _ _ _ _ _ _ _ _ _ _ _ _ _ _ _ _ _ _ _ _ _ _ _ _ _ _ _ _ _ _ _ _ _ _ _ _ _ _ _ _ _ _ _ _ _ _ _ _ _ _ _ _ _ _ _ _ _ _ _ _ _ _ _ _ _ _ _ _ _ _ _ _ _ _ _ _ _ _ _ _ _ _ _ _ _ _ _ _ _ _ _ _ _ _ _ _ _ _ _ _ _ _ _ _ _ _ _ _ _ _ _ _ _ _ _ _ _ _ _ _ _ _ _ _ _ _ _ _ _ _ _ _ _ _ _ _ _ _ _ _ _ _ _ _ _ _ _ _ _ _ _ _ _ _ _ _ _ _ _ _ _ _ _ _ _ _ _ _ _ _ _ _ _ _ _ _ _ _ _ _ _ _ _ _ _ _ _ _ _ _ _ _ _ _ _ _ _ _ _ _ _ _ _ _ _ _ _ _ _ _ _ _ _ _ _ _ _ _ _ (agfin H.out HKK.out HP.out HA5.out).1 (agfin H.out HKK.out HP.out HA5.out).2
end
end Go.Proofs.Ytpcbcnheogjofaa
