import Derived.Test.YtpcbcnheogjofaaTable18
import Derived.Test.YtpcbcnheogjofaaSwA
import Derived.Test.YtpcbcnheogjofaaSwB
import Derived.Test.YtpcbcnheogjofaaSwC
import Derived.Test.YtpcbcnheogjofaaSwD
import Derived.Test.YtpcbcnheogjofaaSwE
import Derived.Test.YtpcbcnheogjofaaSwF
import Derived.Test.YtpcbcnheogjofaaSwGH
import Derived.Test.YtpcbcnheogjofaaSwI_
import Derived.Test.YtpcbcnheogjofaaSwJ
import Derived.Test.YtpcbcnheogjofaaSwK
/- TablePlays: cases of the switch. Printed by gen/gensw.py. -/
namespace Go.Proofs.Ytpcbcnheogjofaa
open Go.RowKit Go.Maps Go.Shelf Go.Proofs.YtpcbcnheogjofaaW.PrintWords
set_option linter.unusedVariables false
set_option linter.unusedSimpArgs false
section
variable {w W5 : World} {M k n dd t a b g mb base lcap rcap PB PO cb : Nat} {LA RA A : Option Addr} {IN : Bool} {KD ID PR ST NN f p d r m : Int} {L : List Op3} {ws : List Int} {R XS : List Value} {TT : Nat → Tk} {bv lv : Nat → Value}
variable {u1 u2 u3 u4 u6 u12 u13 u14 u15 u16 u17 u18 u19 u20 u21 u22 u23 u24 u25 u26 u27 u28 u29 u30 u31 u32 u33 u34 u35 u36 u37 u38 u39 u40 u41 u42 u43 u44 u45 u46 u47 u48 u49 u50 u51 u52 u53 u54 u55 u56 u57 u58 u59 u60 u61 u62 u63 u64 u65 u66 u67 u68 u69 u70 u71 u72 u73 u74 u75 u76 u77 u78 u79 u80 u81 u82 u83 u84 u86 u87 u88 u89 u90 u91 u92 u93 u94 u95 u96 u97 u98 u99 u100 u101 u102 u103 u104 u105 u106 u107 u108 u109 u110 u111 u112 u113 u114 u115 u116 u117 u118 u119 u120 u121 u122 u123 u124 u125 u126 u127 u128 u129 u130 u131 u132 u133 u134 u135 u136 u137 u138 u139 u140 u141 u142 u143 u144 u145 u146 u147 u148 u149 u150 u151 u152 u153 u154 u155 u156 u157 u158 u159 u160 u161 u162 u163 u164 u165 u166 u167 u168 u169 u170 u171 u172 u173 u174 u175 u176 u177 u178 u179 u180 u181 u182 u183 u184 u185 u186 u187 u188 u189 u190 u191 u192 u193 u194 u195 u196 u197 u198 u199 u200 u201 u202 u203 u204 u205 u206 u207 u208 u209 u210 u211 u212 u213 u214 u215 u216 u217 u218 u219 u220 u221 u222 u223 u224 u225 u226 u227 u228 u229 u230 u231 u232 u233 u234 u235 u236 u237 u238 u239 u240 u241 u242 u243 u244 u245 u246 u247 u248 u249 u250 u251 u252 u253 u254 u255 u256 u257 u258 u259 u260 u261 u262 u263 u264 u265 u266 u267 u268 u269 u270 u271 u272 u273 u274 u275 u276 u277 u278 u279 u280 u281 u282 u283 u284 u285 u286 u287 u288 u289 u290 u291 u292 u293 u294 u295 u296 u297 u298 u299 u300 u301 u302 u303 u304 u305 u306 u307 u308 u309 u310 u311 u312 u313 u314 u315 u316 u317 u318 u319 u320 u321 u322 u323 u324 u325 u326 u327 u328 u329 u330 u331 u332 u333 u334 u335 u336 u337 u338 u339 u340 u341 u342 u343 u344 u345 u346 u347 u348 u349 u350 u351 : Value}
variable {Q : Exit → Act → World → Prop}
set_option maxRecDepth 1000000 in
set_option maxHeartbeats 20000000 in
theorem sw_any (h : SwI w W5 M k n dd t a b g mb base lcap rcap PB PO cb LA RA A IN KD ID PR ST NN f p d r m L ws R XS TT bv lv) 
    (hQ : ∀ (Lv' x12 x13 x14 x15 x16 x17 x18 x19 x20 x86 x87 x88 x89 x90 x91 x92 x93 x94 x95 x96 x97 x98 x99 x100 x101 x102 x103 x104 x105 x106 x107 x108 x109 x110 x111 x112 x113 x114 x115 x116 x117 x118 x119 x120 x121 x122 x123 x124 x125 x126 x127 x128 x129 x130 x131 x132 x133 x134 x135 x136 x137 x138 x139 x140 x141 x142 x143 x144 x145 x146 x147 x148 x149 x150 x151 x152 x153 x154 x155 x156 x157 x158 x159 x160 x161 x162 x163 x164 x165 x166 x167 x168 x169 x170 x171 x172 x173 x174 x175 x176 x177 x178 x179 x180 x181 x182 x183 x184 x185 x186 x187 x188 x189 x190 x191 x192 x193 x194 x195 x196 x197 x198 x199 x200 x201 x202 x203 x204 x205 x206 x207 x208 x209 x210 x211 x212 x213 x214 x215 x216 x217 x218 x219 x220 x221 x222 x223 x224 x225 x226 x227 x228 x229 x230 x231 x232 x233 x234 x235 x236 x237 x238 x239 x240 x241 x242 x243 x244 x245 x246 x247 x248 x249 x250 x251 x252 x253 x254 x255 x256 x257 x258 x259 x260 x261 x262 x263 x264 x265 x266 x267 x268 x269 x270 x271 x272 x273 x274 x275 x276 x277 x278 x279 x280 x281 x282 x283 x284 x285 x286 x287 x288 x289 x290 x291 x292 x293 x294 x295 x296 x297 x298 x299 x300 x301 x302 x303 x304 x305 x306 x307 x308 x309 x310 x311 x312 x313 x314 x315 x316 x317 x318 x319 x320 x321 x322 x323 x324 x325 x326 x327 x328 x329 x330 x331 x332 x333 x334 x335 x336 x337 x338 x339 x340 x341 x342 x343 x344 x345 x346 x347 x348 x349 x350 : Value) (w' : World), PI w w' t a b g mb M base (2000 * k + 1500) (k + 1) Lv' → w'.heap[dd]? = some (.cells #[.int .i64 KD, .int .i64 ID, .int .i64 PR, .int .i64 ST, .int .u64 NN, .int .u64 f, .int .u64 p, .int .u64 d, .int .u64 r, .int .u64 m, .slice A L.length cb] 107 (0, 0)) → Q .normal ⟨#[.int .i64 (M : Int), u1, u2, u3, u4, .pointer (some ⟨t, 0, none⟩), u6, Lv', .int .i64 (k : Int), .pointer (some ⟨dd, 0, none⟩), .bool IN, .pointer (some ⟨PB, PO, none⟩), x12, x13, x14, x15, x16, x17, x18, x19, x20, u21, u22, u23, u24, u25, u26, u27, u28, u29, u30, u31, u32, u33, u34, u35, u36, u37, u38, u39, u40, u41, u42, u43, u44, u45, u46, u47, u48, u49, u50, u51, u52, u53, u54, u55, u56, u57, u58, u59, u60, u61, u62, u63, u64, u65, u66, u67, u68, u69, u70, u71, u72, u73, u74, u75, u76, u77, u78, u79, u80, u81, u82, u83, u84, .int .i64 KD, x86, x87, x88, x89, x90, x91, x92, x93, x94, x95, x96, x97, x98, x99, x100, x101, x102, x103, x104, x105, x106, x107, x108, x109, x110, x111, x112, x113, x114, x115, x116, x117, x118, x119, x120, x121, x122, x123, x124, x125, x126, x127, x128, x129, x130, x131, x132, x133, x134, x135, x136, x137, x138, x139, x140, x141, x142, x143, x144, x145, x146, x147, x148, x149, x150, x151, x152, x153, x154, x155, x156, x157, x158, x159, x160, x161, x162, x163, x164, x165, x166, x167, x168, x169, x170, x171, x172, x173, x174, x175, x176, x177, x178, x179, x180, x181, x182, x183, x184, x185, x186, x187, x188, x189, x190, x191, x192, x193, x194, x195, x196, x197, x198, x199, x200, x201, x202, x203, x204, x205, x206, x207, x208, x209, x210, x211, x212, x213, x214, x215, x216, x217, x218, x219, x220, x221, x222, x223, x224, x225, x226, x227, x228, x229, x230, x231, x232, x233, x234, x235, x236, x237, x238, x239, x240, x241, x242, x243, x244, x245, x246, x247, x248, x249, x250, x251, x252, x253, x254, x255, x256, x257, x258, x259, x260, x261, x262, x263, x264, x265, x266, x267, x268, x269, x270, x271, x272, x273, x274, x275, x276, x277, x278, x279, x280, x281, x282, x283, x284, x285, x286, x287, x288, x289, x290, x291, x292, x293, x294, x295, x296, x297, x298, x299, x300, x301, x302, x303, x304, x305, x306, x307, x308, x309, x310, x311, x312, x313, x314, x315, x316, x317, x318, x319, x320, x321, x322, x323, x324, x325, x326, x327, x328, x329, x330, x331, x332, x333, x334, x335, x336, x337, x338, x339, x340, x341, x342, x343, x344, x345, x346, x347, x348, x349, x350, u351], []⟩ w') :
    Code.wp Try.prog swC Q ⟨#[.int .i64 (M : Int), u1, u2, u3, u4, .pointer (some ⟨t, 0, none⟩), u6, .slice LA n lcap, .int .i64 (k : Int), .pointer (some ⟨dd, 0, none⟩), .bool IN, .pointer (some ⟨PB, PO, none⟩), u12, u13, u14, u15, u16, u17, u18, u19, u20, u21, u22, u23, u24, u25, u26, u27, u28, u29, u30, u31, u32, u33, u34, u35, u36, u37, u38, u39, u40, u41, u42, u43, u44, u45, u46, u47, u48, u49, u50, u51, u52, u53, u54, u55, u56, u57, u58, u59, u60, u61, u62, u63, u64, u65, u66, u67, u68, u69, u70, u71, u72, u73, u74, u75, u76, u77, u78, u79, u80, u81, u82, u83, u84, .int .i64 KD, u86, u87, u88, u89, u90, u91, u92, u93, u94, u95, u96, u97, u98, u99, u100, u101, u102, u103, u104, u105, u106, u107, u108, u109, u110, u111, u112, u113, u114, u115, u116, u117, u118, u119, u120, u121, u122, u123, u124, u125, u126, u127, u128, u129, u130, u131, u132, u133, u134, u135, u136, u137, u138, u139, u140, u141, u142, u143, u144, u145, u146, u147, u148, u149, u150, u151, u152, u153, u154, u155, u156, u157, u158, u159, u160, u161, u162, u163, u164, u165, u166, u167, u168, u169, u170, u171, u172, u173, u174, u175, u176, u177, u178, u179, u180, u181, u182, u183, u184, u185, u186, u187, u188, u189, u190, u191, u192, u193, u194, u195, u196, u197, u198, u199, u200, u201, u202, u203, u204, u205, u206, u207, u208, u209, u210, u211, u212, u213, u214, u215, u216, u217, u218, u219, u220, u221, u222, u223, u224, u225, u226, u227, u228, u229, u230, u231, u232, u233, u234, u235, u236, u237, u238, u239, u240, u241, u242, u243, u244, u245, u246, u247, u248, u249, u250, u251, u252, u253, u254, u255, u256, u257, u258, u259, u260, u261, u262, u263, u264, u265, u266, u267, u268, u269, u270, u271, u272, u273, u274, u275, u276, u277, u278, u279, u280, u281, u282, u283, u284, u285, u286, u287, u288, u289, u290, u291, u292, u293, u294, u295, u296, u297, u298, u299, u300, u301, u302, u303, u304, u305, u306, u307, u308, u309, u310, u311, u312, u313, u314, u315, u316, u317, u318, u319, u320, u321, u322, u323, u324, u325, u326, u327, u328, u329, u330, u331, u332, u333, u334, u335, u336, u337, u338, u339, u340, u341, u342, u343, u344, u345, u346, u347, u348, u349, u350, u351], []⟩ W5 := by
  by_cases k0 : KD = 0
  · subst k0
    cases hbad : badMk PR ST p (okB f p d) L with
    | true => exact sw_make_bad h hbad hQ
    | false =>
      by_cases hlt : n < M
      · by_cases hp : p = 0
        · exact sw_make_zero h hbad hlt hp hQ
        · exact sw_make_again h hbad hlt (by have := h.bd.2.2.1.1; omega) hQ
      · exact sw_make_full h hbad (by omega) hQ
  by_cases k1 : KD = 1
  · subst k1
    cases hin : IN with
    | false => subst hin; exact sw_turn_out h rfl hQ
    | true =>
      subst hin
      by_cases lo : ST < 1
      · exact sw_turn_lo h rfl lo hQ
      by_cases hi : 6 < ST
      · exact sw_turn_hi h rfl hi hQ
      obtain ⟨kk, hkk, hid⟩ : ∃ kk : Nat, kk < n ∧ ID = (kk : Int) + 1 := by
        rcases h.hq with ⟨_, kk, h1, h2, _⟩ | ⟨e, _⟩
        · exact ⟨kk, h1, h2⟩
        · cases e
      have hu : ∀ j : Nat, ID = (j : Int) + 1 → j = kk := fun j hj => by omega
      cases hcan : canB (ws.getD kk 0 % 8) ST with
      | false => exact sw_turn_state h rfl ⟨by omega, by omega⟩ (fun j hj => by rw [hu j hj]; exact hcan) hQ
      | true =>
        by_cases hp : (TT kk).p = 0
        · by_cases h4 : ST = 4
          · exact sw_turn_a4 h rfl ⟨by omega, by omega⟩ (fun j hj => by rw [hu j hj]; exact hcan) (fun j hj => by rw [hu j hj]; exact hp) h4 hQ
          by_cases h5 : ST = 5
          · exact sw_turn_a5 h rfl ⟨by omega, by omega⟩ (fun j hj => by rw [hu j hj]; exact hcan) (fun j hj => by rw [hu j hj]; exact hp) h5 hQ
          by_cases h3 : ws.getD kk 0 % 8 = 3
          · exact sw_turn_b2 h rfl ⟨by omega, by omega⟩ (fun j hj => by rw [hu j hj]; exact hcan) (fun j hj => by rw [hu j hj]; exact hp) (fun j hj => by rw [hu j hj]; exact h3) ⟨h4, h5⟩ hQ
          · exact sw_turn_b3 h rfl ⟨by omega, by omega⟩ (fun j hj => by rw [hu j hj]; exact hcan) (fun j hj => by rw [hu j hj]; exact hp) (fun j hj => by rw [hu j hj]; exact h3) hQ
        · exact sw_turn_b1 h rfl ⟨by omega, by omega⟩ (fun j hj => by rw [hu j hj]; exact hcan) (fun j hj => by rw [hu j hj]; exact hp) hQ
  by_cases k2 : KD = 2
  · subst k2
    cases hin : IN with
    | false => subst hin; exact sw_key_out h rfl hQ
    | true => subst hin; exact sw_key_in h rfl hQ
  by_cases k4 : KD = 4
  · subst k4
    cases hin : IN with
    | false => subst hin; exact sw_set_out h rfl hQ
    | true => subst hin; exact sw_set_in h rfl hQ
  cases hin : IN with
  | false => subst hin; exact sw_again_out h ⟨k0, k1, k2, k4⟩ rfl hQ
  | true =>
    subst hin
    obtain ⟨kk, hkk, hid⟩ : ∃ kk : Nat, kk < n ∧ ID = (kk : Int) + 1 := by
      rcases h.hq with ⟨_, kk, h1, h2, _⟩ | ⟨e, _⟩
      · exact ⟨kk, h1, h2⟩
      · cases e
    have hu : ∀ j : Nat, ID = (j : Int) + 1 → j = kk := fun j hj => by omega
    by_cases hp : (TT kk).p = 0
    · exact sw_again_zero h ⟨k0, k1, k2, k4⟩ rfl (fun j hj => by rw [hu j hj]; exact hp) hQ
    · exact sw_again_go h ⟨k0, k1, k2, k4⟩ rfl (fun j hj => by rw [hu j hj]; exact hp) hQ
end
end Go.Proofs.Ytpcbcnheogjofaa

/- TablePlays: a round's beginning and its end. -/
namespace Go.Proofs.Ytpcbcnheogjofaa
open Go.RowKit Go.Maps Go.Shelf Go.Proofs.YtpcbcnheogjofaaW.PrintWords
set_option linter.unusedVariables false
set_option linter.unusedSimpArgs false

section
variable {w W5 : World} {M k n dd t a b g mb base lcap rcap PB PO cb : Nat} {LA RA A : Option Addr} {IN : Bool} {KD ID PR ST NN f p d r m : Int} {L : List Op3} {ws : List Int} {R XS : List Value} {TT : Nat → Tk} {bv lv : Nat → Value}
theorem SwI_mk {wr : World} (hM : 1 ≤ M ∧ M ≤ 1000) (hk : k < 40) (hnk : n ≤ k) (hwl : ws.length = M) (hnM : n ≤ M) (hws : ∀ j, j < n → 1 ≤ ws.getD j 0 % 8 ∧ ws.getD j 0 % 8 ≤ 6) (hws0 : ∀ j, n ≤ j → ws.getD j 0 = 0)
    (hT : TI wr t a b g mb ws (2000 * k) (.slice RA n rcap) n R TT base bv) (hW : WI wr base (stOf ws) (.slice LA n lcap) n XS TT lv) (hN : NI (.slice RA n rcap) (.slice LA n lcap) bv lv n) (hn0 : n = 0 → (Value.slice RA n rcap) = .slice none 0 0 ∧ (Value.slice LA n lcap) = .slice none 0 0)
    (hdd : wr.heap.size = dd) (hbs : base ≤ dd) (hbel : Below w.heap.size w wr) (hlo : w.heap.size ≤ base) (hl5 : w.heap.size ≤ t ∧ w.heap.size ≤ b ∧ w.heap.size ≤ g ∧ w.heap.size ≤ mb)
    (hO : OpsV wr (.slice A L.length cb) L) (hob : L = [] ∨ ∀ c, (Value.slice A L.length cb).ownBlock = some c → c < w.heap.size) (hl : L.length ≤ 30)
    (hbd : (Lit.int .i64 ST).wf = true ∧ (0 ≤ f ∧ f ≤ top) ∧ (0 ≤ p ∧ p ≤ top) ∧ (0 ≤ d ∧ d ≤ top) ∧ (0 ≤ r ∧ r ≤ top) ∧ (0 ≤ m ∧ m ≤ top) ∧ (0 ≤ NN ∧ NN ≤ top) ∧ (Lit.int .i64 ID).wf = true)
    (hq : (IN = true ∧ ∃ kk : Nat, kk < n ∧ ID = (kk : Int) + 1 ∧ (∃ lq, LA = some ⟨lq, 0, none⟩ ∧ PB = lq) ∧ PO = kk * 14) ∨ (IN = false ∧ (ID < 1 ∨ (n : Int) < ID) ∧ PB = dd + 1 ∧ PO = 0)) :
    SwI w ((wr.alloc (.cells #[.int .i64 KD, .int .i64 ID, .int .i64 PR, .int .i64 ST, .int .u64 NN, .int .u64 f, .int .u64 p, .int .u64 d, .int .u64 r, .int .u64 m, .slice A L.length cb] 107)).alloc (.cells #[.int .i64 0, .int .i64 0, .int .i64 0, .int .u64 0, .int .u64 0, .int .u64 0, .int .u64 0, .slice none 0 0, .bool false, .int .u64 0, .int .u64 0, .int .u64 0, .int .u64 0, .int .u64 0] 110)) M k n dd t a b g mb base lcap rcap PB PO cb LA RA A IN KD ID PR ST NN f p d r m L ws R XS TT bv lv := by
  have hb : ∀ o1 o2, Below wr.heap.size wr ((wr.alloc o1).alloc o2) := fun o1 o2 => below_al (below_al (Below.refl _ _) _) _
  exact ⟨hM, hk, hnk, hwl, hnM, hws, hws0, hT.below (hb _ _), hW.below (hb _ _), hN, hn0, alloc_at (by simp [hdd]), alloc_old (alloc_at hdd.symm), below_step (hb _ _) hbel, by simp [hdd], hbs, hlo, hl5,
    fun i hi => ⟨fun c hc => by rw [← hdd]; exact (hT.bl i hi c hc).2, fun c hc => by rw [← hdd]; exact (hW.ll i hi c hc).2⟩, ⟨fun c hc => by rw [← hdd]; exact (hT.tb.rows.lt c hc).2, fun c hc => by rw [← hdd]; exact (hW.lw.lt c hc).2⟩, hO.below (hb _ _), hob, hl, hbd, hq⟩
theorem PI.le {X : World} {B B' : Int} {Lv : Value} (h : PI w X t a b g mb M base B k Lv) (hl : B ≤ B') : PI w X t a b g mb M base B' k Lv := by
  obtain ⟨n, ws, R, XS, TT, bv, lv, rv, h1, h2, h3, h4, h5, h6, h7, h8, h9, h10, h11⟩ := h
  exact ⟨n, ws, R, XS, TT, bv, lv, rv, h1, h2, h3, h4, h5, h6.le hl, h7, h8, h9, h10, h11⟩
theorem same_PI {X : World} {B : Int} {Lv : Value} (h : PI w X t a b g mb M base B k Lv) (hB : B ≤ 500000000) (hk : k ≤ 40) (hl5 : w.heap.size ≤ b ∧ w.heap.size ≤ g) (id : Int) : Calls Try.prog 76 #[.pointer (some ⟨t, 0, none⟩), Lv, .int .i64 id] X fun e w' => e = .returned (.bool true) ∧ PI w w' t a b g mb M base (B + 81) k Lv := by
  obtain ⟨n, ws, R, XS, TT, bv, lv, rv, h1, h2, h3, h4, h5, hT, hW, hN, h9, h10, h11⟩ := h
  rcases Nat.eq_zero_or_pos n with rfl | n0
  · obtain ⟨rfl, rfl⟩ := h9 rfl
    obtain rfl : R = [] := List.eq_nil_of_length_eq_zero (by have := hT.rr.len; omega)
    refine (same_nil hT.tb id).mono ?_
    rintro e w' ⟨rfl, hb⟩
    exact ⟨rfl, 0, ws, [], XS, TT, bv, lv, _, h1, h2, h3, h4, h5, (hT.below hb).le (by omega), hW.below hb, hN, fun _ => ⟨rfl, rfl⟩, Nat.le_trans h10 hb.size, below_step hb h11⟩
  · rcases hT.tb.rows.2 with ⟨_, e⟩ | ⟨q, rcap, cur, rfl, _⟩
    · omega
    rcases hW.lw.2 with ⟨_, e⟩ | ⟨lq, lcap, cur, rfl, _⟩
    · omega
    refine (same_in (hT.si hW) (hT.sn hW (by omega)) h10 n0 (by omega) (by omega) lcap id).mono ?_
    rintro e w' ⟨rfl, hT2, hF⟩
    have hl := hT.tb.lt
    exact ⟨rfl, n, ws, R, XS, TT, bv, lv, _, h1, h2, h3, h4, h5, hT.low hF hT2 (own2_low hT), hW.fr hN hF (fun c hc => .inl (own2_low hT c hc)), hN, h9, Nat.le_trans h10 hF.size, hF.below h11 (fun c hc => by rcases hc with hc | hc <;> omega)⟩
end
end Go.Proofs.Ytpcbcnheogjofaa
