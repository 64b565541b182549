/- The third part of the walk of the law FnLaddersCrossOfAll (the second row of calls). Conditions: the library's variables (Ready), and what each callee comes to. Turned from the print program's text. -/
import Derived.Test.YtkhhlnpiogfofaaDoorLCLaw40
import Derived.Test.YtkhhlnpiogfofaaDoorLC0
import Derived.Test.YtkhhlnpiogfofaaDoorLC2
import Derived.Test.YtkhhlnpiogfofaaDoorLC3
import Derived.Test.YtkhhlnpiogfofaaDoorLC4
import Derived.Test.YtkhhlnpiogfofaaDoorLC5
import Derived.Test.YtkhhlnpiogfofaaDoorLC6
import Derived.Test.YtkhhlnpiogfofaaDoorGiven
import Derived.Deep.RegionHeld3
import Derived.Deep.DeepCutAuto
import Derived.Tactics2
import Derived.WalkSpells
import Derived.StillTactics
import Derived.Laws.Pointers
namespace Go.Proofs.YtkhhlnpiogfofaaDoor.LCLaw
open Go.RowKit Go.Proofs.YtkhhlnpiogfofaaDoorW.PrintWords Go.Proofs.YtkhhlnpiogfofaaDoorW.PrintLast Go.Proofs.YtkhhlnpiogfofaaDoorW.PrintMore Go.Proofs.YtkhhlnpiogfofaaDoor.Given Go.Proofs.YtkhhlnpiogfofaaDoor.TextC Go.Proofs.YtkhhlnpiogfofaaDoor.PFnLaddersCrossOfAll
set_option linter.unusedVariables false
set_option linter.unusedSimpArgs false
set_option linter.unnecessarySimpa false
set_option maxHeartbeats 8000000 in
set_option maxRecDepth 100000 in
theorem rest30 (k : Nat) (a0_0 a0_1 a0_2 a1_0 a1_1 a1_2 a3 a4 a5 a6 a7_0 a7_1 a7_2 a8 t261 t262 t267 t268 t273 t274 t279 t280 t285 t293 t294 t295 t324 t325 t330 t331 t336 t337 t342 t343 t344 : Int) (a2 o p q s : Bool) (t289 : ByteArray) (w wc : World) (gb258 gb259 gb260 gb297 gb302 : Nat) {x18 x19 x20 x21 x22 x23 x24 x25 x26 x27 x28 x29 x30 x31 x32 x33 x34 x35 x36 x37 x38 x39 x40 x41 x42 x43 x44 x45 x46 x47 x48 x49 x50 x51 x52 x53 x54 x55 x56 x57 x58 x59 x60 x61 x62 x63 x64 x65 x66 x67 x68 x69 x70 x71 x72 x73 x74 x75 x76 x77 x78 x79 x80 x81 x82 x83 x84 x85 x86 x87 x88 x89 x90 x91 x92 x93 x94 x95 x96 x97 x98 x99 x100 x101 x102 x103 x104 x105 x106 x107 x108 x109 x110 x111 x112 x113 x114 x115 x116 x117 x118 x119 x120 x121 x122 x123 x124 x125 x126 x127 x128 x129 x130 x131 x132 x133 x134 x135 x136 x137 x138 x139 x140 x141 x142 x143 x144 x145 x146 x147 x148 x149 x150 x151 x152 x153 x154 x155 x156 x157 x158 x159 x160 x161 x162 x163 x164 x165 x166 x167 x168 x169 x170 x171 x172 x173 x174 x175 x176 x177 x178 x179 x180 x181 x182 x183 x184 x185 x186 x187 x188 x189 x190 x191 x192 x193 x194 x195 x196 x197 x198 x199 x200 x201 x202 x203 x204 x205 x206 x207 x208 x209 x210 x211 x212 x213 x214 x215 x216 x217 x218 x219 x220 x221 x222 x223 x224 x225 x226 x227 x228 x229 x230 x231 x232 x233 x234 x235 x236 x237 x238 x239 x240 x241 x242 x243 x244 x245 x246 x247 x248 x249 x250 x251 x252 x253 x254 x255 x256 x257 x258 x259 x260 x261 x262 x263 x264 x265 x266 x267 x268 x269 x270 x271 x272 x273 x274 x275 x276 x277 x278 x279 x280 x281 x282 x283 x284 x285 x286 x287 x288 x289 x290 x291 x292 x293 x294 x295 x296 x297 x298 x299 x300 x301 x302 x303 x304 x305 x306 x307 x308 x309 x310 x311 x312 x313 x314 x315 x316 x317 x318 x319 x320 x321 x322 x323 x324 x325 x326 x327 x328 x329 x330 x331 x332 x333 x334 x335 x336 x337 x338 x339 x340 x341 x342 x343 x344 x345 x346 x347 x348 x349 x350 x351 x352 x353 x354 x355 x356 x357 x358 x359 x360 x361 x362 x363 x364 x365 x366 x367 x368 x369 x370 x371 x372 x373 x374 x375 x376 x377 x378 x379 x380 x381 x382 x383 x384 x385 x386 x387 x388 x389 x390 x391 x392 x393 x394 x395 x396 x397 x398 x399 x400 x401 x402 x403 x404 x405 x406 x407 x408 x409 x410 x411 x412 x413 x414 x415 x416 x417 x418 x419 x420 x421 x422 x423 x424 x425 x426 x427 x428 x429 x430 x431 x432 x433 x434 x435 x436 x437 x438 x439 x440 x441 x442 x443 x444 x445 x446 x447 x448 x449 x450 x451 x452 x453 x454 x455 x456 x457 x458 x459 x460 x461 x462 x463 x464 x465 x466 x467 x468 x469 x470 x471 x472 : Value}
    (A357 : Aside0 (impl_HeightAt.f k a1_0 a1_1 a1_2 a2 a3 = some (t324, t325, p)))
    (A358 : Aside0 (spec_HeightAt.f k a1_0 a1_1 a1_2 a2 a3 = some (t324, t325, p)))
    (A359 : Aside0 (impl_HighestAt.f k a1_0 a1_1 a1_2 a3 = some (t330, t331, p)))
    (A360 : Aside0 (spec_HighestAt.f k a1_0 a1_1 a1_2 a3 = some (t330, t331, p)))
    (A361 : Aside0 (impl_OtherHeight.f k a4 a5 a6 = some (t336, t337, q)))
    (A362 : Aside0 (spec_OtherHeight.f k a4 a5 a6 = some (t336, t337, q)))
    (A363 : Aside0 (impl_MoveWall.f a7_0 a7_1 a7_2 a8 = some (t342, t343, t344, s)))
    (A364 : Aside0 (spec_MoveWall.f a7_0 a7_1 a7_2 a8 = some (t342, t343, t344, s)))
    (HP : Aside0 (p = true → ∃ t352 t353 : Int, Aside0 (impl_HeightAt.f k a1_0 a1_1 a1_2 (!a2) a3 = some (t352, t353, true)) ∧ Aside0 ((wrap64 (t324 * t331)) ≤ (wrap64 (t330 * t325))) ∧ Aside0 ((wrap64 (t352 * t331)) ≤ (wrap64 (t330 * t353))) ∧ Aside0 ((wrap64 (t330 * t325)) = (wrap64 (t324 * t331)) ∨ (wrap64 (t330 * t353)) = (wrap64 (t352 * t331)))))
    (HQ : Aside0 (q = true → Aside0 (laws_jLow.f k t336 t337 = some true) ∧ Aside0 ((wrap64 (a5 * (wrap64 (t336 + (wrap64 (a4 * t337)))))) = (wrap64 ((wrap64 (a6 * a4)) * t336)))))
    (HS : Aside0 (s = true → ∃ t356 t357 : Int, Aside0 (impl_CrossHeight.f k a7_0 a7_1 a7_2 = some (t356, t357, true)) ∧ Aside0 (impl_CrossHeight.f k t342 t343 t344 = some (t356, t357, true)) ∧ Aside0 (impl_MoveWall.f t342 t343 t344 (wrap64 (-a8)) = some (a7_0, a7_1, a7_2, true))))
    (GE258 : Aside0 (w.heap.size ≤ gb258))
    (GE259 : Aside0 (w.heap.size ≤ gb259))
    (GE260 : Aside0 (w.heap.size ≤ gb260))
    (GE297 : Aside0 (w.heap.size ≤ gb297))
    (GE302 : Aside0 (w.heap.size ≤ gb302))
    (NB258_259 : Aside0 (gb258 ≠ gb259))
    (NB258_260 : Aside0 (gb258 ≠ gb260))
    (NB259_258 : Aside0 (gb259 ≠ gb258))
    (NB259_260 : Aside0 (gb259 ≠ gb260))
    (NB259_297 : Aside0 (gb259 ≠ gb297))
    (NB259_302 : Aside0 (gb259 ≠ gb302))
    (NB260_258 : Aside0 (gb260 ≠ gb258))
    (NB260_259 : Aside0 (gb260 ≠ gb259))
    (NB260_297 : Aside0 (gb260 ≠ gb297))
    (NB260_302 : Aside0 (gb260 ≠ gb302))
    (NB297_259 : Aside0 (gb297 ≠ gb259))
    (NB297_260 : Aside0 (gb297 ≠ gb260))
    (NB302_259 : Aside0 (gb302 ≠ gb259))
    (NB302_260 : Aside0 (gb302 ≠ gb260))
    (hcut : Aside0 (wc.heap[gb258]? = some (.cells #[.int .i64 a0_0, .int .i64 a0_1, .int .i64 a0_2] 23 (0, 0))) ∧ Aside0 (wc.heap[gb259]? = some (.cells #[.int .i64 a1_0, .int .i64 a1_1, .int .i64 a1_2] 23 (0, 0))) ∧ Aside0 (wc.heap[gb260]? = some (.cells #[.int .i64 a7_0, .int .i64 a7_1, .int .i64 a7_2] 23 (0, 0))) ∧ Aside0 (wc.heap[gb297]? = some (.cells #[.int .i64 t293, .int .i64 t294, .int .i64 t295] 23 (0, 0))) ∧ Aside0 (wc.heap[gb302]? = some (.cells #[.int .i64 t293, .int .i64 t294, .int .i64 t295] 23 (0, 0))) ∧ Aside0 (Below w.heap.size w wc)) :
    (dropC 17 (Tryd.f4.body.getD Code.skip)).wp Tryd.prog (bodyPost Tryd.prog Tryd.f4 fun e w' => e = .returned (.bool true) ∧ Below w.heap.size w w') (Act.mk (List.toArray ((Value.agg #[.int .i64 a0_0, .int .i64 a0_1, .int .i64 a0_2]) :: (Value.agg #[.int .i64 a1_0, .int .i64 a1_1, .int .i64 a1_2]) :: (Value.bool a2) :: (Value.int .i64 a3) :: (Value.int .i64 a4) :: (Value.int .i64 a5) :: (Value.int .i64 a6) :: (Value.agg #[.int .i64 a7_0, .int .i64 a7_1, .int .i64 a7_2]) :: (Value.int .i64 a8) :: (Value.pointer (some ⟨gb258, 0, none⟩)) :: (Value.pointer (some ⟨gb259, 0, none⟩)) :: undef :: undef :: undef :: undef :: undef :: (Value.pointer (some ⟨gb260, 0, none⟩)) :: undef :: x18 :: x19 :: x20 :: x21 :: x22 :: x23 :: x24 :: x25 :: x26 :: x27 :: x28 :: x29 :: x30 :: x31 :: x32 :: x33 :: x34 :: x35 :: x36 :: x37 :: x38 :: x39 :: x40 :: x41 :: x42 :: x43 :: x44 :: x45 :: x46 :: x47 :: x48 :: x49 :: x50 :: x51 :: x52 :: x53 :: x54 :: x55 :: x56 :: x57 :: x58 :: x59 :: x60 :: x61 :: x62 :: x63 :: x64 :: x65 :: x66 :: x67 :: x68 :: x69 :: x70 :: x71 :: x72 :: x73 :: x74 :: x75 :: x76 :: x77 :: x78 :: x79 :: x80 :: x81 :: x82 :: x83 :: x84 :: x85 :: x86 :: x87 :: x88 :: x89 :: x90 :: x91 :: x92 :: x93 :: x94 :: x95 :: x96 :: x97 :: x98 :: x99 :: x100 :: x101 :: x102 :: x103 :: x104 :: x105 :: x106 :: x107 :: x108 :: x109 :: x110 :: x111 :: x112 :: x113 :: x114 :: x115 :: x116 :: x117 :: x118 :: x119 :: x120 :: x121 :: x122 :: x123 :: x124 :: x125 :: x126 :: x127 :: x128 :: x129 :: x130 :: x131 :: x132 :: x133 :: x134 :: x135 :: x136 :: x137 :: x138 :: x139 :: x140 :: x141 :: x142 :: x143 :: x144 :: x145 :: x146 :: x147 :: x148 :: x149 :: x150 :: x151 :: x152 :: x153 :: x154 :: x155 :: x156 :: x157 :: x158 :: x159 :: x160 :: x161 :: x162 :: x163 :: x164 :: x165 :: x166 :: x167 :: x168 :: x169 :: x170 :: x171 :: x172 :: x173 :: x174 :: x175 :: x176 :: x177 :: x178 :: x179 :: x180 :: x181 :: x182 :: x183 :: x184 :: x185 :: x186 :: x187 :: x188 :: x189 :: x190 :: x191 :: x192 :: x193 :: x194 :: x195 :: x196 :: x197 :: x198 :: x199 :: x200 :: x201 :: x202 :: x203 :: x204 :: x205 :: x206 :: x207 :: x208 :: x209 :: x210 :: x211 :: x212 :: x213 :: x214 :: x215 :: x216 :: x217 :: x218 :: x219 :: x220 :: x221 :: x222 :: x223 :: x224 :: x225 :: x226 :: x227 :: x228 :: x229 :: x230 :: x231 :: x232 :: x233 :: x234 :: x235 :: x236 :: x237 :: x238 :: x239 :: x240 :: x241 :: x242 :: x243 :: x244 :: x245 :: x246 :: x247 :: x248 :: x249 :: x250 :: x251 :: x252 :: x253 :: x254 :: x255 :: x256 :: x257 :: x258 :: x259 :: x260 :: x261 :: x262 :: x263 :: x264 :: x265 :: x266 :: x267 :: x268 :: x269 :: x270 :: x271 :: x272 :: x273 :: x274 :: x275 :: x276 :: x277 :: x278 :: x279 :: x280 :: x281 :: x282 :: x283 :: x284 :: x285 :: x286 :: x287 :: x288 :: x289 :: x290 :: x291 :: x292 :: x293 :: x294 :: x295 :: x296 :: x297 :: x298 :: x299 :: x300 :: x301 :: x302 :: x303 :: x304 :: x305 :: x306 :: x307 :: x308 :: x309 :: x310 :: x311 :: x312 :: x313 :: x314 :: x315 :: x316 :: x317 :: x318 :: x319 :: x320 :: x321 :: x322 :: x323 :: x324 :: x325 :: x326 :: x327 :: x328 :: x329 :: x330 :: x331 :: x332 :: x333 :: x334 :: x335 :: x336 :: x337 :: x338 :: x339 :: x340 :: x341 :: x342 :: x343 :: x344 :: x345 :: x346 :: x347 :: x348 :: x349 :: x350 :: x351 :: x352 :: x353 :: x354 :: x355 :: x356 :: x357 :: x358 :: x359 :: x360 :: x361 :: x362 :: x363 :: x364 :: x365 :: x366 :: x367 :: x368 :: x369 :: x370 :: x371 :: x372 :: x373 :: x374 :: x375 :: x376 :: x377 :: x378 :: x379 :: x380 :: x381 :: x382 :: x383 :: x384 :: x385 :: x386 :: x387 :: x388 :: x389 :: x390 :: x391 :: x392 :: x393 :: x394 :: x395 :: x396 :: x397 :: x398 :: x399 :: x400 :: x401 :: x402 :: x403 :: x404 :: x405 :: x406 :: x407 :: x408 :: x409 :: x410 :: x411 :: x412 :: x413 :: x414 :: x415 :: x416 :: x417 :: x418 :: x419 :: x420 :: x421 :: x422 :: x423 :: x424 :: x425 :: x426 :: x427 :: x428 :: x429 :: x430 :: x431 :: x432 :: x433 :: x434 :: x435 :: x436 :: x437 :: x438 :: x439 :: x440 :: x441 :: x442 :: x443 :: x444 :: x445 :: x446 :: x447 :: x448 :: x449 :: x450 :: x451 :: x452 :: x453 :: x454 :: x455 :: x456 :: x457 :: x458 :: x459 :: x460 :: x461 :: x462 :: x463 :: x464 :: x465 :: x466 :: x467 :: x468 :: x469 :: x470 :: x471 :: x472 :: undef :: undef :: undef :: undef :: undef :: undef :: undef :: undef :: undef :: undef :: undef :: undef :: undef :: undef :: undef :: undef :: undef :: undef :: undef :: undef :: undef :: undef :: undef :: undef :: undef :: undef :: undef :: undef :: undef :: undef :: undef :: undef :: undef :: undef :: undef :: undef :: undef :: undef :: undef :: undef :: undef :: undef :: undef :: undef :: undef :: undef :: undef :: undef :: undef :: undef :: undef :: undef :: undef :: undef :: undef :: undef :: undef :: undef :: undef :: undef :: undef :: undef :: undef :: undef :: undef :: undef :: undef :: undef :: undef :: undef :: undef :: undef :: undef :: undef :: undef :: undef :: undef :: undef :: undef :: undef :: undef :: undef :: undef :: undef :: undef :: undef :: undef :: undef :: undef :: undef :: undef :: undef :: undef :: undef :: undef :: undef :: undef :: undef :: undef :: undef :: undef :: undef :: undef :: undef :: undef :: undef :: undef :: undef :: undef :: undef :: undef :: undef :: undef :: undef :: undef :: undef :: undef :: undef :: undef :: undef :: undef :: undef :: undef :: undef :: undef :: undef :: undef :: undef :: undef :: undef :: undef :: undef :: undef :: undef :: undef :: undef :: undef :: undef :: undef :: undef :: undef :: undef :: undef :: undef :: undef :: undef :: undef :: undef :: undef :: undef :: undef :: undef :: undef :: undef :: undef :: undef :: undef :: undef :: undef :: undef :: undef :: undef :: undef :: undef :: undef :: undef :: undef :: undef :: undef :: undef :: undef :: undef :: undef :: undef :: undef :: undef :: undef :: undef :: undef :: undef :: undef :: undef :: undef :: undef :: undef :: undef :: undef :: undef :: undef :: undef :: undef :: undef :: undef :: undef :: undef :: undef :: undef :: undef :: undef :: undef :: undef :: undef :: undef :: undef :: undef :: undef :: undef :: undef :: undef :: undef :: undef :: undef :: undef :: undef :: undef :: undef :: undef :: undef :: undef :: undef :: undef :: undef :: undef :: undef :: undef :: undef :: undef :: undef :: undef :: [])) []) wc := by
  have hu23 := Tryd.underlying23
  obtain ⟨BK258, BK259, BK260, BK297, BK302, HB⟩ := hcut
  change Code.wp _ (Code.seq _ _) _ _ _
  have hnb366 := NB259_258.out
  have hnc366 := NB258_259.out
  have hnb367 := NB259_260.out
  have hnc367 := NB260_259.out
  have hnb368 := NB259_297.out
  have hnc368 := NB297_259.out
  have hnb369 := NB259_302.out
  have hnc369 := NB302_259.out
  have hcz370_0 : wc.cell? ⟨gb259, 0, none⟩ = some (.int .i64 a1_0) := (blk_cell BK259.out 0).trans rfl
  have hcz370_1 : wc.cell? ⟨gb259, 1, none⟩ = some (.int .i64 a1_1) := (blk_cell BK259.out 1).trans rfl
  have hcz370_2 : wc.cell? ⟨gb259, 2, none⟩ = some (.int .i64 a1_2) := (blk_cell BK259.out 2).trans rfl
  have hfz370_0 := blk_frozen BK259.out 0
  have hfz370_1 := blk_frozen BK259.out 1
  have hfz370_2 := blk_frozen BK259.out 2
  go_upto_region 38 with (first | ((with_reducible refine gate_callee (f := 44) rfl ?_); refine goesL_ (some 477) rfl rfl Tryd.func44 (by kernel_rfl) rfl #[.agg #[.int .i64 a1_0, .int .i64 a1_1, .int .i64 a1_2], .bool a2, .int .i64 a3] rfl (by (try simp only [List.map_toArray, List.map_cons, List.map_nil]); first | done | rfl | (simp only [List.length_drop, List.length_take]; rfl)) ?_; (with_reducible refine (impl_HeightAt.calls k a1_0 a1_1 a1_2 a2 a3 t324 t325 p _ A357.out).mono ?_); rintro e w371 ⟨rfl, hb⟩; refine ⟨_, rfl, ?_⟩; have n0_ := Aside0.mk (blk_below (g := gb258) (o := .cells #[.int .i64 a0_0, .int .i64 a0_1, .int .i64 a0_2] 23 (0, 0)) (by (with_reducible repeat (first | refine blk_drewN ?_ _ | refine blk_drew ?_ | refine blk_alloc ?_ _)); exact BK258.out) hb); have n1_ := Aside0.mk (blk_below (g := gb259) (o := .cells #[.int .i64 a1_0, .int .i64 a1_1, .int .i64 a1_2] 23 (0, 0)) (by (with_reducible repeat (first | refine blk_drewN ?_ _ | refine blk_drew ?_ | refine blk_alloc ?_ _)); exact BK259.out) hb); have n2_ := Aside0.mk (blk_below (g := gb260) (o := .cells #[.int .i64 a7_0, .int .i64 a7_1, .int .i64 a7_2] 23 (0, 0)) (by (with_reducible repeat (first | refine blk_drewN ?_ _ | refine blk_drew ?_ | refine blk_alloc ?_ _)); exact BK260.out) hb); have n3_ := Aside0.mk (blk_below (g := gb297) (o := .cells #[.int .i64 t293, .int .i64 t294, .int .i64 t295] 23 (0, 0)) (by (with_reducible repeat (first | refine blk_drewN ?_ _ | refine blk_drew ?_ | refine blk_alloc ?_ _)); exact BK297.out) hb); have n4_ := Aside0.mk (blk_below (g := gb302) (o := .cells #[.int .i64 t293, .int .i64 t294, .int .i64 t295] 23 (0, 0)) (by (with_reducible repeat (first | refine blk_drewN ?_ _ | refine blk_drew ?_ | refine blk_alloc ?_ _)); exact BK302.out) hb); have n5_ := Aside0.mk (below_step (by repeat (first | (with_reducible first | exact HB.out | apply below_alloc | apply pw_below_drewN | apply below_drew1 | refine below_set ?_ GE258.out | refine below_set ?_ GE259.out | refine below_set ?_ GE260.out | refine below_set ?_ GE297.out | refine below_set ?_ GE302.out) | exact HB.out)) hb); clear BK258; clear BK259; clear BK260; clear BK297; clear BK302; clear HB; have BK258 := n0_; have BK259 := n1_; have BK260 := n2_; have BK297 := n3_; have BK302 := n4_; have HB := n5_; clear n0_ n1_ n2_ n3_ n4_ n5_; (try clear hb); (try clear hb2); (try clear hk); (try clear hi); have hcz372_0 : w371.cell? ⟨gb259, 0, none⟩ = some (.int .i64 a1_0) := (blk_cell BK259.out 0).trans rfl; have hcz372_1 : w371.cell? ⟨gb259, 1, none⟩ = some (.int .i64 a1_1) := (blk_cell BK259.out 1).trans rfl; have hcz372_2 : w371.cell? ⟨gb259, 2, none⟩ = some (.int .i64 a1_2) := (blk_cell BK259.out 2).trans rfl; have hfz372_0 := blk_frozen BK259.out 0; have hfz372_1 := blk_frozen BK259.out 1; have hfz372_2 := blk_frozen BK259.out 2) | ((with_reducible refine gate_callee (f := 45) rfl ?_); refine goesL_ (some 485) rfl rfl Tryd.func45 (by kernel_rfl) rfl #[.agg #[.int .i64 a1_0, .int .i64 a1_1, .int .i64 a1_2], .bool a2, .int .i64 a3] rfl (by (try simp only [List.map_toArray, List.map_cons, List.map_nil]); first | done | rfl | (simp only [List.length_drop, List.length_take]; rfl)) ?_; (with_reducible refine (spec_HeightAt.calls k a1_0 a1_1 a1_2 a2 a3 t324 t325 p _ A358.out).mono ?_); rintro e w373 ⟨rfl, hb⟩; refine ⟨_, rfl, ?_⟩; have n0_ := Aside0.mk (blk_below (g := gb258) (o := .cells #[.int .i64 a0_0, .int .i64 a0_1, .int .i64 a0_2] 23 (0, 0)) (by (with_reducible repeat (first | refine blk_drewN ?_ _ | refine blk_drew ?_ | refine blk_alloc ?_ _)); exact BK258.out) hb); have n1_ := Aside0.mk (blk_below (g := gb259) (o := .cells #[.int .i64 a1_0, .int .i64 a1_1, .int .i64 a1_2] 23 (0, 0)) (by (with_reducible repeat (first | refine blk_drewN ?_ _ | refine blk_drew ?_ | refine blk_alloc ?_ _)); exact BK259.out) hb); have n2_ := Aside0.mk (blk_below (g := gb260) (o := .cells #[.int .i64 a7_0, .int .i64 a7_1, .int .i64 a7_2] 23 (0, 0)) (by (with_reducible repeat (first | refine blk_drewN ?_ _ | refine blk_drew ?_ | refine blk_alloc ?_ _)); exact BK260.out) hb); have n3_ := Aside0.mk (blk_below (g := gb297) (o := .cells #[.int .i64 t293, .int .i64 t294, .int .i64 t295] 23 (0, 0)) (by (with_reducible repeat (first | refine blk_drewN ?_ _ | refine blk_drew ?_ | refine blk_alloc ?_ _)); exact BK297.out) hb); have n4_ := Aside0.mk (blk_below (g := gb302) (o := .cells #[.int .i64 t293, .int .i64 t294, .int .i64 t295] 23 (0, 0)) (by (with_reducible repeat (first | refine blk_drewN ?_ _ | refine blk_drew ?_ | refine blk_alloc ?_ _)); exact BK302.out) hb); have n5_ := Aside0.mk (below_step (by repeat (first | (with_reducible first | exact HB.out | apply below_alloc | apply pw_below_drewN | apply below_drew1 | refine below_set ?_ GE258.out | refine below_set ?_ GE259.out | refine below_set ?_ GE260.out | refine below_set ?_ GE297.out | refine below_set ?_ GE302.out) | exact HB.out)) hb); clear BK258; clear BK259; clear BK260; clear BK297; clear BK302; clear HB; have BK258 := n0_; have BK259 := n1_; have BK260 := n2_; have BK297 := n3_; have BK302 := n4_; have HB := n5_; clear n0_ n1_ n2_ n3_ n4_ n5_; (try clear hb); (try clear hb2); (try clear hk); (try clear hi); have hcz374_0 : w373.cell? ⟨gb259, 0, none⟩ = some (.int .i64 a1_0) := (blk_cell BK259.out 0).trans rfl; have hcz374_1 : w373.cell? ⟨gb259, 1, none⟩ = some (.int .i64 a1_1) := (blk_cell BK259.out 1).trans rfl; have hcz374_2 : w373.cell? ⟨gb259, 2, none⟩ = some (.int .i64 a1_2) := (blk_cell BK259.out 2).trans rfl; have hfz374_0 := blk_frozen BK259.out 0; have hfz374_1 := blk_frozen BK259.out 1; have hfz374_2 := blk_frozen BK259.out 2) | ((with_reducible refine gate_callee (f := 46) rfl ?_); refine goesL_ (some 492) rfl rfl Tryd.func46 (by kernel_rfl) rfl #[.agg #[.int .i64 a1_0, .int .i64 a1_1, .int .i64 a1_2], .int .i64 a3] rfl (by (try simp only [List.map_toArray, List.map_cons, List.map_nil]); first | done | rfl | (simp only [List.length_drop, List.length_take]; rfl)) ?_; (with_reducible refine (impl_HighestAt.calls k a1_0 a1_1 a1_2 a3 t330 t331 p _ A359.out).mono ?_); rintro e w375 ⟨rfl, hb⟩; refine ⟨_, rfl, ?_⟩; have n0_ := Aside0.mk (blk_below (g := gb258) (o := .cells #[.int .i64 a0_0, .int .i64 a0_1, .int .i64 a0_2] 23 (0, 0)) (by (with_reducible repeat (first | refine blk_drewN ?_ _ | refine blk_drew ?_ | refine blk_alloc ?_ _)); exact BK258.out) hb); have n1_ := Aside0.mk (blk_below (g := gb259) (o := .cells #[.int .i64 a1_0, .int .i64 a1_1, .int .i64 a1_2] 23 (0, 0)) (by (with_reducible repeat (first | refine blk_drewN ?_ _ | refine blk_drew ?_ | refine blk_alloc ?_ _)); exact BK259.out) hb); have n2_ := Aside0.mk (blk_below (g := gb260) (o := .cells #[.int .i64 a7_0, .int .i64 a7_1, .int .i64 a7_2] 23 (0, 0)) (by (with_reducible repeat (first | refine blk_drewN ?_ _ | refine blk_drew ?_ | refine blk_alloc ?_ _)); exact BK260.out) hb); have n3_ := Aside0.mk (blk_below (g := gb297) (o := .cells #[.int .i64 t293, .int .i64 t294, .int .i64 t295] 23 (0, 0)) (by (with_reducible repeat (first | refine blk_drewN ?_ _ | refine blk_drew ?_ | refine blk_alloc ?_ _)); exact BK297.out) hb); have n4_ := Aside0.mk (blk_below (g := gb302) (o := .cells #[.int .i64 t293, .int .i64 t294, .int .i64 t295] 23 (0, 0)) (by (with_reducible repeat (first | refine blk_drewN ?_ _ | refine blk_drew ?_ | refine blk_alloc ?_ _)); exact BK302.out) hb); have n5_ := Aside0.mk (below_step (by repeat (first | (with_reducible first | exact HB.out | apply below_alloc | apply pw_below_drewN | apply below_drew1 | refine below_set ?_ GE258.out | refine below_set ?_ GE259.out | refine below_set ?_ GE260.out | refine below_set ?_ GE297.out | refine below_set ?_ GE302.out) | exact HB.out)) hb); clear BK258; clear BK259; clear BK260; clear BK297; clear BK302; clear HB; have BK258 := n0_; have BK259 := n1_; have BK260 := n2_; have BK297 := n3_; have BK302 := n4_; have HB := n5_; clear n0_ n1_ n2_ n3_ n4_ n5_; (try clear hb); (try clear hb2); (try clear hk); (try clear hi); have hcz376_0 : w375.cell? ⟨gb259, 0, none⟩ = some (.int .i64 a1_0) := (blk_cell BK259.out 0).trans rfl; have hcz376_1 : w375.cell? ⟨gb259, 1, none⟩ = some (.int .i64 a1_1) := (blk_cell BK259.out 1).trans rfl; have hcz376_2 : w375.cell? ⟨gb259, 2, none⟩ = some (.int .i64 a1_2) := (blk_cell BK259.out 2).trans rfl; have hfz376_0 := blk_frozen BK259.out 0; have hfz376_1 := blk_frozen BK259.out 1; have hfz376_2 := blk_frozen BK259.out 2) | ((with_reducible refine gate_callee (f := 47) rfl ?_); refine goesL_ (some 499) rfl rfl Tryd.func47 (by kernel_rfl) rfl #[.agg #[.int .i64 a1_0, .int .i64 a1_1, .int .i64 a1_2], .int .i64 a3] rfl (by (try simp only [List.map_toArray, List.map_cons, List.map_nil]); first | done | rfl | (simp only [List.length_drop, List.length_take]; rfl)) ?_; (with_reducible refine (spec_HighestAt.calls k a1_0 a1_1 a1_2 a3 t330 t331 p _ A360.out).mono ?_); rintro e w377 ⟨rfl, hb⟩; refine ⟨_, rfl, ?_⟩; have n0_ := Aside0.mk (blk_below (g := gb258) (o := .cells #[.int .i64 a0_0, .int .i64 a0_1, .int .i64 a0_2] 23 (0, 0)) (by (with_reducible repeat (first | refine blk_drewN ?_ _ | refine blk_drew ?_ | refine blk_alloc ?_ _)); exact BK258.out) hb); have n1_ := Aside0.mk (blk_below (g := gb259) (o := .cells #[.int .i64 a1_0, .int .i64 a1_1, .int .i64 a1_2] 23 (0, 0)) (by (with_reducible repeat (first | refine blk_drewN ?_ _ | refine blk_drew ?_ | refine blk_alloc ?_ _)); exact BK259.out) hb); have n2_ := Aside0.mk (blk_below (g := gb260) (o := .cells #[.int .i64 a7_0, .int .i64 a7_1, .int .i64 a7_2] 23 (0, 0)) (by (with_reducible repeat (first | refine blk_drewN ?_ _ | refine blk_drew ?_ | refine blk_alloc ?_ _)); exact BK260.out) hb); have n3_ := Aside0.mk (blk_below (g := gb297) (o := .cells #[.int .i64 t293, .int .i64 t294, .int .i64 t295] 23 (0, 0)) (by (with_reducible repeat (first | refine blk_drewN ?_ _ | refine blk_drew ?_ | refine blk_alloc ?_ _)); exact BK297.out) hb); have n4_ := Aside0.mk (blk_below (g := gb302) (o := .cells #[.int .i64 t293, .int .i64 t294, .int .i64 t295] 23 (0, 0)) (by (with_reducible repeat (first | refine blk_drewN ?_ _ | refine blk_drew ?_ | refine blk_alloc ?_ _)); exact BK302.out) hb); have n5_ := Aside0.mk (below_step (by repeat (first | (with_reducible first | exact HB.out | apply below_alloc | apply pw_below_drewN | apply below_drew1 | refine below_set ?_ GE258.out | refine below_set ?_ GE259.out | refine below_set ?_ GE260.out | refine below_set ?_ GE297.out | refine below_set ?_ GE302.out) | exact HB.out)) hb); clear BK258; clear BK259; clear BK260; clear BK297; clear BK302; clear HB; have BK258 := n0_; have BK259 := n1_; have BK260 := n2_; have BK297 := n3_; have BK302 := n4_; have HB := n5_; clear n0_ n1_ n2_ n3_ n4_ n5_; (try clear hb); (try clear hb2); (try clear hk); (try clear hi)) | ((with_reducible refine gate_callee (f := 43) rfl ?_); refine goesL_ (some 507) rfl rfl Tryd.func43 (by kernel_rfl) rfl #[.int .i64 a4, .int .i64 a5, .int .i64 a6] rfl (by (try simp only [List.map_toArray, List.map_cons, List.map_nil]); first | done | rfl | (simp only [List.length_drop, List.length_take]; rfl)) ?_; (with_reducible refine (impl_OtherHeight.calls k a4 a5 a6 t336 t337 q _ A361.out).mono ?_); rintro e w378 ⟨rfl, hb⟩; refine ⟨_, rfl, ?_⟩; have n0_ := Aside0.mk (blk_below (g := gb258) (o := .cells #[.int .i64 a0_0, .int .i64 a0_1, .int .i64 a0_2] 23 (0, 0)) (by (with_reducible repeat (first | refine blk_drewN ?_ _ | refine blk_drew ?_ | refine blk_alloc ?_ _)); exact BK258.out) hb); have n1_ := Aside0.mk (blk_below (g := gb259) (o := .cells #[.int .i64 a1_0, .int .i64 a1_1, .int .i64 a1_2] 23 (0, 0)) (by (with_reducible repeat (first | refine blk_drewN ?_ _ | refine blk_drew ?_ | refine blk_alloc ?_ _)); exact BK259.out) hb); have n2_ := Aside0.mk (blk_below (g := gb260) (o := .cells #[.int .i64 a7_0, .int .i64 a7_1, .int .i64 a7_2] 23 (0, 0)) (by (with_reducible repeat (first | refine blk_drewN ?_ _ | refine blk_drew ?_ | refine blk_alloc ?_ _)); exact BK260.out) hb); have n3_ := Aside0.mk (blk_below (g := gb297) (o := .cells #[.int .i64 t293, .int .i64 t294, .int .i64 t295] 23 (0, 0)) (by (with_reducible repeat (first | refine blk_drewN ?_ _ | refine blk_drew ?_ | refine blk_alloc ?_ _)); exact BK297.out) hb); have n4_ := Aside0.mk (blk_below (g := gb302) (o := .cells #[.int .i64 t293, .int .i64 t294, .int .i64 t295] 23 (0, 0)) (by (with_reducible repeat (first | refine blk_drewN ?_ _ | refine blk_drew ?_ | refine blk_alloc ?_ _)); exact BK302.out) hb); have n5_ := Aside0.mk (below_step (by repeat (first | (with_reducible first | exact HB.out | apply below_alloc | apply pw_below_drewN | apply below_drew1 | refine below_set ?_ GE258.out | refine below_set ?_ GE259.out | refine below_set ?_ GE260.out | refine below_set ?_ GE297.out | refine below_set ?_ GE302.out) | exact HB.out)) hb); clear BK258; clear BK259; clear BK260; clear BK297; clear BK302; clear HB; have BK258 := n0_; have BK259 := n1_; have BK260 := n2_; have BK297 := n3_; have BK302 := n4_; have HB := n5_; clear n0_ n1_ n2_ n3_ n4_ n5_; (try clear hb); (try clear hb2); (try clear hk); (try clear hi)) | ((with_reducible refine gate_callee (f := 48) rfl ?_); refine goesL_ (some 515) rfl rfl Tryd.func48 (by kernel_rfl) rfl #[.int .i64 a4, .int .i64 a5, .int .i64 a6] rfl (by (try simp only [List.map_toArray, List.map_cons, List.map_nil]); first | done | rfl | (simp only [List.length_drop, List.length_take]; rfl)) ?_; (with_reducible refine (spec_OtherHeight.calls k a4 a5 a6 t336 t337 q _ A362.out).mono ?_); rintro e w' ⟨rfl, ⟨nd, rfl⟩⟩; refine ⟨_, rfl, ?_⟩; (try (rw [drewN_self w378]; generalize hq_ : World.drewN w378 _ = w378; have n0_ : Aside0 (w378.heap[gb258]? = some (.cells #[.int .i64 a0_0, .int .i64 a0_1, .int .i64 a0_2] 23 (0, 0))) := ⟨by rw [← hq_]; exact (by (with_reducible repeat (first | refine blk_drewN ?_ _ | refine blk_drew ?_ | refine blk_alloc ?_ _)); exact BK258.out)⟩; have n1_ : Aside0 (w378.heap[gb259]? = some (.cells #[.int .i64 a1_0, .int .i64 a1_1, .int .i64 a1_2] 23 (0, 0))) := ⟨by rw [← hq_]; exact (by (with_reducible repeat (first | refine blk_drewN ?_ _ | refine blk_drew ?_ | refine blk_alloc ?_ _)); exact BK259.out)⟩; have n2_ : Aside0 (w378.heap[gb260]? = some (.cells #[.int .i64 a7_0, .int .i64 a7_1, .int .i64 a7_2] 23 (0, 0))) := ⟨by rw [← hq_]; exact (by (with_reducible repeat (first | refine blk_drewN ?_ _ | refine blk_drew ?_ | refine blk_alloc ?_ _)); exact BK260.out)⟩; have n3_ : Aside0 (w378.heap[gb297]? = some (.cells #[.int .i64 t293, .int .i64 t294, .int .i64 t295] 23 (0, 0))) := ⟨by rw [← hq_]; exact (by (with_reducible repeat (first | refine blk_drewN ?_ _ | refine blk_drew ?_ | refine blk_alloc ?_ _)); exact BK297.out)⟩; have n4_ : Aside0 (w378.heap[gb302]? = some (.cells #[.int .i64 t293, .int .i64 t294, .int .i64 t295] 23 (0, 0))) := ⟨by rw [← hq_]; exact (by (with_reducible repeat (first | refine blk_drewN ?_ _ | refine blk_drew ?_ | refine blk_alloc ?_ _)); exact BK302.out)⟩; have n5_ : Aside0 (Below w.heap.size w w378) := ⟨by rw [← hq_]; exact (by repeat (first | (with_reducible first | exact HB.out | apply below_alloc | apply pw_below_drewN | apply below_drew1 | refine below_set ?_ GE258.out | refine below_set ?_ GE259.out | refine below_set ?_ GE260.out | refine below_set ?_ GE297.out | refine below_set ?_ GE302.out) | exact HB.out))⟩; clear BK258 BK259 BK260 BK297 BK302 HB hq_; have BK258 := n0_; have BK259 := n1_; have BK260 := n2_; have BK297 := n3_; have BK302 := n4_; have HB := n5_; clear n0_ n1_ n2_ n3_ n4_ n5_)); have hnb379 := NB260_258.out; have hnc379 := NB258_260.out; have hnb380 := NB260_297.out; have hnc380 := NB297_260.out; have hnb381 := NB260_302.out; have hnc381 := NB302_260.out; have hcz382_0 : w378.cell? ⟨gb260, 0, none⟩ = some (.int .i64 a7_0) := (blk_cell BK260.out 0).trans rfl; have hcz382_1 : w378.cell? ⟨gb260, 1, none⟩ = some (.int .i64 a7_1) := (blk_cell BK260.out 1).trans rfl; have hcz382_2 : w378.cell? ⟨gb260, 2, none⟩ = some (.int .i64 a7_2) := (blk_cell BK260.out 2).trans rfl; have hfz382_0 := blk_frozen BK260.out 0; have hfz382_1 := blk_frozen BK260.out 1; have hfz382_2 := blk_frozen BK260.out 2) | ((with_reducible refine gate_callee (f := 49) rfl ?_); refine goesL_ (some 522) rfl rfl Tryd.func49 (by kernel_rfl) rfl #[.agg #[.int .i64 a7_0, .int .i64 a7_1, .int .i64 a7_2], .int .i64 a8] rfl (by (try simp only [List.map_toArray, List.map_cons, List.map_nil]); first | done | rfl | (simp only [List.length_drop, List.length_take]; rfl)) ?_; (with_reducible refine (impl_MoveWall.calls a7_0 a7_1 a7_2 a8 t342 t343 t344 s _ A363.out).mono ?_); rintro e w383 ⟨rfl, hb⟩; refine ⟨_, rfl, ?_⟩; have n0_ := Aside0.mk (blk_below (g := gb258) (o := .cells #[.int .i64 a0_0, .int .i64 a0_1, .int .i64 a0_2] 23 (0, 0)) (by (with_reducible repeat (first | refine blk_drewN ?_ _ | refine blk_drew ?_ | refine blk_alloc ?_ _)); exact BK258.out) hb); have n1_ := Aside0.mk (blk_below (g := gb259) (o := .cells #[.int .i64 a1_0, .int .i64 a1_1, .int .i64 a1_2] 23 (0, 0)) (by (with_reducible repeat (first | refine blk_drewN ?_ _ | refine blk_drew ?_ | refine blk_alloc ?_ _)); exact BK259.out) hb); have n2_ := Aside0.mk (blk_below (g := gb260) (o := .cells #[.int .i64 a7_0, .int .i64 a7_1, .int .i64 a7_2] 23 (0, 0)) (by (with_reducible repeat (first | refine blk_drewN ?_ _ | refine blk_drew ?_ | refine blk_alloc ?_ _)); exact BK260.out) hb); have n3_ := Aside0.mk (blk_below (g := gb297) (o := .cells #[.int .i64 t293, .int .i64 t294, .int .i64 t295] 23 (0, 0)) (by (with_reducible repeat (first | refine blk_drewN ?_ _ | refine blk_drew ?_ | refine blk_alloc ?_ _)); exact BK297.out) hb); have n4_ := Aside0.mk (blk_below (g := gb302) (o := .cells #[.int .i64 t293, .int .i64 t294, .int .i64 t295] 23 (0, 0)) (by (with_reducible repeat (first | refine blk_drewN ?_ _ | refine blk_drew ?_ | refine blk_alloc ?_ _)); exact BK302.out) hb); have n5_ := Aside0.mk (below_step (by repeat (first | (with_reducible first | exact HB.out | apply below_alloc | apply pw_below_drewN | apply below_drew1 | refine below_set ?_ GE258.out | refine below_set ?_ GE259.out | refine below_set ?_ GE260.out | refine below_set ?_ GE297.out | refine below_set ?_ GE302.out) | exact HB.out)) hb); clear BK258; clear BK259; clear BK260; clear BK297; clear BK302; clear HB; have BK258 := n0_; have BK259 := n1_; have BK260 := n2_; have BK297 := n3_; have BK302 := n4_; have HB := n5_; clear n0_ n1_ n2_ n3_ n4_ n5_; (try clear hb); (try clear hb2); (try clear hk); (try clear hi)) | ((with_reducible refine gate_dst (N := 85) rfl ?_); refine box_event ?hg (N := 85) ?hd (cs := #[.int .i64 0, .int .i64 0, .int .i64 0]) (t := 23) ?hr ?_; (case hd => rfl); (case hg => rfl); (case hr => first | (go_simp; done) | (go_simp; rfl)); intro gb346 hg w384 hbox hb; have n0_ := Aside0.mk (blk_below (g := gb258) (o := .cells #[.int .i64 a0_0, .int .i64 a0_1, .int .i64 a0_2] 23 (0, 0)) (by (with_reducible repeat (first | refine blk_drewN ?_ _ | refine blk_drew ?_ | refine blk_alloc ?_ _)); exact BK258.out) hb); have n1_ := Aside0.mk (blk_below (g := gb259) (o := .cells #[.int .i64 a1_0, .int .i64 a1_1, .int .i64 a1_2] 23 (0, 0)) (by (with_reducible repeat (first | refine blk_drewN ?_ _ | refine blk_drew ?_ | refine blk_alloc ?_ _)); exact BK259.out) hb); have n2_ := Aside0.mk (blk_below (g := gb260) (o := .cells #[.int .i64 a7_0, .int .i64 a7_1, .int .i64 a7_2] 23 (0, 0)) (by (with_reducible repeat (first | refine blk_drewN ?_ _ | refine blk_drew ?_ | refine blk_alloc ?_ _)); exact BK260.out) hb); have n3_ := Aside0.mk (blk_below (g := gb297) (o := .cells #[.int .i64 t293, .int .i64 t294, .int .i64 t295] 23 (0, 0)) (by (with_reducible repeat (first | refine blk_drewN ?_ _ | refine blk_drew ?_ | refine blk_alloc ?_ _)); exact BK297.out) hb); have n4_ := Aside0.mk (blk_below (g := gb302) (o := .cells #[.int .i64 t293, .int .i64 t294, .int .i64 t295] 23 (0, 0)) (by (with_reducible repeat (first | refine blk_drewN ?_ _ | refine blk_drew ?_ | refine blk_alloc ?_ _)); exact BK302.out) hb); have n5_ := Aside0.mk (below_step (by repeat (first | (with_reducible first | exact HB.out | apply below_alloc | apply pw_below_drewN | apply below_drew1 | refine below_set ?_ GE258.out | refine below_set ?_ GE259.out | refine below_set ?_ GE260.out | refine below_set ?_ GE297.out | refine below_set ?_ GE302.out) | exact HB.out)) hb); have n6_ := Aside0.mk (hbox); have n7_ := Aside0.mk ((by rw [hg]; exact (below_size (by repeat (first | (with_reducible first | exact HB.out | apply below_alloc | apply pw_below_drewN | apply below_drew1 | refine below_set ?_ GE258.out | refine below_set ?_ GE259.out | refine below_set ?_ GE260.out | refine below_set ?_ GE297.out | refine below_set ?_ GE302.out) | exact HB.out))) : w.heap.size ≤ gb346)); have n8_ := Aside0.mk ((by rw [hg]; exact (below_size (by repeat (first | (with_reducible first | exact HB.out | apply below_alloc | apply pw_below_drewN | apply below_drew1 | refine below_set ?_ GE258.out | refine below_set ?_ GE259.out | refine below_set ?_ GE260.out | refine below_set ?_ GE297.out | refine below_set ?_ GE302.out) | exact HB.out))) : w.heap.size ≤ gb346)); have n9_ := Aside0.mk ((by rw [hg]; exact Nat.ne_of_lt (blk_lt (g := gb258) (o := .cells #[.int .i64 a0_0, .int .i64 a0_1, .int .i64 a0_2] 23 (0, 0)) (by (with_reducible repeat (first | refine blk_drewN ?_ _ | refine blk_drew ?_ | refine blk_alloc ?_ _)); exact BK258.out)) : gb258 ≠ gb346)); have n10_ := Aside0.mk ((by rw [hg]; exact Nat.ne_of_gt (blk_lt (g := gb258) (o := .cells #[.int .i64 a0_0, .int .i64 a0_1, .int .i64 a0_2] 23 (0, 0)) (by (with_reducible repeat (first | refine blk_drewN ?_ _ | refine blk_drew ?_ | refine blk_alloc ?_ _)); exact BK258.out)) : gb346 ≠ gb258)); have n11_ := Aside0.mk ((by rw [hg]; exact Nat.ne_of_lt (blk_lt (g := gb259) (o := .cells #[.int .i64 a1_0, .int .i64 a1_1, .int .i64 a1_2] 23 (0, 0)) (by (with_reducible repeat (first | refine blk_drewN ?_ _ | refine blk_drew ?_ | refine blk_alloc ?_ _)); exact BK259.out)) : gb259 ≠ gb346)); have n12_ := Aside0.mk ((by rw [hg]; exact Nat.ne_of_gt (blk_lt (g := gb259) (o := .cells #[.int .i64 a1_0, .int .i64 a1_1, .int .i64 a1_2] 23 (0, 0)) (by (with_reducible repeat (first | refine blk_drewN ?_ _ | refine blk_drew ?_ | refine blk_alloc ?_ _)); exact BK259.out)) : gb346 ≠ gb259)); have n13_ := Aside0.mk ((by rw [hg]; exact Nat.ne_of_lt (blk_lt (g := gb260) (o := .cells #[.int .i64 a7_0, .int .i64 a7_1, .int .i64 a7_2] 23 (0, 0)) (by (with_reducible repeat (first | refine blk_drewN ?_ _ | refine blk_drew ?_ | refine blk_alloc ?_ _)); exact BK260.out)) : gb260 ≠ gb346)); have n14_ := Aside0.mk ((by rw [hg]; exact Nat.ne_of_gt (blk_lt (g := gb260) (o := .cells #[.int .i64 a7_0, .int .i64 a7_1, .int .i64 a7_2] 23 (0, 0)) (by (with_reducible repeat (first | refine blk_drewN ?_ _ | refine blk_drew ?_ | refine blk_alloc ?_ _)); exact BK260.out)) : gb346 ≠ gb260)); have n15_ := Aside0.mk ((by rw [hg]; exact Nat.ne_of_lt (blk_lt (g := gb297) (o := .cells #[.int .i64 t293, .int .i64 t294, .int .i64 t295] 23 (0, 0)) (by (with_reducible repeat (first | refine blk_drewN ?_ _ | refine blk_drew ?_ | refine blk_alloc ?_ _)); exact BK297.out)) : gb297 ≠ gb346)); have n16_ := Aside0.mk ((by rw [hg]; exact Nat.ne_of_gt (blk_lt (g := gb297) (o := .cells #[.int .i64 t293, .int .i64 t294, .int .i64 t295] 23 (0, 0)) (by (with_reducible repeat (first | refine blk_drewN ?_ _ | refine blk_drew ?_ | refine blk_alloc ?_ _)); exact BK297.out)) : gb346 ≠ gb297)); have n17_ := Aside0.mk ((by rw [hg]; exact Nat.ne_of_lt (blk_lt (g := gb302) (o := .cells #[.int .i64 t293, .int .i64 t294, .int .i64 t295] 23 (0, 0)) (by (with_reducible repeat (first | refine blk_drewN ?_ _ | refine blk_drew ?_ | refine blk_alloc ?_ _)); exact BK302.out)) : gb302 ≠ gb346)); have n18_ := Aside0.mk ((by rw [hg]; exact Nat.ne_of_gt (blk_lt (g := gb302) (o := .cells #[.int .i64 t293, .int .i64 t294, .int .i64 t295] 23 (0, 0)) (by (with_reducible repeat (first | refine blk_drewN ?_ _ | refine blk_drew ?_ | refine blk_alloc ?_ _)); exact BK302.out)) : gb346 ≠ gb302)); clear BK258; clear BK259; clear BK260; clear BK297; clear BK302; clear HB; have BK258 := n0_; have BK259 := n1_; have BK260 := n2_; have BK297 := n3_; have BK302 := n4_; have HB := n5_; have BK346 := n6_; have GW346 := n7_; have GE346 := n8_; have NB258_346 := n9_; have NB346_258 := n10_; have NB259_346 := n11_; have NB346_259 := n12_; have NB260_346 := n13_; have NB346_260 := n14_; have NB297_346 := n15_; have NB346_297 := n16_; have NB302_346 := n17_; have NB346_302 := n18_; clear n0_ n1_ n2_ n3_ n4_ n5_ n6_ n7_ n8_ n9_ n10_ n11_ n12_ n13_ n14_ n15_ n16_ n17_ n18_; clear hb hbox hg; have hnb385 := NB346_258.out; have hnc385 := NB258_346.out; have hnb386 := NB346_259.out; have hnc386 := NB259_346.out; have hnb387 := NB346_260.out; have hnc387 := NB260_346.out; have hnb388 := NB346_297.out; have hnc388 := NB297_346.out; have hnb389 := NB346_302.out; have hnc389 := NB302_346.out; have hcz390_0 : w384.cell? ⟨gb346, 0, none⟩ = some (.int .i64 0) := (blk_cell BK346.out 0).trans rfl; have hcz390_1 : w384.cell? ⟨gb346, 1, none⟩ = some (.int .i64 0) := (blk_cell BK346.out 1).trans rfl; have hcz390_2 : w384.cell? ⟨gb346, 2, none⟩ = some (.int .i64 0) := (blk_cell BK346.out 2).trans rfl; have hfz390_0 := blk_frozen BK346.out 0; have hfz390_1 := blk_frozen BK346.out 1; have hfz390_2 := blk_frozen BK346.out 2; have hcz391_0 : w384.cell? ⟨gb260, 0, none⟩ = some (.int .i64 a7_0) := (blk_cell BK260.out 0).trans rfl; have hcz391_1 : w384.cell? ⟨gb260, 1, none⟩ = some (.int .i64 a7_1) := (blk_cell BK260.out 1).trans rfl; have hcz391_2 : w384.cell? ⟨gb260, 2, none⟩ = some (.int .i64 a7_2) := (blk_cell BK260.out 2).trans rfl; have hfz391_0 := blk_frozen BK260.out 0; have hfz391_1 := blk_frozen BK260.out 1; have hfz391_2 := blk_frozen BK260.out 2) | ((with_reducible refine gate_callee (f := 50) rfl ?_); refine goesL_ (some 528) rfl rfl Tryd.func50 (by kernel_rfl) rfl #[.agg #[.int .i64 a7_0, .int .i64 a7_1, .int .i64 a7_2], .int .i64 a8] rfl (by (try simp only [List.map_toArray, List.map_cons, List.map_nil]); first | done | rfl | (simp only [List.length_drop, List.length_take]; rfl)) ?_; (with_reducible refine (spec_MoveWall.calls a7_0 a7_1 a7_2 a8 t342 t343 t344 s _ A364.out).mono ?_); rintro e w392 ⟨rfl, hb⟩; refine ⟨_, rfl, ?_⟩; have n0_ := Aside0.mk (blk_below (g := gb258) (o := .cells #[.int .i64 a0_0, .int .i64 a0_1, .int .i64 a0_2] 23 (0, 0)) (by (with_reducible repeat (first | refine blk_drewN ?_ _ | refine blk_drew ?_ | refine blk_alloc ?_ _)); refine blk_far ?_ NB258_346.out _; (with_reducible repeat (first | refine blk_drewN ?_ _ | refine blk_drew ?_ | refine blk_alloc ?_ _)); refine blk_far ?_ NB258_346.out _; (with_reducible repeat (first | refine blk_drewN ?_ _ | refine blk_drew ?_ | refine blk_alloc ?_ _)); refine blk_far ?_ NB258_346.out _; (with_reducible repeat (first | refine blk_drewN ?_ _ | refine blk_drew ?_ | refine blk_alloc ?_ _)); exact BK258.out) hb); have n1_ := Aside0.mk (blk_below (g := gb259) (o := .cells #[.int .i64 a1_0, .int .i64 a1_1, .int .i64 a1_2] 23 (0, 0)) (by (with_reducible repeat (first | refine blk_drewN ?_ _ | refine blk_drew ?_ | refine blk_alloc ?_ _)); refine blk_far ?_ NB259_346.out _; (with_reducible repeat (first | refine blk_drewN ?_ _ | refine blk_drew ?_ | refine blk_alloc ?_ _)); refine blk_far ?_ NB259_346.out _; (with_reducible repeat (first | refine blk_drewN ?_ _ | refine blk_drew ?_ | refine blk_alloc ?_ _)); refine blk_far ?_ NB259_346.out _; (with_reducible repeat (first | refine blk_drewN ?_ _ | refine blk_drew ?_ | refine blk_alloc ?_ _)); exact BK259.out) hb); have n2_ := Aside0.mk (blk_below (g := gb260) (o := .cells #[.int .i64 a7_0, .int .i64 a7_1, .int .i64 a7_2] 23 (0, 0)) (by (with_reducible repeat (first | refine blk_drewN ?_ _ | refine blk_drew ?_ | refine blk_alloc ?_ _)); refine blk_far ?_ NB260_346.out _; (with_reducible repeat (first | refine blk_drewN ?_ _ | refine blk_drew ?_ | refine blk_alloc ?_ _)); refine blk_far ?_ NB260_346.out _; (with_reducible repeat (first | refine blk_drewN ?_ _ | refine blk_drew ?_ | refine blk_alloc ?_ _)); refine blk_far ?_ NB260_346.out _; (with_reducible repeat (first | refine blk_drewN ?_ _ | refine blk_drew ?_ | refine blk_alloc ?_ _)); exact BK260.out) hb); have n3_ := Aside0.mk (blk_below (g := gb297) (o := .cells #[.int .i64 t293, .int .i64 t294, .int .i64 t295] 23 (0, 0)) (by (with_reducible repeat (first | refine blk_drewN ?_ _ | refine blk_drew ?_ | refine blk_alloc ?_ _)); refine blk_far ?_ NB297_346.out _; (with_reducible repeat (first | refine blk_drewN ?_ _ | refine blk_drew ?_ | refine blk_alloc ?_ _)); refine blk_far ?_ NB297_346.out _; (with_reducible repeat (first | refine blk_drewN ?_ _ | refine blk_drew ?_ | refine blk_alloc ?_ _)); refine blk_far ?_ NB297_346.out _; (with_reducible repeat (first | refine blk_drewN ?_ _ | refine blk_drew ?_ | refine blk_alloc ?_ _)); exact BK297.out) hb); have n4_ := Aside0.mk (blk_below (g := gb302) (o := .cells #[.int .i64 t293, .int .i64 t294, .int .i64 t295] 23 (0, 0)) (by (with_reducible repeat (first | refine blk_drewN ?_ _ | refine blk_drew ?_ | refine blk_alloc ?_ _)); refine blk_far ?_ NB302_346.out _; (with_reducible repeat (first | refine blk_drewN ?_ _ | refine blk_drew ?_ | refine blk_alloc ?_ _)); refine blk_far ?_ NB302_346.out _; (with_reducible repeat (first | refine blk_drewN ?_ _ | refine blk_drew ?_ | refine blk_alloc ?_ _)); refine blk_far ?_ NB302_346.out _; (with_reducible repeat (first | refine blk_drewN ?_ _ | refine blk_drew ?_ | refine blk_alloc ?_ _)); exact BK302.out) hb); have n5_ := Aside0.mk (blk_below (g := gb346) (o := .cells #[.int .i64 t342, .int .i64 t343, .int .i64 t344] 23 (0, 0)) (by (with_reducible repeat (first | refine blk_drewN ?_ _ | refine blk_drew ?_ | refine blk_alloc ?_ _)); refine blk_put (cs := #[.int .i64 t342, .int .i64 t343, .int .i64 0]) ?_ 2 _ rfl; (with_reducible repeat (first | refine blk_drewN ?_ _ | refine blk_drew ?_ | refine blk_alloc ?_ _)); refine blk_put (cs := #[.int .i64 t342, .int .i64 0, .int .i64 0]) ?_ 1 _ rfl; (with_reducible repeat (first | refine blk_drewN ?_ _ | refine blk_drew ?_ | refine blk_alloc ?_ _)); refine blk_put (cs := #[.int .i64 0, .int .i64 0, .int .i64 0]) ?_ 0 _ rfl; (with_reducible repeat (first | refine blk_drewN ?_ _ | refine blk_drew ?_ | refine blk_alloc ?_ _)); exact BK346.out) hb); have n6_ := Aside0.mk (below_step (by repeat (first | (with_reducible first | exact HB.out | apply below_alloc | apply pw_below_drewN | apply below_drew1 | refine below_set ?_ GE258.out | refine below_set ?_ GE259.out | refine below_set ?_ GE260.out | refine below_set ?_ GE297.out | refine below_set ?_ GE302.out | refine below_set ?_ GE346.out) | exact HB.out)) hb); clear BK258; clear BK259; clear BK260; clear BK297; clear BK302; clear BK346; clear HB; have BK258 := n0_; have BK259 := n1_; have BK260 := n2_; have BK297 := n3_; have BK302 := n4_; have BK346 := n5_; have HB := n6_; clear n0_ n1_ n2_ n3_ n4_ n5_ n6_; (try clear hb); (try clear hb2); (try clear hk); (try clear hi)) | ((with_reducible refine gate_dst (N := 87) rfl ?_); refine box_event ?hg (N := 87) ?hd (cs := #[.int .i64 0, .int .i64 0, .int .i64 0]) (t := 23) ?hr ?_; (case hd => rfl); (case hg => rfl); (case hr => first | (go_simp; done) | (go_simp; rfl)); intro gb351 hg w393 hbox hb; have n0_ := Aside0.mk (blk_below (g := gb258) (o := .cells #[.int .i64 a0_0, .int .i64 a0_1, .int .i64 a0_2] 23 (0, 0)) (by (with_reducible repeat (first | refine blk_drewN ?_ _ | refine blk_drew ?_ | refine blk_alloc ?_ _)); exact BK258.out) hb); have n1_ := Aside0.mk (blk_below (g := gb259) (o := .cells #[.int .i64 a1_0, .int .i64 a1_1, .int .i64 a1_2] 23 (0, 0)) (by (with_reducible repeat (first | refine blk_drewN ?_ _ | refine blk_drew ?_ | refine blk_alloc ?_ _)); exact BK259.out) hb); have n2_ := Aside0.mk (blk_below (g := gb260) (o := .cells #[.int .i64 a7_0, .int .i64 a7_1, .int .i64 a7_2] 23 (0, 0)) (by (with_reducible repeat (first | refine blk_drewN ?_ _ | refine blk_drew ?_ | refine blk_alloc ?_ _)); exact BK260.out) hb); have n3_ := Aside0.mk (blk_below (g := gb297) (o := .cells #[.int .i64 t293, .int .i64 t294, .int .i64 t295] 23 (0, 0)) (by (with_reducible repeat (first | refine blk_drewN ?_ _ | refine blk_drew ?_ | refine blk_alloc ?_ _)); exact BK297.out) hb); have n4_ := Aside0.mk (blk_below (g := gb302) (o := .cells #[.int .i64 t293, .int .i64 t294, .int .i64 t295] 23 (0, 0)) (by (with_reducible repeat (first | refine blk_drewN ?_ _ | refine blk_drew ?_ | refine blk_alloc ?_ _)); exact BK302.out) hb); have n5_ := Aside0.mk (blk_below (g := gb346) (o := .cells #[.int .i64 t342, .int .i64 t343, .int .i64 t344] 23 (0, 0)) (by (with_reducible repeat (first | refine blk_drewN ?_ _ | refine blk_drew ?_ | refine blk_alloc ?_ _)); exact BK346.out) hb); have n6_ := Aside0.mk (below_step (by repeat (first | (with_reducible first | exact HB.out | apply below_alloc | apply pw_below_drewN | apply below_drew1 | refine below_set ?_ GE258.out | refine below_set ?_ GE259.out | refine below_set ?_ GE260.out | refine below_set ?_ GE297.out | refine below_set ?_ GE302.out | refine below_set ?_ GE346.out) | exact HB.out)) hb); have n7_ := Aside0.mk (hbox); have n8_ := Aside0.mk ((by rw [hg]; exact (below_size (by repeat (first | (with_reducible first | exact HB.out | apply below_alloc | apply pw_below_drewN | apply below_drew1 | refine below_set ?_ GE258.out | refine below_set ?_ GE259.out | refine below_set ?_ GE260.out | refine below_set ?_ GE297.out | refine below_set ?_ GE302.out | refine below_set ?_ GE346.out) | exact HB.out))) : w.heap.size ≤ gb351)); have n9_ := Aside0.mk ((by rw [hg]; exact (below_size (by repeat (first | (with_reducible first | exact HB.out | apply below_alloc | apply pw_below_drewN | apply below_drew1 | refine below_set ?_ GE258.out | refine below_set ?_ GE259.out | refine below_set ?_ GE260.out | refine below_set ?_ GE297.out | refine below_set ?_ GE302.out | refine below_set ?_ GE346.out) | exact HB.out))) : w.heap.size ≤ gb351)); have n10_ := Aside0.mk ((by rw [hg]; exact Nat.ne_of_lt (blk_lt (g := gb258) (o := .cells #[.int .i64 a0_0, .int .i64 a0_1, .int .i64 a0_2] 23 (0, 0)) (by (with_reducible repeat (first | refine blk_drewN ?_ _ | refine blk_drew ?_ | refine blk_alloc ?_ _)); exact BK258.out)) : gb258 ≠ gb351)); have n11_ := Aside0.mk ((by rw [hg]; exact Nat.ne_of_gt (blk_lt (g := gb258) (o := .cells #[.int .i64 a0_0, .int .i64 a0_1, .int .i64 a0_2] 23 (0, 0)) (by (with_reducible repeat (first | refine blk_drewN ?_ _ | refine blk_drew ?_ | refine blk_alloc ?_ _)); exact BK258.out)) : gb351 ≠ gb258)); have n12_ := Aside0.mk ((by rw [hg]; exact Nat.ne_of_lt (blk_lt (g := gb259) (o := .cells #[.int .i64 a1_0, .int .i64 a1_1, .int .i64 a1_2] 23 (0, 0)) (by (with_reducible repeat (first | refine blk_drewN ?_ _ | refine blk_drew ?_ | refine blk_alloc ?_ _)); exact BK259.out)) : gb259 ≠ gb351)); have n13_ := Aside0.mk ((by rw [hg]; exact Nat.ne_of_gt (blk_lt (g := gb259) (o := .cells #[.int .i64 a1_0, .int .i64 a1_1, .int .i64 a1_2] 23 (0, 0)) (by (with_reducible repeat (first | refine blk_drewN ?_ _ | refine blk_drew ?_ | refine blk_alloc ?_ _)); exact BK259.out)) : gb351 ≠ gb259)); have n14_ := Aside0.mk ((by rw [hg]; exact Nat.ne_of_lt (blk_lt (g := gb260) (o := .cells #[.int .i64 a7_0, .int .i64 a7_1, .int .i64 a7_2] 23 (0, 0)) (by (with_reducible repeat (first | refine blk_drewN ?_ _ | refine blk_drew ?_ | refine blk_alloc ?_ _)); exact BK260.out)) : gb260 ≠ gb351)); have n15_ := Aside0.mk ((by rw [hg]; exact Nat.ne_of_gt (blk_lt (g := gb260) (o := .cells #[.int .i64 a7_0, .int .i64 a7_1, .int .i64 a7_2] 23 (0, 0)) (by (with_reducible repeat (first | refine blk_drewN ?_ _ | refine blk_drew ?_ | refine blk_alloc ?_ _)); exact BK260.out)) : gb351 ≠ gb260)); have n16_ := Aside0.mk ((by rw [hg]; exact Nat.ne_of_lt (blk_lt (g := gb297) (o := .cells #[.int .i64 t293, .int .i64 t294, .int .i64 t295] 23 (0, 0)) (by (with_reducible repeat (first | refine blk_drewN ?_ _ | refine blk_drew ?_ | refine blk_alloc ?_ _)); exact BK297.out)) : gb297 ≠ gb351)); have n17_ := Aside0.mk ((by rw [hg]; exact Nat.ne_of_gt (blk_lt (g := gb297) (o := .cells #[.int .i64 t293, .int .i64 t294, .int .i64 t295] 23 (0, 0)) (by (with_reducible repeat (first | refine blk_drewN ?_ _ | refine blk_drew ?_ | refine blk_alloc ?_ _)); exact BK297.out)) : gb351 ≠ gb297)); have n18_ := Aside0.mk ((by rw [hg]; exact Nat.ne_of_lt (blk_lt (g := gb302) (o := .cells #[.int .i64 t293, .int .i64 t294, .int .i64 t295] 23 (0, 0)) (by (with_reducible repeat (first | refine blk_drewN ?_ _ | refine blk_drew ?_ | refine blk_alloc ?_ _)); exact BK302.out)) : gb302 ≠ gb351)); have n19_ := Aside0.mk ((by rw [hg]; exact Nat.ne_of_gt (blk_lt (g := gb302) (o := .cells #[.int .i64 t293, .int .i64 t294, .int .i64 t295] 23 (0, 0)) (by (with_reducible repeat (first | refine blk_drewN ?_ _ | refine blk_drew ?_ | refine blk_alloc ?_ _)); exact BK302.out)) : gb351 ≠ gb302)); have n20_ := Aside0.mk ((by rw [hg]; exact Nat.ne_of_lt (blk_lt (g := gb346) (o := .cells #[.int .i64 t342, .int .i64 t343, .int .i64 t344] 23 (0, 0)) (by (with_reducible repeat (first | refine blk_drewN ?_ _ | refine blk_drew ?_ | refine blk_alloc ?_ _)); exact BK346.out)) : gb346 ≠ gb351)); have n21_ := Aside0.mk ((by rw [hg]; exact Nat.ne_of_gt (blk_lt (g := gb346) (o := .cells #[.int .i64 t342, .int .i64 t343, .int .i64 t344] 23 (0, 0)) (by (with_reducible repeat (first | refine blk_drewN ?_ _ | refine blk_drew ?_ | refine blk_alloc ?_ _)); exact BK346.out)) : gb351 ≠ gb346)); clear BK258; clear BK259; clear BK260; clear BK297; clear BK302; clear BK346; clear HB; have BK258 := n0_; have BK259 := n1_; have BK260 := n2_; have BK297 := n3_; have BK302 := n4_; have BK346 := n5_; have HB := n6_; have BK351 := n7_; have GW351 := n8_; have GE351 := n9_; have NB258_351 := n10_; have NB351_258 := n11_; have NB259_351 := n12_; have NB351_259 := n13_; have NB260_351 := n14_; have NB351_260 := n15_; have NB297_351 := n16_; have NB351_297 := n17_; have NB302_351 := n18_; have NB351_302 := n19_; have NB346_351 := n20_; have NB351_346 := n21_; clear n0_ n1_ n2_ n3_ n4_ n5_ n6_ n7_ n8_ n9_ n10_ n11_ n12_ n13_ n14_ n15_ n16_ n17_ n18_ n19_ n20_ n21_; clear hb hbox hg; have hnb394 := NB351_258.out; have hnc394 := NB258_351.out; have hnb395 := NB351_259.out; have hnc395 := NB259_351.out; have hnb396 := NB351_260.out; have hnc396 := NB260_351.out; have hnb397 := NB351_297.out; have hnc397 := NB297_351.out; have hnb398 := NB351_302.out; have hnc398 := NB302_351.out; have hnb399 := NB351_346.out; have hnc399 := NB346_351.out; have hcz400_0 : w393.cell? ⟨gb351, 0, none⟩ = some (.int .i64 0) := (blk_cell BK351.out 0).trans rfl; have hcz400_1 : w393.cell? ⟨gb351, 1, none⟩ = some (.int .i64 0) := (blk_cell BK351.out 1).trans rfl; have hcz400_2 : w393.cell? ⟨gb351, 2, none⟩ = some (.int .i64 0) := (blk_cell BK351.out 2).trans rfl; have hfz400_0 := blk_frozen BK351.out 0; have hfz400_1 := blk_frozen BK351.out 1; have hfz400_2 := blk_frozen BK351.out 2))
  (try simp only [Act.put, List.setIfInBounds_toArray, List.set_cons_zero, List.set_cons_succ])
  rename_i K1 hK1 K2 hK2
  have HK : Aside0 (∀ a w_, (dropC 26 (Tryd.f4.body.getD Code.skip)).wp Tryd.prog (bodyPost Tryd.prog Tryd.f4 fun e w' => e = .returned (.bool true) ∧ Below w.heap.size w w') a w_ → K1 a w_) := ⟨hK1⟩
  clear hK1
  go_cut [588] from 588 to 588 (fun v588 wc => v588 = .bool false ∧ Aside0 (wc.heap[gb258]? = some (.cells #[.int .i64 a0_0, .int .i64 a0_1, .int .i64 a0_2] 23 (0, 0))) ∧ Aside0 (wc.heap[gb259]? = some (.cells #[.int .i64 a1_0, .int .i64 a1_1, .int .i64 a1_2] 23 (0, 0))) ∧ Aside0 (wc.heap[gb260]? = some (.cells #[.int .i64 a7_0, .int .i64 a7_1, .int .i64 a7_2] 23 (0, 0))) ∧ Aside0 (wc.heap[gb297]? = some (.cells #[.int .i64 t293, .int .i64 t294, .int .i64 t295] 23 (0, 0))) ∧ Aside0 (wc.heap[gb302]? = some (.cells #[.int .i64 t293, .int .i64 t294, .int .i64 t295] 23 (0, 0))) ∧ Aside0 (wc.heap[gb346]? = some (.cells #[.int .i64 t342, .int .i64 t343, .int .i64 t344] 23 (0, 0))) ∧ Aside0 (wc.heap[gb351]? = some (.cells #[.int .i64 t342, .int .i64 t343, .int .i64 t344] 23 (0, 0))) ∧ Aside0 (Below w.heap.size w wc))
  case first =>
    have c401 : ¬ ((p != p) = true) := by simp
    have c401b0 : (p != p) = false := by simpa using c401
    (try (have c401b1 : decide (p = p) = true := by simpa using c401))
    (try (have c401b2 : (p == p) = true := by simpa using c401))
    clear c401
    (first | rw [c401b0] | (simp only [i64_w, i32_w]; rw [c401b0]) | skip)
    have c402 : t324 = t324 := by simp
    have c402b0 : (t324 == t324) = true := beq_iff_eq.mpr c402
    have c402b1 : (t324 != t324) = false := bne_eq_false_iff_eq.mpr c402
    clear c402
    have c403 : t325 = t325 := by simp
    have c403b0 : (t325 == t325) = true := beq_iff_eq.mpr c403
    have c403b1 : (t325 != t325) = false := bne_eq_false_iff_eq.mpr c403
    clear c403
    have c404 : ¬ ((p != p) = true) := by simp
    have c404b0 : (p != p) = false := by simpa using c404
    (try (have c404b1 : decide (p = p) = true := by simpa using c404))
    (try (have c404b2 : (p == p) = true := by simpa using c404))
    clear c404
    have c405 : t330 = t330 := by simp
    have c405b0 : (t330 == t330) = true := beq_iff_eq.mpr c405
    have c405b1 : (t330 != t330) = false := bne_eq_false_iff_eq.mpr c405
    clear c405
    have c406 : t331 = t331 := by simp
    have c406b0 : (t331 == t331) = true := beq_iff_eq.mpr c406
    have c406b1 : (t331 != t331) = false := bne_eq_false_iff_eq.mpr c406
    clear c406
    have c407 : ¬ ((q != q) = true) := by simp
    have c407b0 : (q != q) = false := by simpa using c407
    (try (have c407b1 : decide (q = q) = true := by simpa using c407))
    (try (have c407b2 : (q == q) = true := by simpa using c407))
    clear c407
    have c408 : t336 = t336 := by simp
    have c408b0 : (t336 == t336) = true := beq_iff_eq.mpr c408
    have c408b1 : (t336 != t336) = false := bne_eq_false_iff_eq.mpr c408
    clear c408
    have c409 : t337 = t337 := by simp
    have c409b0 : (t337 == t337) = true := beq_iff_eq.mpr c409
    have c409b1 : (t337 != t337) = false := bne_eq_false_iff_eq.mpr c409
    clear c409
    have c410 : ¬ ((s != s) = true) := by simp
    have c410b0 : (s != s) = false := by simpa using c410
    (try (have c410b1 : decide (s = s) = true := by simpa using c410))
    (try (have c410b2 : (s == s) = true := by simpa using c410))
    clear c410
    have c411 : ¬ ((!(t342 == t342) || (!(t343 == t343) || (!(t344 == t344)))) = true) := by simp
    have c411b0 : (!(t342 == t342) || (!(t343 == t343) || (!(t344 == t344)))) = false := by simpa using c411
    clear c411
    have hnb425 := NB346_258.out
    have hnc425 := NB258_346.out
    have hnb426 := NB346_259.out
    have hnc426 := NB259_346.out
    have hnb427 := NB346_260.out
    have hnc427 := NB260_346.out
    have hnb428 := NB346_297.out
    have hnc428 := NB297_346.out
    have hnb429 := NB346_302.out
    have hnc429 := NB302_346.out
    have hnb430 := NB346_351.out
    have hnc430 := NB351_346.out
    have hcz431_0 : w393.cell? ⟨gb346, 0, none⟩ = some (.int .i64 t342) := (blk_cell BK346.out 0).trans rfl
    have hcz431_1 : w393.cell? ⟨gb346, 1, none⟩ = some (.int .i64 t343) := (blk_cell BK346.out 1).trans rfl
    have hcz431_2 : w393.cell? ⟨gb346, 2, none⟩ = some (.int .i64 t344) := (blk_cell BK346.out 2).trans rfl
    have hfz431_0 := blk_frozen BK346.out 0
    have hfz431_1 := blk_frozen BK346.out 1
    have hfz431_2 := blk_frozen BK346.out 2
    have hnb432 := NB351_258.out
    have hnc432 := NB258_351.out
    have hnb433 := NB351_259.out
    have hnc433 := NB259_351.out
    have hnb434 := NB351_260.out
    have hnc434 := NB260_351.out
    have hnb435 := NB351_297.out
    have hnc435 := NB297_351.out
    have hnb436 := NB351_302.out
    have hnc436 := NB302_351.out
    have hcz437_0 : w393.cell? ⟨gb351, 0, none⟩ = some (.int .i64 0) := (blk_cell BK351.out 0).trans rfl
    have hcz437_1 : w393.cell? ⟨gb351, 1, none⟩ = some (.int .i64 0) := (blk_cell BK351.out 1).trans rfl
    have hcz437_2 : w393.cell? ⟨gb351, 2, none⟩ = some (.int .i64 0) := (blk_cell BK351.out 2).trans rfl
    have hfz437_0 := blk_frozen BK351.out 0
    have hfz437_1 := blk_frozen BK351.out 1
    have hfz437_2 := blk_frozen BK351.out 2
    go_wp2
    go_meet
    case rel => exact ⟨(by first | rfl | (simp; done) | (rw [c314b0]; rfl) | (simp [c314b0]; done)), ⟨by (with_reducible repeat (first | refine blk_drewN ?_ _ | refine blk_drew ?_ | refine blk_alloc ?_ _)); refine blk_far ?_ NB258_351.out _; (with_reducible repeat (first | refine blk_drewN ?_ _ | refine blk_drew ?_ | refine blk_alloc ?_ _)); refine blk_far ?_ NB258_351.out _; (with_reducible repeat (first | refine blk_drewN ?_ _ | refine blk_drew ?_ | refine blk_alloc ?_ _)); refine blk_far ?_ NB258_351.out _; (with_reducible repeat (first | refine blk_drewN ?_ _ | refine blk_drew ?_ | refine blk_alloc ?_ _)); exact BK258.out⟩, ⟨by (with_reducible repeat (first | refine blk_drewN ?_ _ | refine blk_drew ?_ | refine blk_alloc ?_ _)); refine blk_far ?_ NB259_351.out _; (with_reducible repeat (first | refine blk_drewN ?_ _ | refine blk_drew ?_ | refine blk_alloc ?_ _)); refine blk_far ?_ NB259_351.out _; (with_reducible repeat (first | refine blk_drewN ?_ _ | refine blk_drew ?_ | refine blk_alloc ?_ _)); refine blk_far ?_ NB259_351.out _; (with_reducible repeat (first | refine blk_drewN ?_ _ | refine blk_drew ?_ | refine blk_alloc ?_ _)); exact BK259.out⟩, ⟨by (with_reducible repeat (first | refine blk_drewN ?_ _ | refine blk_drew ?_ | refine blk_alloc ?_ _)); refine blk_far ?_ NB260_351.out _; (with_reducible repeat (first | refine blk_drewN ?_ _ | refine blk_drew ?_ | refine blk_alloc ?_ _)); refine blk_far ?_ NB260_351.out _; (with_reducible repeat (first | refine blk_drewN ?_ _ | refine blk_drew ?_ | refine blk_alloc ?_ _)); refine blk_far ?_ NB260_351.out _; (with_reducible repeat (first | refine blk_drewN ?_ _ | refine blk_drew ?_ | refine blk_alloc ?_ _)); exact BK260.out⟩, ⟨by (with_reducible repeat (first | refine blk_drewN ?_ _ | refine blk_drew ?_ | refine blk_alloc ?_ _)); refine blk_far ?_ NB297_351.out _; (with_reducible repeat (first | refine blk_drewN ?_ _ | refine blk_drew ?_ | refine blk_alloc ?_ _)); refine blk_far ?_ NB297_351.out _; (with_reducible repeat (first | refine blk_drewN ?_ _ | refine blk_drew ?_ | refine blk_alloc ?_ _)); refine blk_far ?_ NB297_351.out _; (with_reducible repeat (first | refine blk_drewN ?_ _ | refine blk_drew ?_ | refine blk_alloc ?_ _)); exact BK297.out⟩, ⟨by (with_reducible repeat (first | refine blk_drewN ?_ _ | refine blk_drew ?_ | refine blk_alloc ?_ _)); refine blk_far ?_ NB302_351.out _; (with_reducible repeat (first | refine blk_drewN ?_ _ | refine blk_drew ?_ | refine blk_alloc ?_ _)); refine blk_far ?_ NB302_351.out _; (with_reducible repeat (first | refine blk_drewN ?_ _ | refine blk_drew ?_ | refine blk_alloc ?_ _)); refine blk_far ?_ NB302_351.out _; (with_reducible repeat (first | refine blk_drewN ?_ _ | refine blk_drew ?_ | refine blk_alloc ?_ _)); exact BK302.out⟩, ⟨by (with_reducible repeat (first | refine blk_drewN ?_ _ | refine blk_drew ?_ | refine blk_alloc ?_ _)); refine blk_far ?_ NB346_351.out _; (with_reducible repeat (first | refine blk_drewN ?_ _ | refine blk_drew ?_ | refine blk_alloc ?_ _)); refine blk_far ?_ NB346_351.out _; (with_reducible repeat (first | refine blk_drewN ?_ _ | refine blk_drew ?_ | refine blk_alloc ?_ _)); refine blk_far ?_ NB346_351.out _; (with_reducible repeat (first | refine blk_drewN ?_ _ | refine blk_drew ?_ | refine blk_alloc ?_ _)); exact BK346.out⟩, ⟨by (with_reducible repeat (first | refine blk_drewN ?_ _ | refine blk_drew ?_ | refine blk_alloc ?_ _)); refine blk_put (cs := #[.int .i64 t342, .int .i64 t343, .int .i64 0]) ?_ 2 _ rfl; (with_reducible repeat (first | refine blk_drewN ?_ _ | refine blk_drew ?_ | refine blk_alloc ?_ _)); refine blk_put (cs := #[.int .i64 t342, .int .i64 0, .int .i64 0]) ?_ 1 _ rfl; (with_reducible repeat (first | refine blk_drewN ?_ _ | refine blk_drew ?_ | refine blk_alloc ?_ _)); refine blk_put (cs := #[.int .i64 0, .int .i64 0, .int .i64 0]) ?_ 0 _ rfl; (with_reducible repeat (first | refine blk_drewN ?_ _ | refine blk_drew ?_ | refine blk_alloc ?_ _)); exact BK351.out⟩, ⟨by repeat (first | (with_reducible first | exact HB.out | apply below_alloc | apply pw_below_drewN | apply below_drew1 | refine below_set ?_ GE258.out | refine below_set ?_ GE259.out | refine below_set ?_ GE260.out | refine below_set ?_ GE297.out | refine below_set ?_ GE302.out | refine below_set ?_ GE346.out | refine below_set ?_ GE351.out) | exact HB.out)⟩⟩
  case rest =>
    try clear c213
    try clear c213b0
    try clear c213b1
    try clear c214
    try clear c214b0
    try clear c214b1
    try clear c306
    try clear c306b0
    try clear c306b1
    try clear c314
    try clear c314b0
    try clear c315
    try clear c318
    try clear c318b0
    try clear c318b1
    try clear c319
    try clear c319b0
    try clear c319b1
    try clear c401
    try clear c401b0
    try clear c401b1
    try clear c401b2
    try clear c402
    try clear c402b0
    try clear c402b1
    try clear c403
    try clear c403b0
    try clear c403b1
    try clear c404
    try clear c404b0
    try clear c404b1
    try clear c404b2
    try clear c405
    try clear c405b0
    try clear c405b1
    try clear c406
    try clear c406b0
    try clear c406b1
    try clear c407
    try clear c407b0
    try clear c407b1
    try clear c407b2
    try clear c408
    try clear c408b0
    try clear c408b1
    try clear c409
    try clear c409b0
    try clear c409b1
    try clear c410
    try clear c410b0
    try clear c410b1
    try clear c410b2
    try clear c411
    try clear c411b0
    try clear hcz182_0
    try clear hcz182_1
    try clear hcz182_2
    try clear hcz186_0
    try clear hcz186_1
    try clear hcz186_2
    try clear hcz188_0
    try clear hcz188_1
    try clear hcz188_2
    try clear hcz197_0
    try clear hcz197_1
    try clear hcz197_2
    try clear hcz221_0
    try clear hcz221_1
    try clear hcz221_2
    try clear hcz226_0
    try clear hcz226_1
    try clear hcz226_2
    try clear hcz313_0
    try clear hcz313_1
    try clear hcz313_2
    try clear hcz325_0
    try clear hcz325_1
    try clear hcz325_2
    try clear hcz327_0
    try clear hcz327_1
    try clear hcz327_2
    try clear hcz370_0
    try clear hcz370_1
    try clear hcz370_2
    try clear hcz372_0
    try clear hcz372_1
    try clear hcz372_2
    try clear hcz374_0
    try clear hcz374_1
    try clear hcz374_2
    try clear hcz376_0
    try clear hcz376_1
    try clear hcz376_2
    try clear hcz382_0
    try clear hcz382_1
    try clear hcz382_2
    try clear hcz390_0
    try clear hcz390_1
    try clear hcz390_2
    try clear hcz391_0
    try clear hcz391_1
    try clear hcz391_2
    try clear hcz400_0
    try clear hcz400_1
    try clear hcz400_2
    try clear hcz431_0
    try clear hcz431_1
    try clear hcz431_2
    try clear hcz437_0
    try clear hcz437_1
    try clear hcz437_2
    try clear hfz182_0
    try clear hfz182_1
    try clear hfz182_2
    try clear hfz186_0
    try clear hfz186_1
    try clear hfz186_2
    try clear hfz188_0
    try clear hfz188_1
    try clear hfz188_2
    try clear hfz197_0
    try clear hfz197_1
    try clear hfz197_2
    try clear hfz221_0
    try clear hfz221_1
    try clear hfz221_2
    try clear hfz226_0
    try clear hfz226_1
    try clear hfz226_2
    try clear hfz313_0
    try clear hfz313_1
    try clear hfz313_2
    try clear hfz325_0
    try clear hfz325_1
    try clear hfz325_2
    try clear hfz327_0
    try clear hfz327_1
    try clear hfz327_2
    try clear hfz370_0
    try clear hfz370_1
    try clear hfz370_2
    try clear hfz372_0
    try clear hfz372_1
    try clear hfz372_2
    try clear hfz374_0
    try clear hfz374_1
    try clear hfz374_2
    try clear hfz376_0
    try clear hfz376_1
    try clear hfz376_2
    try clear hfz382_0
    try clear hfz382_1
    try clear hfz382_2
    try clear hfz390_0
    try clear hfz390_1
    try clear hfz390_2
    try clear hfz391_0
    try clear hfz391_1
    try clear hfz391_2
    try clear hfz400_0
    try clear hfz400_1
    try clear hfz400_2
    try clear hfz431_0
    try clear hfz431_1
    try clear hfz431_2
    try clear hfz437_0
    try clear hfz437_1
    try clear hfz437_2
    obtain ⟨rfl, BK258, BK259, BK260, BK297, BK302, BK346, BK351, HB⟩ := hcut
    go_wp2_with fail
    exact HK.out _ _ (rest40 k a0_0 a0_1 a0_2 a1_0 a1_1 a1_2 a3 a4 a5 a6 a7_0 a7_1 a7_2 a8 t261 t262 t267 t268 t273 t274 t279 t280 t285 t293 t294 t295 t324 t325 t330 t331 t336 t337 t342 t343 t344 a2 o p q s t289 _ _ gb258 gb259 gb260 gb297 gb302 gb346 gb351 HP HQ HS GE258 GE259 GE260 GE297 GE302 GE346 GE351 NB258_259 NB258_260 NB258_346 NB259_258 NB259_260 NB259_297 NB259_302 NB259_346 NB259_351 NB260_258 NB260_259 NB260_297 NB260_302 NB260_346 NB260_351 NB297_259 NB297_260 NB297_346 NB302_259 NB302_260 NB302_346 NB346_258 NB346_259 NB346_260 NB346_297 NB346_302 NB346_351 NB351_259 NB351_260 NB351_346 ⟨BK258, BK259, BK260, BK297, BK302, BK346, BK351, HB⟩)
end Go.Proofs.YtkhhlnpiogfofaaDoor.LCLaw
