/- The last part of the walk of the law FnLaddersCrossOfAll (behind its second comparison). Conditions: the library's variables (Ready), and what each callee comes to. Turned from the print program's text. -/
import Derived.Test.YtkhhlnpiogfofaaDoorLC0
import Derived.Test.YtkhhlnpiogfofaaDoorLC2
import Derived.Test.YtkhhlnpiogfofaaDoorLC3
import Derived.Test.YtkhhlnpiogfofaaDoorLC4
import Derived.Test.YtkhhlnpiogfofaaDoorLC5
import Derived.Test.YtkhhlnpiogfofaaDoorLC6
import Derived.Test.YtkhhlnpiogfofaaDoorGiven
import Derived.Deep.RegionHeld3
import Derived.Deep.DeepCutAuto
import Derived.Tactics2
import Derived.WalkSpells
import Derived.StillTactics
import Derived.Laws.Pointers
namespace Go.Proofs.YtkhhlnpiogfofaaDoor.LCLaw
open Go.RowKit Go.Proofs.YtkhhlnpiogfofaaDoorW.PrintWords Go.Proofs.YtkhhlnpiogfofaaDoorW.PrintLast Go.Proofs.YtkhhlnpiogfofaaDoorW.PrintMore Go.Proofs.YtkhhlnpiogfofaaDoor.Given Go.Proofs.YtkhhlnpiogfofaaDoor.TextC Go.Proofs.YtkhhlnpiogfofaaDoor.PFnLaddersCrossOfAll
set_option linter.unusedVariables false
set_option linter.unusedSimpArgs false
set_option linter.unnecessarySimpa false
def dropC : Nat → Code → Code
  | 0, c => c
  | n + 1, .seq _ y => dropC n y
  | _ + 1, c => c
set_option maxHeartbeats 8000000 in
set_option maxRecDepth 100000 in
theorem rest40 (k : Nat) (a0_0 a0_1 a0_2 a1_0 a1_1 a1_2 a3 a4 a5 a6 a7_0 a7_1 a7_2 a8 t261 t262 t267 t268 t273 t274 t279 t280 t285 t293 t294 t295 t324 t325 t330 t331 t336 t337 t342 t343 t344 : Int) (a2 o p q s : Bool) (t289 : ByteArray) (w wc : World) (gb258 gb259 gb260 gb297 gb302 gb346 gb351 : Nat) {x18 x19 x20 x21 x22 x23 x24 x25 x26 x27 x28 x29 x30 x31 x32 x33 x34 x35 x36 x37 x38 x39 x40 x41 x42 x43 x44 x45 x46 x47 x48 x49 x50 x51 x52 x53 x54 x55 x56 x57 x58 x59 x60 x61 x62 x63 x64 x65 x66 x89 x90 x91 x92 x93 x94 x95 x96 x97 x98 x99 x100 x101 x102 x103 x104 x105 x106 x107 x108 x109 x110 x111 x112 x113 x114 x115 x116 x117 x118 x119 x120 x121 x122 x123 x124 x125 x126 x127 x128 x129 x130 x131 x132 x133 x134 x135 x136 x137 x138 x139 x140 x141 x142 x143 x144 x145 x146 x147 x148 x149 x150 x151 x152 x153 x154 x155 x156 x157 x158 x159 x160 x161 x162 x163 x164 x165 x166 x167 x168 x169 x170 x171 x172 x173 x174 x175 x176 x177 x178 x179 x180 x181 x182 x183 x184 x185 x186 x187 x188 x189 x190 x191 x192 x193 x194 x195 x196 x197 x198 x199 x200 x201 x202 x203 x204 x205 x206 x207 x208 x209 x210 x211 x212 x213 x214 x215 x216 x217 x218 x219 x220 x221 x222 x223 x224 x225 x226 x227 x228 x229 x230 x231 x232 x233 x234 x235 x236 x237 x238 x239 x240 x241 x242 x243 x244 x245 x246 x247 x248 x249 x250 x251 x252 x253 x254 x255 x256 x257 x258 x259 x260 x261 x262 x263 x264 x265 x266 x267 x268 x269 x270 x271 x272 x273 x274 x275 x276 x277 x278 x279 x280 x281 x282 x283 x284 x285 x286 x287 x288 x289 x290 x291 x292 x293 x294 x295 x296 x297 x298 x299 x300 x301 x302 x303 x304 x305 x306 x307 x308 x309 x310 x311 x312 x313 x314 x315 x316 x317 x318 x319 x320 x321 x322 x323 x324 x325 x326 x327 x328 x329 x330 x331 x332 x333 x334 x335 x336 x337 x338 x339 x340 x341 x342 x343 x344 x345 x346 x347 x348 x349 x350 x351 x352 x353 x354 x355 x356 x357 x358 x359 x360 x361 x362 x363 x364 x365 x366 x367 x368 x369 x370 x371 x372 x373 x374 x375 x376 x377 x378 x379 x380 x381 x382 x383 x384 x385 x386 x387 x388 x389 x390 x391 x392 x393 x394 x395 x396 x397 x398 x399 x400 x401 x402 x403 x404 x405 x406 x407 x408 x409 x410 x411 x412 x413 x414 x415 x416 x417 x418 x419 x420 x421 x422 x423 x424 x425 x426 x427 x428 x429 x430 x431 x432 x433 x434 x435 x436 x437 x438 x439 x440 x441 x442 x443 x444 x445 x446 x447 x448 x449 x450 x451 x452 x453 x454 x455 x456 x457 x458 x459 x460 x461 x462 x463 x464 x465 x466 x467 x468 x469 x470 x471 x472 x473 x474 x475 x476 x477 x478 x479 x480 x481 x482 x483 x484 x485 x486 x487 x488 x489 x490 x491 x492 x493 x494 x495 x496 x497 x498 x499 x500 x501 x502 x503 x504 x505 x506 x507 x508 x509 x510 x511 x512 x513 x514 x515 x516 x517 x518 x519 x520 x521 x522 x523 x524 x525 x526 x527 x528 x529 x530 x531 x532 x533 x534 x535 x536 x537 x538 x539 x540 x541 x542 x543 x544 x545 x546 x547 x548 x549 x550 x551 x552 x553 x554 x555 x556 x557 x558 x559 x560 x561 x562 x563 x564 x565 x566 x567 x568 x569 x570 x571 x572 x573 x574 x575 x576 x577 x578 x579 x580 x581 x582 x583 x584 x585 x586 x587 : Value}
    (HP : Aside0 (p = true → ∃ t352 t353 : Int, Aside0 (impl_HeightAt.f k a1_0 a1_1 a1_2 (!a2) a3 = some (t352, t353, true)) ∧ Aside0 ((wrap64 (t324 * t331)) ≤ (wrap64 (t330 * t325))) ∧ Aside0 ((wrap64 (t352 * t331)) ≤ (wrap64 (t330 * t353))) ∧ Aside0 ((wrap64 (t330 * t325)) = (wrap64 (t324 * t331)) ∨ (wrap64 (t330 * t353)) = (wrap64 (t352 * t331)))))
    (HQ : Aside0 (q = true → Aside0 (laws_jLow.f k t336 t337 = some true) ∧ Aside0 ((wrap64 (a5 * (wrap64 (t336 + (wrap64 (a4 * t337)))))) = (wrap64 ((wrap64 (a6 * a4)) * t336)))))
    (HS : Aside0 (s = true → ∃ t356 t357 : Int, Aside0 (impl_CrossHeight.f k a7_0 a7_1 a7_2 = some (t356, t357, true)) ∧ Aside0 (impl_CrossHeight.f k t342 t343 t344 = some (t356, t357, true)) ∧ Aside0 (impl_MoveWall.f t342 t343 t344 (wrap64 (-a8)) = some (a7_0, a7_1, a7_2, true))))
    (GE258 : Aside0 (w.heap.size ≤ gb258))
    (GE259 : Aside0 (w.heap.size ≤ gb259))
    (GE260 : Aside0 (w.heap.size ≤ gb260))
    (GE297 : Aside0 (w.heap.size ≤ gb297))
    (GE302 : Aside0 (w.heap.size ≤ gb302))
    (GE346 : Aside0 (w.heap.size ≤ gb346))
    (GE351 : Aside0 (w.heap.size ≤ gb351))
    (NB258_259 : Aside0 (gb258 ≠ gb259))
    (NB258_260 : Aside0 (gb258 ≠ gb260))
    (NB258_346 : Aside0 (gb258 ≠ gb346))
    (NB259_258 : Aside0 (gb259 ≠ gb258))
    (NB259_260 : Aside0 (gb259 ≠ gb260))
    (NB259_297 : Aside0 (gb259 ≠ gb297))
    (NB259_302 : Aside0 (gb259 ≠ gb302))
    (NB259_346 : Aside0 (gb259 ≠ gb346))
    (NB259_351 : Aside0 (gb259 ≠ gb351))
    (NB260_258 : Aside0 (gb260 ≠ gb258))
    (NB260_259 : Aside0 (gb260 ≠ gb259))
    (NB260_297 : Aside0 (gb260 ≠ gb297))
    (NB260_302 : Aside0 (gb260 ≠ gb302))
    (NB260_346 : Aside0 (gb260 ≠ gb346))
    (NB260_351 : Aside0 (gb260 ≠ gb351))
    (NB297_259 : Aside0 (gb297 ≠ gb259))
    (NB297_260 : Aside0 (gb297 ≠ gb260))
    (NB297_346 : Aside0 (gb297 ≠ gb346))
    (NB302_259 : Aside0 (gb302 ≠ gb259))
    (NB302_260 : Aside0 (gb302 ≠ gb260))
    (NB302_346 : Aside0 (gb302 ≠ gb346))
    (NB346_258 : Aside0 (gb346 ≠ gb258))
    (NB346_259 : Aside0 (gb346 ≠ gb259))
    (NB346_260 : Aside0 (gb346 ≠ gb260))
    (NB346_297 : Aside0 (gb346 ≠ gb297))
    (NB346_302 : Aside0 (gb346 ≠ gb302))
    (NB346_351 : Aside0 (gb346 ≠ gb351))
    (NB351_259 : Aside0 (gb351 ≠ gb259))
    (NB351_260 : Aside0 (gb351 ≠ gb260))
    (NB351_346 : Aside0 (gb351 ≠ gb346))
    (hcut : Aside0 (wc.heap[gb258]? = some (.cells #[.int .i64 a0_0, .int .i64 a0_1, .int .i64 a0_2] 23 (0, 0))) ∧ Aside0 (wc.heap[gb259]? = some (.cells #[.int .i64 a1_0, .int .i64 a1_1, .int .i64 a1_2] 23 (0, 0))) ∧ Aside0 (wc.heap[gb260]? = some (.cells #[.int .i64 a7_0, .int .i64 a7_1, .int .i64 a7_2] 23 (0, 0))) ∧ Aside0 (wc.heap[gb297]? = some (.cells #[.int .i64 t293, .int .i64 t294, .int .i64 t295] 23 (0, 0))) ∧ Aside0 (wc.heap[gb302]? = some (.cells #[.int .i64 t293, .int .i64 t294, .int .i64 t295] 23 (0, 0))) ∧ Aside0 (wc.heap[gb346]? = some (.cells #[.int .i64 t342, .int .i64 t343, .int .i64 t344] 23 (0, 0))) ∧ Aside0 (wc.heap[gb351]? = some (.cells #[.int .i64 t342, .int .i64 t343, .int .i64 t344] 23 (0, 0))) ∧ Aside0 (Below w.heap.size w wc)) :
    (dropC 26 (Tryd.f4.body.getD Code.skip)).wp Tryd.prog (bodyPost Tryd.prog Tryd.f4 fun e w' => e = .returned (.bool true) ∧ Below w.heap.size w w') (Act.mk (List.toArray ((Value.agg #[.int .i64 a0_0, .int .i64 a0_1, .int .i64 a0_2]) :: (Value.agg #[.int .i64 a1_0, .int .i64 a1_1, .int .i64 a1_2]) :: (Value.bool a2) :: (Value.int .i64 a3) :: (Value.int .i64 a4) :: (Value.int .i64 a5) :: (Value.int .i64 a6) :: (Value.agg #[.int .i64 a7_0, .int .i64 a7_1, .int .i64 a7_2]) :: (Value.int .i64 a8) :: (Value.pointer (some ⟨gb258, 0, none⟩)) :: (Value.pointer (some ⟨gb259, 0, none⟩)) :: undef :: undef :: undef :: undef :: undef :: (Value.pointer (some ⟨gb260, 0, none⟩)) :: undef :: x18 :: x19 :: x20 :: x21 :: x22 :: x23 :: x24 :: x25 :: x26 :: x27 :: x28 :: x29 :: x30 :: x31 :: x32 :: x33 :: x34 :: x35 :: x36 :: x37 :: x38 :: x39 :: x40 :: x41 :: x42 :: x43 :: x44 :: x45 :: x46 :: x47 :: x48 :: x49 :: x50 :: x51 :: x52 :: x53 :: x54 :: x55 :: x56 :: x57 :: x58 :: x59 :: x60 :: x61 :: x62 :: x63 :: x64 :: x65 :: x66 :: (Value.int .i64 t324) :: (Value.int .i64 t325) :: (Value.bool p) :: (Value.int .i64 t324) :: (Value.int .i64 t325) :: (Value.bool p) :: (Value.int .i64 t330) :: (Value.int .i64 t331) :: (Value.bool p) :: (Value.int .i64 t330) :: (Value.int .i64 t331) :: (Value.bool p) :: (Value.int .i64 t336) :: (Value.int .i64 t337) :: (Value.bool q) :: (Value.int .i64 t336) :: (Value.int .i64 t337) :: (Value.bool q) :: (Value.pointer (some ⟨gb346, 0, none⟩)) :: (Value.bool s) :: (Value.pointer (some ⟨gb351, 0, none⟩)) :: (Value.bool s) :: x89 :: x90 :: x91 :: x92 :: x93 :: x94 :: x95 :: x96 :: x97 :: x98 :: x99 :: x100 :: x101 :: x102 :: x103 :: x104 :: x105 :: x106 :: x107 :: x108 :: x109 :: x110 :: x111 :: x112 :: x113 :: x114 :: x115 :: x116 :: x117 :: x118 :: x119 :: x120 :: x121 :: x122 :: x123 :: x124 :: x125 :: x126 :: x127 :: x128 :: x129 :: x130 :: x131 :: x132 :: x133 :: x134 :: x135 :: x136 :: x137 :: x138 :: x139 :: x140 :: x141 :: x142 :: x143 :: x144 :: x145 :: x146 :: x147 :: x148 :: x149 :: x150 :: x151 :: x152 :: x153 :: x154 :: x155 :: x156 :: x157 :: x158 :: x159 :: x160 :: x161 :: x162 :: x163 :: x164 :: x165 :: x166 :: x167 :: x168 :: x169 :: x170 :: x171 :: x172 :: x173 :: x174 :: x175 :: x176 :: x177 :: x178 :: x179 :: x180 :: x181 :: x182 :: x183 :: x184 :: x185 :: x186 :: x187 :: x188 :: x189 :: x190 :: x191 :: x192 :: x193 :: x194 :: x195 :: x196 :: x197 :: x198 :: x199 :: x200 :: x201 :: x202 :: x203 :: x204 :: x205 :: x206 :: x207 :: x208 :: x209 :: x210 :: x211 :: x212 :: x213 :: x214 :: x215 :: x216 :: x217 :: x218 :: x219 :: x220 :: x221 :: x222 :: x223 :: x224 :: x225 :: x226 :: x227 :: x228 :: x229 :: x230 :: x231 :: x232 :: x233 :: x234 :: x235 :: x236 :: x237 :: x238 :: x239 :: x240 :: x241 :: x242 :: x243 :: x244 :: x245 :: x246 :: x247 :: x248 :: x249 :: x250 :: x251 :: x252 :: x253 :: x254 :: x255 :: x256 :: x257 :: x258 :: x259 :: x260 :: x261 :: x262 :: x263 :: x264 :: x265 :: x266 :: x267 :: x268 :: x269 :: x270 :: x271 :: x272 :: x273 :: x274 :: x275 :: x276 :: x277 :: x278 :: x279 :: x280 :: x281 :: x282 :: x283 :: x284 :: x285 :: x286 :: x287 :: x288 :: x289 :: x290 :: x291 :: x292 :: x293 :: x294 :: x295 :: x296 :: x297 :: x298 :: x299 :: x300 :: x301 :: x302 :: x303 :: x304 :: x305 :: x306 :: x307 :: x308 :: x309 :: x310 :: x311 :: x312 :: x313 :: x314 :: x315 :: x316 :: x317 :: x318 :: x319 :: x320 :: x321 :: x322 :: x323 :: x324 :: x325 :: x326 :: x327 :: x328 :: x329 :: x330 :: x331 :: x332 :: x333 :: x334 :: x335 :: x336 :: x337 :: x338 :: x339 :: x340 :: x341 :: x342 :: x343 :: x344 :: x345 :: x346 :: x347 :: x348 :: x349 :: x350 :: x351 :: x352 :: x353 :: x354 :: x355 :: x356 :: x357 :: x358 :: x359 :: x360 :: x361 :: x362 :: x363 :: x364 :: x365 :: x366 :: x367 :: x368 :: x369 :: x370 :: x371 :: x372 :: x373 :: x374 :: x375 :: x376 :: x377 :: x378 :: x379 :: x380 :: x381 :: x382 :: x383 :: x384 :: x385 :: x386 :: x387 :: x388 :: x389 :: x390 :: x391 :: x392 :: x393 :: x394 :: x395 :: x396 :: x397 :: x398 :: x399 :: x400 :: x401 :: x402 :: x403 :: x404 :: x405 :: x406 :: x407 :: x408 :: x409 :: x410 :: x411 :: x412 :: x413 :: x414 :: x415 :: x416 :: x417 :: x418 :: x419 :: x420 :: x421 :: x422 :: x423 :: x424 :: x425 :: x426 :: x427 :: x428 :: x429 :: x430 :: x431 :: x432 :: x433 :: x434 :: x435 :: x436 :: x437 :: x438 :: x439 :: x440 :: x441 :: x442 :: x443 :: x444 :: x445 :: x446 :: x447 :: x448 :: x449 :: x450 :: x451 :: x452 :: x453 :: x454 :: x455 :: x456 :: x457 :: x458 :: x459 :: x460 :: x461 :: x462 :: x463 :: x464 :: x465 :: x466 :: x467 :: x468 :: x469 :: x470 :: x471 :: x472 :: x473 :: x474 :: x475 :: x476 :: x477 :: x478 :: x479 :: x480 :: x481 :: x482 :: x483 :: x484 :: x485 :: x486 :: x487 :: x488 :: x489 :: x490 :: x491 :: x492 :: x493 :: x494 :: x495 :: x496 :: x497 :: x498 :: x499 :: x500 :: x501 :: x502 :: x503 :: x504 :: x505 :: x506 :: x507 :: x508 :: x509 :: x510 :: x511 :: x512 :: x513 :: x514 :: x515 :: x516 :: x517 :: x518 :: x519 :: x520 :: x521 :: x522 :: x523 :: x524 :: x525 :: x526 :: x527 :: x528 :: x529 :: x530 :: x531 :: x532 :: x533 :: x534 :: x535 :: x536 :: x537 :: x538 :: x539 :: x540 :: x541 :: x542 :: x543 :: x544 :: x545 :: x546 :: x547 :: x548 :: x549 :: x550 :: x551 :: x552 :: x553 :: x554 :: x555 :: x556 :: x557 :: x558 :: x559 :: x560 :: x561 :: x562 :: x563 :: x564 :: x565 :: x566 :: x567 :: x568 :: x569 :: x570 :: x571 :: x572 :: x573 :: x574 :: x575 :: x576 :: x577 :: x578 :: x579 :: x580 :: x581 :: x582 :: x583 :: x584 :: x585 :: x586 :: x587 :: (Value.bool false) :: undef :: undef :: undef :: undef :: undef :: undef :: undef :: undef :: undef :: undef :: undef :: undef :: undef :: undef :: undef :: undef :: undef :: undef :: undef :: undef :: undef :: undef :: undef :: undef :: undef :: undef :: undef :: undef :: undef :: undef :: undef :: undef :: undef :: undef :: undef :: undef :: undef :: undef :: undef :: undef :: undef :: undef :: undef :: undef :: undef :: undef :: undef :: undef :: undef :: undef :: undef :: undef :: undef :: undef :: undef :: undef :: undef :: undef :: undef :: undef :: undef :: undef :: undef :: undef :: undef :: undef :: undef :: undef :: undef :: undef :: undef :: undef :: undef :: undef :: undef :: undef :: undef :: undef :: undef :: undef :: undef :: undef :: undef :: undef :: undef :: undef :: undef :: undef :: undef :: undef :: undef :: undef :: undef :: undef :: undef :: undef :: undef :: undef :: undef :: undef :: undef :: undef :: undef :: undef :: undef :: undef :: undef :: undef :: undef :: undef :: undef :: undef :: undef :: [])) []) wc := by
  have hu23 := Tryd.underlying23
  obtain ⟨BK258, BK259, BK260, BK297, BK302, BK346, BK351, HB⟩ := hcut
  change Code.wp _ (Code.seq _ _) _ _ _
  go_upto_if 589 with (fail)
  go_cut [] from 589 to 589 (fun wc => Aside0 (wc.heap[gb258]? = some (.cells #[.int .i64 a0_0, .int .i64 a0_1, .int .i64 a0_2] 23 (0, 0))) ∧ Aside0 (wc.heap[gb259]? = some (.cells #[.int .i64 a1_0, .int .i64 a1_1, .int .i64 a1_2] 23 (0, 0))) ∧ Aside0 (wc.heap[gb260]? = some (.cells #[.int .i64 a7_0, .int .i64 a7_1, .int .i64 a7_2] 23 (0, 0))) ∧ Aside0 (wc.heap[gb297]? = some (.cells #[.int .i64 t293, .int .i64 t294, .int .i64 t295] 23 (0, 0))) ∧ Aside0 (wc.heap[gb302]? = some (.cells #[.int .i64 t293, .int .i64 t294, .int .i64 t295] 23 (0, 0))) ∧ Aside0 (wc.heap[gb346]? = some (.cells #[.int .i64 t342, .int .i64 t343, .int .i64 t344] 23 (0, 0))) ∧ Aside0 (wc.heap[gb351]? = some (.cells #[.int .i64 t342, .int .i64 t343, .int .i64 t344] 23 (0, 0))) ∧ Aside0 (Below w.heap.size w wc))
  case first =>
    by_cases c440 : p = true
    · subst c440
      obtain ⟨t352, t353, A441, HP443, HP452, HP470⟩ := HP.out rfl
      have c443 : ¬ ((wrap64 (t330 * t325)) < (wrap64 (t324 * t331))) := Int.not_lt.2 HP443.out
      have c443b0 : decide ((wrap64 (t330 * t325)) < (wrap64 (t324 * t331))) = false := decide_eq_false c443
      clear c443
      (first | rw [c443b0] | (simp only [i64_w, i32_w]; rw [c443b0]) | skip)
      have c452 : ¬ ((wrap64 (t330 * t353)) < (wrap64 (t352 * t331))) := Int.not_lt.2 HP452.out
      have c452b0 : decide ((wrap64 (t330 * t353)) < (wrap64 (t352 * t331))) = false := decide_eq_false c452
      clear c452
      by_cases c461 : (wrap64 (t330 * t325)) = (wrap64 (t324 * t331))
      · skip
        have c461b0 : ((wrap64 (t330 * t325)) == (wrap64 (t324 * t331))) = true := beq_iff_eq.mpr c461
        have c461b1 : ((wrap64 (t330 * t325)) != (wrap64 (t324 * t331))) = false := bne_eq_false_iff_eq.mpr c461
        clear c461
        have hnb462 := NB259_258.out
        have hnc462 := NB258_259.out
        have hnb463 := NB259_260.out
        have hnc463 := NB260_259.out
        have hnb464 := NB259_297.out
        have hnc464 := NB297_259.out
        have hnb465 := NB259_302.out
        have hnc465 := NB302_259.out
        have hnb466 := NB259_346.out
        have hnc466 := NB346_259.out
        have hnb467 := NB259_351.out
        have hnc467 := NB351_259.out
        have hcz468_0 : wc.cell? ⟨gb259, 0, none⟩ = some (.int .i64 a1_0) := (blk_cell BK259.out 0).trans rfl
        have hcz468_1 : wc.cell? ⟨gb259, 1, none⟩ = some (.int .i64 a1_1) := (blk_cell BK259.out 1).trans rfl
        have hcz468_2 : wc.cell? ⟨gb259, 2, none⟩ = some (.int .i64 a1_2) := (blk_cell BK259.out 2).trans rfl
        have hfz468_0 := blk_frozen BK259.out 0
        have hfz468_1 := blk_frozen BK259.out 1
        have hfz468_2 := blk_frozen BK259.out 2
        go_wp2_with (first | ((with_reducible refine gate_callee (f := 44) rfl ?_); refine goesL_ (some 595) rfl rfl Tryd.func44 (by kernel_rfl) rfl #[.agg #[.int .i64 a1_0, .int .i64 a1_1, .int .i64 a1_2], .bool (!a2), .int .i64 a3] rfl (by (try simp only [List.map_toArray, List.map_cons, List.map_nil]); first | done | rfl | (simp only [List.length_drop, List.length_take]; rfl)) ?_; (with_reducible refine (impl_HeightAt.calls k a1_0 a1_1 a1_2 (!a2) a3 t352 t353 true _ A441.out).mono ?_); rintro e w469 ⟨rfl, hb⟩; refine ⟨_, rfl, ?_⟩; have n0_ := Aside0.mk (blk_below (g := gb258) (o := .cells #[.int .i64 a0_0, .int .i64 a0_1, .int .i64 a0_2] 23 (0, 0)) (by (with_reducible repeat (first | refine blk_drewN ?_ _ | refine blk_drew ?_ | refine blk_alloc ?_ _)); exact BK258.out) hb); have n1_ := Aside0.mk (blk_below (g := gb259) (o := .cells #[.int .i64 a1_0, .int .i64 a1_1, .int .i64 a1_2] 23 (0, 0)) (by (with_reducible repeat (first | refine blk_drewN ?_ _ | refine blk_drew ?_ | refine blk_alloc ?_ _)); exact BK259.out) hb); have n2_ := Aside0.mk (blk_below (g := gb260) (o := .cells #[.int .i64 a7_0, .int .i64 a7_1, .int .i64 a7_2] 23 (0, 0)) (by (with_reducible repeat (first | refine blk_drewN ?_ _ | refine blk_drew ?_ | refine blk_alloc ?_ _)); exact BK260.out) hb); have n3_ := Aside0.mk (blk_below (g := gb297) (o := .cells #[.int .i64 t293, .int .i64 t294, .int .i64 t295] 23 (0, 0)) (by (with_reducible repeat (first | refine blk_drewN ?_ _ | refine blk_drew ?_ | refine blk_alloc ?_ _)); exact BK297.out) hb); have n4_ := Aside0.mk (blk_below (g := gb302) (o := .cells #[.int .i64 t293, .int .i64 t294, .int .i64 t295] 23 (0, 0)) (by (with_reducible repeat (first | refine blk_drewN ?_ _ | refine blk_drew ?_ | refine blk_alloc ?_ _)); exact BK302.out) hb); have n5_ := Aside0.mk (blk_below (g := gb346) (o := .cells #[.int .i64 t342, .int .i64 t343, .int .i64 t344] 23 (0, 0)) (by (with_reducible repeat (first | refine blk_drewN ?_ _ | refine blk_drew ?_ | refine blk_alloc ?_ _)); exact BK346.out) hb); have n6_ := Aside0.mk (blk_below (g := gb351) (o := .cells #[.int .i64 t342, .int .i64 t343, .int .i64 t344] 23 (0, 0)) (by (with_reducible repeat (first | refine blk_drewN ?_ _ | refine blk_drew ?_ | refine blk_alloc ?_ _)); exact BK351.out) hb); have n7_ := Aside0.mk (below_step (by repeat (first | (with_reducible first | exact HB.out | apply below_alloc | apply pw_below_drewN | apply below_drew1 | refine below_set ?_ GE258.out | refine below_set ?_ GE259.out | refine below_set ?_ GE260.out | refine below_set ?_ GE297.out | refine below_set ?_ GE302.out | refine below_set ?_ GE346.out | refine below_set ?_ GE351.out) | exact HB.out)) hb); clear BK258; clear BK259; clear BK260; clear BK297; clear BK302; clear BK346; clear BK351; clear HB; have BK258 := n0_; have BK259 := n1_; have BK260 := n2_; have BK297 := n3_; have BK302 := n4_; have BK346 := n5_; have BK351 := n6_; have HB := n7_; clear n0_ n1_ n2_ n3_ n4_ n5_ n6_ n7_; (try clear hb); (try clear hb2); (try clear hk); (try clear hi)))
        go_meet
        case rel => exact ⟨⟨by (with_reducible repeat (first | refine blk_drewN ?_ _ | refine blk_drew ?_ | refine blk_alloc ?_ _)); exact BK258.out⟩, ⟨by (with_reducible repeat (first | refine blk_drewN ?_ _ | refine blk_drew ?_ | refine blk_alloc ?_ _)); exact BK259.out⟩, ⟨by (with_reducible repeat (first | refine blk_drewN ?_ _ | refine blk_drew ?_ | refine blk_alloc ?_ _)); exact BK260.out⟩, ⟨by (with_reducible repeat (first | refine blk_drewN ?_ _ | refine blk_drew ?_ | refine blk_alloc ?_ _)); exact BK297.out⟩, ⟨by (with_reducible repeat (first | refine blk_drewN ?_ _ | refine blk_drew ?_ | refine blk_alloc ?_ _)); exact BK302.out⟩, ⟨by (with_reducible repeat (first | refine blk_drewN ?_ _ | refine blk_drew ?_ | refine blk_alloc ?_ _)); exact BK346.out⟩, ⟨by (with_reducible repeat (first | refine blk_drewN ?_ _ | refine blk_drew ?_ | refine blk_alloc ?_ _)); exact BK351.out⟩, ⟨by repeat (first | (with_reducible first | exact HB.out | apply below_alloc | apply pw_below_drewN | apply below_drew1 | refine below_set ?_ GE258.out | refine below_set ?_ GE259.out | refine below_set ?_ GE260.out | refine below_set ?_ GE297.out | refine below_set ?_ GE302.out | refine below_set ?_ GE346.out | refine below_set ?_ GE351.out) | exact HB.out)⟩⟩
      · skip
        have c461b0 : ((wrap64 (t330 * t325)) == (wrap64 (t324 * t331))) = false := beq_eq_false_iff_ne.mpr c461
        have c461b1 : ((wrap64 (t330 * t325)) != (wrap64 (t324 * t331))) = true := bne_iff_ne.mpr c461
        have c470 : (wrap64 (t330 * t353)) = (wrap64 (t352 * t331)) := (HP470.out.resolve_left c461)
        have c470b0 : ((wrap64 (t330 * t353)) == (wrap64 (t352 * t331))) = true := beq_iff_eq.mpr c470
        have c470b1 : ((wrap64 (t330 * t353)) != (wrap64 (t352 * t331))) = false := bne_eq_false_iff_eq.mpr c470
        clear c470
        have hnb471 := NB259_258.out
        have hnc471 := NB258_259.out
        have hnb472 := NB259_260.out
        have hnc472 := NB260_259.out
        have hnb473 := NB259_297.out
        have hnc473 := NB297_259.out
        have hnb474 := NB259_302.out
        have hnc474 := NB302_259.out
        have hnb475 := NB259_346.out
        have hnc475 := NB346_259.out
        have hnb476 := NB259_351.out
        have hnc476 := NB351_259.out
        have hcz477_0 : wc.cell? ⟨gb259, 0, none⟩ = some (.int .i64 a1_0) := (blk_cell BK259.out 0).trans rfl
        have hcz477_1 : wc.cell? ⟨gb259, 1, none⟩ = some (.int .i64 a1_1) := (blk_cell BK259.out 1).trans rfl
        have hcz477_2 : wc.cell? ⟨gb259, 2, none⟩ = some (.int .i64 a1_2) := (blk_cell BK259.out 2).trans rfl
        have hfz477_0 := blk_frozen BK259.out 0
        have hfz477_1 := blk_frozen BK259.out 1
        have hfz477_2 := blk_frozen BK259.out 2
        go_wp2_with (first | ((with_reducible refine gate_callee (f := 44) rfl ?_); refine goesL_ (some 595) rfl rfl Tryd.func44 (by kernel_rfl) rfl #[.agg #[.int .i64 a1_0, .int .i64 a1_1, .int .i64 a1_2], .bool (!a2), .int .i64 a3] rfl (by (try simp only [List.map_toArray, List.map_cons, List.map_nil]); first | done | rfl | (simp only [List.length_drop, List.length_take]; rfl)) ?_; (with_reducible refine (impl_HeightAt.calls k a1_0 a1_1 a1_2 (!a2) a3 t352 t353 true _ A441.out).mono ?_); rintro e w478 ⟨rfl, hb⟩; refine ⟨_, rfl, ?_⟩; have n0_ := Aside0.mk (blk_below (g := gb258) (o := .cells #[.int .i64 a0_0, .int .i64 a0_1, .int .i64 a0_2] 23 (0, 0)) (by (with_reducible repeat (first | refine blk_drewN ?_ _ | refine blk_drew ?_ | refine blk_alloc ?_ _)); exact BK258.out) hb); have n1_ := Aside0.mk (blk_below (g := gb259) (o := .cells #[.int .i64 a1_0, .int .i64 a1_1, .int .i64 a1_2] 23 (0, 0)) (by (with_reducible repeat (first | refine blk_drewN ?_ _ | refine blk_drew ?_ | refine blk_alloc ?_ _)); exact BK259.out) hb); have n2_ := Aside0.mk (blk_below (g := gb260) (o := .cells #[.int .i64 a7_0, .int .i64 a7_1, .int .i64 a7_2] 23 (0, 0)) (by (with_reducible repeat (first | refine blk_drewN ?_ _ | refine blk_drew ?_ | refine blk_alloc ?_ _)); exact BK260.out) hb); have n3_ := Aside0.mk (blk_below (g := gb297) (o := .cells #[.int .i64 t293, .int .i64 t294, .int .i64 t295] 23 (0, 0)) (by (with_reducible repeat (first | refine blk_drewN ?_ _ | refine blk_drew ?_ | refine blk_alloc ?_ _)); exact BK297.out) hb); have n4_ := Aside0.mk (blk_below (g := gb302) (o := .cells #[.int .i64 t293, .int .i64 t294, .int .i64 t295] 23 (0, 0)) (by (with_reducible repeat (first | refine blk_drewN ?_ _ | refine blk_drew ?_ | refine blk_alloc ?_ _)); exact BK302.out) hb); have n5_ := Aside0.mk (blk_below (g := gb346) (o := .cells #[.int .i64 t342, .int .i64 t343, .int .i64 t344] 23 (0, 0)) (by (with_reducible repeat (first | refine blk_drewN ?_ _ | refine blk_drew ?_ | refine blk_alloc ?_ _)); exact BK346.out) hb); have n6_ := Aside0.mk (blk_below (g := gb351) (o := .cells #[.int .i64 t342, .int .i64 t343, .int .i64 t344] 23 (0, 0)) (by (with_reducible repeat (first | refine blk_drewN ?_ _ | refine blk_drew ?_ | refine blk_alloc ?_ _)); exact BK351.out) hb); have n7_ := Aside0.mk (below_step (by repeat (first | (with_reducible first | exact HB.out | apply below_alloc | apply pw_below_drewN | apply below_drew1 | refine below_set ?_ GE258.out | refine below_set ?_ GE259.out | refine below_set ?_ GE260.out | refine below_set ?_ GE297.out | refine below_set ?_ GE302.out | refine below_set ?_ GE346.out | refine below_set ?_ GE351.out) | exact HB.out)) hb); clear BK258; clear BK259; clear BK260; clear BK297; clear BK302; clear BK346; clear BK351; clear HB; have BK258 := n0_; have BK259 := n1_; have BK260 := n2_; have BK297 := n3_; have BK302 := n4_; have BK346 := n5_; have BK351 := n6_; have HB := n7_; clear n0_ n1_ n2_ n3_ n4_ n5_ n6_ n7_; (try clear hb); (try clear hb2); (try clear hk); (try clear hi)))
        go_meet
        case rel => exact ⟨⟨by (with_reducible repeat (first | refine blk_drewN ?_ _ | refine blk_drew ?_ | refine blk_alloc ?_ _)); exact BK258.out⟩, ⟨by (with_reducible repeat (first | refine blk_drewN ?_ _ | refine blk_drew ?_ | refine blk_alloc ?_ _)); exact BK259.out⟩, ⟨by (with_reducible repeat (first | refine blk_drewN ?_ _ | refine blk_drew ?_ | refine blk_alloc ?_ _)); exact BK260.out⟩, ⟨by (with_reducible repeat (first | refine blk_drewN ?_ _ | refine blk_drew ?_ | refine blk_alloc ?_ _)); exact BK297.out⟩, ⟨by (with_reducible repeat (first | refine blk_drewN ?_ _ | refine blk_drew ?_ | refine blk_alloc ?_ _)); exact BK302.out⟩, ⟨by (with_reducible repeat (first | refine blk_drewN ?_ _ | refine blk_drew ?_ | refine blk_alloc ?_ _)); exact BK346.out⟩, ⟨by (with_reducible repeat (first | refine blk_drewN ?_ _ | refine blk_drew ?_ | refine blk_alloc ?_ _)); exact BK351.out⟩, ⟨by repeat (first | (with_reducible first | exact HB.out | apply below_alloc | apply pw_below_drewN | apply below_drew1 | refine below_set ?_ GE258.out | refine below_set ?_ GE259.out | refine below_set ?_ GE260.out | refine below_set ?_ GE297.out | refine below_set ?_ GE302.out | refine below_set ?_ GE346.out | refine below_set ?_ GE351.out) | exact HB.out)⟩⟩
    · replace c440 := Bool.eq_false_iff.mpr c440
      subst c440
      go_wp2
      go_meet
      case rel => exact ⟨⟨by (with_reducible repeat (first | refine blk_drewN ?_ _ | refine blk_drew ?_ | refine blk_alloc ?_ _)); exact BK258.out⟩, ⟨by (with_reducible repeat (first | refine blk_drewN ?_ _ | refine blk_drew ?_ | refine blk_alloc ?_ _)); exact BK259.out⟩, ⟨by (with_reducible repeat (first | refine blk_drewN ?_ _ | refine blk_drew ?_ | refine blk_alloc ?_ _)); exact BK260.out⟩, ⟨by (with_reducible repeat (first | refine blk_drewN ?_ _ | refine blk_drew ?_ | refine blk_alloc ?_ _)); exact BK297.out⟩, ⟨by (with_reducible repeat (first | refine blk_drewN ?_ _ | refine blk_drew ?_ | refine blk_alloc ?_ _)); exact BK302.out⟩, ⟨by (with_reducible repeat (first | refine blk_drewN ?_ _ | refine blk_drew ?_ | refine blk_alloc ?_ _)); exact BK346.out⟩, ⟨by (with_reducible repeat (first | refine blk_drewN ?_ _ | refine blk_drew ?_ | refine blk_alloc ?_ _)); exact BK351.out⟩, ⟨by repeat (first | (with_reducible first | exact HB.out | apply below_alloc | apply pw_below_drewN | apply below_drew1 | refine below_set ?_ GE258.out | refine below_set ?_ GE259.out | refine below_set ?_ GE260.out | refine below_set ?_ GE297.out | refine below_set ?_ GE302.out | refine below_set ?_ GE346.out | refine below_set ?_ GE351.out) | exact HB.out)⟩⟩
  case rest =>
    try clear c306
    try clear c306b0
    try clear c306b1
    try clear c314
    try clear c314b0
    try clear c315
    try clear c318
    try clear c318b0
    try clear c318b1
    try clear c319
    try clear c319b0
    try clear c319b1
    try clear c401
    try clear c401b0
    try clear c401b1
    try clear c401b2
    try clear c402
    try clear c402b0
    try clear c402b1
    try clear c403
    try clear c403b0
    try clear c403b1
    try clear c404
    try clear c404b0
    try clear c404b1
    try clear c404b2
    try clear c405
    try clear c405b0
    try clear c405b1
    try clear c406
    try clear c406b0
    try clear c406b1
    try clear c407
    try clear c407b0
    try clear c407b1
    try clear c407b2
    try clear c408
    try clear c408b0
    try clear c408b1
    try clear c409
    try clear c409b0
    try clear c409b1
    try clear c410
    try clear c410b0
    try clear c410b1
    try clear c410b2
    try clear c411
    try clear c411b0
    try clear c440
    try clear c443
    try clear c443b0
    try clear c452
    try clear c452b0
    try clear c461
    try clear c461b0
    try clear c461b1
    try clear c470
    try clear c470b0
    try clear c470b1
    try clear hcz182_0
    try clear hcz182_1
    try clear hcz182_2
    try clear hcz186_0
    try clear hcz186_1
    try clear hcz186_2
    try clear hcz188_0
    try clear hcz188_1
    try clear hcz188_2
    try clear hcz197_0
    try clear hcz197_1
    try clear hcz197_2
    try clear hcz221_0
    try clear hcz221_1
    try clear hcz221_2
    try clear hcz226_0
    try clear hcz226_1
    try clear hcz226_2
    try clear hcz313_0
    try clear hcz313_1
    try clear hcz313_2
    try clear hcz325_0
    try clear hcz325_1
    try clear hcz325_2
    try clear hcz327_0
    try clear hcz327_1
    try clear hcz327_2
    try clear hcz370_0
    try clear hcz370_1
    try clear hcz370_2
    try clear hcz372_0
    try clear hcz372_1
    try clear hcz372_2
    try clear hcz374_0
    try clear hcz374_1
    try clear hcz374_2
    try clear hcz376_0
    try clear hcz376_1
    try clear hcz376_2
    try clear hcz382_0
    try clear hcz382_1
    try clear hcz382_2
    try clear hcz390_0
    try clear hcz390_1
    try clear hcz390_2
    try clear hcz391_0
    try clear hcz391_1
    try clear hcz391_2
    try clear hcz400_0
    try clear hcz400_1
    try clear hcz400_2
    try clear hcz431_0
    try clear hcz431_1
    try clear hcz431_2
    try clear hcz437_0
    try clear hcz437_1
    try clear hcz437_2
    try clear hcz468_0
    try clear hcz468_1
    try clear hcz468_2
    try clear hcz477_0
    try clear hcz477_1
    try clear hcz477_2
    try clear hfz182_0
    try clear hfz182_1
    try clear hfz182_2
    try clear hfz186_0
    try clear hfz186_1
    try clear hfz186_2
    try clear hfz188_0
    try clear hfz188_1
    try clear hfz188_2
    try clear hfz197_0
    try clear hfz197_1
    try clear hfz197_2
    try clear hfz221_0
    try clear hfz221_1
    try clear hfz221_2
    try clear hfz226_0
    try clear hfz226_1
    try clear hfz226_2
    try clear hfz313_0
    try clear hfz313_1
    try clear hfz313_2
    try clear hfz325_0
    try clear hfz325_1
    try clear hfz325_2
    try clear hfz327_0
    try clear hfz327_1
    try clear hfz327_2
    try clear hfz370_0
    try clear hfz370_1
    try clear hfz370_2
    try clear hfz372_0
    try clear hfz372_1
    try clear hfz372_2
    try clear hfz374_0
    try clear hfz374_1
    try clear hfz374_2
    try clear hfz376_0
    try clear hfz376_1
    try clear hfz376_2
    try clear hfz382_0
    try clear hfz382_1
    try clear hfz382_2
    try clear hfz390_0
    try clear hfz390_1
    try clear hfz390_2
    try clear hfz391_0
    try clear hfz391_1
    try clear hfz391_2
    try clear hfz400_0
    try clear hfz400_1
    try clear hfz400_2
    try clear hfz431_0
    try clear hfz431_1
    try clear hfz431_2
    try clear hfz437_0
    try clear hfz437_1
    try clear hfz437_2
    try clear hfz468_0
    try clear hfz468_1
    try clear hfz468_2
    try clear hfz477_0
    try clear hfz477_1
    try clear hfz477_2
    obtain ⟨BK258, BK259, BK260, BK297, BK302, BK346, BK351, HB⟩ := hcut
    go_upto_if 637 with (fail)
    go_cut [] from 637 to 637 (fun wc => Aside0 (wc.heap[gb258]? = some (.cells #[.int .i64 a0_0, .int .i64 a0_1, .int .i64 a0_2] 23 (0, 0))) ∧ Aside0 (wc.heap[gb259]? = some (.cells #[.int .i64 a1_0, .int .i64 a1_1, .int .i64 a1_2] 23 (0, 0))) ∧ Aside0 (wc.heap[gb260]? = some (.cells #[.int .i64 a7_0, .int .i64 a7_1, .int .i64 a7_2] 23 (0, 0))) ∧ Aside0 (wc.heap[gb297]? = some (.cells #[.int .i64 t293, .int .i64 t294, .int .i64 t295] 23 (0, 0))) ∧ Aside0 (wc.heap[gb302]? = some (.cells #[.int .i64 t293, .int .i64 t294, .int .i64 t295] 23 (0, 0))) ∧ Aside0 (wc.heap[gb346]? = some (.cells #[.int .i64 t342, .int .i64 t343, .int .i64 t344] 23 (0, 0))) ∧ Aside0 (wc.heap[gb351]? = some (.cells #[.int .i64 t342, .int .i64 t343, .int .i64 t344] 23 (0, 0))) ∧ Aside0 (Below w.heap.size w wc))
    case first =>
      by_cases c496 : q = true
      · subst c496
        obtain ⟨A497, HQ499⟩ := HQ.out rfl
        have c499 : (wrap64 (a5 * (wrap64 (t336 + (wrap64 (a4 * t337)))))) = (wrap64 ((wrap64 (a6 * a4)) * t336)) := HQ499.out
        have c499b0 : ((wrap64 (a5 * (wrap64 (t336 + (wrap64 (a4 * t337)))))) == (wrap64 ((wrap64 (a6 * a4)) * t336))) = true := beq_iff_eq.mpr c499
        have c499b1 : ((wrap64 (a5 * (wrap64 (t336 + (wrap64 (a4 * t337)))))) != (wrap64 ((wrap64 (a6 * a4)) * t336))) = false := bne_eq_false_iff_eq.mpr c499
        clear c499
        (first | rw [c499b0] | (simp only [i64_w, i32_w]; rw [c499b0]) | skip)
        go_wp2_with (first | ((with_reducible refine gate_callee (f := 42) rfl ?_); refine goesL_ (some 640) rfl rfl Tryd.func42 (by kernel_rfl) rfl #[.int .i64 t336, .int .i64 t337] rfl (by (try simp only [List.map_toArray, List.map_cons, List.map_nil]); first | done | rfl | (simp only [List.length_drop, List.length_take]; rfl)) ?_; (with_reducible refine (laws_jLow.calls k t336 t337 true _ A497.out).mono ?_); rintro e w' ⟨rfl, ⟨nd, rfl⟩⟩; refine ⟨_, rfl, ?_⟩))
        go_meet
        case rel => exact ⟨⟨by (with_reducible repeat (first | refine blk_drewN ?_ _ | refine blk_drew ?_ | refine blk_alloc ?_ _)); exact BK258.out⟩, ⟨by (with_reducible repeat (first | refine blk_drewN ?_ _ | refine blk_drew ?_ | refine blk_alloc ?_ _)); exact BK259.out⟩, ⟨by (with_reducible repeat (first | refine blk_drewN ?_ _ | refine blk_drew ?_ | refine blk_alloc ?_ _)); exact BK260.out⟩, ⟨by (with_reducible repeat (first | refine blk_drewN ?_ _ | refine blk_drew ?_ | refine blk_alloc ?_ _)); exact BK297.out⟩, ⟨by (with_reducible repeat (first | refine blk_drewN ?_ _ | refine blk_drew ?_ | refine blk_alloc ?_ _)); exact BK302.out⟩, ⟨by (with_reducible repeat (first | refine blk_drewN ?_ _ | refine blk_drew ?_ | refine blk_alloc ?_ _)); exact BK346.out⟩, ⟨by (with_reducible repeat (first | refine blk_drewN ?_ _ | refine blk_drew ?_ | refine blk_alloc ?_ _)); exact BK351.out⟩, ⟨by repeat (first | (with_reducible first | exact HB.out | apply below_alloc | apply pw_below_drewN | apply below_drew1 | refine below_set ?_ GE258.out | refine below_set ?_ GE259.out | refine below_set ?_ GE260.out | refine below_set ?_ GE297.out | refine below_set ?_ GE302.out | refine below_set ?_ GE346.out | refine below_set ?_ GE351.out) | exact HB.out)⟩⟩
      · replace c496 := Bool.eq_false_iff.mpr c496
        subst c496
        go_wp2
        go_meet
        case rel => exact ⟨⟨by (with_reducible repeat (first | refine blk_drewN ?_ _ | refine blk_drew ?_ | refine blk_alloc ?_ _)); exact BK258.out⟩, ⟨by (with_reducible repeat (first | refine blk_drewN ?_ _ | refine blk_drew ?_ | refine blk_alloc ?_ _)); exact BK259.out⟩, ⟨by (with_reducible repeat (first | refine blk_drewN ?_ _ | refine blk_drew ?_ | refine blk_alloc ?_ _)); exact BK260.out⟩, ⟨by (with_reducible repeat (first | refine blk_drewN ?_ _ | refine blk_drew ?_ | refine blk_alloc ?_ _)); exact BK297.out⟩, ⟨by (with_reducible repeat (first | refine blk_drewN ?_ _ | refine blk_drew ?_ | refine blk_alloc ?_ _)); exact BK302.out⟩, ⟨by (with_reducible repeat (first | refine blk_drewN ?_ _ | refine blk_drew ?_ | refine blk_alloc ?_ _)); exact BK346.out⟩, ⟨by (with_reducible repeat (first | refine blk_drewN ?_ _ | refine blk_drew ?_ | refine blk_alloc ?_ _)); exact BK351.out⟩, ⟨by repeat (first | (with_reducible first | exact HB.out | apply below_alloc | apply pw_below_drewN | apply below_drew1 | refine below_set ?_ GE258.out | refine below_set ?_ GE259.out | refine below_set ?_ GE260.out | refine below_set ?_ GE297.out | refine below_set ?_ GE302.out | refine below_set ?_ GE346.out | refine below_set ?_ GE351.out) | exact HB.out)⟩⟩
    case rest =>
      try clear c306
      try clear c306b0
      try clear c306b1
      try clear c314
      try clear c314b0
      try clear c315
      try clear c318
      try clear c318b0
      try clear c318b1
      try clear c319
      try clear c319b0
      try clear c319b1
      try clear c401
      try clear c401b0
      try clear c401b1
      try clear c401b2
      try clear c402
      try clear c402b0
      try clear c402b1
      try clear c403
      try clear c403b0
      try clear c403b1
      try clear c404
      try clear c404b0
      try clear c404b1
      try clear c404b2
      try clear c405
      try clear c405b0
      try clear c405b1
      try clear c406
      try clear c406b0
      try clear c406b1
      try clear c407
      try clear c407b0
      try clear c407b1
      try clear c407b2
      try clear c408
      try clear c408b0
      try clear c408b1
      try clear c409
      try clear c409b0
      try clear c409b1
      try clear c410
      try clear c410b0
      try clear c410b1
      try clear c410b2
      try clear c411
      try clear c411b0
      try clear c440
      try clear c443
      try clear c443b0
      try clear c452
      try clear c452b0
      try clear c461
      try clear c461b0
      try clear c461b1
      try clear c470
      try clear c470b0
      try clear c470b1
      try clear c496
      try clear c499
      try clear c499b0
      try clear c499b1
      try clear hcz182_0
      try clear hcz182_1
      try clear hcz182_2
      try clear hcz186_0
      try clear hcz186_1
      try clear hcz186_2
      try clear hcz188_0
      try clear hcz188_1
      try clear hcz188_2
      try clear hcz197_0
      try clear hcz197_1
      try clear hcz197_2
      try clear hcz221_0
      try clear hcz221_1
      try clear hcz221_2
      try clear hcz226_0
      try clear hcz226_1
      try clear hcz226_2
      try clear hcz313_0
      try clear hcz313_1
      try clear hcz313_2
      try clear hcz325_0
      try clear hcz325_1
      try clear hcz325_2
      try clear hcz327_0
      try clear hcz327_1
      try clear hcz327_2
      try clear hcz370_0
      try clear hcz370_1
      try clear hcz370_2
      try clear hcz372_0
      try clear hcz372_1
      try clear hcz372_2
      try clear hcz374_0
      try clear hcz374_1
      try clear hcz374_2
      try clear hcz376_0
      try clear hcz376_1
      try clear hcz376_2
      try clear hcz382_0
      try clear hcz382_1
      try clear hcz382_2
      try clear hcz390_0
      try clear hcz390_1
      try clear hcz390_2
      try clear hcz391_0
      try clear hcz391_1
      try clear hcz391_2
      try clear hcz400_0
      try clear hcz400_1
      try clear hcz400_2
      try clear hcz431_0
      try clear hcz431_1
      try clear hcz431_2
      try clear hcz437_0
      try clear hcz437_1
      try clear hcz437_2
      try clear hcz468_0
      try clear hcz468_1
      try clear hcz468_2
      try clear hcz477_0
      try clear hcz477_1
      try clear hcz477_2
      try clear hfz182_0
      try clear hfz182_1
      try clear hfz182_2
      try clear hfz186_0
      try clear hfz186_1
      try clear hfz186_2
      try clear hfz188_0
      try clear hfz188_1
      try clear hfz188_2
      try clear hfz197_0
      try clear hfz197_1
      try clear hfz197_2
      try clear hfz221_0
      try clear hfz221_1
      try clear hfz221_2
      try clear hfz226_0
      try clear hfz226_1
      try clear hfz226_2
      try clear hfz313_0
      try clear hfz313_1
      try clear hfz313_2
      try clear hfz325_0
      try clear hfz325_1
      try clear hfz325_2
      try clear hfz327_0
      try clear hfz327_1
      try clear hfz327_2
      try clear hfz370_0
      try clear hfz370_1
      try clear hfz370_2
      try clear hfz372_0
      try clear hfz372_1
      try clear hfz372_2
      try clear hfz374_0
      try clear hfz374_1
      try clear hfz374_2
      try clear hfz376_0
      try clear hfz376_1
      try clear hfz376_2
      try clear hfz382_0
      try clear hfz382_1
      try clear hfz382_2
      try clear hfz390_0
      try clear hfz390_1
      try clear hfz390_2
      try clear hfz391_0
      try clear hfz391_1
      try clear hfz391_2
      try clear hfz400_0
      try clear hfz400_1
      try clear hfz400_2
      try clear hfz431_0
      try clear hfz431_1
      try clear hfz431_2
      try clear hfz437_0
      try clear hfz437_1
      try clear hfz437_2
      try clear hfz468_0
      try clear hfz468_1
      try clear hfz468_2
      try clear hfz477_0
      try clear hfz477_1
      try clear hfz477_2
      obtain ⟨BK258, BK259, BK260, BK297, BK302, BK346, BK351, HB⟩ := hcut
      by_cases c500 : s = true
      · subst c500
        obtain ⟨t356, t357, A501, A502, A503⟩ := HS.out rfl
        have c506 : t356 = t356 := by simp
        have c506b0 : (t356 == t356) = true := beq_iff_eq.mpr c506
        have c506b1 : (t356 != t356) = false := bne_eq_false_iff_eq.mpr c506
        clear c506
        have c507 : t357 = t357 := by simp
        have c507b0 : (t357 == t357) = true := beq_iff_eq.mpr c507
        have c507b1 : (t357 != t357) = false := bne_eq_false_iff_eq.mpr c507
        clear c507
        have c509 : ¬ ((!(a7_0 == a7_0) || (!(a7_1 == a7_1) || (!(a7_2 == a7_2)))) = true) := by simp
        have c509b0 : (!(a7_0 == a7_0) || (!(a7_1 == a7_1) || (!(a7_2 == a7_2)))) = false := by simpa using c509
        clear c509
        have hnb537 := NB260_258.out
        have hnc537 := NB258_260.out
        have hnb538 := NB260_259.out
        have hnc538 := NB259_260.out
        have hnb539 := NB260_297.out
        have hnc539 := NB297_260.out
        have hnb540 := NB260_302.out
        have hnc540 := NB302_260.out
        have hnb541 := NB260_346.out
        have hnc541 := NB346_260.out
        have hnb542 := NB260_351.out
        have hnc542 := NB351_260.out
        have hcz543_0 : wc.cell? ⟨gb260, 0, none⟩ = some (.int .i64 a7_0) := (blk_cell BK260.out 0).trans rfl
        have hcz543_1 : wc.cell? ⟨gb260, 1, none⟩ = some (.int .i64 a7_1) := (blk_cell BK260.out 1).trans rfl
        have hcz543_2 : wc.cell? ⟨gb260, 2, none⟩ = some (.int .i64 a7_2) := (blk_cell BK260.out 2).trans rfl
        have hfz543_0 := blk_frozen BK260.out 0
        have hfz543_1 := blk_frozen BK260.out 1
        have hfz543_2 := blk_frozen BK260.out 2
        go_wp2_with (first | ((with_reducible refine gate_callee (f := 12) rfl ?_); refine goesL_ (some 660) rfl rfl Tryd.func12 (by kernel_rfl) rfl #[.agg #[.int .i64 a7_0, .int .i64 a7_1, .int .i64 a7_2]] rfl (by (try simp only [List.map_toArray, List.map_cons, List.map_nil]); first | done | rfl | (simp only [List.length_drop, List.length_take]; rfl)) ?_; (with_reducible refine (impl_CrossHeight.calls k a7_0 a7_1 a7_2 t356 t357 true _ A501.out).mono ?_); rintro e w544 ⟨rfl, hb⟩; refine ⟨_, rfl, ?_⟩; have n0_ := Aside0.mk (blk_below (g := gb258) (o := .cells #[.int .i64 a0_0, .int .i64 a0_1, .int .i64 a0_2] 23 (0, 0)) (by (with_reducible repeat (first | refine blk_drewN ?_ _ | refine blk_drew ?_ | refine blk_alloc ?_ _)); exact BK258.out) hb); have n1_ := Aside0.mk (blk_below (g := gb259) (o := .cells #[.int .i64 a1_0, .int .i64 a1_1, .int .i64 a1_2] 23 (0, 0)) (by (with_reducible repeat (first | refine blk_drewN ?_ _ | refine blk_drew ?_ | refine blk_alloc ?_ _)); exact BK259.out) hb); have n2_ := Aside0.mk (blk_below (g := gb260) (o := .cells #[.int .i64 a7_0, .int .i64 a7_1, .int .i64 a7_2] 23 (0, 0)) (by (with_reducible repeat (first | refine blk_drewN ?_ _ | refine blk_drew ?_ | refine blk_alloc ?_ _)); exact BK260.out) hb); have n3_ := Aside0.mk (blk_below (g := gb297) (o := .cells #[.int .i64 t293, .int .i64 t294, .int .i64 t295] 23 (0, 0)) (by (with_reducible repeat (first | refine blk_drewN ?_ _ | refine blk_drew ?_ | refine blk_alloc ?_ _)); exact BK297.out) hb); have n4_ := Aside0.mk (blk_below (g := gb302) (o := .cells #[.int .i64 t293, .int .i64 t294, .int .i64 t295] 23 (0, 0)) (by (with_reducible repeat (first | refine blk_drewN ?_ _ | refine blk_drew ?_ | refine blk_alloc ?_ _)); exact BK302.out) hb); have n5_ := Aside0.mk (blk_below (g := gb346) (o := .cells #[.int .i64 t342, .int .i64 t343, .int .i64 t344] 23 (0, 0)) (by (with_reducible repeat (first | refine blk_drewN ?_ _ | refine blk_drew ?_ | refine blk_alloc ?_ _)); exact BK346.out) hb); have n6_ := Aside0.mk (blk_below (g := gb351) (o := .cells #[.int .i64 t342, .int .i64 t343, .int .i64 t344] 23 (0, 0)) (by (with_reducible repeat (first | refine blk_drewN ?_ _ | refine blk_drew ?_ | refine blk_alloc ?_ _)); exact BK351.out) hb); have n7_ := Aside0.mk (below_step (by repeat (first | (with_reducible first | exact HB.out | apply below_alloc | apply pw_below_drewN | apply below_drew1 | refine below_set ?_ GE258.out | refine below_set ?_ GE259.out | refine below_set ?_ GE260.out | refine below_set ?_ GE297.out | refine below_set ?_ GE302.out | refine below_set ?_ GE346.out | refine below_set ?_ GE351.out) | exact HB.out)) hb); clear BK258; clear BK259; clear BK260; clear BK297; clear BK302; clear BK346; clear BK351; clear HB; have BK258 := n0_; have BK259 := n1_; have BK260 := n2_; have BK297 := n3_; have BK302 := n4_; have BK346 := n5_; have BK351 := n6_; have HB := n7_; clear n0_ n1_ n2_ n3_ n4_ n5_ n6_ n7_; (try clear hb); (try clear hb2); (try clear hk); (try clear hi); have hnb545 := NB346_258.out; have hnc545 := NB258_346.out; have hnb546 := NB346_259.out; have hnc546 := NB259_346.out; have hnb547 := NB346_297.out; have hnc547 := NB297_346.out; have hnb548 := NB346_302.out; have hnc548 := NB302_346.out; have hnb549 := NB346_351.out; have hnc549 := NB351_346.out; have hcz550_0 : w544.cell? ⟨gb346, 0, none⟩ = some (.int .i64 t342) := (blk_cell BK346.out 0).trans rfl; have hcz550_1 : w544.cell? ⟨gb346, 1, none⟩ = some (.int .i64 t343) := (blk_cell BK346.out 1).trans rfl; have hcz550_2 : w544.cell? ⟨gb346, 2, none⟩ = some (.int .i64 t344) := (blk_cell BK346.out 2).trans rfl; have hfz550_0 := blk_frozen BK346.out 0; have hfz550_1 := blk_frozen BK346.out 1; have hfz550_2 := blk_frozen BK346.out 2) | ((with_reducible refine gate_callee (f := 12) rfl ?_); refine goesL_ (some 666) rfl rfl Tryd.func12 (by kernel_rfl) rfl #[.agg #[.int .i64 t342, .int .i64 t343, .int .i64 t344]] rfl (by (try simp only [List.map_toArray, List.map_cons, List.map_nil]); first | done | rfl | (simp only [List.length_drop, List.length_take]; rfl)) ?_; (with_reducible refine (impl_CrossHeight.calls k t342 t343 t344 t356 t357 true _ A502.out).mono ?_); rintro e w551 ⟨rfl, hb⟩; refine ⟨_, rfl, ?_⟩; have n0_ := Aside0.mk (blk_below (g := gb258) (o := .cells #[.int .i64 a0_0, .int .i64 a0_1, .int .i64 a0_2] 23 (0, 0)) (by (with_reducible repeat (first | refine blk_drewN ?_ _ | refine blk_drew ?_ | refine blk_alloc ?_ _)); exact BK258.out) hb); have n1_ := Aside0.mk (blk_below (g := gb259) (o := .cells #[.int .i64 a1_0, .int .i64 a1_1, .int .i64 a1_2] 23 (0, 0)) (by (with_reducible repeat (first | refine blk_drewN ?_ _ | refine blk_drew ?_ | refine blk_alloc ?_ _)); exact BK259.out) hb); have n2_ := Aside0.mk (blk_below (g := gb260) (o := .cells #[.int .i64 a7_0, .int .i64 a7_1, .int .i64 a7_2] 23 (0, 0)) (by (with_reducible repeat (first | refine blk_drewN ?_ _ | refine blk_drew ?_ | refine blk_alloc ?_ _)); exact BK260.out) hb); have n3_ := Aside0.mk (blk_below (g := gb297) (o := .cells #[.int .i64 t293, .int .i64 t294, .int .i64 t295] 23 (0, 0)) (by (with_reducible repeat (first | refine blk_drewN ?_ _ | refine blk_drew ?_ | refine blk_alloc ?_ _)); exact BK297.out) hb); have n4_ := Aside0.mk (blk_below (g := gb302) (o := .cells #[.int .i64 t293, .int .i64 t294, .int .i64 t295] 23 (0, 0)) (by (with_reducible repeat (first | refine blk_drewN ?_ _ | refine blk_drew ?_ | refine blk_alloc ?_ _)); exact BK302.out) hb); have n5_ := Aside0.mk (blk_below (g := gb346) (o := .cells #[.int .i64 t342, .int .i64 t343, .int .i64 t344] 23 (0, 0)) (by (with_reducible repeat (first | refine blk_drewN ?_ _ | refine blk_drew ?_ | refine blk_alloc ?_ _)); exact BK346.out) hb); have n6_ := Aside0.mk (blk_below (g := gb351) (o := .cells #[.int .i64 t342, .int .i64 t343, .int .i64 t344] 23 (0, 0)) (by (with_reducible repeat (first | refine blk_drewN ?_ _ | refine blk_drew ?_ | refine blk_alloc ?_ _)); exact BK351.out) hb); have n7_ := Aside0.mk (below_step (by repeat (first | (with_reducible first | exact HB.out | apply below_alloc | apply pw_below_drewN | apply below_drew1 | refine below_set ?_ GE258.out | refine below_set ?_ GE259.out | refine below_set ?_ GE260.out | refine below_set ?_ GE297.out | refine below_set ?_ GE302.out | refine below_set ?_ GE346.out | refine below_set ?_ GE351.out) | exact HB.out)) hb); clear BK258; clear BK259; clear BK260; clear BK297; clear BK302; clear BK346; clear BK351; clear HB; have BK258 := n0_; have BK259 := n1_; have BK260 := n2_; have BK297 := n3_; have BK302 := n4_; have BK346 := n5_; have BK351 := n6_; have HB := n7_; clear n0_ n1_ n2_ n3_ n4_ n5_ n6_ n7_; (try clear hb); (try clear hb2); (try clear hk); (try clear hi); have hcz552_0 : w551.cell? ⟨gb346, 0, none⟩ = some (.int .i64 t342) := (blk_cell BK346.out 0).trans rfl; have hcz552_1 : w551.cell? ⟨gb346, 1, none⟩ = some (.int .i64 t343) := (blk_cell BK346.out 1).trans rfl; have hcz552_2 : w551.cell? ⟨gb346, 2, none⟩ = some (.int .i64 t344) := (blk_cell BK346.out 2).trans rfl; have hfz552_0 := blk_frozen BK346.out 0; have hfz552_1 := blk_frozen BK346.out 1; have hfz552_2 := blk_frozen BK346.out 2) | ((with_reducible refine gate_callee (f := 49) rfl ?_); refine goesL_ (some 674) rfl rfl Tryd.func49 (by kernel_rfl) rfl #[.agg #[.int .i64 t342, .int .i64 t343, .int .i64 t344], .int .i64 (wrap64 (-a8))] rfl (by (try simp only [List.map_toArray, List.map_cons, List.map_nil]); first | done | rfl | (simp only [List.length_drop, List.length_take]; rfl)) ?_; (with_reducible refine (impl_MoveWall.calls t342 t343 t344 (wrap64 (-a8)) a7_0 a7_1 a7_2 true _ A503.out).mono ?_); rintro e w553 ⟨rfl, hb⟩; refine ⟨_, rfl, ?_⟩; have n0_ := Aside0.mk (blk_below (g := gb258) (o := .cells #[.int .i64 a0_0, .int .i64 a0_1, .int .i64 a0_2] 23 (0, 0)) (by (with_reducible repeat (first | refine blk_drewN ?_ _ | refine blk_drew ?_ | refine blk_alloc ?_ _)); exact BK258.out) hb); have n1_ := Aside0.mk (blk_below (g := gb259) (o := .cells #[.int .i64 a1_0, .int .i64 a1_1, .int .i64 a1_2] 23 (0, 0)) (by (with_reducible repeat (first | refine blk_drewN ?_ _ | refine blk_drew ?_ | refine blk_alloc ?_ _)); exact BK259.out) hb); have n2_ := Aside0.mk (blk_below (g := gb260) (o := .cells #[.int .i64 a7_0, .int .i64 a7_1, .int .i64 a7_2] 23 (0, 0)) (by (with_reducible repeat (first | refine blk_drewN ?_ _ | refine blk_drew ?_ | refine blk_alloc ?_ _)); exact BK260.out) hb); have n3_ := Aside0.mk (blk_below (g := gb297) (o := .cells #[.int .i64 t293, .int .i64 t294, .int .i64 t295] 23 (0, 0)) (by (with_reducible repeat (first | refine blk_drewN ?_ _ | refine blk_drew ?_ | refine blk_alloc ?_ _)); exact BK297.out) hb); have n4_ := Aside0.mk (blk_below (g := gb302) (o := .cells #[.int .i64 t293, .int .i64 t294, .int .i64 t295] 23 (0, 0)) (by (with_reducible repeat (first | refine blk_drewN ?_ _ | refine blk_drew ?_ | refine blk_alloc ?_ _)); exact BK302.out) hb); have n5_ := Aside0.mk (blk_below (g := gb346) (o := .cells #[.int .i64 t342, .int .i64 t343, .int .i64 t344] 23 (0, 0)) (by (with_reducible repeat (first | refine blk_drewN ?_ _ | refine blk_drew ?_ | refine blk_alloc ?_ _)); exact BK346.out) hb); have n6_ := Aside0.mk (blk_below (g := gb351) (o := .cells #[.int .i64 t342, .int .i64 t343, .int .i64 t344] 23 (0, 0)) (by (with_reducible repeat (first | refine blk_drewN ?_ _ | refine blk_drew ?_ | refine blk_alloc ?_ _)); exact BK351.out) hb); have n7_ := Aside0.mk (below_step (by repeat (first | (with_reducible first | exact HB.out | apply below_alloc | apply pw_below_drewN | apply below_drew1 | refine below_set ?_ GE258.out | refine below_set ?_ GE259.out | refine below_set ?_ GE260.out | refine below_set ?_ GE297.out | refine below_set ?_ GE302.out | refine below_set ?_ GE346.out | refine below_set ?_ GE351.out) | exact HB.out)) hb); clear BK258; clear BK259; clear BK260; clear BK297; clear BK302; clear BK346; clear BK351; clear HB; have BK258 := n0_; have BK259 := n1_; have BK260 := n2_; have BK297 := n3_; have BK302 := n4_; have BK346 := n5_; have BK351 := n6_; have HB := n7_; clear n0_ n1_ n2_ n3_ n4_ n5_ n6_ n7_; (try clear hb); (try clear hb2); (try clear hk); (try clear hi)) | ((with_reducible refine gate_dst (N := 98) rfl ?_); refine box_event ?hg (N := 98) ?hd (cs := #[.int .i64 0, .int .i64 0, .int .i64 0]) (t := 23) ?hr ?_; (case hd => rfl); (case hg => rfl); (case hr => first | (go_simp; done) | (go_simp; rfl)); intro gb366 hg w554 hbox hb; have n0_ := Aside0.mk (blk_below (g := gb258) (o := .cells #[.int .i64 a0_0, .int .i64 a0_1, .int .i64 a0_2] 23 (0, 0)) (by (with_reducible repeat (first | refine blk_drewN ?_ _ | refine blk_drew ?_ | refine blk_alloc ?_ _)); exact BK258.out) hb); have n1_ := Aside0.mk (blk_below (g := gb259) (o := .cells #[.int .i64 a1_0, .int .i64 a1_1, .int .i64 a1_2] 23 (0, 0)) (by (with_reducible repeat (first | refine blk_drewN ?_ _ | refine blk_drew ?_ | refine blk_alloc ?_ _)); exact BK259.out) hb); have n2_ := Aside0.mk (blk_below (g := gb260) (o := .cells #[.int .i64 a7_0, .int .i64 a7_1, .int .i64 a7_2] 23 (0, 0)) (by (with_reducible repeat (first | refine blk_drewN ?_ _ | refine blk_drew ?_ | refine blk_alloc ?_ _)); exact BK260.out) hb); have n3_ := Aside0.mk (blk_below (g := gb297) (o := .cells #[.int .i64 t293, .int .i64 t294, .int .i64 t295] 23 (0, 0)) (by (with_reducible repeat (first | refine blk_drewN ?_ _ | refine blk_drew ?_ | refine blk_alloc ?_ _)); exact BK297.out) hb); have n4_ := Aside0.mk (blk_below (g := gb302) (o := .cells #[.int .i64 t293, .int .i64 t294, .int .i64 t295] 23 (0, 0)) (by (with_reducible repeat (first | refine blk_drewN ?_ _ | refine blk_drew ?_ | refine blk_alloc ?_ _)); exact BK302.out) hb); have n5_ := Aside0.mk (blk_below (g := gb346) (o := .cells #[.int .i64 t342, .int .i64 t343, .int .i64 t344] 23 (0, 0)) (by (with_reducible repeat (first | refine blk_drewN ?_ _ | refine blk_drew ?_ | refine blk_alloc ?_ _)); exact BK346.out) hb); have n6_ := Aside0.mk (blk_below (g := gb351) (o := .cells #[.int .i64 t342, .int .i64 t343, .int .i64 t344] 23 (0, 0)) (by (with_reducible repeat (first | refine blk_drewN ?_ _ | refine blk_drew ?_ | refine blk_alloc ?_ _)); exact BK351.out) hb); have n7_ := Aside0.mk (below_step (by repeat (first | (with_reducible first | exact HB.out | apply below_alloc | apply pw_below_drewN | apply below_drew1 | refine below_set ?_ GE258.out | refine below_set ?_ GE259.out | refine below_set ?_ GE260.out | refine below_set ?_ GE297.out | refine below_set ?_ GE302.out | refine below_set ?_ GE346.out | refine below_set ?_ GE351.out) | exact HB.out)) hb); have n8_ := Aside0.mk (hbox); have n9_ := Aside0.mk ((by rw [hg]; exact (below_size (by repeat (first | (with_reducible first | exact HB.out | apply below_alloc | apply pw_below_drewN | apply below_drew1 | refine below_set ?_ GE258.out | refine below_set ?_ GE259.out | refine below_set ?_ GE260.out | refine below_set ?_ GE297.out | refine below_set ?_ GE302.out | refine below_set ?_ GE346.out | refine below_set ?_ GE351.out) | exact HB.out))) : w.heap.size ≤ gb366)); have n10_ := Aside0.mk ((by rw [hg]; exact (below_size (by repeat (first | (with_reducible first | exact HB.out | apply below_alloc | apply pw_below_drewN | apply below_drew1 | refine below_set ?_ GE258.out | refine below_set ?_ GE259.out | refine below_set ?_ GE260.out | refine below_set ?_ GE297.out | refine below_set ?_ GE302.out | refine below_set ?_ GE346.out | refine below_set ?_ GE351.out) | exact HB.out))) : w.heap.size ≤ gb366)); have n11_ := Aside0.mk ((by rw [hg]; exact Nat.ne_of_lt (blk_lt (g := gb258) (o := .cells #[.int .i64 a0_0, .int .i64 a0_1, .int .i64 a0_2] 23 (0, 0)) (by (with_reducible repeat (first | refine blk_drewN ?_ _ | refine blk_drew ?_ | refine blk_alloc ?_ _)); exact BK258.out)) : gb258 ≠ gb366)); have n12_ := Aside0.mk ((by rw [hg]; exact Nat.ne_of_gt (blk_lt (g := gb258) (o := .cells #[.int .i64 a0_0, .int .i64 a0_1, .int .i64 a0_2] 23 (0, 0)) (by (with_reducible repeat (first | refine blk_drewN ?_ _ | refine blk_drew ?_ | refine blk_alloc ?_ _)); exact BK258.out)) : gb366 ≠ gb258)); have n13_ := Aside0.mk ((by rw [hg]; exact Nat.ne_of_lt (blk_lt (g := gb259) (o := .cells #[.int .i64 a1_0, .int .i64 a1_1, .int .i64 a1_2] 23 (0, 0)) (by (with_reducible repeat (first | refine blk_drewN ?_ _ | refine blk_drew ?_ | refine blk_alloc ?_ _)); exact BK259.out)) : gb259 ≠ gb366)); have n14_ := Aside0.mk ((by rw [hg]; exact Nat.ne_of_gt (blk_lt (g := gb259) (o := .cells #[.int .i64 a1_0, .int .i64 a1_1, .int .i64 a1_2] 23 (0, 0)) (by (with_reducible repeat (first | refine blk_drewN ?_ _ | refine blk_drew ?_ | refine blk_alloc ?_ _)); exact BK259.out)) : gb366 ≠ gb259)); have n15_ := Aside0.mk ((by rw [hg]; exact Nat.ne_of_lt (blk_lt (g := gb260) (o := .cells #[.int .i64 a7_0, .int .i64 a7_1, .int .i64 a7_2] 23 (0, 0)) (by (with_reducible repeat (first | refine blk_drewN ?_ _ | refine blk_drew ?_ | refine blk_alloc ?_ _)); exact BK260.out)) : gb260 ≠ gb366)); have n16_ := Aside0.mk ((by rw [hg]; exact Nat.ne_of_gt (blk_lt (g := gb260) (o := .cells #[.int .i64 a7_0, .int .i64 a7_1, .int .i64 a7_2] 23 (0, 0)) (by (with_reducible repeat (first | refine blk_drewN ?_ _ | refine blk_drew ?_ | refine blk_alloc ?_ _)); exact BK260.out)) : gb366 ≠ gb260)); have n17_ := Aside0.mk ((by rw [hg]; exact Nat.ne_of_lt (blk_lt (g := gb297) (o := .cells #[.int .i64 t293, .int .i64 t294, .int .i64 t295] 23 (0, 0)) (by (with_reducible repeat (first | refine blk_drewN ?_ _ | refine blk_drew ?_ | refine blk_alloc ?_ _)); exact BK297.out)) : gb297 ≠ gb366)); have n18_ := Aside0.mk ((by rw [hg]; exact Nat.ne_of_gt (blk_lt (g := gb297) (o := .cells #[.int .i64 t293, .int .i64 t294, .int .i64 t295] 23 (0, 0)) (by (with_reducible repeat (first | refine blk_drewN ?_ _ | refine blk_drew ?_ | refine blk_alloc ?_ _)); exact BK297.out)) : gb366 ≠ gb297)); have n19_ := Aside0.mk ((by rw [hg]; exact Nat.ne_of_lt (blk_lt (g := gb302) (o := .cells #[.int .i64 t293, .int .i64 t294, .int .i64 t295] 23 (0, 0)) (by (with_reducible repeat (first | refine blk_drewN ?_ _ | refine blk_drew ?_ | refine blk_alloc ?_ _)); exact BK302.out)) : gb302 ≠ gb366)); have n20_ := Aside0.mk ((by rw [hg]; exact Nat.ne_of_gt (blk_lt (g := gb302) (o := .cells #[.int .i64 t293, .int .i64 t294, .int .i64 t295] 23 (0, 0)) (by (with_reducible repeat (first | refine blk_drewN ?_ _ | refine blk_drew ?_ | refine blk_alloc ?_ _)); exact BK302.out)) : gb366 ≠ gb302)); have n21_ := Aside0.mk ((by rw [hg]; exact Nat.ne_of_lt (blk_lt (g := gb346) (o := .cells #[.int .i64 t342, .int .i64 t343, .int .i64 t344] 23 (0, 0)) (by (with_reducible repeat (first | refine blk_drewN ?_ _ | refine blk_drew ?_ | refine blk_alloc ?_ _)); exact BK346.out)) : gb346 ≠ gb366)); have n22_ := Aside0.mk ((by rw [hg]; exact Nat.ne_of_gt (blk_lt (g := gb346) (o := .cells #[.int .i64 t342, .int .i64 t343, .int .i64 t344] 23 (0, 0)) (by (with_reducible repeat (first | refine blk_drewN ?_ _ | refine blk_drew ?_ | refine blk_alloc ?_ _)); exact BK346.out)) : gb366 ≠ gb346)); have n23_ := Aside0.mk ((by rw [hg]; exact Nat.ne_of_lt (blk_lt (g := gb351) (o := .cells #[.int .i64 t342, .int .i64 t343, .int .i64 t344] 23 (0, 0)) (by (with_reducible repeat (first | refine blk_drewN ?_ _ | refine blk_drew ?_ | refine blk_alloc ?_ _)); exact BK351.out)) : gb351 ≠ gb366)); have n24_ := Aside0.mk ((by rw [hg]; exact Nat.ne_of_gt (blk_lt (g := gb351) (o := .cells #[.int .i64 t342, .int .i64 t343, .int .i64 t344] 23 (0, 0)) (by (with_reducible repeat (first | refine blk_drewN ?_ _ | refine blk_drew ?_ | refine blk_alloc ?_ _)); exact BK351.out)) : gb366 ≠ gb351)); clear BK258; clear BK259; clear BK260; clear BK297; clear BK302; clear BK346; clear BK351; clear HB; have BK258 := n0_; have BK259 := n1_; have BK260 := n2_; have BK297 := n3_; have BK302 := n4_; have BK346 := n5_; have BK351 := n6_; have HB := n7_; have BK366 := n8_; have GW366 := n9_; have GE366 := n10_; have NB258_366 := n11_; have NB366_258 := n12_; have NB259_366 := n13_; have NB366_259 := n14_; have NB260_366 := n15_; have NB366_260 := n16_; have NB297_366 := n17_; have NB366_297 := n18_; have NB302_366 := n19_; have NB366_302 := n20_; have NB346_366 := n21_; have NB366_346 := n22_; have NB351_366 := n23_; have NB366_351 := n24_; clear n0_ n1_ n2_ n3_ n4_ n5_ n6_ n7_ n8_ n9_ n10_ n11_ n12_ n13_ n14_ n15_ n16_ n17_ n18_ n19_ n20_ n21_ n22_ n23_ n24_; clear hb hbox hg; have hnb555 := NB366_258.out; have hnc555 := NB258_366.out; have hnb556 := NB366_259.out; have hnc556 := NB259_366.out; have hnb557 := NB366_260.out; have hnc557 := NB260_366.out; have hnb558 := NB366_297.out; have hnc558 := NB297_366.out; have hnb559 := NB366_302.out; have hnc559 := NB302_366.out; have hnb560 := NB366_346.out; have hnc560 := NB346_366.out; have hnb561 := NB366_351.out; have hnc561 := NB351_366.out; have hcz562_0 : w554.cell? ⟨gb366, 0, none⟩ = some (.int .i64 0) := (blk_cell BK366.out 0).trans rfl; have hcz562_1 : w554.cell? ⟨gb366, 1, none⟩ = some (.int .i64 0) := (blk_cell BK366.out 1).trans rfl; have hcz562_2 : w554.cell? ⟨gb366, 2, none⟩ = some (.int .i64 0) := (blk_cell BK366.out 2).trans rfl; have hfz562_0 := blk_frozen BK366.out 0; have hfz562_1 := blk_frozen BK366.out 1; have hfz562_2 := blk_frozen BK366.out 2; have hcz563_0 : w554.cell? ⟨gb260, 0, none⟩ = some (.int .i64 a7_0) := (blk_cell BK260.out 0).trans rfl; have hcz563_1 : w554.cell? ⟨gb260, 1, none⟩ = some (.int .i64 a7_1) := (blk_cell BK260.out 1).trans rfl; have hcz563_2 : w554.cell? ⟨gb260, 2, none⟩ = some (.int .i64 a7_2) := (blk_cell BK260.out 2).trans rfl; have hfz563_0 := blk_frozen BK260.out 0; have hfz563_1 := blk_frozen BK260.out 1; have hfz563_2 := blk_frozen BK260.out 2))
        go_ret
        exact ⟨by first | rfl | (simp [errW_none, errW_some] <;> rfl) | (simp [*, errW_none, errW_some] <;> rfl), by repeat (first | (with_reducible first | exact HB.out | apply below_alloc | apply pw_below_drewN | apply below_drew1 | refine below_set ?_ GE258.out | refine below_set ?_ GE259.out | refine below_set ?_ GE260.out | refine below_set ?_ GE297.out | refine below_set ?_ GE302.out | refine below_set ?_ GE346.out | refine below_set ?_ GE351.out | refine below_set ?_ GE366.out) | exact HB.out)⟩
      · replace c500 := Bool.eq_false_iff.mpr c500
        subst c500
        go_wp2
        go_ret
        exact ⟨by first | rfl | (simp [errW_none, errW_some] <;> rfl) | (simp [*, errW_none, errW_some] <;> rfl), by repeat (first | (with_reducible first | exact HB.out | apply below_alloc | apply pw_below_drewN | apply below_drew1 | refine below_set ?_ GE258.out | refine below_set ?_ GE259.out | refine below_set ?_ GE260.out | refine below_set ?_ GE297.out | refine below_set ?_ GE302.out | refine below_set ?_ GE346.out | refine below_set ?_ GE351.out) | exact HB.out)⟩
end Go.Proofs.YtkhhlnpiogfofaaDoor.LCLaw
