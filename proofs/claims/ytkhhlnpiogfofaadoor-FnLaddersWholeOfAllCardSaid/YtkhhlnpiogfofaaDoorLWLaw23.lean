/- The third part of the walk of the law FnLaddersWholeOfAll (the pairs of heights). Conditions: the library's variables (Ready); the law as a plain function answers true (h, hr). Turned from the print program's text. -/
import Derived.Test.YtkhhlnpiogfofaaDoorLWLaw24
import Derived.Test.YtkhhlnpiogfofaaDoorLWF
import Derived.Test.YtkhhlnpiogfofaaDoorGiven
import Derived.Test.YtkhhlnpiogfofaaDoorLW0
import Derived.Test.YtkhhlnpiogfofaaDoorLW1
import Derived.Test.YtkhhlnpiogfofaaDoorLW2
import Derived.Test.YtkhhlnpiogfofaaDoorLW3
import Derived.Test.YtkhhlnpiogfofaaDoorLW4
import Derived.Test.YtkhhlnpiogfofaaDoorLW5
import Derived.Test.YtkhhlnpiogfofaaDoorLW6
import Derived.Test.YtkhhlnpiogfofaaDoorLW9
namespace Go.Proofs.YtkhhlnpiogfofaaDoor.LWLaw
open Go.RowKit Go.Proofs.YtkhhlnpiogfofaaDoorW.PrintWords Go.Proofs.YtkhhlnpiogfofaaDoorW.PrintLast Go.Proofs.YtkhhlnpiogfofaaDoorW.PrintMore Go.Proofs.YtkhhlnpiogfofaaDoor.Given Go.Proofs.YtkhhlnpiogfofaaDoor.TextC Go.Proofs.YtkhhlnpiogfofaaDoor.PFnLaddersWholeOfAll
set_option linter.unusedVariables false
set_option linter.unusedSimpArgs false
set_option linter.unnecessarySimpa false
set_option maxHeartbeats 8000000 in
set_option maxRecDepth 100000 in
theorem rest23 (k : Nat) (a0_0 : Int) (a0_1 : Int) (a0_2 : Int) (a1 : Int) (a2 : Int) (a3_0 : Int) (a3_1 : Int) (a3_2 : Int) (a4 : Int) (a5 : ByteArray) (gb326 : Nat) (gb327 : Nat) (kj15 : Nat) (x7 : Value) (x8 : Value) (x10 : Value) (x11 : Value) (x12 : Value) (x13 : Value) (x14 : Value) (x15 : Value) (x16 : Value) (x17 : Value) (x18 : Value) (x19 : Value) (x20 : Value) (x21 : Value) (x22 : Value) (x23 : Value) (x24 : Value) (x25 : Value) (x26 : Value) (x27 : Value) (x28 : Value) (x29 : Value) (x30 : Value) (x31 : Value) (x34 : Value) (x35 : Value) (x37 : Value) (x38 : Value) (x39 : Value) (x42 : Value) (x43 : Value) (x48 : Value) (x49 : Value) (x53 : Value) (x57 : Value) (x58 : Value) (x59 : Value) (x60 : Value) (x61 : Value) (x62 : Value) (x63 : Value) (x64 : Value) (x65 : Value) (x66 : Value) (x67 : Value) (x68 : Value) (x69 : Value) (x70 : Value) (x71 : Value) (x72 : Value) (x73 : Value) (x74 : Value) (x75 : Value) (x76 : Value) (x77 : Value) (x78 : Value) (x79 : Value) (x80 : Value) (x81 : Value) (x82 : Value) (x83 : Value) (x84 : Value) (x85 : Value) (x86 : Value) (x87 : Value) (x88 : Value) (x89 : Value) (x90 : Value) (x91 : Value) (x92 : Value) (x93 : Value) (x94 : Value) (x95 : Value) (x96 : Value) (x97 : Value) (x98 : Value) (x99 : Value) (x100 : Value) (x101 : Value) (x102 : Value) (x103 : Value) (x104 : Value) (x105 : Value) (x106 : Value) (x107 : Value) (x108 : Value) (x109 : Value) (x110 : Value) (x111 : Value) (x112 : Value) (x113 : Value) (x114 : Value) (x115 : Value) (x116 : Value) (x117 : Value) (x118 : Value) (x119 : Value) (x120 : Value) (x121 : Value) (x122 : Value) (x123 : Value) (x124 : Value) (x125 : Value) (x126 : Value) (x127 : Value) (x128 : Value) (x129 : Value) (x130 : Value) (x131 : Value) (x132 : Value) (x133 : Value) (x134 : Value) (x135 : Value) (x136 : Value) (x137 : Value) (x138 : Value) (x139 : Value) (x140 : Value) (x141 : Value) (x142 : Value) (x143 : Value) (x144 : Value) (x145 : Value) (x146 : Value) (x147 : Value) (x148 : Value) (x149 : Value) (x150 : Value) (x151 : Value) (x152 : Value) (x153 : Value) (x154 : Value) (x155 : Value) (x156 : Value) (x157 : Value) (x158 : Value) (x159 : Value) (x160 : Value) (x161 : Value) (x162 : Value) (x163 : Value) (x164 : Value) (x165 : Value) (x166 : Value) (x167 : Value) (x168 : Value) (x169 : Value) (x170 : Value) (x171 : Value) (x172 : Value) (x173 : Value) (x174 : Value) (x175 : Value) (x176 : Value) (x177 : Value) (x178 : Value) (x179 : Value) (x180 : Value) (x181 : Value) (x182 : Value) (x183 : Value) (x184 : Value) (x185 : Value) (x186 : Value) (x187 : Value) (x188 : Value) (x189 : Value) (x190 : Value) (x191 : Value) (x192 : Value) (x193 : Value) (x194 : Value) (x195 : Value) (x196 : Value) (x197 : Value) (x198 : Value) (x199 : Value) (x200 : Value) (x201 : Value) (x202 : Value) (x203 : Value) (x204 : Value) (x205 : Value) (x206 : Value) (x207 : Value) (x208 : Value) (x209 : Value) (x210 : Value) (x211 : Value) (x212 : Value) (x213 : Value) (x214 : Value) (x215 : Value) (x216 : Value) (x217 : Value) (x218 : Value) (x219 : Value) (x220 : Value) (x221 : Value) (x222 : Value) (x223 : Value) (x224 : Value) (x225 : Value) (x226 : Value) (x227 : Value) (x228 : Value) (x229 : Value) (x230 : Value) (x231 : Value) (x232 : Value) (x233 : Value) (x234 : Value) (x235 : Value) (x236 : Value) (x237 : Value) (x238 : Value) (x239 : Value) (x240 : Value) (x241 : Value) (x242 : Value) (x243 : Value) (x244 : Value) (x245 : Value) (x246 : Value) (x247 : Value) (x248 : Value) (x249 : Value) (x250 : Value) (x251 : Value) (x252 : Value) (x253 : Value) (x254 : Value) (x255 : Value) (x256 : Value) (x257 : Value) (x258 : Value) (x259 : Value) (x260 : Value) (x261 : Value) (x262 : Value) (x263 : Value) (x264 : Value) (x265 : Value) (x266 : Value) (x267 : Value) (x268 : Value) (x269 : Value) (x270 : Value) (x271 : Value) (x272 : Value) (x273 : Value) (x274 : Value) (x275 : Value) (x276 : Value) (x277 : Value) (x278 : Value) (x279 : Value) (x280 : Value) (x281 : Value) (x282 : Value) (x283 : Value) (x284 : Value) (x285 : Value) (x286 : Value) (x287 : Value) (x288 : Value) (x289 : Value) (x290 : Value) (x291 : Value) (x292 : Value) (x293 : Value) (x294 : Value) (x295 : Value) (x296 : Value) (x297 : Value) (x298 : Value) (x299 : Value) (x300 : Value) (x301 : Value) (x302 : Value) (x303 : Value) (x304 : Value) (x305 : Value) (x306 : Value) (x307 : Value) (x308 : Value) (x309 : Value) (x310 : Value) (x311 : Value) (x312 : Value) (x313 : Value) (x314 : Value) (x315 : Value) (x316 : Value) (x317 : Value) (x318 : Value) (x319 : Value) (x320 : Value) (x321 : Value) (x322 : Value) (x323 : Value) (x324 : Value) (x325 : Value) (x326 : Value) (x327 : Value) (x328 : Value) (x329 : Value) (x330 : Value) (x331 : Value) (x332 : Value) (x333 : Value) (x334 : Value) (x335 : Value) (x336 : Value) (x337 : Value) (x338 : Value) (x339 : Value) (x340 : Value) (x341 : Value) (x342 : Value) (x343 : Value) (x344 : Value) (x345 : Value) (x346 : Value) (x347 : Value) (x348 : Value) (x349 : Value) (x350 : Value) (x351 : Value) (x352 : Value) (x353 : Value) (x354 : Value) (x355 : Value) (x356 : Value) (x357 : Value) (x358 : Value) (x359 : Value) (x360 : Value) (x361 : Value) (x362 : Value) (x363 : Value) (x364 : Value) (x365 : Value) (x366 : Value) (x367 : Value) (x368 : Value) (x369 : Value) (x370 : Value) (x371 : Value) (x372 : Value) (x373 : Value) (x374 : Value) (x375 : Value) (x376 : Value) (x377 : Value) (x378 : Value) (x379 : Value) (x380 : Value) (x381 : Value) (x382 : Value) (x383 : Value) (x384 : Value) (x385 : Value) (x386 : Value) (x387 : Value) (x388 : Value) (x389 : Value) (x390 : Value) (x391 : Value) (x392 : Value) (x393 : Value) (x394 : Value) (x395 : Value) (x396 : Value) (x397 : Value) (x398 : Value) (x399 : Value) (x400 : Value) (x401 : Value) (x402 : Value) (x403 : Value) (x404 : Value) (x405 : Value) (x406 : Value) (x407 : Value) (x408 : Value) (x409 : Value) (x410 : Value) (x411 : Value) (x412 : Value) (x413 : Value) (x414 : Value) (x415 : Value) (x416 : Value) (x417 : Value) (x418 : Value) (x419 : Value) (x420 : Value) (x421 : Value) (x422 : Value) (x423 : Value) (x424 : Value) (x425 : Value) (x426 : Value) (x427 : Value) (x428 : Value) (x429 : Value) (x430 : Value) (x431 : Value) (x432 : Value) (x433 : Value) (x434 : Value) (x435 : Value) (x436 : Value) (x437 : Value) (x438 : Value) (x439 : Value) (x440 : Value) (x441 : Value) (x442 : Value) (x443 : Value) (x444 : Value) (x445 : Value) (x446 : Value) (x447 : Value) (x448 : Value) (x449 : Value) (x450 : Value) (x451 : Value) (x452 : Value) (x453 : Value) (x454 : Value) (x455 : Value) (x456 : Value) (x457 : Value) (x458 : Value) (x459 : Value) (x460 : Value) (x461 : Value) (x462 : Value) (x463 : Value) (x464 : Value) (x465 : Value) (x466 : Value) (x467 : Value) (x468 : Value) (x469 : Value) (x470 : Value) (x471 : Value) (x472 : Value) (x473 : Value) (x474 : Value) (x475 : Value) (x476 : Value) (x477 : Value) (x478 : Value) (x479 : Value) (x480 : Value) (x481 : Value) (x482 : Value) (x483 : Value) (x484 : Value) (x485 : Value) (x486 : Value) (x487 : Value) (x488 : Value) (x489 : Value) (x490 : Value) (x491 : Value) (x492 : Value) (x493 : Value) (x494 : Value) (x495 : Value) (x496 : Value) (x497 : Value) (x498 : Value) (x499 : Value) (x500 : Value) (x501 : Value) (x502 : Value) (x503 : Value) (x504 : Value) (x505 : Value) (x506 : Value) (x507 : Value) (x508 : Value) (x509 : Value) (x510 : Value) (x511 : Value) (x512 : Value) (x513 : Value) (x514 : Value) (x515 : Value) (x516 : Value) (x517 : Value) (x518 : Value) (x519 : Value) (x520 : Value) (x521 : Value) (x522 : Value) (x523 : Value) (x524 : Value) (x525 : Value) (x526 : Value) (x527 : Value) (x528 : Value) (x529 : Value) (x530 : Value) (x531 : Value) (x532 : Value) (x533 : Value) (x534 : Value) (x535 : Value) (x536 : Value) (x537 : Value) (x538 : Value) (x539 : Value) (x540 : Value) (x541 : Value) (x542 : Value) (x543 : Value) (x544 : Value) (x545 : Value) (x546 : Value) (x547 : Value) (x548 : Value) (x549 : Value) (x550 : Value) (x551 : Value) (x552 : Value) (x553 : Value) (x554 : Value) (x555 : Value) (x556 : Value) (x557 : Value) (x558 : Value) (x559 : Value) (x560 : Value) (x561 : Value) (x562 : Value) (x563 : Value) (x564 : Value) (x565 : Value) (x566 : Value) (x567 : Value) (x568 : Value) (x569 : Value) (x570 : Value) (x571 : Value) (x572 : Value) (x573 : Value) (x574 : Value) (x575 : Value) (x576 : Value) (x577 : Value) (x578 : Value) (x579 : Value) (x580 : Value) (x581 : Value) (x582 : Value) (x583 : Value) (x584 : Value) (x585 : Value) (x586 : Value) (x587 : Value) (x588 : Value) (x589 : Value) (x590 : Value) (x591 : Value) (x592 : Value) (x593 : Value) (x594 : Value) (x595 : Value) (x596 : Value) (x597 : Value) (x598 : Value) (x599 : Value) (x600 : Value) (x601 : Value) (x602 : Value) (x603 : Value) (x604 : Value) (x605 : Value) (x606 : Value) (x607 : Value) (x608 : Value) (x609 : Value) (x610 : Value) (x611 : Value) (x612 : Value) (x613 : Value) (x614 : Value) (x615 : Value) (x616 : Value) (x617 : Value) (x618 : Value) (x619 : Value) (x620 : Value) (x621 : Value) (x622 : Value) (x623 : Value) (x624 : Value) (x625 : Value) (x626 : Value) (x627 : Value) (x628 : Value) (x629 : Value) (x630 : Value) (x631 : Value) (x632 : Value) (x633 : Value) (x634 : Value) (x635 : Value) (kj56 : Nat) (t348 : List (List Int)) (t349 : Bool) (t356 : Int) (t360 : List S23) (t361 : Bool) (t368 : Int) (t369 : Int) (t370 : Int) (t371 : Int) (t372 : Bool) (t374 : Int) (t375 : Int) (t376 : Int) (t380 : Int) (t381 : Int) (t382 : Int) (t383 : Bool) (t385 : Int) (t386 : Int) (t387 : Int) (t390 : Int) (t391 : Int) (t392 : Int) (t393 : Bool) (t395 : Int) (t396 : Int) (t397 : Int) (v350 : Value) (v362 : Value) (gb373 : Nat) (gb379 : Nat) (gb384 : Nat) (gb389 : Nat) (gb394 : Nat) (gb399 : Nat) (kq : Nat) (x402_140 : Bool) (r : Bool) (w wc : World) {x7 x8 x10 x11 x12 x13 x14 x15 x16 x17 x18 x19 x20 x21 x22 x23 x24 x25 x26 x27 x28 x29 x30 x31 x34 x35 x37 x38 x39 x42 x43 x48 x49 x53 x57 x58 x59 x60 x61 x62 x63 x64 x65 x66 x67 x68 x69 x70 x71 x72 x73 x74 x75 x76 x77 x78 x79 x80 x81 x82 x83 x84 x85 x86 x87 x88 x89 x90 x91 x92 x93 x94 x95 x96 x97 x98 x99 x100 x101 x102 x103 x104 x105 x106 x107 x108 x109 x110 x111 x112 x113 x114 x115 x116 x117 x118 x119 x120 x121 x122 x123 x124 x125 x126 x127 x128 x129 x130 x131 x132 x133 x134 x135 x136 x137 x138 x139 x140 x141 x142 x143 x144 x145 x146 x147 x148 x149 x150 x151 x152 x153 x154 x155 x156 x157 x158 x159 x160 x161 x162 x163 x164 x165 x166 x167 x168 x169 x170 x171 x172 x173 x174 x175 x176 x177 x178 x179 x180 x181 x182 x183 x184 x185 x186 x187 x188 x189 x190 x191 x192 x193 x194 x195 x196 x197 x198 x199 x200 x201 x202 x203 x204 x205 x206 x207 x208 x209 x210 x211 x212 x213 x214 x215 x216 x217 x218 x219 x220 x221 x222 x223 x224 x225 x226 x227 x228 x229 x230 x231 x232 x233 x234 x235 x236 x237 x238 x239 x240 x241 x242 x243 x244 x245 x246 x247 x248 x249 x250 x251 x252 x253 x254 x255 x256 x257 x258 x259 x260 x261 x262 x263 x264 x265 x266 x267 x268 x269 x270 x271 x272 x273 x274 x275 x276 x277 x278 x279 x280 x281 x282 x283 x284 x285 x286 x287 x288 x289 x290 x291 x292 x293 x294 x295 x296 x297 x298 x299 x300 x301 x302 x303 x304 x305 x306 x307 x308 x309 x310 x311 x312 x313 x314 x315 x316 x317 x318 x319 x320 x321 x322 x323 x324 x325 x326 x327 x328 x329 x330 x331 x332 x333 x334 x335 x336 x337 x338 x339 x340 x341 x342 x343 x344 x345 x346 x347 x348 x349 x350 x351 x352 x353 x354 x355 x356 x357 x358 x359 x360 x361 x362 x363 x364 x365 x366 x367 x368 x369 x370 x371 x372 x373 x374 x375 x376 x377 x378 x379 x380 x381 x382 x383 x384 x385 x386 x387 x388 x389 x390 x391 x392 x393 x394 x395 x396 x397 x398 x399 x400 x401 x402 x403 x404 x405 x406 x407 x408 x409 x410 x411 x412 x413 x414 x415 x416 x417 x418 x419 x420 x421 x422 x423 x424 x425 x426 x427 x428 x429 x430 x431 x432 x433 x434 x435 x436 x437 x438 x439 x440 x441 x442 x443 x444 x445 x446 x447 x448 x449 x450 x451 x452 x453 x454 x455 x456 x457 x458 x459 x460 x461 x462 x463 x464 x465 x466 x467 x468 x469 x470 x471 x472 x473 x474 x475 x476 x477 x478 x479 x480 x481 x482 x483 x484 x485 x486 x487 x488 x489 x490 x491 x492 x493 x494 x495 x496 x497 x498 x499 x500 x501 x502 x503 x504 x505 x506 x507 x508 x509 x510 x511 x512 x513 x514 x515 x516 x517 x518 x519 x520 x521 x522 x523 x524 x525 x526 x527 x528 x529 x530 x531 x532 x533 x534 x535 x536 x537 x538 x539 x540 x541 x542 x543 x544 x545 x546 x547 x548 x549 x550 x551 x552 x553 x554 x555 x556 x557 x558 x559 x560 x561 x562 x563 x564 x565 x566 x567 x568 x569 x570 x571 x572 x573 x574 x575 x576 x577 x578 x579 x580 x581 x582 x583 x584 x585 x586 x587 x588 x589 x590 x591 x592 x593 x594 x595 x596 x597 x598 x599 x600 x601 x602 x603 x604 x605 x606 x607 x608 x609 x610 x611 x612 x613 x614 x615 x616 x617 x618 x619 x620 x621 x622 x623 x624 x625 x626 x627 x628 x629 x630 x631 x632 x633 x634 x635 : Value} (hr : r = true) (hR : Aside0 (Ready w))
    (HA : Aside0 (laws_FnLaddersWholeOfAll.j2 kq a1 a2 a4 a5 t348 t349 t356 t360 t361 t371 t372 t383 t393 x402_140 a3_0 a3_1 a3_2 t368 t369 t370 t380 t381 t382 t390 t391 t392 = some r))
    (HJ140 : Aside0 (kq ≤ kj56))
    (HO_32 : Aside0 (Kd.S (Kd.slice 3 (Kd.int .i64)) 44 wc w.heap.size (fun _ => True) v350 t348))
    (HO_40 : Aside0 (Kd.R k23 23 wc w.heap.size (fun k_ => k_ ≠ gb326 ∧ k_ ≠ gb327 ∧ k_ ≠ gb373 ∧ k_ ≠ gb379 ∧ k_ ≠ gb384 ∧ k_ ≠ gb389 ∧ k_ ≠ gb394 ∧ k_ ≠ gb399) v362 t360))
    (BK326 : Aside0 (wc.heap[gb326]? = some (.cells #[.int .i64 a0_0, .int .i64 a0_1, .int .i64 a0_2] 23 (0, 0))))
    (BK327 : Aside0 (wc.heap[gb327]? = some (.cells #[.int .i64 a3_0, .int .i64 a3_1, .int .i64 a3_2] 23 (0, 0))))
    (BK373 : Aside0 (wc.heap[gb373]? = some (.cells #[.int .i64 t368, .int .i64 t369, .int .i64 t370] 23 (0, 0))))
    (BK379 : Aside0 (wc.heap[gb379]? = some (.cells #[.int .i64 t374, .int .i64 t375, .int .i64 t376] 23 (0, 0))))
    (BK384 : Aside0 (wc.heap[gb384]? = some (.cells #[.int .i64 t380, .int .i64 t381, .int .i64 t382] 23 (0, 0))))
    (BK389 : Aside0 (wc.heap[gb389]? = some (.cells #[.int .i64 t385, .int .i64 t386, .int .i64 t387] 23 (0, 0))))
    (BK394 : Aside0 (wc.heap[gb394]? = some (.cells #[.int .i64 t390, .int .i64 t391, .int .i64 t392] 23 (0, 0))))
    (BK399 : Aside0 (wc.heap[gb399]? = some (.cells #[.int .i64 t395, .int .i64 t396, .int .i64 t397] 23 (0, 0))))
    (HB : Aside0 (Below w.heap.size w wc))
    (GW326 : Aside0 (w.heap.size ≤ gb326))
    (GE326 : Aside0 (w.heap.size ≤ gb326))
    (GW327 : Aside0 (w.heap.size ≤ gb327))
    (GE327 : Aside0 (w.heap.size ≤ gb327))
    (NB326_327 : Aside0 (gb326 ≠ gb327))
    (NB327_326 : Aside0 (gb327 ≠ gb326))
    (HJ15 : Aside0 (kj15 + 1 ≤ k))
    (HJ56 : Aside0 (kj56 + 1 ≤ kj15))
    (GW373 : Aside0 (w.heap.size ≤ gb373))
    (GE373 : Aside0 (w.heap.size ≤ gb373))
    (NB326_373 : Aside0 (gb326 ≠ gb373))
    (NB373_326 : Aside0 (gb373 ≠ gb326))
    (NB327_373 : Aside0 (gb327 ≠ gb373))
    (NB373_327 : Aside0 (gb373 ≠ gb327))
    (GW379 : Aside0 (w.heap.size ≤ gb379))
    (GE379 : Aside0 (w.heap.size ≤ gb379))
    (NB326_379 : Aside0 (gb326 ≠ gb379))
    (NB379_326 : Aside0 (gb379 ≠ gb326))
    (NB327_379 : Aside0 (gb327 ≠ gb379))
    (NB379_327 : Aside0 (gb379 ≠ gb327))
    (NB373_379 : Aside0 (gb373 ≠ gb379))
    (NB379_373 : Aside0 (gb379 ≠ gb373))
    (GW384 : Aside0 (w.heap.size ≤ gb384))
    (GE384 : Aside0 (w.heap.size ≤ gb384))
    (NB326_384 : Aside0 (gb326 ≠ gb384))
    (NB384_326 : Aside0 (gb384 ≠ gb326))
    (NB327_384 : Aside0 (gb327 ≠ gb384))
    (NB384_327 : Aside0 (gb384 ≠ gb327))
    (NB373_384 : Aside0 (gb373 ≠ gb384))
    (NB384_373 : Aside0 (gb384 ≠ gb373))
    (NB379_384 : Aside0 (gb379 ≠ gb384))
    (NB384_379 : Aside0 (gb384 ≠ gb379))
    (GW389 : Aside0 (w.heap.size ≤ gb389))
    (GE389 : Aside0 (w.heap.size ≤ gb389))
    (NB326_389 : Aside0 (gb326 ≠ gb389))
    (NB389_326 : Aside0 (gb389 ≠ gb326))
    (NB327_389 : Aside0 (gb327 ≠ gb389))
    (NB389_327 : Aside0 (gb389 ≠ gb327))
    (NB373_389 : Aside0 (gb373 ≠ gb389))
    (NB389_373 : Aside0 (gb389 ≠ gb373))
    (NB379_389 : Aside0 (gb379 ≠ gb389))
    (NB389_379 : Aside0 (gb389 ≠ gb379))
    (NB384_389 : Aside0 (gb384 ≠ gb389))
    (NB389_384 : Aside0 (gb389 ≠ gb384))
    (GW394 : Aside0 (w.heap.size ≤ gb394))
    (GE394 : Aside0 (w.heap.size ≤ gb394))
    (NB326_394 : Aside0 (gb326 ≠ gb394))
    (NB394_326 : Aside0 (gb394 ≠ gb326))
    (NB327_394 : Aside0 (gb327 ≠ gb394))
    (NB394_327 : Aside0 (gb394 ≠ gb327))
    (NB373_394 : Aside0 (gb373 ≠ gb394))
    (NB394_373 : Aside0 (gb394 ≠ gb373))
    (NB379_394 : Aside0 (gb379 ≠ gb394))
    (NB394_379 : Aside0 (gb394 ≠ gb379))
    (NB384_394 : Aside0 (gb384 ≠ gb394))
    (NB394_384 : Aside0 (gb394 ≠ gb384))
    (NB389_394 : Aside0 (gb389 ≠ gb394))
    (NB394_389 : Aside0 (gb394 ≠ gb389))
    (GW399 : Aside0 (w.heap.size ≤ gb399))
    (GE399 : Aside0 (w.heap.size ≤ gb399))
    (NB326_399 : Aside0 (gb326 ≠ gb399))
    (NB399_326 : Aside0 (gb399 ≠ gb326))
    (NB327_399 : Aside0 (gb327 ≠ gb399))
    (NB399_327 : Aside0 (gb399 ≠ gb327))
    (NB373_399 : Aside0 (gb373 ≠ gb399))
    (NB399_373 : Aside0 (gb399 ≠ gb373))
    (NB379_399 : Aside0 (gb379 ≠ gb399))
    (NB399_379 : Aside0 (gb399 ≠ gb379))
    (NB384_399 : Aside0 (gb384 ≠ gb399))
    (NB399_384 : Aside0 (gb399 ≠ gb384))
    (NB389_399 : Aside0 (gb389 ≠ gb399))
    (NB399_389 : Aside0 (gb399 ≠ gb389))
    (NB394_399 : Aside0 (gb394 ≠ gb399))
    (NB399_394 : Aside0 (gb399 ≠ gb394)) :
    (dropC 23 (Tryd.f3.body.getD Code.skip)).wp Tryd.prog (bodyPost Tryd.prog Tryd.f3 fun e w' => e = .returned (.bool r) ∧ Below w.heap.size w w') (Act.mk (List.toArray ((Value.agg #[Value.int IntKind.i64 a0_0, Value.int IntKind.i64 a0_1, Value.int IntKind.i64 a0_2]) :: (Value.int IntKind.i64 a1) :: (Value.int IntKind.i64 a2) :: (Value.agg #[Value.int IntKind.i64 a3_0, Value.int IntKind.i64 a3_1, Value.int IntKind.i64 a3_2]) :: (Value.int IntKind.i64 a4) :: (Value.string a5) :: (Value.pointer (some ⟨gb326, 0, none⟩)) :: x7 :: x8 :: (Value.pointer (some ⟨gb327, 0, none⟩)) :: x10 :: x11 :: x12 :: x13 :: x14 :: x15 :: x16 :: x17 :: x18 :: x19 :: x20 :: x21 :: x22 :: x23 :: x24 :: x25 :: x26 :: x27 :: x28 :: x29 :: x30 :: x31 :: v350 :: (Value.bool t349) :: x34 :: x35 :: (Value.int IntKind.i64 t356) :: x37 :: x38 :: x39 :: v362 :: (Value.bool t361) :: x42 :: x43 :: (Value.pointer (some ⟨gb373, 0, none⟩)) :: (Value.int IntKind.i64 t371) :: (Value.bool t372) :: (Value.pointer (some ⟨gb379, 0, none⟩)) :: x48 :: x49 :: (Value.pointer (some ⟨gb384, 0, none⟩)) :: (Value.bool t383) :: (Value.pointer (some ⟨gb389, 0, none⟩)) :: x53 :: (Value.pointer (some ⟨gb394, 0, none⟩)) :: (Value.bool t393) :: (Value.pointer (some ⟨gb399, 0, none⟩)) :: x57 :: x58 :: x59 :: x60 :: x61 :: x62 :: x63 :: x64 :: x65 :: x66 :: x67 :: x68 :: x69 :: x70 :: x71 :: x72 :: x73 :: x74 :: x75 :: x76 :: x77 :: x78 :: x79 :: x80 :: x81 :: x82 :: x83 :: x84 :: x85 :: x86 :: x87 :: x88 :: x89 :: x90 :: x91 :: x92 :: x93 :: x94 :: x95 :: x96 :: x97 :: x98 :: x99 :: x100 :: x101 :: x102 :: x103 :: x104 :: x105 :: x106 :: x107 :: x108 :: x109 :: x110 :: x111 :: x112 :: x113 :: x114 :: x115 :: x116 :: x117 :: x118 :: x119 :: x120 :: x121 :: x122 :: x123 :: x124 :: x125 :: x126 :: x127 :: x128 :: x129 :: x130 :: x131 :: x132 :: x133 :: x134 :: x135 :: x136 :: x137 :: x138 :: x139 :: x140 :: x141 :: x142 :: x143 :: x144 :: x145 :: x146 :: x147 :: x148 :: x149 :: x150 :: x151 :: x152 :: x153 :: x154 :: x155 :: x156 :: x157 :: x158 :: x159 :: x160 :: x161 :: x162 :: x163 :: x164 :: x165 :: x166 :: x167 :: x168 :: x169 :: x170 :: x171 :: x172 :: x173 :: x174 :: x175 :: x176 :: x177 :: x178 :: x179 :: x180 :: x181 :: x182 :: x183 :: x184 :: x185 :: x186 :: x187 :: x188 :: x189 :: x190 :: x191 :: x192 :: x193 :: x194 :: x195 :: x196 :: x197 :: x198 :: x199 :: x200 :: x201 :: x202 :: x203 :: x204 :: x205 :: x206 :: x207 :: x208 :: x209 :: x210 :: x211 :: x212 :: x213 :: x214 :: x215 :: x216 :: x217 :: x218 :: x219 :: x220 :: x221 :: x222 :: x223 :: x224 :: x225 :: x226 :: x227 :: x228 :: x229 :: x230 :: x231 :: x232 :: x233 :: x234 :: x235 :: x236 :: x237 :: x238 :: x239 :: x240 :: x241 :: x242 :: x243 :: x244 :: x245 :: x246 :: x247 :: x248 :: x249 :: x250 :: x251 :: x252 :: x253 :: x254 :: x255 :: x256 :: x257 :: x258 :: x259 :: x260 :: x261 :: x262 :: x263 :: x264 :: x265 :: x266 :: x267 :: x268 :: x269 :: x270 :: x271 :: x272 :: x273 :: x274 :: x275 :: x276 :: x277 :: x278 :: x279 :: x280 :: x281 :: x282 :: x283 :: x284 :: x285 :: x286 :: x287 :: x288 :: x289 :: x290 :: x291 :: x292 :: x293 :: x294 :: x295 :: x296 :: x297 :: x298 :: x299 :: x300 :: x301 :: x302 :: x303 :: x304 :: x305 :: x306 :: x307 :: x308 :: x309 :: x310 :: x311 :: x312 :: x313 :: x314 :: x315 :: x316 :: x317 :: x318 :: x319 :: x320 :: x321 :: x322 :: x323 :: x324 :: x325 :: x326 :: x327 :: x328 :: x329 :: x330 :: x331 :: x332 :: x333 :: x334 :: x335 :: x336 :: x337 :: x338 :: x339 :: x340 :: x341 :: x342 :: x343 :: x344 :: x345 :: x346 :: x347 :: x348 :: x349 :: x350 :: x351 :: x352 :: x353 :: x354 :: x355 :: x356 :: x357 :: x358 :: x359 :: x360 :: x361 :: x362 :: x363 :: x364 :: x365 :: x366 :: x367 :: x368 :: x369 :: x370 :: x371 :: x372 :: x373 :: x374 :: x375 :: x376 :: x377 :: x378 :: x379 :: x380 :: x381 :: x382 :: x383 :: x384 :: x385 :: x386 :: x387 :: x388 :: x389 :: x390 :: x391 :: x392 :: x393 :: x394 :: x395 :: x396 :: x397 :: x398 :: x399 :: x400 :: x401 :: x402 :: x403 :: x404 :: x405 :: x406 :: x407 :: x408 :: x409 :: x410 :: x411 :: x412 :: x413 :: x414 :: x415 :: x416 :: x417 :: x418 :: x419 :: x420 :: x421 :: x422 :: x423 :: x424 :: x425 :: x426 :: x427 :: x428 :: x429 :: x430 :: x431 :: x432 :: x433 :: x434 :: x435 :: x436 :: x437 :: x438 :: x439 :: x440 :: x441 :: x442 :: x443 :: x444 :: x445 :: x446 :: x447 :: x448 :: x449 :: x450 :: x451 :: x452 :: x453 :: x454 :: x455 :: x456 :: x457 :: x458 :: x459 :: x460 :: x461 :: x462 :: x463 :: x464 :: x465 :: x466 :: x467 :: x468 :: x469 :: x470 :: x471 :: x472 :: x473 :: x474 :: x475 :: x476 :: x477 :: x478 :: x479 :: x480 :: x481 :: x482 :: x483 :: x484 :: x485 :: x486 :: x487 :: x488 :: x489 :: x490 :: x491 :: x492 :: x493 :: x494 :: x495 :: x496 :: x497 :: x498 :: x499 :: x500 :: x501 :: x502 :: x503 :: x504 :: x505 :: x506 :: x507 :: x508 :: x509 :: x510 :: x511 :: x512 :: x513 :: x514 :: x515 :: x516 :: x517 :: x518 :: x519 :: x520 :: x521 :: x522 :: x523 :: x524 :: x525 :: x526 :: x527 :: x528 :: x529 :: x530 :: x531 :: x532 :: x533 :: x534 :: x535 :: x536 :: x537 :: x538 :: x539 :: x540 :: x541 :: x542 :: x543 :: x544 :: x545 :: x546 :: x547 :: x548 :: x549 :: x550 :: x551 :: x552 :: x553 :: x554 :: x555 :: x556 :: x557 :: x558 :: x559 :: x560 :: x561 :: x562 :: x563 :: x564 :: x565 :: x566 :: x567 :: x568 :: x569 :: x570 :: x571 :: x572 :: x573 :: x574 :: x575 :: x576 :: x577 :: x578 :: x579 :: x580 :: x581 :: x582 :: x583 :: x584 :: x585 :: x586 :: x587 :: x588 :: x589 :: x590 :: x591 :: x592 :: x593 :: x594 :: x595 :: x596 :: x597 :: x598 :: x599 :: x600 :: x601 :: x602 :: x603 :: x604 :: x605 :: x606 :: x607 :: x608 :: x609 :: x610 :: x611 :: x612 :: x613 :: x614 :: x615 :: x616 :: x617 :: x618 :: x619 :: x620 :: x621 :: x622 :: x623 :: x624 :: x625 :: x626 :: x627 :: x628 :: x629 :: x630 :: x631 :: x632 :: x633 :: x634 :: x635 :: [])) []) wc := by
  have hu23 := Tryd.underlying23
  change Code.wp _ (Code.seq _ _) _ _ _
  (try simp only [List.append_eq, List.cons_append, List.nil_append])
  cases kq with
  | zero => exact absurd HA.out (by simp [laws_FnLaddersWholeOfAll.j2])
  | succ kj140 =>
    have H := HA.out
    clear HA
    simp only [laws_FnLaddersWholeOfAll.j2] at H
    have c494 : ¬ (x402_140 = true) := fun c494 => by rw [if_pos c494] at H; (with_reducible first | exact dS H hr | exact d0 H hr | exact d2 H hr | exact d3 H hr | exact d8 H hr | cases H)
    replace c494 := Bool.eq_false_iff.mpr c494
    subst c494
    rw [if_neg (show ¬ (false = true) by decide)] at H
    have HC495 := Aside0.mk H
    clear H
    go_upto_if 403 with (fail)
    repeat (go_quiet (fail); go_upto_if 403 with (fail))
    rename_i K1 hK1
    have HK : Aside0 (∀ a w_, (dropC 24 (Tryd.f3.body.getD Code.skip)).wp Tryd.prog (bodyPost Tryd.prog Tryd.f3 fun e w' => e = .returned (.bool r) ∧ Below w.heap.size w w') a w_ → K1 a w_) := ⟨hK1⟩
    clear hK1
    go_cut [] from 403 to 403 (fun wc => ∃ (kq : Nat), Aside0 (laws_FnLaddersWholeOfAll.j5 kq a2 a4 a5 t360 t361 t371 t372 t383 t393 a3_0 a3_1 a3_2 t368 t369 t370 t380 t381 t382 t390 t391 t392 = some r) ∧ Aside0 (kq ≤ kj140) ∧ Aside0 (Kd.R k23 23 wc w.heap.size (fun k_ => k_ ≠ gb326 ∧ k_ ≠ gb327 ∧ k_ ≠ gb373 ∧ k_ ≠ gb379 ∧ k_ ≠ gb384 ∧ k_ ≠ gb389 ∧ k_ ≠ gb394 ∧ k_ ≠ gb399) v362 t360) ∧ Aside0 (wc.heap[gb326]? = some (.cells #[.int .i64 a0_0, .int .i64 a0_1, .int .i64 a0_2] 23 (0, 0))) ∧ Aside0 (wc.heap[gb327]? = some (.cells #[.int .i64 a3_0, .int .i64 a3_1, .int .i64 a3_2] 23 (0, 0))) ∧ Aside0 (wc.heap[gb373]? = some (.cells #[.int .i64 t368, .int .i64 t369, .int .i64 t370] 23 (0, 0))) ∧ Aside0 (wc.heap[gb379]? = some (.cells #[.int .i64 t374, .int .i64 t375, .int .i64 t376] 23 (0, 0))) ∧ Aside0 (wc.heap[gb384]? = some (.cells #[.int .i64 t380, .int .i64 t381, .int .i64 t382] 23 (0, 0))) ∧ Aside0 (wc.heap[gb389]? = some (.cells #[.int .i64 t385, .int .i64 t386, .int .i64 t387] 23 (0, 0))) ∧ Aside0 (wc.heap[gb394]? = some (.cells #[.int .i64 t390, .int .i64 t391, .int .i64 t392] 23 (0, 0))) ∧ Aside0 (wc.heap[gb399]? = some (.cells #[.int .i64 t395, .int .i64 t396, .int .i64 t397] 23 (0, 0))) ∧ Aside0 (Below w.heap.size w wc))
    case first =>
      have H := HC495.out
      clear HC495
      by_cases c496 : t349 = true
      · subst c496
        rw [if_pos rfl] at H
        have HC497 := Aside0.mk H
        clear H
        go_upto_region 30 with (fail)
        repeat (go_quiet (fail); go_upto_region 30 with (fail))
        go_cut [411] from 411 to 411 (fun v411 wc => ∃ (kq : Nat) (x411_496 : Bool), v411 = .bool x411_496 ∧ Aside0 (laws_FnLaddersWholeOfAll.j3 kq a1 a2 a4 a5 t348 t360 t361 t371 t372 t383 t393 x411_496 a3_0 a3_1 a3_2 t368 t369 t370 t380 t381 t382 t390 t391 t392 = some r) ∧ Aside0 (kq ≤ kj140) ∧ Aside0 (Kd.S (Kd.slice 3 (Kd.int .i64)) 44 wc w.heap.size (fun _ => True) v350 t348) ∧ Aside0 (Kd.R k23 23 wc w.heap.size (fun k_ => k_ ≠ gb326 ∧ k_ ≠ gb327 ∧ k_ ≠ gb373 ∧ k_ ≠ gb379 ∧ k_ ≠ gb384 ∧ k_ ≠ gb389 ∧ k_ ≠ gb394 ∧ k_ ≠ gb399) v362 t360) ∧ Aside0 (wc.heap[gb326]? = some (.cells #[.int .i64 a0_0, .int .i64 a0_1, .int .i64 a0_2] 23 (0, 0))) ∧ Aside0 (wc.heap[gb327]? = some (.cells #[.int .i64 a3_0, .int .i64 a3_1, .int .i64 a3_2] 23 (0, 0))) ∧ Aside0 (wc.heap[gb373]? = some (.cells #[.int .i64 t368, .int .i64 t369, .int .i64 t370] 23 (0, 0))) ∧ Aside0 (wc.heap[gb379]? = some (.cells #[.int .i64 t374, .int .i64 t375, .int .i64 t376] 23 (0, 0))) ∧ Aside0 (wc.heap[gb384]? = some (.cells #[.int .i64 t380, .int .i64 t381, .int .i64 t382] 23 (0, 0))) ∧ Aside0 (wc.heap[gb389]? = some (.cells #[.int .i64 t385, .int .i64 t386, .int .i64 t387] 23 (0, 0))) ∧ Aside0 (wc.heap[gb394]? = some (.cells #[.int .i64 t390, .int .i64 t391, .int .i64 t392] 23 (0, 0))) ∧ Aside0 (wc.heap[gb399]? = some (.cells #[.int .i64 t395, .int .i64 t396, .int .i64 t397] 23 (0, 0))) ∧ Aside0 (Below w.heap.size w wc))
        case first =>
          have H := HC497.out
          clear HC497
          have c498 : (t348.length : Int) = t356 := Decidable.byContradiction fun c498 => by rw [if_neg c498] at H; (with_reducible first | exact dS H hr | exact d0 H hr | exact d2 H hr | exact d3 H hr | exact d8 H hr | cases H)
          rw [if_pos c498] at H
          have c498b0 : ((t348.length : Int) == t356) = true := beq_iff_eq.mpr c498
          have c498b1 : ((t348.length : Int) != t356) = false := bne_eq_false_iff_eq.mpr c498
          clear c498
          (first | rw [c498b0] | (simp only [i64_w, i32_w]; rw [c498b0]) | skip)
          have H' := Aside0.mk H
          clear H
          obtain ⟨Ao499, co499, eo499⟩ := Kd.S_slice HO_32.out
          subst eo499
          go_wp2
          repeat (go_quiet (fail); try go_wp2)
          go_meet
          case rel => exact ⟨_, (decide (t356 < 1)), (by first | rfl | (simp; done) | (simp [*]; done)), H', ⟨by have := HJ15.out; have := HJ56.out; have := HJ140.out; first | omega | exact Nat.le_refl _⟩, ⟨by (with_reducible repeat (first | apply Kd.S_alloc | apply Kd.S_drewN | apply Kd.S_drew)); exact HO_32.out⟩, ⟨by (with_reducible repeat (first | apply Kd.R_alloc | apply Kd.R_drewN | apply Kd.R_drew)); exact HO_40.out⟩, ⟨BK326.out⟩, ⟨BK327.out⟩, ⟨BK373.out⟩, ⟨BK379.out⟩, ⟨BK384.out⟩, ⟨BK389.out⟩, ⟨BK394.out⟩, ⟨BK399.out⟩, ⟨by repeat (first | (with_reducible first | exact HB.out | apply below_alloc | apply pw_below_drewN | apply below_drew1 | refine below_set ?_ GE326.out | refine below_set ?_ GE327.out | refine below_set ?_ GE373.out | refine below_set ?_ GE379.out | refine below_set ?_ GE384.out | refine below_set ?_ GE389.out | refine below_set ?_ GE394.out | refine below_set ?_ GE399.out) | exact HB.out)⟩⟩
        case rest =>
          clear HC497
          obtain ⟨kq, x411_496, rfl, HA, HJ496, HO_32, HO_40, BK326, BK327, BK373, BK379, BK384, BK389, BK394, BK399, HB⟩ := hcut
          cases kq with
          | zero => exact absurd HA.out (by simp [laws_FnLaddersWholeOfAll.j3])
          | succ kj496 =>
            have H := HA.out
            clear HA
            simp only [laws_FnLaddersWholeOfAll.j3] at H
            have c501 : ¬ (x411_496 = true) := fun c501 => by rw [if_pos c501] at H; (with_reducible first | exact dS H hr | exact d0 H hr | exact d2 H hr | exact d3 H hr | exact d8 H hr | cases H)
            replace c501 := Bool.eq_false_iff.mpr c501
            subst c501
            rw [if_neg (show ¬ (false = true) by decide)] at H
            have H' := Aside0.mk H
            clear H
            obtain ⟨Ao502, co502, eo502⟩ := Kd.S_slice HO_32.out
            subst eo502
            go_wp2
            repeat (go_quiet (fail); try go_wp2)
            go_loopg [414] kj496 (fun kq v414 w' => ∃ (x414_5 : Int), v414 = .int .i64 x414_5 ∧ Aside0 (laws_FnLaddersWholeOfAll.l0 kq a1 a2 a4 a5 t348 t360 t361 t371 t372 t383 t393 t348 (t348.length : Int) x414_5 a3_0 a3_1 a3_2 t368 t369 t370 t380 t381 t382 t390 t391 t392 = some r) ∧ Aside0 (kq ≤ kj496) ∧ Aside0 (Kd.S (Kd.slice 3 (Kd.int .i64)) 44 w' w.heap.size (fun _ => True) (.slice Ao502 t348.length co502) t348) ∧ Aside0 (Kd.R k23 23 w' w.heap.size (fun k_ => k_ ≠ gb326 ∧ k_ ≠ gb327 ∧ k_ ≠ gb373 ∧ k_ ≠ gb379 ∧ k_ ≠ gb384 ∧ k_ ≠ gb389 ∧ k_ ≠ gb394 ∧ k_ ≠ gb399) v362 t360) ∧ Aside0 (Kd.S (Kd.slice 3 (Kd.int .i64)) 44 w' w.heap.size (fun _ => True) (.slice Ao502 t348.length co502) t348) ∧ Aside0 (w'.heap[gb326]? = some (.cells #[.int .i64 a0_0, .int .i64 a0_1, .int .i64 a0_2] 23 (0, 0))) ∧ Aside0 (w'.heap[gb327]? = some (.cells #[.int .i64 a3_0, .int .i64 a3_1, .int .i64 a3_2] 23 (0, 0))) ∧ Aside0 (w'.heap[gb373]? = some (.cells #[.int .i64 t368, .int .i64 t369, .int .i64 t370] 23 (0, 0))) ∧ Aside0 (w'.heap[gb379]? = some (.cells #[.int .i64 t374, .int .i64 t375, .int .i64 t376] 23 (0, 0))) ∧ Aside0 (w'.heap[gb384]? = some (.cells #[.int .i64 t380, .int .i64 t381, .int .i64 t382] 23 (0, 0))) ∧ Aside0 (w'.heap[gb389]? = some (.cells #[.int .i64 t385, .int .i64 t386, .int .i64 t387] 23 (0, 0))) ∧ Aside0 (w'.heap[gb394]? = some (.cells #[.int .i64 t390, .int .i64 t391, .int .i64 t392] 23 (0, 0))) ∧ Aside0 (w'.heap[gb399]? = some (.cells #[.int .i64 t395, .int .i64 t396, .int .i64 t397] 23 (0, 0))) ∧ Aside0 (Below w.heap.size w w'))
            case atStart => exact ⟨(0), (by first | rfl | (simp; done) | (simp [*]; done)), H', ⟨Nat.le_refl _⟩, ⟨by (with_reducible repeat (first | apply Kd.S_alloc | apply Kd.S_drewN | apply Kd.S_drew)); exact HO_32.out⟩, ⟨by (with_reducible repeat (first | apply Kd.R_alloc | apply Kd.R_drewN | apply Kd.R_drew)); exact HO_40.out⟩, ⟨by (with_reducible repeat (first | apply Kd.S_alloc | apply Kd.S_drewN | apply Kd.S_drew)); exact HO_32.out⟩, ⟨BK326.out⟩, ⟨BK327.out⟩, ⟨BK373.out⟩, ⟨BK379.out⟩, ⟨BK384.out⟩, ⟨BK389.out⟩, ⟨BK394.out⟩, ⟨BK399.out⟩, ⟨by repeat (first | (with_reducible first | exact HB.out | apply below_alloc | apply pw_below_drewN | apply below_drew1 | refine below_set ?_ GE326.out | refine below_set ?_ GE327.out | refine below_set ?_ GE373.out | refine below_set ?_ GE379.out | refine below_set ?_ GE384.out | refine below_set ?_ GE389.out | refine below_set ?_ GE394.out | refine below_set ?_ GE399.out) | exact HB.out)⟩⟩
            case round =>
              clear H'
              obtain ⟨x414_5, rfl, HA, HK5, HO_32, HO_40, HO_412, BK326, BK327, BK373, BK379, BK384, BK389, BK394, BK399, HB⟩ := hrel
              cases gk with
              | zero => exact absurd HA.out (by simp [laws_FnLaddersWholeOfAll.l0])
              | succ k5 =>
                have H := HA.out
                clear HA
                simp only [laws_FnLaddersWholeOfAll.l0] at H
                by_cases c503 : x414_5 < (t348.length : Int)
                · rw [if_pos c503] at H
                  have c503b0 : decide (x414_5 < (t348.length : Int)) = true := decide_eq_true c503
                  clear c503
                  have c504 : 0 ≤ x414_5 := Decidable.byContradiction fun c504 => by rw [if_neg c504] at H; (with_reducible first | exact dS H hr | exact d0 H hr | exact d2 H hr | exact d3 H hr | exact d8 H hr | cases H)
                  rw [if_pos c504] at H
                  have c504b0 : decide (0 ≤ x414_5) = true := decide_eq_true c504
                  clear c504
                  have c505 : x414_5 < (t348.length : Int) := Decidable.byContradiction fun c505 => by rw [if_neg c505] at H; (with_reducible first | exact dS H hr | exact d0 H hr | exact d2 H hr | exact d3 H hr | exact d8 H hr | cases H)
                  rw [if_pos c505] at H
                  have c505b0 : decide (x414_5 < (t348.length : Int)) = true := decide_eq_true c505
                  clear c505
                  have c506 : ((rd_L1 t348 x414_5).length : Int) = 2 := Decidable.byContradiction fun c506 => by rw [if_neg c506] at H; (with_reducible first | exact dS H hr | exact d0 H hr | exact d2 H hr | exact d3 H hr | exact d8 H hr | cases H)
                  rw [if_pos c506] at H
                  have c506b0 : (((rd_L1 t348 x414_5).length : Int) == 2) = true := beq_iff_eq.mpr c506
                  have c506b1 : (((rd_L1 t348 x414_5).length : Int) != 2) = false := bne_eq_false_iff_eq.mpr c506
                  clear c506
                  have c507 : 0 < ((rd_L1 t348 x414_5).length : Int) := Decidable.byContradiction fun c507 => by rw [if_neg c507] at H; (with_reducible first | exact dS H hr | exact d0 H hr | exact d2 H hr | exact d3 H hr | exact d8 H hr | cases H)
                  rw [if_pos c507] at H
                  have c507b0 : decide (0 < ((rd_L1 t348 x414_5).length : Int)) = true := decide_eq_true c507
                  have c507b1 : decide (0 < (rd_L1 t348 x414_5).length) = true := decide_eq_true (by omega)
                  clear c507
                  have c508 : 1 < ((rd_L1 t348 x414_5).length : Int) := Decidable.byContradiction fun c508 => by rw [if_neg c508] at H; (with_reducible first | exact dS H hr | exact d0 H hr | exact d2 H hr | exact d3 H hr | exact d8 H hr | cases H)
                  rw [if_pos c508] at H
                  have c508b0 : decide (1 < ((rd_L1 t348 x414_5).length : Int)) = true := decide_eq_true c508
                  have c508b1 : decide (1 < (rd_L1 t348 x414_5).length) = true := decide_eq_true (by omega)
                  clear c508
                  have c509 : ¬ ((rd (rd_L1 t348 x414_5) 0) > (rd (rd_L1 t348 x414_5) 1)) := fun c509 => by rw [if_pos c509] at H; (with_reducible first | exact dS H hr | exact d0 H hr | exact d2 H hr | exact d3 H hr | exact d8 H hr | cases H)
                  rw [if_neg c509] at H
                  have c509b0 : decide ((rd (rd_L1 t348 x414_5) 1) < (rd (rd_L1 t348 x414_5) 0)) = false := decide_eq_false c509
                  clear c509
                  have c510 : ¬ ((rd (rd_L1 t348 x414_5) 0) ≤ a1) := fun c510 => by rw [if_pos c510] at H; (with_reducible first | exact dS H hr | exact d0 H hr | exact d2 H hr | exact d3 H hr | exact d8 H hr | cases H)
                  rw [if_neg c510] at H
                  have c510b0 : decide ((rd (rd_L1 t348 x414_5) 0) ≤ a1) = false := decide_eq_false c510
                  clear c510
                  have c511 : (wrap64 ((rd (rd_L1 t348 x414_5) 0) * (rd (rd_L1 t348 x414_5) 1))) = (wrap64 (a1 * (wrap64 ((rd (rd_L1 t348 x414_5) 0) + (rd (rd_L1 t348 x414_5) 1))))) := Decidable.byContradiction fun c511 => by rw [if_neg c511] at H; (with_reducible first | exact dS H hr | exact d0 H hr | exact d2 H hr | exact d3 H hr | exact d8 H hr | cases H)
                  rw [if_pos c511] at H
                  have c511b0 : ((wrap64 ((rd (rd_L1 t348 x414_5) 0) * (rd (rd_L1 t348 x414_5) 1))) == (wrap64 (a1 * (wrap64 ((rd (rd_L1 t348 x414_5) 0) + (rd (rd_L1 t348 x414_5) 1)))))) = true := beq_iff_eq.mpr c511
                  have c511b1 : ((wrap64 ((rd (rd_L1 t348 x414_5) 0) * (rd (rd_L1 t348 x414_5) 1))) != (wrap64 (a1 * (wrap64 ((rd (rd_L1 t348 x414_5) 0) + (rd (rd_L1 t348 x414_5) 1)))))) = false := bne_eq_false_iff_eq.mpr c511
                  clear c511
                  by_cases c512 : x414_5 > 0
                  · rw [if_pos c512] at H
                    have c512b0 : decide (0 < x414_5) = true := decide_eq_true c512
                    clear c512
                    obtain ⟨ji513, hji513⟩ : ∃ j_ : Int, (wrap64 (x414_5 - 1)) = j_ := ⟨_, rfl⟩
                    replace H : (if 0 ≤ (ji513) then (if (ji513) < (t348.length : Int) then (if 0 < ((rd_L1 t348 (ji513)).length : Int) then (if (rd (rd_L1 t348 (ji513)) 0) ≥ (rd (rd_L1 t348 x414_5) 0) then (some false) else (laws_FnLaddersWholeOfAll.l0 k5 a1 a2 a4 a5 t348 t360 t361 t371 t372 t383 t393 t348 (t348.length : Int) (wrap64 (x414_5 + 1)) a3_0 a3_1 a3_2 t368 t369 t370 t380 t381 t382 t390 t391 t392)) else (none)) else (none)) else (none)) = some r := by first | (rw [hji513] at H; exact H) | (simp only [hji513] at H ⊢; exact H)
                    have hji513w : (IntKind.i64.wrap (x414_5 - 1)) = ji513 := (i64_w _).trans hji513
                    have c514 : 0 ≤ (ji513) := Decidable.byContradiction fun c514 => by rw [if_neg c514] at H; (with_reducible first | exact dS H hr | exact d0 H hr | exact d2 H hr | exact d3 H hr | exact d8 H hr | cases H)
                    rw [if_pos c514] at H
                    have c514b0 : decide (0 ≤ (ji513)) = true := decide_eq_true c514
                    clear c514
                    have c515 : (ji513) < (t348.length : Int) := Decidable.byContradiction fun c515 => by rw [if_neg c515] at H; (with_reducible first | exact dS H hr | exact d0 H hr | exact d2 H hr | exact d3 H hr | exact d8 H hr | cases H)
                    rw [if_pos c515] at H
                    have c515b0 : decide ((ji513) < (t348.length : Int)) = true := decide_eq_true c515
                    clear c515
                    have c516 : 0 < ((rd_L1 t348 (ji513)).length : Int) := Decidable.byContradiction fun c516 => by rw [if_neg c516] at H; (with_reducible first | exact dS H hr | exact d0 H hr | exact d2 H hr | exact d3 H hr | exact d8 H hr | cases H)
                    rw [if_pos c516] at H
                    have c516b0 : decide (0 < ((rd_L1 t348 (ji513)).length : Int)) = true := decide_eq_true c516
                    have c516b1 : decide (0 < (rd_L1 t348 (ji513)).length) = true := decide_eq_true (by omega)
                    clear c516
                    have c517 : ¬ ((rd (rd_L1 t348 (ji513)) 0) ≥ (rd (rd_L1 t348 x414_5) 0)) := fun c517 => by rw [if_pos c517] at H; (with_reducible first | exact dS H hr | exact d0 H hr | exact d2 H hr | exact d3 H hr | exact d8 H hr | cases H)
                    rw [if_neg c517] at H
                    have c517b0 : decide ((rd (rd_L1 t348 x414_5) 0) ≤ (rd (rd_L1 t348 (ji513)) 0)) = false := decide_eq_false c517
                    clear c517
                    have H' := Aside0.mk H
                    clear H
                    have p402 : 0 ≤ (x414_5 : Int) := of_decide_eq_true (by first | (with_reducible assumption) | assumption)
                    have q402 : x414_5 < (t348.length : Int) := of_decide_eq_true (by first | (with_reducible assumption) | assumption)
                    obtain ⟨ad402, A402_0, c402_0, e402, hx402_0, hl402_0, hi402_0⟩ := at_L1 (Kd.S_reads' HO_412.out).2.2 x414_5 p402 q402
                    cases e402
                    obtain ⟨ce402, hce402, hMe402, hcc402⟩ := Kd.S_get HO_412.out [] x414_5 p402 (by first | exact q402 | exact of_decide_eq_true (by first | (with_reducible assumption) | assumption) | (have e_ := (Kd.S_reads' HO_412.out).1; omega))
                    obtain ⟨ve402_0, rfl, ge402_0⟩ := hMe402
                    have hv402_0 := hcc402 0 _ rfl
                    rw [Nat.add_zero, show ((Kd.slice 3 (Kd.int .i64))).sz = 1 from rfl, Nat.mul_one] at hv402_0
                    replace hv402_0 := Option.some.inj (hv402_0.symm.trans hx402_0)
                    rw [hv402_0] at ge402_0
                    have HL402_0 := Aside0.mk (show Kd.R (Kd.int .i64) 3 _ _ _ _ (rd_L1 t348 x414_5) from ge402_0)
                    clear hv402_0 ge402_0
                    clear hcc402 hce402
                    have HR402_0 := Aside0.mk hi402_0
                    have HC402_0 := Aside0.mk hl402_0
                    clear hi402_0 hl402_0
                    replace p402 := eq_true p402
                    replace q402 := eq_true q402
                    have p403 : 0 ≤ (0 : Int) := (by omega)
                    have q403 : 0 < ((rd_L1 t348 x414_5).length : Int) := of_decide_eq_true (by first | (with_reducible assumption) | assumption)
                    obtain ⟨ad403, e403, hx403_0⟩ := Kd.at_int (by repeat (first | (with_reducible exact HR402_0.out) | (with_reducible refine Kd.C_alloc ?_ _) | (with_reducible refine Kd.C_drewN ?_ _) | (with_reducible refine Kd.C_drew ?_) | exact HR402_0.out)) 0 p403 q403
                    cases e403
                    have qi403 : (0 < (rd_L1 t348 x414_5).length) = True := eq_true (by omega)
                    (try rw [show ((0 : Int)).toNat = 0 from rfl] at hx403_0)
                    (try rw [Addr.add_zero'] at hx403_0)
                    replace p403 := eq_true p403
                    replace q403 := eq_true q403
                    have p404 : 0 ≤ (1 : Int) := (by omega)
                    have q404 : 1 < ((rd_L1 t348 x414_5).length : Int) := of_decide_eq_true (by first | (with_reducible assumption) | assumption)
                    obtain ⟨ad404, e404, hx404_0⟩ := Kd.at_int (by repeat (first | (with_reducible exact HR402_0.out) | (with_reducible refine Kd.C_alloc ?_ _) | (with_reducible refine Kd.C_drewN ?_ _) | (with_reducible refine Kd.C_drew ?_) | exact HR402_0.out)) 1 p404 q404
                    obtain rfl : ad403 = ad404 := (by injection e404)
                    (try simp only [show (1 : Int).toNat = 1 from rfl, Nat.reduceMul, Nat.reduceEqDiff, Go.Addr.add, ↓reduceIte] at hx404_0)
                    have qi404 : (1 < (rd_L1 t348 x414_5).length) = True := eq_true (by omega)
                    (try rw [show ((1 : Int)).toNat = 1 from rfl] at hx404_0)
                    replace p404 := eq_true p404
                    replace q404 := eq_true q404
                    have p405 : 0 ≤ (0 : Int) := (by omega)
                    have q405 : 0 < ((rd_L1 t348 x414_5).length : Int) := of_decide_eq_true (by first | (with_reducible assumption) | assumption)
                    obtain ⟨ad405, e405, hx405_0⟩ := Kd.at_int (by repeat (first | (with_reducible exact HR402_0.out) | (with_reducible refine Kd.C_alloc ?_ _) | (with_reducible refine Kd.C_drewN ?_ _) | (with_reducible refine Kd.C_drew ?_) | exact HR402_0.out)) 0 p405 q405
                    obtain rfl : ad403 = ad405 := (by injection e405)
                    have qi405 : (0 < (rd_L1 t348 x414_5).length) = True := eq_true (by omega)
                    (try rw [show ((0 : Int)).toNat = 0 from rfl] at hx405_0)
                    (try rw [Addr.add_zero'] at hx405_0)
                    replace p405 := eq_true p405
                    replace q405 := eq_true q405
                    have p406 : 0 ≤ (0 : Int) := (by omega)
                    have q406 : 0 < ((rd_L1 t348 x414_5).length : Int) := of_decide_eq_true (by first | (with_reducible assumption) | assumption)
                    obtain ⟨ad406, e406, hx406_0⟩ := Kd.at_int (by repeat (first | (with_reducible exact HR402_0.out) | (with_reducible refine Kd.C_alloc ?_ _) | (with_reducible refine Kd.C_drewN ?_ _) | (with_reducible refine Kd.C_drew ?_) | exact HR402_0.out)) 0 p406 q406
                    obtain rfl : ad403 = ad406 := (by injection e406)
                    have qi406 : (0 < (rd_L1 t348 x414_5).length) = True := eq_true (by omega)
                    (try rw [show ((0 : Int)).toNat = 0 from rfl] at hx406_0)
                    (try rw [Addr.add_zero'] at hx406_0)
                    replace p406 := eq_true p406
                    replace q406 := eq_true q406
                    have p407 : 0 ≤ (1 : Int) := (by omega)
                    have q407 : 1 < ((rd_L1 t348 x414_5).length : Int) := of_decide_eq_true (by first | (with_reducible assumption) | assumption)
                    obtain ⟨ad407, e407, hx407_0⟩ := Kd.at_int (by repeat (first | (with_reducible exact HR402_0.out) | (with_reducible refine Kd.C_alloc ?_ _) | (with_reducible refine Kd.C_drewN ?_ _) | (with_reducible refine Kd.C_drew ?_) | exact HR402_0.out)) 1 p407 q407
                    obtain rfl : ad403 = ad407 := (by injection e407)
                    (try simp only [show (1 : Int).toNat = 1 from rfl, Nat.reduceMul, Nat.reduceEqDiff, Go.Addr.add, ↓reduceIte] at hx407_0)
                    have qi407 : (1 < (rd_L1 t348 x414_5).length) = True := eq_true (by omega)
                    (try rw [show ((1 : Int)).toNat = 1 from rfl] at hx407_0)
                    replace p407 := eq_true p407
                    replace q407 := eq_true q407
                    have p408 : 0 ≤ (0 : Int) := (by omega)
                    have q408 : 0 < ((rd_L1 t348 x414_5).length : Int) := of_decide_eq_true (by first | (with_reducible assumption) | assumption)
                    obtain ⟨ad408, e408, hx408_0⟩ := Kd.at_int (by repeat (first | (with_reducible exact HR402_0.out) | (with_reducible refine Kd.C_alloc ?_ _) | (with_reducible refine Kd.C_drewN ?_ _) | (with_reducible refine Kd.C_drew ?_) | exact HR402_0.out)) 0 p408 q408
                    obtain rfl : ad403 = ad408 := (by injection e408)
                    have qi408 : (0 < (rd_L1 t348 x414_5).length) = True := eq_true (by omega)
                    (try rw [show ((0 : Int)).toNat = 0 from rfl] at hx408_0)
                    (try rw [Addr.add_zero'] at hx408_0)
                    replace p408 := eq_true p408
                    replace q408 := eq_true q408
                    have p409 : 0 ≤ (1 : Int) := (by omega)
                    have q409 : 1 < ((rd_L1 t348 x414_5).length : Int) := of_decide_eq_true (by first | (with_reducible assumption) | assumption)
                    obtain ⟨ad409, e409, hx409_0⟩ := Kd.at_int (by repeat (first | (with_reducible exact HR402_0.out) | (with_reducible refine Kd.C_alloc ?_ _) | (with_reducible refine Kd.C_drewN ?_ _) | (with_reducible refine Kd.C_drew ?_) | exact HR402_0.out)) 1 p409 q409
                    obtain rfl : ad403 = ad409 := (by injection e409)
                    (try simp only [show (1 : Int).toNat = 1 from rfl, Nat.reduceMul, Nat.reduceEqDiff, Go.Addr.add, ↓reduceIte] at hx409_0)
                    have qi409 : (1 < (rd_L1 t348 x414_5).length) = True := eq_true (by omega)
                    (try rw [show ((1 : Int)).toNat = 1 from rfl] at hx409_0)
                    replace p409 := eq_true p409
                    replace q409 := eq_true q409
                    have p410 : 0 ≤ ((ji513) : Int) := of_decide_eq_true (by first | (with_reducible assumption) | assumption)
                    have q410 : (ji513) < (t348.length : Int) := of_decide_eq_true (by first | (with_reducible assumption) | assumption)
                    obtain ⟨ad410, A410_0, c410_0, e410, hx410_0, hl410_0, hi410_0⟩ := at_L1 (Kd.S_reads' HO_32.out).2.2 (ji513) p410 q410
                    obtain rfl : ad402 = ad410 := (by injection e410)
                    obtain ⟨ce410, hce410, hMe410, hcc410⟩ := Kd.S_get HO_32.out [] (ji513) p410 (by first | exact q410 | exact of_decide_eq_true (by first | (with_reducible assumption) | assumption) | (have e_ := (Kd.S_reads' HO_32.out).1; omega))
                    obtain ⟨ve410_0, rfl, ge410_0⟩ := hMe410
                    have hv410_0 := hcc410 0 _ rfl
                    rw [Nat.add_zero, show ((Kd.slice 3 (Kd.int .i64))).sz = 1 from rfl, Nat.mul_one] at hv410_0
                    replace hv410_0 := Option.some.inj (hv410_0.symm.trans hx410_0)
                    rw [hv410_0] at ge410_0
                    have HL410_0 := Aside0.mk (show Kd.R (Kd.int .i64) 3 _ _ _ _ (rd_L1 t348 (ji513)) from ge410_0)
                    clear hv410_0 ge410_0
                    clear hcc410 hce410
                    have HR410_0 := Aside0.mk hi410_0
                    have HC410_0 := Aside0.mk hl410_0
                    clear hi410_0 hl410_0
                    replace p410 := eq_true p410
                    replace q410 := eq_true q410
                    have p411 : 0 ≤ (0 : Int) := (by omega)
                    have q411 : 0 < ((rd_L1 t348 (ji513)).length : Int) := of_decide_eq_true (by first | (with_reducible assumption) | assumption)
                    obtain ⟨ad411, e411, hx411_0⟩ := Kd.at_int (by repeat (first | (with_reducible exact HR410_0.out) | (with_reducible refine Kd.C_alloc ?_ _) | (with_reducible refine Kd.C_drewN ?_ _) | (with_reducible refine Kd.C_drew ?_) | exact HR410_0.out)) 0 p411 q411
                    cases e411
                    have qi411 : (0 < (rd_L1 t348 (ji513)).length) = True := eq_true (by omega)
                    (try rw [show ((0 : Int)).toNat = 0 from rfl] at hx411_0)
                    (try rw [Addr.add_zero'] at hx411_0)
                    replace p411 := eq_true p411
                    replace q411 := eq_true q411
                    have p412 : 0 ≤ (0 : Int) := (by omega)
                    have q412 : 0 < ((rd_L1 t348 x414_5).length : Int) := of_decide_eq_true (by first | (with_reducible assumption) | assumption)
                    obtain ⟨ad412, e412, hx412_0⟩ := Kd.at_int (by repeat (first | (with_reducible exact HR402_0.out) | (with_reducible refine Kd.C_alloc ?_ _) | (with_reducible refine Kd.C_drewN ?_ _) | (with_reducible refine Kd.C_drew ?_) | exact HR402_0.out)) 0 p412 q412
                    obtain rfl : ad403 = ad412 := (by injection e412)
                    have qi412 : (0 < (rd_L1 t348 x414_5).length) = True := eq_true (by omega)
                    (try rw [show ((0 : Int)).toNat = 0 from rfl] at hx412_0)
                    (try rw [Addr.add_zero'] at hx412_0)
                    replace p412 := eq_true p412
                    replace q412 := eq_true q412
                    go_wp2
                    repeat (go_quiet (fail); try go_wp2)
                    go_roundg k5
                    case measure => have := HJ15.out; have := HJ56.out; have := HJ140.out; have := HJ496.out; have := HK5.out; omega
                    case rel => exact ⟨(wrap64 (x414_5 + 1)), (by first | rfl | (simp; done) | (simp [*]; done)), H', ⟨by have := HJ15.out; have := HJ56.out; have := HJ140.out; have := HJ496.out; have := HK5.out; omega⟩, ⟨by (with_reducible repeat (first | apply Kd.S_alloc | apply Kd.S_drewN | apply Kd.S_drew)); exact HO_32.out⟩, ⟨by (with_reducible repeat (first | apply Kd.R_alloc | apply Kd.R_drewN | apply Kd.R_drew)); exact HO_40.out⟩, ⟨by (with_reducible repeat (first | apply Kd.S_alloc | apply Kd.S_drewN | apply Kd.S_drew)); exact HO_412.out⟩, ⟨BK326.out⟩, ⟨BK327.out⟩, ⟨BK373.out⟩, ⟨BK379.out⟩, ⟨BK384.out⟩, ⟨BK389.out⟩, ⟨BK394.out⟩, ⟨BK399.out⟩, ⟨by repeat (first | (with_reducible first | exact HB.out | apply below_alloc | apply pw_below_drewN | apply below_drew1 | refine below_set ?_ GE326.out | refine below_set ?_ GE327.out | refine below_set ?_ GE373.out | refine below_set ?_ GE379.out | refine below_set ?_ GE384.out | refine below_set ?_ GE389.out | refine below_set ?_ GE394.out | refine below_set ?_ GE399.out) | exact HB.out)⟩⟩
                  · rw [if_neg c512] at H
                    have c512b0 : decide (0 < x414_5) = false := decide_eq_false c512
                    clear c512
                    have H' := Aside0.mk H
                    clear H
                    have p402 : 0 ≤ (x414_5 : Int) := of_decide_eq_true (by first | (with_reducible assumption) | assumption)
                    have q402 : x414_5 < (t348.length : Int) := of_decide_eq_true (by first | (with_reducible assumption) | assumption)
                    obtain ⟨ad402, A402_0, c402_0, e402, hx402_0, hl402_0, hi402_0⟩ := at_L1 (Kd.S_reads' HO_412.out).2.2 x414_5 p402 q402
                    cases e402
                    obtain ⟨ce402, hce402, hMe402, hcc402⟩ := Kd.S_get HO_412.out [] x414_5 p402 (by first | exact q402 | exact of_decide_eq_true (by first | (with_reducible assumption) | assumption) | (have e_ := (Kd.S_reads' HO_412.out).1; omega))
                    obtain ⟨ve402_0, rfl, ge402_0⟩ := hMe402
                    have hv402_0 := hcc402 0 _ rfl
                    rw [Nat.add_zero, show ((Kd.slice 3 (Kd.int .i64))).sz = 1 from rfl, Nat.mul_one] at hv402_0
                    replace hv402_0 := Option.some.inj (hv402_0.symm.trans hx402_0)
                    rw [hv402_0] at ge402_0
                    have HL402_0 := Aside0.mk (show Kd.R (Kd.int .i64) 3 _ _ _ _ (rd_L1 t348 x414_5) from ge402_0)
                    clear hv402_0 ge402_0
                    clear hcc402 hce402
                    have HR402_0 := Aside0.mk hi402_0
                    have HC402_0 := Aside0.mk hl402_0
                    clear hi402_0 hl402_0
                    replace p402 := eq_true p402
                    replace q402 := eq_true q402
                    have p403 : 0 ≤ (0 : Int) := (by omega)
                    have q403 : 0 < ((rd_L1 t348 x414_5).length : Int) := of_decide_eq_true (by first | (with_reducible assumption) | assumption)
                    obtain ⟨ad403, e403, hx403_0⟩ := Kd.at_int (by repeat (first | (with_reducible exact HR402_0.out) | (with_reducible refine Kd.C_alloc ?_ _) | (with_reducible refine Kd.C_drewN ?_ _) | (with_reducible refine Kd.C_drew ?_) | exact HR402_0.out)) 0 p403 q403
                    cases e403
                    have qi403 : (0 < (rd_L1 t348 x414_5).length) = True := eq_true (by omega)
                    (try rw [show ((0 : Int)).toNat = 0 from rfl] at hx403_0)
                    (try rw [Addr.add_zero'] at hx403_0)
                    replace p403 := eq_true p403
                    replace q403 := eq_true q403
                    have p404 : 0 ≤ (1 : Int) := (by omega)
                    have q404 : 1 < ((rd_L1 t348 x414_5).length : Int) := of_decide_eq_true (by first | (with_reducible assumption) | assumption)
                    obtain ⟨ad404, e404, hx404_0⟩ := Kd.at_int (by repeat (first | (with_reducible exact HR402_0.out) | (with_reducible refine Kd.C_alloc ?_ _) | (with_reducible refine Kd.C_drewN ?_ _) | (with_reducible refine Kd.C_drew ?_) | exact HR402_0.out)) 1 p404 q404
                    obtain rfl : ad403 = ad404 := (by injection e404)
                    (try simp only [show (1 : Int).toNat = 1 from rfl, Nat.reduceMul, Nat.reduceEqDiff, Go.Addr.add, ↓reduceIte] at hx404_0)
                    have qi404 : (1 < (rd_L1 t348 x414_5).length) = True := eq_true (by omega)
                    (try rw [show ((1 : Int)).toNat = 1 from rfl] at hx404_0)
                    replace p404 := eq_true p404
                    replace q404 := eq_true q404
                    have p405 : 0 ≤ (0 : Int) := (by omega)
                    have q405 : 0 < ((rd_L1 t348 x414_5).length : Int) := of_decide_eq_true (by first | (with_reducible assumption) | assumption)
                    obtain ⟨ad405, e405, hx405_0⟩ := Kd.at_int (by repeat (first | (with_reducible exact HR402_0.out) | (with_reducible refine Kd.C_alloc ?_ _) | (with_reducible refine Kd.C_drewN ?_ _) | (with_reducible refine Kd.C_drew ?_) | exact HR402_0.out)) 0 p405 q405
                    obtain rfl : ad403 = ad405 := (by injection e405)
                    have qi405 : (0 < (rd_L1 t348 x414_5).length) = True := eq_true (by omega)
                    (try rw [show ((0 : Int)).toNat = 0 from rfl] at hx405_0)
                    (try rw [Addr.add_zero'] at hx405_0)
                    replace p405 := eq_true p405
                    replace q405 := eq_true q405
                    have p406 : 0 ≤ (0 : Int) := (by omega)
                    have q406 : 0 < ((rd_L1 t348 x414_5).length : Int) := of_decide_eq_true (by first | (with_reducible assumption) | assumption)
                    obtain ⟨ad406, e406, hx406_0⟩ := Kd.at_int (by repeat (first | (with_reducible exact HR402_0.out) | (with_reducible refine Kd.C_alloc ?_ _) | (with_reducible refine Kd.C_drewN ?_ _) | (with_reducible refine Kd.C_drew ?_) | exact HR402_0.out)) 0 p406 q406
                    obtain rfl : ad403 = ad406 := (by injection e406)
                    have qi406 : (0 < (rd_L1 t348 x414_5).length) = True := eq_true (by omega)
                    (try rw [show ((0 : Int)).toNat = 0 from rfl] at hx406_0)
                    (try rw [Addr.add_zero'] at hx406_0)
                    replace p406 := eq_true p406
                    replace q406 := eq_true q406
                    have p407 : 0 ≤ (1 : Int) := (by omega)
                    have q407 : 1 < ((rd_L1 t348 x414_5).length : Int) := of_decide_eq_true (by first | (with_reducible assumption) | assumption)
                    obtain ⟨ad407, e407, hx407_0⟩ := Kd.at_int (by repeat (first | (with_reducible exact HR402_0.out) | (with_reducible refine Kd.C_alloc ?_ _) | (with_reducible refine Kd.C_drewN ?_ _) | (with_reducible refine Kd.C_drew ?_) | exact HR402_0.out)) 1 p407 q407
                    obtain rfl : ad403 = ad407 := (by injection e407)
                    (try simp only [show (1 : Int).toNat = 1 from rfl, Nat.reduceMul, Nat.reduceEqDiff, Go.Addr.add, ↓reduceIte] at hx407_0)
                    have qi407 : (1 < (rd_L1 t348 x414_5).length) = True := eq_true (by omega)
                    (try rw [show ((1 : Int)).toNat = 1 from rfl] at hx407_0)
                    replace p407 := eq_true p407
                    replace q407 := eq_true q407
                    have p408 : 0 ≤ (0 : Int) := (by omega)
                    have q408 : 0 < ((rd_L1 t348 x414_5).length : Int) := of_decide_eq_true (by first | (with_reducible assumption) | assumption)
                    obtain ⟨ad408, e408, hx408_0⟩ := Kd.at_int (by repeat (first | (with_reducible exact HR402_0.out) | (with_reducible refine Kd.C_alloc ?_ _) | (with_reducible refine Kd.C_drewN ?_ _) | (with_reducible refine Kd.C_drew ?_) | exact HR402_0.out)) 0 p408 q408
                    obtain rfl : ad403 = ad408 := (by injection e408)
                    have qi408 : (0 < (rd_L1 t348 x414_5).length) = True := eq_true (by omega)
                    (try rw [show ((0 : Int)).toNat = 0 from rfl] at hx408_0)
                    (try rw [Addr.add_zero'] at hx408_0)
                    replace p408 := eq_true p408
                    replace q408 := eq_true q408
                    have p409 : 0 ≤ (1 : Int) := (by omega)
                    have q409 : 1 < ((rd_L1 t348 x414_5).length : Int) := of_decide_eq_true (by first | (with_reducible assumption) | assumption)
                    obtain ⟨ad409, e409, hx409_0⟩ := Kd.at_int (by repeat (first | (with_reducible exact HR402_0.out) | (with_reducible refine Kd.C_alloc ?_ _) | (with_reducible refine Kd.C_drewN ?_ _) | (with_reducible refine Kd.C_drew ?_) | exact HR402_0.out)) 1 p409 q409
                    obtain rfl : ad403 = ad409 := (by injection e409)
                    (try simp only [show (1 : Int).toNat = 1 from rfl, Nat.reduceMul, Nat.reduceEqDiff, Go.Addr.add, ↓reduceIte] at hx409_0)
                    have qi409 : (1 < (rd_L1 t348 x414_5).length) = True := eq_true (by omega)
                    (try rw [show ((1 : Int)).toNat = 1 from rfl] at hx409_0)
                    replace p409 := eq_true p409
                    replace q409 := eq_true q409
                    go_wp2
                    repeat (go_quiet (fail); try go_wp2)
                    go_roundg k5
                    case measure => have := HJ15.out; have := HJ56.out; have := HJ140.out; have := HJ496.out; have := HK5.out; omega
                    case rel => exact ⟨(wrap64 (x414_5 + 1)), (by first | rfl | (simp; done) | (simp [*]; done)), H', ⟨by have := HJ15.out; have := HJ56.out; have := HJ140.out; have := HJ496.out; have := HK5.out; omega⟩, ⟨by (with_reducible repeat (first | apply Kd.S_alloc | apply Kd.S_drewN | apply Kd.S_drew)); exact HO_32.out⟩, ⟨by (with_reducible repeat (first | apply Kd.R_alloc | apply Kd.R_drewN | apply Kd.R_drew)); exact HO_40.out⟩, ⟨by (with_reducible repeat (first | apply Kd.S_alloc | apply Kd.S_drewN | apply Kd.S_drew)); exact HO_412.out⟩, ⟨BK326.out⟩, ⟨BK327.out⟩, ⟨BK373.out⟩, ⟨BK379.out⟩, ⟨BK384.out⟩, ⟨BK389.out⟩, ⟨BK394.out⟩, ⟨BK399.out⟩, ⟨by repeat (first | (with_reducible first | exact HB.out | apply below_alloc | apply pw_below_drewN | apply below_drew1 | refine below_set ?_ GE326.out | refine below_set ?_ GE327.out | refine below_set ?_ GE373.out | refine below_set ?_ GE379.out | refine below_set ?_ GE384.out | refine below_set ?_ GE389.out | refine below_set ?_ GE394.out | refine below_set ?_ GE399.out) | exact HB.out)⟩⟩
                · rw [if_neg c503] at H
                  have c503b0 : decide (x414_5 < (t348.length : Int)) = false := decide_eq_false c503
                  clear c503
                  have H' := Aside0.mk H
                  clear H
                  go_wp2
                  repeat (go_quiet (fail); try go_wp2)
                  go_meet
                  case rel => exact ⟨_, H', ⟨by have := HJ15.out; have := HJ56.out; have := HJ140.out; have := HJ496.out; have := HK5.out; first | omega | exact Nat.le_refl _⟩, ⟨by (with_reducible repeat (first | apply Kd.R_alloc | apply Kd.R_drewN | apply Kd.R_drew)); exact HO_40.out⟩, ⟨BK326.out⟩, ⟨BK327.out⟩, ⟨BK373.out⟩, ⟨BK379.out⟩, ⟨BK384.out⟩, ⟨BK389.out⟩, ⟨BK394.out⟩, ⟨BK399.out⟩, ⟨by repeat (first | (with_reducible first | exact HB.out | apply below_alloc | apply pw_below_drewN | apply below_drew1 | refine below_set ?_ GE326.out | refine below_set ?_ GE327.out | refine below_set ?_ GE373.out | refine below_set ?_ GE379.out | refine below_set ?_ GE384.out | refine below_set ?_ GE389.out | refine below_set ?_ GE394.out | refine below_set ?_ GE399.out) | exact HB.out)⟩⟩
      · replace c496 := Bool.eq_false_iff.mpr c496
        subst c496
        rw [if_neg (show ¬ (false = true) by decide)] at H
        have H' := Aside0.mk H
        clear H
        go_wp2
        repeat (go_quiet (fail); try go_wp2)
        go_meet
        case rel => exact ⟨_, H', ⟨by have := HJ15.out; have := HJ56.out; have := HJ140.out; first | omega | exact Nat.le_refl _⟩, ⟨by (with_reducible repeat (first | apply Kd.R_alloc | apply Kd.R_drewN | apply Kd.R_drew)); exact HO_40.out⟩, ⟨BK326.out⟩, ⟨BK327.out⟩, ⟨BK373.out⟩, ⟨BK379.out⟩, ⟨BK384.out⟩, ⟨BK389.out⟩, ⟨BK394.out⟩, ⟨BK399.out⟩, ⟨by repeat (first | (with_reducible first | exact HB.out | apply below_alloc | apply pw_below_drewN | apply below_drew1 | refine below_set ?_ GE326.out | refine below_set ?_ GE327.out | refine below_set ?_ GE373.out | refine below_set ?_ GE379.out | refine below_set ?_ GE384.out | refine below_set ?_ GE389.out | refine below_set ?_ GE394.out | refine below_set ?_ GE399.out) | exact HB.out)⟩⟩
    case rest =>
      obtain ⟨kq, HA, HJ494, HO_40, BK326, BK327, BK373, BK379, BK384, BK389, BK394, BK399, HB⟩ := hcut
      exact HK.out _ _ (rest24 k a0_0 a0_1 a0_2 a1 a2 a3_0 a3_1 a3_2 a4 a5 gb326 gb327 kj15 kj56 t360 t361 t368 t369 t370 t371 t372 t374 t375 t376 t380 t381 t382 t383 t385 t386 t387 t390 t391 t392 t393 t395 t396 t397 v362 gb373 gb379 gb384 gb389 gb394 gb399 x7 x8 x10 x11 x12 x13 x14 x15 x16 x17 x18 x19 x20 x21 x22 x23 x24 x25 x26 x27 x28 x29 x30 x31 x34 x35 x37 x38 x39 x42 x43 x48 x49 x53 x57 x58 x59 x60 x61 x62 x63 x64 x65 x66 x67 x68 x69 x70 x71 x72 x73 x74 x75 x76 x77 x78 x79 x80 x81 x82 x83 x84 x85 x86 x87 x88 x89 x90 x91 x92 x93 x94 x95 x96 x97 x98 x99 x100 x101 x102 x103 x104 x105 x106 x107 x108 x109 x110 x111 x112 x113 x114 x115 x116 x117 x118 x119 x120 x121 x122 x123 x124 x125 x126 x127 x128 x129 x130 x131 x132 x133 x134 x135 x136 x137 x138 x139 x140 x141 x142 x143 x144 x145 x146 x147 x148 x149 x150 x151 x152 x153 x154 x155 x156 x157 x158 x159 x160 x161 x162 x163 x164 x165 x166 x167 x168 x169 x170 x171 x172 x173 x174 x175 x176 x177 x178 x179 x180 x181 x182 x183 x184 x185 x186 x187 x188 x189 x190 x191 x192 x193 x194 x195 x196 x197 x198 x199 x200 x201 x202 x203 x204 x205 x206 x207 x208 x209 x210 x211 x212 x213 x214 x215 x216 x217 x218 x219 x220 x221 x222 x223 x224 x225 x226 x227 x228 x229 x230 x231 x232 x233 x234 x235 x236 x237 x238 x239 x240 x241 x242 x243 x244 x245 x246 x247 x248 x249 x250 x251 x252 x253 x254 x255 x256 x257 x258 x259 x260 x261 x262 x263 x264 x265 x266 x267 x268 x269 x270 x271 x272 x273 x274 x275 x276 x277 x278 x279 x280 x281 x282 x283 x284 x285 x286 x287 x288 x289 x290 x291 x292 x293 x294 x295 x296 x297 x298 x299 x300 x301 x302 x303 x304 x305 x306 x307 x308 x309 x310 x311 x312 x313 x314 x315 x316 x317 x318 x319 x320 x321 x322 x323 x324 x325 x326 x327 x328 x329 x330 x331 x332 x333 x334 x335 x336 x337 x338 x339 x340 x341 x342 x343 x344 x345 x346 x347 x348 x349 x350 x351 x352 x353 x354 x355 x356 x357 x358 x359 x360 x361 x362 x363 x364 x365 x366 x367 x368 x369 x370 x371 x372 x373 x374 x375 x376 x377 x378 x379 x380 x381 x382 x383 x384 x385 x386 x387 x388 x389 x390 x391 x392 x393 x394 x395 x396 x397 x398 x399 x400 x401 x402 x403 x404 x405 x406 x407 x408 x409 x410 x411 x412 x413 x414 x415 x416 x417 x418 x419 x420 x421 x422 x423 x424 x425 x426 x427 x428 x429 x430 x431 x432 x433 x434 x435 x436 x437 x438 x439 x440 x441 x442 x443 x444 x445 x446 x447 x448 x449 x450 x451 x452 x453 x454 x455 x456 x457 x458 x459 x460 x461 x462 x463 x464 x465 x466 x467 x468 x469 x470 x471 x472 x473 x474 x475 x476 x477 x478 x479 x480 x481 x482 x483 x484 x485 x486 x487 x488 x489 x490 x491 x492 x493 x494 x495 x496 x497 x498 x499 x500 x501 x502 x503 x504 x505 x506 x507 x508 x509 x510 x511 x512 x513 x514 x515 x516 x517 x518 x519 x520 x521 x522 x523 x524 x525 x526 x527 x528 x529 x530 x531 x532 x533 x534 x535 x536 x537 x538 x539 x540 x541 x542 x543 x544 x545 x546 x547 x548 x549 x550 x551 x552 x553 x554 x555 x556 x557 x558 x559 x560 x561 x562 x563 x564 x565 x566 x567 x568 x569 x570 x571 x572 x573 x574 x575 x576 x577 x578 x579 x580 x581 x582 x583 x584 x585 x586 x587 x588 x589 x590 x591 x592 x593 x594 x595 x596 x597 x598 x599 x600 x601 x602 x603 x604 x605 x606 x607 x608 x609 x610 x611 x612 x613 x614 x615 x616 x617 x618 x619 x620 x621 x622 x623 x624 x625 x626 x627 x628 x629 x630 x631 x632 x633 x634 x635 kj140 kq r w _ hr hR HA HJ494 HO_40 BK326 BK327 BK373 BK379 BK384 BK389 BK394 BK399 HB GW326 GE326 GW327 GE327 NB326_327 NB327_326 HJ15 HJ56 GW373 GE373 NB326_373 NB373_326 NB327_373 NB373_327 GW379 GE379 NB326_379 NB379_326 NB327_379 NB379_327 NB373_379 NB379_373 GW384 GE384 NB326_384 NB384_326 NB327_384 NB384_327 NB373_384 NB384_373 NB379_384 NB384_379 GW389 GE389 NB326_389 NB389_326 NB327_389 NB389_327 NB373_389 NB389_373 NB379_389 NB389_379 NB384_389 NB389_384 GW394 GE394 NB326_394 NB394_326 NB327_394 NB394_327 NB373_394 NB394_373 NB379_394 NB394_379 NB384_394 NB394_384 NB389_394 NB394_389 GW399 GE399 NB326_399 NB399_326 NB327_399 NB399_327 NB373_399 NB399_373 NB379_399 NB399_379 NB384_399 NB399_384 NB389_399 NB399_389 NB394_399 NB399_394 HJ140)
end Go.Proofs.YtkhhlnpiogfofaaDoor.LWLaw
