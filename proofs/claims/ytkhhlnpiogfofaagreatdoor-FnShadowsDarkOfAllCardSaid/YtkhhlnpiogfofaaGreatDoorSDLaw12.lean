/- The last part of the walk of the law FnShadowsDarkOfAll (hiding, whole shadows, texts). Conditions: the library's variables (Ready); the law as a plain function answers true (h, hr). Turned from the print program's text. -/
import Derived.Test.YtkhhlnpiogfofaaGreatDoorSDF
import Derived.Test.YtkhhlnpiogfofaaGreatDoorGiven
import Derived.Test.YtkhhlnpiogfofaaGreatDoorSD0
import Derived.Test.YtkhhlnpiogfofaaGreatDoorSD3
import Derived.Test.YtkhhlnpiogfofaaGreatDoorSD4
import Derived.Test.YtkhhlnpiogfofaaGreatDoorSD6
import Derived.Test.YtkhhlnpiogfofaaGreatDoorSD7
import Derived.Test.YtkhhlnpiogfofaaGreatDoorSD8
import Derived.Test.YtkhhlnpiogfofaaGreatDoorSD9
import Derived.Test.YtkhhlnpiogfofaaGreatDoorSD11
import Derived.Test.YtkhhlnpiogfofaaGreatDoorSD12
import Derived.Test.YtkhhlnpiogfofaaGreatDoorSD13
import Derived.Test.YtkhhlnpiogfofaaGreatDoorSD14
namespace Go.Proofs.YtkhhlnpiogfofaaGreatDoor.SDLaw
open Go.RowKit Go.Proofs.YtkhhlnpiogfofaaGreatDoorW.PrintWords Go.Proofs.YtkhhlnpiogfofaaGreatDoorW.PrintLast Go.Proofs.YtkhhlnpiogfofaaGreatDoorW.PrintMore Go.Proofs.YtkhhlnpiogfofaaGreatDoor.Given Go.Proofs.YtkhhlnpiogfofaaGreatDoor.TextC Go.Proofs.YtkhhlnpiogfofaaGreatDoor.PFnShadowsDarkOfAll
set_option linter.unusedVariables false
set_option linter.unusedSimpArgs false
set_option linter.unnecessarySimpa false
def dropC : Nat → Code → Code
 | 0, c => c
 | n + 1, .seq _ y => dropC n y
 | _ + 1, c => c
set_option maxHeartbeats 8000000 in
set_option maxRecDepth 100000 in
theorem rest12 (k : Nat) (a0 : Int) (A1 : Option Addr) (c1 : Nat) (l1 : List S24) (a2 : Int) (a3 : Int) (a4_0 : Int) (a4_1 : Int) (a5_0 : Int) (a5_1 : Int) (a6 : Int) (A7 : Option Addr) (c7 : Nat) (l7 : List S24) (a8 : ByteArray) (gb344 : Nat) (gb345 : Nat) (kj9 : Nat) (kj23 : Nat) (kq : Nat) (r : Bool) (w wc : World) {x9 x10 x11 x12 x15 x16 x17 x18 x19 x20 x21 x22 x23 x24 x25 x26 x27 x28 x29 x30 x31 x32 x33 x34 x35 x36 x37 x38 x39 x40 x41 x42 x43 x44 x45 x46 x47 x48 x49 x50 x51 x52 x53 x54 x55 x56 x57 x58 x59 x60 x61 x62 x63 x64 x65 x66 x67 x68 x69 x70 x71 x72 x73 x74 x75 x76 x77 x78 x79 x80 x81 x82 x83 x84 x85 x86 x87 x88 x89 x90 x91 x92 x93 x94 x95 x96 x97 x98 x99 x100 x101 x102 x103 x104 x105 x106 x107 x108 x109 x110 x111 x112 x113 x114 x115 x116 x117 x118 x119 x120 x121 x122 x123 x124 x125 x126 x127 x128 x129 x130 x131 x132 x133 x134 x135 x136 x137 x138 x139 x140 x141 x142 x143 x144 x145 x146 x147 x148 x149 x150 x151 x152 x153 x154 x155 x156 x157 x158 x159 x160 x161 x162 x163 x164 x165 x166 x167 x168 x169 x170 x171 x172 x173 x174 x175 x176 x177 x178 x179 x180 x181 x182 x183 x184 x185 x186 x187 x188 x189 x190 x191 x192 x193 x194 x195 x196 x197 x198 x199 x200 x201 x202 x203 x204 x205 x206 x207 x208 x209 x210 x211 x212 x213 x214 x215 x216 x217 x218 x219 x220 x221 x222 x223 x224 x225 x226 x227 x228 x229 x230 x231 x232 x233 x234 x235 x236 x237 x238 x239 x240 x241 x242 x243 x244 x245 x246 x247 x248 x249 x250 x251 x252 x253 x254 x255 x256 x257 x258 x259 x260 x261 x262 x263 x264 x265 x266 x267 x268 x269 x270 x271 x272 x273 x274 x275 x276 x277 x278 x279 x280 x281 x282 x283 x284 x285 x286 x287 x288 x289 x290 x291 x292 x293 x294 x295 x296 x297 x298 x299 x300 x301 x302 x303 x304 x305 x306 x307 x308 x309 x310 x311 x312 x313 x314 x315 x316 x317 x318 x319 x320 x321 x322 x323 x324 x325 x326 x327 x328 x329 x330 x331 x332 x333 x334 x335 x336 x337 x338 x339 x340 x341 x342 x343 x344 x345 x346 x347 x348 x349 x350 x351 x352 x353 x354 x355 x356 x357 x358 x359 x360 x361 x362 x363 x364 x365 x366 x367 x368 x369 x370 x371 x372 x373 x374 x375 x376 x377 x378 x379 x380 x381 x382 x383 x384 x385 x386 x387 x388 x389 x390 x391 x392 x393 x394 x395 x396 x397 x398 x399 x400 x401 x402 x403 x404 x405 x406 x407 x408 x409 x410 x411 x412 x413 x414 x415 x416 x417 x418 x419 x420 x421 x422 x423 x424 x425 x426 x427 x428 x429 x430 x431 x432 x433 x434 x435 x436 x437 x438 x439 x440 x441 x442 x443 x444 x445 x446 x447 x448 x449 x450 x451 x452 x453 x454 x455 x456 x457 x458 x459 x460 x461 x462 x463 x464 x465 x466 x467 x468 x469 x470 x471 x472 x473 x474 x475 x476 x477 x478 x479 x480 x481 x482 x483 x484 x485 x486 x487 x488 x489 x490 x491 x492 x493 x494 x495 x496 x497 x498 x499 x500 x501 x502 x503 x504 x505 x506 x507 x508 x509 x510 x511 x512 x513 x514 x515 x516 x517 x518 x519 x520 x521 x522 x523 x524 x525 x526 x527 x528 x529 x530 x531 x532 x533 x534 x535 x536 x537 x538 x539 x540 x541 x542 x543 x544 x545 x546 x547 x548 x549 x550 x551 : Value} (hr : r = true) (hR : Aside0 (Ready w))
  (HA : Aside0 (laws_FnShadowsDarkOfAll.j10 kq a3 a6 l7 a8 a4_0 a4_1 a5_0 a5_1 = some r))
  (HJ120 : Aside0 (kq ≤ kj23))
  (BK344 : Aside0 (wc.heap[gb344]? = some (.cells #[.int .i64 a4_0, .int .i64 a4_1] 24 (0, 0))))
  (BK345 : Aside0 (wc.heap[gb345]? = some (.cells #[.int .i64 a5_0, .int .i64 a5_1] 24 (0, 0))))
  (HB : Aside0 (Below w.heap.size w wc))
  (HR1 : Aside0 (k24.C w A1 l1.length l1))
  (HC1 : Aside0 (l1.length ≤ c1))
  (HR7 : Aside0 (k24.C w A7 l7.length l7))
  (HC7 : Aside0 (l7.length ≤ c7))
  (GW344 : Aside0 (w.heap.size ≤ gb344))
  (GE344 : Aside0 (w.heap.size ≤ gb344))
  (GW345 : Aside0 (w.heap.size ≤ gb345))
  (GE345 : Aside0 (w.heap.size ≤ gb345))
  (NB344_345 : Aside0 (gb344 ≠ gb345))
  (NB345_344 : Aside0 (gb345 ≠ gb344))
  (HJ9 : Aside0 (kj9 + 1 ≤ k))
  (HJ23 : Aside0 (kj23 + 1 ≤ kj9)) :
  (dropC 12 (Tryz.f3.body.getD Code.skip)).wp Tryz.prog (bodyPost Tryz.prog Tryz.f3 fun e w' => e = .returned (.bool r) ∧ Below w.heap.size w w') (Act.mk (List.toArray ((Value.int IntKind.i64 a0) :: (Value.slice A1 l1.length c1) :: (Value.int IntKind.i64 a2) :: (Value.int IntKind.i64 a3) :: (Value.agg #[Value.int IntKind.i64 a4_0, Value.int IntKind.i64 a4_1]) :: (Value.agg #[Value.int IntKind.i64 a5_0, Value.int IntKind.i64 a5_1]) :: (Value.int IntKind.i64 a6) :: (Value.slice A7 l7.length c7) :: (Value.string a8) :: x9 :: x10 :: x11 :: x12 :: (Value.pointer (some ⟨gb344, 0, none⟩)) :: (Value.pointer (some ⟨gb345, 0, none⟩)) :: x15 :: x16 :: x17 :: x18 :: x19 :: x20 :: x21 :: x22 :: x23 :: x24 :: x25 :: x26 :: x27 :: x28 :: x29 :: x30 :: x31 :: x32 :: x33 :: x34 :: x35 :: x36 :: x37 :: x38 :: x39 :: x40 :: x41 :: x42 :: x43 :: x44 :: x45 :: x46 :: x47 :: x48 :: x49 :: x50 :: x51 :: x52 :: x53 :: x54 :: x55 :: x56 :: x57 :: x58 :: x59 :: x60 :: x61 :: x62 :: x63 :: x64 :: x65 :: x66 :: x67 :: x68 :: x69 :: x70 :: x71 :: x72 :: x73 :: x74 :: x75 :: x76 :: x77 :: x78 :: x79 :: x80 :: x81 :: x82 :: x83 :: x84 :: x85 :: x86 :: x87 :: x88 :: x89 :: x90 :: x91 :: x92 :: x93 :: x94 :: x95 :: x96 :: x97 :: x98 :: x99 :: x100 :: x101 :: x102 :: x103 :: x104 :: x105 :: x106 :: x107 :: x108 :: x109 :: x110 :: x111 :: x112 :: x113 :: x114 :: x115 :: x116 :: x117 :: x118 :: x119 :: x120 :: x121 :: x122 :: x123 :: x124 :: x125 :: x126 :: x127 :: x128 :: x129 :: x130 :: x131 :: x132 :: x133 :: x134 :: x135 :: x136 :: x137 :: x138 :: x139 :: x140 :: x141 :: x142 :: x143 :: x144 :: x145 :: x146 :: x147 :: x148 :: x149 :: x150 :: x151 :: x152 :: x153 :: x154 :: x155 :: x156 :: x157 :: x158 :: x159 :: x160 :: x161 :: x162 :: x163 :: x164 :: x165 :: x166 :: x167 :: x168 :: x169 :: x170 :: x171 :: x172 :: x173 :: x174 :: x175 :: x176 :: x177 :: x178 :: x179 :: x180 :: x181 :: x182 :: x183 :: x184 :: x185 :: x186 :: x187 :: x188 :: x189 :: x190 :: x191 :: x192 :: x193 :: x194 :: x195 :: x196 :: x197 :: x198 :: x199 :: x200 :: x201 :: x202 :: x203 :: x204 :: x205 :: x206 :: x207 :: x208 :: x209 :: x210 :: x211 :: x212 :: x213 :: x214 :: x215 :: x216 :: x217 :: x218 :: x219 :: x220 :: x221 :: x222 :: x223 :: x224 :: x225 :: x226 :: x227 :: x228 :: x229 :: x230 :: x231 :: x232 :: x233 :: x234 :: x235 :: x236 :: x237 :: x238 :: x239 :: x240 :: x241 :: x242 :: x243 :: x244 :: x245 :: x246 :: x247 :: x248 :: x249 :: x250 :: x251 :: x252 :: x253 :: x254 :: x255 :: x256 :: x257 :: x258 :: x259 :: x260 :: x261 :: x262 :: x263 :: x264 :: x265 :: x266 :: x267 :: x268 :: x269 :: x270 :: x271 :: x272 :: x273 :: x274 :: x275 :: x276 :: x277 :: x278 :: x279 :: x280 :: x281 :: x282 :: x283 :: x284 :: x285 :: x286 :: x287 :: x288 :: x289 :: x290 :: x291 :: x292 :: x293 :: x294 :: x295 :: x296 :: x297 :: x298 :: x299 :: x300 :: x301 :: x302 :: x303 :: x304 :: x305 :: x306 :: x307 :: x308 :: x309 :: x310 :: x311 :: x312 :: x313 :: x314 :: x315 :: x316 :: x317 :: x318 :: x319 :: x320 :: x321 :: x322 :: x323 :: x324 :: x325 :: x326 :: x327 :: x328 :: x329 :: x330 :: x331 :: x332 :: x333 :: x334 :: x335 :: x336 :: x337 :: x338 :: x339 :: x340 :: x341 :: x342 :: x343 :: x344 :: x345 :: x346 :: x347 :: x348 :: x349 :: x350 :: x351 :: x352 :: x353 :: x354 :: x355 :: x356 :: x357 :: x358 :: x359 :: x360 :: x361 :: x362 :: x363 :: x364 :: x365 :: x366 :: x367 :: x368 :: x369 :: x370 :: x371 :: x372 :: x373 :: x374 :: x375 :: x376 :: x377 :: x378 :: x379 :: x380 :: x381 :: x382 :: x383 :: x384 :: x385 :: x386 :: x387 :: x388 :: x389 :: x390 :: x391 :: x392 :: x393 :: x394 :: x395 :: x396 :: x397 :: x398 :: x399 :: x400 :: x401 :: x402 :: x403 :: x404 :: x405 :: x406 :: x407 :: x408 :: x409 :: x410 :: x411 :: x412 :: x413 :: x414 :: x415 :: x416 :: x417 :: x418 :: x419 :: x420 :: x421 :: x422 :: x423 :: x424 :: x425 :: x426 :: x427 :: x428 :: x429 :: x430 :: x431 :: x432 :: x433 :: x434 :: x435 :: x436 :: x437 :: x438 :: x439 :: x440 :: x441 :: x442 :: x443 :: x444 :: x445 :: x446 :: x447 :: x448 :: x449 :: x450 :: x451 :: x452 :: x453 :: x454 :: x455 :: x456 :: x457 :: x458 :: x459 :: x460 :: x461 :: x462 :: x463 :: x464 :: x465 :: x466 :: x467 :: x468 :: x469 :: x470 :: x471 :: x472 :: x473 :: x474 :: x475 :: x476 :: x477 :: x478 :: x479 :: x480 :: x481 :: x482 :: x483 :: x484 :: x485 :: x486 :: x487 :: x488 :: x489 :: x490 :: x491 :: x492 :: x493 :: x494 :: x495 :: x496 :: x497 :: x498 :: x499 :: x500 :: x501 :: x502 :: x503 :: x504 :: x505 :: x506 :: x507 :: x508 :: x509 :: x510 :: x511 :: x512 :: x513 :: x514 :: x515 :: x516 :: x517 :: x518 :: x519 :: x520 :: x521 :: x522 :: x523 :: x524 :: x525 :: x526 :: x527 :: x528 :: x529 :: x530 :: x531 :: x532 :: x533 :: x534 :: x535 :: x536 :: x537 :: x538 :: x539 :: x540 :: x541 :: x542 :: x543 :: x544 :: x545 :: x546 :: x547 :: x548 :: x549 :: x550 :: x551 :: [])) []) wc := by
 have hu24 := Tryz.underlying24
 change Code.wp _ (Code.seq _ _) _ _ _
 (try simp only [List.append_eq, List.cons_append, List.nil_append])
 cases kq with
 | zero => exact absurd HA.out (by simp [laws_FnShadowsDarkOfAll.j10])
 | succ kj120 =>
  have H := HA.out
  clear HA
  simp only [laws_FnShadowsDarkOfAll.j10] at H
  replace H := Option.bind_eq_some_iff.mp H
  obtain ⟨⟨t407, t408⟩, A2390, H⟩ := H
  try dsimp only at H
  have A239 := Aside0.mk A2390
  clear A2390
  replace H := Option.bind_eq_some_iff.mp H
  obtain ⟨⟨t409, t410⟩, A2400, H⟩ := H
  try dsimp only at H
  have A240 := Aside0.mk A2400
  clear A2400
  replace H := Option.bind_eq_some_iff.mp H
  obtain ⟨⟨t411, t412⟩, A2410, H⟩ := H
  try dsimp only at H
  have A241 := Aside0.mk A2410
  clear A2410
  replace H := Option.bind_eq_some_iff.mp H
  obtain ⟨⟨t415, t416⟩, A2420, H⟩ := H
  try dsimp only at H
  have A242 := Aside0.mk A2420
  clear A2420
  replace H := Option.bind_eq_some_iff.mp H
  obtain ⟨⟨t419, t420⟩, A2430, H⟩ := H
  try dsimp only at H
  have A243 := Aside0.mk A2430
  clear A2430
  replace H := Option.bind_eq_some_iff.mp H
  obtain ⟨⟨t421, t422⟩, A2440, H⟩ := H
  try dsimp only at H
  have A244 := Aside0.mk A2440
  clear A2440
  replace H := Option.bind_eq_some_iff.mp H
  obtain ⟨⟨t423, t424⟩, A2450, H⟩ := H
  try dsimp only at H
  have A245 := Aside0.mk A2450
  clear A2450
  replace H := Option.bind_eq_some_iff.mp H
  obtain ⟨⟨t427, t428⟩, A2460, H⟩ := H
  try dsimp only at H
  have A246 := Aside0.mk A2460
  clear A2460
  have HC247 := Aside0.mk H
  clear H
  have hnb248 := NB344_345.out
  have hnc248 := NB345_344.out
  have hcz249_0 : wc.cell? ⟨gb344, 0, none⟩ = some (.int .i64 a4_0) := (blk_cell BK344.out 0).trans rfl
  have hcz249_1 : wc.cell? ⟨gb344, 1, none⟩ = some (.int .i64 a4_1) := (blk_cell BK344.out 1).trans rfl
  have hfz249_0 := blk_frozen BK344.out 0
  have hfz249_1 := blk_frozen BK344.out 1
  have hcz250_0 : wc.cell? ⟨gb345, 0, none⟩ = some (.int .i64 a5_0) := (blk_cell BK345.out 0).trans rfl
  have hcz250_1 : wc.cell? ⟨gb345, 1, none⟩ = some (.int .i64 a5_1) := (blk_cell BK345.out 1).trans rfl
  have hfz250_0 := blk_frozen BK345.out 0
  have hfz250_1 := blk_frozen BK345.out 1
  go_upto_region 65 with (first | ((with_reducible refine gate_callee (f := 19) rfl ?_); refine goesL_ (some 403) rfl rfl Tryz.func19 (by kernel_rfl) rfl #[.int .i64 a3, .agg #[.int .i64 a4_0, .int .i64 a4_1], .agg #[.int .i64 a5_0, .int .i64 a5_1]] rfl (by (try simp only [List.map_toArray, List.map_cons, List.map_nil]); first | done | rfl) ?_; (with_reducible refine (impl_IsHidden.calls a3 a4_0 a4_1 a5_0 a5_1 t407 t408 _ A239.out).mono ?_); rintro e w251 ⟨rfl, hb⟩; refine ⟨_, rfl, ?_⟩; have n0_ := Aside0.mk (blk_below (g := gb344) (o := .cells #[.int .i64 a4_0, .int .i64 a4_1] 24 (0, 0)) (by (with_reducible repeat (first | refine blk_drewN ?_ _ | refine blk_drew ?_ | refine blk_alloc ?_ _)); exact BK344.out) hb); have n1_ := Aside0.mk (blk_below (g := gb345) (o := .cells #[.int .i64 a5_0, .int .i64 a5_1] 24 (0, 0)) (by (with_reducible repeat (first | refine blk_drewN ?_ _ | refine blk_drew ?_ | refine blk_alloc ?_ _)); exact BK345.out) hb); have n2_ := Aside0.mk (below_step (by repeat (first | (with_reducible first | exact HB.out | apply below_alloc | apply pw_below_drewN | apply below_drew1 | refine below_set ?_ GE344.out | refine below_set ?_ GE345.out) | exact HB.out)) hb); clear BK344; clear BK345; clear HB; have BK344 := n0_; have BK345 := n1_; have HB := n2_; clear n0_ n1_ n2_; (try clear hb); (try clear hb2); (try clear hk); (try clear hi); have hcz252_0 : w251.cell? ⟨gb344, 0, none⟩ = some (.int .i64 a4_0) := (blk_cell BK344.out 0).trans rfl; have hcz252_1 : w251.cell? ⟨gb344, 1, none⟩ = some (.int .i64 a4_1) := (blk_cell BK344.out 1).trans rfl; have hfz252_0 := blk_frozen BK344.out 0; have hfz252_1 := blk_frozen BK344.out 1; have hcz253_0 : w251.cell? ⟨gb345, 0, none⟩ = some (.int .i64 a5_0) := (blk_cell BK345.out 0).trans rfl; have hcz253_1 : w251.cell? ⟨gb345, 1, none⟩ = some (.int .i64 a5_1) := (blk_cell BK345.out 1).trans rfl; have hfz253_0 := blk_frozen BK345.out 0; have hfz253_1 := blk_frozen BK345.out 1) | ((with_reducible refine gate_callee (f := 20) rfl ?_); refine goesL_ (some 410) rfl rfl Tryz.func20 (by kernel_rfl) rfl #[.int .i64 a3, .agg #[.int .i64 a4_0, .int .i64 a4_1], .agg #[.int .i64 a5_0, .int .i64 a5_1]] rfl (by (try simp only [List.map_toArray, List.map_cons, List.map_nil]); first | done | rfl) ?_; (with_reducible refine (spec_IsHidden.calls kj120 a3 a4_0 a4_1 a5_0 a5_1 t409 t410 _ A240.out).mono ?_); rintro e w254 ⟨rfl, hb⟩; refine ⟨_, rfl, ?_⟩; have n0_ := Aside0.mk (blk_below (g := gb344) (o := .cells #[.int .i64 a4_0, .int .i64 a4_1] 24 (0, 0)) (by (with_reducible repeat (first | refine blk_drewN ?_ _ | refine blk_drew ?_ | refine blk_alloc ?_ _)); exact BK344.out) hb); have n1_ := Aside0.mk (blk_below (g := gb345) (o := .cells #[.int .i64 a5_0, .int .i64 a5_1] 24 (0, 0)) (by (with_reducible repeat (first | refine blk_drewN ?_ _ | refine blk_drew ?_ | refine blk_alloc ?_ _)); exact BK345.out) hb); have n2_ := Aside0.mk (below_step (by repeat (first | (with_reducible first | exact HB.out | apply below_alloc | apply pw_below_drewN | apply below_drew1 | refine below_set ?_ GE344.out | refine below_set ?_ GE345.out) | exact HB.out)) hb); clear BK344; clear BK345; clear HB; have BK344 := n0_; have BK345 := n1_; have HB := n2_; clear n0_ n1_ n2_; (try clear hb); (try clear hb2); (try clear hk); (try clear hi)) | ((with_reducible refine gate_callee (f := 21) rfl ?_); refine goesL_ (some 415) rfl rfl Tryz.func21 (by kernel_rfl) rfl #[.int .i64 a6] rfl (by (try simp only [List.map_toArray, List.map_cons, List.map_nil]); first | done | rfl) ?_; (with_reducible refine (impl_WholeShadows.calls kj120 a6 t411 t412 _ A241.out).mono ?_); rintro e w255 ⟨v413, rfl, ho0, hb⟩; refine ⟨_, rfl, ?_⟩; have n0_ := Aside0.mk (Kd.S_lower ho0 (below_size (by repeat (first | (with_reducible first | exact HB.out | apply below_alloc | apply pw_below_drewN | apply below_drew1 | refine below_set ?_ GE344.out | refine below_set ?_ GE345.out) | exact HB.out)))); have n1_ := Aside0.mk (blk_below (g := gb344) (o := .cells #[.int .i64 a4_0, .int .i64 a4_1] 24 (0, 0)) (by (with_reducible repeat (first | refine blk_drewN ?_ _ | refine blk_drew ?_ | refine blk_alloc ?_ _)); exact BK344.out) hb); have n2_ := Aside0.mk (blk_below (g := gb345) (o := .cells #[.int .i64 a5_0, .int .i64 a5_1] 24 (0, 0)) (by (with_reducible repeat (first | refine blk_drewN ?_ _ | refine blk_drew ?_ | refine blk_alloc ?_ _)); exact BK345.out) hb); have n3_ := Aside0.mk (below_step (by repeat (first | (with_reducible first | exact HB.out | apply below_alloc | apply pw_below_drewN | apply below_drew1 | refine below_set ?_ GE344.out | refine below_set ?_ GE345.out) | exact HB.out)) hb); clear BK344; clear BK345; clear HB; have HO414 := n0_; have BK344 := n1_; have BK345 := n2_; have HB := n3_; clear n0_ n1_ n2_ n3_; (try clear hb); (try clear hb2); (try clear hk); (try clear hi); (try clear ho0)) | ((with_reducible refine gate_callee (f := 22) rfl ?_); refine goesL_ (some 420) rfl rfl Tryz.func22 (by kernel_rfl) rfl #[.int .i64 a6] rfl (by (try simp only [List.map_toArray, List.map_cons, List.map_nil]); first | done | rfl) ?_; (with_reducible refine (spec_WholeShadows.calls kj120 a6 t415 t416 _ A242.out).mono ?_); rintro e w256 ⟨v417, rfl, ho0, hb⟩; refine ⟨_, rfl, ?_⟩; have n0_ := Aside0.mk (Kd.S_elder' (by (with_reducible repeat (first | apply Kd.S_alloc | apply Kd.S_drewN | apply Kd.S_drew)); exact HO414.out) (Kd.S_base ho0) hb); have n1_ := Aside0.mk (Kd.S_lower (Kd.S_new' ho0 (Kd.S_lt (by (with_reducible repeat (first | apply Kd.S_alloc | apply Kd.S_drewN | apply Kd.S_drew)); exact HO414.out))) (below_size (by repeat (first | (with_reducible first | exact HB.out | apply below_alloc | apply pw_below_drewN | apply below_drew1 | refine below_set ?_ GE344.out | refine below_set ?_ GE345.out) | exact HB.out)))); have n2_ := Aside0.mk (blk_below (g := gb344) (o := .cells #[.int .i64 a4_0, .int .i64 a4_1] 24 (0, 0)) (by (with_reducible repeat (first | refine blk_drewN ?_ _ | refine blk_drew ?_ | refine blk_alloc ?_ _)); exact BK344.out) hb); have n3_ := Aside0.mk (blk_below (g := gb345) (o := .cells #[.int .i64 a5_0, .int .i64 a5_1] 24 (0, 0)) (by (with_reducible repeat (first | refine blk_drewN ?_ _ | refine blk_drew ?_ | refine blk_alloc ?_ _)); exact BK345.out) hb); have n4_ := Aside0.mk (below_step (by repeat (first | (with_reducible first | exact HB.out | apply below_alloc | apply pw_below_drewN | apply below_drew1 | refine below_set ?_ GE344.out | refine below_set ?_ GE345.out) | exact HB.out)) hb); clear HO414; clear BK344; clear BK345; clear HB; have HO414 := n0_; have HO418 := n1_; have BK344 := n2_; have BK345 := n3_; have HB := n4_; clear n0_ n1_ n2_ n3_ n4_; (try clear hb); (try clear hb2); (try clear hk); (try clear hi); (try clear ho0)) | ((with_reducible refine gate_callee (f := 23) rfl ?_); refine goesL_ (some 425) rfl rfl Tryz.func23 (by kernel_rfl) rfl #[.slice A7 l7.length c7] rfl (by (try simp only [List.map_toArray, List.map_cons, List.map_nil]); first | done | rfl) ?_; (with_reducible refine (impl_PolesText.calls kj120 _ _ l7 t419 t420 _ ?side1 ?side2 A243.out (rdy hR (by repeat (first | (with_reducible first | exact HB.out | apply below_alloc | apply pw_below_drewN | apply below_drew1) | refine below_set ?_ (Aside0.out (by assumption)) | exact HB.out | exact Below.refl _ _)))).mono ?_); (case side1 => repeat (first | exact (Kd.C_below HR7.out HB.out) | (with_reducible refine Kd.C_alloc ?_ _) | (with_reducible refine Kd.C_drewN ?_ _) | (with_reducible refine Kd.C_drew ?_))); (case side2 => exact HC7.out); rintro e w257 ⟨rfl, hb⟩; refine ⟨_, rfl, ?_⟩; have n0_ := Aside0.mk (Kd.S_below (by (with_reducible repeat (first | apply Kd.S_alloc | apply Kd.S_drewN | apply Kd.S_drew)); exact HO414.out) hb); have n1_ := Aside0.mk (Kd.S_below (by (with_reducible repeat (first | apply Kd.S_alloc | apply Kd.S_drewN | apply Kd.S_drew)); exact HO418.out) hb); have n2_ := Aside0.mk (blk_below (g := gb344) (o := .cells #[.int .i64 a4_0, .int .i64 a4_1] 24 (0, 0)) (by (with_reducible repeat (first | refine blk_drewN ?_ _ | refine blk_drew ?_ | refine blk_alloc ?_ _)); exact BK344.out) hb); have n3_ := Aside0.mk (blk_below (g := gb345) (o := .cells #[.int .i64 a5_0, .int .i64 a5_1] 24 (0, 0)) (by (with_reducible repeat (first | refine blk_drewN ?_ _ | refine blk_drew ?_ | refine blk_alloc ?_ _)); exact BK345.out) hb); have n4_ := Aside0.mk (below_step (by repeat (first | (with_reducible first | exact HB.out | apply below_alloc | apply pw_below_drewN | apply below_drew1 | refine below_set ?_ GE344.out | refine below_set ?_ GE345.out) | exact HB.out)) hb); clear HO414; clear HO418; clear BK344; clear BK345; clear HB; have HO414 := n0_; have HO418 := n1_; have BK344 := n2_; have BK345 := n3_; have HB := n4_; clear n0_ n1_ n2_ n3_ n4_; (try clear hb); (try clear hb2); (try clear hk); (try clear hi)) | ((with_reducible refine gate_callee (f := 24) rfl ?_); refine goesL_ (some 430) rfl rfl Tryz.func24 (by kernel_rfl) rfl #[.slice A7 l7.length c7] rfl (by (try simp only [List.map_toArray, List.map_cons, List.map_nil]); first | done | rfl) ?_; (with_reducible refine (spec_PolesText.calls kj120 _ _ l7 t421 t422 _ ?side1 ?side2 A244.out).mono ?_); (case side1 => repeat (first | exact (Kd.C_below HR7.out HB.out) | (with_reducible refine Kd.C_alloc ?_ _) | (with_reducible refine Kd.C_drewN ?_ _) | (with_reducible refine Kd.C_drew ?_))); (case side2 => exact HC7.out); rintro e w258 ⟨rfl, hb⟩; refine ⟨_, rfl, ?_⟩; have n0_ := Aside0.mk (Kd.S_below (by (with_reducible repeat (first | apply Kd.S_alloc | apply Kd.S_drewN | apply Kd.S_drew)); exact HO414.out) hb); have n1_ := Aside0.mk (Kd.S_below (by (with_reducible repeat (first | apply Kd.S_alloc | apply Kd.S_drewN | apply Kd.S_drew)); exact HO418.out) hb); have n2_ := Aside0.mk (blk_below (g := gb344) (o := .cells #[.int .i64 a4_0, .int .i64 a4_1] 24 (0, 0)) (by (with_reducible repeat (first | refine blk_drewN ?_ _ | refine blk_drew ?_ | refine blk_alloc ?_ _)); exact BK344.out) hb); have n3_ := Aside0.mk (blk_below (g := gb345) (o := .cells #[.int .i64 a5_0, .int .i64 a5_1] 24 (0, 0)) (by (with_reducible repeat (first | refine blk_drewN ?_ _ | refine blk_drew ?_ | refine blk_alloc ?_ _)); exact BK345.out) hb); have n4_ := Aside0.mk (below_step (by repeat (first | (with_reducible first | exact HB.out | apply below_alloc | apply pw_below_drewN | apply below_drew1 | refine below_set ?_ GE344.out | refine below_set ?_ GE345.out) | exact HB.out)) hb); clear HO414; clear HO418; clear BK344; clear BK345; clear HB; have HO414 := n0_; have HO418 := n1_; have BK344 := n2_; have BK345 := n3_; have HB := n4_; clear n0_ n1_ n2_ n3_ n4_; (try clear hb); (try clear hb2); (try clear hk); (try clear hi)) | ((with_reducible refine gate_callee (f := 25) rfl ?_); refine goesL_ (some 435) rfl rfl Tryz.func25 (by kernel_rfl) rfl #[.string a8] rfl (by (try simp only [List.map_toArray, List.map_cons, List.map_nil]); first | done | rfl) ?_; (with_reducible refine (impl_ParsePoles.calls kj120 a8 t423 t424 _ A245.out (rdy hR (by repeat (first | (with_reducible first | exact HB.out | apply below_alloc | apply pw_below_drewN | apply below_drew1) | refine below_set ?_ (Aside0.out (by assumption)) | exact HB.out | exact Below.refl _ _)))).mono ?_); rintro e w259 ⟨v425, rfl, ho0, hb⟩; refine ⟨_, rfl, ?_⟩; have n0_ := Aside0.mk (Kd.S_below (by (with_reducible repeat (first | apply Kd.S_alloc | apply Kd.S_drewN | apply Kd.S_drew)); exact HO414.out) hb); have n1_ := Aside0.mk (Kd.S_below (by (with_reducible repeat (first | apply Kd.S_alloc | apply Kd.S_drewN | apply Kd.S_drew)); exact HO418.out) hb); have n2_ := Aside0.mk (Kd.R_lower (Kd.R_newB (Kd.R_newB ho0 (g := gb344) (o := .cells #[.int .i64 a4_0, .int .i64 a4_1] 24 (0, 0)) (by (with_reducible repeat (first | refine blk_drewN ?_ _ | refine blk_drew ?_ | refine blk_alloc ?_ _)); exact BK344.out)) (g := gb345) (o := .cells #[.int .i64 a5_0, .int .i64 a5_1] 24 (0, 0)) (by (with_reducible repeat (first | refine blk_drewN ?_ _ | refine blk_drew ?_ | refine blk_alloc ?_ _)); exact BK345.out)) (below_size (by repeat (first | (with_reducible first | exact HB.out | apply below_alloc | apply pw_below_drewN | apply below_drew1 | refine below_set ?_ GE344.out | refine below_set ?_ GE345.out) | exact HB.out)))); have n3_ := Aside0.mk (blk_below (g := gb344) (o := .cells #[.int .i64 a4_0, .int .i64 a4_1] 24 (0, 0)) (by (with_reducible repeat (first | refine blk_drewN ?_ _ | refine blk_drew ?_ | refine blk_alloc ?_ _)); exact BK344.out) hb); have n4_ := Aside0.mk (blk_below (g := gb345) (o := .cells #[.int .i64 a5_0, .int .i64 a5_1] 24 (0, 0)) (by (with_reducible repeat (first | refine blk_drewN ?_ _ | refine blk_drew ?_ | refine blk_alloc ?_ _)); exact BK345.out) hb); have n5_ := Aside0.mk (below_step (by repeat (first | (with_reducible first | exact HB.out | apply below_alloc | apply pw_below_drewN | apply below_drew1 | refine below_set ?_ GE344.out | refine below_set ?_ GE345.out) | exact HB.out)) hb); clear HO414; clear HO418; clear BK344; clear BK345; clear HB; have HO414 := n0_; have HO418 := n1_; have HO426 := n2_; have BK344 := n3_; have BK345 := n4_; have HB := n5_; clear n0_ n1_ n2_ n3_ n4_ n5_; (try clear hb); (try clear hb2); (try clear hk); (try clear hi); (try clear ho0)) | ((with_reducible refine gate_callee (f := 26) rfl ?_); refine goesL_ (some 440) rfl rfl Tryz.func26 (by kernel_rfl) rfl #[.string a8] rfl (by (try simp only [List.map_toArray, List.map_cons, List.map_nil]); first | done | rfl) ?_; (with_reducible refine (spec_ParsePoles.calls kj120 a8 t427 t428 _ A246.out).mono ?_); rintro e w260 ⟨v429, rfl, ho0, hb⟩; refine ⟨_, rfl, ?_⟩; have n0_ := Aside0.mk (Kd.S_below (by (with_reducible repeat (first | apply Kd.S_alloc | apply Kd.S_drewN | apply Kd.S_drew)); exact HO414.out) hb); have n1_ := Aside0.mk (Kd.S_below (by (with_reducible repeat (first | apply Kd.S_alloc | apply Kd.S_drewN | apply Kd.S_drew)); exact HO418.out) hb); have n2_ := Aside0.mk (Kd.R_elder' (by (with_reducible repeat (first | apply Kd.R_alloc | apply Kd.R_drewN | apply Kd.R_drew)); exact HO426.out) (Kd.R_base ho0) hb); have n3_ := Aside0.mk (Kd.R_lower (Kd.R_newB (Kd.R_newB (Kd.R_new' ho0 (Kd.R_lt (by (with_reducible repeat (first | apply Kd.R_alloc | apply Kd.R_drewN | apply Kd.R_drew)); exact HO426.out))) (g := gb344) (o := .cells #[.int .i64 a4_0, .int .i64 a4_1] 24 (0, 0)) (by (with_reducible repeat (first | refine blk_drewN ?_ _ | refine blk_drew ?_ | refine blk_alloc ?_ _)); exact BK344.out)) (g := gb345) (o := .cells #[.int .i64 a5_0, .int .i64 a5_1] 24 (0, 0)) (by (with_reducible repeat (first | refine blk_drewN ?_ _ | refine blk_drew ?_ | refine blk_alloc ?_ _)); exact BK345.out)) (below_size (by repeat (first | (with_reducible first | exact HB.out | apply below_alloc | apply pw_below_drewN | apply below_drew1 | refine below_set ?_ GE344.out | refine below_set ?_ GE345.out) | exact HB.out)))); have n4_ := Aside0.mk (blk_below (g := gb344) (o := .cells #[.int .i64 a4_0, .int .i64 a4_1] 24 (0, 0)) (by (with_reducible repeat (first | refine blk_drewN ?_ _ | refine blk_drew ?_ | refine blk_alloc ?_ _)); exact BK344.out) hb); have n5_ := Aside0.mk (blk_below (g := gb345) (o := .cells #[.int .i64 a5_0, .int .i64 a5_1] 24 (0, 0)) (by (with_reducible repeat (first | refine blk_drewN ?_ _ | refine blk_drew ?_ | refine blk_alloc ?_ _)); exact BK345.out) hb); have n6_ := Aside0.mk (below_step (by repeat (first | (with_reducible first | exact HB.out | apply below_alloc | apply pw_below_drewN | apply below_drew1 | refine below_set ?_ GE344.out | refine below_set ?_ GE345.out) | exact HB.out)) hb); clear HO414; clear HO418; clear HO426; clear BK344; clear BK345; clear HB; have HO414 := n0_; have HO418 := n1_; have HO426 := n2_; have HO430 := n3_; have BK344 := n4_; have BK345 := n5_; have HB := n6_; clear n0_ n1_ n2_ n3_ n4_ n5_ n6_; (try clear hb); (try clear hb2); (try clear hk); (try clear hi); (try clear ho0)))
  (try simp only [Act.put, List.setIfInBounds_toArray, List.set_cons_zero, List.set_cons_succ])
  go_cut [482] from 482 to 482 (fun v482 wc => ∃ (kq : Nat) (x482_246 : Bool), v482 = .bool x482_246 ∧ Aside0 (laws_FnShadowsDarkOfAll.j11 kq a6 l7 a8 t411 t419 t420 t423 t424 x482_246 = some r) ∧ Aside0 (kq ≤ kj120) ∧ Aside0 (Kd.S (Kd.slice 3 (Kd.int .i64)) 25 wc w.heap.size (fun _ => True) v413 t411) ∧ Aside0 (Kd.R k24 24 wc w.heap.size (fun k_ => k_ ≠ gb344 ∧ k_ ≠ gb345) v425 t423) ∧ Aside0 (wc.heap[gb344]? = some (.cells #[.int .i64 a4_0, .int .i64 a4_1] 24 (0, 0))) ∧ Aside0 (wc.heap[gb345]? = some (.cells #[.int .i64 a5_0, .int .i64 a5_1] 24 (0, 0))) ∧ Aside0 (Below w.heap.size w wc))
  case first =>
   have H := HC247.out
   clear HC247
   have c261 : ¬ ((t408 != t410) = true) := fun c261 => by rw [if_pos c261] at H; (with_reducible first | exact dS H hr | exact d1 H hr | exact d2 H hr | exact d4 H hr | exact d11 H hr | exact d14 H hr | cases H)
   rw [if_neg c261] at H
   have c261b0 : (t408 != t410) = false := by simpa using c261
   (try (have c261b1 : decide (t408 = t410) = true := by simpa using c261))
   (try (have c261b2 : (t408 == t410) = true := by simpa using c261))
   clear c261
   (first | rw [c261b0] | (simp only [i64_w, i32_w]; rw [c261b0]) | skip)
   have c262 : ¬ ((t407 != t409) = true) := fun c262 => by rw [if_pos c262] at H; (with_reducible first | exact dS H hr | exact d1 H hr | exact d2 H hr | exact d4 H hr | exact d11 H hr | exact d14 H hr | cases H)
   rw [if_neg c262] at H
   have c262b0 : (t407 != t409) = false := by simpa using c262
   (try (have c262b1 : decide (t407 = t409) = true := by simpa using c262))
   (try (have c262b2 : (t407 == t409) = true := by simpa using c262))
   clear c262
   have c263 : ¬ ((t412 != t416) = true) := fun c263 => by rw [if_pos c263] at H; (with_reducible first | exact dS H hr | exact d1 H hr | exact d2 H hr | exact d4 H hr | exact d11 H hr | exact d14 H hr | cases H)
   rw [if_neg c263] at H
   have c263b0 : (t412 != t416) = false := by simpa using c263
   (try (have c263b1 : decide (t412 = t416) = true := by simpa using c263))
   (try (have c263b2 : (t412 == t416) = true := by simpa using c263))
   clear c263
   replace H := Option.bind_eq_some_iff.mp H
   obtain ⟨t431, A2640, H⟩ := H
   try dsimp only at H
   have A264 := Aside0.mk A2640
   clear A2640
   have c265 : t431 = true := Decidable.byContradiction fun c265 => by rw [if_neg c265] at H; (with_reducible first | exact dS H hr | exact d1 H hr | exact d2 H hr | exact d4 H hr | exact d11 H hr | exact d14 H hr | cases H)
   subst c265
   rw [if_pos rfl] at H
   have c266 : ¬ ((t420 != t422) = true) := fun c266 => by rw [if_pos c266] at H; (with_reducible first | exact dS H hr | exact d1 H hr | exact d2 H hr | exact d4 H hr | exact d11 H hr | exact d14 H hr | cases H)
   rw [if_neg c266] at H
   have c266b0 : (t420 != t422) = false := by simpa using c266
   (try (have c266b1 : decide (t420 = t422) = true := by simpa using c266))
   (try (have c266b2 : (t420 == t422) = true := by simpa using c266))
   clear c266
   have c269 : t419.toList = t421.toList := Decidable.byContradiction fun c269 => by rw [if_neg c269] at H; (with_reducible first | exact dS H hr | exact d1 H hr | exact d2 H hr | exact d4 H hr | exact d11 H hr | exact d14 H hr | cases H)
   rw [if_pos c269] at H
   have c269b0 : (t419.toList == t421.toList) = true := beq_iff_eq.mpr c269
   have c269b1 : (t419.toList != t421.toList) = false := bne_eq_false_iff_eq.mpr c269
   clear c269
   have c270 : ¬ ((t424 != t428) = true) := fun c270 => by rw [if_pos c270] at H; (with_reducible first | exact dS H hr | exact d1 H hr | exact d2 H hr | exact d4 H hr | exact d11 H hr | exact d14 H hr | cases H)
   rw [if_neg c270] at H
   have c270b0 : (t424 != t428) = false := by simpa using c270
   (try (have c270b1 : decide (t424 = t428) = true := by simpa using c270))
   (try (have c270b2 : (t424 == t428) = true := by simpa using c270))
   clear c270
   replace H := Option.bind_eq_some_iff.mp H
   obtain ⟨t432, A2730, H⟩ := H
   try dsimp only at H
   have A273 := Aside0.mk A2730
   clear A2730
   have H' := Aside0.mk H
   clear H
   obtain ⟨Ao274, co274, eo274⟩ := Kd.S_slice HO414.out
   subst eo274
   obtain ⟨Ao275, co275, eo275⟩ := Kd.S_slice HO418.out
   subst eo275
   go_wp2_with (first | (go_at_call 27; (with_reducible refine (laws_yRows.calls kj120 _ _ t411 _ _ t415 true _ ?side1 ?side2 ?side3 ?side4 A264.out).mono ?_); (case side1 => repeat (first | exact (Kd.S_reads' HO414.out).2.2 | (with_reducible refine Kd.C_alloc ?_ _) | (with_reducible refine Kd.C_drewN ?_ _) | (with_reducible refine Kd.C_drew ?_))); (case side2 => exact (Kd.S_reads' HO414.out).2.1); (case side3 => repeat (first | exact (Kd.S_reads' HO418.out).2.2 | (with_reducible refine Kd.C_alloc ?_ _) | (with_reducible refine Kd.C_drewN ?_ _) | (with_reducible refine Kd.C_drew ?_))); (case side4 => exact (Kd.S_reads' HO418.out).2.1); rintro e w' ⟨rfl, ⟨nd, rfl⟩⟩; obtain ⟨Ao276, co276, eo276⟩ := Kd.R_slice HO426.out; subst eo276; obtain ⟨Ao277, co277, eo277⟩ := Kd.R_slice HO430.out; subst eo277) | (go_at_call 28; (with_reducible refine (laws_yPoles.calls kj120 _ _ t423 _ _ t427 t432 _ ?side1 ?side2 ?side3 ?side4 A273.out).mono ?_); (case side1 => repeat (first | exact (Kd.R_reads' HO426.out).2.2 | (with_reducible refine Kd.C_alloc ?_ _) | (with_reducible refine Kd.C_drewN ?_ _) | (with_reducible refine Kd.C_drew ?_))); (case side2 => exact (Kd.R_reads' HO426.out).2.1); (case side3 => repeat (first | exact (Kd.R_reads' HO430.out).2.2 | (with_reducible refine Kd.C_alloc ?_ _) | (with_reducible refine Kd.C_drewN ?_ _) | (with_reducible refine Kd.C_drew ?_))); (case side4 => exact (Kd.R_reads' HO430.out).2.1); rintro e w' ⟨rfl, ⟨nd, rfl⟩⟩))
   go_meet
   case rel => exact ⟨_, (!t432), (by first | rfl | (simp; done) | (simp [*]; done)), H', ⟨by have := HJ9.out; have := HJ23.out; have := HJ120.out; first | omega | exact Nat.le_refl _⟩, ⟨by (with_reducible repeat (first | apply Kd.S_alloc | apply Kd.S_drewN | apply Kd.S_drew)); exact Kd.S_mono HO414.out (fun _ hk => trivial)⟩, ⟨by (with_reducible repeat (first | apply Kd.R_alloc | apply Kd.R_drewN | apply Kd.R_drew)); exact Kd.R_mono HO426.out (fun _ hk => ⟨hk.1.1.2, hk.1.2⟩)⟩, ⟨by (with_reducible repeat (first | refine blk_drewN ?_ _ | refine blk_drew ?_ | refine blk_alloc ?_ _)); exact BK344.out⟩, ⟨by (with_reducible repeat (first | refine blk_drewN ?_ _ | refine blk_drew ?_ | refine blk_alloc ?_ _)); exact BK345.out⟩, ⟨by repeat (first | (with_reducible first | exact HB.out | apply below_alloc | apply pw_below_drewN | apply below_drew1 | refine below_set ?_ GE344.out | refine below_set ?_ GE345.out) | exact HB.out)⟩⟩
  case rest =>
   clear HC247
   obtain ⟨kq, x482_246, rfl, HA, HJ246, HO_65, HO_73, BK344, BK345, HB⟩ := hcut
   cases kq with
   | zero => exact absurd HA.out (by simp [laws_FnShadowsDarkOfAll.j11])
   | succ kj246 =>
    have H := HA.out
    clear HA
    simp only [laws_FnShadowsDarkOfAll.j11] at H
    have c282 : ¬ (x482_246 = true) := fun c282 => by rw [if_pos c282] at H; (with_reducible first | exact dS H hr | exact d1 H hr | exact d2 H hr | exact d4 H hr | exact d11 H hr | exact d14 H hr | cases H)
    replace c282 := Bool.eq_false_iff.mpr c282
    subst c282
    rw [if_neg (show ¬ (false = true) by decide)] at H
    have H' := Aside0.mk H
    clear H
    obtain ⟨Ao283, co283, eo283⟩ := Kd.S_slice HO_65.out
    subst eo283
    go_wp2
    go_loopg [485] kj246 (fun kq v485 w' => ∃ (x485_5 : Int), v485 = .int .i64 x485_5 ∧ Aside0 (laws_FnShadowsDarkOfAll.l4 kq a6 l7 a8 t419 t420 t423 t424 t411 (t411.length : Int) x485_5 = some r) ∧ Aside0 (kq ≤ kj246) ∧ Aside0 (Kd.R k24 24 w' w.heap.size (fun k_ => k_ ≠ gb344 ∧ k_ ≠ gb345) v425 t423) ∧ Aside0 (Kd.S (Kd.slice 3 (Kd.int .i64)) 25 w' w.heap.size (fun _ => True) (.slice Ao283 t411.length co283) t411) ∧ Aside0 (w'.heap[gb344]? = some (.cells #[.int .i64 a4_0, .int .i64 a4_1] 24 (0, 0))) ∧ Aside0 (w'.heap[gb345]? = some (.cells #[.int .i64 a5_0, .int .i64 a5_1] 24 (0, 0))) ∧ Aside0 (Below w.heap.size w w'))
    case atStart => exact ⟨(0), (by first | rfl | (simp; done) | (simp [*]; done)), H', ⟨Nat.le_refl _⟩, ⟨by (with_reducible repeat (first | apply Kd.R_alloc | apply Kd.R_drewN | apply Kd.R_drew)); exact HO_73.out⟩, ⟨by (with_reducible repeat (first | apply Kd.S_alloc | apply Kd.S_drewN | apply Kd.S_drew)); exact HO_65.out⟩, ⟨by (with_reducible repeat (first | refine blk_drewN ?_ _ | refine blk_drew ?_ | refine blk_alloc ?_ _)); exact BK344.out⟩, ⟨by (with_reducible repeat (first | refine blk_drewN ?_ _ | refine blk_drew ?_ | refine blk_alloc ?_ _)); exact BK345.out⟩, ⟨by repeat (first | (with_reducible first | exact HB.out | apply below_alloc | apply pw_below_drewN | apply below_drew1 | refine below_set ?_ GE344.out | refine below_set ?_ GE345.out) | exact HB.out)⟩⟩
    case round =>
     clear H'
     obtain ⟨x485_5, rfl, HA, HK5, HO_73, HO_483, BK344, BK345, HB⟩ := hrel
     cases gk with
     | zero => exact absurd HA.out (by simp [laws_FnShadowsDarkOfAll.l4])
     | succ k5 =>
      have H := HA.out
      clear HA
      simp only [laws_FnShadowsDarkOfAll.l4] at H
      by_cases c284 : x485_5 < (t411.length : Int)
      ·rw [if_pos c284] at H
       have c284b0 : decide (x485_5 < (t411.length : Int)) = true := decide_eq_true c284
       clear c284
       have c285 : 0 ≤ x485_5 := Decidable.byContradiction fun c285 => by rw [if_neg c285] at H; (with_reducible first | exact dS H hr | exact d1 H hr | exact d2 H hr | exact d4 H hr | exact d11 H hr | exact d14 H hr | cases H)
       rw [if_pos c285] at H
       have c285b0 : decide (0 ≤ x485_5) = true := decide_eq_true c285
       clear c285
       have c286 : x485_5 < (t411.length : Int) := Decidable.byContradiction fun c286 => by rw [if_neg c286] at H; (with_reducible first | exact dS H hr | exact d1 H hr | exact d2 H hr | exact d4 H hr | exact d11 H hr | exact d14 H hr | cases H)
       rw [if_pos c286] at H
       have c286b0 : decide (x485_5 < (t411.length : Int)) = true := decide_eq_true c286
       clear c286
       have c287 : 0 < ((rd_L2 t411 x485_5).length : Int) := Decidable.byContradiction fun c287 => by rw [if_neg c287] at H; (with_reducible first | exact dS H hr | exact d1 H hr | exact d2 H hr | exact d4 H hr | exact d11 H hr | exact d14 H hr | cases H)
       rw [if_pos c287] at H
       have c287b0 : decide (0 < ((rd_L2 t411 x485_5).length : Int)) = true := decide_eq_true c287
       have c287b1 : decide (0 < (rd_L2 t411 x485_5).length) = true := decide_eq_true (by omega)
       clear c287
       have c288 : 1 < ((rd_L2 t411 x485_5).length : Int) := Decidable.byContradiction fun c288 => by rw [if_neg c288] at H; (with_reducible first | exact dS H hr | exact d1 H hr | exact d2 H hr | exact d4 H hr | exact d11 H hr | exact d14 H hr | cases H)
       rw [if_pos c288] at H
       have c288b0 : decide (1 < ((rd_L2 t411 x485_5).length : Int)) = true := decide_eq_true c288
       have c288b1 : decide (1 < (rd_L2 t411 x485_5).length) = true := decide_eq_true (by omega)
       clear c288
       replace H := Option.bind_eq_some_iff.mp H
       obtain ⟨⟨t436, t437, t438⟩, A2890, H⟩ := H
       try dsimp only at H
       have A289 := Aside0.mk A2890
       clear A2890
       have c290 : ((rd_L2 t411 x485_5).length : Int) = 3 := Decidable.byContradiction fun c290 => by rw [if_neg c290] at H; (with_reducible first | exact dS H hr | exact d1 H hr | exact d2 H hr | exact d4 H hr | exact d11 H hr | exact d14 H hr | cases H)
       rw [if_pos c290] at H
       have c290b0 : (((rd_L2 t411 x485_5).length : Int) == 3) = true := beq_iff_eq.mpr c290
       have c290b1 : (((rd_L2 t411 x485_5).length : Int) != 3) = false := bne_eq_false_iff_eq.mpr c290
       clear c290
       have c291 : t438 = true := Decidable.byContradiction fun c291 => by rw [if_neg c291] at H; (with_reducible first | exact dS H hr | exact d1 H hr | exact d2 H hr | exact d4 H hr | exact d11 H hr | exact d14 H hr | cases H)
       subst c291
       rw [if_pos rfl] at H
       have c292 : t437 = 1 := Decidable.byContradiction fun c292 => by rw [if_neg c292] at H; (with_reducible first | exact dS H hr | exact d1 H hr | exact d2 H hr | exact d4 H hr | exact d11 H hr | exact d14 H hr | cases H)
       rw [if_pos c292] at H
       have c292b0 : (t437 == 1) = true := beq_iff_eq.mpr c292
       have c292b1 : (t437 != 1) = false := bne_eq_false_iff_eq.mpr c292
       clear c292
       have c293 : 2 < ((rd_L2 t411 x485_5).length : Int) := Decidable.byContradiction fun c293 => by rw [if_neg c293] at H; (with_reducible first | exact dS H hr | exact d1 H hr | exact d2 H hr | exact d4 H hr | exact d11 H hr | exact d14 H hr | cases H)
       rw [if_pos c293] at H
       have c293b0 : decide (2 < ((rd_L2 t411 x485_5).length : Int)) = true := decide_eq_true c293
       have c293b1 : decide (2 < (rd_L2 t411 x485_5).length) = true := decide_eq_true (by omega)
       clear c293
       have c294 : t436 = (rd (rd_L2 t411 x485_5) 2) := Decidable.byContradiction fun c294 => by rw [if_neg c294] at H; (with_reducible first | exact dS H hr | exact d1 H hr | exact d2 H hr | exact d4 H hr | exact d11 H hr | exact d14 H hr | cases H)
       rw [if_pos c294] at H
       have c294b0 : (t436 == (rd (rd_L2 t411 x485_5) 2)) = true := beq_iff_eq.mpr c294
       have c294b1 : (t436 != (rd (rd_L2 t411 x485_5) 2)) = false := bne_eq_false_iff_eq.mpr c294
       clear c294
       have H' := Aside0.mk H
       clear H
       have p433 : 0 ≤ (x485_5 : Int) := of_decide_eq_true (by first | (with_reducible assumption) | assumption)
       have q433 : x485_5 < (t411.length : Int) := of_decide_eq_true (by first | (with_reducible assumption) | assumption)
       obtain ⟨ad433, A433_0, c433_0, e433, hx433_0, hl433_0, hi433_0⟩ := at_L2 (Kd.S_reads' HO_483.out).2.2 x485_5 p433 q433
       cases e433
       obtain ⟨ce433, hce433, hMe433, hcc433⟩ := Kd.S_get HO_483.out [] x485_5 p433 (by first | exact q433 | exact of_decide_eq_true (by first | (with_reducible assumption) | assumption) | (have e_ := (Kd.S_reads' HO_483.out).1; omega))
       obtain ⟨ve433_0, rfl, ge433_0⟩ := hMe433
       have hv433_0 := hcc433 0 _ rfl
       rw [Nat.add_zero, show ((Kd.slice 3 (Kd.int .i64))).sz = 1 from rfl, Nat.mul_one] at hv433_0
       replace hv433_0 := Option.some.inj (hv433_0.symm.trans hx433_0)
       rw [hv433_0] at ge433_0
       have HL433_0 := Aside0.mk (show Kd.R (Kd.int .i64) 3 _ _ _ _ (rd_L2 t411 x485_5) from ge433_0)
       clear hv433_0 ge433_0
       clear hcc433 hce433
       have HR433_0 := Aside0.mk hi433_0
       have HC433_0 := Aside0.mk hl433_0
       clear hi433_0 hl433_0
       replace p433 := eq_true p433
       replace q433 := eq_true q433
       try go_wp2
       have n0_ := Aside0.mk (Kd.R_drew HO_73.out)
       have n1_ := Aside0.mk (Kd.S_drew HO_483.out)
       have n2_ := Aside0.mk (Kd.R_drew HL433_0.out)
       have n3_ := Aside0.mk (blk_drew BK344.out)
       have n4_ := Aside0.mk (blk_drew BK345.out)
       have n5_ := Aside0.mk (Kd.C_drew HR433_0.out)
       have n6_ := Aside0.mk (below_drew1 HB.out)
       clear HO_73
       clear HO_483
       clear HL433_0
       clear BK344
       clear BK345
       clear HR433_0
       clear HB
       have HO_73 := n0_
       have HO_483 := n1_
       have HL433_0 := n2_
       have BK344 := n3_
       have BK345 := n4_
       have HR433_0 := n5_
       have HB := n6_
       clear n0_ n1_ n2_ n3_ n4_ n5_ n6_
       have p434 : 0 ≤ (0 : Int) := (by omega)
       have q434 : 0 < ((rd_L2 t411 x485_5).length : Int) := of_decide_eq_true (by first | (with_reducible assumption) | assumption)
       obtain ⟨ad434, e434, hx434_0⟩ := Kd.at_int (by repeat (first | (with_reducible exact HR433_0.out) | (with_reducible refine Kd.C_alloc ?_ _) | (with_reducible refine Kd.C_drewN ?_ _) | (with_reducible refine Kd.C_drew ?_) | exact HR433_0.out)) 0 p434 q434
       cases e434
       have qi434 : (0 < (rd_L2 t411 x485_5).length) = True := eq_true (by omega)
       (try rw [show ((0 : Int)).toNat = 0 from rfl] at hx434_0)
       (try rw [Addr.add_zero'] at hx434_0)
       replace p434 := eq_true p434
       replace q434 := eq_true q434
       have p435 : 0 ≤ (1 : Int) := (by omega)
       have q435 : 1 < ((rd_L2 t411 x485_5).length : Int) := of_decide_eq_true (by first | (with_reducible assumption) | assumption)
       obtain ⟨ad435, e435, hx435_0⟩ := Kd.at_int (by repeat (first | (with_reducible exact HR433_0.out) | (with_reducible refine Kd.C_alloc ?_ _) | (with_reducible refine Kd.C_drewN ?_ _) | (with_reducible refine Kd.C_drew ?_) | exact HR433_0.out)) 1 p435 q435
       obtain rfl : ad434 = ad435 := (by injection e435)
       (try simp only [show (1 : Int).toNat = 1 from rfl, Nat.reduceMul, Nat.reduceEqDiff, Go.Addr.add, ↓reduceIte] at hx435_0)
       have qi435 : (1 < (rd_L2 t411 x485_5).length) = True := eq_true (by omega)
       (try rw [show ((1 : Int)).toNat = 1 from rfl] at hx435_0)
       replace p435 := eq_true p435
       replace q435 := eq_true q435
       refine start_ (n := 16) (S := fun w' => w'.cell? ad434 = some (.int .i64 (rd (rd_L2 t411 x485_5) 0)) ∧ w'.cell? ⟨ad434.block, ad434.off + 1, none⟩ = some (.int .i64 (rd (rd_L2 t411 x485_5) 1))) (ds := []) #[false, false, false, false, false, false, false, false, false, false, false, false, false, false, false, false] (by kernel_rfl) rfl rfl ⟨hx434_0, hx435_0⟩ (fun hHeld => ?_); refine with_tabW laws_FnShadowsDarkOfAll.tab70 laws_FnShadowsDarkOfAll.bits70 (fun HT_ HW_ => ?_)
       generalize wr.drew = w295 at HO_73 HO_483 HL433_0 BK344 BK345 HR433_0 HB hx434_0 hx435_0 hHeld ⊢
       refine pure_ (i := 0) (N := some 490) (v := ?_) (a' := ?_) #[true, false, false, false, false, false, false, false, false, false, false, false, false, false, false, false] rfl rfl (any_of HT_.out (by kernel_rfl)) (fun _ _ _ h => h) (Or.inl ⟨by rfl, ?_⟩) ?_ ?_
       rotate_left
       ·intro w'
        go_simp
        with_reducible rfl
       rotate_left
       ·simp only [Act.put, List.setIfInBounds_toArray, List.set_cons_zero, List.set_cons_succ, i64_w, i32_w]
        rfl
       refine pure_ (i := 1) (N := some 491) (v := ?_) (a' := ?_) #[true, true, false, false, false, false, false, false, false, false, false, false, false, false, false, false] rfl rfl (any_of HT_.out (by kernel_rfl)) (fun _ _ _ h => h) (Or.inl ⟨by rfl, ?_⟩) ?_ ?_
       rotate_left
       ·intro w'
        go_simp
        with_reducible rfl
       rotate_left
       ·simp only [Act.put, List.setIfInBounds_toArray, List.set_cons_zero, List.set_cons_succ, i64_w, i32_w]
        rfl
       refine pure_ (i := 2) (N := some 492) (v := ?_) (a' := ?_) #[true, true, true, false, false, false, false, false, false, false, false, false, false, false, false, false] rfl rfl (any_of HT_.out (by kernel_rfl)) (fun _ _ _ h => h) (Or.inl ⟨by rfl, ?_⟩) ?_ ?_
       rotate_left
       ·intro w'
        go_simp
        with_reducible rfl
       rotate_left
       ·simp only [Act.put, List.setIfInBounds_toArray, List.set_cons_zero, List.set_cons_succ, i64_w, i32_w]
        rfl
       refine pure_ (i := 4) (N := some 494) (v := ?_) (a' := ?_) #[true, true, true, false, true, false, false, false, false, false, false, false, false, false, false, false] rfl rfl (any_of HT_.out (by kernel_rfl)) (fun _ _ _ h => h) (Or.inl ⟨by rfl, ?_⟩) ?_ ?_
       rotate_left
       ·intro w'
        go_simp
        with_reducible rfl
       rotate_left
       ·simp only [Act.put, List.setIfInBounds_toArray, List.set_cons_zero, List.set_cons_succ, i64_w, i32_w]
        rfl
       refine pure_ (i := 5) (N := some 495) (v := ?_) (a' := ?_) #[true, true, true, false, true, true, false, false, false, false, false, false, false, false, false, false] rfl rfl (any_of HT_.out (by kernel_rfl)) (fun _ _ _ h => h) (Or.inl ⟨by rfl, ?_⟩) ?_ ?_
       rotate_left
       ·intro w'
        go_simp
        with_reducible rfl
       rotate_left
       ·simp only [Act.put, List.setIfInBounds_toArray, List.set_cons_zero, List.set_cons_succ, i64_w, i32_w]
        rfl
       refine take_ (i := 3) (N := some 493) (v := ?_) (a' := ?_) #[true, true, true, true, true, true, false, false, false, false, false, false, false, false, false, false] rfl rfl (take_ofW HT_.out HW_.out (by kernel_rfl)) (fun _ _ _ h => h) (Or.inl ⟨by rfl, ?_⟩) hHeld ?_ ?_
       rotate_left
       ·rintro w' ⟨s0, s1⟩
        go_simp
        with_reducible rfl
       rotate_left
       ·simp only [Act.put, List.setIfInBounds_toArray, List.set_cons_zero, List.set_cons_succ, i64_w, i32_w]
        rfl
       refine take_ (i := 6) (N := some 496) (v := ?_) (a' := ?_) #[true, true, true, true, true, true, true, false, false, false, false, false, false, false, false, false] rfl rfl (take_ofW HT_.out HW_.out (by kernel_rfl)) (fun _ _ _ h => h) (Or.inl ⟨by rfl, ?_⟩) hHeld ?_ ?_
       rotate_left
       ·rintro w' ⟨s0, s1⟩
        go_simp
        with_reducible rfl
       rotate_left
       ·simp only [Act.put, List.setIfInBounds_toArray, List.set_cons_zero, List.set_cons_succ, i64_w, i32_w]
        rfl
       refine pure_ (i := 7) (N := some 497) (v := ?_) (a' := ?_) #[true, true, true, true, true, true, true, true, false, false, false, false, false, false, false, false] rfl rfl (any_of HT_.out (by kernel_rfl)) (fun _ _ _ h => h) (Or.inl ⟨by rfl, ?_⟩) ?_ ?_
       rotate_left
       ·intro w'
        go_simp
        with_reducible rfl
       rotate_left
       ·simp only [Act.put, List.setIfInBounds_toArray, List.set_cons_zero, List.set_cons_succ, i64_w, i32_w]
        rfl
       refine one_ (i := 8) (N := some 498) #[true, true, true, true, true, true, true, true, true, false, false, false, false, false, false, false] rfl rfl (one_of HT_.out (by kernel_rfl)) (by decide) (fun K hK => ?_)
       refine goes_ Tryz.func15 (by kernel_rfl) rfl #[.int .i64 a6, .agg #[.int .i64 (rd (rd_L2 t411 x485_5) 0), .int .i64 (rd (rd_L2 t411 x485_5) 1)]] (by rfl) rfl rfl (by (try simp only [List.map_toArray, List.map_cons, List.map_nil]); first | done | rfl | (simp only [List.length_drop, List.length_take]; rfl)) ?_
       with_reducible refine (impl_ShadowLength.calls k5 a6 (rd (rd_L2 t411 x485_5) 0) (rd (rd_L2 t411 x485_5) 1) t436 t437 true _ A289.out).mono ?_
       rintro e w296 ⟨rfl, hb⟩
       have HS0_ := (hb.cell (World.block_lt_of_cell? _ _ (hHeld.1))).trans (hHeld.1)
       have HS1_ := (hb.cell (World.block_lt_of_cell? _ _ (hHeld.2))).trans (hHeld.2)
       refine ⟨_, rfl, ?_⟩
       have n0_ := Aside0.mk (Kd.R_below (by (with_reducible repeat (first | apply Kd.R_alloc | apply Kd.R_drewN | apply Kd.R_drew)); exact HO_73.out) hb)
       have n1_ := Aside0.mk (Kd.S_below (by (with_reducible repeat (first | apply Kd.S_alloc | apply Kd.S_drewN | apply Kd.S_drew)); exact HO_483.out) hb)
       have n2_ := Aside0.mk (Kd.R_below (by (with_reducible repeat (first | apply Kd.R_alloc | apply Kd.R_drewN | apply Kd.R_drew)); exact HL433_0.out) hb)
       have n3_ := Aside0.mk (blk_below (g := gb344) (o := .cells #[.int .i64 a4_0, .int .i64 a4_1] 24 (0, 0)) (by (with_reducible repeat (first | refine blk_drewN ?_ _ | refine blk_drew ?_ | refine blk_alloc ?_ _)); exact BK344.out) hb)
       have n4_ := Aside0.mk (blk_below (g := gb345) (o := .cells #[.int .i64 a5_0, .int .i64 a5_1] 24 (0, 0)) (by (with_reducible repeat (first | refine blk_drewN ?_ _ | refine blk_drew ?_ | refine blk_alloc ?_ _)); exact BK345.out) hb)
       have n5_ := Aside0.mk (Kd.C_below (by repeat (first | (with_reducible exact HR433_0.out) | (with_reducible refine Kd.C_alloc ?_ _) | (with_reducible refine Kd.C_drewN ?_ _) | (with_reducible refine Kd.C_drew ?_) | exact HR433_0.out)) hb)
       have n6_ := Aside0.mk (below_step (by repeat (first | (with_reducible first | exact HB.out | apply below_alloc | apply pw_below_drewN | apply below_drew1 | refine below_set ?_ GE344.out | refine below_set ?_ GE345.out) | exact HB.out)) hb)
       clear HO_73
       clear HO_483
       clear HL433_0
       clear BK344
       clear BK345
       clear HR433_0
       clear HB
       have HO_73 := n0_
       have HO_483 := n1_
       have HL433_0 := n2_
       have BK344 := n3_
       have BK345 := n4_
       have HR433_0 := n5_
       have HB := n6_
       clear n0_ n1_ n2_ n3_ n4_ n5_ n6_
       refine hK.out _ _ ⟨HS0_, HS1_⟩ (fun hHeld => ?_)
       clear hK K
       refine norm_ (a' := ?_) ?_ ?_
       rotate_left
       ·show Act.put _ (some 498) _ = _
        simp only [Act.put, List.setIfInBounds_toArray, List.set_cons_zero, List.set_cons_succ, i64_w, i32_w]
        rfl
       refine pure_ (i := 9) (N := some 489) (v := ?_) (a' := ?_) #[true, true, true, true, true, true, true, true, true, true, false, false, false, false, false, false] rfl rfl (any_of HT_.out (by kernel_rfl)) (fun _ _ _ h => h) (Or.inl ⟨by rfl, ?_⟩) ?_ ?_
       rotate_left
       ·intro w'
        go_simp
        with_reducible rfl
       rotate_left
       ·simp only [Act.put, List.setIfInBounds_toArray, List.set_cons_zero, List.set_cons_succ, i64_w, i32_w]
        rfl
       refine pure_ (i := 10) (N := some 499) (v := ?_) (a' := ?_) #[true, true, true, true, true, true, true, true, true, true, true, false, false, false, false, false] rfl rfl (any_of HT_.out (by kernel_rfl)) (fun _ _ _ h => h) (Or.inl ⟨by rfl, ?_⟩) ?_ ?_
       rotate_left
       ·intro w'
        go_simp
        with_reducible rfl
       rotate_left
       ·simp only [Act.put, List.setIfInBounds_toArray, List.set_cons_zero, List.set_cons_succ, i64_w, i32_w]
        rfl
       refine pure_ (i := 11) (N := some 500) (v := ?_) (a' := ?_) #[true, true, true, true, true, true, true, true, true, true, true, true, false, false, false, false] rfl rfl (any_of HT_.out (by kernel_rfl)) (fun _ _ _ h => h) (Or.inl ⟨by rfl, ?_⟩) ?_ ?_
       rotate_left
       ·intro w'
        go_simp
        with_reducible rfl
       rotate_left
       ·simp only [Act.put, List.setIfInBounds_toArray, List.set_cons_zero, List.set_cons_succ, i64_w, i32_w]
        rfl
       refine pure_ (i := 12) (N := some 501) (v := ?_) (a' := ?_) #[true, true, true, true, true, true, true, true, true, true, true, true, true, false, false, false] rfl rfl (any_of HT_.out (by kernel_rfl)) (fun _ _ _ h => h) (Or.inl ⟨by rfl, ?_⟩) ?_ ?_
       rotate_left
       ·intro w'
        go_simp
        with_reducible rfl
       rotate_left
       ·simp only [Act.put, List.setIfInBounds_toArray, List.set_cons_zero, List.set_cons_succ, i64_w, i32_w]
        rfl
       refine pure_ (i := 13) (N := some 79) (v := ?_) (a' := ?_) #[true, true, true, true, true, true, true, true, true, true, true, true, true, true, false, false] rfl rfl (any_of HT_.out (by kernel_rfl)) (fun _ _ _ h => h) (Or.inl ⟨by rfl, ?_⟩) ?_ ?_
       rotate_left
       ·intro w'
        go_simp
        with_reducible rfl
       rotate_left
       ·simp only [Act.put, List.setIfInBounds_toArray, List.set_cons_zero, List.set_cons_succ, i64_w, i32_w]
        rfl
       refine pure_ (i := 14) (N := some 80) (v := ?_) (a' := ?_) #[true, true, true, true, true, true, true, true, true, true, true, true, true, true, true, false] rfl rfl (any_of HT_.out (by kernel_rfl)) (fun _ _ _ h => h) (Or.inl ⟨by rfl, ?_⟩) ?_ ?_
       rotate_left
       ·intro w'
        go_simp
        with_reducible rfl
       rotate_left
       ·simp only [Act.put, List.setIfInBounds_toArray, List.set_cons_zero, List.set_cons_succ, i64_w, i32_w]
        rfl
       refine pure_ (i := 15) (N := some 81) (v := ?_) (a' := ?_) #[true, true, true, true, true, true, true, true, true, true, true, true, true, true, true, true] rfl rfl (any_of HT_.out (by kernel_rfl)) (fun _ _ _ h => h) (Or.inl ⟨by rfl, ?_⟩) ?_ ?_
       rotate_left
       ·intro w'
        go_simp
        with_reducible rfl
       rotate_left
       ·simp only [Act.put, List.setIfInBounds_toArray, List.set_cons_zero, List.set_cons_succ, i64_w, i32_w]
        rfl
       refine done_ (done_of HT_.out (by kernel_rfl)) ?_
       have p439 : 0 ≤ (2 : Int) := (by omega)
       have q439 : 2 < ((rd_L2 t411 x485_5).length : Int) := of_decide_eq_true (by first | (with_reducible assumption) | assumption)
       obtain ⟨ad439, e439, hx439_0⟩ := Kd.at_int (by repeat (first | (with_reducible exact HR433_0.out) | (with_reducible refine Kd.C_alloc ?_ _) | (with_reducible refine Kd.C_drewN ?_ _) | (with_reducible refine Kd.C_drew ?_) | exact HR433_0.out)) 2 p439 q439
       obtain rfl : ad434 = ad439 := (by injection e439)
       (try simp only [show (2 : Int).toNat = 2 from rfl, Nat.reduceMul, Nat.reduceEqDiff, Go.Addr.add, ↓reduceIte] at hx439_0)
       have qi439 : (2 < (rd_L2 t411 x485_5).length) = True := eq_true (by omega)
       (try rw [show ((2 : Int)).toNat = 2 from rfl] at hx439_0)
       replace p439 := eq_true p439
       replace q439 := eq_true q439
       try go_wp2
       go_roundg k5
       case measure => have := HJ9.out; have := HJ23.out; have := HJ120.out; have := HJ246.out; have := HK5.out; omega
       case rel => exact ⟨(wrap64 (x485_5 + 1)), (by first | rfl | (simp; done) | (simp [*]; done)), H', ⟨by have := HJ9.out; have := HJ23.out; have := HJ120.out; have := HJ246.out; have := HK5.out; omega⟩, ⟨by (with_reducible repeat (first | apply Kd.R_alloc | apply Kd.R_drewN | apply Kd.R_drew)); exact HO_73.out⟩, ⟨by (with_reducible repeat (first | apply Kd.S_alloc | apply Kd.S_drewN | apply Kd.S_drew)); exact HO_483.out⟩, ⟨by (with_reducible repeat (first | refine blk_drewN ?_ _ | refine blk_drew ?_ | refine blk_alloc ?_ _)); exact BK344.out⟩, ⟨by (with_reducible repeat (first | refine blk_drewN ?_ _ | refine blk_drew ?_ | refine blk_alloc ?_ _)); exact BK345.out⟩, ⟨by repeat (first | (with_reducible first | exact HB.out | apply below_alloc | apply pw_below_drewN | apply below_drew1 | refine below_set ?_ GE344.out | refine below_set ?_ GE345.out) | exact HB.out)⟩⟩
      ·rw [if_neg c284] at H
       have c284b0 : decide (x485_5 < (t411.length : Int)) = false := decide_eq_false c284
       clear c284
       have HC305 := Aside0.mk H
       clear H
       go_upto_region 74 with (fail)
       go_cut [526] from 526 to 526 (fun v526 wc => ∃ (kq : Nat) (x526_304 : Bool), v526 = .bool x526_304 ∧ Aside0 (laws_FnShadowsDarkOfAll.j13 kq l7 a8 t419 t423 t424 x526_304 = some r) ∧ Aside0 (kq ≤ k5) ∧ Aside0 (Kd.R k24 24 wc w.heap.size (fun k_ => k_ ≠ gb344 ∧ k_ ≠ gb345) v425 t423) ∧ Aside0 (wc.heap[gb344]? = some (.cells #[.int .i64 a4_0, .int .i64 a4_1] 24 (0, 0))) ∧ Aside0 (wc.heap[gb345]? = some (.cells #[.int .i64 a5_0, .int .i64 a5_1] 24 (0, 0))) ∧ Aside0 (Below w.heap.size w wc))
       case first =>
        have H := HC305.out
        clear HC305
        by_cases c306 : t420 = true
        ·subst c306
         rw [if_pos rfl] at H
         have H' := Aside0.mk H
         clear H
         go_wp2
         go_meet
         case rel => exact ⟨_, (decide ((t419.size : Int) ≤ 50)), (by first | rfl | (simp; done) | (simp [*]; done)), H', ⟨by have := HJ9.out; have := HJ23.out; have := HJ120.out; have := HJ246.out; have := HK5.out; first | omega | exact Nat.le_refl _⟩, ⟨by (with_reducible repeat (first | apply Kd.R_alloc | apply Kd.R_drewN | apply Kd.R_drew)); exact HO_73.out⟩, ⟨by (with_reducible repeat (first | refine blk_drewN ?_ _ | refine blk_drew ?_ | refine blk_alloc ?_ _)); exact BK344.out⟩, ⟨by (with_reducible repeat (first | refine blk_drewN ?_ _ | refine blk_drew ?_ | refine blk_alloc ?_ _)); exact BK345.out⟩, ⟨by repeat (first | (with_reducible first | exact HB.out | apply below_alloc | apply pw_below_drewN | apply below_drew1 | refine below_set ?_ GE344.out | refine below_set ?_ GE345.out) | exact HB.out)⟩⟩
        ·replace c306 := Bool.eq_false_iff.mpr c306
         subst c306
         rw [if_neg (show ¬ (false = true) by decide)] at H
         have H' := Aside0.mk H
         clear H
         go_wp2
         go_meet
         case rel => exact ⟨_, (false), (by first | rfl | (simp; done) | (simp [*]; done)), H', ⟨by have := HJ9.out; have := HJ23.out; have := HJ120.out; have := HJ246.out; have := HK5.out; first | omega | exact Nat.le_refl _⟩, ⟨by (with_reducible repeat (first | apply Kd.R_alloc | apply Kd.R_drewN | apply Kd.R_drew)); exact HO_73.out⟩, ⟨by (with_reducible repeat (first | refine blk_drewN ?_ _ | refine blk_drew ?_ | refine blk_alloc ?_ _)); exact BK344.out⟩, ⟨by (with_reducible repeat (first | refine blk_drewN ?_ _ | refine blk_drew ?_ | refine blk_alloc ?_ _)); exact BK345.out⟩, ⟨by repeat (first | (with_reducible first | exact HB.out | apply below_alloc | apply pw_below_drewN | apply below_drew1 | refine below_set ?_ GE344.out | refine below_set ?_ GE345.out) | exact HB.out)⟩⟩
       case rest =>
        clear HC305
        obtain ⟨kq, x526_304, rfl, HA, HJ304, HO_73, BK344, BK345, HB⟩ := hcut
        cases kq with
        | zero => exact absurd HA.out (by simp [laws_FnShadowsDarkOfAll.j13])
        | succ kj304 =>
         have H := HA.out
         clear HA
         simp only [laws_FnShadowsDarkOfAll.j13] at H
         by_cases c307 : x526_304 = true
         ·subst c307
          rw [if_pos rfl] at H
          replace H := Option.bind_eq_some_iff.mp H
          obtain ⟨⟨t440, t441⟩, A3080, H⟩ := H
          try dsimp only at H
          have A308 := Aside0.mk A3080
          clear A3080
          have HC309 := Aside0.mk H
          clear H
          go_upto_region 76 with (first | ((with_reducible refine gate_callee (f := 25) rfl ?_); refine goesL_ (some 529) rfl rfl Tryz.func25 (by kernel_rfl) rfl #[.string t419] rfl (by (try simp only [List.map_toArray, List.map_cons, List.map_nil]); first | done | rfl) ?_; (with_reducible refine (impl_ParsePoles.calls kj304 t419 t440 t441 _ A308.out (rdy hR (by repeat (first | (with_reducible first | exact HB.out | apply below_alloc | apply pw_below_drewN | apply below_drew1) | refine below_set ?_ (Aside0.out (by assumption)) | exact HB.out | exact Below.refl _ _)))).mono ?_); rintro e w310 ⟨v442, rfl, ho0, hb⟩; refine ⟨_, rfl, ?_⟩; have n0_ := Aside0.mk (Kd.R_elder' (by (with_reducible repeat (first | apply Kd.R_alloc | apply Kd.R_drewN | apply Kd.R_drew)); exact HO_73.out) (Kd.R_base ho0) hb); have n1_ := Aside0.mk (Kd.R_lower (Kd.R_newB (Kd.R_newB (Kd.R_new' ho0 (Kd.R_lt (by (with_reducible repeat (first | apply Kd.R_alloc | apply Kd.R_drewN | apply Kd.R_drew)); exact HO_73.out))) (g := gb344) (o := .cells #[.int .i64 a4_0, .int .i64 a4_1] 24 (0, 0)) (by (with_reducible repeat (first | refine blk_drewN ?_ _ | refine blk_drew ?_ | refine blk_alloc ?_ _)); exact BK344.out)) (g := gb345) (o := .cells #[.int .i64 a5_0, .int .i64 a5_1] 24 (0, 0)) (by (with_reducible repeat (first | refine blk_drewN ?_ _ | refine blk_drew ?_ | refine blk_alloc ?_ _)); exact BK345.out)) (below_size (by repeat (first | (with_reducible first | exact HB.out | apply below_alloc | apply pw_below_drewN | apply below_drew1 | refine below_set ?_ GE344.out | refine below_set ?_ GE345.out) | exact HB.out)))); have n2_ := Aside0.mk (blk_below (g := gb344) (o := .cells #[.int .i64 a4_0, .int .i64 a4_1] 24 (0, 0)) (by (with_reducible repeat (first | refine blk_drewN ?_ _ | refine blk_drew ?_ | refine blk_alloc ?_ _)); exact BK344.out) hb); have n3_ := Aside0.mk (blk_below (g := gb345) (o := .cells #[.int .i64 a5_0, .int .i64 a5_1] 24 (0, 0)) (by (with_reducible repeat (first | refine blk_drewN ?_ _ | refine blk_drew ?_ | refine blk_alloc ?_ _)); exact BK345.out) hb); have n4_ := Aside0.mk (below_step (by repeat (first | (with_reducible first | exact HB.out | apply below_alloc | apply pw_below_drewN | apply below_drew1 | refine below_set ?_ GE344.out | refine below_set ?_ GE345.out) | exact HB.out)) hb); clear HO_73; clear BK344; clear BK345; clear HB; have HO_73 := n0_; have HO443 := n1_; have BK344 := n2_; have BK345 := n3_; have HB := n4_; clear n0_ n1_ n2_ n3_ n4_; (try clear hb); (try clear hb2); (try clear hk); (try clear hi); (try clear ho0)))
          (try simp only [Act.put, List.setIfInBounds_toArray, List.set_cons_zero, List.set_cons_succ])
          go_cut [539] from 539 to 539 (fun v539 wc => ∃ (kq : Nat) (x539_308 : Bool), v539 = .bool x539_308 ∧ Aside0 (laws_FnShadowsDarkOfAll.j14 kq a8 t423 t424 x539_308 = some r) ∧ Aside0 (kq ≤ kj304) ∧ Aside0 (Kd.R k24 24 wc w.heap.size (fun k_ => k_ ≠ gb344 ∧ k_ ≠ gb345) v425 t423) ∧ Aside0 (wc.heap[gb344]? = some (.cells #[.int .i64 a4_0, .int .i64 a4_1] 24 (0, 0))) ∧ Aside0 (wc.heap[gb345]? = some (.cells #[.int .i64 a5_0, .int .i64 a5_1] 24 (0, 0))) ∧ Aside0 (Below w.heap.size w wc))
          case first =>
           have H := HC309.out
           clear HC309
           have c311 : t441 = true := Decidable.byContradiction fun c311 => by rw [if_neg c311] at H; (with_reducible first | exact dS H hr | exact d1 H hr | exact d2 H hr | exact d4 H hr | exact d11 H hr | exact d14 H hr | cases H)
           subst c311
           rw [if_pos rfl] at H
           replace H := Option.bind_eq_some_iff.mp H
           obtain ⟨t444, A3120, H⟩ := H
           try dsimp only at H
           have A312 := Aside0.mk A3120
           clear A3120
           have H' := Aside0.mk H
           clear H
           obtain ⟨Ao313, co313, eo313⟩ := Kd.R_slice HO443.out
           subst eo313
           go_wp2_with (first | (go_at_call 28; (with_reducible refine (laws_yPoles.calls kj304 _ _ t440 _ _ l7 t444 _ ?side1 ?side2 ?side3 ?side4 A312.out).mono ?_); (case side1 => repeat (first | exact (Kd.R_reads' HO443.out).2.2 | (with_reducible refine Kd.C_alloc ?_ _) | (with_reducible refine Kd.C_drewN ?_ _) | (with_reducible refine Kd.C_drew ?_))); (case side2 => exact (Kd.R_reads' HO443.out).2.1); (case side3 => repeat (first | exact (Kd.C_below HR7.out HB.out) | (with_reducible refine Kd.C_alloc ?_ _) | (with_reducible refine Kd.C_drewN ?_ _) | (with_reducible refine Kd.C_drew ?_))); (case side4 => exact HC7.out); rintro e w' ⟨rfl, ⟨nd, rfl⟩⟩))
           go_meet
           case rel => exact ⟨_, (!t444), (by first | rfl | (simp; done) | (simp [*]; done)), H', ⟨by have := HJ9.out; have := HJ23.out; have := HJ120.out; have := HJ246.out; have := HK5.out; have := HJ304.out; first | omega | exact Nat.le_refl _⟩, ⟨by (with_reducible repeat (first | apply Kd.R_alloc | apply Kd.R_drewN | apply Kd.R_drew)); exact Kd.R_mono HO_73.out (fun _ hk => ⟨hk.1.1, hk.1.2⟩)⟩, ⟨by (with_reducible repeat (first | refine blk_drewN ?_ _ | refine blk_drew ?_ | refine blk_alloc ?_ _)); exact BK344.out⟩, ⟨by (with_reducible repeat (first | refine blk_drewN ?_ _ | refine blk_drew ?_ | refine blk_alloc ?_ _)); exact BK345.out⟩, ⟨by repeat (first | (with_reducible first | exact HB.out | apply below_alloc | apply pw_below_drewN | apply below_drew1 | refine below_set ?_ GE344.out | refine below_set ?_ GE345.out) | exact HB.out)⟩⟩
          case rest =>
           clear HC309
           obtain ⟨kq, x539_308, rfl, HA, HJ308, HO_73, BK344, BK345, HB⟩ := hcut
           cases kq with
           | zero => exact absurd HA.out (by simp [laws_FnShadowsDarkOfAll.j14])
           | succ kj308 =>
            have H := HA.out
            clear HA
            simp only [laws_FnShadowsDarkOfAll.j14] at H
            have c314 : ¬ (x539_308 = true) := fun c314 => by rw [if_pos c314] at H; (with_reducible first | exact dS H hr | exact d1 H hr | exact d2 H hr | exact d4 H hr | exact d11 H hr | exact d14 H hr | cases H)
            replace c314 := Bool.eq_false_iff.mpr c314
            subst c314
            rw [if_neg (show ¬ (false = true) by decide)] at H
            by_cases c315 : t424 = true
            ·subst c315
             rw [if_pos rfl] at H
             replace H := Option.bind_eq_some_iff.mp H
             obtain ⟨⟨t445, t446⟩, A3160, H⟩ := H
             try dsimp only at H
             have A316 := Aside0.mk A3160
             clear A3160
             have c317 : t446 = true := Decidable.byContradiction fun c317 => by rw [if_neg c317] at H; (with_reducible first | exact dS H hr | exact d1 H hr | exact d2 H hr | exact d4 H hr | exact d11 H hr | exact d14 H hr | cases H)
             subst c317
             rw [if_pos rfl] at H
             obtain rfl := Option.some.inj H
             obtain ⟨Ao318, co318, eo318⟩ := Kd.R_slice HO_73.out
             subst eo318
             go_wp2_with (first | ((with_reducible refine gate_callee (f := 23) rfl ?_); refine goesL_ (some 543) rfl rfl Tryz.func23 (by kernel_rfl) rfl #[.slice Ao318 t423.length co318] rfl (by (try simp only [List.map_toArray, List.map_cons, List.map_nil]); first | done | rfl) ?_; (with_reducible refine (impl_PolesText.calls kj308 _ _ t423 t445 true _ ?side1 ?side2 A316.out (rdy hR (by repeat (first | (with_reducible first | exact HB.out | apply below_alloc | apply pw_below_drewN | apply below_drew1) | refine below_set ?_ (Aside0.out (by assumption)) | exact HB.out | exact Below.refl _ _)))).mono ?_); (case side1 => repeat (first | exact (Kd.R_reads' HO_73.out).2.2 | (with_reducible refine Kd.C_alloc ?_ _) | (with_reducible refine Kd.C_drewN ?_ _) | (with_reducible refine Kd.C_drew ?_))); (case side2 => exact (Kd.R_reads' HO_73.out).2.1); rintro e w319 ⟨rfl, hb⟩; refine ⟨_, rfl, ?_⟩; have n0_ := Aside0.mk (Kd.R_below (by (with_reducible repeat (first | apply Kd.R_alloc | apply Kd.R_drewN | apply Kd.R_drew)); exact HO_73.out) hb); have n1_ := Aside0.mk (blk_below (g := gb344) (o := .cells #[.int .i64 a4_0, .int .i64 a4_1] 24 (0, 0)) (by (with_reducible repeat (first | refine blk_drewN ?_ _ | refine blk_drew ?_ | refine blk_alloc ?_ _)); exact BK344.out) hb); have n2_ := Aside0.mk (blk_below (g := gb345) (o := .cells #[.int .i64 a5_0, .int .i64 a5_1] 24 (0, 0)) (by (with_reducible repeat (first | refine blk_drewN ?_ _ | refine blk_drew ?_ | refine blk_alloc ?_ _)); exact BK345.out) hb); have n3_ := Aside0.mk (below_step (by repeat (first | (with_reducible first | exact HB.out | apply below_alloc | apply pw_below_drewN | apply below_drew1 | refine below_set ?_ GE344.out | refine below_set ?_ GE345.out) | exact HB.out)) hb); clear HO_73; clear BK344; clear BK345; clear HB; have HO_73 := n0_; have BK344 := n1_; have BK345 := n2_; have HB := n3_; clear n0_ n1_ n2_ n3_; (try clear hb); (try clear hb2); (try clear hk); (try clear hi)))
             go_ret
             exact ⟨by first | rfl | (simp [errW_none, errW_some] <;> rfl) | (simp [*, errW_none, errW_some] <;> rfl), by repeat (first | (with_reducible first | exact HB.out | apply below_alloc | apply pw_below_drewN | apply below_drew1 | refine below_set ?_ GE344.out | refine below_set ?_ GE345.out) | exact HB.out)⟩
            ·replace c315 := Bool.eq_false_iff.mpr c315
             subst c315
             rw [if_neg (show ¬ (false = true) by decide)] at H
             obtain rfl := Option.some.inj H
             go_wp2
             go_ret
             exact ⟨by first | rfl | (simp [errW_none, errW_some] <;> rfl) | (simp [*, errW_none, errW_some] <;> rfl), by repeat (first | (with_reducible first | exact HB.out | apply below_alloc | apply pw_below_drewN | apply below_drew1 | refine below_set ?_ GE344.out | refine below_set ?_ GE345.out) | exact HB.out)⟩
         ·replace c307 := Bool.eq_false_iff.mpr c307
          subst c307
          rw [if_neg (show ¬ (false = true) by decide)] at H
          by_cases c322 : t424 = true
          ·subst c322
           rw [if_pos rfl] at H
           replace H := Option.bind_eq_some_iff.mp H
           obtain ⟨⟨t447, t448⟩, A3230, H⟩ := H
           try dsimp only at H
           have A323 := Aside0.mk A3230
           clear A3230
           have c324 : t448 = true := Decidable.byContradiction fun c324 => by rw [if_neg c324] at H; (with_reducible first | exact dS H hr | exact d1 H hr | exact d2 H hr | exact d4 H hr | exact d11 H hr | exact d14 H hr | cases H)
           subst c324
           rw [if_pos rfl] at H
           obtain rfl := Option.some.inj H
           obtain ⟨Ao325, co325, eo325⟩ := Kd.R_slice HO_73.out
           subst eo325
           go_wp2_with (first | ((with_reducible refine gate_callee (f := 23) rfl ?_); refine goesL_ (some 543) rfl rfl Tryz.func23 (by kernel_rfl) rfl #[.slice Ao325 t423.length co325] rfl (by (try simp only [List.map_toArray, List.map_cons, List.map_nil]); first | done | rfl) ?_; (with_reducible refine (impl_PolesText.calls kj304 _ _ t423 t447 true _ ?side1 ?side2 A323.out (rdy hR (by repeat (first | (with_reducible first | exact HB.out | apply below_alloc | apply pw_below_drewN | apply below_drew1) | refine below_set ?_ (Aside0.out (by assumption)) | exact HB.out | exact Below.refl _ _)))).mono ?_); (case side1 => repeat (first | exact (Kd.R_reads' HO_73.out).2.2 | (with_reducible refine Kd.C_alloc ?_ _) | (with_reducible refine Kd.C_drewN ?_ _) | (with_reducible refine Kd.C_drew ?_))); (case side2 => exact (Kd.R_reads' HO_73.out).2.1); rintro e w326 ⟨rfl, hb⟩; refine ⟨_, rfl, ?_⟩; have n0_ := Aside0.mk (Kd.R_below (by (with_reducible repeat (first | apply Kd.R_alloc | apply Kd.R_drewN | apply Kd.R_drew)); exact HO_73.out) hb); have n1_ := Aside0.mk (blk_below (g := gb344) (o := .cells #[.int .i64 a4_0, .int .i64 a4_1] 24 (0, 0)) (by (with_reducible repeat (first | refine blk_drewN ?_ _ | refine blk_drew ?_ | refine blk_alloc ?_ _)); exact BK344.out) hb); have n2_ := Aside0.mk (blk_below (g := gb345) (o := .cells #[.int .i64 a5_0, .int .i64 a5_1] 24 (0, 0)) (by (with_reducible repeat (first | refine blk_drewN ?_ _ | refine blk_drew ?_ | refine blk_alloc ?_ _)); exact BK345.out) hb); have n3_ := Aside0.mk (below_step (by repeat (first | (with_reducible first | exact HB.out | apply below_alloc | apply pw_below_drewN | apply below_drew1 | refine below_set ?_ GE344.out | refine below_set ?_ GE345.out) | exact HB.out)) hb); clear HO_73; clear BK344; clear BK345; clear HB; have HO_73 := n0_; have BK344 := n1_; have BK345 := n2_; have HB := n3_; clear n0_ n1_ n2_ n3_; (try clear hb); (try clear hb2); (try clear hk); (try clear hi)))
           go_ret
           exact ⟨by first | rfl | (simp [errW_none, errW_some] <;> rfl) | (simp [*, errW_none, errW_some] <;> rfl), by repeat (first | (with_reducible first | exact HB.out | apply below_alloc | apply pw_below_drewN | apply below_drew1 | refine below_set ?_ GE344.out | refine below_set ?_ GE345.out) | exact HB.out)⟩
          ·replace c322 := Bool.eq_false_iff.mpr c322
           subst c322
           rw [if_neg (show ¬ (false = true) by decide)] at H
           obtain rfl := Option.some.inj H
           go_wp2
           go_ret
           exact ⟨by first | rfl | (simp [errW_none, errW_some] <;> rfl) | (simp [*, errW_none, errW_some] <;> rfl), by repeat (first | (with_reducible first | exact HB.out | apply below_alloc | apply pw_below_drewN | apply below_drew1 | refine below_set ?_ GE344.out | refine below_set ?_ GE345.out) | exact HB.out)⟩
end Go.Proofs.YtkhhlnpiogfofaaGreatDoor.SDLaw
