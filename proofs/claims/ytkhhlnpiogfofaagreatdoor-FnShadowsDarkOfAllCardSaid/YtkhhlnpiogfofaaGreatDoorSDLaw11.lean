/- The second part of the walk of the law FnShadowsDarkOfAll (what holds of poles). Conditions: the library's variables (Ready); the law as a plain function answers true (h, hr). Turned from the print program's text. -/
import Derived.Test.YtkhhlnpiogfofaaGreatDoorSDLaw12
import Derived.Test.YtkhhlnpiogfofaaGreatDoorSDF
import Derived.Test.YtkhhlnpiogfofaaGreatDoorGiven
import Derived.Test.YtkhhlnpiogfofaaGreatDoorSD0
import Derived.Test.YtkhhlnpiogfofaaGreatDoorSD3
import Derived.Test.YtkhhlnpiogfofaaGreatDoorSD4
import Derived.Test.YtkhhlnpiogfofaaGreatDoorSD6
import Derived.Test.YtkhhlnpiogfofaaGreatDoorSD7
import Derived.Test.YtkhhlnpiogfofaaGreatDoorSD8
import Derived.Test.YtkhhlnpiogfofaaGreatDoorSD9
import Derived.Test.YtkhhlnpiogfofaaGreatDoorSD11
import Derived.Test.YtkhhlnpiogfofaaGreatDoorSD12
import Derived.Test.YtkhhlnpiogfofaaGreatDoorSD13
import Derived.Test.YtkhhlnpiogfofaaGreatDoorSD14
namespace Go.Proofs.YtkhhlnpiogfofaaGreatDoor.SDLaw
open Go.RowKit Go.Proofs.YtkhhlnpiogfofaaGreatDoorW.PrintWords Go.Proofs.YtkhhlnpiogfofaaGreatDoorW.PrintLast Go.Proofs.YtkhhlnpiogfofaaGreatDoorW.PrintMore Go.Proofs.YtkhhlnpiogfofaaGreatDoor.Given Go.Proofs.YtkhhlnpiogfofaaGreatDoor.TextC Go.Proofs.YtkhhlnpiogfofaaGreatDoor.PFnShadowsDarkOfAll
set_option linter.unusedVariables false
set_option linter.unusedSimpArgs false
set_option linter.unnecessarySimpa false
set_option maxHeartbeats 8000000 in
set_option maxRecDepth 100000 in
theorem rest11 (k : Nat) (a0 : Int) (A1 : Option Addr) (c1 : Nat) (l1 : List S24) (a2 : Int) (a3 : Int) (a4_0 : Int) (a4_1 : Int) (a5_0 : Int) (a5_1 : Int) (a6 : Int) (A7 : Option Addr) (c7 : Nat) (l7 : List S24) (a8 : ByteArray) (gb344 : Nat) (gb345 : Nat) (kj9 : Nat) (t346 : List Int) (t347 : Bool) (t354 : List Int) (t355 : Bool) (t362 : Int) (t366 : Int) (t367 : Int) (v348 : Value) (v356 : Value) (kq : Nat) (x228_23 : Bool) (r : Bool) (w wc : World) {x9 x10 x11 x12 x15 x16 x17 x18 x21 x22 x25 x26 x28 x29 x30 x33 x34 x35 x36 x37 x38 x39 x40 x41 x42 x43 x44 x45 x46 x47 x48 x49 x50 x51 x52 x53 x54 x55 x56 x57 x58 x59 x60 x61 x62 x63 x64 x65 x66 x67 x68 x69 x70 x71 x72 x73 x74 x75 x76 x77 x78 x79 x80 x81 x82 x83 x84 x85 x86 x87 x88 x89 x90 x91 x92 x93 x94 x95 x96 x97 x98 x99 x100 x101 x102 x103 x104 x105 x106 x107 x108 x109 x110 x111 x112 x113 x114 x115 x116 x117 x118 x119 x120 x121 x122 x123 x124 x125 x126 x127 x128 x129 x130 x131 x132 x133 x134 x135 x136 x137 x138 x139 x140 x141 x142 x143 x144 x145 x146 x147 x148 x149 x150 x151 x152 x153 x154 x155 x156 x157 x158 x159 x160 x161 x162 x163 x164 x165 x166 x167 x168 x169 x170 x171 x172 x173 x174 x175 x176 x177 x178 x179 x180 x181 x182 x183 x184 x185 x186 x187 x188 x189 x190 x191 x192 x193 x194 x195 x196 x197 x198 x199 x200 x201 x202 x203 x204 x205 x206 x207 x208 x209 x210 x211 x212 x213 x214 x215 x216 x217 x218 x219 x220 x221 x222 x223 x224 x225 x226 x227 x228 x229 x230 x231 x232 x233 x234 x235 x236 x237 x238 x239 x240 x241 x242 x243 x244 x245 x246 x247 x248 x249 x250 x251 x252 x253 x254 x255 x256 x257 x258 x259 x260 x261 x262 x263 x264 x265 x266 x267 x268 x269 x270 x271 x272 x273 x274 x275 x276 x277 x278 x279 x280 x281 x282 x283 x284 x285 x286 x287 x288 x289 x290 x291 x292 x293 x294 x295 x296 x297 x298 x299 x300 x301 x302 x303 x304 x305 x306 x307 x308 x309 x310 x311 x312 x313 x314 x315 x316 x317 x318 x319 x320 x321 x322 x323 x324 x325 x326 x327 x328 x329 x330 x331 x332 x333 x334 x335 x336 x337 x338 x339 x340 x341 x342 x343 x344 x345 x346 x347 x348 x349 x350 x351 x352 x353 x354 x355 x356 x357 x358 x359 x360 x361 x362 x363 x364 x365 x366 x367 x368 x369 x370 x371 x372 x373 x374 x375 x376 x377 x378 x379 x380 x381 x382 x383 x384 x385 x386 x387 x388 x389 x390 x391 x392 x393 x394 x395 x396 x397 x398 x399 x400 x401 x402 x403 x404 x405 x406 x407 x408 x409 x410 x411 x412 x413 x414 x415 x416 x417 x418 x419 x420 x421 x422 x423 x424 x425 x426 x427 x428 x429 x430 x431 x432 x433 x434 x435 x436 x437 x438 x439 x440 x441 x442 x443 x444 x445 x446 x447 x448 x449 x450 x451 x452 x453 x454 x455 x456 x457 x458 x459 x460 x461 x462 x463 x464 x465 x466 x467 x468 x469 x470 x471 x472 x473 x474 x475 x476 x477 x478 x479 x480 x481 x482 x483 x484 x485 x486 x487 x488 x489 x490 x491 x492 x493 x494 x495 x496 x497 x498 x499 x500 x501 x502 x503 x504 x505 x506 x507 x508 x509 x510 x511 x512 x513 x514 x515 x516 x517 x518 x519 x520 x521 x522 x523 x524 x525 x526 x527 x528 x529 x530 x531 x532 x533 x534 x535 x536 x537 x538 x539 x540 x541 x542 x543 x544 x545 x546 x547 x548 x549 x550 x551 : Value} (hr : r = true) (hR : Aside0 (Ready w))
  (HA : Aside0 (laws_FnShadowsDarkOfAll.j1 kq a0 l1 a2 a3 a6 l7 a8 t346 t347 t354 t355 t362 t366 t367 x228_23 a4_0 a4_1 a5_0 a5_1 = some r))
  (HJ23 : Aside0 (kq ≤ kj9))
  (HO_19 : Aside0 (Kd.R (Kd.int .i64) 3 wc w.heap.size (fun k_ => some k_ ≠ (v356 : Value).ownBlock) v348 t346))
  (HO_23 : Aside0 (Kd.R (Kd.int .i64) 3 wc w.heap.size (fun k_ => some k_ ≠ (v348 : Value).ownBlock) v356 t354))
  (BK344 : Aside0 (wc.heap[gb344]? = some (.cells #[.int .i64 a4_0, .int .i64 a4_1] 24 (0, 0))))
  (BK345 : Aside0 (wc.heap[gb345]? = some (.cells #[.int .i64 a5_0, .int .i64 a5_1] 24 (0, 0))))
  (HB : Aside0 (Below w.heap.size w wc))
  (HR1 : Aside0 (k24.C w A1 l1.length l1))
  (HC1 : Aside0 (l1.length ≤ c1))
  (HR7 : Aside0 (k24.C w A7 l7.length l7))
  (HC7 : Aside0 (l7.length ≤ c7))
  (GW344 : Aside0 (w.heap.size ≤ gb344))
  (GE344 : Aside0 (w.heap.size ≤ gb344))
  (GW345 : Aside0 (w.heap.size ≤ gb345))
  (GE345 : Aside0 (w.heap.size ≤ gb345))
  (NB344_345 : Aside0 (gb344 ≠ gb345))
  (NB345_344 : Aside0 (gb345 ≠ gb344))
  (HJ9 : Aside0 (kj9 + 1 ≤ k)) :
  (dropC 11 (Tryz.f3.body.getD Code.skip)).wp Tryz.prog (bodyPost Tryz.prog Tryz.f3 fun e w' => e = .returned (.bool r) ∧ Below w.heap.size w w') (Act.mk (List.toArray ((Value.int IntKind.i64 a0) :: (Value.slice A1 l1.length c1) :: (Value.int IntKind.i64 a2) :: (Value.int IntKind.i64 a3) :: (Value.agg #[Value.int IntKind.i64 a4_0, Value.int IntKind.i64 a4_1]) :: (Value.agg #[Value.int IntKind.i64 a5_0, Value.int IntKind.i64 a5_1]) :: (Value.int IntKind.i64 a6) :: (Value.slice A7 l7.length c7) :: (Value.string a8) :: x9 :: x10 :: x11 :: x12 :: (Value.pointer (some ⟨gb344, 0, none⟩)) :: (Value.pointer (some ⟨gb345, 0, none⟩)) :: x15 :: x16 :: x17 :: x18 :: v348 :: (Value.bool t347) :: x21 :: x22 :: v356 :: (Value.bool t355) :: x25 :: x26 :: (Value.int IntKind.i64 t362) :: x28 :: x29 :: x30 :: (Value.int IntKind.i64 t366) :: (Value.int IntKind.i64 t367) :: x33 :: x34 :: x35 :: x36 :: x37 :: x38 :: x39 :: x40 :: x41 :: x42 :: x43 :: x44 :: x45 :: x46 :: x47 :: x48 :: x49 :: x50 :: x51 :: x52 :: x53 :: x54 :: x55 :: x56 :: x57 :: x58 :: x59 :: x60 :: x61 :: x62 :: x63 :: x64 :: x65 :: x66 :: x67 :: x68 :: x69 :: x70 :: x71 :: x72 :: x73 :: x74 :: x75 :: x76 :: x77 :: x78 :: x79 :: x80 :: x81 :: x82 :: x83 :: x84 :: x85 :: x86 :: x87 :: x88 :: x89 :: x90 :: x91 :: x92 :: x93 :: x94 :: x95 :: x96 :: x97 :: x98 :: x99 :: x100 :: x101 :: x102 :: x103 :: x104 :: x105 :: x106 :: x107 :: x108 :: x109 :: x110 :: x111 :: x112 :: x113 :: x114 :: x115 :: x116 :: x117 :: x118 :: x119 :: x120 :: x121 :: x122 :: x123 :: x124 :: x125 :: x126 :: x127 :: x128 :: x129 :: x130 :: x131 :: x132 :: x133 :: x134 :: x135 :: x136 :: x137 :: x138 :: x139 :: x140 :: x141 :: x142 :: x143 :: x144 :: x145 :: x146 :: x147 :: x148 :: x149 :: x150 :: x151 :: x152 :: x153 :: x154 :: x155 :: x156 :: x157 :: x158 :: x159 :: x160 :: x161 :: x162 :: x163 :: x164 :: x165 :: x166 :: x167 :: x168 :: x169 :: x170 :: x171 :: x172 :: x173 :: x174 :: x175 :: x176 :: x177 :: x178 :: x179 :: x180 :: x181 :: x182 :: x183 :: x184 :: x185 :: x186 :: x187 :: x188 :: x189 :: x190 :: x191 :: x192 :: x193 :: x194 :: x195 :: x196 :: x197 :: x198 :: x199 :: x200 :: x201 :: x202 :: x203 :: x204 :: x205 :: x206 :: x207 :: x208 :: x209 :: x210 :: x211 :: x212 :: x213 :: x214 :: x215 :: x216 :: x217 :: x218 :: x219 :: x220 :: x221 :: x222 :: x223 :: x224 :: x225 :: x226 :: x227 :: x228 :: x229 :: x230 :: x231 :: x232 :: x233 :: x234 :: x235 :: x236 :: x237 :: x238 :: x239 :: x240 :: x241 :: x242 :: x243 :: x244 :: x245 :: x246 :: x247 :: x248 :: x249 :: x250 :: x251 :: x252 :: x253 :: x254 :: x255 :: x256 :: x257 :: x258 :: x259 :: x260 :: x261 :: x262 :: x263 :: x264 :: x265 :: x266 :: x267 :: x268 :: x269 :: x270 :: x271 :: x272 :: x273 :: x274 :: x275 :: x276 :: x277 :: x278 :: x279 :: x280 :: x281 :: x282 :: x283 :: x284 :: x285 :: x286 :: x287 :: x288 :: x289 :: x290 :: x291 :: x292 :: x293 :: x294 :: x295 :: x296 :: x297 :: x298 :: x299 :: x300 :: x301 :: x302 :: x303 :: x304 :: x305 :: x306 :: x307 :: x308 :: x309 :: x310 :: x311 :: x312 :: x313 :: x314 :: x315 :: x316 :: x317 :: x318 :: x319 :: x320 :: x321 :: x322 :: x323 :: x324 :: x325 :: x326 :: x327 :: x328 :: x329 :: x330 :: x331 :: x332 :: x333 :: x334 :: x335 :: x336 :: x337 :: x338 :: x339 :: x340 :: x341 :: x342 :: x343 :: x344 :: x345 :: x346 :: x347 :: x348 :: x349 :: x350 :: x351 :: x352 :: x353 :: x354 :: x355 :: x356 :: x357 :: x358 :: x359 :: x360 :: x361 :: x362 :: x363 :: x364 :: x365 :: x366 :: x367 :: x368 :: x369 :: x370 :: x371 :: x372 :: x373 :: x374 :: x375 :: x376 :: x377 :: x378 :: x379 :: x380 :: x381 :: x382 :: x383 :: x384 :: x385 :: x386 :: x387 :: x388 :: x389 :: x390 :: x391 :: x392 :: x393 :: x394 :: x395 :: x396 :: x397 :: x398 :: x399 :: x400 :: x401 :: x402 :: x403 :: x404 :: x405 :: x406 :: x407 :: x408 :: x409 :: x410 :: x411 :: x412 :: x413 :: x414 :: x415 :: x416 :: x417 :: x418 :: x419 :: x420 :: x421 :: x422 :: x423 :: x424 :: x425 :: x426 :: x427 :: x428 :: x429 :: x430 :: x431 :: x432 :: x433 :: x434 :: x435 :: x436 :: x437 :: x438 :: x439 :: x440 :: x441 :: x442 :: x443 :: x444 :: x445 :: x446 :: x447 :: x448 :: x449 :: x450 :: x451 :: x452 :: x453 :: x454 :: x455 :: x456 :: x457 :: x458 :: x459 :: x460 :: x461 :: x462 :: x463 :: x464 :: x465 :: x466 :: x467 :: x468 :: x469 :: x470 :: x471 :: x472 :: x473 :: x474 :: x475 :: x476 :: x477 :: x478 :: x479 :: x480 :: x481 :: x482 :: x483 :: x484 :: x485 :: x486 :: x487 :: x488 :: x489 :: x490 :: x491 :: x492 :: x493 :: x494 :: x495 :: x496 :: x497 :: x498 :: x499 :: x500 :: x501 :: x502 :: x503 :: x504 :: x505 :: x506 :: x507 :: x508 :: x509 :: x510 :: x511 :: x512 :: x513 :: x514 :: x515 :: x516 :: x517 :: x518 :: x519 :: x520 :: x521 :: x522 :: x523 :: x524 :: x525 :: x526 :: x527 :: x528 :: x529 :: x530 :: x531 :: x532 :: x533 :: x534 :: x535 :: x536 :: x537 :: x538 :: x539 :: x540 :: x541 :: x542 :: x543 :: x544 :: x545 :: x546 :: x547 :: x548 :: x549 :: x550 :: x551 :: [])) []) wc := by
 have hu24 := Tryz.underlying24
 change Code.wp _ (Code.seq _ _) _ _ _
 (try simp only [List.append_eq, List.cons_append, List.nil_append])
 cases kq with
 | zero => exact absurd HA.out (by simp [laws_FnShadowsDarkOfAll.j1])
 | succ kj23 =>
  have H := HA.out
  clear HA
  simp only [laws_FnShadowsDarkOfAll.j1] at H
  have c120 : ¬ (x228_23 = true) := fun c120 => by rw [if_pos c120] at H; (with_reducible first | exact dS H hr | exact d1 H hr | exact d2 H hr | exact d4 H hr | exact d11 H hr | exact d14 H hr | cases H)
  replace c120 := Bool.eq_false_iff.mpr c120
  subst c120
  rw [if_neg (show ¬ (false = true) by decide)] at H
  have HC121 := Aside0.mk H
  clear H
  go_upto_if 229 with (fail)
  rename_i K1 hK1
  have HK : Aside0 (∀ a w_, (dropC 12 (Tryz.f3.body.getD Code.skip)).wp Tryz.prog (bodyPost Tryz.prog Tryz.f3 fun e w' => e = .returned (.bool r) ∧ Below w.heap.size w w') a w_ → K1 a w_) := ⟨hK1⟩
  clear hK1
  go_cut [] from 229 to 229 (fun wc => ∃ (kq : Nat), Aside0 (laws_FnShadowsDarkOfAll.j10 kq a3 a6 l7 a8 a4_0 a4_1 a5_0 a5_1 = some r) ∧ Aside0 (kq ≤ kj23) ∧ Aside0 (wc.heap[gb344]? = some (.cells #[.int .i64 a4_0, .int .i64 a4_1] 24 (0, 0))) ∧ Aside0 (wc.heap[gb345]? = some (.cells #[.int .i64 a5_0, .int .i64 a5_1] 24 (0, 0))) ∧ Aside0 (Below w.heap.size w wc))
  case first => as_aux_lemma =>
   have H := HC121.out
   clear HC121
   by_cases c122 : t355 = true
   ·subst c122
    rw [if_pos rfl] at H
    have c123 : 0 ≤ t362 := Decidable.byContradiction fun c123 => by rw [if_neg c123] at H; (with_reducible first | exact dS H hr | exact d1 H hr | exact d2 H hr | exact d4 H hr | exact d11 H hr | exact d14 H hr | cases H)
    rw [if_pos c123] at H
    have c123b0 : decide (0 ≤ t362) = true := decide_eq_true c123
    clear c123
    (first | rw [c123b0] | (simp only [i64_w, i32_w]; rw [c123b0]) | skip)
    have c124 : t362 < (l1.length : Int) := Decidable.byContradiction fun c124 => by rw [if_neg c124] at H; (with_reducible first | exact dS H hr | exact d1 H hr | exact d2 H hr | exact d4 H hr | exact d11 H hr | exact d14 H hr | cases H)
    rw [if_pos c124] at H
    have c124b0 : decide (t362 < (l1.length : Int)) = true := decide_eq_true c124
    clear c124
    replace H := Option.bind_eq_some_iff.mp H
    obtain ⟨⟨t378, t379, t380⟩, A1250, H⟩ := H
    try dsimp only at H
    have A125 := Aside0.mk A1250
    clear A1250
    have HC126 := Aside0.mk H
    clear H
    have p377 : 0 ≤ (t362 : Int) := of_decide_eq_true (by first | (with_reducible assumption) | assumption)
    have q377 : t362 < (l1.length : Int) := of_decide_eq_true (by first | (with_reducible assumption) | assumption)
    obtain ⟨ad377, e377, hx377_0, hx377_1⟩ := at_T24 HR1.out t362 p377 q377
    cases e377
    replace hx377_0 := (HB.out.cell (World.block_lt_of_cell? w _ hx377_0)).trans hx377_0
    replace hx377_1 := (HB.out.cell (World.block_lt_of_cell? w _ hx377_1)).trans hx377_1
    replace p377 := eq_true p377
    replace q377 := eq_true q377
    go_upto_region 16 with (first | ((with_reducible refine gate_callee (f := 15) rfl ?_); refine goesL_ (some 236) rfl rfl Tryz.func15 (by kernel_rfl) rfl #[.int .i64 a0, .agg #[.int .i64 ((rd_T24 l1 t362).f0), .int .i64 ((rd_T24 l1 t362).f1)]] rfl (by (try simp only [List.map_toArray, List.map_cons, List.map_nil]); first | done | rfl) ?_; (with_reducible refine (impl_ShadowLength.calls kj23 a0 ((rd_T24 l1 t362).f0) ((rd_T24 l1 t362).f1) t378 t379 t380 _ A125.out).mono ?_); rintro e w127 ⟨rfl, hb⟩; refine ⟨_, rfl, ?_⟩; have n0_ := Aside0.mk (Kd.R_below (by (with_reducible repeat (first | apply Kd.R_alloc | apply Kd.R_drewN | apply Kd.R_drew)); exact HO_19.out) hb); have n1_ := Aside0.mk (Kd.R_below (by (with_reducible repeat (first | apply Kd.R_alloc | apply Kd.R_drewN | apply Kd.R_drew)); exact HO_23.out) hb); have n2_ := Aside0.mk (blk_below (g := gb344) (o := .cells #[.int .i64 a4_0, .int .i64 a4_1] 24 (0, 0)) (by (with_reducible repeat (first | refine blk_drewN ?_ _ | refine blk_drew ?_ | refine blk_alloc ?_ _)); exact BK344.out) hb); have n3_ := Aside0.mk (blk_below (g := gb345) (o := .cells #[.int .i64 a5_0, .int .i64 a5_1] 24 (0, 0)) (by (with_reducible repeat (first | refine blk_drewN ?_ _ | refine blk_drew ?_ | refine blk_alloc ?_ _)); exact BK345.out) hb); have n4_ := Aside0.mk (below_step (by repeat (first | (with_reducible first | exact HB.out | apply below_alloc | apply pw_below_drewN | apply below_drew1 | refine below_set ?_ GE344.out | refine below_set ?_ GE345.out) | exact HB.out)) hb); clear HO_19; clear HO_23; clear BK344; clear BK345; clear HB; have HO_19 := n0_; have HO_23 := n1_; have BK344 := n2_; have BK345 := n3_; have HB := n4_; clear n0_ n1_ n2_ n3_ n4_; (try clear hb); (try clear hb2); (try clear hk); (try clear hi)))
    (try simp only [Act.put, List.setIfInBounds_toArray, List.set_cons_zero, List.set_cons_succ])
    go_cut [250] from 250 to 250 (fun v250 wc => ∃ (kq : Nat) (x250_125 : Bool), v250 = .bool x250_125 ∧ Aside0 (laws_FnShadowsDarkOfAll.j2 kq a0 l1 a2 a3 a6 l7 a8 t346 t347 t354 t362 t366 t367 false t378 t379 x250_125 a4_0 a4_1 a5_0 a5_1 = some r) ∧ Aside0 (kq ≤ kj23) ∧ Aside0 (Kd.R (Kd.int .i64) 3 wc w.heap.size (fun k_ => some k_ ≠ (v356 : Value).ownBlock) v348 t346) ∧ Aside0 (Kd.R (Kd.int .i64) 3 wc w.heap.size (fun k_ => some k_ ≠ (v348 : Value).ownBlock) v356 t354) ∧ Aside0 (wc.heap[gb344]? = some (.cells #[.int .i64 a4_0, .int .i64 a4_1] 24 (0, 0))) ∧ Aside0 (wc.heap[gb345]? = some (.cells #[.int .i64 a5_0, .int .i64 a5_1] 24 (0, 0))) ∧ Aside0 (Below w.heap.size w wc))
    case first => as_aux_lemma =>
     have H := HC126.out
     clear HC126
     have c128 : t380 = true := Decidable.byContradiction fun c128 => by rw [if_neg c128] at H; (with_reducible first | exact dS H hr | exact d1 H hr | exact d2 H hr | exact d4 H hr | exact d11 H hr | exact d14 H hr | cases H)
     subst c128
     rw [if_pos rfl] at H
     replace H := Option.bind_eq_some_iff.mp H
     obtain ⟨t381, A1290, H⟩ := H
     try dsimp only at H
     have A129 := Aside0.mk A1290
     clear A1290
     have c130 : t381 = true := Decidable.byContradiction fun c130 => by rw [if_neg c130] at H; (with_reducible first | exact dS H hr | exact d1 H hr | exact d2 H hr | exact d4 H hr | exact d11 H hr | exact d14 H hr | cases H)
     subst c130
     rw [if_pos rfl] at H
     replace H := Option.bind_eq_some_iff.mp H
     obtain ⟨t382, A1310, H⟩ := H
     try dsimp only at H
     have A131 := Aside0.mk A1310
     clear A1310
     have H' := Aside0.mk H
     clear H
     obtain ⟨Ao132, co132, eo132⟩ := Kd.R_slice HO_23.out
     subst eo132
     go_wp2_with (first | (go_at_call 16; (with_reducible refine (laws_yRises.calls kj23 _ _ t354 true _ ?side1 ?side2 A129.out).mono ?_); (case side1 => repeat (first | exact (Kd.R_reads' HO_23.out).2.2 | (with_reducible refine Kd.C_alloc ?_ _) | (with_reducible refine Kd.C_drewN ?_ _) | (with_reducible refine Kd.C_drew ?_))); (case side2 => exact (Kd.R_reads' HO_23.out).2.1); rintro e w' ⟨rfl, ⟨nd, rfl⟩⟩) | (go_at_call 17; (with_reducible refine (laws_yHas.calls kj23 _ _ t354 0 t382 _ ?side1 ?side2 A131.out).mono ?_); (case side1 => repeat (first | exact (Kd.R_reads' HO_23.out).2.2 | (with_reducible refine Kd.C_alloc ?_ _) | (with_reducible refine Kd.C_drewN ?_ _) | (with_reducible refine Kd.C_drew ?_))); (case side2 => exact (Kd.R_reads' HO_23.out).2.1); rintro e w' ⟨rfl, ⟨nd, rfl⟩⟩))
     go_meet
     case rel => exact ⟨_, (t382), (by first | rfl | (simp; done) | (simp [*]; done)), H', ⟨by have := HJ9.out; have := HJ23.out; first | omega | exact Nat.le_refl _⟩, ⟨by (with_reducible repeat (first | apply Kd.R_alloc | apply Kd.R_drewN | apply Kd.R_drew)); exact HO_19.out⟩, ⟨by (with_reducible repeat (first | apply Kd.R_alloc | apply Kd.R_drewN | apply Kd.R_drew)); exact HO_23.out⟩, ⟨by (with_reducible repeat (first | refine blk_drewN ?_ _ | refine blk_drew ?_ | refine blk_alloc ?_ _)); exact BK344.out⟩, ⟨by (with_reducible repeat (first | refine blk_drewN ?_ _ | refine blk_drew ?_ | refine blk_alloc ?_ _)); exact BK345.out⟩, ⟨by repeat (first | (with_reducible first | exact HB.out | apply below_alloc | apply pw_below_drewN | apply below_drew1 | refine below_set ?_ GE344.out | refine below_set ?_ GE345.out) | exact HB.out)⟩⟩
    case rest => as_aux_lemma =>
     clear HC126
     obtain ⟨kq, x250_125, rfl, HA, HJ125, HO_19, HO_23, BK344, BK345, HB⟩ := hcut
     cases kq with
     | zero => exact absurd HA.out (by simp [laws_FnShadowsDarkOfAll.j2])
     | succ kj125 =>
      have H := HA.out
      clear HA
      simp only [laws_FnShadowsDarkOfAll.j2] at H
      have c134 : ¬ (x250_125 = true) := fun c134 => by rw [if_pos c134] at H; (with_reducible first | exact dS H hr | exact d1 H hr | exact d2 H hr | exact d4 H hr | exact d11 H hr | exact d14 H hr | cases H)
      replace c134 := Bool.eq_false_iff.mpr c134
      subst c134
      rw [if_neg (show ¬ (false = true) by decide)] at H
      have H' := Aside0.mk H
      clear H
      go_wp2
      go_loopg [37, 253] kj125 (fun kq v37 v253 w' => ∃ (x37_4 : Bool) (x253_4 : Int), v37 = .bool x37_4 ∧ v253 = .int .i64 x253_4 ∧ Aside0 (laws_FnShadowsDarkOfAll.l0 kq a0 l1 a2 a3 a6 l7 a8 t346 t347 t354 t362 t366 t367 x37_4 t378 t379 l1 (l1.length : Int) x253_4 a4_0 a4_1 a5_0 a5_1 = some r) ∧ Aside0 (kq ≤ kj125) ∧ Aside0 (Kd.R (Kd.int .i64) 3 w' w.heap.size (fun k_ => some k_ ≠ (v356 : Value).ownBlock) v348 t346) ∧ Aside0 (Kd.R (Kd.int .i64) 3 w' w.heap.size (fun k_ => some k_ ≠ (v348 : Value).ownBlock) v356 t354) ∧ Aside0 (w'.heap[gb344]? = some (.cells #[.int .i64 a4_0, .int .i64 a4_1] 24 (0, 0))) ∧ Aside0 (w'.heap[gb345]? = some (.cells #[.int .i64 a5_0, .int .i64 a5_1] 24 (0, 0))) ∧ Aside0 (Below w.heap.size w w'))
      case atStart => exact ⟨(false), (0), (by first | rfl | (simp; done) | (simp [*]; done)), (by first | rfl | (simp; done) | (simp [*]; done)), H', ⟨Nat.le_refl _⟩, ⟨by (with_reducible repeat (first | apply Kd.R_alloc | apply Kd.R_drewN | apply Kd.R_drew)); exact HO_19.out⟩, ⟨by (with_reducible repeat (first | apply Kd.R_alloc | apply Kd.R_drewN | apply Kd.R_drew)); exact HO_23.out⟩, ⟨by (with_reducible repeat (first | refine blk_drewN ?_ _ | refine blk_drew ?_ | refine blk_alloc ?_ _)); exact BK344.out⟩, ⟨by (with_reducible repeat (first | refine blk_drewN ?_ _ | refine blk_drew ?_ | refine blk_alloc ?_ _)); exact BK345.out⟩, ⟨by repeat (first | (with_reducible first | exact HB.out | apply below_alloc | apply pw_below_drewN | apply below_drew1 | refine below_set ?_ GE344.out | refine below_set ?_ GE345.out) | exact HB.out)⟩⟩
      case round => as_aux_lemma =>
       clear H'
       obtain ⟨x37_4, x253_4, rfl, rfl, HA, HK4, HO_19, HO_23, BK344, BK345, HB⟩ := hrel
       cases gk with
       | zero => exact absurd HA.out (by simp [laws_FnShadowsDarkOfAll.l0])
       | succ k4 =>
        have H := HA.out
        clear HA
        simp only [laws_FnShadowsDarkOfAll.l0] at H
        by_cases c135 : x253_4 < (l1.length : Int)
        ·rw [if_pos c135] at H
         have c135b0 : decide (x253_4 < (l1.length : Int)) = true := decide_eq_true c135
         clear c135
         have c136 : 0 ≤ x253_4 := Decidable.byContradiction fun c136 => by rw [if_neg c136] at H; (with_reducible first | exact dS H hr | exact d1 H hr | exact d2 H hr | exact d4 H hr | exact d11 H hr | exact d14 H hr | cases H)
         rw [if_pos c136] at H
         have c136b0 : decide (0 ≤ x253_4) = true := decide_eq_true c136
         clear c136
         have c137 : x253_4 < (l1.length : Int) := Decidable.byContradiction fun c137 => by rw [if_neg c137] at H; (with_reducible first | exact dS H hr | exact d1 H hr | exact d2 H hr | exact d4 H hr | exact d11 H hr | exact d14 H hr | cases H)
         rw [if_pos c137] at H
         have c137b0 : decide (x253_4 < (l1.length : Int)) = true := decide_eq_true c137
         clear c137
         replace H := Option.bind_eq_some_iff.mp H
         obtain ⟨⟨t385, t386, t387⟩, A1380, H⟩ := H
         try dsimp only at H
         have A138 := Aside0.mk A1380
         clear A1380
         replace H := Option.bind_eq_some_iff.mp H
         obtain ⟨⟨t388, t389, t390⟩, A1390, H⟩ := H
         try dsimp only at H
         have A139 := Aside0.mk A1390
         clear A1390
         have HC140 := Aside0.mk H
         clear H
         have p383 : 0 ≤ (x253_4 : Int) := of_decide_eq_true (by first | (with_reducible assumption) | assumption)
         have q383 : x253_4 < (l1.length : Int) := of_decide_eq_true (by first | (with_reducible assumption) | assumption)
         obtain ⟨ad383, e383, hx383_0, hx383_1⟩ := at_T24 HR1.out x253_4 p383 q383
         obtain rfl : ad377 = ad383 := (by injection e383)
         replace hx383_0 := (HB.out.cell (World.block_lt_of_cell? w _ hx383_0)).trans hx383_0
         replace hx383_1 := (HB.out.cell (World.block_lt_of_cell? w _ hx383_1)).trans hx383_1
         replace p383 := eq_true p383
         replace q383 := eq_true q383
         go_upto_region 23 with (first | ((with_reducible refine gate_dst (N := 42) rfl ?_); (try (refine gate_guard (by rfl) ?_; dsimp only)); refine box_event ?hg (N := 42) ?hd (cs := #[.int .i64 0, .int .i64 0]) (t := 24) ?hr ?_; (case hd => rfl); (case hg => rfl); (case hr => first | (go_simp; done) | (go_simp; rfl)); intro gb384 hg w141 hbox hb; have n0_ := Aside0.mk (Kd.R_below (by (with_reducible repeat (first | apply Kd.R_alloc | apply Kd.R_drewN | apply Kd.R_drew)); exact HO_19.out) hb); have n1_ := Aside0.mk (Kd.R_below (by (with_reducible repeat (first | apply Kd.R_alloc | apply Kd.R_drewN | apply Kd.R_drew)); exact HO_23.out) hb); have n2_ := Aside0.mk (blk_below (g := gb344) (o := .cells #[.int .i64 a4_0, .int .i64 a4_1] 24 (0, 0)) (by (with_reducible repeat (first | refine blk_drewN ?_ _ | refine blk_drew ?_ | refine blk_alloc ?_ _)); exact BK344.out) hb); have n3_ := Aside0.mk (blk_below (g := gb345) (o := .cells #[.int .i64 a5_0, .int .i64 a5_1] 24 (0, 0)) (by (with_reducible repeat (first | refine blk_drewN ?_ _ | refine blk_drew ?_ | refine blk_alloc ?_ _)); exact BK345.out) hb); have n4_ := Aside0.mk (below_step (by repeat (first | (with_reducible first | exact HB.out | apply below_alloc | apply pw_below_drewN | apply below_drew1 | refine below_set ?_ GE344.out | refine below_set ?_ GE345.out) | exact HB.out)) hb); have n5_ := Aside0.mk (hbox); have n6_ := Aside0.mk ((by rw [hg]; exact (below_size (by repeat (first | (with_reducible first | exact HB.out | apply below_alloc | apply pw_below_drewN | apply below_drew1 | refine below_set ?_ GE344.out | refine below_set ?_ GE345.out) | exact HB.out))) : w.heap.size ≤ gb384)); have n7_ := n6_; have n8_ := Aside0.mk ((by rw [hg]; exact Nat.ne_of_lt (blk_lt (g := gb344) (o := .cells #[.int .i64 a4_0, .int .i64 a4_1] 24 (0, 0)) (by (with_reducible repeat (first | refine blk_drewN ?_ _ | refine blk_drew ?_ | refine blk_alloc ?_ _)); exact BK344.out)) : gb344 ≠ gb384)); have n9_ := Aside0.mk ((by rw [hg]; exact Nat.ne_of_gt (blk_lt (g := gb344) (o := .cells #[.int .i64 a4_0, .int .i64 a4_1] 24 (0, 0)) (by (with_reducible repeat (first | refine blk_drewN ?_ _ | refine blk_drew ?_ | refine blk_alloc ?_ _)); exact BK344.out)) : gb384 ≠ gb344)); have n10_ := Aside0.mk ((by rw [hg]; exact Nat.ne_of_lt (blk_lt (g := gb345) (o := .cells #[.int .i64 a5_0, .int .i64 a5_1] 24 (0, 0)) (by (with_reducible repeat (first | refine blk_drewN ?_ _ | refine blk_drew ?_ | refine blk_alloc ?_ _)); exact BK345.out)) : gb345 ≠ gb384)); have n11_ := Aside0.mk ((by rw [hg]; exact Nat.ne_of_gt (blk_lt (g := gb345) (o := .cells #[.int .i64 a5_0, .int .i64 a5_1] 24 (0, 0)) (by (with_reducible repeat (first | refine blk_drewN ?_ _ | refine blk_drew ?_ | refine blk_alloc ?_ _)); exact BK345.out)) : gb384 ≠ gb345)); clear HO_19; clear HO_23; clear BK344; clear BK345; clear HB; have HO_19 := n0_; have HO_23 := n1_; have BK344 := n2_; have BK345 := n3_; have HB := n4_; have BK384 := n5_; have GW384 := n6_; have GE384 := n7_; have NB344_384 := n8_; have NB384_344 := n9_; have NB345_384 := n10_; have NB384_345 := n11_; clear n0_ n1_ n2_ n3_ n4_ n5_ n6_ n7_ n8_ n9_ n10_ n11_; clear hb hbox hg; have hnb142 := NB384_344.out; have hnc142 := NB344_384.out; have hnb143 := NB384_345.out; have hnc143 := NB345_384.out; have hcz144_0 : w141.cell? ⟨gb384, 0, none⟩ = some (.int .i64 0) := (blk_cell BK384.out 0).trans rfl; have hcz144_1 : w141.cell? ⟨gb384, 1, none⟩ = some (.int .i64 0) := (blk_cell BK384.out 1).trans rfl; have hfz144_0 := blk_frozen BK384.out 0; have hfz144_1 := blk_frozen BK384.out 1) | ((with_reducible refine gate_callee (f := 18) rfl ?_); refine goesL_ (some 261) rfl rfl Tryz.func18 (by kernel_rfl) rfl #[.int .i64 a0, .agg #[.int .i64 ((rd_T24 l1 x253_4).f0), .int .i64 ((rd_T24 l1 x253_4).f1)]] rfl (by (try simp only [List.map_toArray, List.map_cons, List.map_nil]); first | done | rfl) ?_; (with_reducible refine (impl_ShadowEnd.calls k4 a0 ((rd_T24 l1 x253_4).f0) ((rd_T24 l1 x253_4).f1) t385 t386 t387 _ A138.out).mono ?_); rintro e w145 ⟨rfl, hb⟩; refine ⟨_, rfl, ?_⟩; have n0_ := Aside0.mk (Kd.R_below (by (with_reducible repeat (first | apply Kd.R_alloc | apply Kd.R_drewN | apply Kd.R_drew)); exact (Kd.R_mono (Kd.R_far (p := ⟨gb384, 1, none⟩) (Kd.R_far (p := ⟨gb384, 0, none⟩) (Kd.R_types HO_19.out BK384.out (by decide)) (fun _ hk => hk.2) (.int .i64 ((rd_T24 l1 x253_4).f0))) (fun _ hk => hk.2) (.int .i64 ((rd_T24 l1 x253_4).f1))) (fun _ h_ => h_.1))) hb); have n1_ := Aside0.mk (Kd.R_below (by (with_reducible repeat (first | apply Kd.R_alloc | apply Kd.R_drewN | apply Kd.R_drew)); exact (Kd.R_mono (Kd.R_far (p := ⟨gb384, 1, none⟩) (Kd.R_far (p := ⟨gb384, 0, none⟩) (Kd.R_types HO_23.out BK384.out (by decide)) (fun _ hk => hk.2) (.int .i64 ((rd_T24 l1 x253_4).f0))) (fun _ hk => hk.2) (.int .i64 ((rd_T24 l1 x253_4).f1))) (fun _ h_ => h_.1))) hb); have n2_ := Aside0.mk (blk_below (g := gb344) (o := .cells #[.int .i64 a4_0, .int .i64 a4_1] 24 (0, 0)) (by (with_reducible repeat (first | refine blk_drewN ?_ _ | refine blk_drew ?_ | refine blk_alloc ?_ _)); refine blk_far ?_ NB344_384.out _; (with_reducible repeat (first | refine blk_drewN ?_ _ | refine blk_drew ?_ | refine blk_alloc ?_ _)); refine blk_far ?_ NB344_384.out _; (with_reducible repeat (first | refine blk_drewN ?_ _ | refine blk_drew ?_ | refine blk_alloc ?_ _)); exact BK344.out) hb); have n3_ := Aside0.mk (blk_below (g := gb345) (o := .cells #[.int .i64 a5_0, .int .i64 a5_1] 24 (0, 0)) (by (with_reducible repeat (first | refine blk_drewN ?_ _ | refine blk_drew ?_ | refine blk_alloc ?_ _)); refine blk_far ?_ NB345_384.out _; (with_reducible repeat (first | refine blk_drewN ?_ _ | refine blk_drew ?_ | refine blk_alloc ?_ _)); refine blk_far ?_ NB345_384.out _; (with_reducible repeat (first | refine blk_drewN ?_ _ | refine blk_drew ?_ | refine blk_alloc ?_ _)); exact BK345.out) hb); have n4_ := Aside0.mk (blk_below (g := gb384) (o := .cells #[.int .i64 ((rd_T24 l1 x253_4).f0), .int .i64 ((rd_T24 l1 x253_4).f1)] 24 (0, 0)) (by (with_reducible repeat (first | refine blk_drewN ?_ _ | refine blk_drew ?_ | refine blk_alloc ?_ _)); refine blk_put (cs := #[.int .i64 ((rd_T24 l1 x253_4).f0), .int .i64 0]) ?_ 1 _ rfl; (with_reducible repeat (first | refine blk_drewN ?_ _ | refine blk_drew ?_ | refine blk_alloc ?_ _)); refine blk_put (cs := #[.int .i64 0, .int .i64 0]) ?_ 0 _ rfl; (with_reducible repeat (first | refine blk_drewN ?_ _ | refine blk_drew ?_ | refine blk_alloc ?_ _)); exact BK384.out) hb); have n5_ := Aside0.mk (below_step (by repeat (first | (with_reducible first | exact HB.out | apply below_alloc | apply pw_below_drewN | apply below_drew1 | refine below_set ?_ GE344.out | refine below_set ?_ GE345.out | refine below_set ?_ GE384.out) | exact HB.out)) hb); clear HO_19; clear HO_23; clear BK344; clear BK345; clear BK384; clear HB; have HO_19 := n0_; have HO_23 := n1_; have BK344 := n2_; have BK345 := n3_; have BK384 := n4_; have HB := n5_; clear n0_ n1_ n2_ n3_ n4_ n5_; (try clear hb); (try clear hb2); (try clear hk); (try clear hi); have hcz146_0 : w145.cell? ⟨gb384, 0, none⟩ = some (.int .i64 ((rd_T24 l1 x253_4).f0)) := (blk_cell BK384.out 0).trans rfl; have hcz146_1 : w145.cell? ⟨gb384, 1, none⟩ = some (.int .i64 ((rd_T24 l1 x253_4).f1)) := (blk_cell BK384.out 1).trans rfl; have hfz146_0 := blk_frozen BK384.out 0; have hfz146_1 := blk_frozen BK384.out 1) | ((with_reducible refine gate_callee (f := 15) rfl ?_); refine goesL_ (some 268) rfl rfl Tryz.func15 (by kernel_rfl) rfl #[.int .i64 a0, .agg #[.int .i64 ((rd_T24 l1 x253_4).f0), .int .i64 ((rd_T24 l1 x253_4).f1)]] rfl (by (try simp only [List.map_toArray, List.map_cons, List.map_nil]); first | done | rfl) ?_; (with_reducible refine (impl_ShadowLength.calls k4 a0 ((rd_T24 l1 x253_4).f0) ((rd_T24 l1 x253_4).f1) t388 t389 t390 _ A139.out).mono ?_); rintro e w147 ⟨rfl, hb⟩; refine ⟨_, rfl, ?_⟩; have n0_ := Aside0.mk (Kd.R_below (by (with_reducible repeat (first | apply Kd.R_alloc | apply Kd.R_drewN | apply Kd.R_drew)); exact HO_19.out) hb); have n1_ := Aside0.mk (Kd.R_below (by (with_reducible repeat (first | apply Kd.R_alloc | apply Kd.R_drewN | apply Kd.R_drew)); exact HO_23.out) hb); have n2_ := Aside0.mk (blk_below (g := gb344) (o := .cells #[.int .i64 a4_0, .int .i64 a4_1] 24 (0, 0)) (by (with_reducible repeat (first | refine blk_drewN ?_ _ | refine blk_drew ?_ | refine blk_alloc ?_ _)); exact BK344.out) hb); have n3_ := Aside0.mk (blk_below (g := gb345) (o := .cells #[.int .i64 a5_0, .int .i64 a5_1] 24 (0, 0)) (by (with_reducible repeat (first | refine blk_drewN ?_ _ | refine blk_drew ?_ | refine blk_alloc ?_ _)); exact BK345.out) hb); have n4_ := Aside0.mk (blk_below (g := gb384) (o := .cells #[.int .i64 ((rd_T24 l1 x253_4).f0), .int .i64 ((rd_T24 l1 x253_4).f1)] 24 (0, 0)) (by (with_reducible repeat (first | refine blk_drewN ?_ _ | refine blk_drew ?_ | refine blk_alloc ?_ _)); exact BK384.out) hb); have n5_ := Aside0.mk (below_step (by repeat (first | (with_reducible first | exact HB.out | apply below_alloc | apply pw_below_drewN | apply below_drew1 | refine below_set ?_ GE344.out | refine below_set ?_ GE345.out | refine below_set ?_ GE384.out) | exact HB.out)) hb); clear HO_19; clear HO_23; clear BK344; clear BK345; clear BK384; clear HB; have HO_19 := n0_; have HO_23 := n1_; have BK344 := n2_; have BK345 := n3_; have BK384 := n4_; have HB := n5_; clear n0_ n1_ n2_ n3_ n4_ n5_; (try clear hb); (try clear hb2); (try clear hk); (try clear hi)))
         (try simp only [Act.put, List.setIfInBounds_toArray, List.set_cons_zero, List.set_cons_succ])
         go_cut [309] from 309 to 309 (fun v309 wc => ∃ (kq : Nat) (x309_139 : Bool), v309 = .bool x309_139 ∧ Aside0 (laws_FnShadowsDarkOfAll.j4 kq a0 l1 a2 a3 a6 l7 a8 t346 t347 t354 t362 t366 t367 x37_4 t378 t379 x253_4 t385 t386 l1 (l1.length : Int) x253_4 x309_139 a4_0 a4_1 a5_0 a5_1 ((rd_T24 l1 x253_4).f0) ((rd_T24 l1 x253_4).f1) = some r) ∧ Aside0 (kq ≤ k4) ∧ Aside0 (Kd.R (Kd.int .i64) 3 wc w.heap.size (fun k_ => some k_ ≠ (v356 : Value).ownBlock) v348 t346) ∧ Aside0 (Kd.R (Kd.int .i64) 3 wc w.heap.size (fun k_ => some k_ ≠ (v348 : Value).ownBlock) v356 t354) ∧ Aside0 (wc.heap[gb344]? = some (.cells #[.int .i64 a4_0, .int .i64 a4_1] 24 (0, 0))) ∧ Aside0 (wc.heap[gb345]? = some (.cells #[.int .i64 a5_0, .int .i64 a5_1] 24 (0, 0))) ∧ Aside0 (wc.heap[gb384]? = some (.cells #[.int .i64 ((rd_T24 l1 x253_4).f0), .int .i64 ((rd_T24 l1 x253_4).f1)] 24 (0, 0))) ∧ Aside0 (Below w.heap.size w wc))
         case first => as_aux_lemma =>
          have H := HC140.out
          clear HC140
          have c148 : t387 = true := Decidable.byContradiction fun c148 => by rw [if_neg c148] at H; (with_reducible first | exact dS H hr | exact d1 H hr | exact d2 H hr | exact d4 H hr | exact d11 H hr | exact d14 H hr | cases H)
          subst c148
          rw [if_pos rfl] at H
          have c149 : ¬ ((wrap64 (t385 * t367)) > (wrap64 (t366 * t386))) := fun c149 => by rw [if_pos c149] at H; (with_reducible first | exact dS H hr | exact d1 H hr | exact d2 H hr | exact d4 H hr | exact d11 H hr | exact d14 H hr | cases H)
          rw [if_neg c149] at H
          have c149b0 : decide ((wrap64 (t366 * t386)) < (wrap64 (t385 * t367))) = false := decide_eq_false c149
          clear c149
          (first | rw [c149b0] | (simp only [i64_w, i32_w]; rw [c149b0]) | skip)
          have c150 : t390 = true := Decidable.byContradiction fun c150 => by rw [if_neg c150] at H; (with_reducible first | exact dS H hr | exact d1 H hr | exact d2 H hr | exact d4 H hr | exact d11 H hr | exact d14 H hr | cases H)
          subst c150
          rw [if_pos rfl] at H
          have c151 : ¬ ((wrap64 (t388 * t379)) > (wrap64 (t378 * t389))) := fun c151 => by rw [if_pos c151] at H; (with_reducible first | exact dS H hr | exact d1 H hr | exact d2 H hr | exact d4 H hr | exact d11 H hr | exact d14 H hr | cases H)
          rw [if_neg c151] at H
          have c151b0 : decide ((wrap64 (t378 * t389)) < (wrap64 (t388 * t379))) = false := decide_eq_false c151
          clear c151
          by_cases c152 : (wrap64 (t388 * t379)) = (wrap64 (t378 * t389))
          ·rw [if_pos c152] at H
           have c152b0 : ((wrap64 (t388 * t379)) == (wrap64 (t378 * t389))) = true := beq_iff_eq.mpr c152
           have c152b1 : ((wrap64 (t388 * t379)) != (wrap64 (t378 * t389))) = false := bne_eq_false_iff_eq.mpr c152
           clear c152
           have H' := Aside0.mk H
           clear H
           go_wp2
           go_meet
           case rel => exact ⟨_, (decide (x253_4 < t362)), (by first | rfl | (simp; done) | (simp [*]; done)), H', ⟨by have := HJ9.out; have := HJ23.out; have := HJ125.out; have := HK4.out; first | omega | exact Nat.le_refl _⟩, ⟨by (with_reducible repeat (first | apply Kd.R_alloc | apply Kd.R_drewN | apply Kd.R_drew)); exact HO_19.out⟩, ⟨by (with_reducible repeat (first | apply Kd.R_alloc | apply Kd.R_drewN | apply Kd.R_drew)); exact HO_23.out⟩, ⟨by (with_reducible repeat (first | refine blk_drewN ?_ _ | refine blk_drew ?_ | refine blk_alloc ?_ _)); exact BK344.out⟩, ⟨by (with_reducible repeat (first | refine blk_drewN ?_ _ | refine blk_drew ?_ | refine blk_alloc ?_ _)); exact BK345.out⟩, ⟨by (with_reducible repeat (first | refine blk_drewN ?_ _ | refine blk_drew ?_ | refine blk_alloc ?_ _)); exact BK384.out⟩, ⟨by repeat (first | (with_reducible first | exact HB.out | apply below_alloc | apply pw_below_drewN | apply below_drew1 | refine below_set ?_ GE344.out | refine below_set ?_ GE345.out | refine below_set ?_ GE384.out) | exact HB.out)⟩⟩
          ·rw [if_neg c152] at H
           have c152b0 : ((wrap64 (t388 * t379)) == (wrap64 (t378 * t389))) = false := beq_eq_false_iff_ne.mpr c152
           have c152b1 : ((wrap64 (t388 * t379)) != (wrap64 (t378 * t389))) = true := bne_iff_ne.mpr c152
           have H' := Aside0.mk H
           clear H
           go_wp2
           go_meet
           case rel => exact ⟨_, (false), (by first | rfl | (simp; done) | (simp [*]; done)), H', ⟨by have := HJ9.out; have := HJ23.out; have := HJ125.out; have := HK4.out; first | omega | exact Nat.le_refl _⟩, ⟨by (with_reducible repeat (first | apply Kd.R_alloc | apply Kd.R_drewN | apply Kd.R_drew)); exact HO_19.out⟩, ⟨by (with_reducible repeat (first | apply Kd.R_alloc | apply Kd.R_drewN | apply Kd.R_drew)); exact HO_23.out⟩, ⟨by (with_reducible repeat (first | refine blk_drewN ?_ _ | refine blk_drew ?_ | refine blk_alloc ?_ _)); exact BK344.out⟩, ⟨by (with_reducible repeat (first | refine blk_drewN ?_ _ | refine blk_drew ?_ | refine blk_alloc ?_ _)); exact BK345.out⟩, ⟨by (with_reducible repeat (first | refine blk_drewN ?_ _ | refine blk_drew ?_ | refine blk_alloc ?_ _)); exact BK384.out⟩, ⟨by repeat (first | (with_reducible first | exact HB.out | apply below_alloc | apply pw_below_drewN | apply below_drew1 | refine below_set ?_ GE344.out | refine below_set ?_ GE345.out | refine below_set ?_ GE384.out) | exact HB.out)⟩⟩
         case rest => as_aux_lemma =>
          clear HC140
          obtain ⟨kq, x309_139, rfl, HA, HJ139, HO_19, HO_23, BK344, BK345, BK384, HB⟩ := hcut
          cases kq with
          | zero => exact absurd HA.out (by simp [laws_FnShadowsDarkOfAll.j4])
          | succ kj139 =>
           have H := HA.out
           clear HA
           simp only [laws_FnShadowsDarkOfAll.j4] at H
           have c153 : ¬ (x309_139 = true) := fun c153 => by rw [if_pos c153] at H; (with_reducible first | exact dS H hr | exact d1 H hr | exact d2 H hr | exact d4 H hr | exact d11 H hr | exact d14 H hr | cases H)
           replace c153 := Bool.eq_false_iff.mpr c153
           subst c153
           rw [if_neg (show ¬ (false = true) by decide)] at H
           have HC154 := Aside0.mk H
           clear H
           go_upto_region 25 with (fail)
           go_cut [37] from 37 to 37 (fun v37 wc => ∃ (kq : Nat) (x37_153 : Bool), v37 = .bool x37_153 ∧ Aside0 (laws_FnShadowsDarkOfAll.j5 kq a0 l1 a2 a3 a6 l7 a8 t346 t347 t354 t362 t366 t367 x37_153 t378 t379 x253_4 l1 (l1.length : Int) x253_4 a4_0 a4_1 a5_0 a5_1 ((rd_T24 l1 x253_4).f0) ((rd_T24 l1 x253_4).f1) = some r) ∧ Aside0 (kq ≤ kj139) ∧ Aside0 (Kd.R (Kd.int .i64) 3 wc w.heap.size (fun k_ => some k_ ≠ (v356 : Value).ownBlock) v348 t346) ∧ Aside0 (Kd.R (Kd.int .i64) 3 wc w.heap.size (fun k_ => some k_ ≠ (v348 : Value).ownBlock) v356 t354) ∧ Aside0 (wc.heap[gb344]? = some (.cells #[.int .i64 a4_0, .int .i64 a4_1] 24 (0, 0))) ∧ Aside0 (wc.heap[gb345]? = some (.cells #[.int .i64 a5_0, .int .i64 a5_1] 24 (0, 0))) ∧ Aside0 (wc.heap[gb384]? = some (.cells #[.int .i64 ((rd_T24 l1 x253_4).f0), .int .i64 ((rd_T24 l1 x253_4).f1)] 24 (0, 0))) ∧ Aside0 (Below w.heap.size w wc))
           case first => as_aux_lemma =>
            have H := HC154.out
            clear HC154
            by_cases c155 : x37_4 = true
            ·subst c155
             rw [if_pos rfl] at H
             have H' := Aside0.mk H
             clear H
             go_wp2
             go_meet
             case rel => exact ⟨_, (true), (by first | rfl | (simp; done) | (simp [*]; done)), H', ⟨by have := HJ9.out; have := HJ23.out; have := HJ125.out; have := HK4.out; have := HJ139.out; first | omega | exact Nat.le_refl _⟩, ⟨by (with_reducible repeat (first | apply Kd.R_alloc | apply Kd.R_drewN | apply Kd.R_drew)); exact HO_19.out⟩, ⟨by (with_reducible repeat (first | apply Kd.R_alloc | apply Kd.R_drewN | apply Kd.R_drew)); exact HO_23.out⟩, ⟨by (with_reducible repeat (first | refine blk_drewN ?_ _ | refine blk_drew ?_ | refine blk_alloc ?_ _)); exact BK344.out⟩, ⟨by (with_reducible repeat (first | refine blk_drewN ?_ _ | refine blk_drew ?_ | refine blk_alloc ?_ _)); exact BK345.out⟩, ⟨by (with_reducible repeat (first | refine blk_drewN ?_ _ | refine blk_drew ?_ | refine blk_alloc ?_ _)); exact BK384.out⟩, ⟨by repeat (first | (with_reducible first | exact HB.out | apply below_alloc | apply pw_below_drewN | apply below_drew1 | refine below_set ?_ GE344.out | refine below_set ?_ GE345.out | refine below_set ?_ GE384.out) | exact HB.out)⟩⟩
            ·replace c155 := Bool.eq_false_iff.mpr c155
             subst c155
             rw [if_neg (show ¬ (false = true) by decide)] at H
             by_cases c156 : t385 = t366
             ·rw [if_pos c156] at H
              have c156b0 : (t385 == t366) = true := beq_iff_eq.mpr c156
              have c156b1 : (t385 != t366) = false := bne_eq_false_iff_eq.mpr c156
              clear c156
              (first | rw [c156b0] | (simp only [i64_w, i32_w]; rw [c156b0]) | skip)
              have H' := Aside0.mk H
              clear H
              go_wp2
              go_meet
              case rel => exact ⟨_, ((t386 == t367)), (by first | rfl | (simp; done) | (simp [*]; done)), H', ⟨by have := HJ9.out; have := HJ23.out; have := HJ125.out; have := HK4.out; have := HJ139.out; first | omega | exact Nat.le_refl _⟩, ⟨by (with_reducible repeat (first | apply Kd.R_alloc | apply Kd.R_drewN | apply Kd.R_drew)); exact HO_19.out⟩, ⟨by (with_reducible repeat (first | apply Kd.R_alloc | apply Kd.R_drewN | apply Kd.R_drew)); exact HO_23.out⟩, ⟨by (with_reducible repeat (first | refine blk_drewN ?_ _ | refine blk_drew ?_ | refine blk_alloc ?_ _)); exact BK344.out⟩, ⟨by (with_reducible repeat (first | refine blk_drewN ?_ _ | refine blk_drew ?_ | refine blk_alloc ?_ _)); exact BK345.out⟩, ⟨by (with_reducible repeat (first | refine blk_drewN ?_ _ | refine blk_drew ?_ | refine blk_alloc ?_ _)); exact BK384.out⟩, ⟨by repeat (first | (with_reducible first | exact HB.out | apply below_alloc | apply pw_below_drewN | apply below_drew1 | refine below_set ?_ GE344.out | refine below_set ?_ GE345.out | refine below_set ?_ GE384.out) | exact HB.out)⟩⟩
             ·rw [if_neg c156] at H
              have c156b0 : (t385 == t366) = false := beq_eq_false_iff_ne.mpr c156
              have c156b1 : (t385 != t366) = true := bne_iff_ne.mpr c156
              (first | rw [c156b0] | (simp only [i64_w, i32_w]; rw [c156b0]) | skip)
              have H' := Aside0.mk H
              clear H
              go_wp2
              go_meet
              case rel => exact ⟨_, (false), (by first | rfl | (simp; done) | (simp [*]; done)), H', ⟨by have := HJ9.out; have := HJ23.out; have := HJ125.out; have := HK4.out; have := HJ139.out; first | omega | exact Nat.le_refl _⟩, ⟨by (with_reducible repeat (first | apply Kd.R_alloc | apply Kd.R_drewN | apply Kd.R_drew)); exact HO_19.out⟩, ⟨by (with_reducible repeat (first | apply Kd.R_alloc | apply Kd.R_drewN | apply Kd.R_drew)); exact HO_23.out⟩, ⟨by (with_reducible repeat (first | refine blk_drewN ?_ _ | refine blk_drew ?_ | refine blk_alloc ?_ _)); exact BK344.out⟩, ⟨by (with_reducible repeat (first | refine blk_drewN ?_ _ | refine blk_drew ?_ | refine blk_alloc ?_ _)); exact BK345.out⟩, ⟨by (with_reducible repeat (first | refine blk_drewN ?_ _ | refine blk_drew ?_ | refine blk_alloc ?_ _)); exact BK384.out⟩, ⟨by repeat (first | (with_reducible first | exact HB.out | apply below_alloc | apply pw_below_drewN | apply below_drew1 | refine below_set ?_ GE344.out | refine below_set ?_ GE345.out | refine below_set ?_ GE384.out) | exact HB.out)⟩⟩
           case rest => as_aux_lemma =>
            clear HC154
            obtain ⟨kq, x37_153, rfl, HA, HJ153, HO_19, HO_23, BK344, BK345, BK384, HB⟩ := hcut
            cases kq with
            | zero => exact absurd HA.out (by simp [laws_FnShadowsDarkOfAll.j5])
            | succ kj153 =>
             have H := HA.out
             clear HA
             simp only [laws_FnShadowsDarkOfAll.j5] at H
             have c157 : 0 ≤ x253_4 := Decidable.byContradiction fun c157 => by rw [if_neg c157] at H; (with_reducible first | exact dS H hr | exact d1 H hr | exact d2 H hr | exact d4 H hr | exact d11 H hr | exact d14 H hr | cases H)
             rw [if_pos c157] at H
             have c157b0 := eq_true c157
             have c157b1 : decide (0 ≤ x253_4) = true := decide_eq_true c157
             clear c157
             have c158 : x253_4 ≤ (l1.length : Int) := Decidable.byContradiction fun c158 => by rw [if_neg c158] at H; (with_reducible first | exact dS H hr | exact d1 H hr | exact d2 H hr | exact d4 H hr | exact d11 H hr | exact d14 H hr | cases H)
             rw [if_pos c158] at H
             have c158b0 := eq_true c158
             have c158b1 : decide (x253_4 ≤ (l1.length : Int)) = true := decide_eq_true c158
             clear c158
             obtain ⟨y391, hy391⟩ : ∃ y_ : List (S24), y_ = (l1.take (x253_4 : Int).toNat) := ⟨_, rfl⟩
             replace H : (laws_FnShadowsDarkOfAll.l1 kj153 a0 l1 a2 a3 a6 l7 a8 t346 t347 t354 t362 t366 t367 x37_153 t378 t379 x253_4 false l1 (l1.length : Int) x253_4 y391 (y391.length : Int) 0 a4_0 a4_1 a5_0 a5_1 ((rd_T24 l1 x253_4).f0) ((rd_T24 l1 x253_4).f1)) = some r := by first | (rw [hy391]; with_reducible exact H) | (have H2_ := (Option.bind_some _ _).symm.trans H; rw [hy391]; with_reducible exact H2_) | (have H2_ := (Option.bind_some _ _).symm.trans H; with_reducible exact H2_) | with_reducible exact H | (rw [hy391]; exact H) | exact H
             have Ny391 := Aside0.mk hy391
             clear hy391
             have H' := Aside0.mk H
             clear H
             have q159 : (x253_4 : Int) ≤ ((l1.length : Int) : Int) := of_decide_eq_true (by first | (with_reducible assumption) | assumption)
             obtain ⟨i0159, hi0159, _, hsz159, _⟩ := info_parts info24
             have hroom159 : l1.length ≤ c1 := HC1.out
             have hC159 : Kd.C k24 _ (some ad377) l1.length l1 := HR1.out
             have hcut159 := cut_to (P := Tryz.prog) 22 24 .i64 Tryz.underlying22 hi0159 (some ad377) l1.length c1 x253_4 (of_decide_eq_true (by first | (with_reducible assumption) | assumption)) q159 hroom159
             have hr159 := Kd.C_take (m := (x253_4 : Int).toNat) hC159 (by omega)
             have hy159 : y391.length = (x253_4 : Int).toNat := (by rw [Ny391.out, List.length_take]; omega)
             rw [← Ny391.out] at hr159
             rw [← hy159] at hcut159
             have HR394 := Aside0.mk hr159
             have HC394 := Aside0.mk (show y391.length ≤ c1 from by omega)
             clear hr159 hC159 hroom159 hi0159 hsz159
             have KY159 := Aside0.mk hy159
             clear hy159
             replace q159 := eq_true q159
             go_wp2
             go_loopg [49, 325] kj153 (fun kq v49 v325 w' => ∃ (x49_7 : Bool) (x325_7 : Int), v49 = .bool x49_7 ∧ v325 = .int .i64 x325_7 ∧ Aside0 (laws_FnShadowsDarkOfAll.l1 kq a0 l1 a2 a3 a6 l7 a8 t346 t347 t354 t362 t366 t367 x37_153 t378 t379 x253_4 x49_7 l1 (l1.length : Int) x253_4 y391 (y391.length : Int) x325_7 a4_0 a4_1 a5_0 a5_1 ((rd_T24 l1 x253_4).f0) ((rd_T24 l1 x253_4).f1) = some r) ∧ Aside0 (kq ≤ kj153) ∧ Aside0 (Kd.R (Kd.int .i64) 3 w' w.heap.size (fun k_ => some k_ ≠ (v356 : Value).ownBlock) v348 t346) ∧ Aside0 (Kd.R (Kd.int .i64) 3 w' w.heap.size (fun k_ => some k_ ≠ (v348 : Value).ownBlock) v356 t354) ∧ Aside0 (w'.heap[gb344]? = some (.cells #[.int .i64 a4_0, .int .i64 a4_1] 24 (0, 0))) ∧ Aside0 (w'.heap[gb345]? = some (.cells #[.int .i64 a5_0, .int .i64 a5_1] 24 (0, 0))) ∧ Aside0 (w'.heap[gb384]? = some (.cells #[.int .i64 ((rd_T24 l1 x253_4).f0), .int .i64 ((rd_T24 l1 x253_4).f1)] 24 (0, 0))) ∧ Aside0 (Below w.heap.size w w'))
             case atStart => exact ⟨(false), (0), (by first | rfl | (simp; done) | (simp [*]; done)), (by first | rfl | (simp; done) | (simp [*]; done)), H', ⟨Nat.le_refl _⟩, ⟨by (with_reducible repeat (first | apply Kd.R_alloc | apply Kd.R_drewN | apply Kd.R_drew)); exact HO_19.out⟩, ⟨by (with_reducible repeat (first | apply Kd.R_alloc | apply Kd.R_drewN | apply Kd.R_drew)); exact HO_23.out⟩, ⟨by (with_reducible repeat (first | refine blk_drewN ?_ _ | refine blk_drew ?_ | refine blk_alloc ?_ _)); exact BK344.out⟩, ⟨by (with_reducible repeat (first | refine blk_drewN ?_ _ | refine blk_drew ?_ | refine blk_alloc ?_ _)); exact BK345.out⟩, ⟨by (with_reducible repeat (first | refine blk_drewN ?_ _ | refine blk_drew ?_ | refine blk_alloc ?_ _)); exact BK384.out⟩, ⟨by repeat (first | (with_reducible first | exact HB.out | apply below_alloc | apply pw_below_drewN | apply below_drew1 | refine below_set ?_ GE344.out | refine below_set ?_ GE345.out | refine below_set ?_ GE384.out) | exact HB.out)⟩⟩
             case round => as_aux_lemma =>
              clear H'
              obtain ⟨x49_7, x325_7, rfl, rfl, HA, HK7, HO_19, HO_23, BK344, BK345, BK384, HB⟩ := hrel
              cases gk with
              | zero => exact absurd HA.out (by simp [laws_FnShadowsDarkOfAll.l1])
              | succ k7 =>
               have H := HA.out
               clear HA
               simp only [laws_FnShadowsDarkOfAll.l1] at H
               by_cases c160 : x325_7 < (y391.length : Int)
               ·rw [if_pos c160] at H
                have c160b0 : decide (x325_7 < (y391.length : Int)) = true := decide_eq_true c160
                clear c160
                have c161 : 0 ≤ x325_7 := Decidable.byContradiction fun c161 => by rw [if_neg c161] at H; (with_reducible first | exact dS H hr | exact d1 H hr | exact d2 H hr | exact d4 H hr | exact d11 H hr | exact d14 H hr | cases H)
                rw [if_pos c161] at H
                have c161b0 : decide (0 ≤ x325_7) = true := decide_eq_true c161
                clear c161
                have c162 : x325_7 < (y391.length : Int) := Decidable.byContradiction fun c162 => by rw [if_neg c162] at H; (with_reducible first | exact dS H hr | exact d1 H hr | exact d2 H hr | exact d4 H hr | exact d11 H hr | exact d14 H hr | cases H)
                rw [if_pos c162] at H
                have c162b0 : decide (x325_7 < (y391.length : Int)) = true := decide_eq_true c162
                clear c162
                replace H := Option.bind_eq_some_iff.mp H
                obtain ⟨⟨t397, t398⟩, A1630, H⟩ := H
                try dsimp only at H
                have A163 := Aside0.mk A1630
                clear A1630
                have c164 : t398 = true := Decidable.byContradiction fun c164 => by rw [if_neg c164] at H; (with_reducible first | exact dS H hr | exact d1 H hr | exact d2 H hr | exact d4 H hr | exact d11 H hr | exact d14 H hr | cases H)
                subst c164
                rw [if_pos rfl] at H
                have p395 : 0 ≤ (x325_7 : Int) := of_decide_eq_true (by first | (with_reducible assumption) | assumption)
                have q395 : x325_7 < (y391.length : Int) := of_decide_eq_true (by first | (with_reducible assumption) | assumption)
                obtain ⟨ad395, e395, hx395_0, hx395_1⟩ := at_T24 HR394.out x325_7 p395 q395
                obtain rfl : ad377 = ad395 := (by injection e395)
                replace hx395_0 := (HB.out.cell (World.block_lt_of_cell? w _ hx395_0)).trans hx395_0
                replace hx395_1 := (HB.out.cell (World.block_lt_of_cell? w _ hx395_1)).trans hx395_1
                replace p395 := eq_true p395
                replace q395 := eq_true q395
                go_upto_region 33 with (first | ((with_reducible refine gate_dst (N := 51) rfl ?_); (try (refine gate_guard (by rfl) ?_; dsimp only)); refine box_event ?hg (N := 51) ?hd (cs := #[.int .i64 0, .int .i64 0]) (t := 24) ?hr ?_; (case hd => rfl); (case hg => rfl); (case hr => first | (go_simp; done) | (go_simp; rfl)); intro gb396 hg w175 hbox hb; have n0_ := Aside0.mk (Kd.R_below (by (with_reducible repeat (first | apply Kd.R_alloc | apply Kd.R_drewN | apply Kd.R_drew)); exact HO_19.out) hb); have n1_ := Aside0.mk (Kd.R_below (by (with_reducible repeat (first | apply Kd.R_alloc | apply Kd.R_drewN | apply Kd.R_drew)); exact HO_23.out) hb); have n2_ := Aside0.mk (blk_below (g := gb344) (o := .cells #[.int .i64 a4_0, .int .i64 a4_1] 24 (0, 0)) (by (with_reducible repeat (first | refine blk_drewN ?_ _ | refine blk_drew ?_ | refine blk_alloc ?_ _)); exact BK344.out) hb); have n3_ := Aside0.mk (blk_below (g := gb345) (o := .cells #[.int .i64 a5_0, .int .i64 a5_1] 24 (0, 0)) (by (with_reducible repeat (first | refine blk_drewN ?_ _ | refine blk_drew ?_ | refine blk_alloc ?_ _)); exact BK345.out) hb); have n4_ := Aside0.mk (blk_below (g := gb384) (o := .cells #[.int .i64 ((rd_T24 l1 x253_4).f0), .int .i64 ((rd_T24 l1 x253_4).f1)] 24 (0, 0)) (by (with_reducible repeat (first | refine blk_drewN ?_ _ | refine blk_drew ?_ | refine blk_alloc ?_ _)); exact BK384.out) hb); have n5_ := Aside0.mk (below_step (by repeat (first | (with_reducible first | exact HB.out | apply below_alloc | apply pw_below_drewN | apply below_drew1 | refine below_set ?_ GE344.out | refine below_set ?_ GE345.out | refine below_set ?_ GE384.out) | exact HB.out)) hb); have n6_ := Aside0.mk (hbox); have n7_ := Aside0.mk ((by rw [hg]; exact (below_size (by repeat (first | (with_reducible first | exact HB.out | apply below_alloc | apply pw_below_drewN | apply below_drew1 | refine below_set ?_ GE344.out | refine below_set ?_ GE345.out | refine below_set ?_ GE384.out) | exact HB.out))) : w.heap.size ≤ gb396)); have n8_ := n7_; have n9_ := Aside0.mk ((by rw [hg]; exact Nat.ne_of_lt (blk_lt (g := gb344) (o := .cells #[.int .i64 a4_0, .int .i64 a4_1] 24 (0, 0)) (by (with_reducible repeat (first | refine blk_drewN ?_ _ | refine blk_drew ?_ | refine blk_alloc ?_ _)); exact BK344.out)) : gb344 ≠ gb396)); have n10_ := Aside0.mk ((by rw [hg]; exact Nat.ne_of_gt (blk_lt (g := gb344) (o := .cells #[.int .i64 a4_0, .int .i64 a4_1] 24 (0, 0)) (by (with_reducible repeat (first | refine blk_drewN ?_ _ | refine blk_drew ?_ | refine blk_alloc ?_ _)); exact BK344.out)) : gb396 ≠ gb344)); have n11_ := Aside0.mk ((by rw [hg]; exact Nat.ne_of_lt (blk_lt (g := gb345) (o := .cells #[.int .i64 a5_0, .int .i64 a5_1] 24 (0, 0)) (by (with_reducible repeat (first | refine blk_drewN ?_ _ | refine blk_drew ?_ | refine blk_alloc ?_ _)); exact BK345.out)) : gb345 ≠ gb396)); have n12_ := Aside0.mk ((by rw [hg]; exact Nat.ne_of_gt (blk_lt (g := gb345) (o := .cells #[.int .i64 a5_0, .int .i64 a5_1] 24 (0, 0)) (by (with_reducible repeat (first | refine blk_drewN ?_ _ | refine blk_drew ?_ | refine blk_alloc ?_ _)); exact BK345.out)) : gb396 ≠ gb345)); have n13_ := Aside0.mk ((by rw [hg]; exact Nat.ne_of_lt (blk_lt (g := gb384) (o := .cells #[.int .i64 ((rd_T24 l1 x253_4).f0), .int .i64 ((rd_T24 l1 x253_4).f1)] 24 (0, 0)) (by (with_reducible repeat (first | refine blk_drewN ?_ _ | refine blk_drew ?_ | refine blk_alloc ?_ _)); exact BK384.out)) : gb384 ≠ gb396)); have n14_ := Aside0.mk ((by rw [hg]; exact Nat.ne_of_gt (blk_lt (g := gb384) (o := .cells #[.int .i64 ((rd_T24 l1 x253_4).f0), .int .i64 ((rd_T24 l1 x253_4).f1)] 24 (0, 0)) (by (with_reducible repeat (first | refine blk_drewN ?_ _ | refine blk_drew ?_ | refine blk_alloc ?_ _)); exact BK384.out)) : gb396 ≠ gb384)); clear HO_19; clear HO_23; clear BK344; clear BK345; clear BK384; clear HB; have HO_19 := n0_; have HO_23 := n1_; have BK344 := n2_; have BK345 := n3_; have BK384 := n4_; have HB := n5_; have BK396 := n6_; have GW396 := n7_; have GE396 := n8_; have NB344_396 := n9_; have NB396_344 := n10_; have NB345_396 := n11_; have NB396_345 := n12_; have NB384_396 := n13_; have NB396_384 := n14_; clear n0_ n1_ n2_ n3_ n4_ n5_ n6_ n7_ n8_ n9_ n10_ n11_ n12_ n13_ n14_; clear hb hbox hg; have hnb176 := NB396_344.out; have hnc176 := NB344_396.out; have hnb177 := NB396_345.out; have hnc177 := NB345_396.out; have hnb178 := NB396_384.out; have hnc178 := NB384_396.out; have hcz179_0 : w175.cell? ⟨gb396, 0, none⟩ = some (.int .i64 0) := (blk_cell BK396.out 0).trans rfl; have hcz179_1 : w175.cell? ⟨gb396, 1, none⟩ = some (.int .i64 0) := (blk_cell BK396.out 1).trans rfl; have hfz179_0 := blk_frozen BK396.out 0; have hfz179_1 := blk_frozen BK396.out 1; have hnb180 := NB384_344.out; have hnc180 := NB344_384.out; have hnb181 := NB384_345.out; have hnc181 := NB345_384.out; have hcz182_0 : w175.cell? ⟨gb384, 0, none⟩ = some (.int .i64 ((rd_T24 l1 x253_4).f0)) := (blk_cell BK384.out 0).trans rfl; have hcz182_1 : w175.cell? ⟨gb384, 1, none⟩ = some (.int .i64 ((rd_T24 l1 x253_4).f1)) := (blk_cell BK384.out 1).trans rfl; have hfz182_0 := blk_frozen BK384.out 0; have hfz182_1 := blk_frozen BK384.out 1) | ((with_reducible refine gate_callee (f := 19) rfl ?_); refine goesL_ (some 333) rfl rfl Tryz.func19 (by kernel_rfl) rfl #[.int .i64 a0, .agg #[.int .i64 ((rd_T24 y391 x325_7).f0), .int .i64 ((rd_T24 y391 x325_7).f1)], .agg #[.int .i64 ((rd_T24 l1 x253_4).f0), .int .i64 ((rd_T24 l1 x253_4).f1)]] rfl (by (try simp only [List.map_toArray, List.map_cons, List.map_nil]); first | done | rfl) ?_; (with_reducible refine (impl_IsHidden.calls a0 ((rd_T24 y391 x325_7).f0) ((rd_T24 y391 x325_7).f1) ((rd_T24 l1 x253_4).f0) ((rd_T24 l1 x253_4).f1) t397 true _ A163.out).mono ?_); rintro e w183 ⟨rfl, hb⟩; refine ⟨_, rfl, ?_⟩; have n0_ := Aside0.mk (Kd.R_below (by (with_reducible repeat (first | apply Kd.R_alloc | apply Kd.R_drewN | apply Kd.R_drew)); exact (Kd.R_mono (Kd.R_far (p := ⟨gb396, 1, none⟩) (Kd.R_far (p := ⟨gb396, 0, none⟩) (Kd.R_types HO_19.out BK396.out (by decide)) (fun _ hk => hk.2) (.int .i64 ((rd_T24 y391 x325_7).f0))) (fun _ hk => hk.2) (.int .i64 ((rd_T24 y391 x325_7).f1))) (fun _ h_ => h_.1))) hb); have n1_ := Aside0.mk (Kd.R_below (by (with_reducible repeat (first | apply Kd.R_alloc | apply Kd.R_drewN | apply Kd.R_drew)); exact (Kd.R_mono (Kd.R_far (p := ⟨gb396, 1, none⟩) (Kd.R_far (p := ⟨gb396, 0, none⟩) (Kd.R_types HO_23.out BK396.out (by decide)) (fun _ hk => hk.2) (.int .i64 ((rd_T24 y391 x325_7).f0))) (fun _ hk => hk.2) (.int .i64 ((rd_T24 y391 x325_7).f1))) (fun _ h_ => h_.1))) hb); have n2_ := Aside0.mk (blk_below (g := gb344) (o := .cells #[.int .i64 a4_0, .int .i64 a4_1] 24 (0, 0)) (by (with_reducible repeat (first | refine blk_drewN ?_ _ | refine blk_drew ?_ | refine blk_alloc ?_ _)); refine blk_far ?_ NB344_396.out _; (with_reducible repeat (first | refine blk_drewN ?_ _ | refine blk_drew ?_ | refine blk_alloc ?_ _)); refine blk_far ?_ NB344_396.out _; (with_reducible repeat (first | refine blk_drewN ?_ _ | refine blk_drew ?_ | refine blk_alloc ?_ _)); exact BK344.out) hb); have n3_ := Aside0.mk (blk_below (g := gb345) (o := .cells #[.int .i64 a5_0, .int .i64 a5_1] 24 (0, 0)) (by (with_reducible repeat (first | refine blk_drewN ?_ _ | refine blk_drew ?_ | refine blk_alloc ?_ _)); refine blk_far ?_ NB345_396.out _; (with_reducible repeat (first | refine blk_drewN ?_ _ | refine blk_drew ?_ | refine blk_alloc ?_ _)); refine blk_far ?_ NB345_396.out _; (with_reducible repeat (first | refine blk_drewN ?_ _ | refine blk_drew ?_ | refine blk_alloc ?_ _)); exact BK345.out) hb); have n4_ := Aside0.mk (blk_below (g := gb384) (o := .cells #[.int .i64 ((rd_T24 l1 x253_4).f0), .int .i64 ((rd_T24 l1 x253_4).f1)] 24 (0, 0)) (by (with_reducible repeat (first | refine blk_drewN ?_ _ | refine blk_drew ?_ | refine blk_alloc ?_ _)); refine blk_far ?_ NB384_396.out _; (with_reducible repeat (first | refine blk_drewN ?_ _ | refine blk_drew ?_ | refine blk_alloc ?_ _)); refine blk_far ?_ NB384_396.out _; (with_reducible repeat (first | refine blk_drewN ?_ _ | refine blk_drew ?_ | refine blk_alloc ?_ _)); exact BK384.out) hb); have n5_ := Aside0.mk (blk_below (g := gb396) (o := .cells #[.int .i64 ((rd_T24 y391 x325_7).f0), .int .i64 ((rd_T24 y391 x325_7).f1)] 24 (0, 0)) (by (with_reducible repeat (first | refine blk_drewN ?_ _ | refine blk_drew ?_ | refine blk_alloc ?_ _)); refine blk_put (cs := #[.int .i64 ((rd_T24 y391 x325_7).f0), .int .i64 0]) ?_ 1 _ rfl; (with_reducible repeat (first | refine blk_drewN ?_ _ | refine blk_drew ?_ | refine blk_alloc ?_ _)); refine blk_put (cs := #[.int .i64 0, .int .i64 0]) ?_ 0 _ rfl; (with_reducible repeat (first | refine blk_drewN ?_ _ | refine blk_drew ?_ | refine blk_alloc ?_ _)); exact BK396.out) hb); have n6_ := Aside0.mk (below_step (by repeat (first | (with_reducible first | exact HB.out | apply below_alloc | apply pw_below_drewN | apply below_drew1 | refine below_set ?_ GE344.out | refine below_set ?_ GE345.out | refine below_set ?_ GE384.out | refine below_set ?_ GE396.out) | exact HB.out)) hb); clear HO_19; clear HO_23; clear BK344; clear BK345; clear BK384; clear BK396; clear HB; have HO_19 := n0_; have HO_23 := n1_; have BK344 := n2_; have BK345 := n3_; have BK384 := n4_; have BK396 := n5_; have HB := n6_; clear n0_ n1_ n2_ n3_ n4_ n5_ n6_; (try clear hb); (try clear hb2); (try clear hk); (try clear hi)))
                by_cases c165 : x49_7 = true
                ·subst c165
                 rw [if_pos rfl] at H
                 have H' := Aside0.mk H
                 clear H
                 go_wp2
                 go_roundg k7
                 case measure => have := HJ9.out; have := HJ23.out; have := HJ125.out; have := HK4.out; have := HJ139.out; have := HJ153.out; have := HK7.out; omega
                 case rel => exact ⟨(true), (wrap64 (x325_7 + 1)), (by first | rfl | (simp; done) | (simp [*]; done)), (by first | rfl | (simp; done) | (simp [*]; done)), H', ⟨by have := HJ9.out; have := HJ23.out; have := HJ125.out; have := HK4.out; have := HJ139.out; have := HJ153.out; have := HK7.out; omega⟩, ⟨by (with_reducible repeat (first | apply Kd.R_alloc | apply Kd.R_drewN | apply Kd.R_drew)); exact HO_19.out⟩, ⟨by (with_reducible repeat (first | apply Kd.R_alloc | apply Kd.R_drewN | apply Kd.R_drew)); exact HO_23.out⟩, ⟨by (with_reducible repeat (first | refine blk_drewN ?_ _ | refine blk_drew ?_ | refine blk_alloc ?_ _)); exact BK344.out⟩, ⟨by (with_reducible repeat (first | refine blk_drewN ?_ _ | refine blk_drew ?_ | refine blk_alloc ?_ _)); exact BK345.out⟩, ⟨by (with_reducible repeat (first | refine blk_drewN ?_ _ | refine blk_drew ?_ | refine blk_alloc ?_ _)); exact BK384.out⟩, ⟨by repeat (first | (with_reducible first | exact HB.out | apply below_alloc | apply pw_below_drewN | apply below_drew1 | refine below_set ?_ GE344.out | refine below_set ?_ GE345.out | refine below_set ?_ GE384.out | refine below_set ?_ GE396.out) | exact HB.out)⟩⟩
                ·replace c165 := Bool.eq_false_iff.mpr c165
                 subst c165
                 rw [if_neg (show ¬ (false = true) by decide)] at H
                 have H' := Aside0.mk H
                 clear H
                 go_wp2
                 go_roundg k7
                 case measure => have := HJ9.out; have := HJ23.out; have := HJ125.out; have := HK4.out; have := HJ139.out; have := HJ153.out; have := HK7.out; omega
                 case rel => exact ⟨(t397), (wrap64 (x325_7 + 1)), (by first | rfl | (simp; done) | (simp [*]; done)), (by first | rfl | (simp; done) | (simp [*]; done)), H', ⟨by have := HJ9.out; have := HJ23.out; have := HJ125.out; have := HK4.out; have := HJ139.out; have := HJ153.out; have := HK7.out; omega⟩, ⟨by (with_reducible repeat (first | apply Kd.R_alloc | apply Kd.R_drewN | apply Kd.R_drew)); exact HO_19.out⟩, ⟨by (with_reducible repeat (first | apply Kd.R_alloc | apply Kd.R_drewN | apply Kd.R_drew)); exact HO_23.out⟩, ⟨by (with_reducible repeat (first | refine blk_drewN ?_ _ | refine blk_drew ?_ | refine blk_alloc ?_ _)); exact BK344.out⟩, ⟨by (with_reducible repeat (first | refine blk_drewN ?_ _ | refine blk_drew ?_ | refine blk_alloc ?_ _)); exact BK345.out⟩, ⟨by (with_reducible repeat (first | refine blk_drewN ?_ _ | refine blk_drew ?_ | refine blk_alloc ?_ _)); exact BK384.out⟩, ⟨by repeat (first | (with_reducible first | exact HB.out | apply below_alloc | apply pw_below_drewN | apply below_drew1 | refine below_set ?_ GE344.out | refine below_set ?_ GE345.out | refine below_set ?_ GE384.out | refine below_set ?_ GE396.out) | exact HB.out)⟩⟩
               ·rw [if_neg c160] at H
                have c160b0 : decide (x325_7 < (y391.length : Int)) = false := decide_eq_false c160
                clear c160
                replace H := Option.bind_eq_some_iff.mp H
                obtain ⟨t399, A1930, H⟩ := H
                try dsimp only at H
                have A193 := Aside0.mk A1930
                clear A1930
                have c194 : ¬ ((x49_7 != t399) = true) := fun c194 => by rw [if_pos c194] at H; (with_reducible first | exact dS H hr | exact d1 H hr | exact d2 H hr | exact d4 H hr | exact d11 H hr | exact d14 H hr | cases H)
                rw [if_neg c194] at H
                have c194b0 : (x49_7 != t399) = false := by simpa using c194
                (try (have c194b1 : decide (x49_7 = t399) = true := by simpa using c194))
                (try (have c194b2 : (x49_7 == t399) = true := by simpa using c194))
                clear c194
                have H' := Aside0.mk H
                clear H
                obtain ⟨Ao196, co196, eo196⟩ := Kd.R_slice HO_23.out
                subst eo196
                go_wp2_with (first | ((with_reducible refine gate_callee (f := 17) rfl ?_); refine goesL_ (some 346) rfl rfl Tryz.func17 (by kernel_rfl) rfl #[.slice Ao196 t354.length co196, .int .i64 x253_4] rfl (by (try simp only [List.map_toArray, List.map_cons, List.map_nil]); first | done | rfl) ?_; (with_reducible refine (laws_yHas.calls k7 _ _ t354 x253_4 t399 _ ?side1 ?side2 A193.out).mono ?_); (case side1 => repeat (first | exact (Kd.R_reads' HO_23.out).2.2 | (with_reducible refine Kd.C_alloc ?_ _) | (with_reducible refine Kd.C_drewN ?_ _) | (with_reducible refine Kd.C_drew ?_))); (case side2 => exact (Kd.R_reads' HO_23.out).2.1); rintro e w' ⟨rfl, ⟨nd, rfl⟩⟩; refine ⟨_, rfl, ?_⟩))
                go_roundg k7
                case measure => have := HJ9.out; have := HJ23.out; have := HJ125.out; have := HK4.out; have := HJ139.out; have := HJ153.out; have := HK7.out; omega
                case rel => exact ⟨(x37_153), (wrap64 (x253_4 + 1)), (by first | rfl | (simp; done) | (simp [*]; done)), (by first | rfl | (simp; done) | (simp [*]; done)), H', ⟨by have := HJ9.out; have := HJ23.out; have := HJ125.out; have := HK4.out; have := HJ139.out; have := HJ153.out; have := HK7.out; omega⟩, ⟨by (with_reducible repeat (first | apply Kd.R_alloc | apply Kd.R_drewN | apply Kd.R_drew)); exact HO_19.out⟩, ⟨by (with_reducible repeat (first | apply Kd.R_alloc | apply Kd.R_drewN | apply Kd.R_drew)); exact HO_23.out⟩, ⟨by (with_reducible repeat (first | refine blk_drewN ?_ _ | refine blk_drew ?_ | refine blk_alloc ?_ _)); exact BK344.out⟩, ⟨by (with_reducible repeat (first | refine blk_drewN ?_ _ | refine blk_drew ?_ | refine blk_alloc ?_ _)); exact BK345.out⟩, ⟨by repeat (first | (with_reducible first | exact HB.out | apply below_alloc | apply pw_below_drewN | apply below_drew1 | refine below_set ?_ GE344.out | refine below_set ?_ GE345.out | refine below_set ?_ GE384.out) | exact HB.out)⟩⟩
        ·rw [if_neg c135] at H
         have c135b0 : decide (x253_4 < (l1.length : Int)) = false := decide_eq_false c135
         clear c135
         have c197 : x37_4 = true := Decidable.byContradiction fun c197 => by rw [if_neg c197] at H; (with_reducible first | exact dS H hr | exact d1 H hr | exact d2 H hr | exact d4 H hr | exact d11 H hr | exact d14 H hr | cases H)
         subst c197
         rw [if_pos rfl] at H
         by_cases c198 : t347 = true
         ·subst c198
          rw [if_pos rfl] at H
          have H' := Aside0.mk H
          clear H
          go_wp2
          go_loopg [54] k4 (fun kq v54 w' => ∃ (x54_5 : Int), v54 = .int .i64 x54_5 ∧ Aside0 (laws_FnShadowsDarkOfAll.l2 kq a0 l1 a2 a3 a6 l7 a8 t346 x54_5 a4_0 a4_1 a5_0 a5_1 = some r) ∧ Aside0 (kq ≤ k4) ∧ Aside0 (Kd.R (Kd.int .i64) 3 w' w.heap.size (fun _ => True) v348 t346) ∧ Aside0 (w'.heap[gb344]? = some (.cells #[.int .i64 a4_0, .int .i64 a4_1] 24 (0, 0))) ∧ Aside0 (w'.heap[gb345]? = some (.cells #[.int .i64 a5_0, .int .i64 a5_1] 24 (0, 0))) ∧ Aside0 (Below w.heap.size w w'))
          case atStart => exact ⟨(0), (by first | rfl | (simp; done) | (simp [*]; done)), H', ⟨Nat.le_refl _⟩, ⟨by (with_reducible repeat (first | apply Kd.R_alloc | apply Kd.R_drewN | apply Kd.R_drew)); exact Kd.R_mono HO_19.out (fun _ hk => trivial)⟩, ⟨by (with_reducible repeat (first | refine blk_drewN ?_ _ | refine blk_drew ?_ | refine blk_alloc ?_ _)); exact BK344.out⟩, ⟨by (with_reducible repeat (first | refine blk_drewN ?_ _ | refine blk_drew ?_ | refine blk_alloc ?_ _)); exact BK345.out⟩, ⟨by repeat (first | (with_reducible first | exact HB.out | apply below_alloc | apply pw_below_drewN | apply below_drew1 | refine below_set ?_ GE344.out | refine below_set ?_ GE345.out) | exact HB.out)⟩⟩
          case round => as_aux_lemma =>
           clear H'
           obtain ⟨x54_5, rfl, HA, HK5, HO_19, BK344, BK345, HB⟩ := hrel
           cases gk with
           | zero => exact absurd HA.out (by simp [laws_FnShadowsDarkOfAll.l2])
           | succ k5 =>
            have H := HA.out
            clear HA
            simp only [laws_FnShadowsDarkOfAll.l2] at H
            have HC199 := Aside0.mk H
            clear H
            go_upto_region 42 with (fail)
            go_cut [358] from 358 to 358 (fun v358 wc => ∃ (kq : Nat) (x358_198 : Bool), v358 = .bool x358_198 ∧ Aside0 (laws_FnShadowsDarkOfAll.j8 kq a0 l1 a2 a3 a6 l7 a8 t346 x54_5 x358_198 a4_0 a4_1 a5_0 a5_1 = some r) ∧ Aside0 (kq ≤ k5) ∧ Aside0 (Kd.R (Kd.int .i64) 3 wc w.heap.size (fun _ => True) v348 t346) ∧ Aside0 (wc.heap[gb344]? = some (.cells #[.int .i64 a4_0, .int .i64 a4_1] 24 (0, 0))) ∧ Aside0 (wc.heap[gb345]? = some (.cells #[.int .i64 a5_0, .int .i64 a5_1] 24 (0, 0))) ∧ Aside0 (Below w.heap.size w wc))
            case first => as_aux_lemma =>
             have H := HC199.out
             clear HC199
             by_cases c200 : x54_5 ≤ a2
             ·rw [if_pos c200] at H
              have c200b0 : decide (x54_5 ≤ a2) = true := decide_eq_true c200
              clear c200
              (first | rw [c200b0] | (simp only [i64_w, i32_w]; rw [c200b0]) | skip)
              have H' := Aside0.mk H
              clear H
              go_wp2
              go_meet
              case rel => exact ⟨_, (decide (x54_5 ≤ 40)), (by first | rfl | (simp; done) | (simp [*]; done)), H', ⟨by have := HJ9.out; have := HJ23.out; have := HJ125.out; have := HK4.out; have := HK5.out; first | omega | exact Nat.le_refl _⟩, ⟨by (with_reducible repeat (first | apply Kd.R_alloc | apply Kd.R_drewN | apply Kd.R_drew)); exact HO_19.out⟩, ⟨by (with_reducible repeat (first | refine blk_drewN ?_ _ | refine blk_drew ?_ | refine blk_alloc ?_ _)); exact BK344.out⟩, ⟨by (with_reducible repeat (first | refine blk_drewN ?_ _ | refine blk_drew ?_ | refine blk_alloc ?_ _)); exact BK345.out⟩, ⟨by repeat (first | (with_reducible first | exact HB.out | apply below_alloc | apply pw_below_drewN | apply below_drew1 | refine below_set ?_ GE344.out | refine below_set ?_ GE345.out) | exact HB.out)⟩⟩
             ·rw [if_neg c200] at H
              have c200b0 : decide (x54_5 ≤ a2) = false := decide_eq_false c200
              clear c200
              (first | rw [c200b0] | (simp only [i64_w, i32_w]; rw [c200b0]) | skip)
              have H' := Aside0.mk H
              clear H
              go_wp2
              go_meet
              case rel => exact ⟨_, (false), (by first | rfl | (simp; done) | (simp [*]; done)), H', ⟨by have := HJ9.out; have := HJ23.out; have := HJ125.out; have := HK4.out; have := HK5.out; first | omega | exact Nat.le_refl _⟩, ⟨by (with_reducible repeat (first | apply Kd.R_alloc | apply Kd.R_drewN | apply Kd.R_drew)); exact HO_19.out⟩, ⟨by (with_reducible repeat (first | refine blk_drewN ?_ _ | refine blk_drew ?_ | refine blk_alloc ?_ _)); exact BK344.out⟩, ⟨by (with_reducible repeat (first | refine blk_drewN ?_ _ | refine blk_drew ?_ | refine blk_alloc ?_ _)); exact BK345.out⟩, ⟨by repeat (first | (with_reducible first | exact HB.out | apply below_alloc | apply pw_below_drewN | apply below_drew1 | refine below_set ?_ GE344.out | refine below_set ?_ GE345.out) | exact HB.out)⟩⟩
            case rest => as_aux_lemma =>
             clear HC199
             obtain ⟨kq, x358_198, rfl, HA, HJ198, HO_19, BK344, BK345, HB⟩ := hcut
             cases kq with
             | zero => exact absurd HA.out (by simp [laws_FnShadowsDarkOfAll.j8])
             | succ kj198 =>
              have H := HA.out
              clear HA
              simp only [laws_FnShadowsDarkOfAll.j8] at H
              by_cases c201 : x358_198 = true
              ·subst c201
               rw [if_pos rfl] at H
               have H' := Aside0.mk H
               clear H
               go_wp2
               go_loopg [55, 363] kj198 (fun kq v55 v363 w' => ∃ (x55_7 : Bool) (x363_7 : Int), v55 = .bool x55_7 ∧ v363 = .int .i64 x363_7 ∧ Aside0 (laws_FnShadowsDarkOfAll.l3 kq a0 l1 a2 a3 a6 l7 a8 t346 x54_5 x55_7 l1 (l1.length : Int) x363_7 a4_0 a4_1 a5_0 a5_1 = some r) ∧ Aside0 (kq ≤ kj198) ∧ Aside0 (Kd.R (Kd.int .i64) 3 w' w.heap.size (fun _ => True) v348 t346) ∧ Aside0 (w'.heap[gb344]? = some (.cells #[.int .i64 a4_0, .int .i64 a4_1] 24 (0, 0))) ∧ Aside0 (w'.heap[gb345]? = some (.cells #[.int .i64 a5_0, .int .i64 a5_1] 24 (0, 0))) ∧ Aside0 (Below w.heap.size w w'))
               case atStart => exact ⟨(false), (0), (by first | rfl | (simp; done) | (simp [*]; done)), (by first | rfl | (simp; done) | (simp [*]; done)), H', ⟨Nat.le_refl _⟩, ⟨by (with_reducible repeat (first | apply Kd.R_alloc | apply Kd.R_drewN | apply Kd.R_drew)); exact HO_19.out⟩, ⟨by (with_reducible repeat (first | refine blk_drewN ?_ _ | refine blk_drew ?_ | refine blk_alloc ?_ _)); exact BK344.out⟩, ⟨by (with_reducible repeat (first | refine blk_drewN ?_ _ | refine blk_drew ?_ | refine blk_alloc ?_ _)); exact BK345.out⟩, ⟨by repeat (first | (with_reducible first | exact HB.out | apply below_alloc | apply pw_below_drewN | apply below_drew1 | refine below_set ?_ GE344.out | refine below_set ?_ GE345.out) | exact HB.out)⟩⟩
               case round => as_aux_lemma =>
                clear H'
                obtain ⟨x55_7, x363_7, rfl, rfl, HA, HK7, HO_19, BK344, BK345, HB⟩ := hrel
                cases gk with
                | zero => exact absurd HA.out (by simp [laws_FnShadowsDarkOfAll.l3])
                | succ k7 =>
                 have H := HA.out
                 clear HA
                 simp only [laws_FnShadowsDarkOfAll.l3] at H
                 by_cases c202 : x363_7 < (l1.length : Int)
                 ·rw [if_pos c202] at H
                  have c202b0 : decide (x363_7 < (l1.length : Int)) = true := decide_eq_true c202
                  clear c202
                  have c203 : 0 ≤ x363_7 := Decidable.byContradiction fun c203 => by rw [if_neg c203] at H; (with_reducible first | exact dS H hr | exact d1 H hr | exact d2 H hr | exact d4 H hr | exact d11 H hr | exact d14 H hr | cases H)
                  rw [if_pos c203] at H
                  have c203b0 : decide (0 ≤ x363_7) = true := decide_eq_true c203
                  clear c203
                  have c204 : x363_7 < (l1.length : Int) := Decidable.byContradiction fun c204 => by rw [if_neg c204] at H; (with_reducible first | exact dS H hr | exact d1 H hr | exact d2 H hr | exact d4 H hr | exact d11 H hr | exact d14 H hr | cases H)
                  rw [if_pos c204] at H
                  have c204b0 : decide (x363_7 < (l1.length : Int)) = true := decide_eq_true c204
                  clear c204
                  replace H := Option.bind_eq_some_iff.mp H
                  obtain ⟨⟨t403, t404, t405⟩, A2050, H⟩ := H
                  try dsimp only at H
                  have A205 := Aside0.mk A2050
                  clear A2050
                  have c206 : t405 = true := Decidable.byContradiction fun c206 => by rw [if_neg c206] at H; (with_reducible first | exact dS H hr | exact d1 H hr | exact d2 H hr | exact d4 H hr | exact d11 H hr | exact d14 H hr | cases H)
                  subst c206
                  rw [if_pos rfl] at H
                  have p401 : 0 ≤ (x363_7 : Int) := of_decide_eq_true (by first | (with_reducible assumption) | assumption)
                  have q401 : x363_7 < (l1.length : Int) := of_decide_eq_true (by first | (with_reducible assumption) | assumption)
                  obtain ⟨ad401, e401, hx401_0, hx401_1⟩ := at_T24 HR1.out x363_7 p401 q401
                  obtain rfl : ad377 = ad401 := (by injection e401)
                  replace hx401_0 := (HB.out.cell (World.block_lt_of_cell? w _ hx401_0)).trans hx401_0
                  replace hx401_1 := (HB.out.cell (World.block_lt_of_cell? w _ hx401_1)).trans hx401_1
                  replace p401 := eq_true p401
                  replace q401 := eq_true q401
                  go_upto_region 51 with (first | ((with_reducible refine gate_dst (N := 57) rfl ?_); (try (refine gate_guard (by rfl) ?_; dsimp only)); refine box_event ?hg (N := 57) ?hd (cs := #[.int .i64 0, .int .i64 0]) (t := 24) ?hr ?_; (case hd => rfl); (case hg => rfl); (case hr => first | (go_simp; done) | (go_simp; rfl)); intro gb402 hg w214 hbox hb; have n0_ := Aside0.mk (Kd.R_below (by (with_reducible repeat (first | apply Kd.R_alloc | apply Kd.R_drewN | apply Kd.R_drew)); exact HO_19.out) hb); have n1_ := Aside0.mk (blk_below (g := gb344) (o := .cells #[.int .i64 a4_0, .int .i64 a4_1] 24 (0, 0)) (by (with_reducible repeat (first | refine blk_drewN ?_ _ | refine blk_drew ?_ | refine blk_alloc ?_ _)); exact BK344.out) hb); have n2_ := Aside0.mk (blk_below (g := gb345) (o := .cells #[.int .i64 a5_0, .int .i64 a5_1] 24 (0, 0)) (by (with_reducible repeat (first | refine blk_drewN ?_ _ | refine blk_drew ?_ | refine blk_alloc ?_ _)); exact BK345.out) hb); have n3_ := Aside0.mk (below_step (by repeat (first | (with_reducible first | exact HB.out | apply below_alloc | apply pw_below_drewN | apply below_drew1 | refine below_set ?_ GE344.out | refine below_set ?_ GE345.out) | exact HB.out)) hb); have n4_ := Aside0.mk (hbox); have n5_ := Aside0.mk ((by rw [hg]; exact (below_size (by repeat (first | (with_reducible first | exact HB.out | apply below_alloc | apply pw_below_drewN | apply below_drew1 | refine below_set ?_ GE344.out | refine below_set ?_ GE345.out) | exact HB.out))) : w.heap.size ≤ gb402)); have n6_ := n5_; have n7_ := Aside0.mk ((by rw [hg]; exact Nat.ne_of_lt (blk_lt (g := gb344) (o := .cells #[.int .i64 a4_0, .int .i64 a4_1] 24 (0, 0)) (by (with_reducible repeat (first | refine blk_drewN ?_ _ | refine blk_drew ?_ | refine blk_alloc ?_ _)); exact BK344.out)) : gb344 ≠ gb402)); have n8_ := Aside0.mk ((by rw [hg]; exact Nat.ne_of_gt (blk_lt (g := gb344) (o := .cells #[.int .i64 a4_0, .int .i64 a4_1] 24 (0, 0)) (by (with_reducible repeat (first | refine blk_drewN ?_ _ | refine blk_drew ?_ | refine blk_alloc ?_ _)); exact BK344.out)) : gb402 ≠ gb344)); have n9_ := Aside0.mk ((by rw [hg]; exact Nat.ne_of_lt (blk_lt (g := gb345) (o := .cells #[.int .i64 a5_0, .int .i64 a5_1] 24 (0, 0)) (by (with_reducible repeat (first | refine blk_drewN ?_ _ | refine blk_drew ?_ | refine blk_alloc ?_ _)); exact BK345.out)) : gb345 ≠ gb402)); have n10_ := Aside0.mk ((by rw [hg]; exact Nat.ne_of_gt (blk_lt (g := gb345) (o := .cells #[.int .i64 a5_0, .int .i64 a5_1] 24 (0, 0)) (by (with_reducible repeat (first | refine blk_drewN ?_ _ | refine blk_drew ?_ | refine blk_alloc ?_ _)); exact BK345.out)) : gb402 ≠ gb345)); clear HO_19; clear BK344; clear BK345; clear HB; have HO_19 := n0_; have BK344 := n1_; have BK345 := n2_; have HB := n3_; have BK402 := n4_; have GW402 := n5_; have GE402 := n6_; have NB344_402 := n7_; have NB402_344 := n8_; have NB345_402 := n9_; have NB402_345 := n10_; clear n0_ n1_ n2_ n3_ n4_ n5_ n6_ n7_ n8_ n9_ n10_; clear hb hbox hg; have hnb215 := NB402_344.out; have hnc215 := NB344_402.out; have hnb216 := NB402_345.out; have hnc216 := NB345_402.out; have hcz217_0 : w214.cell? ⟨gb402, 0, none⟩ = some (.int .i64 0) := (blk_cell BK402.out 0).trans rfl; have hcz217_1 : w214.cell? ⟨gb402, 1, none⟩ = some (.int .i64 0) := (blk_cell BK402.out 1).trans rfl; have hfz217_0 := blk_frozen BK402.out 0; have hfz217_1 := blk_frozen BK402.out 1) | ((with_reducible refine gate_callee (f := 18) rfl ?_); refine goesL_ (some 370) rfl rfl Tryz.func18 (by kernel_rfl) rfl #[.int .i64 a0, .agg #[.int .i64 ((rd_T24 l1 x363_7).f0), .int .i64 ((rd_T24 l1 x363_7).f1)]] rfl (by (try simp only [List.map_toArray, List.map_cons, List.map_nil]); first | done | rfl) ?_; (with_reducible refine (impl_ShadowEnd.calls k7 a0 ((rd_T24 l1 x363_7).f0) ((rd_T24 l1 x363_7).f1) t403 t404 true _ A205.out).mono ?_); rintro e w218 ⟨rfl, hb⟩; refine ⟨_, rfl, ?_⟩; have n0_ := Aside0.mk (Kd.R_below (by (with_reducible repeat (first | apply Kd.R_alloc | apply Kd.R_drewN | apply Kd.R_drew)); exact (Kd.R_mono (Kd.R_far (p := ⟨gb402, 1, none⟩) (Kd.R_far (p := ⟨gb402, 0, none⟩) (Kd.R_types HO_19.out BK402.out (by decide)) (fun _ hk => hk.2) (.int .i64 ((rd_T24 l1 x363_7).f0))) (fun _ hk => hk.2) (.int .i64 ((rd_T24 l1 x363_7).f1))) (fun _ h_ => h_.1))) hb); have n1_ := Aside0.mk (blk_below (g := gb344) (o := .cells #[.int .i64 a4_0, .int .i64 a4_1] 24 (0, 0)) (by (with_reducible repeat (first | refine blk_drewN ?_ _ | refine blk_drew ?_ | refine blk_alloc ?_ _)); refine blk_far ?_ NB344_402.out _; (with_reducible repeat (first | refine blk_drewN ?_ _ | refine blk_drew ?_ | refine blk_alloc ?_ _)); refine blk_far ?_ NB344_402.out _; (with_reducible repeat (first | refine blk_drewN ?_ _ | refine blk_drew ?_ | refine blk_alloc ?_ _)); exact BK344.out) hb); have n2_ := Aside0.mk (blk_below (g := gb345) (o := .cells #[.int .i64 a5_0, .int .i64 a5_1] 24 (0, 0)) (by (with_reducible repeat (first | refine blk_drewN ?_ _ | refine blk_drew ?_ | refine blk_alloc ?_ _)); refine blk_far ?_ NB345_402.out _; (with_reducible repeat (first | refine blk_drewN ?_ _ | refine blk_drew ?_ | refine blk_alloc ?_ _)); refine blk_far ?_ NB345_402.out _; (with_reducible repeat (first | refine blk_drewN ?_ _ | refine blk_drew ?_ | refine blk_alloc ?_ _)); exact BK345.out) hb); have n3_ := Aside0.mk (blk_below (g := gb402) (o := .cells #[.int .i64 ((rd_T24 l1 x363_7).f0), .int .i64 ((rd_T24 l1 x363_7).f1)] 24 (0, 0)) (by (with_reducible repeat (first | refine blk_drewN ?_ _ | refine blk_drew ?_ | refine blk_alloc ?_ _)); refine blk_put (cs := #[.int .i64 ((rd_T24 l1 x363_7).f0), .int .i64 0]) ?_ 1 _ rfl; (with_reducible repeat (first | refine blk_drewN ?_ _ | refine blk_drew ?_ | refine blk_alloc ?_ _)); refine blk_put (cs := #[.int .i64 0, .int .i64 0]) ?_ 0 _ rfl; (with_reducible repeat (first | refine blk_drewN ?_ _ | refine blk_drew ?_ | refine blk_alloc ?_ _)); exact BK402.out) hb); have n4_ := Aside0.mk (below_step (by repeat (first | (with_reducible first | exact HB.out | apply below_alloc | apply pw_below_drewN | apply below_drew1 | refine below_set ?_ GE344.out | refine below_set ?_ GE345.out | refine below_set ?_ GE402.out) | exact HB.out)) hb); clear HO_19; clear BK344; clear BK345; clear BK402; clear HB; have HO_19 := n0_; have BK344 := n1_; have BK345 := n2_; have BK402 := n3_; have HB := n4_; clear n0_ n1_ n2_ n3_ n4_; (try clear hb); (try clear hb2); (try clear hk); (try clear hi); have hcz219_0 : w218.cell? ⟨gb402, 0, none⟩ = some (.int .i64 ((rd_T24 l1 x363_7).f0)) := (blk_cell BK402.out 0).trans rfl; have hcz219_1 : w218.cell? ⟨gb402, 1, none⟩ = some (.int .i64 ((rd_T24 l1 x363_7).f1)) := (blk_cell BK402.out 1).trans rfl; have hfz219_0 := blk_frozen BK402.out 0; have hfz219_1 := blk_frozen BK402.out 1))
                  by_cases c207 : x55_7 = true
                  ·subst c207
                   rw [if_pos rfl] at H
                   have H' := Aside0.mk H
                   clear H
                   go_wp2
                   go_roundg k7
                   case measure => have := HJ9.out; have := HJ23.out; have := HJ125.out; have := HK4.out; have := HK5.out; have := HJ198.out; have := HK7.out; omega
                   case rel => exact ⟨(true), (wrap64 (x363_7 + 1)), (by first | rfl | (simp; done) | (simp [*]; done)), (by first | rfl | (simp; done) | (simp [*]; done)), H', ⟨by have := HJ9.out; have := HJ23.out; have := HJ125.out; have := HK4.out; have := HK5.out; have := HJ198.out; have := HK7.out; omega⟩, ⟨by (with_reducible repeat (first | apply Kd.R_alloc | apply Kd.R_drewN | apply Kd.R_drew)); exact HO_19.out⟩, ⟨by (with_reducible repeat (first | refine blk_drewN ?_ _ | refine blk_drew ?_ | refine blk_alloc ?_ _)); exact BK344.out⟩, ⟨by (with_reducible repeat (first | refine blk_drewN ?_ _ | refine blk_drew ?_ | refine blk_alloc ?_ _)); exact BK345.out⟩, ⟨by repeat (first | (with_reducible first | exact HB.out | apply below_alloc | apply pw_below_drewN | apply below_drew1 | refine below_set ?_ GE344.out | refine below_set ?_ GE345.out | refine below_set ?_ GE402.out) | exact HB.out)⟩⟩
                  ·replace c207 := Bool.eq_false_iff.mpr c207
                   subst c207
                   rw [if_neg (show ¬ (false = true) by decide)] at H
                   by_cases c213 : x54_5 > ((rd_T24 l1 x363_7).f0)
                   ·rw [if_pos c213] at H
                    have c213b0 : decide (((rd_T24 l1 x363_7).f0) < x54_5) = true := decide_eq_true c213
                    clear c213
                    have H' := Aside0.mk H
                    clear H
                    go_wp2
                    go_roundg k7
                    case measure => have := HJ9.out; have := HJ23.out; have := HJ125.out; have := HK4.out; have := HK5.out; have := HJ198.out; have := HK7.out; omega
                    case rel => exact ⟨(decide ((wrap64 (x54_5 * t404)) ≤ t403)), (wrap64 (x363_7 + 1)), (by first | rfl | (simp; done) | (simp [*]; done)), (by first | rfl | (simp; done) | (simp [*]; done)), H', ⟨by have := HJ9.out; have := HJ23.out; have := HJ125.out; have := HK4.out; have := HK5.out; have := HJ198.out; have := HK7.out; omega⟩, ⟨by (with_reducible repeat (first | apply Kd.R_alloc | apply Kd.R_drewN | apply Kd.R_drew)); exact HO_19.out⟩, ⟨by (with_reducible repeat (first | refine blk_drewN ?_ _ | refine blk_drew ?_ | refine blk_alloc ?_ _)); exact BK344.out⟩, ⟨by (with_reducible repeat (first | refine blk_drewN ?_ _ | refine blk_drew ?_ | refine blk_alloc ?_ _)); exact BK345.out⟩, ⟨by repeat (first | (with_reducible first | exact HB.out | apply below_alloc | apply pw_below_drewN | apply below_drew1 | refine below_set ?_ GE344.out | refine below_set ?_ GE345.out | refine below_set ?_ GE402.out) | exact HB.out)⟩⟩
                   ·rw [if_neg c213] at H
                    have c213b0 : decide (((rd_T24 l1 x363_7).f0) < x54_5) = false := decide_eq_false c213
                    clear c213
                    have H' := Aside0.mk H
                    clear H
                    go_wp2
                    go_roundg k7
                    case measure => have := HJ9.out; have := HJ23.out; have := HJ125.out; have := HK4.out; have := HK5.out; have := HJ198.out; have := HK7.out; omega
                    case rel => exact ⟨(false), (wrap64 (x363_7 + 1)), (by first | rfl | (simp; done) | (simp [*]; done)), (by first | rfl | (simp; done) | (simp [*]; done)), H', ⟨by have := HJ9.out; have := HJ23.out; have := HJ125.out; have := HK4.out; have := HK5.out; have := HJ198.out; have := HK7.out; omega⟩, ⟨by (with_reducible repeat (first | apply Kd.R_alloc | apply Kd.R_drewN | apply Kd.R_drew)); exact HO_19.out⟩, ⟨by (with_reducible repeat (first | refine blk_drewN ?_ _ | refine blk_drew ?_ | refine blk_alloc ?_ _)); exact BK344.out⟩, ⟨by (with_reducible repeat (first | refine blk_drewN ?_ _ | refine blk_drew ?_ | refine blk_alloc ?_ _)); exact BK345.out⟩, ⟨by repeat (first | (with_reducible first | exact HB.out | apply below_alloc | apply pw_below_drewN | apply below_drew1 | refine below_set ?_ GE344.out | refine below_set ?_ GE345.out | refine below_set ?_ GE402.out) | exact HB.out)⟩⟩
                 ·rw [if_neg c202] at H
                  have c202b0 : decide (x363_7 < (l1.length : Int)) = false := decide_eq_false c202
                  clear c202
                  replace H := Option.bind_eq_some_iff.mp H
                  obtain ⟨t406, A2310, H⟩ := H
                  try dsimp only at H
                  have A231 := Aside0.mk A2310
                  clear A2310
                  have c232 : ¬ ((x55_7 != t406) = true) := fun c232 => by rw [if_pos c232] at H; (with_reducible first | exact dS H hr | exact d1 H hr | exact d2 H hr | exact d4 H hr | exact d11 H hr | exact d14 H hr | cases H)
                  rw [if_neg c232] at H
                  have c232b0 : (x55_7 != t406) = false := by simpa using c232
                  (try (have c232b1 : decide (x55_7 = t406) = true := by simpa using c232))
                  (try (have c232b2 : (x55_7 == t406) = true := by simpa using c232))
                  clear c232
                  have H' := Aside0.mk H
                  clear H
                  obtain ⟨Ao234, co234, eo234⟩ := Kd.R_slice HO_19.out
                  subst eo234
                  go_wp2_with (first | ((with_reducible refine gate_callee (f := 17) rfl ?_); refine goesL_ (some 394) rfl rfl Tryz.func17 (by kernel_rfl) rfl #[.slice Ao234 t346.length co234, .int .i64 x54_5] rfl (by (try simp only [List.map_toArray, List.map_cons, List.map_nil]); first | done | rfl) ?_; (with_reducible refine (laws_yHas.calls k7 _ _ t346 x54_5 t406 _ ?side1 ?side2 A231.out).mono ?_); (case side1 => repeat (first | exact (Kd.R_reads' HO_19.out).2.2 | (with_reducible refine Kd.C_alloc ?_ _) | (with_reducible refine Kd.C_drewN ?_ _) | (with_reducible refine Kd.C_drew ?_))); (case side2 => exact (Kd.R_reads' HO_19.out).2.1); rintro e w' ⟨rfl, ⟨nd, rfl⟩⟩; refine ⟨_, rfl, ?_⟩))
                  go_roundg k7
                  case measure => have := HJ9.out; have := HJ23.out; have := HJ125.out; have := HK4.out; have := HK5.out; have := HJ198.out; have := HK7.out; omega
                  case rel => exact ⟨(wrap64 (x54_5 + 1)), (by first | rfl | (simp; done) | (simp [*]; done)), H', ⟨by have := HJ9.out; have := HJ23.out; have := HJ125.out; have := HK4.out; have := HK5.out; have := HJ198.out; have := HK7.out; omega⟩, ⟨by (with_reducible repeat (first | apply Kd.R_alloc | apply Kd.R_drewN | apply Kd.R_drew)); exact HO_19.out⟩, ⟨by (with_reducible repeat (first | refine blk_drewN ?_ _ | refine blk_drew ?_ | refine blk_alloc ?_ _)); exact BK344.out⟩, ⟨by (with_reducible repeat (first | refine blk_drewN ?_ _ | refine blk_drew ?_ | refine blk_alloc ?_ _)); exact BK345.out⟩, ⟨by repeat (first | (with_reducible first | exact HB.out | apply below_alloc | apply pw_below_drewN | apply below_drew1 | refine below_set ?_ GE344.out | refine below_set ?_ GE345.out) | exact HB.out)⟩⟩
              ·replace c201 := Bool.eq_false_iff.mpr c201
               subst c201
               rw [if_neg (show ¬ (false = true) by decide)] at H
               replace H := Option.bind_eq_some_iff.mp H
               obtain ⟨t400, A2350, H⟩ := H
               try dsimp only at H
               have A235 := Aside0.mk A2350
               clear A2350
               have c236 : t400 = true := Decidable.byContradiction fun c236 => by rw [if_neg c236] at H; (with_reducible first | exact dS H hr | exact d1 H hr | exact d2 H hr | exact d4 H hr | exact d11 H hr | exact d14 H hr | cases H)
               subst c236
               rw [if_pos rfl] at H
               have H' := Aside0.mk H
               clear H
               obtain ⟨Ao237, co237, eo237⟩ := Kd.R_slice HO_19.out
               subst eo237
               go_wp2_with (first | ((with_reducible refine gate_callee (f := 16) rfl ?_); refine goesL_ (some 397) rfl rfl Tryz.func16 (by kernel_rfl) rfl #[.slice Ao237 t346.length co237] rfl (by (try simp only [List.map_toArray, List.map_cons, List.map_nil]); first | done | rfl) ?_; (with_reducible refine (laws_yRises.calls kj198 _ _ t346 true _ ?side1 ?side2 A235.out).mono ?_); (case side1 => repeat (first | exact (Kd.R_reads' HO_19.out).2.2 | (with_reducible refine Kd.C_alloc ?_ _) | (with_reducible refine Kd.C_drewN ?_ _) | (with_reducible refine Kd.C_drew ?_))); (case side2 => exact (Kd.R_reads' HO_19.out).2.1); rintro e w' ⟨rfl, ⟨nd, rfl⟩⟩; refine ⟨_, rfl, ?_⟩))
               go_meet
               case rel => exact ⟨_, H', ⟨by have := HJ9.out; have := HJ23.out; have := HJ125.out; have := HK4.out; have := HK5.out; have := HJ198.out; first | omega | exact Nat.le_refl _⟩, ⟨by (with_reducible repeat (first | refine blk_drewN ?_ _ | refine blk_drew ?_ | refine blk_alloc ?_ _)); exact BK344.out⟩, ⟨by (with_reducible repeat (first | refine blk_drewN ?_ _ | refine blk_drew ?_ | refine blk_alloc ?_ _)); exact BK345.out⟩, ⟨by repeat (first | (with_reducible first | exact HB.out | apply below_alloc | apply pw_below_drewN | apply below_drew1 | refine below_set ?_ GE344.out | refine below_set ?_ GE345.out) | exact HB.out)⟩⟩
         ·replace c198 := Bool.eq_false_iff.mpr c198
          subst c198
          rw [if_neg (show ¬ (false = true) by decide)] at H
          have H' := Aside0.mk H
          clear H
          go_wp2
          go_meet
          case rel => exact ⟨_, H', ⟨by have := HJ9.out; have := HJ23.out; have := HJ125.out; have := HK4.out; first | omega | exact Nat.le_refl _⟩, ⟨by (with_reducible repeat (first | refine blk_drewN ?_ _ | refine blk_drew ?_ | refine blk_alloc ?_ _)); exact BK344.out⟩, ⟨by (with_reducible repeat (first | refine blk_drewN ?_ _ | refine blk_drew ?_ | refine blk_alloc ?_ _)); exact BK345.out⟩, ⟨by repeat (first | (with_reducible first | exact HB.out | apply below_alloc | apply pw_below_drewN | apply below_drew1 | refine below_set ?_ GE344.out | refine below_set ?_ GE345.out) | exact HB.out)⟩⟩
   ·replace c122 := Bool.eq_false_iff.mpr c122
    subst c122
    rw [if_neg (show ¬ (false = true) by decide)] at H
    have H' := Aside0.mk H
    clear H
    go_wp2
    go_meet
    case rel => exact ⟨_, H', ⟨by have := HJ9.out; have := HJ23.out; first | omega | exact Nat.le_refl _⟩, ⟨by (with_reducible repeat (first | refine blk_drewN ?_ _ | refine blk_drew ?_ | refine blk_alloc ?_ _)); exact BK344.out⟩, ⟨by (with_reducible repeat (first | refine blk_drewN ?_ _ | refine blk_drew ?_ | refine blk_alloc ?_ _)); exact BK345.out⟩, ⟨by repeat (first | (with_reducible first | exact HB.out | apply below_alloc | apply pw_below_drewN | apply below_drew1 | refine below_set ?_ GE344.out | refine below_set ?_ GE345.out) | exact HB.out)⟩⟩
  case rest =>
   obtain ⟨kq, HA, HJ120, BK344, BK345, HB⟩ := hcut
   exact HK.out _ _ (rest12 k a0 A1 c1 l1 a2 a3 a4_0 a4_1 a5_0 a5_1 a6 A7 c7 l7 a8 gb344 gb345 kj9 kj23 kq r w _ hr hR HA HJ120 BK344 BK345 HB HR1 HC1 HR7 HC7 GW344 GE344 GW345 GE345 NB344_345 NB345_344 HJ9 HJ23)
end Go.Proofs.YtkhhlnpiogfofaaGreatDoor.SDLaw
