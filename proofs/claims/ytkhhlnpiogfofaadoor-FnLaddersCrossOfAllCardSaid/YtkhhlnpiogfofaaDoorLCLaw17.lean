/- The second part of the walk of the law FnLaddersCrossOfAll (what holds of good ladders). Conditions: the library's variables (Ready), and what each callee comes to. Turned from the print program's text. -/
import Derived.Test.YtkhhlnpiogfofaaDoorLCLaw30
import Derived.Test.YtkhhlnpiogfofaaDoorLC0
import Derived.Test.YtkhhlnpiogfofaaDoorLC2
import Derived.Test.YtkhhlnpiogfofaaDoorLC3
import Derived.Test.YtkhhlnpiogfofaaDoorLC4
import Derived.Test.YtkhhlnpiogfofaaDoorLC5
import Derived.Test.YtkhhlnpiogfofaaDoorLC6
import Derived.Test.YtkhhlnpiogfofaaDoorGiven
import Derived.Deep.RegionHeld3
import Derived.Deep.DeepCutAuto
import Derived.Tactics2
import Derived.WalkSpells
import Derived.StillTactics
import Derived.Laws.Pointers
namespace Go.Proofs.YtkhhlnpiogfofaaDoor.LCLaw
open Go.RowKit Go.Proofs.YtkhhlnpiogfofaaDoorW.PrintWords Go.Proofs.YtkhhlnpiogfofaaDoorW.PrintLast Go.Proofs.YtkhhlnpiogfofaaDoorW.PrintMore Go.Proofs.YtkhhlnpiogfofaaDoor.Given Go.Proofs.YtkhhlnpiogfofaaDoor.TextC Go.Proofs.YtkhhlnpiogfofaaDoor.PFnLaddersCrossOfAll
set_option linter.unusedVariables false
set_option linter.unusedSimpArgs false
set_option linter.unnecessarySimpa false
set_option maxHeartbeats 8000000 in
set_option maxRecDepth 100000 in
theorem rest17 (k : Nat) (a0_0 a0_1 a0_2 a1_0 a1_1 a1_2 a3 a4 a5 a6 a7_0 a7_1 a7_2 a8 t261 t262 t267 t268 t273 t274 t279 t280 t285 t293 t294 t295 t324 t325 t330 t331 t336 t337 t342 t343 t344 : Int) (a2 o p q s : Bool) (t289 : ByteArray) (w wc : World) (gb258 gb259 gb260 gb297 gb302 : Nat) {x100 x101 x102 x103 x104 x105 x106 x107 x108 x109 x110 x111 x112 x113 x114 x115 x116 x117 x118 x119 x120 x121 x122 x123 x124 x125 x126 x127 x128 x129 x130 x131 x132 x133 x134 x135 x136 x137 x138 x139 x140 x141 x142 x143 x144 x145 x146 x147 x148 x149 x150 x151 x152 x153 x154 x155 x156 x157 x158 x159 x160 x161 x162 x163 x164 x165 x166 x167 x168 x169 x170 x171 x172 x173 x174 x175 x176 x177 x178 x179 x180 x181 x182 x183 x184 x185 x186 x187 x188 x189 x190 x191 x192 x193 x194 x195 x196 x197 x198 x199 x200 x201 x202 x203 x204 x205 x206 x207 x208 x209 x210 x211 x212 x213 x214 x215 x216 x217 x218 x219 x220 x221 x222 x223 x224 x225 x226 x227 x228 x229 x230 x231 x232 x233 x234 x235 x236 x237 x238 x239 x240 x241 x242 x243 x244 x245 x246 x247 x248 x249 x250 x251 x252 x253 x254 x255 x256 x257 x258 x259 x260 x261 x262 x263 x264 x265 x266 x267 x268 x269 x270 x271 x272 x273 x274 x275 x276 x277 x278 x279 x280 x281 x282 x283 x284 x285 x286 x287 x288 x289 x290 x291 x292 x293 x294 x295 x296 x297 x298 x299 x300 x301 x302 x303 x304 x305 x306 x307 : Value}
    (hR : Aside0 (Ready w))
    (HT : Aside0 (o = true → ∃ t309 : Int, Aside0 (impl_CrossHeight.f k t293 t294 t295 = some (t261, t262, true)) ∧ Aside0 (impl_CrossPlace.f k t293 t294 t295 = some (t309, t268, true)) ∧ Aside0 (impl_ParseLadders.f t289 = some (a0_0, a0_1, a0_2, true)) ∧ Aside0 (laws_jIs.f k t261 t262 (wrap64 (a0_1 * a0_2)) (wrap64 (a0_1 + a0_2)) = some true) ∧ Aside0 (laws_jIs.f k t267 t268 (wrap64 (a0_0 * a0_1)) (wrap64 (a0_1 + a0_2)) = some true) ∧ Aside0 (laws_jLow.f k t273 t274 = some true) ∧ Aside0 (laws_jLow.f k t279 t280 = some true) ∧ Aside0 ((wrap64 ((wrap64 (t273 * 2)) * t262)) = (wrap64 ((wrap64 (t274 * a0_0)) * t261))) ∧ Aside0 (¬ (t262 = 0)) ∧ Aside0 (t285 = (wrap64 (Int.tdiv t261 t262))) ∧ Aside0 ((wrap64 (t309 + t267)) = (wrap64 (a0_0 * t268))) ∧ Aside0 ((wrap64 ((wrap64 ((wrap64 (t279 * t274)) * 2)) + (wrap64 ((wrap64 (t273 * t280)) * 2)))) = (wrap64 ((wrap64 ((wrap64 (a0_0 * (wrap64 (a0_1 + a0_2)))) * t280)) * t274))) ∧ Aside0 ((decide (t261 ≤ 1000) && decide (t262 ≤ 1000)) = true → Aside0 (impl_OtherHeight.f k a0_1 t261 t262 = some (a0_2, 1, true)))))
    (A357 : Aside0 (impl_HeightAt.f k a1_0 a1_1 a1_2 a2 a3 = some (t324, t325, p)))
    (A358 : Aside0 (spec_HeightAt.f k a1_0 a1_1 a1_2 a2 a3 = some (t324, t325, p)))
    (A359 : Aside0 (impl_HighestAt.f k a1_0 a1_1 a1_2 a3 = some (t330, t331, p)))
    (A360 : Aside0 (spec_HighestAt.f k a1_0 a1_1 a1_2 a3 = some (t330, t331, p)))
    (A361 : Aside0 (impl_OtherHeight.f k a4 a5 a6 = some (t336, t337, q)))
    (A362 : Aside0 (spec_OtherHeight.f k a4 a5 a6 = some (t336, t337, q)))
    (A363 : Aside0 (impl_MoveWall.f a7_0 a7_1 a7_2 a8 = some (t342, t343, t344, s)))
    (A364 : Aside0 (spec_MoveWall.f a7_0 a7_1 a7_2 a8 = some (t342, t343, t344, s)))
    (HP : Aside0 (p = true → ∃ t352 t353 : Int, Aside0 (impl_HeightAt.f k a1_0 a1_1 a1_2 (!a2) a3 = some (t352, t353, true)) ∧ Aside0 ((wrap64 (t324 * t331)) ≤ (wrap64 (t330 * t325))) ∧ Aside0 ((wrap64 (t352 * t331)) ≤ (wrap64 (t330 * t353))) ∧ Aside0 ((wrap64 (t330 * t325)) = (wrap64 (t324 * t331)) ∨ (wrap64 (t330 * t353)) = (wrap64 (t352 * t331)))))
    (HQ : Aside0 (q = true → Aside0 (laws_jLow.f k t336 t337 = some true) ∧ Aside0 ((wrap64 (a5 * (wrap64 (t336 + (wrap64 (a4 * t337)))))) = (wrap64 ((wrap64 (a6 * a4)) * t336)))))
    (HS : Aside0 (s = true → ∃ t356 t357 : Int, Aside0 (impl_CrossHeight.f k a7_0 a7_1 a7_2 = some (t356, t357, true)) ∧ Aside0 (impl_CrossHeight.f k t342 t343 t344 = some (t356, t357, true)) ∧ Aside0 (impl_MoveWall.f t342 t343 t344 (wrap64 (-a8)) = some (a7_0, a7_1, a7_2, true))))
    (GE258 : Aside0 (w.heap.size ≤ gb258))
    (GE259 : Aside0 (w.heap.size ≤ gb259))
    (GE260 : Aside0 (w.heap.size ≤ gb260))
    (GE297 : Aside0 (w.heap.size ≤ gb297))
    (GE302 : Aside0 (w.heap.size ≤ gb302))
    (NB258_259 : Aside0 (gb258 ≠ gb259))
    (NB258_260 : Aside0 (gb258 ≠ gb260))
    (NB258_297 : Aside0 (gb258 ≠ gb297))
    (NB258_302 : Aside0 (gb258 ≠ gb302))
    (NB259_258 : Aside0 (gb259 ≠ gb258))
    (NB259_260 : Aside0 (gb259 ≠ gb260))
    (NB259_297 : Aside0 (gb259 ≠ gb297))
    (NB259_302 : Aside0 (gb259 ≠ gb302))
    (NB260_258 : Aside0 (gb260 ≠ gb258))
    (NB260_259 : Aside0 (gb260 ≠ gb259))
    (NB260_297 : Aside0 (gb260 ≠ gb297))
    (NB260_302 : Aside0 (gb260 ≠ gb302))
    (NB297_258 : Aside0 (gb297 ≠ gb258))
    (NB297_259 : Aside0 (gb297 ≠ gb259))
    (NB297_260 : Aside0 (gb297 ≠ gb260))
    (NB297_302 : Aside0 (gb297 ≠ gb302))
    (NB302_258 : Aside0 (gb302 ≠ gb258))
    (NB302_259 : Aside0 (gb302 ≠ gb259))
    (NB302_260 : Aside0 (gb302 ≠ gb260))
    (NB302_297 : Aside0 (gb302 ≠ gb297))
    (hcut : Aside0 (wc.heap[gb258]? = some (.cells #[.int .i64 a0_0, .int .i64 a0_1, .int .i64 a0_2] 23 (0, 0))) ∧ Aside0 (wc.heap[gb259]? = some (.cells #[.int .i64 a1_0, .int .i64 a1_1, .int .i64 a1_2] 23 (0, 0))) ∧ Aside0 (wc.heap[gb260]? = some (.cells #[.int .i64 a7_0, .int .i64 a7_1, .int .i64 a7_2] 23 (0, 0))) ∧ Aside0 (wc.heap[gb297]? = some (.cells #[.int .i64 t293, .int .i64 t294, .int .i64 t295] 23 (0, 0))) ∧ Aside0 (wc.heap[gb302]? = some (.cells #[.int .i64 t293, .int .i64 t294, .int .i64 t295] 23 (0, 0))) ∧ Aside0 (Below w.heap.size w wc)) :
    (dropC 16 (Tryd.f4.body.getD Code.skip)).wp Tryd.prog (bodyPost Tryd.prog Tryd.f4 fun e w' => e = .returned (.bool true) ∧ Below w.heap.size w w') (Act.mk (List.toArray ((Value.agg #[.int .i64 a0_0, .int .i64 a0_1, .int .i64 a0_2]) :: (Value.agg #[.int .i64 a1_0, .int .i64 a1_1, .int .i64 a1_2]) :: (Value.bool a2) :: (Value.int .i64 a3) :: (Value.int .i64 a4) :: (Value.int .i64 a5) :: (Value.int .i64 a6) :: (Value.agg #[.int .i64 a7_0, .int .i64 a7_1, .int .i64 a7_2]) :: (Value.int .i64 a8) :: (Value.pointer (some ⟨gb258, 0, none⟩)) :: (Value.pointer (some ⟨gb259, 0, none⟩)) :: undef :: undef :: undef :: undef :: undef :: (Value.pointer (some ⟨gb260, 0, none⟩)) :: undef :: (Value.bool false) :: (Value.int .i64 t261) :: (Value.int .i64 t262) :: (Value.bool o) :: (Value.int .i64 t261) :: (Value.int .i64 t262) :: (Value.bool o) :: (Value.int .i64 t267) :: (Value.int .i64 t268) :: (Value.bool o) :: (Value.int .i64 t267) :: (Value.int .i64 t268) :: (Value.bool o) :: (Value.int .i64 t273) :: (Value.int .i64 t274) :: (Value.bool o) :: (Value.int .i64 t273) :: (Value.int .i64 t274) :: (Value.bool o) :: (Value.int .i64 t279) :: (Value.int .i64 t280) :: (Value.bool o) :: (Value.int .i64 t279) :: (Value.int .i64 t280) :: (Value.bool o) :: (Value.int .i64 t285) :: (Value.bool o) :: (Value.int .i64 t285) :: (Value.bool o) :: (Value.string t289) :: (Value.bool o) :: (Value.string t289) :: (Value.bool o) :: (Value.pointer (some ⟨gb297, 0, none⟩)) :: (Value.bool o) :: (Value.pointer (some ⟨gb302, 0, none⟩)) :: (Value.bool o) :: undef :: undef :: undef :: undef :: undef :: undef :: undef :: undef :: undef :: undef :: undef :: undef :: undef :: undef :: undef :: undef :: undef :: undef :: undef :: undef :: undef :: undef :: undef :: undef :: undef :: undef :: undef :: undef :: undef :: undef :: undef :: undef :: undef :: undef :: undef :: undef :: undef :: undef :: undef :: undef :: undef :: undef :: undef :: undef :: undef :: x100 :: x101 :: x102 :: x103 :: x104 :: x105 :: x106 :: x107 :: x108 :: x109 :: x110 :: x111 :: x112 :: x113 :: x114 :: x115 :: x116 :: x117 :: x118 :: x119 :: x120 :: x121 :: x122 :: x123 :: x124 :: x125 :: x126 :: x127 :: x128 :: x129 :: x130 :: x131 :: x132 :: x133 :: x134 :: x135 :: x136 :: x137 :: x138 :: x139 :: x140 :: x141 :: x142 :: x143 :: x144 :: x145 :: x146 :: x147 :: x148 :: x149 :: x150 :: x151 :: x152 :: x153 :: x154 :: x155 :: x156 :: x157 :: x158 :: x159 :: x160 :: x161 :: x162 :: x163 :: x164 :: x165 :: x166 :: x167 :: x168 :: x169 :: x170 :: x171 :: x172 :: x173 :: x174 :: x175 :: x176 :: x177 :: x178 :: x179 :: x180 :: x181 :: x182 :: x183 :: x184 :: x185 :: x186 :: x187 :: x188 :: x189 :: x190 :: x191 :: x192 :: x193 :: x194 :: x195 :: x196 :: x197 :: x198 :: x199 :: x200 :: x201 :: x202 :: x203 :: x204 :: x205 :: x206 :: x207 :: x208 :: x209 :: x210 :: x211 :: x212 :: x213 :: x214 :: x215 :: x216 :: x217 :: x218 :: x219 :: x220 :: x221 :: x222 :: x223 :: x224 :: x225 :: x226 :: x227 :: x228 :: x229 :: x230 :: x231 :: x232 :: x233 :: x234 :: x235 :: x236 :: x237 :: x238 :: x239 :: x240 :: x241 :: x242 :: x243 :: x244 :: x245 :: x246 :: x247 :: x248 :: x249 :: x250 :: x251 :: x252 :: x253 :: x254 :: x255 :: x256 :: x257 :: x258 :: x259 :: x260 :: x261 :: x262 :: x263 :: x264 :: x265 :: x266 :: x267 :: x268 :: x269 :: x270 :: x271 :: x272 :: x273 :: x274 :: x275 :: x276 :: x277 :: x278 :: x279 :: x280 :: x281 :: x282 :: x283 :: x284 :: x285 :: x286 :: x287 :: x288 :: x289 :: x290 :: x291 :: x292 :: x293 :: x294 :: x295 :: x296 :: x297 :: x298 :: x299 :: x300 :: x301 :: x302 :: x303 :: x304 :: x305 :: x306 :: x307 :: (Value.bool false) :: undef :: undef :: undef :: undef :: undef :: undef :: undef :: undef :: undef :: undef :: undef :: undef :: undef :: undef :: undef :: undef :: undef :: undef :: undef :: undef :: undef :: undef :: undef :: undef :: undef :: undef :: undef :: undef :: undef :: undef :: undef :: undef :: undef :: undef :: undef :: undef :: undef :: undef :: undef :: undef :: undef :: undef :: undef :: undef :: undef :: undef :: undef :: undef :: undef :: undef :: undef :: undef :: undef :: undef :: undef :: undef :: undef :: undef :: undef :: undef :: undef :: undef :: undef :: undef :: undef :: undef :: undef :: undef :: undef :: undef :: undef :: undef :: undef :: undef :: undef :: undef :: undef :: undef :: undef :: undef :: undef :: undef :: undef :: undef :: undef :: undef :: undef :: undef :: undef :: undef :: undef :: undef :: undef :: undef :: undef :: undef :: undef :: undef :: undef :: undef :: undef :: undef :: undef :: undef :: undef :: undef :: undef :: undef :: undef :: undef :: undef :: undef :: undef :: undef :: undef :: undef :: undef :: undef :: undef :: undef :: undef :: undef :: undef :: undef :: undef :: undef :: undef :: undef :: undef :: undef :: undef :: undef :: undef :: undef :: undef :: undef :: undef :: undef :: undef :: undef :: undef :: undef :: undef :: undef :: undef :: undef :: undef :: undef :: undef :: undef :: undef :: undef :: undef :: undef :: undef :: undef :: undef :: undef :: undef :: undef :: undef :: undef :: undef :: undef :: undef :: undef :: undef :: undef :: undef :: undef :: undef :: undef :: undef :: undef :: undef :: undef :: undef :: undef :: undef :: undef :: undef :: undef :: undef :: undef :: undef :: undef :: undef :: undef :: undef :: undef :: undef :: undef :: undef :: undef :: undef :: undef :: undef :: undef :: undef :: undef :: undef :: undef :: undef :: undef :: undef :: undef :: undef :: undef :: undef :: undef :: undef :: undef :: undef :: undef :: undef :: undef :: undef :: undef :: undef :: undef :: undef :: undef :: undef :: undef :: undef :: undef :: undef :: undef :: undef :: undef :: undef :: undef :: undef :: undef :: undef :: undef :: undef :: undef :: undef :: undef :: undef :: undef :: undef :: undef :: undef :: undef :: undef :: undef :: undef :: undef :: undef :: undef :: undef :: undef :: undef :: undef :: undef :: undef :: undef :: undef :: undef :: undef :: undef :: undef :: undef :: undef :: undef :: undef :: undef :: undef :: undef :: undef :: undef :: undef :: undef :: undef :: undef :: undef :: undef :: undef :: undef :: undef :: undef :: undef :: undef :: undef :: undef :: undef :: undef :: undef :: undef :: undef :: undef :: undef :: undef :: undef :: undef :: undef :: undef :: undef :: undef :: undef :: undef :: undef :: undef :: undef :: undef :: undef :: undef :: undef :: undef :: undef :: undef :: undef :: undef :: undef :: undef :: undef :: undef :: undef :: undef :: undef :: undef :: undef :: undef :: undef :: undef :: undef :: undef :: undef :: undef :: undef :: undef :: undef :: undef :: undef :: undef :: undef :: undef :: undef :: undef :: undef :: undef :: undef :: undef :: undef :: undef :: undef :: undef :: undef :: undef :: undef :: undef :: undef :: undef :: undef :: undef :: undef :: undef :: undef :: undef :: undef :: undef :: undef :: undef :: undef :: undef :: undef :: undef :: undef :: undef :: undef :: undef :: undef :: undef :: undef :: undef :: undef :: undef :: undef :: undef :: undef :: undef :: undef :: undef :: undef :: undef :: undef :: undef :: undef :: undef :: undef :: undef :: [])) []) wc := by
  have hu23 := Tryd.underlying23
  obtain ⟨BK258, BK259, BK260, BK297, BK302, HB⟩ := hcut
  change Code.wp _ (Code.seq _ _) _ _ _
  refine wp_seq_k ?_
  intro K hK
  have HK : Aside0 (∀ a w_, (dropC 17 (Tryd.f4.body.getD Code.skip)).wp Tryd.prog (bodyPost Tryd.prog Tryd.f4 fun e w' => e = .returned (.bool true) ∧ Below w.heap.size w w') a w_ → K a w_) := ⟨hK⟩
  clear hK
  go_upto_if 309 with (fail)
  by_cases c173 : o = true
  · subst c173
    obtain ⟨t309, A174, A175, A176, A198, A200, A202, A205, HT204, HT207, HT208, HT214, HT306, HT316⟩ := HT.out rfl
    have hnb178 := NB258_259.out
    have hnc178 := NB259_258.out
    have hnb179 := NB258_260.out
    have hnc179 := NB260_258.out
    have hnb180 := NB258_297.out
    have hnc180 := NB297_258.out
    have hnb181 := NB258_302.out
    have hnc181 := NB302_258.out
    have hcz182_0 : wc.cell? ⟨gb258, 0, none⟩ = some (.int .i64 a0_0) := (blk_cell BK258.out 0).trans rfl
    have hcz182_1 : wc.cell? ⟨gb258, 1, none⟩ = some (.int .i64 a0_1) := (blk_cell BK258.out 1).trans rfl
    have hcz182_2 : wc.cell? ⟨gb258, 2, none⟩ = some (.int .i64 a0_2) := (blk_cell BK258.out 2).trans rfl
    have hfz182_0 := blk_frozen BK258.out 0
    have hfz182_1 := blk_frozen BK258.out 1
    have hfz182_2 := blk_frozen BK258.out 2
    have hnb183 := NB297_259.out
    have hnc183 := NB259_297.out
    have hnb184 := NB297_260.out
    have hnc184 := NB260_297.out
    have hnb185 := NB297_302.out
    have hnc185 := NB302_297.out
    have hcz186_0 : wc.cell? ⟨gb297, 0, none⟩ = some (.int .i64 t293) := (blk_cell BK297.out 0).trans rfl
    have hcz186_1 : wc.cell? ⟨gb297, 1, none⟩ = some (.int .i64 t294) := (blk_cell BK297.out 1).trans rfl
    have hcz186_2 : wc.cell? ⟨gb297, 2, none⟩ = some (.int .i64 t295) := (blk_cell BK297.out 2).trans rfl
    have hfz186_0 := blk_frozen BK297.out 0
    have hfz186_1 := blk_frozen BK297.out 1
    have hfz186_2 := blk_frozen BK297.out 2
    go_upto_region 22 with (first | ((with_reducible refine gate_callee (f := 12) rfl ?_); refine goesL_ (some 317) rfl rfl Tryd.func12 (by kernel_rfl) rfl #[.agg #[.int .i64 t293, .int .i64 t294, .int .i64 t295]] rfl (by (try simp only [List.map_toArray, List.map_cons, List.map_nil]); first | done | rfl | (simp only [List.length_drop, List.length_take]; rfl)) ?_; (with_reducible refine (impl_CrossHeight.calls k t293 t294 t295 t261 t262 true _ A174.out).mono ?_); rintro e w187 ⟨rfl, hb⟩; refine ⟨_, rfl, ?_⟩; have n0_ := Aside0.mk (blk_below (g := gb258) (o := .cells #[.int .i64 a0_0, .int .i64 a0_1, .int .i64 a0_2] 23 (0, 0)) (by (with_reducible repeat (first | refine blk_drewN ?_ _ | refine blk_drew ?_ | refine blk_alloc ?_ _)); exact BK258.out) hb); have n1_ := Aside0.mk (blk_below (g := gb259) (o := .cells #[.int .i64 a1_0, .int .i64 a1_1, .int .i64 a1_2] 23 (0, 0)) (by (with_reducible repeat (first | refine blk_drewN ?_ _ | refine blk_drew ?_ | refine blk_alloc ?_ _)); exact BK259.out) hb); have n2_ := Aside0.mk (blk_below (g := gb260) (o := .cells #[.int .i64 a7_0, .int .i64 a7_1, .int .i64 a7_2] 23 (0, 0)) (by (with_reducible repeat (first | refine blk_drewN ?_ _ | refine blk_drew ?_ | refine blk_alloc ?_ _)); exact BK260.out) hb); have n3_ := Aside0.mk (blk_below (g := gb297) (o := .cells #[.int .i64 t293, .int .i64 t294, .int .i64 t295] 23 (0, 0)) (by (with_reducible repeat (first | refine blk_drewN ?_ _ | refine blk_drew ?_ | refine blk_alloc ?_ _)); exact BK297.out) hb); have n4_ := Aside0.mk (blk_below (g := gb302) (o := .cells #[.int .i64 t293, .int .i64 t294, .int .i64 t295] 23 (0, 0)) (by (with_reducible repeat (first | refine blk_drewN ?_ _ | refine blk_drew ?_ | refine blk_alloc ?_ _)); exact BK302.out) hb); have n5_ := Aside0.mk (below_step (by repeat (first | (with_reducible first | exact HB.out | apply below_alloc | apply pw_below_drewN | apply below_drew1 | refine below_set ?_ GE258.out | refine below_set ?_ GE259.out | refine below_set ?_ GE260.out | refine below_set ?_ GE297.out | refine below_set ?_ GE302.out) | exact HB.out)) hb); clear BK258; clear BK259; clear BK260; clear BK297; clear BK302; clear HB; have BK258 := n0_; have BK259 := n1_; have BK260 := n2_; have BK297 := n3_; have BK302 := n4_; have HB := n5_; clear n0_ n1_ n2_ n3_ n4_ n5_; (try clear hb); (try clear hb2); (try clear hk); (try clear hi); have hcz188_0 : w187.cell? ⟨gb297, 0, none⟩ = some (.int .i64 t293) := (blk_cell BK297.out 0).trans rfl; have hcz188_1 : w187.cell? ⟨gb297, 1, none⟩ = some (.int .i64 t294) := (blk_cell BK297.out 1).trans rfl; have hcz188_2 : w187.cell? ⟨gb297, 2, none⟩ = some (.int .i64 t295) := (blk_cell BK297.out 2).trans rfl; have hfz188_0 := blk_frozen BK297.out 0; have hfz188_1 := blk_frozen BK297.out 1; have hfz188_2 := blk_frozen BK297.out 2) | ((with_reducible refine gate_callee (f := 29) rfl ?_); refine goesL_ (some 323) rfl rfl Tryd.func29 (by kernel_rfl) rfl #[.agg #[.int .i64 t293, .int .i64 t294, .int .i64 t295]] rfl (by (try simp only [List.map_toArray, List.map_cons, List.map_nil]); first | done | rfl | (simp only [List.length_drop, List.length_take]; rfl)) ?_; (with_reducible refine (impl_CrossPlace.calls k t293 t294 t295 t309 t268 true _ A175.out).mono ?_); rintro e w189 ⟨rfl, hb⟩; refine ⟨_, rfl, ?_⟩; have n0_ := Aside0.mk (blk_below (g := gb258) (o := .cells #[.int .i64 a0_0, .int .i64 a0_1, .int .i64 a0_2] 23 (0, 0)) (by (with_reducible repeat (first | refine blk_drewN ?_ _ | refine blk_drew ?_ | refine blk_alloc ?_ _)); exact BK258.out) hb); have n1_ := Aside0.mk (blk_below (g := gb259) (o := .cells #[.int .i64 a1_0, .int .i64 a1_1, .int .i64 a1_2] 23 (0, 0)) (by (with_reducible repeat (first | refine blk_drewN ?_ _ | refine blk_drew ?_ | refine blk_alloc ?_ _)); exact BK259.out) hb); have n2_ := Aside0.mk (blk_below (g := gb260) (o := .cells #[.int .i64 a7_0, .int .i64 a7_1, .int .i64 a7_2] 23 (0, 0)) (by (with_reducible repeat (first | refine blk_drewN ?_ _ | refine blk_drew ?_ | refine blk_alloc ?_ _)); exact BK260.out) hb); have n3_ := Aside0.mk (blk_below (g := gb297) (o := .cells #[.int .i64 t293, .int .i64 t294, .int .i64 t295] 23 (0, 0)) (by (with_reducible repeat (first | refine blk_drewN ?_ _ | refine blk_drew ?_ | refine blk_alloc ?_ _)); exact BK297.out) hb); have n4_ := Aside0.mk (blk_below (g := gb302) (o := .cells #[.int .i64 t293, .int .i64 t294, .int .i64 t295] 23 (0, 0)) (by (with_reducible repeat (first | refine blk_drewN ?_ _ | refine blk_drew ?_ | refine blk_alloc ?_ _)); exact BK302.out) hb); have n5_ := Aside0.mk (below_step (by repeat (first | (with_reducible first | exact HB.out | apply below_alloc | apply pw_below_drewN | apply below_drew1 | refine below_set ?_ GE258.out | refine below_set ?_ GE259.out | refine below_set ?_ GE260.out | refine below_set ?_ GE297.out | refine below_set ?_ GE302.out) | exact HB.out)) hb); clear BK258; clear BK259; clear BK260; clear BK297; clear BK302; clear HB; have BK258 := n0_; have BK259 := n1_; have BK260 := n2_; have BK297 := n3_; have BK302 := n4_; have HB := n5_; clear n0_ n1_ n2_ n3_ n4_ n5_; (try clear hb); (try clear hb2); (try clear hk); (try clear hi)) | ((with_reducible refine gate_callee (f := 23) rfl ?_); refine goesL_ (some 329) rfl rfl Tryd.func23 (by kernel_rfl) rfl #[.string t289] rfl (by (try simp only [List.map_toArray, List.map_cons, List.map_nil]); first | done | rfl | (simp only [List.length_drop, List.length_take]; rfl)) ?_; (with_reducible refine (impl_ParseLadders.calls t289 a0_0 a0_1 a0_2 true _ A176.out (rdy hR (by repeat (first | (with_reducible first | exact HB.out | apply below_alloc | apply pw_below_drewN | apply below_drew1) | refine below_set ?_ (Aside0.out (by assumption)) | exact HB.out | exact Below.refl _ _)))).mono ?_); rintro e w190 ⟨rfl, hb⟩; refine ⟨_, rfl, ?_⟩; have n0_ := Aside0.mk (blk_below (g := gb258) (o := .cells #[.int .i64 a0_0, .int .i64 a0_1, .int .i64 a0_2] 23 (0, 0)) (by (with_reducible repeat (first | refine blk_drewN ?_ _ | refine blk_drew ?_ | refine blk_alloc ?_ _)); exact BK258.out) hb); have n1_ := Aside0.mk (blk_below (g := gb259) (o := .cells #[.int .i64 a1_0, .int .i64 a1_1, .int .i64 a1_2] 23 (0, 0)) (by (with_reducible repeat (first | refine blk_drewN ?_ _ | refine blk_drew ?_ | refine blk_alloc ?_ _)); exact BK259.out) hb); have n2_ := Aside0.mk (blk_below (g := gb260) (o := .cells #[.int .i64 a7_0, .int .i64 a7_1, .int .i64 a7_2] 23 (0, 0)) (by (with_reducible repeat (first | refine blk_drewN ?_ _ | refine blk_drew ?_ | refine blk_alloc ?_ _)); exact BK260.out) hb); have n3_ := Aside0.mk (blk_below (g := gb297) (o := .cells #[.int .i64 t293, .int .i64 t294, .int .i64 t295] 23 (0, 0)) (by (with_reducible repeat (first | refine blk_drewN ?_ _ | refine blk_drew ?_ | refine blk_alloc ?_ _)); exact BK297.out) hb); have n4_ := Aside0.mk (blk_below (g := gb302) (o := .cells #[.int .i64 t293, .int .i64 t294, .int .i64 t295] 23 (0, 0)) (by (with_reducible repeat (first | refine blk_drewN ?_ _ | refine blk_drew ?_ | refine blk_alloc ?_ _)); exact BK302.out) hb); have n5_ := Aside0.mk (below_step (by repeat (first | (with_reducible first | exact HB.out | apply below_alloc | apply pw_below_drewN | apply below_drew1 | refine below_set ?_ GE258.out | refine below_set ?_ GE259.out | refine below_set ?_ GE260.out | refine below_set ?_ GE297.out | refine below_set ?_ GE302.out) | exact HB.out)) hb); clear BK258; clear BK259; clear BK260; clear BK297; clear BK302; clear HB; have BK258 := n0_; have BK259 := n1_; have BK260 := n2_; have BK297 := n3_; have BK302 := n4_; have HB := n5_; clear n0_ n1_ n2_ n3_ n4_ n5_; (try clear hb); (try clear hb2); (try clear hk); (try clear hi)) | ((with_reducible refine gate_dst (N := 62) rfl ?_); refine box_event ?hg (N := 62) ?hd (cs := #[.int .i64 0, .int .i64 0, .int .i64 0]) (t := 23) ?hr ?_; (case hd => rfl); (case hg => rfl); (case hr => first | (go_simp; done) | (go_simp; rfl)); intro gb316 hg w191 hbox hb; have n0_ := Aside0.mk (blk_below (g := gb258) (o := .cells #[.int .i64 a0_0, .int .i64 a0_1, .int .i64 a0_2] 23 (0, 0)) (by (with_reducible repeat (first | refine blk_drewN ?_ _ | refine blk_drew ?_ | refine blk_alloc ?_ _)); exact BK258.out) hb); have n1_ := Aside0.mk (blk_below (g := gb259) (o := .cells #[.int .i64 a1_0, .int .i64 a1_1, .int .i64 a1_2] 23 (0, 0)) (by (with_reducible repeat (first | refine blk_drewN ?_ _ | refine blk_drew ?_ | refine blk_alloc ?_ _)); exact BK259.out) hb); have n2_ := Aside0.mk (blk_below (g := gb260) (o := .cells #[.int .i64 a7_0, .int .i64 a7_1, .int .i64 a7_2] 23 (0, 0)) (by (with_reducible repeat (first | refine blk_drewN ?_ _ | refine blk_drew ?_ | refine blk_alloc ?_ _)); exact BK260.out) hb); have n3_ := Aside0.mk (blk_below (g := gb297) (o := .cells #[.int .i64 t293, .int .i64 t294, .int .i64 t295] 23 (0, 0)) (by (with_reducible repeat (first | refine blk_drewN ?_ _ | refine blk_drew ?_ | refine blk_alloc ?_ _)); exact BK297.out) hb); have n4_ := Aside0.mk (blk_below (g := gb302) (o := .cells #[.int .i64 t293, .int .i64 t294, .int .i64 t295] 23 (0, 0)) (by (with_reducible repeat (first | refine blk_drewN ?_ _ | refine blk_drew ?_ | refine blk_alloc ?_ _)); exact BK302.out) hb); have n5_ := Aside0.mk (below_step (by repeat (first | (with_reducible first | exact HB.out | apply below_alloc | apply pw_below_drewN | apply below_drew1 | refine below_set ?_ GE258.out | refine below_set ?_ GE259.out | refine below_set ?_ GE260.out | refine below_set ?_ GE297.out | refine below_set ?_ GE302.out) | exact HB.out)) hb); have n6_ := Aside0.mk (hbox); have n7_ := Aside0.mk ((by rw [hg]; exact (below_size (by repeat (first | (with_reducible first | exact HB.out | apply below_alloc | apply pw_below_drewN | apply below_drew1 | refine below_set ?_ GE258.out | refine below_set ?_ GE259.out | refine below_set ?_ GE260.out | refine below_set ?_ GE297.out | refine below_set ?_ GE302.out) | exact HB.out))) : w.heap.size ≤ gb316)); have n8_ := Aside0.mk ((by rw [hg]; exact (below_size (by repeat (first | (with_reducible first | exact HB.out | apply below_alloc | apply pw_below_drewN | apply below_drew1 | refine below_set ?_ GE258.out | refine below_set ?_ GE259.out | refine below_set ?_ GE260.out | refine below_set ?_ GE297.out | refine below_set ?_ GE302.out) | exact HB.out))) : w.heap.size ≤ gb316)); have n9_ := Aside0.mk ((by rw [hg]; exact Nat.ne_of_lt (blk_lt (g := gb258) (o := .cells #[.int .i64 a0_0, .int .i64 a0_1, .int .i64 a0_2] 23 (0, 0)) (by (with_reducible repeat (first | refine blk_drewN ?_ _ | refine blk_drew ?_ | refine blk_alloc ?_ _)); exact BK258.out)) : gb258 ≠ gb316)); have n10_ := Aside0.mk ((by rw [hg]; exact Nat.ne_of_gt (blk_lt (g := gb258) (o := .cells #[.int .i64 a0_0, .int .i64 a0_1, .int .i64 a0_2] 23 (0, 0)) (by (with_reducible repeat (first | refine blk_drewN ?_ _ | refine blk_drew ?_ | refine blk_alloc ?_ _)); exact BK258.out)) : gb316 ≠ gb258)); have n11_ := Aside0.mk ((by rw [hg]; exact Nat.ne_of_lt (blk_lt (g := gb259) (o := .cells #[.int .i64 a1_0, .int .i64 a1_1, .int .i64 a1_2] 23 (0, 0)) (by (with_reducible repeat (first | refine blk_drewN ?_ _ | refine blk_drew ?_ | refine blk_alloc ?_ _)); exact BK259.out)) : gb259 ≠ gb316)); have n12_ := Aside0.mk ((by rw [hg]; exact Nat.ne_of_gt (blk_lt (g := gb259) (o := .cells #[.int .i64 a1_0, .int .i64 a1_1, .int .i64 a1_2] 23 (0, 0)) (by (with_reducible repeat (first | refine blk_drewN ?_ _ | refine blk_drew ?_ | refine blk_alloc ?_ _)); exact BK259.out)) : gb316 ≠ gb259)); have n13_ := Aside0.mk ((by rw [hg]; exact Nat.ne_of_lt (blk_lt (g := gb260) (o := .cells #[.int .i64 a7_0, .int .i64 a7_1, .int .i64 a7_2] 23 (0, 0)) (by (with_reducible repeat (first | refine blk_drewN ?_ _ | refine blk_drew ?_ | refine blk_alloc ?_ _)); exact BK260.out)) : gb260 ≠ gb316)); have n14_ := Aside0.mk ((by rw [hg]; exact Nat.ne_of_gt (blk_lt (g := gb260) (o := .cells #[.int .i64 a7_0, .int .i64 a7_1, .int .i64 a7_2] 23 (0, 0)) (by (with_reducible repeat (first | refine blk_drewN ?_ _ | refine blk_drew ?_ | refine blk_alloc ?_ _)); exact BK260.out)) : gb316 ≠ gb260)); have n15_ := Aside0.mk ((by rw [hg]; exact Nat.ne_of_lt (blk_lt (g := gb297) (o := .cells #[.int .i64 t293, .int .i64 t294, .int .i64 t295] 23 (0, 0)) (by (with_reducible repeat (first | refine blk_drewN ?_ _ | refine blk_drew ?_ | refine blk_alloc ?_ _)); exact BK297.out)) : gb297 ≠ gb316)); have n16_ := Aside0.mk ((by rw [hg]; exact Nat.ne_of_gt (blk_lt (g := gb297) (o := .cells #[.int .i64 t293, .int .i64 t294, .int .i64 t295] 23 (0, 0)) (by (with_reducible repeat (first | refine blk_drewN ?_ _ | refine blk_drew ?_ | refine blk_alloc ?_ _)); exact BK297.out)) : gb316 ≠ gb297)); have n17_ := Aside0.mk ((by rw [hg]; exact Nat.ne_of_lt (blk_lt (g := gb302) (o := .cells #[.int .i64 t293, .int .i64 t294, .int .i64 t295] 23 (0, 0)) (by (with_reducible repeat (first | refine blk_drewN ?_ _ | refine blk_drew ?_ | refine blk_alloc ?_ _)); exact BK302.out)) : gb302 ≠ gb316)); have n18_ := Aside0.mk ((by rw [hg]; exact Nat.ne_of_gt (blk_lt (g := gb302) (o := .cells #[.int .i64 t293, .int .i64 t294, .int .i64 t295] 23 (0, 0)) (by (with_reducible repeat (first | refine blk_drewN ?_ _ | refine blk_drew ?_ | refine blk_alloc ?_ _)); exact BK302.out)) : gb316 ≠ gb302)); clear BK258; clear BK259; clear BK260; clear BK297; clear BK302; clear HB; have BK258 := n0_; have BK259 := n1_; have BK260 := n2_; have BK297 := n3_; have BK302 := n4_; have HB := n5_; have BK316 := n6_; have GW316 := n7_; have GE316 := n8_; have NB258_316 := n9_; have NB316_258 := n10_; have NB259_316 := n11_; have NB316_259 := n12_; have NB260_316 := n13_; have NB316_260 := n14_; have NB297_316 := n15_; have NB316_297 := n16_; have NB302_316 := n17_; have NB316_302 := n18_; clear n0_ n1_ n2_ n3_ n4_ n5_ n6_ n7_ n8_ n9_ n10_ n11_ n12_ n13_ n14_ n15_ n16_ n17_ n18_; clear hb hbox hg; have hnb192 := NB316_258.out; have hnc192 := NB258_316.out; have hnb193 := NB316_259.out; have hnc193 := NB259_316.out; have hnb194 := NB316_260.out; have hnc194 := NB260_316.out; have hnb195 := NB316_297.out; have hnc195 := NB297_316.out; have hnb196 := NB316_302.out; have hnc196 := NB302_316.out; have hcz197_0 : w191.cell? ⟨gb316, 0, none⟩ = some (.int .i64 0) := (blk_cell BK316.out 0).trans rfl; have hcz197_1 : w191.cell? ⟨gb316, 1, none⟩ = some (.int .i64 0) := (blk_cell BK316.out 1).trans rfl; have hcz197_2 : w191.cell? ⟨gb316, 2, none⟩ = some (.int .i64 0) := (blk_cell BK316.out 2).trans rfl; have hfz197_0 := blk_frozen BK316.out 0; have hfz197_1 := blk_frozen BK316.out 1; have hfz197_2 := blk_frozen BK316.out 2))
    (try simp only [Act.put, List.setIfInBounds_toArray, List.set_cons_zero, List.set_cons_succ])
    go_cut [427] from 427 to 427 (fun v427 wc => v427 = .bool false ∧ Aside0 (wc.heap[gb258]? = some (.cells #[.int .i64 a0_0, .int .i64 a0_1, .int .i64 a0_2] 23 (0, 0))) ∧ Aside0 (wc.heap[gb259]? = some (.cells #[.int .i64 a1_0, .int .i64 a1_1, .int .i64 a1_2] 23 (0, 0))) ∧ Aside0 (wc.heap[gb260]? = some (.cells #[.int .i64 a7_0, .int .i64 a7_1, .int .i64 a7_2] 23 (0, 0))) ∧ Aside0 (wc.heap[gb297]? = some (.cells #[.int .i64 t293, .int .i64 t294, .int .i64 t295] 23 (0, 0))) ∧ Aside0 (wc.heap[gb302]? = some (.cells #[.int .i64 t293, .int .i64 t294, .int .i64 t295] 23 (0, 0))) ∧ Aside0 (wc.heap[gb316]? = some (.cells #[.int .i64 a0_0, .int .i64 a0_1, .int .i64 a0_2] 23 (0, 0))) ∧ Aside0 (Below w.heap.size w wc))
    case first =>
      have c204 : (wrap64 ((wrap64 (t273 * 2)) * t262)) = (wrap64 ((wrap64 (t274 * a0_0)) * t261)) := HT204.out
      have c204b0 : ((wrap64 ((wrap64 (t273 * 2)) * t262)) == (wrap64 ((wrap64 (t274 * a0_0)) * t261))) = true := beq_iff_eq.mpr c204
      have c204b1 : ((wrap64 ((wrap64 (t273 * 2)) * t262)) != (wrap64 ((wrap64 (t274 * a0_0)) * t261))) = false := bne_eq_false_iff_eq.mpr c204
      clear c204
      (first | rw [c204b0] | (simp only [i64_w, i32_w]; rw [c204b0]) | skip)
      have c207 : ¬ (t262 = 0) := HT207.out
      have c207b0 : (t262 == 0) = false := beq_eq_false_iff_ne.mpr c207
      have c207b1 : (t262 != 0) = true := bne_iff_ne.mpr c207
      have c208 : t285 = (wrap64 (Int.tdiv t261 t262)) := HT208.out
      have c208b0 : (t285 == (wrap64 (Int.tdiv t261 t262))) = true := beq_iff_eq.mpr c208
      have c208b1 : (t285 != (wrap64 (Int.tdiv t261 t262))) = false := bne_eq_false_iff_eq.mpr c208
      clear c208
      have c210 : t261 = t261 := by simp
      have c210b0 : (t261 == t261) = true := beq_iff_eq.mpr c210
      have c210b1 : (t261 != t261) = false := bne_eq_false_iff_eq.mpr c210
      clear c210
      have c211 : t262 = t262 := by simp
      have c211b0 : (t262 == t262) = true := beq_iff_eq.mpr c211
      have c211b1 : (t262 != t262) = false := bne_eq_false_iff_eq.mpr c211
      clear c211
      have c213 : t268 = t268 := by simp
      have c213b0 : (t268 == t268) = true := beq_iff_eq.mpr c213
      have c213b1 : (t268 != t268) = false := bne_eq_false_iff_eq.mpr c213
      clear c213
      have c214 : (wrap64 (t309 + t267)) = (wrap64 (a0_0 * t268)) := HT214.out
      have c214b0 : ((wrap64 (t309 + t267)) == (wrap64 (a0_0 * t268))) = true := beq_iff_eq.mpr c214
      have c214b1 : ((wrap64 (t309 + t267)) != (wrap64 (a0_0 * t268))) = false := bne_eq_false_iff_eq.mpr c214
      clear c214
      have hnb216 := NB258_259.out
      have hnc216 := NB259_258.out
      have hnb217 := NB258_260.out
      have hnc217 := NB260_258.out
      have hnb218 := NB258_297.out
      have hnc218 := NB297_258.out
      have hnb219 := NB258_302.out
      have hnc219 := NB302_258.out
      have hnb220 := NB258_316.out
      have hnc220 := NB316_258.out
      have hcz221_0 : w191.cell? ⟨gb258, 0, none⟩ = some (.int .i64 a0_0) := (blk_cell BK258.out 0).trans rfl
      have hcz221_1 : w191.cell? ⟨gb258, 1, none⟩ = some (.int .i64 a0_1) := (blk_cell BK258.out 1).trans rfl
      have hcz221_2 : w191.cell? ⟨gb258, 2, none⟩ = some (.int .i64 a0_2) := (blk_cell BK258.out 2).trans rfl
      have hfz221_0 := blk_frozen BK258.out 0
      have hfz221_1 := blk_frozen BK258.out 1
      have hfz221_2 := blk_frozen BK258.out 2
      go_wp2_with (first | (go_at_call 41; (with_reducible refine (laws_jIs.calls k t261 t262 (wrap64 (a0_1 * a0_2)) (wrap64 (a0_1 + a0_2)) true _ A198.out).mono ?_); rintro e w' ⟨rfl, ⟨nd, rfl⟩⟩) | (go_at_call 41; (with_reducible refine (laws_jIs.calls k t267 t268 (wrap64 (a0_0 * a0_1)) (wrap64 (a0_1 + a0_2)) true _ A200.out).mono ?_); rintro e w' ⟨rfl, ⟨nd, rfl⟩⟩) | (go_at_call 42; (with_reducible refine (laws_jLow.calls k t273 t274 true _ A202.out).mono ?_); rintro e w' ⟨rfl, ⟨nd, rfl⟩⟩) | (go_at_call 42; (with_reducible refine (laws_jLow.calls k t279 t280 true _ A205.out).mono ?_); rintro e w' ⟨rfl, ⟨nd, rfl⟩⟩; have hnb222 := NB316_259.out; have hnc222 := NB259_316.out; have hnb223 := NB316_260.out; have hnc223 := NB260_316.out; have hnb224 := NB316_297.out; have hnc224 := NB297_316.out; have hnb225 := NB316_302.out; have hnc225 := NB302_316.out; have hcz226_0 : w191.cell? ⟨gb316, 0, none⟩ = some (.int .i64 0) := (blk_cell BK316.out 0).trans rfl; have hcz226_1 : w191.cell? ⟨gb316, 1, none⟩ = some (.int .i64 0) := (blk_cell BK316.out 1).trans rfl; have hcz226_2 : w191.cell? ⟨gb316, 2, none⟩ = some (.int .i64 0) := (blk_cell BK316.out 2).trans rfl; have hfz226_0 := blk_frozen BK316.out 0; have hfz226_1 := blk_frozen BK316.out 1; have hfz226_2 := blk_frozen BK316.out 2))
      go_meet
      case rel => exact ⟨(by first | rfl | (simp; done) | (rw [c314b0]; rfl) | (simp [c314b0]; done)), ⟨by (with_reducible repeat (first | refine blk_drewN ?_ _ | refine blk_drew ?_ | refine blk_alloc ?_ _)); refine blk_far ?_ NB258_316.out _; (with_reducible repeat (first | refine blk_drewN ?_ _ | refine blk_drew ?_ | refine blk_alloc ?_ _)); refine blk_far ?_ NB258_316.out _; (with_reducible repeat (first | refine blk_drewN ?_ _ | refine blk_drew ?_ | refine blk_alloc ?_ _)); refine blk_far ?_ NB258_316.out _; (with_reducible repeat (first | refine blk_drewN ?_ _ | refine blk_drew ?_ | refine blk_alloc ?_ _)); exact BK258.out⟩, ⟨by (with_reducible repeat (first | refine blk_drewN ?_ _ | refine blk_drew ?_ | refine blk_alloc ?_ _)); refine blk_far ?_ NB259_316.out _; (with_reducible repeat (first | refine blk_drewN ?_ _ | refine blk_drew ?_ | refine blk_alloc ?_ _)); refine blk_far ?_ NB259_316.out _; (with_reducible repeat (first | refine blk_drewN ?_ _ | refine blk_drew ?_ | refine blk_alloc ?_ _)); refine blk_far ?_ NB259_316.out _; (with_reducible repeat (first | refine blk_drewN ?_ _ | refine blk_drew ?_ | refine blk_alloc ?_ _)); exact BK259.out⟩, ⟨by (with_reducible repeat (first | refine blk_drewN ?_ _ | refine blk_drew ?_ | refine blk_alloc ?_ _)); refine blk_far ?_ NB260_316.out _; (with_reducible repeat (first | refine blk_drewN ?_ _ | refine blk_drew ?_ | refine blk_alloc ?_ _)); refine blk_far ?_ NB260_316.out _; (with_reducible repeat (first | refine blk_drewN ?_ _ | refine blk_drew ?_ | refine blk_alloc ?_ _)); refine blk_far ?_ NB260_316.out _; (with_reducible repeat (first | refine blk_drewN ?_ _ | refine blk_drew ?_ | refine blk_alloc ?_ _)); exact BK260.out⟩, ⟨by (with_reducible repeat (first | refine blk_drewN ?_ _ | refine blk_drew ?_ | refine blk_alloc ?_ _)); refine blk_far ?_ NB297_316.out _; (with_reducible repeat (first | refine blk_drewN ?_ _ | refine blk_drew ?_ | refine blk_alloc ?_ _)); refine blk_far ?_ NB297_316.out _; (with_reducible repeat (first | refine blk_drewN ?_ _ | refine blk_drew ?_ | refine blk_alloc ?_ _)); refine blk_far ?_ NB297_316.out _; (with_reducible repeat (first | refine blk_drewN ?_ _ | refine blk_drew ?_ | refine blk_alloc ?_ _)); exact BK297.out⟩, ⟨by (with_reducible repeat (first | refine blk_drewN ?_ _ | refine blk_drew ?_ | refine blk_alloc ?_ _)); refine blk_far ?_ NB302_316.out _; (with_reducible repeat (first | refine blk_drewN ?_ _ | refine blk_drew ?_ | refine blk_alloc ?_ _)); refine blk_far ?_ NB302_316.out _; (with_reducible repeat (first | refine blk_drewN ?_ _ | refine blk_drew ?_ | refine blk_alloc ?_ _)); refine blk_far ?_ NB302_316.out _; (with_reducible repeat (first | refine blk_drewN ?_ _ | refine blk_drew ?_ | refine blk_alloc ?_ _)); exact BK302.out⟩, ⟨by (with_reducible repeat (first | refine blk_drewN ?_ _ | refine blk_drew ?_ | refine blk_alloc ?_ _)); refine blk_put (cs := #[.int .i64 a0_0, .int .i64 a0_1, .int .i64 0]) ?_ 2 _ rfl; (with_reducible repeat (first | refine blk_drewN ?_ _ | refine blk_drew ?_ | refine blk_alloc ?_ _)); refine blk_put (cs := #[.int .i64 a0_0, .int .i64 0, .int .i64 0]) ?_ 1 _ rfl; (with_reducible repeat (first | refine blk_drewN ?_ _ | refine blk_drew ?_ | refine blk_alloc ?_ _)); refine blk_put (cs := #[.int .i64 0, .int .i64 0, .int .i64 0]) ?_ 0 _ rfl; (with_reducible repeat (first | refine blk_drewN ?_ _ | refine blk_drew ?_ | refine blk_alloc ?_ _)); exact BK316.out⟩, ⟨by repeat (first | (with_reducible first | exact HB.out | apply below_alloc | apply pw_below_drewN | apply below_drew1 | refine below_set ?_ GE258.out | refine below_set ?_ GE259.out | refine below_set ?_ GE260.out | refine below_set ?_ GE297.out | refine below_set ?_ GE302.out | refine below_set ?_ GE316.out) | exact HB.out)⟩⟩
    case rest =>
      try clear c173
      try clear c204
      try clear c204b0
      try clear c204b1
      try clear c207
      try clear c207b0
      try clear c207b1
      try clear c208
      try clear c208b0
      try clear c208b1
      try clear c210
      try clear c210b0
      try clear c210b1
      try clear c211
      try clear c211b0
      try clear c211b1
      try clear c213
      try clear c213b0
      try clear c213b1
      try clear c214
      try clear c214b0
      try clear c214b1
      try clear hcz182_0
      try clear hcz182_1
      try clear hcz182_2
      try clear hcz186_0
      try clear hcz186_1
      try clear hcz186_2
      try clear hcz188_0
      try clear hcz188_1
      try clear hcz188_2
      try clear hcz197_0
      try clear hcz197_1
      try clear hcz197_2
      try clear hcz221_0
      try clear hcz221_1
      try clear hcz221_2
      try clear hcz226_0
      try clear hcz226_1
      try clear hcz226_2
      try clear hfz182_0
      try clear hfz182_1
      try clear hfz182_2
      try clear hfz186_0
      try clear hfz186_1
      try clear hfz186_2
      try clear hfz188_0
      try clear hfz188_1
      try clear hfz188_2
      try clear hfz197_0
      try clear hfz197_1
      try clear hfz197_2
      try clear hfz221_0
      try clear hfz221_1
      try clear hfz221_2
      try clear hfz226_0
      try clear hfz226_1
      try clear hfz226_2
      obtain ⟨rfl, BK258, BK259, BK260, BK297, BK302, BK316, HB⟩ := hcut
      have c306 : (wrap64 ((wrap64 ((wrap64 (t279 * t274)) * 2)) + (wrap64 ((wrap64 (t273 * t280)) * 2)))) = (wrap64 ((wrap64 ((wrap64 (a0_0 * (wrap64 (a0_1 + a0_2)))) * t280)) * t274)) := HT306.out
      have c306b0 : ((wrap64 ((wrap64 ((wrap64 (t279 * t274)) * 2)) + (wrap64 ((wrap64 (t273 * t280)) * 2)))) == (wrap64 ((wrap64 ((wrap64 (a0_0 * (wrap64 (a0_1 + a0_2)))) * t280)) * t274))) = true := beq_iff_eq.mpr c306
      have c306b1 : ((wrap64 ((wrap64 ((wrap64 (t279 * t274)) * 2)) + (wrap64 ((wrap64 (t273 * t280)) * 2)))) != (wrap64 ((wrap64 ((wrap64 (a0_0 * (wrap64 (a0_1 + a0_2)))) * t280)) * t274))) = false := bne_eq_false_iff_eq.mpr c306
      clear c306
      have hnb308 := NB258_259.out
      have hnc308 := NB259_258.out
      have hnb309 := NB258_260.out
      have hnc309 := NB260_258.out
      have hnb310 := NB258_297.out
      have hnc310 := NB297_258.out
      have hnb311 := NB258_302.out
      have hnc311 := NB302_258.out
      have hnb312 := NB258_316.out
      have hnc312 := NB316_258.out
      have hcz313_0 : wc.cell? ⟨gb258, 0, none⟩ = some (.int .i64 a0_0) := (blk_cell BK258.out 0).trans rfl
      have hcz313_1 : wc.cell? ⟨gb258, 1, none⟩ = some (.int .i64 a0_1) := (blk_cell BK258.out 1).trans rfl
      have hcz313_2 : wc.cell? ⟨gb258, 2, none⟩ = some (.int .i64 a0_2) := (blk_cell BK258.out 2).trans rfl
      have hfz313_0 := blk_frozen BK258.out 0
      have hfz313_1 := blk_frozen BK258.out 1
      have hfz313_2 := blk_frozen BK258.out 2
      go_upto_region 26 with (fail)
      go_cut [451] from 451 to 451 (fun v451 wc => v451 = .bool (decide (t261 ≤ 1000) && decide (t262 ≤ 1000)) ∧ Aside0 (wc.heap[gb258]? = some (.cells #[.int .i64 a0_0, .int .i64 a0_1, .int .i64 a0_2] 23 (0, 0))) ∧ Aside0 (wc.heap[gb259]? = some (.cells #[.int .i64 a1_0, .int .i64 a1_1, .int .i64 a1_2] 23 (0, 0))) ∧ Aside0 (wc.heap[gb260]? = some (.cells #[.int .i64 a7_0, .int .i64 a7_1, .int .i64 a7_2] 23 (0, 0))) ∧ Aside0 (wc.heap[gb297]? = some (.cells #[.int .i64 t293, .int .i64 t294, .int .i64 t295] 23 (0, 0))) ∧ Aside0 (wc.heap[gb302]? = some (.cells #[.int .i64 t293, .int .i64 t294, .int .i64 t295] 23 (0, 0))) ∧ Aside0 (wc.heap[gb316]? = some (.cells #[.int .i64 a0_0, .int .i64 a0_1, .int .i64 a0_2] 23 (0, 0))) ∧ Aside0 (Below w.heap.size w wc))
      case first =>
        by_cases c314 : t261 ≤ 1000
        · skip
          have c314b0 : decide (t261 ≤ 1000) = true := decide_eq_true c314
          clear c314
          (first | rw [c314b0] | (simp only [i64_w, i32_w]; rw [c314b0]) | skip)
          go_wp2
          go_meet
          case rel => exact ⟨(by first | rfl | (simp; done) | (rw [c314b0]; rfl) | (simp [c314b0]; done)), ⟨by (with_reducible repeat (first | refine blk_drewN ?_ _ | refine blk_drew ?_ | refine blk_alloc ?_ _)); exact BK258.out⟩, ⟨by (with_reducible repeat (first | refine blk_drewN ?_ _ | refine blk_drew ?_ | refine blk_alloc ?_ _)); exact BK259.out⟩, ⟨by (with_reducible repeat (first | refine blk_drewN ?_ _ | refine blk_drew ?_ | refine blk_alloc ?_ _)); exact BK260.out⟩, ⟨by (with_reducible repeat (first | refine blk_drewN ?_ _ | refine blk_drew ?_ | refine blk_alloc ?_ _)); exact BK297.out⟩, ⟨by (with_reducible repeat (first | refine blk_drewN ?_ _ | refine blk_drew ?_ | refine blk_alloc ?_ _)); exact BK302.out⟩, ⟨by (with_reducible repeat (first | refine blk_drewN ?_ _ | refine blk_drew ?_ | refine blk_alloc ?_ _)); exact BK316.out⟩, ⟨by repeat (first | (with_reducible first | exact HB.out | apply below_alloc | apply pw_below_drewN | apply below_drew1 | refine below_set ?_ GE258.out | refine below_set ?_ GE259.out | refine below_set ?_ GE260.out | refine below_set ?_ GE297.out | refine below_set ?_ GE302.out | refine below_set ?_ GE316.out) | exact HB.out)⟩⟩
        · skip
          have c314b0 : decide (t261 ≤ 1000) = false := decide_eq_false c314
          clear c314
          (first | rw [c314b0] | (simp only [i64_w, i32_w]; rw [c314b0]) | skip)
          go_wp2
          go_meet
          case rel => exact ⟨(by first | rfl | (simp; done) | (rw [c314b0]; rfl) | (simp [c314b0]; done)), ⟨by (with_reducible repeat (first | refine blk_drewN ?_ _ | refine blk_drew ?_ | refine blk_alloc ?_ _)); exact BK258.out⟩, ⟨by (with_reducible repeat (first | refine blk_drewN ?_ _ | refine blk_drew ?_ | refine blk_alloc ?_ _)); exact BK259.out⟩, ⟨by (with_reducible repeat (first | refine blk_drewN ?_ _ | refine blk_drew ?_ | refine blk_alloc ?_ _)); exact BK260.out⟩, ⟨by (with_reducible repeat (first | refine blk_drewN ?_ _ | refine blk_drew ?_ | refine blk_alloc ?_ _)); exact BK297.out⟩, ⟨by (with_reducible repeat (first | refine blk_drewN ?_ _ | refine blk_drew ?_ | refine blk_alloc ?_ _)); exact BK302.out⟩, ⟨by (with_reducible repeat (first | refine blk_drewN ?_ _ | refine blk_drew ?_ | refine blk_alloc ?_ _)); exact BK316.out⟩, ⟨by repeat (first | (with_reducible first | exact HB.out | apply below_alloc | apply pw_below_drewN | apply below_drew1 | refine below_set ?_ GE258.out | refine below_set ?_ GE259.out | refine below_set ?_ GE260.out | refine below_set ?_ GE297.out | refine below_set ?_ GE302.out | refine below_set ?_ GE316.out) | exact HB.out)⟩⟩
      case rest =>
        try clear c173
        try clear c204
        try clear c204b0
        try clear c204b1
        try clear c207
        try clear c207b0
        try clear c207b1
        try clear c208
        try clear c208b0
        try clear c208b1
        try clear c210
        try clear c210b0
        try clear c210b1
        try clear c211
        try clear c211b0
        try clear c211b1
        try clear c213
        try clear c213b0
        try clear c213b1
        try clear c214
        try clear c214b0
        try clear c214b1
        try clear c306
        try clear c306b0
        try clear c306b1
        try clear c314
        try clear c314b0
        try clear hcz182_0
        try clear hcz182_1
        try clear hcz182_2
        try clear hcz186_0
        try clear hcz186_1
        try clear hcz186_2
        try clear hcz188_0
        try clear hcz188_1
        try clear hcz188_2
        try clear hcz197_0
        try clear hcz197_1
        try clear hcz197_2
        try clear hcz221_0
        try clear hcz221_1
        try clear hcz221_2
        try clear hcz226_0
        try clear hcz226_1
        try clear hcz226_2
        try clear hcz313_0
        try clear hcz313_1
        try clear hcz313_2
        try clear hfz182_0
        try clear hfz182_1
        try clear hfz182_2
        try clear hfz186_0
        try clear hfz186_1
        try clear hfz186_2
        try clear hfz188_0
        try clear hfz188_1
        try clear hfz188_2
        try clear hfz197_0
        try clear hfz197_1
        try clear hfz197_2
        try clear hfz221_0
        try clear hfz221_1
        try clear hfz221_2
        try clear hfz226_0
        try clear hfz226_1
        try clear hfz226_2
        try clear hfz313_0
        try clear hfz313_1
        try clear hfz313_2
        obtain ⟨rfl, BK258, BK259, BK260, BK297, BK302, BK316, HB⟩ := hcut
        generalize hx451 : (decide (t261 ≤ 1000) && decide (t262 ≤ 1000)) = x451_306
        by_cases c315 : x451_306 = true
        · subst c315
          have A316 := HT316.out hx451
          have c318 : a0_2 = a0_2 := by simp
          have c318b0 : (a0_2 == a0_2) = true := beq_iff_eq.mpr c318
          have c318b1 : (a0_2 != a0_2) = false := bne_eq_false_iff_eq.mpr c318
          clear c318
          have c319 : 1 = 1 := by simp
          have c319b0 : (1 == 1) = true := beq_iff_eq.mpr c319
          have c319b1 : (1 != 1) = false := bne_eq_false_iff_eq.mpr c319
          clear c319
          have hnb320 := NB258_259.out
          have hnc320 := NB259_258.out
          have hnb321 := NB258_260.out
          have hnc321 := NB260_258.out
          have hnb322 := NB258_297.out
          have hnc322 := NB297_258.out
          have hnb323 := NB258_302.out
          have hnc323 := NB302_258.out
          have hnb324 := NB258_316.out
          have hnc324 := NB316_258.out
          have hcz325_0 : wc.cell? ⟨gb258, 0, none⟩ = some (.int .i64 a0_0) := (blk_cell BK258.out 0).trans rfl
          have hcz325_1 : wc.cell? ⟨gb258, 1, none⟩ = some (.int .i64 a0_1) := (blk_cell BK258.out 1).trans rfl
          have hcz325_2 : wc.cell? ⟨gb258, 2, none⟩ = some (.int .i64 a0_2) := (blk_cell BK258.out 2).trans rfl
          have hfz325_0 := blk_frozen BK258.out 0
          have hfz325_1 := blk_frozen BK258.out 1
          have hfz325_2 := blk_frozen BK258.out 2
          go_wp2_with (first | ((with_reducible refine gate_callee (f := 43) rfl ?_); refine goesL_ (some 457) rfl rfl Tryd.func43 (by kernel_rfl) rfl #[.int .i64 a0_1, .int .i64 t261, .int .i64 t262] rfl (by (try simp only [List.map_toArray, List.map_cons, List.map_nil]); first | done | rfl | (simp only [List.length_drop, List.length_take]; rfl)) ?_; (with_reducible refine (impl_OtherHeight.calls k a0_1 t261 t262 a0_2 1 true _ A316.out).mono ?_); rintro e w326 ⟨rfl, hb⟩; refine ⟨_, rfl, ?_⟩; have n0_ := Aside0.mk (blk_below (g := gb258) (o := .cells #[.int .i64 a0_0, .int .i64 a0_1, .int .i64 a0_2] 23 (0, 0)) (by (with_reducible repeat (first | refine blk_drewN ?_ _ | refine blk_drew ?_ | refine blk_alloc ?_ _)); exact BK258.out) hb); have n1_ := Aside0.mk (blk_below (g := gb259) (o := .cells #[.int .i64 a1_0, .int .i64 a1_1, .int .i64 a1_2] 23 (0, 0)) (by (with_reducible repeat (first | refine blk_drewN ?_ _ | refine blk_drew ?_ | refine blk_alloc ?_ _)); exact BK259.out) hb); have n2_ := Aside0.mk (blk_below (g := gb260) (o := .cells #[.int .i64 a7_0, .int .i64 a7_1, .int .i64 a7_2] 23 (0, 0)) (by (with_reducible repeat (first | refine blk_drewN ?_ _ | refine blk_drew ?_ | refine blk_alloc ?_ _)); exact BK260.out) hb); have n3_ := Aside0.mk (blk_below (g := gb297) (o := .cells #[.int .i64 t293, .int .i64 t294, .int .i64 t295] 23 (0, 0)) (by (with_reducible repeat (first | refine blk_drewN ?_ _ | refine blk_drew ?_ | refine blk_alloc ?_ _)); exact BK297.out) hb); have n4_ := Aside0.mk (blk_below (g := gb302) (o := .cells #[.int .i64 t293, .int .i64 t294, .int .i64 t295] 23 (0, 0)) (by (with_reducible repeat (first | refine blk_drewN ?_ _ | refine blk_drew ?_ | refine blk_alloc ?_ _)); exact BK302.out) hb); have n5_ := Aside0.mk (blk_below (g := gb316) (o := .cells #[.int .i64 a0_0, .int .i64 a0_1, .int .i64 a0_2] 23 (0, 0)) (by (with_reducible repeat (first | refine blk_drewN ?_ _ | refine blk_drew ?_ | refine blk_alloc ?_ _)); exact BK316.out) hb); have n6_ := Aside0.mk (below_step (by repeat (first | (with_reducible first | exact HB.out | apply below_alloc | apply pw_below_drewN | apply below_drew1 | refine below_set ?_ GE258.out | refine below_set ?_ GE259.out | refine below_set ?_ GE260.out | refine below_set ?_ GE297.out | refine below_set ?_ GE302.out | refine below_set ?_ GE316.out) | exact HB.out)) hb); clear BK258; clear BK259; clear BK260; clear BK297; clear BK302; clear BK316; clear HB; have BK258 := n0_; have BK259 := n1_; have BK260 := n2_; have BK297 := n3_; have BK302 := n4_; have BK316 := n5_; have HB := n6_; clear n0_ n1_ n2_ n3_ n4_ n5_ n6_; (try clear hb); (try clear hb2); (try clear hk); (try clear hi); have hcz327_0 : w326.cell? ⟨gb258, 0, none⟩ = some (.int .i64 a0_0) := (blk_cell BK258.out 0).trans rfl; have hcz327_1 : w326.cell? ⟨gb258, 1, none⟩ = some (.int .i64 a0_1) := (blk_cell BK258.out 1).trans rfl; have hcz327_2 : w326.cell? ⟨gb258, 2, none⟩ = some (.int .i64 a0_2) := (blk_cell BK258.out 2).trans rfl; have hfz327_0 := blk_frozen BK258.out 0; have hfz327_1 := blk_frozen BK258.out 1; have hfz327_2 := blk_frozen BK258.out 2))
          exact HK.out _ _ (rest30 k a0_0 a0_1 a0_2 a1_0 a1_1 a1_2 a3 a4 a5 a6 a7_0 a7_1 a7_2 a8 t261 t262 t267 t268 t273 t274 t279 t280 t285 t293 t294 t295 t324 t325 t330 t331 t336 t337 t342 t343 t344 a2 true p q s t289 _ _ gb258 gb259 gb260 gb297 gb302 A357 A358 A359 A360 A361 A362 A363 A364 HP HQ HS GE258 GE259 GE260 GE297 GE302 NB258_259 NB258_260 NB259_258 NB259_260 NB259_297 NB259_302 NB260_258 NB260_259 NB260_297 NB260_302 NB297_259 NB297_260 NB302_259 NB302_260 ⟨⟨by (with_reducible repeat (first | refine blk_drewN ?_ _ | refine blk_drew ?_ | refine blk_alloc ?_ _)); exact BK258.out⟩, ⟨by (with_reducible repeat (first | refine blk_drewN ?_ _ | refine blk_drew ?_ | refine blk_alloc ?_ _)); exact BK259.out⟩, ⟨by (with_reducible repeat (first | refine blk_drewN ?_ _ | refine blk_drew ?_ | refine blk_alloc ?_ _)); exact BK260.out⟩, ⟨by (with_reducible repeat (first | refine blk_drewN ?_ _ | refine blk_drew ?_ | refine blk_alloc ?_ _)); exact BK297.out⟩, ⟨by (with_reducible repeat (first | refine blk_drewN ?_ _ | refine blk_drew ?_ | refine blk_alloc ?_ _)); exact BK302.out⟩, ⟨by repeat (first | (with_reducible first | exact HB.out | apply below_alloc | apply pw_below_drewN | apply below_drew1 | refine below_set ?_ GE258.out | refine below_set ?_ GE259.out | refine below_set ?_ GE260.out | refine below_set ?_ GE297.out | refine below_set ?_ GE302.out | refine below_set ?_ GE316.out) | exact HB.out)⟩⟩)
        · replace c315 := Bool.eq_false_iff.mpr c315
          subst c315
          go_wp2
          exact HK.out _ _ (rest30 k a0_0 a0_1 a0_2 a1_0 a1_1 a1_2 a3 a4 a5 a6 a7_0 a7_1 a7_2 a8 t261 t262 t267 t268 t273 t274 t279 t280 t285 t293 t294 t295 t324 t325 t330 t331 t336 t337 t342 t343 t344 a2 true p q s t289 _ _ gb258 gb259 gb260 gb297 gb302 A357 A358 A359 A360 A361 A362 A363 A364 HP HQ HS GE258 GE259 GE260 GE297 GE302 NB258_259 NB258_260 NB259_258 NB259_260 NB259_297 NB259_302 NB260_258 NB260_259 NB260_297 NB260_302 NB297_259 NB297_260 NB302_259 NB302_260 ⟨⟨by (with_reducible repeat (first | refine blk_drewN ?_ _ | refine blk_drew ?_ | refine blk_alloc ?_ _)); exact BK258.out⟩, ⟨by (with_reducible repeat (first | refine blk_drewN ?_ _ | refine blk_drew ?_ | refine blk_alloc ?_ _)); exact BK259.out⟩, ⟨by (with_reducible repeat (first | refine blk_drewN ?_ _ | refine blk_drew ?_ | refine blk_alloc ?_ _)); exact BK260.out⟩, ⟨by (with_reducible repeat (first | refine blk_drewN ?_ _ | refine blk_drew ?_ | refine blk_alloc ?_ _)); exact BK297.out⟩, ⟨by (with_reducible repeat (first | refine blk_drewN ?_ _ | refine blk_drew ?_ | refine blk_alloc ?_ _)); exact BK302.out⟩, ⟨by repeat (first | (with_reducible first | exact HB.out | apply below_alloc | apply pw_below_drewN | apply below_drew1 | refine below_set ?_ GE258.out | refine below_set ?_ GE259.out | refine below_set ?_ GE260.out | refine below_set ?_ GE297.out | refine below_set ?_ GE302.out | refine below_set ?_ GE316.out) | exact HB.out)⟩⟩)
  · replace c173 := Bool.eq_false_iff.mpr c173
    subst c173
    go_wp2
    exact HK.out _ _ (rest30 k a0_0 a0_1 a0_2 a1_0 a1_1 a1_2 a3 a4 a5 a6 a7_0 a7_1 a7_2 a8 t261 t262 t267 t268 t273 t274 t279 t280 t285 t293 t294 t295 t324 t325 t330 t331 t336 t337 t342 t343 t344 a2 true p q s t289 _ _ gb258 gb259 gb260 gb297 gb302 A357 A358 A359 A360 A361 A362 A363 A364 HP HQ HS GE258 GE259 GE260 GE297 GE302 NB258_259 NB258_260 NB259_258 NB259_260 NB259_297 NB259_302 NB260_258 NB260_259 NB260_297 NB260_302 NB297_259 NB297_260 NB302_259 NB302_260 ⟨⟨by (with_reducible repeat (first | refine blk_drewN ?_ _ | refine blk_drew ?_ | refine blk_alloc ?_ _)); exact BK258.out⟩, ⟨by (with_reducible repeat (first | refine blk_drewN ?_ _ | refine blk_drew ?_ | refine blk_alloc ?_ _)); exact BK259.out⟩, ⟨by (with_reducible repeat (first | refine blk_drewN ?_ _ | refine blk_drew ?_ | refine blk_alloc ?_ _)); exact BK260.out⟩, ⟨by (with_reducible repeat (first | refine blk_drewN ?_ _ | refine blk_drew ?_ | refine blk_alloc ?_ _)); exact BK297.out⟩, ⟨by (with_reducible repeat (first | refine blk_drewN ?_ _ | refine blk_drew ?_ | refine blk_alloc ?_ _)); exact BK302.out⟩, ⟨by repeat (first | (with_reducible first | exact HB.out | apply below_alloc | apply pw_below_drewN | apply below_drew1 | refine below_set ?_ GE258.out | refine below_set ?_ GE259.out | refine below_set ?_ GE260.out | refine below_set ?_ GE297.out | refine below_set ?_ GE302.out) | exact HB.out)⟩⟩)
end Go.Proofs.YtkhhlnpiogfofaaDoor.LCLaw
