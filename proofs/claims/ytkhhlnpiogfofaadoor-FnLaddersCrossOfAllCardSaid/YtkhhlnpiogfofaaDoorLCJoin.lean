/- The plain laws and the walk of FnLaddersCrossOfAll joined: whatever is given, the law returns true. Condition: the library's variables (Ready). -/
import Derived.Test.YtkhhlnpiogfofaaDoorLCPart
import Derived.Test.YtkhhlnpiogfofaaDoorLCLaw
namespace Go.Proofs.YtkhhlnpiogfofaaDoor.LCJoin
open Go.RowKit Go.Proofs.YtkhhlnpiogfofaaDoor.PFnLaddersCrossOfAll Go.Proofs.YtkhhlnpiogfofaaDoorW.PrintWords Go.Proofs.YtkhhlnpiogfofaaDoor.LCPure Go.Proofs.YtkhhlnpiogfofaaDoor.TextC
set_option linter.unusedVariables false

theorem join (a0_0 a0_1 a0_2 a1_0 a1_1 a1_2 : Int) (a2 : Bool) (a3 a4 a5 a6 a7_0 a7_1 a7_2 a8 : Int) (W : World) (hR : Ready W) :
    Calls Tryd.prog 4 #[.agg #[.int .i64 a0_0, .int .i64 a0_1, .int .i64 a0_2], .agg #[.int .i64 a1_0, .int .i64 a1_1, .int .i64 a1_2], .bool a2, .int .i64 a3, .int .i64 a4, .int .i64 a5, .int .i64 a6, .agg #[.int .i64 a7_0, .int .i64 a7_1, .int .i64 a7_2], .int .i64 a8] W fun e W' => e = .returned (.bool true) ∧ Below W.heap.size W W' := by
  obtain ⟨K, hK⟩ : ∃ K : Nat, 2000000000 ≤ K := ⟨2000000000, by omega⟩
  obtain ⟨t261, t262, t267, t268, t273, t274, t279, t280, t285, t293, t294, t295, t289, o, A10, A11, A12, A13, A14, A15, A16, A17, A18, A19, A20, A21, A22, A23, AL, AS, HT⟩ := partL (K + 1) (by omega) a0_0 a0_1 a0_2
  obtain ⟨t324, t325, t330, t331, p, A357, A358, A359, A360, HP⟩ := partU K hK a1_0 a1_1 a1_2 a3 a2
  obtain ⟨t336, t337, q, A361, A362, HQ⟩ := otherH (K + 1) (by omega) a4 a5 a6
  obtain ⟨t342, t343, t344, s, A363, A364, HS⟩ := movedW (K + 1) (by omega) a7_0 a7_1 a7_2 a8
  refine LCLaw.walk (K + 1) a0_0 a0_1 a0_2 a1_0 a1_1 a1_2 a3 a4 a5 a6 a7_0 a7_1 a7_2 a8 t261 t262 t267 t268 t273 t274 t279 t280 t285 t293 t294 t295 t324 t325 t330 t331 t336 t337 t342 t343 t344 a2 o p q s t289 W
    ⟨hR⟩ A10 A11 A12 A13 A14 A15 A16 A17 A18 A19 A20 A21 A22 A23 AL AS HT A357 A358 A359 A360 ⟨A361⟩ ⟨A362⟩ ⟨A363⟩ ⟨A364⟩ HP ⟨fun h => ?_⟩ ⟨fun h => ?_⟩
  · obtain ⟨h1, h2⟩ := HQ h
    exact ⟨⟨h1⟩, ⟨h2⟩⟩
  · obtain ⟨x, y, h1, h2, h3⟩ := HS h
    exact ⟨x, y, ⟨h1⟩, ⟨h2⟩, ⟨h3⟩⟩
end Go.Proofs.YtkhhlnpiogfofaaDoor.LCJoin
