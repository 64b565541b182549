/- The plain law and the walk of FnLaddersWholeOfAll joined: whatever is given, the law returns true. Condition: the library's variables (Ready). -/
import Derived.Test.YtkhhlnpiogfofaaDoorLWMain
import Derived.Test.YtkhhlnpiogfofaaDoorLWLaw
namespace Go.Proofs.YtkhhlnpiogfofaaDoor.LWJoin
open Go.RowKit Go.Proofs.YtkhhlnpiogfofaaDoor.TextC
set_option linter.unusedVariables false

theorem join (a0_0 a0_1 a0_2 a1 a2 a3_0 a3_1 a3_2 a4 : Int) (a5 : ByteArray) (hs : a5.size ≤ 140737488355328) (W : World) (hR : Ready W) :
    Calls Tryd.prog 3 #[.agg #[.int .i64 a0_0, .int .i64 a0_1, .int .i64 a0_2], .int .i64 a1, .int .i64 a2, .agg #[.int .i64 a3_0, .int .i64 a3_1, .int .i64 a3_2], .int .i64 a4, .string a5] W fun e W' => e = .returned (.bool true) ∧ Below W.heap.size W W' := by
  obtain ⟨k, h⟩ := LWMain.law a0_0 a0_1 a0_2 a1 a2 a3_0 a3_1 a3_2 a4 a5
  exact LWLaw.walk k a0_0 a0_1 a0_2 a1 a2 a3_0 a3_1 a3_2 a4 a5 true W h rfl ⟨hR⟩
end Go.Proofs.YtkhhlnpiogfofaaDoor.LWJoin
