/- Words for walks over lists, structs and texts: those of the printed words that the texts of this claim use, cut out by a program (trimw.py). No condition beyond those that each names. -/
import Derived.Test.YtkhhlnpiogfofaaGreatDoorVInv
import Derived.Test.YtkhhlnpiogfofaaGreatDoorVFootNe
namespace Go.Proofs.YtkhhlnpiogfofaaGreatDoorW.PrintWords
open Go.RowKit
end Go.Proofs.YtkhhlnpiogfofaaGreatDoorW.PrintWords
namespace Go.Proofs.YtkhhlnpiogfofaaGreatDoorW.PrintLast
section
variable {ops : Array Oper} {a : Act} {o og : Oper} {g : Nat} {t : Tmp} {u : Bool}
end
end Go.Proofs.YtkhhlnpiogfofaaGreatDoorW.PrintLast
