/- Words for walks over lists, structs and texts: those of the printed words that the texts of this claim use, cut out by a program (trimw.py). No condition beyond those that each names. -/
import Derived.Test.YtkhhlnpiogfofaaGreatDoorVTab
namespace Go.Proofs.YtkhhlnpiogfofaaGreatDoorW.PrintLast
section
variable {P : Program} {ops : Array Oper} {Q : Exit → Act → World → Prop} {md : Region.Mode} {S : World → Prop} {ds : List Nat} {T : Bool × List (List Nat × List Nat)}
end
end Go.Proofs.YtkhhlnpiogfofaaGreatDoorW.PrintLast
