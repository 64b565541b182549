/- Words for walks over lists, structs and texts: those of the printed words that the texts of this claim use, cut out by a program (trimw.py). No condition beyond those that each names. -/
import Derived.Test.YtkhhlnpiogfofaaGreatDoorVN
namespace Go.Proofs.YtkhhlnpiogfofaaGreatDoorW.PrintWords
open Go.RowKit
namespace Kd
section
variable {α : Type} {d : Kd α} {W : World} {g n : Nat} {S ok : Nat → Prop} {A : Option Addr} {ad : Addr} {xs : List α}
end
end Kd
end Go.Proofs.YtkhhlnpiogfofaaGreatDoorW.PrintWords
