/- Words for walks over lists, structs and texts: those of the printed words that the texts of this claim use, cut out by a program (trimw.py). No condition beyond those that each names. -/
import Derived.Test.YtkhhlnpiogfofaaGreatDoorVWords
namespace Go.Proofs.YtkhhlnpiogfofaaGreatDoorW.PrintWords
open Go.RowKit
namespace Kd
section
variable {α : Type} {n : Nat} {d : Kd α} {hs : 0 < d.sz} {w : World} {base : Nat} {ok : Nat → Prop} {xs : List α} {cs : List Value}
end
section
variable {α : Type} {n : Nat} {enc : α → Value} {h1 : ∀ x, (enc x).oneCell' = true} {hs : 0 < (scalar enc h1).sz} {w : World} {base : Nat} {ok : Nat → Prop} {xs : List α} {cs : List Value}
end
end Kd
end Go.Proofs.YtkhhlnpiogfofaaGreatDoorW.PrintWords
