/- Words for walks over lists, structs and texts: those of the printed words that the texts of this claim use, cut out by a program (trimw.py). No condition beyond those that each names. -/
import Derived.Test.YtkhhlnpiogfofaaGreatDoorVWords
import Derived.Test.YtkhhlnpiogfofaaGreatDoorVLast
namespace Go.Proofs.YtkhhlnpiogfofaaGreatDoorW.PrintWords
open Go.RowKit
namespace Kd
section
variable {α : Type} {d : Kd α} {e base g o n cap : Nat} {ok okp : Nat → Prop} {w W : World} {v : Value} {xs : List α}
end
section
variable {α : Type} {enc : α → Value} {h1 : ∀ x, (enc x).oneCell' = true} {e base g o n cap : Nat} {ok : Nat → Prop} {W : World} {xs : List α}
end
end Kd
end Go.Proofs.YtkhhlnpiogfofaaGreatDoorW.PrintWords
