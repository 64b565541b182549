/- Words for walks over lists, structs and texts: those of the printed words that the texts of this claim use, cut out by a program (trimw.py). No condition beyond those that each names. -/
import Derived.Test.YtkhhlnpiogfofaaGreatDoorVApart
import Derived.Test.YtkhhlnpiogfofaaGreatDoorVArr
namespace Go.Proofs.YtkhhlnpiogfofaaGreatDoorW.PrintWords
open Go.RowKit
section
variable {P : Program}
end
namespace Kd
section
variable {P : Program} {ops : Array Oper} {rest : List Oper} {o : Oper} {a : Act} {Q : Exit → Act → World → Prop} {Kc : Act → World → Prop} {α : Type}
end
section
variable {α : Type} {d : Kd α} {e : Nat} {w : World} {base : Nat} {ok : Nat → Prop} {v : Value} {xs : List α}
end
section
variable {P : Program} {ops : Array Oper} {rest : List Oper} {o : Oper} {a : Act} {Q : Exit → Act → World → Prop} {Kc : Act → World → Prop} {α : Type}
end
end Kd
end Go.Proofs.YtkhhlnpiogfofaaGreatDoorW.PrintWords
