/- Of the print's words those alone that the law FnExactCountCross reaches by name (made by wip/tools/shrink.py). -/
import Derived.Test.YtdhklpfdfcfffaaSFnExactCountCrossApart
import Derived.Test.YtdhklpfdfcfffaaSFnExactCountCrossArr
namespace Go.Proofs.YtdhklpfdfcfffaaW.PrintWords
open Go.RowKit
section
variable {P : Program}
end
namespace Kd
section
variable {P : Program} {ops : Array Oper} {rest : List Oper} {o : Oper} {a : Act} {Q : Exit → Act → World → Prop} {Kc : Act → World → Prop} {α : Type}
end
section
variable {α : Type} {d : Kd α} {e : Nat} {w : World} {base : Nat} {ok : Nat → Prop} {v : Value} {xs : List α}
end
section
variable {P : Program} {ops : Array Oper} {rest : List Oper} {o : Oper} {a : Act} {Q : Exit → Act → World → Prop} {Kc : Act → World → Prop} {α : Type}
end
end Kd
end Go.Proofs.YtdhklpfdfcfffaaW.PrintWords
