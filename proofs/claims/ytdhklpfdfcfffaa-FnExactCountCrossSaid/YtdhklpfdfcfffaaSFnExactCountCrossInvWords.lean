/- Of the print's words those alone that the law FnExactCountCross reaches by name (made by wip/tools/shrink.py). -/
import Derived.Test.YtdhklpfdfcfffaaSFnExactCountCrossInv
import Derived.Test.YtdhklpfdfcfffaaSFnExactCountCrossFootNe
namespace Go.Proofs.YtdhklpfdfcfffaaW.PrintWords
open Go.RowKit
end Go.Proofs.YtdhklpfdfcfffaaW.PrintWords
namespace Go.Proofs.YtdhklpfdfcfffaaW.PrintLast
section
variable {ops : Array Oper} {a : Act} {o og : Oper} {g : Nat} {t : Tmp} {u : Bool}
end
end Go.Proofs.YtdhklpfdfcfffaaW.PrintLast
