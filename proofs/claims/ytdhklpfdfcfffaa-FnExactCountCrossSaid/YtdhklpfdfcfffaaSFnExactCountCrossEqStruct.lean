/- Of the print's words those alone that the law FnExactCountCross reaches by name (made by wip/tools/shrink.py). -/
import Derived.Test.YtdhklpfdfcfffaaSFnExactCountCrossWords
import Derived.Laws.StructEq
namespace Go.Proofs.YtdhklpfdfcfffaaW.PrintWords
open Go.RowKit
section
variable {P : Program} {d : Nat} {xs ys : Array Value} {f : Field} {fs : List Field} {a b : Value} {r s : Bool} {w : World}
end
end Go.Proofs.YtdhklpfdfcfffaaW.PrintWords
