/- Of the print's words those alone that the law FnExactCountCross reaches by name (made by wip/tools/shrink.py). -/
import Derived.Test.YtdhklpfdfcfffaaSFnExactCountCrossTab
namespace Go.Proofs.YtdhklpfdfcfffaaW.PrintLast
section
variable {P : Program} {ops : Array Oper} {Q : Exit → Act → World → Prop} {md : Region.Mode} {T : Bool × List (List Nat × List Nat)} {B : List Nat} {O : List Nat} {b : Nat → Bool} {i j n : Nat}
end
end Go.Proofs.YtdhklpfdfcfffaaW.PrintLast
