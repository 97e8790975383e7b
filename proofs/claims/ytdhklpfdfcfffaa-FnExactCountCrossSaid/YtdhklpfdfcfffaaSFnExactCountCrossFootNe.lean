/- Of the print's words those alone that the law FnExactCountCross reaches by name (made by wip/tools/shrink.py). -/
import Derived.Test.YtdhklpfdfcfffaaSFnExactCountCrossN
namespace Go.Proofs.YtdhklpfdfcfffaaW.PrintWords
open Go.RowKit
namespace Kd
section
variable {α : Type} {d : Kd α} {W : World} {g n : Nat} {S ok : Nat → Prop} {A : Option Addr} {ad : Addr} {xs : List α}
end
end Kd
end Go.Proofs.YtdhklpfdfcfffaaW.PrintWords
