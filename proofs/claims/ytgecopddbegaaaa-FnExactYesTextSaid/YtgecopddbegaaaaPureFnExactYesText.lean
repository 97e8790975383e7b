/- The program's YesText returns what the reference's returns, for both bools; no condition. -/
import Derived.Test.YtgecopddbegaaaaPFnExactYesTextx1
namespace Go.Proofs.Ytgecopddbegaaaa.Pure
open Go.RowKit Go.Proofs.Ytgecopddbegaaaa.PFnExactYesText Go.Proofs.YtgecopddbegaaaaW.PrintWords Go.Proofs.YtgecopddbegaaaaW.PrintLast

theorem FnExactYesText : laws_FnExactYesText.Pure := by
  intro a0
  unfold laws_FnExactYesText.f spec_YesText.f impl_YesText.f
  cases a0 <;> simp

end Go.Proofs.Ytgecopddbegaaaa.Pure
