/- The chapter's examples answer as it says. -/
import Derived.Test.YtfhjpefedlaacaaPl0
import Derived.Test.YtfhjpefedlaacaaG3
namespace Go.Proofs.Ytfhjpefedlaacaa.Pl
open Go.RowKit Go.Proofs.Ytfhjpefedlaacaa.G Go.Proofs.YtfhjpefedlaacaaW.PrintWords Go.Proofs.YtfhjpefedlaacaaW.PrintLast

theorem works2 : wainscotlaw17_works.f 2 = some true := by decide +kernel
theorem works (k : Nat) (hk : 2 ≤ k) : wainscotlaw17_works.f k = some true := at_rounds (g := wainscotlaw17_works.f) (fun k => wainscotlaw17_works.mono k) hk works2

end Go.Proofs.Ytfhjpefedlaacaa.Pl
