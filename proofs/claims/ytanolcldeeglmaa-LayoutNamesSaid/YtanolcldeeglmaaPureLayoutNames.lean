/- LayoutNames: the examples, and the ends: in plain numbers. -/
import Derived.Test.YtanolcldeeglmaaPl6
namespace Go.Proofs.Ytanolcldeeglmaa.Pure
theorem LayoutNames : G.wainscotlaw15_LayoutNames.Pure := ⟨400, Pl.names⟩
end Go.Proofs.Ytanolcldeeglmaa.Pure
