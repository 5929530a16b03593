/- LayoutOf: Of of the program and of the document agree at all sizes and aligns: in plain numbers. -/
import Derived.Test.YtanolcldeeglmaaPl2
namespace Go.Proofs.Ytanolcldeeglmaa.Pure
theorem LayoutOf : G.wainscotlaw15_LayoutOf.Pure := fun a0 a1 a2 _ _ => Pl.layoutOf a0 a1 a2
end Go.Proofs.Ytanolcldeeglmaa.Pure
