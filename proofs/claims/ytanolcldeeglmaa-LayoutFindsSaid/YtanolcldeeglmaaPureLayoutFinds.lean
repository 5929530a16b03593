/- LayoutFinds: each object is found where it begins, and nowhere else: in plain numbers. -/
import Derived.Test.YtanolcldeeglmaaPl5
namespace Go.Proofs.Ytanolcldeeglmaa.Pure
theorem LayoutFinds : G.wainscotlaw15_LayoutFinds.Pure := fun a0 a1 a2 _ _ _ => ⟨50, Pl.layoutFinds a0 a1 a2 50 (Nat.le_refl _)⟩
end Go.Proofs.Ytanolcldeeglmaa.Pure
