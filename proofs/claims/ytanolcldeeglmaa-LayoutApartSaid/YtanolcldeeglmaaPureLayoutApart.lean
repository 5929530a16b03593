/- LayoutApart: objects lie apart, at multiples of their align, within the slab: in plain numbers. -/
import Derived.Test.YtanolcldeeglmaaPl4
namespace Go.Proofs.Ytanolcldeeglmaa.Pure
theorem LayoutApart : G.wainscotlaw15_LayoutApart.Pure := fun a0 a1 a2 _ _ => ⟨20, Pl.layoutApart a0 a1 a2 20 (Nat.le_refl _)⟩
end Go.Proofs.Ytanolcldeeglmaa.Pure
