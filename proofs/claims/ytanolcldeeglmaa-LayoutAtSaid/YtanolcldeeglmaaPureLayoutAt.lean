/- LayoutAt: At and Index of the program and of the document agree at all layouts and numbers: in plain numbers. -/
import Derived.Test.YtanolcldeeglmaaPl3
namespace Go.Proofs.Ytanolcldeeglmaa.Pure
theorem LayoutAt (a b c d e f g i at_ : Int) (_ : (Lit.int .i64 i).wf = true) (h : (Lit.int .i64 at_).wf = true) : ∃ k, G.wainscotlaw15_LayoutAt.f k a b c d e f g i at_ = some true :=
  ⟨300, Pl.layoutAt a b c d e f g i at_ (Go.bounds_i64 h).2 300 (Nat.le_refl _)⟩
end Go.Proofs.Ytanolcldeeglmaa.Pure
