/- The chapter's specs answer as it says. -/
import Derived.Test.YtfggpcfmfddfjaaPl1
import Derived.Test.YtfggpcfmfddfjaaG4
namespace Go.Proofs.Ytfggpcfmfddfjaa.Pl
open Go.RowKit Go.Proofs.Ytfggpcfmfddfjaa.G Go.Proofs.YtfggpcfmfddfjaaW.PrintWords Go.Proofs.YtfggpcfmfddfjaaW.PrintLast

theorem works12 : wainscotlaw20_works.f 12 = some true := by decide +kernel
theorem works (k : Nat) (hk : 12 ≤ k) : wainscotlaw20_works.f k = some true := at_rounds (g := wainscotlaw20_works.f) (fun k => wainscotlaw20_works.mono k) hk works12
theorem srv_iff {a0 a1 a2 b0 b1 b2 : Int} : srv a0 a1 a2 b0 b1 b2 = true ↔ (okS a0 a1 a2 ∧ okS b0 b1 b2 ∧ a2 = 0 ∧ b2 = 0 ∧ stp a0 a1 a2 = stp b0 b1 b2 ∧ a1 % b1 = 0) := by
  unfold srv; simp only [decide_eq_true_eq]

end Go.Proofs.Ytfggpcfmfddfjaa.Pl
