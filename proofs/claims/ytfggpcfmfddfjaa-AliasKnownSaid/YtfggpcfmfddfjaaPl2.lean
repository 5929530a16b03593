/- The chapter's specs answer as it says; Check, Step and Serves answer alike in the program and in the document, of any two specs. -/
import Derived.Test.YtfggpcfmfddfjaaPl1
import Derived.Test.YtfggpcfmfddfjaaG5
namespace Go.Proofs.Ytfggpcfmfddfjaa.Pl
open Go.RowKit Go.Proofs.Ytfggpcfmfddfjaa.G Go.Proofs.YtfggpcfmfddfjaaW.PrintWords Go.Proofs.YtfggpcfmfddfjaaW.PrintLast

theorem works12 : wainscotlaw20_works.f 12 = some true := by decide +kernel
theorem works (k : Nat) (hk : 12 ≤ k) : wainscotlaw20_works.f k = some true := at_rounds (g := wainscotlaw20_works.f) (fun k => wainscotlaw20_works.mono k) hk works12

theorem answers (a0 a1 a2 b0 b1 b2 : Int) (ha : (Lit.int .i64 a1).wf = true) (hb : (Lit.int .i64 b1).wf = true) : wainscotlaw20_AliasAnswers.f 12 a0 a1 a2 b0 b1 b2 = some true := by
  unfold wainscotlaw20_AliasAnswers.f
  rw [aCheck a0 a1 a2 ha, rCheck, aStep a0 a1 a2 ha, rStep, aServes 11 a0 a1 a2 b0 b1 b2 ha hb, rServes 11]
  simp only [Option.bind_some, if_true, beq_self_eq_true, works12]

end Go.Proofs.Ytfggpcfmfddfjaa.Pl
namespace Go.Proofs.Ytfggpcfmfddfjaa.Pure
theorem AliasAnswers (a0 a1 a2 b0 b1 b2 : Int) (_ : (Lit.int .i64 a0).wf = true) (ha : (Lit.int .i64 a1).wf = true) (_ : (Lit.int .i64 a2).wf = true) (_ : (Lit.int .i64 b0).wf = true) (hb : (Lit.int .i64 b1).wf = true) (_ : (Lit.int .i64 b2).wf = true) :
    ∃ k, G.wainscotlaw20_AliasAnswers.f k a0 a1 a2 b0 b1 b2 = some true := ⟨12, Pl.answers a0 a1 a2 b0 b1 b2 ha hb⟩
end Go.Proofs.Ytfggpcfmfddfjaa.Pure
