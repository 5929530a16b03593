/- At both ends of sizes, aligns and flags Check, Step and Serves answer as the document says (closed): out of the general law, loop by loop. -/
import Derived.Test.YtfggpcfmfddfjaaPl2
import Derived.Test.YtfggpcfmfddfjaaPlF
import Derived.Test.YtfggpcfmfddfjaaG10
namespace Go.Proofs.Ytfggpcfmfddfjaa.Pl
open Go.RowKit Go.Proofs.Ytfggpcfmfddfjaa.G Go.Proofs.YtfggpcfmfddfjaaW.PrintWords Go.Proofs.YtfggpcfmfddfjaaW.PrintLast

theorem answersK (k : Nat) (hk : 12 ≤ k) (a0 a1 a2 b0 b1 b2 : Int) (ha : (Lit.int .i64 a1).wf = true) (hb : (Lit.int .i64 b1).wf = true) : wainscotlaw20_AliasAnswers.f k a0 a1 a2 b0 b1 b2 = some true :=
  at_rounds (g := fun k => wainscotlaw20_AliasAnswers.f k a0 a1 a2 b0 b1 b2) (fun k => wainscotlaw20_AliasAnswers.mono _ _ _ _ _ _ k) hk (answers a0 a1 a2 b0 b1 b2 ha hb)

/-- Each number is an int. -/
def okI (l : List Int) : Prop := ∀ x ∈ l, (Lit.int .i64 x).wf = true

theorem rdI_mem {l : List Int} {i : Nat} (h : i < l.length) : rd l (i : Int) ∈ l := by
  unfold rd
  rw [List.getD_eq_getElem?_getD, List.getElem?_eq_getElem (by simpa using h)]
  exact List.getElem_mem _

theorem known2 (x1 x2 : List Int) (x3 x4 : Nat) (h2 : okI x2) (l3 : x3 < x1.length) (l4 : x4 < x2.length) (d : Nat) :
    ∀ (x5 : Int) (k : Nat), -1 ≤ x5 → x5 + d = 9 → 12 ≤ k → wainscotlaw20_AliasKnown.l2 (k + d + 1) x1 x2 x3 x4 x5 = wainscotlaw20_AliasKnown.l1 k x1 x2 x3 (wrap64 (x4 + 1)) := by
  induction d with
  | zero =>
    intro x5 k h0 hd hk
    simp only [wainscotlaw20_AliasKnown.l2]
    rw [if_neg (by omega)]
  | succ d ih =>
    intro x5 k h0 hd hk
    have := ih (x5 + 1) k (by omega) (by omega) hk
    obtain ⟨K, hK⟩ : ∃ K, K = k + (d + 1) := ⟨_, rfl⟩
    rw [← hK]
    rw [show k + d + 1 = K by omega] at this
    simp only [wainscotlaw20_AliasKnown.l2]
    rw [if_pos (by omega), if_pos (by omega), if_pos (by omega), if_pos (by omega), if_pos (by omega), answersK _ (by omega) _ _ _ _ _ _ (h2 _ (rdI_mem l4)) (by decide), answersK _ (by omega) _ _ _ _ _ _ (by decide) (h2 _ (rdI_mem l4)), answersK _ (by omega) _ _ _ _ _ _ (h2 _ (rdI_mem l4)) (h2 _ (rdI_mem l4))]
    simp only [Option.bind_some, if_true]
    rw [wrap64_id (x := x5 + 1) (by omega) (by omega)]
    exact this

theorem known1 (x1 x2 : List Int) (x3 : Nat) (h2 : okI x2) (l3 : x3 < x1.length) (hn : x2.length ≤ 9223372036854775807) (d : Nat) :
    ∀ (x4 k : Nat), x4 + d = x2.length → 12 ≤ k → wainscotlaw20_AliasKnown.l1 (k + 12 * d + 1) x1 x2 x3 x4 = wainscotlaw20_AliasKnown.l0 k x1 x2 (wrap64 (x3 + 1)) := by
  induction d with
  | zero =>
    intro x4 k hd hk
    simp only [wainscotlaw20_AliasKnown.l1]
    rw [if_neg (by omega)]
  | succ d ih =>
    intro x4 k hd hk
    simp only [wainscotlaw20_AliasKnown.l1]
    rw [if_pos (by omega), show k + 12 * (d + 1) = (k + 12 * d + 1) + 10 + 1 by omega, known2 x1 x2 x3 x4 h2 l3 (by omega) 10 (-1) (k + 12 * d + 1) (by omega) (by omega) (by omega), wrap_next (i := x4) (n := x2.length) (by omega) hn]
    exact ih (x4 + 1) k (by omega) hk

theorem known0 (x1 x2 : List Int) (h2 : okI x2) (hn1 : x1.length ≤ 9223372036854775807) (hn : x2.length ≤ 9223372036854775807) (d : Nat) :
    ∀ (x3 k : Nat), x3 + d = x1.length → 13 ≤ k → wainscotlaw20_AliasKnown.l0 (k + (12 * x2.length + 2) * d + 1) x1 x2 x3 = some true := by
  induction d with
  | zero =>
    intro x3 k hd hk
    simp only [wainscotlaw20_AliasKnown.l0]
    have hf : wainscotlaw20_AliasFinds.f (k + (12 * x2.length + 2) * 0) ([] : List S23) 1 8 0 = some true :=
      at_rounds (g := fun k => wainscotlaw20_AliasFinds.f k ([] : List S23) 1 8 0) (fun k => wainscotlaw20_AliasFinds.mono _ _ _ _ k) (by simp; omega) (finds [] 1 8 0 (by intro x hx; cases hx) (by simp) (by decide))
    rw [if_neg (by omega), works _ (by omega), hf]
    simp
  | succ d ih =>
    intro x3 k hd hk
    simp only [wainscotlaw20_AliasKnown.l0]
    have e : k + (12 * x2.length + 2) * (d + 1) = (k + (12 * x2.length + 2) * d + 1) + 12 * x2.length + 1 := by rw [Nat.mul_add]; omega
    have := known1 x1 x2 x3 h2 (by omega) hn x2.length 0 (k + (12 * x2.length + 2) * d + 1) (by omega) (by omega)
    rw [if_pos (by omega), e, show (0 : Int) = ((0 : Nat) : Int) from rfl, this, wrap_next (i := x3) (n := x1.length) (by omega) hn1]
    exact ih (x3 + 1) k (by omega) hk

end Go.Proofs.Ytfggpcfmfddfjaa.Pl
namespace Go.Proofs.Ytfggpcfmfddfjaa.Pure
open Go.RowKit Go.Proofs.Ytfggpcfmfddfjaa.G
theorem AliasKnown : wainscotlaw20_AliasKnown.Pure := by
  unfold wainscotlaw20_AliasKnown.Pure wainscotlaw20_AliasKnown.f
  exact ⟨_, Pl.known0 _ _ (by unfold Pl.okI; decide) (by decide) (by decide) 15 0 13 (by decide) (by decide)⟩
end Go.Proofs.Ytfggpcfmfddfjaa.Pure
