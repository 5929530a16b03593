/- Find tells the first one that serves: in plain numbers and lists. -/
import Derived.Test.YtfggpcfmfddfjaaPlF
import Derived.Test.YtfggpcfmfddfjaaG9
namespace Go.Proofs.Ytfggpcfmfddfjaa.Pl
open Go.RowKit Go.Proofs.Ytfggpcfmfddfjaa.G Go.Proofs.YtfggpcfmfddfjaaW.PrintWords Go.Proofs.YtfggpcfmfddfjaaW.PrintLast

theorem firstLoop (l : List S23) (b0 b1 b2 : Int) (hl : okL l) (hn : l.length ≤ 9223372036854775807) (hb : (Lit.int .i64 b1).wf = true) (d : Nat) :
    ∀ (i k : Nat), i + d = l.length → d + 12 < k → wainscotlaw20_AliasFirst.l0 k l (fnd l b0 b1 b2 d i).1 (fnd l b0 b1 b2 d i).2 (i : Int) b0 b1 b2 = some true := by
  induction d with
  | zero =>
    intro i k hi hk
    obtain ⟨k, rfl⟩ : ∃ m, k = m + 1 := ⟨k - 1, by omega⟩
    simp only [wainscotlaw20_AliasFirst.l0, fnd]
    rw [if_neg (by omega), works k (by omega)]
    simp
  | succ d ih =>
    intro i k hi hk
    obtain ⟨k, rfl⟩ : ∃ m, k = m + 2 := ⟨k - 2, by omega⟩
    have := ih (i + 1) (k + 1) (by omega) (by omega)
    simp only [wainscotlaw20_AliasFirst.l0]
    rw [if_pos (by omega), if_pos (by omega), aServes k _ _ _ b0 b1 b2 (hl _ (rd_mem (by omega))) hb, wrap_next (i := i) (n := l.length) (by omega) hn, works (k + 1) (by omega)]
    simp only [Option.bind_some, fnd]
    by_cases h : srv (rd_T23 l i).f0 (rd_T23 l i).f1 (rd_T23 l i).f2 b0 b1 b2 = true
    · simp [h]
    · simp only [if_neg h]
      exact this

theorem first (l : List S23) (b0 b1 b2 : Int) (hl : okL l) (hn : l.length * 24 ≤ 140737488351232) (hb : (Lit.int .i64 b1).wf = true) : wainscotlaw20_AliasFirst.f (l.length + 13) l b0 b1 b2 = some true := by
  unfold wainscotlaw20_AliasFirst.f alias_Find.f
  rw [show (0 : Int) = ((0 : Nat) : Int) from rfl, aFind l b0 b1 b2 hl (by omega) hb l.length 0 (l.length + 13) (by omega) (by omega)]
  simp only [Option.bind_some]
  exact firstLoop l b0 b1 b2 hl (by omega) hb l.length 0 (l.length + 13) (by omega) (by omega)

end Go.Proofs.Ytfggpcfmfddfjaa.Pl
namespace Go.Proofs.Ytfggpcfmfddfjaa.Pure
theorem AliasFirst (l : List G.S23) (b0 b1 b2 : Int) (hl : Pl.okL l) (hn : l.length * 24 ≤ 140737488351232) (_ : (Lit.int .i64 b0).wf = true) (hb : (Lit.int .i64 b1).wf = true) (_ : (Lit.int .i64 b2).wf = true) :
    ∃ k, G.wainscotlaw20_AliasFirst.f k l b0 b1 b2 = some true := ⟨_, Pl.first l b0 b1 b2 hl hn hb⟩
end Go.Proofs.Ytfggpcfmfddfjaa.Pure
