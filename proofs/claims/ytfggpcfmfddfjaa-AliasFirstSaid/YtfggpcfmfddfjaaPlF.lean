/- Find tells the first that serves, in the program and in the document's answer: in plain numbers and lists. -/
import Derived.Test.YtfggpcfmfddfjaaPlW
import Derived.Test.YtfggpcfmfddfjaaG6
import Derived.OpenShut
namespace Go.Proofs.Ytfggpcfmfddfjaa.Pl
open Go.RowKit Go.Proofs.Ytfggpcfmfddfjaa.G Go.Proofs.YtfggpcfmfddfjaaW.PrintWords Go.Proofs.YtfggpcfmfddfjaaW.PrintLast

/-- Each align of the list is an int. -/
def okL (l : List S23) : Prop := ∀ x ∈ l, (Lit.int .i64 x.f1).wf = true

theorem rd_mem {l : List S23} {i : Nat} (h : i < l.length) : rd_T23 l (i : Int) ∈ l := by
  unfold rd_T23
  rw [List.getD_eq_getElem?_getD, List.getElem?_eq_getElem (by simpa using h)]
  exact List.getElem_mem _

/-- The first from i on, d places to look at. -/
def fnd (l : List S23) (b0 b1 b2 : Int) : Nat → Nat → Int × Bool
  | 0, _ => (0, false)
  | d + 1, i => if srv (rd_T23 l i).f0 (rd_T23 l i).f1 (rd_T23 l i).f2 b0 b1 b2 = true then ((i : Int), true) else fnd l b0 b1 b2 d (i + 1)

theorem wrap_next {i n : Nat} (h : i < n) (hn : n ≤ 9223372036854775807) : wrap64 ((i : Int) + 1) = ((i + 1 : Nat) : Int) := by
  rw [wrap64_id (by omega) (by omega)]; omega

theorem aFind (l : List S23) (b0 b1 b2 : Int) (hl : okL l) (hn : l.length ≤ 9223372036854775807) (hb : (Lit.int .i64 b1).wf = true) (d : Nat) :
    ∀ (i k : Nat), i + d = l.length → d + 1 < k → alias_Find.l0 k l (i : Int) b0 b1 b2 = some (fnd l b0 b1 b2 d i) := by
  induction d with
  | zero =>
    intro i k hi hk
    obtain ⟨k, rfl⟩ : ∃ m, k = m + 1 := ⟨k - 1, by omega⟩
    simp only [alias_Find.l0]
    rw [if_neg (by omega)]
    rfl
  | succ d ih =>
    intro i k hi hk
    obtain ⟨k, rfl⟩ : ∃ m, k = m + 2 := ⟨k - 2, by omega⟩
    simp only [alias_Find.l0]
    rw [if_pos (by omega), if_pos (by omega), aServes k _ _ _ b0 b1 b2 (hl _ (rd_mem (by omega))) hb]
    simp only [Option.bind_some, fnd]
    rw [wrap_next (i := i) (n := l.length) (by omega) hn]
    have := ih (i + 1) (k + 1) (by omega) (by omega)
    split
    · rfl
    · exact this

theorem rFind (l : List S23) (b0 b1 b2 : Int) (hn : l.length ≤ 9223372036854775807) (d : Nat) :
    ∀ (i k : Nat), i + d = l.length → d + 1 < k → wainscotref20_Find.l0 k l (i : Int) b0 b1 b2 = some (fnd l b0 b1 b2 d i) := by
  induction d with
  | zero =>
    intro i k hi hk
    obtain ⟨k, rfl⟩ : ∃ m, k = m + 1 := ⟨k - 1, by omega⟩
    simp only [wainscotref20_Find.l0]
    rw [if_neg (by omega)]
    rfl
  | succ d ih =>
    intro i k hi hk
    obtain ⟨k, rfl⟩ : ∃ m, k = m + 2 := ⟨k - 2, by omega⟩
    simp only [wainscotref20_Find.l0]
    rw [if_pos (by omega), if_pos (by omega), rServes k]
    simp only [Option.bind_some, fnd]
    rw [wrap_next (i := i) (n := l.length) (by omega) hn]
    have := ih (i + 1) (k + 1) (by omega) (by omega)
    split
    · rfl
    · exact this

theorem sameLoop (l : List S23) (x : Int) (y : Bool) (hn : l.length ≤ 9223372036854775807) (d : Nat) :
    ∀ (i k : Nat), i + d = l.length → d + 12 < k → wainscotlaw20_AliasFinds.l0 k l l x y x y (i : Int) = some true := by
  induction d with
  | zero =>
    intro i k hi hk
    obtain ⟨k, rfl⟩ : ∃ m, k = m + 1 := ⟨k - 1, by omega⟩
    simp only [wainscotlaw20_AliasFinds.l0]
    rw [if_neg (by omega), works k (by omega)]
    simp
  | succ d ih =>
    intro i k hi hk
    obtain ⟨k, rfl⟩ : ∃ m, k = m + 1 := ⟨k - 1, by omega⟩
    simp only [wainscotlaw20_AliasFinds.l0]
    rw [if_pos (by omega), if_pos (by omega), if_pos (by omega), if_neg (by simp), wrap_next (i := i) (n := l.length) (by omega) hn]
    exact ih (i + 1) k (by omega) (by omega)

theorem finds (l : List S23) (b0 b1 b2 : Int) (hl : okL l) (hn : l.length * 24 ≤ 140737488351232) (hb : (Lit.int .i64 b1).wf = true) : wainscotlaw20_AliasFinds.f (l.length + 13) l b0 b1 b2 = some true := by
  unfold wainscotlaw20_AliasFinds.f
  rw [if_pos (by simp; omega)]
  simp only [Option.bind_some, List.nil_append]
  unfold alias_Find.f wainscotref20_Find.f
  rw [show (0 : Int) = ((0 : Nat) : Int) from rfl, aFind l b0 b1 b2 hl (by omega) hb l.length 0 (l.length + 13) (by omega) (by omega), rFind l b0 b1 b2 (by omega) l.length 0 (l.length + 13) (by omega) (by omega)]
  simp only [Option.bind_some]
  exact sameLoop l _ _ (by omega) l.length 0 (l.length + 13) (by omega) (by omega)

end Go.Proofs.Ytfggpcfmfddfjaa.Pl
namespace Go.Proofs.Ytfggpcfmfddfjaa.Pure
theorem AliasFinds (l : List G.S23) (b0 b1 b2 : Int) (hl : Pl.okL l) (hn : l.length * 24 ≤ 140737488351232) (_ : (Lit.int .i64 b0).wf = true) (hb : (Lit.int .i64 b1).wf = true) (_ : (Lit.int .i64 b2).wf = true) :
    ∃ k, G.wainscotlaw20_AliasFinds.f k l b0 b1 b2 = some true := ⟨_, Pl.finds l b0 b1 b2 hl hn hb⟩
end Go.Proofs.Ytfggpcfmfddfjaa.Pure
