/- Each word that is read is just the one that is written; two counts, heads, or parts have two words: in plain numbers. -/
import Derived.Test.YtfhjpefedlaacaaPlW
import Derived.Test.YtfhjpefedlaacaaG6
namespace Go.Proofs.Ytfhjpefedlaacaa.Pl
open Go.RowKit Go.Proofs.Ytfhjpefedlaacaa.G Go.Proofs.YtfhjpefedlaacaaW.PrintWords Go.Proofs.YtfhjpefedlaacaaW.PrintLast

theorem word_parts {i n : Int} {f l : Bool} (h : mayC i n f l) : word i n f l < 262144 ∧ 0 ≤ word i n f l ∧ word i n f l % 256 = i ∧ word i n f l / 256 % 256 = n ∧ decide (word i n f l / 65536 % 2 = 1) = f ∧ decide (word i n f l / 131072 % 2 = 1) = l := by
  have b := mayC_bounds h
  have e : ∀ x : Int, ∀ c : Bool, (x = if c = true then 1 else 0) → decide (x = 1) = c := by
    intro x c hx
    cases c
    · simp only [Bool.false_eq_true, if_false] at hx; subst hx; rfl
    · simp only [if_true] at hx; subst hx; rfl
  unfold word
  refine ⟨?_, ?_, ?_, ?_, e _ _ ?_, e _ _ ?_⟩ <;> cases f <;> cases l <;> simp only [Bool.false_eq_true, if_false, if_true] <;> omega

theorem counts_word {i n : Int} {f l : Bool} (h : mayC i n f l) : countsV (word i n f l) = (i, n, f, l, true) := by
  obtain ⟨w1, w0, e1, e2, e3, e4⟩ := word_parts h
  unfold countsV
  rw [e1, e2, e3, e4, if_pos ⟨w1, h⟩]

theorem word_inj {i n i' n' : Int} {f l f' l' : Bool} (h : mayC i n f l) (h' : mayC i' n' f' l') (e : word i n f l = word i' n' f' l') : i = i' ∧ n = n' ∧ f = f' ∧ l = l' := by
  have a := counts_word h
  have b := counts_word h'
  rw [e, b] at a
  simp only [Prod.mk.injEq] at a
  exact ⟨a.1.symm, a.2.1.symm, a.2.2.1.symm, a.2.2.2.1.symm⟩

theorem sameC (i n i' n' : Int) (f l f' l' : Bool) (h : mayC i n f l) (h' : mayC i' n' f' l') : ((word i n f l == word i' n' f' l') != (i == i' && (n == n' && (f == f' && (l == l'))))) = false := by
  have : (word i n f l == word i' n' f' l') = (i == i' && (n == n' && (f == f' && (l == l')))) := by
    rw [Bool.eq_iff_iff]
    simp only [beq_iff_eq, Bool.and_eq_true]
    constructor
    · intro e; exact word_inj h h' e
    · rintro ⟨rfl, rfl, rfl, rfl⟩; rfl
  rw [this, bne_self_eq_false]

theorem head_back {w : Int} (h : isHead w) : headV (w / 64 - 1) (w % 64 - 1) = (w, 0) := by
  unfold isHead at h
  unfold headV
  by_cases z : w = 0
  · rw [if_pos (by omega)]; subst z; rfl
  · rw [if_neg (by omega), if_pos (by omega)]; congr 1; omega
theorem part_back {w : Int} (h : isPart w) : partV (w % 64 - 1) (w / 64) = (w, 0) := by
  unfold isPart at h
  unfold partV
  by_cases z : w = 0
  · rw [if_pos (by omega)]; subst z; rfl
  · rw [if_neg (by omega), if_pos (by omega)]; congr 1; omega

theorem back1 (k : Nat) (hk : 2 ≤ k) (w : Int) (hw0 : 0 ≤ w) : wainscotlaw17_CountBack.j1 (k + 1) w false = some true := by
  obtain ⟨K, rfl⟩ : ∃ K, k = K + 1 := ⟨k - 1, by omega⟩
  obtain ⟨v, hv⟩ : ∃ v, v = w % 4200 := ⟨_, rfl⟩
  have v0 : 0 ≤ v := by omega
  have v1 : v < 18446744073709551616 := by omega
  have e1 := aHeadOf K v v0 v1
  have e2 := aPartOf K v v0 v1
  have e3 := aHead K (headOfV v).1 (headOfV v).2.1
  have e4 := aPart K (partOfV v).1 (partOfV v).2.1
  have e5 := works (K + 1) hk
  obtain ⟨J, hJ⟩ : ∃ J, J = K + 1 := ⟨_, rfl⟩
  rw [← hJ] at e1 e2 e3 e4 e5 ⊢
  simp only [wainscotlaw17_CountBack.j1]
  rw [Int.tmod_eq_emod_of_nonneg (a := w) hw0, ← hv, if_neg (by simp), e1, e2]
  simp only [Option.bind_some]
  rw [e3, e4, e5]
  simp only [Option.bind_some]
  by_cases h : isHead v
  · have x : headOfV v = (v / 64 - 1, v % 64 - 1, true) := if_pos h
    rw [x]
    simp only [if_true]
    rw [head_back h]
    by_cases h2 : isPart v
    · have y : partOfV v = (v % 64 - 1, v / 64, true) := if_pos h2
      rw [y]
      simp only [if_true]
      rw [part_back h2]
      simp
    · have y : partOfV v = (-1, 0, false) := if_neg h2
      rw [y]
      simp
  · have x : headOfV v = (-1, -1, false) := if_neg h
    rw [x]
    by_cases h2 : isPart v
    · have y : partOfV v = (v % 64 - 1, v / 64, true) := if_pos h2
      rw [y]
      simp only [if_true]
      rw [part_back h2]
      simp
    · have y : partOfV v = (-1, 0, false) := if_neg h2
      rw [y]
      simp

theorem back0 (k : Nat) (hk : 2 ≤ k) (w i n : Int) (f l : Bool) (hw0 : 0 ≤ w) : wainscotlaw17_CountBack.j0 (k + 2) w (packV i n f l).1 (packV i n f l).2 false i n f l = some true := by
  have e1 := back1 k hk w hw0
  obtain ⟨J, hJ⟩ : ∃ J, J = k + 1 := ⟨_, rfl⟩
  rw [← hJ] at e1
  rw [show k + 2 = J + 1 by omega]
  simp only [wainscotlaw17_CountBack.j0]
  rw [if_neg (by simp)]
  by_cases h : mayC i n f l
  · have x : packV i n f l = (word i n f l, 0) := if_pos h
    obtain ⟨w1, w0, _⟩ := word_parts h
    rw [x]
    simp only
    rw [aCounts _ w0 (by omega), counts_word h]
    simp only [Option.bind_some, if_true]
    have : (!(i == i) || (!(n == n) || (!(f == f) || (!(l == l))))) = false := by simp
    rw [this, e1]
  · have x : packV i n f l = (0, 2) := if_neg h
    rw [x]
    simp only
    rw [aCounts 0 (by omega) (by omega)]
    simp only [Option.bind_some]
    rw [if_neg (by omega), e1]

theorem back (i n i' n' : Int) (f l f' l' : Bool) (w : Int) (hw0 : 0 ≤ w) : wainscotlaw17_CountBack.f (2 + 2) i n f l i' n' f' l' w = some true := by
  have e0 := back0 2 (by omega) w i n f l hw0
  obtain ⟨J, hJ⟩ : ∃ J, J = 2 + 2 := ⟨_, rfl⟩
  rw [← hJ] at e0 ⊢
  unfold wainscotlaw17_CountBack.f
  rw [aPack, aPack]
  simp only [Option.bind_some]
  by_cases h : mayC i n f l
  · by_cases h' : mayC i' n' f' l'
    · have x : packV i n f l = (word i n f l, 0) := if_pos h
      have y : packV i' n' f' l' = (word i' n' f' l', 0) := if_pos h'
      rw [x] at e0
      rw [x, y]
      simp only [if_true] at e0 ⊢
      rw [sameC i n i' n' f l f' l' h h', e0]
    · have y : packV i' n' f' l' = (0, 2) := if_neg h'
      rw [y]
      simp only
      split
      · rw [if_neg (by omega), e0]
      · exact e0
  · have x : packV i n f l = (0, 2) := if_neg h
    rw [x] at e0 ⊢
    simp only at e0 ⊢
    rw [if_neg (by omega), e0]

end Go.Proofs.Ytfhjpefedlaacaa.Pl
namespace Go.Proofs.Ytfhjpefedlaacaa.Pure
theorem CountBack (i n : Int) (f l : Bool) (i' n' : Int) (f' l' : Bool) (w : Int) (_ : (Lit.int .i64 i).wf = true) (_ : (Lit.int .i64 n).wf = true) (_ : (Lit.int .i64 i').wf = true) (_ : (Lit.int .i64 n').wf = true) (hw : (Lit.int .u64 w).wf = true) :
    ∃ k, G.wainscotlaw17_CountBack.f k i n f l i' n' f' l' w = some true := ⟨2 + 2, by have b := Go.bounds_u64 hw; exact Pl.back i n i' n' f l f' l' w b.1⟩
end Go.Proofs.Ytfhjpefedlaacaa.Pure
