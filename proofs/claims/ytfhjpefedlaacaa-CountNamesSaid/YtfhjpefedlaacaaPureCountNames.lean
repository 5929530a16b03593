/- Each word of a head and of a part; both ends (closed): the words below 4200 are counted one by one. -/
import Derived.Test.YtfhjpefedlaacaaPlW
set_option linter.unusedSimpArgs false
namespace Go.Proofs.Ytfhjpefedlaacaa.Pl
open Go.RowKit Go.Proofs.Ytfhjpefedlaacaa.G Go.Proofs.YtfhjpefedlaacaaW.PrintWords Go.Proofs.YtfhjpefedlaacaaW.PrintLast

/-- How many heads, parts below a number. -/
def cntH : Nat → Nat
  | 0 => 0
  | n + 1 => cntH n + if n = 0 ∨ (64 ≤ n ∧ n < 2112 ∧ n % 64 ≤ 16) then 1 else 0
def cntP : Nat → Nat
  | 0 => 0
  | n + 1 => cntP n + if n = 0 ∨ (64 ≤ n ∧ n ≤ 4095 ∧ 1 ≤ n % 64 ∧ n % 64 ≤ 32) then 1 else 0
theorem cntH_le : ∀ n, cntH n ≤ n
  | 0 => Nat.le_refl _
  | n + 1 => by have := cntH_le n; unfold cntH; split <;> omega
theorem cntP_le : ∀ n, cntP n ≤ n
  | 0 => Nat.le_refl _
  | n + 1 => by have := cntP_le n; unfold cntP; split <;> omega

theorem headIs (n : Nat) : (headOfV (n : Int)).2.2 = decide (n = 0 ∨ (64 ≤ n ∧ n < 2112 ∧ n % 64 ≤ 16)) := by
  unfold headOfV
  by_cases h : isHead (n : Int)
  · rw [if_pos h]; unfold isHead at h; exact (decide_eq_true (by omega)).symm
  · rw [if_neg h]; unfold isHead at h; exact (decide_eq_false (by omega)).symm
theorem partIs (n : Nat) : (partOfV (n : Int)).2.2 = decide (n = 0 ∨ (64 ≤ n ∧ n ≤ 4095 ∧ 1 ≤ n % 64 ∧ n % 64 ≤ 32)) := by
  unfold partOfV
  by_cases h : isPart (n : Int)
  · rw [if_pos h]; unfold isPart at h; exact (decide_eq_true (by omega)).symm
  · rw [if_neg h]; unfold isPart at h; exact (decide_eq_false (by omega)).symm

def lst8 : List S24 := [(⟨0, 0, false, false⟩ : S24), (⟨0, 0, false, true⟩ : S24), (⟨0, 1, false, false⟩ : S24), (⟨2, 1, false, true⟩ : S24), (⟨0, 17, false, true⟩ : S24), (⟨16, 16, false, true⟩ : S24), (⟨0, 0, true, false⟩ : S24), (⟨(-1), 5, false, true⟩ : S24)]

theorem names0 (d : Nat) : ∀ (n k : Nat), n + d = 4200 → 1 ≤ k → wainscotlaw17_CountNames.l0 (k + d + 1) (cntH n) (cntP n) n = wainscotlaw17_CountNames.l1 k (cntH 4200) (cntP 4200) lst8 0 := by
  induction d with
  | zero =>
    intro n k hd hk
    obtain rfl : n = 4200 := by omega
    simp only [wainscotlaw17_CountNames.l0]
    rw [if_neg (by omega)]
    rfl
  | succ d ih =>
    intro n k hd hk
    have := ih (n + 1) k (by omega) hk
    obtain ⟨K, hK⟩ : ∃ K, K + 1 = k + d + 1 := ⟨k + d, rfl⟩
    have e1 := aHeadOf K n (by omega) (by omega)
    have e2 := aPartOf K n (by omega) (by omega)
    obtain ⟨J, hJ⟩ : ∃ J, J = K + 1 := ⟨_, rfl⟩
    rw [← hK, ← hJ] at this
    rw [← hJ] at e1 e2
    rw [show k + (d + 1) + 1 = J + 1 by omega]
    simp only [wainscotlaw17_CountNames.l0]
    have hH := cntH_le n
    have hP := cntP_le n
    rw [if_pos (by omega), e1, e2]
    simp only [Option.bind_some, headIs, partIs, decide_eq_true_eq]
    rw [wrap64_id (x := (cntH n : Int) + 1) (by omega) (by omega), wrap64_id (x := (cntP n : Int) + 1) (by omega) (by omega), wrapu_id (x := (n : Int) + 1) (by omega) (by omega)]
    rw [← this]
    have c0 : ((n + 1 : Nat) : Int) = (n : Int) + 1 := by omega
    have c1 : ((cntH n + 1 : Nat) : Int) = (cntH n : Int) + 1 := by omega
    have c2 : ((cntP n + 1 : Nat) : Int) = (cntP n : Int) + 1 := by omega
    rw [c0, show cntH (n + 1) = cntH n + (if n = 0 ∨ (64 ≤ n ∧ n < 2112 ∧ n % 64 ≤ 16) then 1 else 0) from rfl, show cntP (n + 1) = cntP n + (if n = 0 ∨ (64 ≤ n ∧ n ≤ 4095 ∧ 1 ≤ n % 64 ∧ n % 64 ≤ 32) then 1 else 0) from rfl]
    by_cases h1 : n = 0 ∨ (64 ≤ n ∧ n < 2112 ∧ n % 64 ≤ 16)
    · rw [if_pos h1, if_pos h1]
      by_cases h2 : n = 0 ∨ (64 ≤ n ∧ n ≤ 4095 ∧ 1 ≤ n % 64 ∧ n % 64 ≤ 32)
      · rw [if_pos h2, if_pos h2]; simp only [c1, c2, Nat.add_zero]
      · rw [if_neg h2, if_neg h2]; simp only [c1, Nat.add_zero]
    · rw [if_neg h1, if_neg h1]
      by_cases h2 : n = 0 ∨ (64 ≤ n ∧ n ≤ 4095 ∧ 1 ≤ n % 64 ∧ n % 64 ≤ 32)
      · rw [if_pos h2, if_pos h2]; simp only [c1, c2, Nat.add_zero]
      · rw [if_neg h2, if_neg h2]; simp only [c1, Nat.add_zero]

theorem allH : cntH 4200 = 545 := by decide +kernel
theorem allP : cntP 4200 = 2017 := by decide +kernel
theorem rest : wainscotlaw17_CountNames.l1 20 545 2017 lst8 0 = some true := by decide +kernel

end Go.Proofs.Ytfhjpefedlaacaa.Pl
namespace Go.Proofs.Ytfhjpefedlaacaa.Pure
theorem CountNames : G.wainscotlaw17_CountNames.Pure := by
  refine ⟨20 + 4200 + 1, ?_⟩
  unfold G.wainscotlaw17_CountNames.f
  have h := Pl.names0 4200 0 20 (by omega) (by omega)
  rw [Pl.allH, Pl.allP] at h
  exact h.trans Pl.rest
end Go.Proofs.Ytfhjpefedlaacaa.Pure
