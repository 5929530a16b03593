/- LayoutNames in plain numbers. -/
import Derived.Test.YtanolcldeeglmaaG9
import Derived.Test.YtanolcldeeglmaaPl3
import Derived.KernelRfl
namespace Go.Proofs.Ytanolcldeeglmaa.Pl
open Go.RowKit Go.Proofs.Ytanolcldeeglmaa.G Go.Proofs.YtanolcldeeglmaaW.PrintWords Go.Proofs.YtanolcldeeglmaaW.PrintLast Go.Proofs.YtanolcldeeglmaaW.PrintMore
set_option linter.unusedVariables false

theorem names0 (k : Nat) (hk : 10 ≤ k) : wainscotlaw15_LayoutNames.l0 k 5 = some true := by
  obtain ⟨k, rfl⟩ : ∃ j, k = j + 1 := ⟨k - 1, by omega⟩
  have f1 : layout_Of.f 24 8 false = some (24, 8, 24, 0, 0, 10, 16, 0) := by kernel_rfl
  have f2 : layout_Of.f 2048 64 false = some (2048, 64, 2048, 0, 3, 1, 0, 0) := by kernel_rfl
  have v1 : atV 24 8 24 0 0 10 16 9 = (216, 0) := by kernel_rfl
  have v2 : atV 24 8 24 0 0 10 16 10 = (0, 9) := by kernel_rfl
  have v3 : atV 24 8 24 0 0 10 16 (-1) = (0, 9) := by kernel_rfl
  have v4 : atV 24 8 24 0 0 10 17 0 = (0, 2) := by kernel_rfl
  have v5 : idxV 24 8 24 0 0 10 17 0 = (0, false) := by kernel_rfl
  rw [wainscotlaw15_LayoutNames.l0, if_neg (by omega), f1, Option.bind_some]
  simp only []
  rw [aAt, v1, Option.bind_some, aAt, v2, Option.bind_some, aAt, v3, Option.bind_some, aAt, v4, Option.bind_some, aIndex _ _ _ _ _ _ _ _ (by omega) k (by omega), v5, Option.bind_some, f2, Option.bind_some]
  rfl
theorem names1 (a : Int) (h0 : 0 ≤ a) (h1 : a < 5) (B : Nat) (hn : ∀ k, B ≤ k → wainscotlaw15_LayoutNames.l0 k (a + 1) = some true) : ∀ (d : Nat) (i : Int) (k : Nat), i + d = 66 → 0 ≤ i → B + d + 1 ≤ k → wainscotlaw15_LayoutNames.l1 k a i = some true := by
  intro d
  induction d with
  | zero =>
    intro i k he hi hk
    obtain ⟨k, rfl⟩ : ∃ j, k = j + 1 := ⟨k - 1, by omega⟩
    rw [wainscotlaw15_LayoutNames.l1, if_neg (by omega), w64 (by omega) (by omega)]
    exact hn k (by omega)
  | succ d ih =>
    intro i k he hi hk
    obtain ⟨k, rfl⟩ : ∃ j, k = j + 1 := ⟨k - 1, by omega⟩
    rw [wainscotlaw15_LayoutNames.l1, if_pos (by omega), Option.bind_some, if_pos h0, if_pos (by simp; omega), layoutOf, Option.bind_some, if_pos rfl, w64 (by omega) (by omega)]
    exact ih (i + 1) k (by omega) (by omega) (by omega)
theorem namesAll : ∀ (d : Nat) (a : Int) (k : Nat), a + d = 5 → 0 ≤ a → d * 70 + 10 ≤ k → wainscotlaw15_LayoutNames.l0 k a = some true := by
  intro d
  induction d with
  | zero =>
    intro a k he ha hk
    rw [show a = 5 by omega]
    exact names0 k (by omega)
  | succ d ih =>
    intro a k he ha hk
    obtain ⟨k, rfl⟩ : ∃ j, k = j + 1 := ⟨k - 1, by omega⟩
    rw [wainscotlaw15_LayoutNames.l0, if_pos (by omega)]
    exact names1 a ha (by omega) (d * 70 + 10) (fun k hk => ih (a + 1) k (by omega) (by omega) hk) 66 0 k (by omega) (by omega) (by omega)
theorem names : wainscotlaw15_LayoutNames.f 400 = some true := by
  unfold wainscotlaw15_LayoutNames.f
  exact namesAll 5 0 400 (by omega) (by omega) (by omega)
end Go.Proofs.Ytanolcldeeglmaa.Pl
