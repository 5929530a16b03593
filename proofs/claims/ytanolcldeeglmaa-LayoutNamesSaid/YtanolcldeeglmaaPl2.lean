/- What Of answers, in plain numbers. -/
import Derived.Test.YtanolcldeeglmaaG3
import Derived.OpenShut
namespace Go.Proofs.Ytanolcldeeglmaa.Pl
open Go.RowKit Go.Proofs.Ytanolcldeeglmaa.G Go.Proofs.YtanolcldeeglmaaW.PrintWords Go.Proofs.YtanolcldeeglmaaW.PrintLast Go.Proofs.YtanolcldeeglmaaW.PrintMore
set_option linter.unusedVariables false
set_option linter.unusedSimpArgs false
open layout_Of (off num stp byt ob ws sc bad)

instance i4 : DecidableEq (Int × Int × Int × Int) := instDecidableEqProd
instance i5 : DecidableEq (Int × Int × Int × Int × Int) := instDecidableEqProd
instance i6 : DecidableEq (Int × Int × Int × Int × Int × Int) := instDecidableEqProd
instance i7 : DecidableEq (Int × Int × Int × Int × Int × Int × Int) := instDecidableEqProd
instance i8 : DecidableEq (Int × Int × Int × Int × Int × Int × Int × Int) := instDecidableEqProd
theorem rOf (a0 a1 : Int) (g : Bool) : wainscotref15_Of.f a0 a1 g = layout_Of.f a0 a1 g := rfl
theorem fg_some {st : Int} : ∀ (d : Nat) (i j : Int), fg st d i = some j → i ≤ j ∧ j < i + d ∧ ob st j ≠ 0 := by
  intro d
  induction d with
  | zero => intro i j h; cases h
  | succ d ih =>
    intro i j h
    rw [fg] at h
    by_cases c : ob st i = 0
    · rw [if_pos c] at h; have := ih _ _ h; exact ⟨by omega, by omega, this.2.2⟩
    · rw [if_neg c] at h
      by_cases g : ws st i * 8 ≤ byt i
      · rw [if_pos g] at h; obtain rfl := Option.some.inj h; exact ⟨by omega, by omega, c⟩
      · rw [if_neg g] at h; have := ih _ _ h; exact ⟨by omega, by omega, this.2.2⟩
theorem fn_some {st : Int} : ∀ (d : Nat) (i j : Int), fn st d i = some j → i ≤ j ∧ j < i + d ∧ ob st j ≠ 0 := by
  intro d
  induction d with
  | zero => intro i j h; cases h
  | succ d ih =>
    intro i j h
    rw [fn] at h
    by_cases c : ob st i = 0
    · rw [if_pos c] at h; have := ih _ _ h; exact ⟨by omega, by omega, this.2.2⟩
    · rw [if_neg c] at h; obtain rfl := Option.some.inj h; exact ⟨by omega, by omega, c⟩
/-- What Of answers: a layout of one order, or a refusal. -/
theorem of_cases (a0 a1 : Int) (g : Bool) : (∃ j, 1 ≤ a0 ∧ a0 ≤ 2048 ∧ al a1 ∧ 0 ≤ j ∧ j < 4 ∧ ob (stp a0 a1 g) j ≠ 0 ∧ layout_Of.f a0 a1 g = some (lay a0 a1 (stp a0 a1 g) (off a1 g) j)) ∨ layout_Of.f a0 a1 g = some (0, 0, 0, 0, 0, 0, 0, 2) ∨ (1 ≤ a0 ∧ a0 ≤ 2048 ∧ al a1 ∧ fn (stp a0 a1 g) 4 0 = none ∧ layout_Of.f a0 a1 g = some (0, 0, 0, 0, 0, 0, 0, 150)) := by
  by_cases b : bad a0 a1
  · right; left; unfold layout_Of.f; rw [if_pos b]
  rw [bad_iff] at b
  have ha : al a1 := Decidable.byContradiction fun h => b (.inr (.inr h))
  have h0 : 1 ≤ a0 := by omega
  have h1 : a0 ≤ 2048 := by omega
  rw [aOf g h0 h1 ha]
  cases e : fg (stp a0 a1 g) 4 0 with
  | some j => have := fg_some 4 0 j e; exact .inl ⟨j, h0, h1, ha, by omega, by omega, this.2.2, rfl⟩
  | none =>
    cases e2 : fn (stp a0 a1 g) 4 0 with
    | some j => have := fn_some 4 0 j e2; exact .inl ⟨j, h0, h1, ha, by omega, by omega, this.2.2, rfl⟩
    | none => exact .inr (.inr ⟨h0, h1, ha, rfl, rfl⟩)
theorem layoutOf (a0 a1 : Int) (g : Bool)  : wainscotlaw15_LayoutOf.f a0 a1 g = some true := by
  unfold wainscotlaw15_LayoutOf.f
  rw [rOf a0 a1 g]
  obtain ⟨x, hx⟩ : ∃ x, layout_Of.f a0 a1 g = some x := by
    rcases of_cases a0 a1 g with ⟨j, _, _, _, _, _, _, h⟩ | h | ⟨_, _, _, _, h⟩ <;> exact ⟨_, h⟩
  rw [hx, Option.bind_some, Option.bind_some, if_pos (by simp), if_pos rfl]; rfl
end Go.Proofs.Ytanolcldeeglmaa.Pl
