/- May, At and Index of the program and of the document, in plain numbers. -/
import Derived.Test.YtanolcldeeglmaaG7
import Derived.Test.YtanolcldeeglmaaPl2
import Derived.OpenShut
namespace Go.Proofs.Ytanolcldeeglmaa.Pl
open Go.RowKit Go.Proofs.Ytanolcldeeglmaa.G Go.Proofs.YtanolcldeeglmaaW.PrintWords Go.Proofs.YtanolcldeeglmaaW.PrintLast Go.Proofs.YtanolcldeeglmaaW.PrintMore
set_option linter.unusedVariables false
set_option linter.unusedSimpArgs false
open layout_Of (off num stp byt ob ws sc bad)

theorem off_true {a : Int} (h : al a) : 8 ≤ off a true := by
  have := (layout_Of.up_bounds 8 a (al_bounds h).1).1
  unfold off; rw [if_pos rfl]; exact this
theorem off_false (a : Int) : off a false = 0 := by unfold off; rw [if_neg (by simp)]

/-! ### may -/
def may (a b c d e f g : Int) : Bool := decide (layout_Of.f a b (decide (d > 0)) = some (a, b, c, d, e, f, g, 0))
theorem some_eq8 (x : L8) (a b c d e f g : Int) : (if x.2.2.2.2.2.2.2 = 0 then some (x.1 == a && (x.2.1 == b && (x.2.2.1 == c && (x.2.2.2.1 == d && (x.2.2.2.2.1 == e && (x.2.2.2.2.2.1 == f && (x.2.2.2.2.2.2.1 == g))))))) else some false) = some (decide (some x = some (a, b, c, d, e, f, g, 0))) := by
  obtain ⟨x1, x2, x3, x4, x5, x6, x7, x8⟩ := x
  simp only [Option.some.injEq, Prod.mk.injEq]
  by_cases h : x8 = 0
  · rw [if_pos h]
    congr 1
    rw [Bool.eq_iff_iff]
    simp [h]
  · rw [if_neg h]
    congr 1
    exact (decide_eq_false (fun k => h k.2.2.2.2.2.2.2)).symm
theorem aMay (a b c d e f g : Int) : layout_may.f a b c d e f g = some (may a b c d e f g) := by
  unfold layout_may.f may
  obtain ⟨x, hx⟩ : ∃ x, layout_Of.f a b (decide (d > 0)) = some x := by
    rcases of_cases a b (decide (d > 0)) with ⟨j, _, _, _, _, _, _, h⟩ | h | ⟨_, _, _, _, h⟩ <;> exact ⟨_, h⟩
  rw [hx, Option.bind_some]
  exact some_eq8 x a b c d e f g
theorem eq7 (x : L8) (a b c d e f g : Int) : (a == x.1 && (b == x.2.1 && (c == x.2.2.1 && (d == x.2.2.2.1 && (e == x.2.2.2.2.1 && (f == x.2.2.2.2.2.1 && (g == x.2.2.2.2.2.2.1))))))) = decide ((x.1, x.2.1, x.2.2.1, x.2.2.2.1, x.2.2.2.2.1, x.2.2.2.2.2.1, x.2.2.2.2.2.2.1) = (a, b, c, d, e, f, g)) := by
  rw [Bool.eq_iff_iff]
  simp only [Bool.and_eq_true, beq_iff_eq, decide_eq_true_eq, Prod.mk.injEq]
  constructor
  · rintro ⟨rfl, rfl, rfl, rfl, rfl, rfl, rfl⟩; exact ⟨rfl, rfl, rfl, rfl, rfl, rfl, rfl⟩
  · rintro ⟨h1, h2, h3, h4, h5, h6, h7⟩; exact ⟨h1.symm, h2.symm, h3.symm, h4.symm, h5.symm, h6.symm, h7.symm⟩
theorem is8 (x : L8) (a b c d e f g : Int) : some x = some (a, b, c, d, e, f, g, 0) ↔ ((x.1, x.2.1, x.2.2.1, x.2.2.2.1, x.2.2.2.2.1, x.2.2.2.2.2.1, x.2.2.2.2.2.2.1) = (a, b, c, d, e, f, g) ∧ x.2.2.2.2.2.2.2 = 0) := by
  obtain ⟨x1, x2, x3, x4, x5, x6, x7, x8⟩ := x
  simp only [Option.some.injEq, Prod.mk.injEq]
  constructor
  · rintro ⟨h1, h2, h3, h4, h5, h6, h7, h8⟩; exact ⟨⟨h1, h2, h3, h4, h5, h6, h7⟩, h8⟩
  · rintro ⟨⟨h1, h2, h3, h4, h5, h6, h7⟩, h8⟩; exact ⟨h1, h2, h3, h4, h5, h6, h7, h8⟩
theorem false_off {a b c d e f g : Int} (h : layout_Of.f a b false = some (a, b, c, d, e, f, g, 0)) : d = 0 := by
  rcases of_cases a b false with ⟨j, _, _, _, _, _, _, k⟩ | k | ⟨_, _, _, _, k⟩
  · rw [k, off_false] at h
    unfold lay at h
    simp only [Option.some.injEq, Prod.mk.injEq] at h
    exact h.2.2.2.1.symm
  · rw [k] at h; simp at h
  · rw [k] at h; simp at h
theorem true_off {a b c d e f g : Int} (h : layout_Of.f a b true = some (a, b, c, d, e, f, g, 0)) : d > 0 := by
  rcases of_cases a b true with ⟨j, _, _, ha, _, _, _, k⟩ | k | ⟨_, _, _, _, k⟩
  · rw [k] at h
    unfold lay at h
    simp only [Option.some.injEq, Prod.mk.injEq] at h
    have := off_true ha
    omega
  · rw [k] at h; simp at h
  · rw [k] at h; simp at h
theorem may_iff (a b c d e f g : Int) : may a b c d e f g = true ↔ (layout_Of.f a b false = some (a, b, c, d, e, f, g, 0) ∨ layout_Of.f a b true = some (a, b, c, d, e, f, g, 0)) := by
  unfold may
  rw [decide_eq_true_eq]
  constructor
  · intro h
    by_cases c : d > 0
    · rw [decide_eq_true c] at h; exact .inr h
    · rw [decide_eq_false c] at h; exact .inl h
  · rintro (h | h)
    · rw [decide_eq_false (show ¬ d > 0 by have := false_off h; omega)]; exact h
    · rw [decide_eq_true (true_off h)]; exact h
theorem rMay (a b c d e f g : Int)  : wainscotref15_may.f a b c d e f g = some (may a b c d e f g) := by
  unfold wainscotref15_may.f
  rw [rOf a b false, rOf a b true]
  obtain ⟨x, hx⟩ : ∃ x, layout_Of.f a b false = some x := by
    rcases of_cases a b false with ⟨j, _, _, _, _, _, _, h⟩ | h | ⟨_, _, _, _, h⟩ <;> exact ⟨_, h⟩
  obtain ⟨y, hy⟩ : ∃ y, layout_Of.f a b true = some y := by
    rcases of_cases a b true with ⟨j, _, _, _, _, _, _, h⟩ | h | ⟨_, _, _, _, h⟩ <;> exact ⟨_, h⟩
  have hm := may_iff a b c d e f g
  rw [hx, hy, is8 x, is8 y] at hm
  rw [hx, hy, Option.bind_some, Option.bind_some, eq7 x, eq7 y]
  have hb : may a b c d e f g = decide (((x.1, x.2.1, x.2.2.1, x.2.2.2.1, x.2.2.2.2.1, x.2.2.2.2.2.1, x.2.2.2.2.2.2.1) = (a, b, c, d, e, f, g) ∧ x.2.2.2.2.2.2.2 = 0) ∨ ((y.1, y.2.1, y.2.2.1, y.2.2.2.1, y.2.2.2.2.1, y.2.2.2.2.2.1, y.2.2.2.2.2.2.1) = (a, b, c, d, e, f, g) ∧ y.2.2.2.2.2.2.2 = 0)) := by
    rw [Bool.eq_iff_iff, decide_eq_true_eq]; exact hm
  rw [hb]
  generalize (x.1, x.2.1, x.2.2.1, x.2.2.2.1, x.2.2.2.2.1, x.2.2.2.2.2.1, x.2.2.2.2.2.2.1) = X
  generalize (y.1, y.2.1, y.2.2.1, y.2.2.2.1, y.2.2.2.2.1, y.2.2.2.2.2.1, y.2.2.2.2.2.2.1) = Y
  generalize x.2.2.2.2.2.2.2 = p
  generalize y.2.2.2.2.2.2.2 = q
  by_cases hp : p = 0 <;> by_cases hq : q = 0 <;> by_cases hX : X = (a, b, c, d, e, f, g) <;> by_cases hY : Y = (a, b, c, d, e, f, g) <;> simp [hp, hq, hX, hY]

/-! ### At -/
def atV (a b c d e f g i : Int) : Int × Int := if may a b c d e f g = true then (if i < 0 then (0, 9) else if i ≥ f then (0, 9) else (wrap64 (wrap64 (i * c) + d), 0)) else (0, 2)
theorem aAt (a b c d e f g i : Int) : layout_At.f a b c d e f g i = some (atV a b c d e f g i) := by
  unfold layout_At.f atV
  rw [aMay, Option.bind_some]
  split
  · split
    · rfl
    · split <;> rfl
  · rfl
theorem rAt (a b c d e f g i : Int)  : wainscotref15_At.f a b c d e f g i = some (atV a b c d e f g i) := by
  unfold wainscotref15_At.f atV
  rw [rMay a b c d e f g, Option.bind_some]
  split
  · split
    · rfl
    · split <;> rfl
  · rfl
/-- What is known of a layout that may be. -/
structure May (a b c d e f g : Int) : Prop where
  c1 : 1 ≤ c
  c2 : c ≤ 2200
  d0 : 0 ≤ d
  d1 : d ≤ 71
  f1 : 1 ≤ f
  f2 : f ≤ 16
theorem may_of {a b c d e f g : Int} (h : may a b c d e f g = true) : May a b c d e f g := by
  have go : ∀ gd : Bool, layout_Of.f a b gd = some (a, b, c, d, e, f, g, 0) → May a b c d e f g := by
    intro gd h
    rcases of_cases a b gd with ⟨j, h0, h1, ha, j0, j4, hob, k⟩ | k | ⟨_, _, _, _, k⟩
    · rw [k] at h
      unfold lay at h
      simp only [Option.some.injEq, Prod.mk.injEq] at h
      obtain ⟨_, _, hc, hd, _, hf, _, _⟩ := h
      have N := numb gd h0 h1 ha
      have n0 := N.num0
      have s0 := N.stp0
      have s1 := N.stp1
      have o0 := N.off0
      have o1 := N.off1
      have ho := layout_Of.ob_bounds (st := stp a b gd) (by omega) j0 j4
      exact ⟨by omega, by omega, by omega, by omega, by omega, by omega⟩
    · rw [k] at h; simp at h
    · rw [k] at h; simp at h
  rcases (may_iff a b c d e f g).1 h with h | h
  · exact go _ h
  · exact go _ h

/-! ### Index -/
def idxV (a b c d e f g at_ : Int) : Int × Bool := if may a b c d e f g = true ∧ d ≤ at_ ∧ (at_ - d) % c = 0 ∧ (at_ - d) / c < f then ((at_ - d) / c, true) else (0, false)
theorem aIndex (a b c d e f g at_ : Int) (h1 : at_ ≤ 9223372036854775807) (k : Nat) (hk : 1 ≤ k) : layout_Index.f k a b c d e f g at_ = some (idxV a b c d e f g at_) := by
  obtain ⟨k, rfl⟩ : ∃ j, k = j + 1 := ⟨k - 1, by omega⟩
  unfold layout_Index.f idxV
  rw [aMay, Option.bind_some]
  by_cases hm : may a b c d e f g = true
  · have M := may_of hm
    have c1 := M.c1
    have c2 := M.c2
    have d0 := M.d0
    rw [if_pos hm]
    by_cases ha : at_ < d
    · rw [if_pos ha, layout_Index.j0, if_pos rfl, if_neg (by omega)]
    · have q0 : 0 ≤ (at_ - d) / c := Int.ediv_nonneg (by omega) (by omega)
      have q1 : (at_ - d) / c ≤ at_ - d := Int.ediv_le_self _ (by omega)
      rw [if_neg ha, if_neg (by omega), w64 (x := at_ - d) (by omega) (by omega), Int.tmod_eq_emod_of_nonneg (by omega), layout_Index.j0, w64 (x := at_ - d) (by omega) (by omega), Int.tdiv_eq_ediv_of_nonneg (by omega), w64 (x := (at_ - d) / c) (by omega) (by omega)]
      by_cases hd : (at_ - d) % c = 0
      · rw [if_neg (by simp [hd]), if_neg (by omega)]
        by_cases hf : (at_ - d) / c < f
        · rw [if_neg (by omega), if_pos ⟨hm, by omega, hd, hf⟩]
        · rw [if_pos (by omega), if_neg (fun h => hf h.2.2.2)]
      · rw [if_pos (by simp [hd]), if_neg (fun h => hd h.2.2.1)]
  · rw [if_neg hm, layout_Index.j0, if_pos rfl, if_neg (fun h => hm h.1)]
theorem rIndex0 (a b c d e f g at_ : Int) : ∀ (n : Nat) (i : Int) (k : Nat), i + n = 16 → 0 ≤ i → (may a b c d e f g = true ∧ d ≤ at_ ∧ (at_ - d) % c = 0 ∧ (at_ - d) / c < f → i ≤ (at_ - d) / c) → n + 201 ≤ k → wainscotref15_Index.l0 k at_ i a b c d e f g = some (idxV a b c d e f g at_) := by
  intro n
  induction n with
  | zero =>
    intro i k hi h0 hq hk
    obtain ⟨k, rfl⟩ : ∃ j, k = j + 1 := ⟨k - 1, by omega⟩
    rw [wainscotref15_Index.l0, if_neg (by omega)]
    unfold idxV
    rw [if_neg]
    intro h
    have := hq h
    have := (may_of h.1).f2
    have := h.2.2.2
    omega
  | succ n ih =>
    intro i k hi h0 hq hk
    obtain ⟨k, rfl⟩ : ∃ j, k = j + 1 := ⟨k - 1, by omega⟩
    rw [wainscotref15_Index.l0, if_pos (by omega), rAt a b c d e f g i, Option.bind_some, w64 (by omega) (by omega)]
    by_cases hm : may a b c d e f g = true
    · have M := may_of hm
      have c1 := M.c1
      have c2 := M.c2
      have d0 := M.d0
      have d1 := M.d1
      have f2 := M.f2
      by_cases hf : i ≥ f
      · have e : atV a b c d e f g i = (0, 9) := by unfold atV; rw [if_pos hm, if_neg (by omega), if_pos hf]
        rw [e, if_neg (by simp)]
        exact ih (i + 1) k (by omega) (by omega) (fun h => by have := hq h; have := h.2.2.2; omega) (by omega)
      · have p0 : 0 ≤ i * c := Int.mul_nonneg h0 (by omega)
        have p1 : i * c ≤ 16 * c := Int.mul_le_mul_of_nonneg_right (by omega) (by omega)
        have e : atV a b c d e f g i = (i * c + d, 0) := by
          unfold atV
          rw [if_pos hm, if_neg (by omega), if_neg hf, w64 (x := i * c) (by omega) (by omega), w64 (by omega) (by omega)]
        rw [e, if_pos rfl]
        by_cases hb : i * c + d = at_
        · rw [if_pos hb]
          have e1 : at_ - d = i * c := by omega
          unfold idxV
          rw [e1, Int.mul_emod_left, Int.mul_ediv_cancel _ (by omega), if_pos ⟨hm, by omega, rfl, by omega⟩]
        · rw [if_neg hb]
          refine ih (i + 1) k (by omega) (by omega) (fun h => ?_) (by omega)
          have := hq h
          have hne : i ≠ (at_ - d) / c := by
            intro e2
            have h3 := Int.mul_ediv_add_emod (at_ - d) c
            rw [h.2.2.1, ← e2, Int.mul_comm] at h3
            omega
          omega
    · have e : atV a b c d e f g i = (0, 2) := by unfold atV; rw [if_neg hm]
      rw [e, if_neg (by simp)]
      exact ih (i + 1) k (by omega) (by omega) (fun h => absurd h.1 hm) (by omega)
theorem rIndex (a b c d e f g at_ : Int) (k : Nat) (hk : 300 ≤ k) : wainscotref15_Index.f k a b c d e f g at_ = some (idxV a b c d e f g at_) := by
  unfold wainscotref15_Index.f
  refine rIndex0 a b c d e f g at_ 16 0 k (by omega) (by omega) (fun h => ?_) (by omega)
  exact Int.ediv_nonneg (by omega) (by have := (may_of h.1).c1; omega)

/-! ### LayoutAt -/
theorem layoutAt (a b c d e f g i at_ : Int) (h1 : at_ ≤ 9223372036854775807) (k : Nat) (hk : 300 ≤ k) : wainscotlaw15_LayoutAt.f k a b c d e f g i at_ = some true := by
  unfold wainscotlaw15_LayoutAt.f
  rw [aAt, rAt a b c d e f g i, aIndex a b c d e f g at_ h1 k (by omega), rIndex a b c d e f g at_ k hk, Option.bind_some, Option.bind_some, Option.bind_some, Option.bind_some, if_pos rfl, if_pos rfl, if_pos rfl, if_pos (by simp)]; rfl
end Go.Proofs.Ytanolcldeeglmaa.Pl
