/- LayoutFinds in plain numbers: each object is found where it begins, and nowhere else. -/
import Derived.Test.YtanolcldeeglmaaG8
import Derived.Test.YtanolcldeeglmaaPl4
namespace Go.Proofs.Ytanolcldeeglmaa.Pl
open Go.RowKit Go.Proofs.Ytanolcldeeglmaa.G Go.Proofs.YtanolcldeeglmaaW.PrintWords Go.Proofs.YtanolcldeeglmaaW.PrintLast Go.Proofs.YtanolcldeeglmaaW.PrintMore
set_option linter.unusedVariables false
open layout_Of (off num stp byt ob ws sc bad)

theorem Told.idx {n a : Int} {g : Bool} {j : Int} (T : Told n a g j) {i : Int} (h0 : 0 ≤ i) (h1 : i < ob (stp n a g) j) : idxV n a (stp n a g) (off a g) j (ob (stp n a g) j) (ws (stp n a g) j) (i * stp n a g + off a g) = (i, true) := by
  have e := T.at_ h0 h1
  have st0 := T.st0
  have e1 : i * stp n a g + off a g - off a g = i * stp n a g := by omega
  unfold idxV
  rw [e1, Int.mul_emod_left, Int.mul_ediv_cancel _ (by omega), if_pos ⟨T.may, by omega, rfl, h1⟩]
theorem Told.idx_some {n a : Int} {g : Bool} {j : Int} (T : Told n a g j) {K ix : Int} (h : idxV n a (stp n a g) (off a g) j (ob (stp n a g) j) (ws (stp n a g) j) K = (ix, true)) : 0 ≤ ix ∧ ix < ob (stp n a g) j ∧ ix * stp n a g + off a g = K := by
  have st0 := T.st0
  unfold idxV at h
  split at h
  · next c =>
    obtain ⟨_, c1, c2, c3⟩ := c
    simp only [Prod.mk.injEq, and_true] at h
    have h3 := Int.mul_ediv_add_emod (K - off a g) (stp n a g)
    rw [c2, h, Int.mul_comm] at h3
    have := Int.ediv_nonneg (show 0 ≤ K - off a g by omega) (show 0 ≤ stp n a g by omega)
    exact ⟨by omega, by omega, by omega⟩
  · simp at h
theorem mul_inj {i j s : Int} (hs : 1 ≤ s) (h : i * s = j * s) : i = j := Int.eq_of_mul_eq_mul_right (by omega) h
theorem finds0 {n a : Int} {g : Bool} {j : Int} (T : Told n a g j) (K ix : Int) (is : Bool) (hI : idxV n a (stp n a g) (off a g) j (ob (stp n a g) j) (ws (stp n a g) j) K = (ix, is)) : ∀ (d : Nat) (i : Int) (fd : Bool) (k : Nat), i + d = ob (stp n a g) j → 0 ≤ i → fd = (is && decide (ix < i)) → 2 * d + 3 ≤ k → wainscotlaw15_LayoutFinds.l0 k K ix is fd i n a (stp n a g) (off a g) j (ob (stp n a g) j) (ws (stp n a g) j) = some true := by
  have st0 := T.st0
  have st1 := T.st1
  have of0 := T.of0
  have of1 := T.of1
  have ob1 := T.ob1
  have ob2 := T.ob2
  have by1 := T.by1
  have hS : is = true → 0 ≤ ix ∧ ix < ob (stp n a g) j ∧ ix * stp n a g + off a g = K := by
    rintro rfl
    exact T.idx_some hI
  intro d
  induction d with
  | zero =>
    intro i fd k he hi hf hk
    obtain ⟨k, rfl⟩ : ∃ j, k = j + 1 + 1 := ⟨k - 2, by omega⟩
    have e : (fd == is) = true := by
      rw [hf]
      cases is with
      | false => rfl
      | true => rw [decide_eq_true (by have := hS rfl; omega)]; rfl
    rw [wainscotlaw15_LayoutFinds.l0, if_neg (by omega), wainscotlaw15_LayoutFinds.j1, if_neg (by simp), if_pos e]
    rfl
  | succ d ih =>
    intro i fd k he hi hf hk
    obtain ⟨k, rfl⟩ : ∃ j, k = j + 1 + 1 := ⟨k - 2, by omega⟩
    obtain ⟨e1, p0, p1, p2⟩ := T.at_ hi (by omega)
    have e2 := T.idx hi (by omega)
    rw [wainscotlaw15_LayoutFinds.l0, if_pos (by omega), wainscotlaw15_LayoutFinds.j1, if_pos (decide_eq_true (by omega)), aAt, e1, Option.bind_some]
    simp only []
    rw [aIndex n a _ _ j _ _ _ (by omega) k (by omega), e2, Option.bind_some, if_pos trivial, if_pos rfl, if_pos rfl, w64 (x := i + 1) (by omega) (by omega)]
    by_cases c : fd = true
    · rw [if_pos c]
      refine ih (i + 1) true k (by omega) (by omega) ?_ (by omega)
      rw [c] at hf
      cases is with
      | false => simp at hf
      | true =>
        have : ix < i := by simpa using hf
        rw [decide_eq_true (by omega)]; rfl
    · rw [if_neg c]
      have c' : fd = false := Bool.eq_false_iff.mpr c
      rw [c'] at hf
      by_cases b : i * stp n a g + off a g = K
      · rw [if_pos b]
        cases is with
        | true =>
          rw [if_pos rfl]
          have hs := hS rfl
          have e3 : ix = i := mul_inj st0 (by omega)
          refine ih (i + 1) _ k (by omega) (by omega) ?_ (by omega)
          rw [e3, decide_eq_true (show i < i + 1 by omega), beq_self_eq_true]; rfl
        | false =>
          rw [if_neg (by simp)]
          exact ih (i + 1) _ k (by omega) (by omega) rfl (by omega)
      · rw [if_neg b]
        refine ih (i + 1) _ k (by omega) (by omega) ?_ (by omega)
        cases is with
        | false => rfl
        | true =>
          have hs := hS rfl
          have h1 : ¬ ix < i := by simpa using hf
          have h2 : ix ≠ i := by rintro rfl; exact b hs.2.2
          rw [decide_eq_false (by omega)]; rfl
theorem layoutFinds (a0 a1 a2 : Int) (k : Nat) (hk : 50 ≤ k) : wainscotlaw15_LayoutFinds.f k a0 a1 a2 = some true := by
  unfold wainscotlaw15_LayoutFinds.f
  obtain ⟨b, e1, b0, b1⟩ := bring (n := a0) (m := 2048) (by omega) (by omega)
  obtain ⟨c, e2, c0, c1⟩ := bring (n := a1) (m := 7) (by omega) (by omega)
  obtain ⟨d, e3, d0, d1⟩ := bring (n := a2) (m := 2) (by omega) (by omega)
  obtain ⟨u, e4, u0, u1⟩ := bring (n := a2) (m := 2100) (by omega) (by omega)
  have hal := shl_al c0 c1
  rw [e1, Option.bind_some, e2, Option.bind_some, if_pos c0, e3, Option.bind_some, w64 (by omega) (by omega), e4]
  obtain ⟨a, ea⟩ : ∃ a, a = shl .i64 1 c := ⟨_, rfl⟩
  rw [← ea] at hal ⊢
  obtain ⟨n, en⟩ : ∃ n, n = 1 + b := ⟨_, rfl⟩
  rw [← en]
  obtain ⟨g, eg⟩ : ∃ g, g = (d == 1) := ⟨_, rfl⟩
  rw [← eg]
  rcases of_cases n a g with ⟨j, h0, h1, ha, j0, j4, hob, h⟩ | h | ⟨h0, h1, ha, hf, h⟩
  · have T := told h0 h1 ha j0 j4 hob h
    rw [h, Option.bind_some]
    unfold lay
    rw [if_pos rfl, Option.bind_some, w64 (x := u - 20) (by omega) (by omega)]
    simp only []
    rw [aIndex n a _ _ j _ _ _ (by omega) k (by omega), Option.bind_some]
    have ob1 := T.ob1
    have ob2 := T.ob2
    obtain ⟨⟨ix, is⟩, hI⟩ : ∃ p, idxV n a (stp n a g) (off a g) j (ob (stp n a g) j) (ws (stp n a g) j) (u - 20) = p := ⟨_, rfl⟩
    rw [hI]
    refine finds0 T (u - 20) ix is hI (ob (stp n a g) j).toNat 0 false k (by omega) (by omega) ?_ (by omega)
    cases is with
    | false => rfl
    | true =>
      have := T.idx_some hI
      rw [decide_eq_false (by omega)]; rfl
  · rw [h, Option.bind_some, if_neg (by simp)]; rfl
  · rw [h, Option.bind_some, if_neg (by simp)]; rfl
end Go.Proofs.Ytanolcldeeglmaa.Pl
