/- LayoutApart in plain numbers: objects lie apart, at multiples of their align, within the slab. -/
import Derived.Test.YtanolcldeeglmaaG5
import Derived.Test.YtanolcldeeglmaaPl3
namespace Go.Proofs.Ytanolcldeeglmaa.Pl
open Go.RowKit Go.Proofs.Ytanolcldeeglmaa.G Go.Proofs.YtanolcldeeglmaaW.PrintWords Go.Proofs.YtanolcldeeglmaaW.PrintLast Go.Proofs.YtanolcldeeglmaaW.PrintMore
set_option linter.unusedVariables false
open layout_Of (off num stp byt ob ws sc bad)

theorem bring {n m : Int} (hm : 0 < m) (hm' : m ≤ 4096) : ∃ b, wainscotref00_Bring.f n m = some b ∧ 0 ≤ b ∧ b < m := by
  have h1 := Int.tmod_lt_of_pos n hm
  have h2 : -m < Int.tmod n m := by
    have := Int.lt_tmod_of_pos n hm
    exact this
  unfold wainscotref00_Bring.f
  rw [if_neg (by omega)]
  by_cases c : Int.tmod n m < 0
  · rw [if_pos c, w64 (by omega) (by omega)]
    exact ⟨_, rfl, by omega, by omega⟩
  · rw [if_neg c]
    exact ⟨_, rfl, by omega, by omega⟩
theorem shl_al {t : Int} (h0 : 0 ≤ t) (h1 : t < 7) : al (shl .i64 1 t) := by
  have : t = 0 ∨ t = 1 ∨ t = 2 ∨ t = 3 ∨ t = 4 ∨ t = 5 ∨ t = 6 := by omega
  rcases this with rfl | rfl | rfl | rfl | rfl | rfl | rfl <;> decide +kernel
/-- Without guards each size has a slab. -/
theorem fn_plain {a0 a1 : Int} (h0 : 1 ≤ a0) (h1 : a0 ≤ 2048) (ha : al a1) : fn (stp a0 a1 false) 4 0 ≠ none := by
  have N := numb false h0 h1 ha
  have hs : stp a0 a1 false ≤ 2048 := by
    unfold stp num
    rw [if_neg (by simp)]
    rcases ha with rfl | rfl | rfl | rfl | rfl | rfl | rfl <;> unfold mx <;> simp <;> omega
  have s1 : 1 ≤ stp a0 a1 false := by have := N.num0; have := N.stp0; omega
  have h3 : ob (stp a0 a1 false) 3 ≠ 0 := by
    have hq : 1 ≤ byt 3 / stp a0 a1 false := by
      rw [show byt 3 = 2048 by decide +kernel]
      exact (Int.le_ediv_iff_mul_le (by omega)).2 (by omega)
    unfold ob
    split <;> omega
  intro h
  rw [fn] at h
  by_cases c0 : ob (stp a0 a1 false) 0 = 0
  · rw [if_pos c0, fn] at h
    by_cases c1 : ob (stp a0 a1 false) (0 + 1) = 0
    · rw [if_pos c1, fn] at h
      by_cases c2 : ob (stp a0 a1 false) (0 + 1 + 1) = 0
      · rw [if_pos c2, fn, if_neg (by exact h3)] at h; cases h
      · rw [if_neg c2] at h; cases h
    · rw [if_neg c1] at h; cases h
  · rw [if_neg c0] at h; cases h
theorem stp_dvd {a0 a1 : Int} (g : Bool) (ha : al a1) : a1 ∣ stp a0 a1 g := by
  unfold stp
  refine Int.dvd_mul_of_dvd_right ?_ 
  rcases ha with rfl | rfl | rfl | rfl | rfl | rfl | rfl <;> decide
theorem off_dvd (a1 : Int) (g : Bool) : a1 ∣ off a1 g := by
  unfold off
  split
  · exact Int.dvd_mul_left _ _
  · exact Int.dvd_zero _
/-- What is known of a layout that Of tells. -/
structure Told (n a : Int) (g : Bool) (j : Int) : Prop where
  may : may n a (stp n a g) (off a g) j (ob (stp n a g) j) (ws (stp n a g) j) = true
  n0 : 1 ≤ n
  n1 : n ≤ 2048
  al : al a
  j0 : 0 ≤ j
  j4 : j < 4
  st0 : 1 ≤ stp n a g
  st1 : stp n a g ≤ 2200
  of0 : 0 ≤ off a g
  of1 : off a g ≤ 71
  ob1 : 1 ≤ ob (stp n a g) j
  ob2 : ob (stp n a g) j ≤ 16
  le : ob (stp n a g) j * stp n a g ≤ byt j
  by1 : byt j ≤ 2048
theorem told {n a : Int} {g : Bool} {j : Int} (h0 : 1 ≤ n) (h1 : n ≤ 2048) (ha : G.al a) (j0 : 0 ≤ j) (j4 : j < 4) (hob : ob (stp n a g) j ≠ 0) (h : layout_Of.f n a g = some (lay n a (stp n a g) (off a g) j)) : Told n a g j := by
  have N := numb g h0 h1 ha
  have n0 := N.num0
  have s0 := N.stp0
  have ho := layout_Of.ob_bounds (st := stp n a g) (by omega) j0 j4
  refine ⟨?_, h0, h1, ha, j0, j4, by omega, N.stp1, N.off0, N.off1, by omega, ho.2.1, ho.2.2.2, (layout_Of.byt_cases j0 j4).2.2⟩
  rw [may_iff]
  cases g with
  | false => exact .inl h
  | true => exact .inr h
theorem Told.at_ {n a : Int} {g : Bool} {j : Int} (T : Told n a g j) {i : Int} (h0 : 0 ≤ i) (h1 : i < ob (stp n a g) j) : atV n a (stp n a g) (off a g) j (ob (stp n a g) j) (ws (stp n a g) j) i = (i * stp n a g + off a g, 0) ∧ 0 ≤ i * stp n a g ∧ (i + 1) * stp n a g ≤ byt j ∧ (i + 1) * stp n a g = i * stp n a g + stp n a g := by
  have p0 : 0 ≤ i * stp n a g := Int.mul_nonneg h0 (by have := T.st0; omega)
  have p1 : (i + 1) * stp n a g ≤ ob (stp n a g) j * stp n a g := Int.mul_le_mul_of_nonneg_right (by omega) (by have := T.st0; omega)
  have p2 : (i + 1) * stp n a g = i * stp n a g + stp n a g := by rw [Int.add_mul, Int.one_mul]
  have le := T.le
  have by1 := T.by1
  have st0 := T.st0
  have of1 := T.of1
  have of0 := T.of0
  refine ⟨?_, p0, by omega, p2⟩
  unfold atV
  rw [if_pos T.may, if_neg (by omega), if_neg (by omega), w64 (x := i * stp n a g) (by omega) (by omega), w64 (by omega) (by omega)]
theorem apart0 {n a : Int} {g : Bool} {j : Int} (T : Told n a g j) : ∀ (d : Nat) (i last : Int) (k : Nat), i + d = ob (stp n a g) j → 0 ≤ i → 0 ≤ last → last ≤ i * stp n a g → d + 1 ≤ k → wainscotlaw15_LayoutApart.l0 k g n a (byt j) last i n a (stp n a g) (off a g) j (ob (stp n a g) j) (ws (stp n a g) j) = some true := by
  have n0 := T.n0
  have n1 := T.n1
  have j0 := T.j0
  have j4 := T.j4
  have st0 := T.st0
  have st1 := T.st1
  have of0 := T.of0
  have of1 := T.of1
  have ob1 := T.ob1
  have ob2 := T.ob2
  have hle := T.le
  have by1 := T.by1
  have hal := al_bounds T.al
  have N := numb g n0 n1 T.al
  have s0 := N.stp0
  intro d
  induction d with
  | zero =>
    intro i last k he hi hl0 hl hk
    obtain ⟨k, rfl⟩ : ∃ j, k = j + 1 := ⟨k - 1, by omega⟩
    have p0 : 0 ≤ ob (stp n a g) j * stp n a g := Int.mul_nonneg (by omega) (by omega)
    rw [wainscotlaw15_LayoutApart.l0, if_neg (by omega), if_pos (by omega), if_pos (by omega), w64 (x := ob (stp n a g) j * stp n a g) (by omega) (by omega), w64 (by omega) (by omega), if_pos (show ws (stp n a g) j = byt j - ob (stp n a g) j * stp n a g from rfl), if_pos (by omega), if_pos (by omega)]
    rfl
  | succ d ih =>
    intro i last k he hi hl0 hl hk
    obtain ⟨k, rfl⟩ : ∃ j, k = j + 1 := ⟨k - 1, by omega⟩
    obtain ⟨e1, p0, p1, p2⟩ := T.at_ hi (by omega)
    have hdv : Int.tmod (i * stp n a g + off a g) a = 0 := Int.tmod_eq_zero_of_dvd (Int.dvd_add (Int.dvd_mul_of_dvd_right (stp_dvd g T.al)) (off_dvd a g))
    rw [wainscotlaw15_LayoutApart.l0, if_pos (by omega), aAt, e1, Option.bind_some]
    cases g with
    | true =>
      have o8 := off_true T.al
      have hn : num n a true = n + (off a true + 8) := by unfold num; rw [if_pos rfl]
      rw [if_pos rfl, if_pos rfl, if_neg (by omega), if_pos hdv]
      rw [w64 (x := i * stp n a true + off a true - 8) (by omega) (by omega), if_neg (by omega), w64 (x := i * stp n a true + off a true + n) (by omega) (by omega), w64 (x := i * stp n a true + off a true + n + 8) (by omega) (by omega), if_neg (by omega), w64 (x := i + 1) (by omega) (by omega)]
      exact ih (i + 1) _ k (by omega) (by omega) (by omega) (by omega) (by omega)
    | false =>
      have o0 := off_false a
      have hn : num n a false = n := by unfold num; rw [if_neg (by simp)]
      rw [if_neg (by simp), if_pos rfl, if_neg (by omega), if_pos hdv]
      rw [if_neg (by omega), w64 (x := i * stp n a false + off a false + n) (by omega) (by omega), if_neg (by omega), w64 (x := i + 1) (by omega) (by omega)]
      exact ih (i + 1) _ k (by omega) (by omega) (by omega) (by omega) (by omega)
theorem bring_id {j : Int} (h0 : 0 ≤ j) (h4 : j < 4) : wainscotref00_Bring.f j 4 = some j := by
  have : j = 0 ∨ j = 1 ∨ j = 2 ∨ j = 3 := by omega
  rcases this with rfl | rfl | rfl | rfl <;> decide +kernel
theorem layoutApart (a0 a1 : Int) (g : Bool) (k : Nat) (hk : 20 ≤ k) : wainscotlaw15_LayoutApart.f k a0 a1 g = some true := by
  unfold wainscotlaw15_LayoutApart.f
  obtain ⟨b, e1, b0, b1⟩ := bring (n := a0) (m := 2048) (by omega) (by omega)
  obtain ⟨c, e2, c0, c1⟩ := bring (n := a1) (m := 7) (by omega) (by omega)
  have hal := shl_al c0 c1
  rw [e1, Option.bind_some, e2, Option.bind_some, if_pos c0, w64 (by omega) (by omega)]
  obtain ⟨a, ea⟩ : ∃ a, a = shl .i64 1 c := ⟨_, rfl⟩
  rw [← ea] at hal ⊢
  obtain ⟨n, en⟩ : ∃ n, n = 1 + b := ⟨_, rfl⟩
  rw [← en]
  rcases of_cases n a g with ⟨j, h0, h1, ha, j0, j4, hob, h⟩ | h | ⟨h0, h1, ha, hf, h⟩
  · have T := told h0 h1 ha j0 j4 hob h
    rw [h, Option.bind_some]
    unfold lay
    rw [if_pos rfl, bring_id j0 j4, Option.bind_some, if_pos j0, (layout_Of.byt_cases j0 j4).1]
    have ob1 := T.ob1
    have ob2 := T.ob2
    exact apart0 T (ob (stp n a g) j).toNat 0 0 k (by omega) (by omega) (by omega) (by omega) (by omega)
  · rw [aOf g (by omega) (by omega) hal] at h
    cases e : fg (stp n a g) 4 0 with
    | some j => rw [e] at h; unfold orFg lay at h; simp at h
    | none =>
      rw [e] at h
      cases e2 : fn (stp n a g) 4 0 with
      | some j => rw [e2] at h; unfold orFg orFn lay at h; simp at h
      | none => rw [e2] at h; unfold orFg orFn at h; simp at h
  · rw [h, Option.bind_some, if_neg (by simp), if_pos rfl]
    cases g with
    | true => rw [if_pos rfl]; rfl
    | false => exact absurd hf (fn_plain h0 h1 ha)
end Go.Proofs.Ytanolcldeeglmaa.Pl
