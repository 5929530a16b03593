/- What Fresh answers (program and document), and that its list has all objects, rising: in plain numbers. -/
import Derived.Test.YtamdfipmbpfhbaaPl2
import Derived.Test.YtamdfipmbpfhbaaG4
namespace Go.Proofs.Ytamdfipmbpfhbaa.Pl
open Go.RowKit Go.Proofs.Ytamdfipmbpfhbaa.G Go.Proofs.YtamdfipmbpfhbaaW.PrintWords Go.Proofs.YtamdfipmbpfhbaaW.PrintLast Go.Proofs.YtamdfipmbpfhbaaW.PrintMore
set_option linter.unusedVariables false

/-- The next of an object, where n are fresh. -/
def nextOf (n i : Nat) : Int := if i + 1 = n then -1 else (i : Int) + 1
def wordAt (n : Nat) (key : Int) (i : Nat) : Int := (hideV (nextOf n i) key (i : Int)).1
def freshV (n : Nat) (key : Int) : List Int := (List.range n).map (wordAt n key)
theorem freshV_len (n : Nat) (key : Int) : (freshV n key).length = n := by unfold freshV; simp
theorem freshV_ok (n : Nat) (key : Int) : wordsOk (freshV n key) := by
  intro x hx
  unfold freshV at hx
  rw [List.mem_map] at hx
  obtain ⟨i, _, rfl⟩ := hx
  exact hide_bounds
theorem next_ok {n i : Nat} (hi : i < n) (hn : n ≤ 16) : nextOf n i = -1 ∨ obj (nextOf n i) := by
  unfold nextOf obj; split <;> omega
theorem wordAt_of {n i : Nat} (key : Int) (hi : i < n) (hn : n ≤ 16) : wordAt n key i = Go.bits .xor .u64 (nextOf n i + 1) (T key i) := by
  unfold wordAt hideV
  rw [if_pos ⟨next_ok hi hn, by unfold obj; omega⟩]
theorem aFresh0 (n : Nat) (key : Int) (hn : n ≤ 16) (h1n : 1 ≤ n) (k0 : 0 ≤ key) (k1 : key < 18446744073709551616) : ∀ (d i k : Nat) (xs : List Int), i + d = n → d + 1 ≤ k → xs.length = n → (∀ q, q < i → q + 1 < n → xs[q]? = some (wordAt n key q)) → link_Fresh.l0 k n key xs i = some (freshV n key, 0) := by
  intro d
  induction d with
  | zero =>
    intro i k xs he hk hx hq
    obtain ⟨k, rfl⟩ : ∃ j, k = j + 1 := ⟨k - 1, by omega⟩
    rw [link_Fresh.l0, if_neg (by omega), aTurned k0 k1 (by omega) (by omega), Option.bind_some]
    congr 2
    apply List.ext_getElem?
    intro q
    unfold freshV
    rw [List.getElem?_set, List.getElem?_map]
    by_cases hqn : q < n
    · rw [List.getElem?_range hqn, Option.map_some]
      by_cases e : ((n : Int) - 1).toNat = q
      · rw [if_pos e, if_pos (by omega), wordAt_of key hqn hn]
        unfold nextOf
        rw [if_pos (by omega), show (n : Int) - 1 = (q : Int) by omega]
        have t0 := T_nonneg key (q : Int)
        have t1 := T_lt key (q : Int)
        rw [u64_xor _ _ (by omega) (by omega) t0 t1]
        congr 1
        rw [show ((-1 : Int) + 1).toNat = 0 by decide, Nat.zero_xor]
        omega
      · rw [if_neg e]
        exact hq q (by omega) (by omega)
    · rw [show (List.range n)[q]? = none from List.getElem?_eq_none (by simp; omega), Option.map_none, if_neg (by omega), List.getElem?_eq_none (by omega)]
  | succ d ih =>
    intro i k xs he hk hx hq
    obtain ⟨k, rfl⟩ : ∃ j, k = j + 1 := ⟨k - 1, by omega⟩
    rw [link_Fresh.l0, if_pos (by omega), if_pos (by omega), aTurned k0 k1 (by omega) (by omega), Option.bind_some]
    refine ih (i + 1) k _ (by omega) (by omega) (by rw [List.length_set]; exact hx) ?_
    intro q hqi hqn
    rw [List.getElem?_set, Int.toNat_natCast]
    by_cases e : i = q
    · subst e
      rw [if_pos rfl, if_pos (by omega), wordAt_of key (by omega) hn]
      unfold nextOf
      rw [if_neg (by omega)]
      congr 2
    · rw [if_neg e]
      exact hq q (by omega) hqn
theorem aFresh {n : Nat} {key : Int} (hn : n ≤ 16) (h1n : 1 ≤ n) (k0 : 0 ≤ key) (k1 : key < 18446744073709551616) (k : Nat) (hk : 17 ≤ k) : link_Fresh.f k n key = some (freshV n key, 0) := by
  unfold link_Fresh.f
  rw [if_neg (by omega), Int.toNat_natCast]
  exact aFresh0 n key hn h1n k0 k1 n 0 k _ (by omega) (by omega) (by simp) (fun q h => absurd h (by omega))
theorem aFreshNot {a : Int} (key : Int) (h : a < 1 ∨ a > 16) (k : Nat) : link_Fresh.f k a key = some ([], 2) := by
  unfold link_Fresh.f; rw [if_pos h]
theorem rFresh0 (n : Nat) (key : Int) (hn : n ≤ 16) (h1n : 1 ≤ n) (k0 : 0 ≤ key) (k1 : key < 18446744073709551616) : ∀ (d i k : Nat), i + d = n → d + 101 ≤ k → wainscotref16_Fresh.l0 k n key ((List.range i).map (wordAt n key)) i = some (freshV n key, 0) := by
  intro d
  induction d with
  | zero =>
    intro i k he hk
    obtain ⟨k, rfl⟩ : ∃ j, k = j + 1 := ⟨k - 1, by omega⟩
    rw [wainscotref16_Fresh.l0, if_neg (by omega), show i = n by omega]; rfl
  | succ d ih =>
    intro i k he hk
    obtain ⟨k, rfl⟩ : ∃ j, k = j + 1 := ⟨k - 1, by omega⟩
    rw [wainscotref16_Fresh.l0, if_pos (by omega), wrap64_id (x := (i : Int) + 1) (by omega) (by omega)]
    have hs : (List.range i).map (wordAt n key) ++ [(hideV (nextOf n i) key i).1] = (List.range (i + 1)).map (wordAt n key) := by
      rw [List.range_succ, List.map_append]; rfl
    have hlen : ((List.range i).map (wordAt n key)).length < 17592186044416 := by simp; omega
    have := ih (i + 1) k (by omega) (by omega)
    by_cases e : (i : Int) + 1 = n
    · rw [if_pos e, rHide _ _ k0 k1 k (by omega), Option.bind_some, if_pos hlen]
      unfold nextOf at hs; rw [if_pos (by omega)] at hs
      rw [hs]; exact this
    · rw [if_neg e, rHide _ _ k0 k1 k (by omega), Option.bind_some, if_pos hlen]
      unfold nextOf at hs; rw [if_neg (by omega)] at hs
      rw [hs]; exact this
theorem rFresh {n : Nat} {key : Int} (hn : n ≤ 16) (h1n : 1 ≤ n) (k0 : 0 ≤ key) (k1 : key < 18446744073709551616) (k : Nat) (hk : 120 ≤ k) : wainscotref16_Fresh.f k n key = some (freshV n key, 0) := by
  obtain ⟨k, rfl⟩ : ∃ j, k = j + 1 := ⟨k - 1, by omega⟩
  unfold wainscotref16_Fresh.f
  rw [if_neg (by omega), wainscotref16_Fresh.j0, if_neg (by simp; omega)]
  exact rFresh0 n key hn h1n k0 k1 n 0 k (by omega) (by omega)
theorem rFreshNot {a : Int} (key : Int) (h : a < 1 ∨ a > 16) (k : Nat) (hk : 1 ≤ k) : wainscotref16_Fresh.f k a key = some ([], 2) := by
  obtain ⟨k, rfl⟩ : ∃ j, k = j + 1 := ⟨k - 1, by omega⟩
  unfold wainscotref16_Fresh.f
  by_cases c : a < 1
  · rw [if_pos c, wainscotref16_Fresh.j0, if_pos rfl]
  · rw [if_neg c, wainscotref16_Fresh.j0, if_pos (by simp; omega)]
/-- The first objects. -/
def firsts (i : Nat) : List Int := (List.range i).map fun (j : Nat) => (j : Int)
theorem firsts_len (i : Nat) : (firsts i).length = i := by unfold firsts; simp
theorem not_firsts (i : Nat) : (i : Int) ∉ firsts i := by
  unfold firsts
  rw [List.mem_map]
  rintro ⟨j, hj, e⟩
  rw [List.mem_range] at hj
  omega
theorem rd_fresh {n i : Nat} (key : Int) (hi : i < n) : rd (freshV n key) i = wordAt n key i := by
  rw [rd_nat (by rw [freshV_len]; exact hi)]
  unfold freshV
  rw [List.getElem_map, List.getElem_range]
theorem go_fresh (n : Nat) (key : Int) (hn : n ≤ 16) (h1n : 1 ≤ n) : ∀ (d i m : Nat), i + d + 1 = n → d + 2 ≤ m → go m (freshV n key) key i (firsts i) = (firsts n, 0) := by
  intro d
  induction d with
  | zero =>
    intro i m he hm
    obtain ⟨m, rfl⟩ : ∃ j, m = j + 1 + 1 := ⟨m - 2, by omega⟩
    rw [go, if_neg (by omega), if_neg (not_firsts i), rd_fresh key (by omega)]
    unfold wordAt
    rw [show_hide (next_ok (by omega) hn) (by unfold obj; omega), if_pos rfl, freshV_len]
    have hv : nextOf n i = -1 := by unfold nextOf; rw [if_pos (by omega)]
    rw [hv, if_neg (by show ¬ ((-1 : Int) ≥ _); omega), go, if_pos rfl, ← he]
    unfold firsts
    rw [List.range_succ, List.map_append]; rfl
  | succ d ih =>
    intro i m he hm
    obtain ⟨m, rfl⟩ : ∃ j, m = j + 1 := ⟨m - 1, by omega⟩
    rw [go, if_neg (by omega), if_neg (not_firsts i), rd_fresh key (by omega)]
    unfold wordAt
    rw [show_hide (next_ok (by omega) hn) (by unfold obj; omega), if_pos rfl, freshV_len]
    have hv : nextOf n i = (i : Int) + 1 := by unfold nextOf; rw [if_neg (by omega)]
    rw [hv, if_neg (by show ¬ ((i : Int) + 1 ≥ _); omega)]
    have := ih (i + 1) m (by omega) (by omega)
    rw [← this]
    have e : firsts i ++ [(i : Int)] = firsts (i + 1) := by
      unfold firsts
      rw [List.range_succ, List.map_append]; rfl
    rw [e]; rfl
theorem list_fresh {n : Nat} (key : Int) (hn : n ≤ 16) (h1n : 1 ≤ n) : listV (freshV n key) key 0 = (firsts n, 0) := by
  unfold listV
  rw [freshV_len, if_neg (by omega)]
  exact go_fresh n key hn h1n (n - 1) 0 18 (by omega) (by omega)
end Go.Proofs.Ytamdfipmbpfhbaa.Pl
