/- LinkNames in plain numbers. -/
import Derived.Test.YtamdfipmbpfhbaaPl4
import Derived.Test.YtamdfipmbpfhbaaG5
namespace Go.Proofs.Ytamdfipmbpfhbaa.Pl
open Go.RowKit Go.Proofs.Ytamdfipmbpfhbaa.G Go.Proofs.YtamdfipmbpfhbaaW.PrintWords Go.Proofs.YtamdfipmbpfhbaaW.PrintLast Go.Proofs.YtamdfipmbpfhbaaW.PrintMore
set_option linter.unusedVariables false

theorem ok_set {l : List Int} {i : Nat} {v : Int} (h : wordsOk l) (v0 : 0 ≤ v) (v1 : v < 18446744073709551616) : wordsOk (l.set i v) := by
  intro x hx
  rcases List.mem_or_eq_of_mem_set hx with hx | rfl
  · exact h x hx
  · exact ⟨v0, v1⟩
theorem names2 (W : Works) (k : Nat) (hk : 60 ≤ k) : wainscotlaw16_LinkNames.j2 (k + 1) (freshV 3 5) (freshV 3 5) (hideV 1 5 2).1 (hideV 3 5 1).1 false = some true := by
  have n1 : wordsOk ((freshV 3 5).set (2 : Int).toNat (hideV 1 5 2).1) := ok_set (freshV_ok _ _) hide_bounds.1 hide_bounds.2
  have n2 : wordsOk ((freshV 3 5).set (1 : Int).toNat (hideV 3 5 1).1) := ok_set (freshV_ok _ _) hide_bounds.1 hide_bounds.2
  have n3 : wordsOk (List.replicate 17 0) := by
    intro x hx; rw [List.mem_replicate] at hx; omega
  have v1 : (listV ((freshV 3 5).set (2 : Int).toNat (hideV 1 5 2).1) 5 0).2 = 150 := by decide +kernel
  have v2 : (listV ((freshV 3 5).set (2 : Int).toNat (hideV 1 5 2).1) 5 3).2 = 2 := by decide +kernel
  have v3 : (listV (List.replicate 17 0) 5 0).2 = 2 := by decide +kernel
  have v4 : (listV ((freshV 3 5).set (1 : Int).toNat (hideV 3 5 1).1) 5 0).2 = 150 := by decide +kernel
  have v5 : (listV ((freshV 3 5).set (1 : Int).toNat (hideV 3 5 1).1) 6 0).2 = 150 := by decide +kernel
  rw [wainscotlaw16_LinkNames.j2, if_neg (by simp), if_pos (by rw [freshV_len]; omega), Option.bind_some, if_pos (by rw [freshV_len]; omega), Option.bind_some]
  rw [aList 0 n1 (by omega) (by omega) k (by omega), Option.bind_some, aList 3 n1 (by omega) (by omega) k (by omega), Option.bind_some, if_pos (by omega), aList 0 n3 (by omega) (by omega) k (by omega), Option.bind_some, aList 0 n2 (by omega) (by omega) k (by omega), Option.bind_some, aList 0 n2 (by omega) (by omega) k (by omega), Option.bind_some]
  rw [aFreshNot 1 (.inl (by omega)), Option.bind_some, aFreshNot 1 (.inr (by omega)), Option.bind_some, W, Option.bind_some, if_pos rfl, if_pos v1, if_pos v2, if_pos v3, if_pos v4, if_pos v5, if_pos rfl]; rfl
theorem names0 (W : Works) (k : Nat) (hk : 70 ≤ k) : wainscotlaw16_LinkNames.l0 k 18 = some true := by
  obtain ⟨k, rfl⟩ : ∃ j, k = j + 1 + 1 := ⟨k - 2, by omega⟩
  have f := aFresh (n := 3) (key := 5) (by omega) (by omega) (by omega) (by omega) (k + 1) (by omega)
  have f' : link_Fresh.f (k + 1) 3 5 = some (freshV 3 5, 0) := f
  rw [wainscotlaw16_LinkNames.l0, if_neg (by omega), f', Option.bind_some, Option.bind_some, aHide 1 2 (by omega) (by omega), Option.bind_some, aHide 3 1 (by omega) (by omega), Option.bind_some, if_pos (by rw [freshV_len]; rfl)]
  rw [show (((freshV 3 5).length : Int) != 3) = false by rw [freshV_len]; rfl]
  exact names2 W k (by omega)
theorem names1 (W : Works) (a : Int) (h0 : -1 ≤ a) (h1 : a < 18) (B : Nat) (hB : 130 ≤ B) (hn : ∀ k, B ≤ k → wainscotlaw16_LinkNames.l0 k (a + 1) = some true) : ∀ (d : Nat) (i : Int) (k : Nat), i + d = 18 → -2 ≤ i → B + d + 1 ≤ k → wainscotlaw16_LinkNames.l1 k a i = some true := by
  intro d
  induction d with
  | zero =>
    intro i k he hi hk
    obtain ⟨k, rfl⟩ : ∃ j, k = j + 1 := ⟨k - 1, by omega⟩
    rw [wainscotlaw16_LinkNames.l1, if_neg (by omega), wrap64_id (by omega) (by omega)]
    exact hn k (by omega)
  | succ d ih =>
    intro i k he hi hk
    obtain ⟨k, rfl⟩ : ∃ j, k = j + 1 := ⟨k - 1, by omega⟩
    rw [wainscotlaw16_LinkNames.l1, if_pos (by omega), hides W i _ a (by omega) (by omega) (by omega) k (by omega), Option.bind_some, if_pos rfl, hides W i _ a (by omega) (by omega) (by omega) k (by omega), Option.bind_some, if_pos rfl, wrap64_id (by omega) (by omega)]
    exact ih (i + 1) k (by omega) (by omega) (by omega)
theorem namesAll (W : Works) : ∀ (d : Nat) (a : Int) (k : Nat), a + d = 18 → -1 ≤ a → d * 30 + 130 ≤ k → wainscotlaw16_LinkNames.l0 k a = some true := by
  intro d
  induction d with
  | zero =>
    intro a k he ha hk
    rw [show a = 18 by omega]
    exact names0 W k (by omega)
  | succ d ih =>
    intro a k he ha hk
    obtain ⟨k, rfl⟩ : ∃ j, k = j + 1 := ⟨k - 1, by omega⟩
    rw [wainscotlaw16_LinkNames.l0, if_pos (by omega)]
    exact names1 W a ha (by omega) (d * 30 + 130) (by omega) (fun k hk => ih (a + 1) k (by omega) (by omega) hk) 20 (-2) k (by omega) (by omega) (by omega)
theorem names (W : Works) : wainscotlaw16_LinkNames.f 800 = some true := by
  unfold wainscotlaw16_LinkNames.f
  exact namesAll W 19 (-1) 800 (by omega) (by omega) (by omega)
end Go.Proofs.Ytamdfipmbpfhbaa.Pl
