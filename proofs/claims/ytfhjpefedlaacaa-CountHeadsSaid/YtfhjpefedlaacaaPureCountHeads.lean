/- Head, HeadOf, Part and PartOf of the program and of the document agree at all numbers and words. -/
import Derived.Test.YtfhjpefedlaacaaPlW
import Derived.Test.YtfhjpefedlaacaaG5
namespace Go.Proofs.Ytfhjpefedlaacaa.Pl
open Go.RowKit Go.Proofs.Ytfhjpefedlaacaa.G Go.Proofs.YtfhjpefedlaacaaW.PrintWords Go.Proofs.YtfhjpefedlaacaaW.PrintLast

theorem rHeadOrder (k : Nat) (s i : Int) (b : Bool) (hb : b = decide (s = -1 ∧ i = -1)) : wainscotref17_Head.j0 (k + 1) s i b = some (headV s i) := by
  subst hb
  simp only [wainscotref17_Head.j0]
  unfold headV
  simp only [decide_eq_true_eq]
  by_cases h0 : s = -1 ∧ i = -1
  · rw [if_pos h0, if_pos h0]
  · rw [if_neg h0, if_neg h0]
    by_cases h1 : s < 0
    · rw [if_pos h1, if_neg (by omega)]
    · rw [if_neg h1]
      by_cases h2 : s ≥ 32
      · rw [if_pos h2, if_neg (by omega)]
      · rw [if_neg h2]
        by_cases h3 : i < -1
        · rw [if_pos h3, if_neg (by omega)]
        · rw [if_neg h3]
          by_cases h4 : i ≥ 16
          · rw [if_pos h4, if_neg (by omega)]
          · rw [if_neg h4, if_pos (by omega), wrap64_id (x := s + 1) (by omega) (by omega), wrap64_id (x := 64 * (s + 1)) (by omega) (by omega), wrap64_id (x := 64 * (s + 1) + i) (by omega) (by omega), wrap64_id (x := 64 * (s + 1) + i + 1) (by omega) (by omega), wrapu_id (by omega) (by omega)]

theorem rHead (k : Nat) (s i : Int) : wainscotref17_Head.f (k + 1) s i = some (headV s i) := by
  unfold wainscotref17_Head.f
  by_cases h : s = -1
  · rw [if_pos h]
    exact rHeadOrder k s i _ (by rw [Bool.eq_iff_iff]; simp [h])
  · rw [if_neg h]
    exact rHeadOrder k s i _ (by simp [h])

theorem rPartOrder (k : Nat) (s n : Int) (b : Bool) (hb : b = decide (s = -1 ∧ n = 0)) : wainscotref17_Part.j0 (k + 1) s n b = some (partV s n) := by
  subst hb
  simp only [wainscotref17_Part.j0]
  unfold partV
  simp only [decide_eq_true_eq]
  by_cases h0 : s = -1 ∧ n = 0
  · rw [if_pos h0, if_pos h0]
  · rw [if_neg h0, if_neg h0]
    by_cases h1 : s < 0
    · rw [if_pos h1, if_neg (by omega)]
    · rw [if_neg h1]
      by_cases h2 : s ≥ 32
      · rw [if_pos h2, if_neg (by omega)]
      · rw [if_neg h2]
        by_cases h3 : n < 1
        · rw [if_pos h3, if_neg (by omega)]
        · rw [if_neg h3]
          by_cases h4 : n > 63
          · rw [if_pos h4, if_neg (by omega)]
          · rw [if_neg h4, if_pos (by omega), wrap64_id (x := s + 1) (by omega) (by omega), wrap64_id (x := 64 * n) (by omega) (by omega), wrap64_id (x := s + 1 + 64 * n) (by omega) (by omega), wrapu_id (by omega) (by omega)]

theorem rPart (k : Nat) (s n : Int) : wainscotref17_Part.f (k + 1) s n = some (partV s n) := by
  unfold wainscotref17_Part.f
  by_cases h : s = -1
  · rw [if_pos h]
    exact rPartOrder k s n _ (by rw [Bool.eq_iff_iff]; simp [h])
  · rw [if_neg h]
    exact rPartOrder k s n _ (by simp [h])

/-! ### the document's search for a head -/
/-- A row without a hit: on to the next. -/
theorem rowMiss (w s : Int) (hm : ∀ i, -1 ≤ i → i < 16 → headV s i ≠ (w, 0)) (d : Nat) : ∀ (i : Int) (k : Nat), -1 ≤ i → i + d = 16 → wainscotref17_HeadOf.l1 (k + d + 2) w s i = wainscotref17_HeadOf.l0 (k + 1) w (wrap64 (s + 1)) := by
  induction d with
  | zero =>
    intro i k h0 hd
    obtain ⟨K, hK⟩ : ∃ K, K = k + 1 := ⟨_, rfl⟩
    rw [show k + 0 + 2 = K + 1 by omega, ← hK]
    simp only [wainscotref17_HeadOf.l1]
    rw [if_neg (by omega)]
  | succ d ih =>
    intro i k h0 hd
    have := ih (i + 1) k (by omega) (by omega)
    obtain ⟨K, hK⟩ : ∃ K, K + 1 = k + d + 2 := ⟨k + d + 1, rfl⟩
    rw [← hK] at this
    rw [show k + (d + 1) + 2 = K + 1 + 1 by omega]
    simp only [wainscotref17_HeadOf.l1]
    rw [if_pos (by omega), rHead K s i, wrap64_id (x := i + 1) (by omega) (by omega)]
    simp only [Option.bind_some]
    have hne := hm i h0 (by omega)
    by_cases e : (headV s i).2 = 0
    · rw [if_pos e, if_neg (fun h => hne (Prod.ext h e))]
      simpa only [wainscotref17_HeadOf.l1] using this
    · rw [if_neg e]
      simpa only [wainscotref17_HeadOf.l1] using this

/-- A row with a hit at i0, and none before. -/
theorem rowHit (w s i0 : Int) (h1 : i0 < 16) (hm : ∀ i, -1 ≤ i → i < i0 → headV s i ≠ (w, 0)) (hh : headV s i0 = (w, 0)) (d : Nat) : ∀ (i : Int) (k : Nat), -1 ≤ i → i + d = i0 → wainscotref17_HeadOf.l1 (k + d + 2) w s i = some (s, i0, true) := by
  induction d with
  | zero =>
    intro i k h0 hd
    obtain rfl : i = i0 := by omega
    obtain ⟨K, hK⟩ : ∃ K, K = k + 1 := ⟨_, rfl⟩
    rw [show k + 0 + 2 = K + 1 by omega]
    subst hK
    simp only [wainscotref17_HeadOf.l1]
    rw [if_pos h1, rHead k s i, hh]
    simp
  | succ d ih =>
    intro i k h0 hd
    have := ih (i + 1) k (by omega) (by omega)
    obtain ⟨K, hK⟩ : ∃ K, K + 1 = k + d + 2 := ⟨k + d + 1, rfl⟩
    rw [← hK] at this
    rw [show k + (d + 1) + 2 = K + 1 + 1 by omega]
    simp only [wainscotref17_HeadOf.l1]
    rw [if_pos (by omega), rHead K s i, wrap64_id (x := i + 1) (by omega) (by omega)]
    simp only [Option.bind_some]
    have hne := hm i h0 (by omega)
    by_cases e : (headV s i).2 = 0
    · rw [if_pos e, if_neg (fun h => hne (Prod.ext h e))]
      simpa only [wainscotref17_HeadOf.l1] using this
    · rw [if_neg e]
      simpa only [wainscotref17_HeadOf.l1] using this

/-- No row from s on holds the word. -/
theorem allMiss (w : Int) (d : Nat) : ∀ (s : Int) (k : Nat), -1 ≤ s → s + d = 32 → (∀ s' i, s ≤ s' → -1 ≤ i → i < 16 → headV s' i ≠ (w, 0)) → wainscotref17_HeadOf.l0 (k + 20 * d + 1) w s = some (-1, -1, false) := by
  induction d with
  | zero =>
    intro s k h0 hd _
    simp only [wainscotref17_HeadOf.l0]
    rw [if_neg (by omega)]
  | succ d ih =>
    intro s k h0 hd hm
    obtain ⟨K, hK⟩ : ∃ K, K = k + 20 * (d + 1) := ⟨_, rfl⟩
    rw [← hK]
    simp only [wainscotref17_HeadOf.l0]
    rw [if_pos (by omega), show K = (k + 20 * d + 1) + 17 + 2 by omega, rowMiss w s (fun i a b => hm s i (Int.le_refl _) a b) 17 (-1) (k + 20 * d + 1) (by omega) (by omega), wrap64_id (x := s + 1) (by omega) (by omega)]
    have := ih (s + 1) (k + 1) (by omega) (by omega) (fun s' i a b c => hm s' i (by omega) b c)
    rw [show k + 1 + 20 * d + 1 = k + 20 * d + 1 + 1 by omega] at this
    exact this

/-- The row s0 holds the word at i0, none before does. -/
theorem oneHit (w s0 i0 : Int) (hs : s0 < 32) (hi0 : -1 ≤ i0) (hi1 : i0 < 16) (hh : headV s0 i0 = (w, 0)) (d : Nat) : ∀ (s : Int) (k : Nat), -1 ≤ s → s + d = s0 → (∀ s' i, s ≤ s' → s' < s0 → -1 ≤ i → i < 16 → headV s' i ≠ (w, 0)) → (∀ i, -1 ≤ i → i < i0 → headV s0 i ≠ (w, 0)) →
    wainscotref17_HeadOf.l0 (k + 20 * d + 21) w s = some (s0, i0, true) := by
  induction d with
  | zero =>
    intro s k h0 hd _ hm
    obtain rfl : s = s0 := by omega
    obtain ⟨K, hK⟩ : ∃ K, K = k + 20 * 0 + 20 := ⟨_, rfl⟩
    rw [show k + 20 * 0 + 21 = K + 1 by omega]
    simp only [wainscotref17_HeadOf.l0]
    rw [if_pos hs]
    have := rowHit w s i0 hi1 hm hh (i0 + 1).toNat (-1) (K - (i0 + 1).toNat - 2) (by omega) (by omega)
    rw [show K - (i0 + 1).toNat - 2 + (i0 + 1).toNat + 2 = K by omega] at this
    exact this
  | succ d ih =>
    intro s k h0 hd hm hm0
    obtain ⟨K, hK⟩ : ∃ K, K = k + 20 * (d + 1) + 20 := ⟨_, rfl⟩
    rw [show k + 20 * (d + 1) + 21 = K + 1 by omega]
    simp only [wainscotref17_HeadOf.l0]
    rw [if_pos (by omega), show K = (k + 20 * d + 21) + 17 + 2 by omega, rowMiss w s (fun i a b => hm s i (Int.le_refl _) (by omega) a b) 17 (-1) (k + 20 * d + 21) (by omega) (by omega), wrap64_id (x := s + 1) (by omega) (by omega)]
    have := ih (s + 1) (k + 1) (by omega) (by omega) (fun s' i a b c e => hm s' i (by omega) b c e) hm0
    rw [show k + 1 + 20 * d + 21 = k + 20 * d + 21 + 1 by omega] at this
    exact this

theorem headV_hit {w s i : Int} (h : headV s i = (w, 0)) : (s = -1 ∧ i = -1 ∧ w = 0) ∨ (0 ≤ s ∧ s < 32 ∧ -1 ≤ i ∧ i < 16 ∧ w = 64 * (s + 1) + i + 1) := by
  unfold headV at h
  split at h
  · rename_i c
    simp only [Prod.mk.injEq] at h
    exact .inl ⟨c.1, c.2, h.1.symm⟩
  · split at h
    · rename_i c
      simp only [Prod.mk.injEq] at h
      exact .inr ⟨c.1, c.2.1, c.2.2.1, c.2.2.2, h.1.symm⟩
    · simp at h

theorem headV_mk {s i : Int} (h : (s = -1 ∧ i = -1) ∨ (0 ≤ s ∧ s < 32 ∧ -1 ≤ i ∧ i < 16)) : headV s i = (64 * (s + 1) + i + 1, 0) := by
  unfold headV
  by_cases c : s = -1 ∧ i = -1
  · rw [if_pos c]; obtain ⟨rfl, rfl⟩ := c; rfl
  · rw [if_neg c, if_pos (h.resolve_left c)]

theorem rHeadOf (w : Int) (k : Nat) (hk : 700 ≤ k) : wainscotref17_HeadOf.f k w = some (headOfV w) := by
  unfold wainscotref17_HeadOf.f headOfV
  by_cases h : isHead w
  · rw [if_pos h]
    unfold isHead at h
    have hv : headV (w / 64 - 1) (w % 64 - 1) = (w, 0) := by
      rw [headV_mk (by omega)]
      congr 1
      omega
    have := oneHit w (w / 64 - 1) (w % 64 - 1) (by omega) (by omega) (by omega) hv (w / 64).toNat (-1) (k - 20 * (w / 64).toNat - 21) (by omega) (by omega)
      (fun s' i a b c d e => by rcases headV_hit e with e | e <;> omega) (fun i a b e => by rcases headV_hit e with e | e <;> omega)
    rw [show k - 20 * (w / 64).toNat - 21 + 20 * (w / 64).toNat + 21 = k by omega] at this
    exact this
  · rw [if_neg h]
    unfold isHead at h
    have := allMiss w 33 (-1) (k - 661) (by omega) (by omega) (fun s' i a b c e => by rcases headV_hit e with e | e <;> omega)
    rw [show k - 661 + 20 * 33 + 1 = k by omega] at this
    exact this

theorem partV_hit {w s n : Int} (h : partV s n = (w, 0)) : (s = -1 ∧ n = 0 ∧ w = 0) ∨ (0 ≤ s ∧ s < 32 ∧ 1 ≤ n ∧ n ≤ 63 ∧ w = s + 1 + 64 * n) := by
  unfold partV at h
  split at h
  · rename_i c
    simp only [Prod.mk.injEq] at h
    exact .inl ⟨c.1, c.2, h.1.symm⟩
  · split at h
    · rename_i c
      simp only [Prod.mk.injEq] at h
      exact .inr ⟨c.1, c.2.1, c.2.2.1, c.2.2.2, h.1.symm⟩
    · simp at h

theorem rPartOf (k : Nat) (w : Int) (h0 : 0 ≤ w) (h1 : w < 18446744073709551616) : wainscotref17_PartOf.f (k + 1) w = some (partOfV w) := by
  unfold wainscotref17_PartOf.f partOfV
  by_cases z : w = 0
  · rw [if_pos z, if_pos (.inl z)]; subst z; rfl
  · rw [if_neg z, Int.tmod_eq_emod_of_nonneg (a := w) h0, Int.tdiv_eq_ediv_of_nonneg (a := w) h0, wrapu_id (x := w / 64) (by omega) (by omega), Int.tmod_eq_emod_of_nonneg (a := w / 64) (by omega), wrap64_id (x := w % 64) (by omega) (by omega), wrap64_id (x := w % 64 - 1) (by omega) (by omega),
      wrap64_id (x := w / 64 % 64) (by omega) (by omega), rPart]
    simp only [Option.bind_some]
    by_cases h : isPart w
    · rw [if_pos h]
      unfold isPart at h
      have e : partV (w % 64 - 1) (w / 64 % 64) = (w, 0) := by
        unfold partV
        rw [if_neg (by omega), if_pos (by omega)]
        congr 1
        omega
      rw [e]
      simp only [if_true]
      congr 2
      congr 1
      omega
    · rw [if_neg h]
      by_cases e : (partV (w % 64 - 1) (w / 64 % 64)).2 = 0
      · rw [if_pos e, if_neg]
        intro e1
        have := partV_hit (Prod.ext e1 e)
        unfold isPart at h
        omega
      · rw [if_neg e]

theorem headV_bounds (s i : Int) : 0 ≤ (headV s i).1 ∧ (headV s i).1 < 4096 := by
  unfold headV
  by_cases a : s = -1 ∧ i = -1
  · rw [if_pos a]; simp
  · rw [if_neg a]
    by_cases b : 0 ≤ s ∧ s < 32 ∧ -1 ≤ i ∧ i < 16
    · rw [if_pos b]; simp only; omega
    · rw [if_neg b]; simp

theorem headsStep (k : Nat) (hk : 700 ≤ k) (w a x : Int) (hw0 : 0 ≤ w) (hw1 : w < 18446744073709551616) (ha0 : 0 ≤ a) (ha1 : a < 18446744073709551616) (hx0 : 0 ≤ x) (hx1 : x < 3) :
    wainscotlaw17_CountHeads.l0 (k + 1) w a x = wainscotlaw17_CountHeads.l0 k w a (x + 1) := by
  obtain ⟨K, rfl⟩ : ∃ K, k = K + 1 := ⟨k - 1, by omega⟩
  have hm : Int.tmod w 4200 = w % 4200 := Int.tmod_eq_emod_of_nonneg hw0
  have key : ∀ v, 0 ≤ v → v < 18446744073709551616 → rd [w, Int.tmod w 4200, a] x = v → wainscotlaw17_CountHeads.l0 (K + 1 + 1) w a x = wainscotlaw17_CountHeads.l0 (K + 1) w a (x + 1) := by
    intro v v0 v1 e
    obtain ⟨J, hJ⟩ : ∃ J, J = K + 1 := ⟨_, rfl⟩
    have e1 := aHeadOf K v v0 v1
    have e2 := rHeadOf v J (by omega)
    have e3 := aPartOf K v v0 v1
    have e4 := rPartOf K v v0 v1
    rw [← hJ] at e1 e3 e4 ⊢
    simp only [wainscotlaw17_CountHeads.l0]
    rw [if_pos hx1]
    simp only [Option.bind_some]
    rw [if_pos hx0, if_pos (by simp; omega), e, e1, e2, e3, e4, wrap64_id (x := x + 1) (by omega) (by omega)]
    simp
  have : x = 0 ∨ x = 1 ∨ x = 2 := by omega
  rcases this with rfl | rfl | rfl
  · exact key w hw0 hw1 rfl
  · exact key (w % 4200) (by omega) (by omega) hm
  · exact key a ha0 ha1 rfl

theorem headsEnd (k : Nat) (hk : 2 ≤ k) (w a : Int) : wainscotlaw17_CountHeads.l0 (k + 1) w a 3 = some true := by
  simp only [wainscotlaw17_CountHeads.l0]
  rw [if_neg (by omega), works k hk]
  rfl

theorem heads (k : Nat) (hk : 701 ≤ k) (s n w : Int) (hw0 : 0 ≤ w) (hw1 : w < 18446744073709551616) : wainscotlaw17_CountHeads.f (k + 5) s n w = some true := by
  unfold wainscotlaw17_CountHeads.f
  rw [aHead (k + 4), rHead (k + 4), aPart (k + 4), rPart (k + 4)]
  simp only [Option.bind_some, if_true, bne_self_eq_false]
  obtain ⟨b0, b1⟩ := headV_bounds s n
  generalize (headV s n).1 = a at b0 b1 ⊢
  obtain ⟨J, hJ⟩ : ∃ J, J = k + 4 := ⟨_, rfl⟩
  have e : wainscotlaw17_CountHeads.l0 J w a 0 = some true := by
    subst hJ
    rw [headsStep (k + 3) (by omega) w a 0 hw0 hw1 b0 (by omega) (by omega) (by omega), headsStep (k + 2) (by omega) w a (0 + 1) hw0 hw1 b0 (by omega) (by omega) (by omega), headsStep (k + 1) (by omega) w a (0 + 1 + 1) hw0 hw1 b0 (by omega) (by omega) (by omega)]
    exact headsEnd k (by omega) w a
  rw [show k + 5 = J + 1 by omega]
  simp only [wainscotlaw17_CountHeads.j0]
  rw [if_neg (by simp), e]

end Go.Proofs.Ytfhjpefedlaacaa.Pl
namespace Go.Proofs.Ytfhjpefedlaacaa.Pure
theorem CountHeads : G.wainscotlaw17_CountHeads.Pure := by
  intro s n w _ _ hw
  have b := Go.bounds_u64 hw
  exact ⟨701 + 5, Pl.heads 701 (by omega) s n w (by omega) (by omega)⟩
end Go.Proofs.Ytfhjpefedlaacaa.Pure
