/- What Pack, Counts, Head, HeadOf, Part and PartOf of the program answer, in plain numbers. -/
import Derived.Test.YtfhjpefedlaacaaG2
import Derived.Laws.BitsAllLaws
import Derived.OpenShut
namespace Go.Proofs.Ytfhjpefedlaacaa.Pl
open Go.RowKit Go.Proofs.Ytfhjpefedlaacaa.G Go.Proofs.YtfhjpefedlaacaaW.PrintWords Go.Proofs.YtfhjpefedlaacaaW.PrintLast

theorem wrap64_id {x : Int} (h0 : -9223372036854775808 ≤ x) (h1 : x ≤ 9223372036854775807) : wrap64 x = x := by
  unfold wrap64; omega
theorem wrapu_id {x : Int} (h0 : 0 ≤ x) (h1 : x < 18446744073709551616) : IntKind.u64.wrap x = x := by
  have : IntKind.u64.wrap x = x % 18446744073709551616 := rfl
  rw [this]; exact Int.emod_eq_of_lt h0 h1

/-! ### counts and words -/
/-- May counts be? -/
def mayC (i n : Int) (f l : Bool) : Prop := (l = true ∧ 1 ≤ n ∧ n ≤ 16 ∧ 0 ≤ i ∧ i ≤ n) ∨ (i = 0 ∧ n = 0 ∧ f = false ∧ l = false)
instance (i n : Int) (f l : Bool) : Decidable (mayC i n f l) := by unfold mayC; infer_instance
def word (i n : Int) (f l : Bool) : Int := i + 256 * n + (if f = true then 65536 else 0) + (if l = true then 131072 else 0)
def packV (i n : Int) (f l : Bool) : Int × Int := if mayC i n f l then (word i n f l, 0) else (0, 2)

theorem zeroC (i n : Int) (f l : Bool) : (i == 0 && (n == 0 && (!f && (!l)))) = decide (i = 0 ∧ n = 0 ∧ f = false ∧ l = false) := by
  rw [Bool.eq_iff_iff]
  simp

theorem aMay (i n : Int) (f l : Bool) : count_may.f i n f l = some (decide (mayC i n f l)) := by
  unfold count_may.f
  simp only [zeroC]
  by_cases hl : l = true
  · rw [if_pos hl]
    by_cases h1 : 1 ≤ n
    · rw [if_pos h1]
      by_cases h2 : n ≤ 16
      · rw [if_pos h2]
        by_cases h3 : 0 ≤ i
        · rw [if_pos h3]
          by_cases h4 : i ≤ n
          · rw [if_pos h4]; congr 1; exact (decide_eq_true (.inl ⟨hl, h1, h2, h3, h4⟩)).symm
          · rw [if_neg h4]; congr 1; exact decide_eq_decide.2 ⟨fun h => .inr h, fun h => h.elim (fun h => absurd h.2.2.2.2 h4) id⟩
        · rw [if_neg h3]; congr 1; exact decide_eq_decide.2 ⟨fun h => .inr h, fun h => h.elim (fun h => absurd h.2.2.2.1 h3) id⟩
      · rw [if_neg h2]; congr 1; exact decide_eq_decide.2 ⟨fun h => .inr h, fun h => h.elim (fun h => absurd h.2.2.1 h2) id⟩
    · rw [if_neg h1]; congr 1; exact decide_eq_decide.2 ⟨fun h => .inr h, fun h => h.elim (fun h => absurd h.2.1 h1) id⟩
  · rw [if_neg hl]; congr 1; exact decide_eq_decide.2 ⟨fun h => .inr h, fun h => h.elim (fun h => absurd h.1 hl) id⟩

theorem flag (b : Bool) (x : Int) : count_flag.f b x = some (if b = true then x else 0) := by
  unfold count_flag.f; split <;> rfl

theorem or_tab : ∀ i : Nat, i < 17 → ∀ n : Nat, n < 17 → ∀ f l : Bool, Go.bits .or .u64 (Go.bits .or .u64 (Go.bits .or .u64 (IntKind.u64.wrap (i : Int)) (IntKind.u64.wrap ((IntKind.u64.wrap (n : Int)) * 256))) (if f = true then 65536 else 0)) (if l = true then 131072 else 0) = word i n f l := by
  decide +kernel

theorem mayC_bounds {i n : Int} {f l : Bool} (h : mayC i n f l) : 0 ≤ i ∧ i ≤ 16 ∧ 0 ≤ n ∧ n ≤ 16 := by
  rcases h with h | h <;> omega

theorem aPack (i n : Int) (f l : Bool) : count_Pack.f i n f l = some (packV i n f l) := by
  unfold count_Pack.f packV
  rw [aMay, flag, flag]
  simp only [Option.bind_some, decide_eq_true_eq]
  by_cases h : mayC i n f l
  · rw [if_pos h, if_pos h]
    have b := mayC_bounds h
    obtain ⟨i, rfl⟩ : ∃ m : Nat, i = m := ⟨i.toNat, by omega⟩
    obtain ⟨n, rfl⟩ : ∃ m : Nat, n = m := ⟨n.toNat, by omega⟩
    rw [or_tab i (by omega) n (by omega) f l]
  · rw [if_neg h, if_neg h]

theorem and_mod (w : Int) (k : Nat) (hk : k < 64) (h0 : 0 ≤ w) (h1 : w < 18446744073709551616) : Go.bits .and .u64 w (((2 ^ k - 1 : Nat)) : Int) = w % ((2 ^ k : Nat) : Int) := by
  have hp : 2 ^ k - 1 < 18446744073709551616 := by
    have : 2 ^ k < 2 ^ 64 := Nat.pow_lt_pow_right (by omega) hk
    omega
  rw [u64_and w _ h0 h1 (by omega) (by omega)]
  obtain ⟨n, rfl⟩ : ∃ m : Nat, w = m := ⟨w.toNat, by omega⟩
  rw [Int.toNat_natCast, Int.toNat_natCast, Nat.and_two_pow_sub_one_eq_mod]
  rfl

theorem and_bit (w : Int) (k : Nat) (hk : k < 64) (h0 : 0 ≤ w) (h1 : w < 18446744073709551616) : (Go.bits .and .u64 w (((2 ^ k : Nat)) : Int) != 0) = decide (w / ((2 ^ k : Nat) : Int) % 2 = 1) := by
  have hp : 2 ^ k < 18446744073709551616 := by
    have : 2 ^ k < 2 ^ 64 := Nat.pow_lt_pow_right (by omega) hk
    omega
  have hq : (0 : Int) ≤ ((2 ^ k : Nat) : Int) := Int.natCast_nonneg _
  have hr : ((2 ^ k : Nat) : Int) < 18446744073709551616 := by generalize 2 ^ k = p at hp; omega
  rw [u64_and w _ h0 h1 hq hr]
  obtain ⟨n, rfl⟩ : ∃ m : Nat, w = m := ⟨w.toNat, by omega⟩
  rw [Int.toNat_natCast, Int.toNat_natCast]
  have e : (n &&& 2 ^ k = 0) ↔ ¬ (n / 2 ^ k % 2 = 1) := by
    constructor
    · intro h hc
      have t : n.testBit k = true := by rw [Nat.testBit_eq_decide_div_mod_eq]; exact decide_eq_true hc
      have : (n &&& 2 ^ k).testBit k = true := by rw [Nat.testBit_and, t, Nat.testBit_two_pow_self]; rfl
      rw [h] at this
      simp at this
    · intro h
      apply Nat.eq_of_testBit_eq
      intro j
      rw [Nat.testBit_and, Nat.testBit_two_pow, Nat.zero_testBit]
      by_cases hj : k = j
      · subst hj
        have t : n.testBit k = false := by rw [Nat.testBit_eq_decide_div_mod_eq]; exact decide_eq_false h
        rw [t]; rfl
      · simp [hj]
  rw [Bool.eq_iff_iff, decide_eq_true_eq, bne_iff_ne]
  omega

/-- What a word's counts are. -/
def countsV (w : Int) : Int × Int × Bool × Bool × Bool :=
  if w < 262144 ∧ mayC (w % 256) (w / 256 % 256) (decide (w / 65536 % 2 = 1)) (decide (w / 131072 % 2 = 1)) then (w % 256, w / 256 % 256, decide (w / 65536 % 2 = 1), decide (w / 131072 % 2 = 1), true) else (0, 0, false, false, false)

theorem aCounts (w : Int) (h0 : 0 ≤ w) (h1 : w < 18446744073709551616) : count_Counts.f w = some (countsV w) := by
  unfold count_Counts.f countsV
  by_cases hw : w ≥ 262144
  · rw [if_pos hw, if_neg (fun h => by omega)]
  · rw [if_neg hw]
    have e1 : Go.bits .and .u64 w 255 = w % 256 := and_mod w 8 (by omega) h0 h1
    have e2 : Go.bits .and .u64 (w / 256) 255 = w / 256 % 256 := and_mod (w / 256) 8 (by omega) (by omega) (by omega)
    have e3 : (Go.bits .and .u64 w 65536 != 0) = decide (w / 65536 % 2 = 1) := and_bit w 16 (by omega) h0 h1
    have e4 : (Go.bits .and .u64 w 131072 != 0) = decide (w / 131072 % 2 = 1) := and_bit w 17 (by omega) h0 h1
    rw [e1, e2, e3, e4, wrap64_id (x := w % 256) (by omega) (by omega), wrap64_id (x := w / 256 % 256) (by omega) (by omega), aMay]
    simp only [Option.bind_some, decide_eq_true_eq]
    by_cases hm : mayC (w % 256) (w / 256 % 256) (decide (w / 65536 % 2 = 1)) (decide (w / 131072 % 2 = 1))
    · rw [if_pos hm, if_pos ⟨by omega, hm⟩]
    · rw [if_neg hm, if_neg (fun h => hm h.2)]

/-! ### heads and parts -/
def headV (s i : Int) : Int × Int := if s = -1 ∧ i = -1 then (0, 0) else if 0 ≤ s ∧ s < 32 ∧ -1 ≤ i ∧ i < 16 then (64 * (s + 1) + i + 1, 0) else (0, 2)
def partV (s n : Int) : Int × Int := if s = -1 ∧ n = 0 then (0, 0) else if 0 ≤ s ∧ s < 32 ∧ 1 ≤ n ∧ n ≤ 63 then (s + 1 + 64 * n, 0) else (0, 2)

theorem head_tab : ∀ s : Nat, s < 33 → ∀ i : Nat, i < 17 → Go.bits .or .u64 (IntKind.u64.wrap ((IntKind.u64.wrap (s : Int)) * 64)) (IntKind.u64.wrap (i : Int)) = 64 * (s : Int) + i := by decide +kernel
theorem part_tab : ∀ n : Nat, n < 64 → ∀ s : Nat, s < 33 → Go.bits .or .u64 (IntKind.u64.wrap ((IntKind.u64.wrap (n : Int)) * 64)) (IntKind.u64.wrap (s : Int)) = (s : Int) + 64 * n := by decide +kernel

theorem slabMay (s : Int) : count_slabMay.f s = some (decide (0 ≤ s ∧ s < 32)) := by
  unfold count_slabMay.f
  by_cases h : 0 ≤ s
  · rw [if_pos h]; congr 1; exact decide_eq_decide.2 ⟨fun k => ⟨h, k⟩, fun k => k.2⟩
  · rw [if_neg h, decide_eq_false (fun k => h k.1)]

theorem headOrder (k : Nat) (s i : Int) (b : Bool) (hb : b = decide (s = -1 ∧ i = -1)) : count_Head.j0 (k + 1) s i b = some (headV s i) := by
  subst hb
  simp only [count_Head.j0]
  unfold headV
  rw [slabMay]
  simp only [Option.bind_some, decide_eq_true_eq]
  by_cases h0 : s = -1 ∧ i = -1
  · rw [if_pos h0, if_pos h0]
  · rw [if_neg h0, if_neg h0]
    by_cases h1 : 0 ≤ s ∧ s < 32
    · rw [if_pos h1]
      by_cases h2 : i < -1
      · rw [if_pos h2, if_neg (fun h => by omega)]
      · rw [if_neg h2]
        by_cases h3 : i ≥ 16
        · rw [if_pos h3, if_neg (fun h => by omega)]
        · rw [if_neg h3, if_pos ⟨h1.1, h1.2, by omega, by omega⟩, wrap64_id (x := s + 1) (by omega) (by omega), wrap64_id (x := i + 1) (by omega) (by omega)]
          have t := head_tab (s + 1).toNat (by omega) (i + 1).toNat (by omega)
          rw [show (((s + 1).toNat : Nat) : Int) = s + 1 by omega, show (((i + 1).toNat : Nat) : Int) = i + 1 by omega] at t
          rw [t]
          congr 2
          omega
    · rw [if_neg h1, if_neg (fun h => h1 ⟨h.1, h.2.1⟩)]

theorem aHead (k : Nat) (s i : Int) : count_Head.f (k + 1) s i = some (headV s i) := by
  unfold count_Head.f
  by_cases h : s = -1
  · rw [if_pos h]
    exact headOrder k s i _ (by rw [Bool.eq_iff_iff]; simp [h])
  · rw [if_neg h]
    exact headOrder k s i _ (by simp [h])

theorem partOrder (k : Nat) (s n : Int) (b : Bool) (hb : b = decide (s = -1 ∧ n = 0)) : count_Part.j0 (k + 1) s n b = some (partV s n) := by
  subst hb
  simp only [count_Part.j0]
  unfold partV
  rw [slabMay]
  simp only [Option.bind_some, decide_eq_true_eq]
  by_cases h0 : s = -1 ∧ n = 0
  · rw [if_pos h0, if_pos h0]
  · rw [if_neg h0, if_neg h0]
    by_cases h1 : 0 ≤ s ∧ s < 32
    · rw [if_pos h1]
      by_cases h2 : n < 1
      · rw [if_pos h2, if_neg (fun h => by omega)]
      · rw [if_neg h2]
        by_cases h3 : n > 63
        · rw [if_pos h3, if_neg (fun h => by omega)]
        · rw [if_neg h3, if_pos ⟨h1.1, h1.2, by omega, by omega⟩, wrap64_id (x := s + 1) (by omega) (by omega)]
          have t := part_tab n.toNat (by omega) (s + 1).toNat (by omega)
          rw [show (((s + 1).toNat : Nat) : Int) = s + 1 by omega, show ((n.toNat : Nat) : Int) = n by omega] at t
          rw [t]
    · rw [if_neg h1, if_neg (fun h => h1 ⟨h.1, h.2.1⟩)]

theorem aPart (k : Nat) (s n : Int) : count_Part.f (k + 1) s n = some (partV s n) := by
  unfold count_Part.f
  by_cases h : s = -1
  · rw [if_pos h]
    exact partOrder k s n _ (by rw [Bool.eq_iff_iff]; simp [h])
  · rw [if_neg h]
    exact partOrder k s n _ (by simp [h])

/-- What a word says of a slab and an object; of a slab and how many. -/
def isHead (w : Int) : Prop := w = 0 ∨ (64 ≤ w ∧ w < 2112 ∧ w % 64 ≤ 16)
instance (w : Int) : Decidable (isHead w) := by unfold isHead; infer_instance
def isPart (w : Int) : Prop := w = 0 ∨ (64 ≤ w ∧ w ≤ 4095 ∧ 1 ≤ w % 64 ∧ w % 64 ≤ 32)
instance (w : Int) : Decidable (isPart w) := by unfold isPart; infer_instance
def headOfV (w : Int) : Int × Int × Bool := if isHead w then (w / 64 - 1, w % 64 - 1, true) else (-1, -1, false)
def partOfV (w : Int) : Int × Int × Bool := if isPart w then (w % 64 - 1, w / 64, true) else (-1, 0, false)

theorem aHeadOf (k : Nat) (w : Int) (h0 : 0 ≤ w) (h1 : w < 18446744073709551616) : count_HeadOf.f (k + 1) w = some (headOfV w) := by
  unfold count_HeadOf.f headOfV
  by_cases hw : w > 4095
  · rw [if_pos hw, if_neg (by unfold isHead; omega)]
  · have e1 : Go.bits .and .u64 w 63 = w % 64 := and_mod w 6 (by omega) h0 h1
    rw [if_neg hw, e1, wrap64_id (x := w / 64) (by omega) (by omega), wrap64_id (x := w % 64) (by omega) (by omega), wrap64_id (x := w / 64 - 1) (by omega) (by omega), wrap64_id (x := w % 64 - 1) (by omega) (by omega), aHead]
    simp only [Option.bind_some]
    unfold headV
    by_cases h : isHead w
    · rw [if_pos h]
      unfold isHead at h
      by_cases z : w = 0
      · rw [if_pos (c := w / 64 - 1 = -1 ∧ w % 64 - 1 = -1) (by omega)]; rfl
      · rw [if_neg (c := w / 64 - 1 = -1 ∧ w % 64 - 1 = -1) (by omega), if_pos (c := 0 ≤ w / 64 - 1 ∧ w / 64 - 1 < 32 ∧ -1 ≤ w % 64 - 1 ∧ w % 64 - 1 < 16) (by omega)]; rfl
    · rw [if_neg h]
      unfold isHead at h
      rw [if_neg (c := w / 64 - 1 = -1 ∧ w % 64 - 1 = -1) (by omega), if_neg (c := 0 ≤ w / 64 - 1 ∧ w / 64 - 1 < 32 ∧ -1 ≤ w % 64 - 1 ∧ w % 64 - 1 < 16) (by omega)]; rfl

theorem aPartOf (k : Nat) (w : Int) (h0 : 0 ≤ w) (h1 : w < 18446744073709551616) : count_PartOf.f (k + 1) w = some (partOfV w) := by
  unfold count_PartOf.f partOfV
  by_cases hw : w > 4095
  · rw [if_pos hw, if_neg (by unfold isPart; omega)]
  · have e1 : Go.bits .and .u64 w 63 = w % 64 := and_mod w 6 (by omega) h0 h1
    rw [if_neg hw, e1, wrap64_id (x := w / 64) (by omega) (by omega), wrap64_id (x := w / 64) (by omega) (by omega), wrap64_id (x := w % 64) (by omega) (by omega), wrap64_id (x := w % 64 - 1) (by omega) (by omega), aPart]
    simp only [Option.bind_some]
    unfold partV
    by_cases h : isPart w
    · rw [if_pos h]
      unfold isPart at h
      by_cases z : w = 0
      · rw [if_pos (c := w % 64 - 1 = -1 ∧ w / 64 = 0) (by omega)]; rfl
      · rw [if_neg (c := w % 64 - 1 = -1 ∧ w / 64 = 0) (by omega), if_pos (c := 0 ≤ w % 64 - 1 ∧ w % 64 - 1 < 32 ∧ 1 ≤ w / 64 ∧ w / 64 ≤ 63) (by omega)]; rfl
    · rw [if_neg h]
      unfold isPart at h
      rw [if_neg (c := w % 64 - 1 = -1 ∧ w / 64 = 0) (by omega), if_neg (c := 0 ≤ w % 64 - 1 ∧ w % 64 - 1 < 32 ∧ 1 ≤ w / 64 ∧ w / 64 ≤ 63) (by omega)]; rfl

end Go.Proofs.Ytfhjpefedlaacaa.Pl
