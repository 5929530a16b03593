/- Taking an object off, and giving it back, brings the word back; what is frozen differs by one bit: the numbers, and the call. -/
import Derived.Test.YtfhjpefedlaacaaPlW
import Derived.Test.YtfhjpefedlaacaaTurns
namespace Go.Proofs.Ytfhjpefedlaacaa.Pl
open Go.RowKit Go.Proofs.Ytfhjpefedlaacaa.G Go.Proofs.YtfhjpefedlaacaaW.PrintWords Go.Proofs.YtfhjpefedlaacaaW.PrintLast

theorem bring (x n : Int) (h0 : 0 < n) (h1 : n ≤ 1024) (hw : (Lit.int .i64 x).wf = true) : wainscotref00_Bring.f x n = some (x % n) := by
  have hx := bounds_i64 hw
  unfold wainscotref00_Bring.f
  rw [if_neg (by omega)]
  have e0 := Int.emod_nonneg x (show n ≠ 0 by omega)
  have e1 := Int.emod_lt_of_pos x h0
  by_cases h : 0 ≤ x
  · rw [Int.tmod_eq_emod_of_nonneg h, if_neg (by omega)]
  · have ht : Int.tmod x n = if n ∣ x then 0 else x % n - n := by
      rw [Int.tmod_eq_emod]
      by_cases hd : n ∣ x
      · rw [if_pos (.inr hd), if_pos hd]
        have := Int.emod_eq_zero_of_dvd hd
        omega
      · rw [if_neg (by simp [h, hd]), if_neg hd]
        omega
    rw [ht]
    by_cases hd : n ∣ x
    · rw [if_pos hd, if_neg (by omega), Int.emod_eq_zero_of_dvd hd]
    · have : x % n ≠ 0 := fun e => hd (Int.dvd_of_emod_eq_zero e)
      rw [if_neg hd, if_pos (by omega), wrap64_id (by omega) (by omega)]
      congr 1
      omega

theorem bit_tab : ∀ q : Nat, q < 16 → ∀ n : Nat, n < 17 → ∀ b : Bool, (Go.bits .xor .u64 (word q n b true) (word q n (!b) true) != 0) = true ∧ (Go.bits .and .u64 (Go.bits .xor .u64 (word q n b true) (word q n (!b) true)) (IntKind.u64.wrap (Go.bits .xor .u64 (word q n b true) (word q n (!b) true) - 1)) == 0) = true := by
  decide +kernel

theorem word_next (q n : Int) (b : Bool) : word (q + 1) n b true = word q n b true + 1 := by unfold word; omega

theorem counts_word {i n : Int} {f l : Bool} (h : mayC i n f l) : countsV (word i n f l) = (i, n, f, l, true) := by
  have b := mayC_bounds h
  have e : ∀ x : Int, ∀ c : Bool, (x = if c = true then 1 else 0) → decide (x = 1) = c := by
    intro x c hx
    cases c
    · simp only [Bool.false_eq_true, if_false] at hx; subst hx; rfl
    · simp only [if_true] at hx; subst hx; rfl
  have w : word i n f l < 262144 ∧ word i n f l % 256 = i ∧ word i n f l / 256 % 256 = n ∧ decide (word i n f l / 65536 % 2 = 1) = f ∧ decide (word i n f l / 131072 % 2 = 1) = l := by
    unfold word
    refine ⟨?_, ?_, ?_, e _ _ ?_, e _ _ ?_⟩ <;> cases f <;> cases l <;> simp only [Bool.false_eq_true, if_false, if_true] <;> omega
  obtain ⟨w1, e1, e2, e3, e4⟩ := w
  unfold countsV
  rw [e1, e2, e3, e4, if_pos ⟨w1, h⟩]

theorem turns (a0 a1 : Int) (b : Bool) (h0 : (Lit.int .i64 a0).wf = true) (h1 : (Lit.int .i64 a1).wf = true) (W : World) :
    Calls Try.prog 3 #[.int .i64 a0, .int .i64 a1, .bool b] W fun e w' => e = .returned (.bool true) ∧ Below W.heap.size W w' := by
  have p0 := Int.emod_nonneg a0 (show (16 : Int) ≠ 0 by omega)
  have p1 := Int.emod_lt_of_pos a0 (show (0 : Int) < 16 by omega)
  have hb1 := bring a0 16 (by omega) (by omega) h0
  generalize a0 % 16 = p at p0 p1 hb1
  have q0 := Int.emod_nonneg a1 (show (1 + p : Int) ≠ 0 by omega)
  have q1 := Int.emod_lt_of_pos a1 (show (0 : Int) < 1 + p by omega)
  have hb2 := bring a1 (1 + p) (by omega) (by omega) h1
  generalize a1 % (1 + p) = q at q0 q1 hb2
  have m1 : mayC q (1 + p) b true := .inl ⟨rfl, by omega, by omega, by omega, by omega⟩
  have m2 : mayC (q + 1) (1 + p) b true := .inl ⟨rfl, by omega, by omega, by omega, by omega⟩
  have m3 : mayC q (1 + p) (!b) true := .inl ⟨rfl, by omega, by omega, by omega, by omega⟩
  have e1 : count_Pack.f q (1 + p) b true = some (word q (1 + p) b true, 0) := by rw [aPack, packV, if_pos m1]
  have e2 : count_Pack.f (q + 1) (1 + p) b true = some (word (q + 1) (1 + p) b true, 0) := by rw [aPack, packV, if_pos m2]
  have e3 : count_Pack.f q (1 + p) (!b) true = some (word q (1 + p) (!b) true, 0) := by rw [aPack, packV, if_pos m3]
  have w0 : 0 ≤ word q (1 + p) b true ∧ word q (1 + p) b true < 262143 := by unfold word; cases b <;> simp <;> omega
  have wn := word_next q (1 + p) b
  have e4 : count_Counts.f (word (q + 1) (1 + p) b true) = some (q + 1, 1 + p, b, true, true) := by
    rw [aCounts _ (by omega) (by omega), counts_word m2]
  have t := bit_tab q.toNat (by omega) (1 + p).toNat (by omega) b
  rw [show ((q.toNat : Nat) : Int) = q by omega, show (((1 + p).toNat : Nat) : Int) = 1 + p by omega] at t
  exact turns_walk a0 a1 p q (word q (1 + p) b true) (word (q + 1) (1 + p) b true) (word q (1 + p) (!b) true) b 2 W hb1 p0 p1 hb2 q0 (by omega) e1 e2 e3 e4 works2 w0.1 (by omega) (by rw [wn]; simp) t.1 t.2

end Go.Proofs.Ytfhjpefedlaacaa.Pl
