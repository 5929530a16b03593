/- What Check, Step and Serves answer, in plain numbers: of the program and of the document's answer, the same. -/
import Derived.Test.YtfggpcfmfddfjaaG2
namespace Go.Proofs.Ytfggpcfmfddfjaa.Pl
open Go.RowKit Go.Proofs.Ytfggpcfmfddfjaa.G Go.Proofs.YtfggpcfmfddfjaaW.PrintWords Go.Proofs.YtfggpcfmfddfjaaW.PrintLast

/-- The aligns that may be. -/
def al4 (x : Int) : Prop := x = 8 ∨ x = 16 ∨ x = 32 ∨ x = 64
instance (x : Int) : Decidable (al4 x) := by unfold al4; infer_instance

theorem D4_eq : D4 = .map [(.int .i64 8, .agg []), (.int .i64 16, .agg []), (.int .i64 32, .agg []), (.int .i64 64, .agg [])] := by rfl
theorem isAlign_iff (x : Int) : isAlign x = true ↔ al4 x := by
  unfold isAlign
  rw [D4_eq]
  simp only [Maps.has, List.any_cons, List.any_nil, Lit.sameKey, Bool.or_eq_true, decide_eq_true_eq, true_and, Bool.or_false]
  unfold al4
  omega

/-- May a spec be? -/
def okS (a b c : Int) : Prop := al4 b ∧ 1 ≤ a ∧ a ≤ 1024 ∧ 0 ≤ c ∧ c ≤ 7
instance (a b c : Int) : Decidable (okS a b c) := by unfold okS; infer_instance
def err (a b c : Int) : Int := if okS a b c then 0 else 2

theorem chk_err (a b c : Int) : chk a b c = err a b c := by
  unfold chk
  by_cases h : okS a b c
  · obtain ⟨h1, h2, h3, h4, h5⟩ := h
    rw [if_pos ((isAlign_iff b).2 h1), if_neg (by omega), if_neg (by omega), if_neg (by omega), if_neg (by omega), err, if_pos ⟨h1, h2, h3, h4, h5⟩]
  · rw [err, if_neg h]
    by_cases h1 : isAlign b = true
    · have h1' := (isAlign_iff b).1 h1
      rw [if_pos h1]
      by_cases k1 : a < 1
      · rw [if_pos k1]
      by_cases k2 : 1024 < a
      · rw [if_neg k1, if_pos k2]
      by_cases k3 : c < 0
      · rw [if_neg k1, if_neg k2, if_pos k3]
      by_cases k4 : 7 < c
      · rw [if_neg k1, if_neg k2, if_neg k3, if_pos k4]
      exact absurd ⟨h1', by omega, by omega, by omega, by omega⟩ h
    · rw [if_neg h1]

theorem aCheck (a b c : Int) (hb : (Lit.int .i64 b).wf = true) : alias_Check.f a b c = some (err a b c) := by
  unfold alias_Check.f
  rw [if_pos hb, chk_err]

theorem rCheck (a b c : Int) : wainscotref20_Check.f a b c = some (err a b c) := by
  have key : ∀ (_ : al4 b), (if a < 1 then (some 2) else (if a > 1024 then (some 2) else (if c < 0 then (some 2) else (if c > 7 then (some 2) else (some 0))))) = some (err a b c) := by
    intro hb
    by_cases k1 : a < 1
    · rw [if_pos k1, err, if_neg (fun h => by have := h.2.1; omega)]
    by_cases k2 : a > 1024
    · rw [if_neg k1, if_pos k2, err, if_neg (fun h => by have := h.2.2.1; omega)]
    by_cases k3 : c < 0
    · rw [if_neg k1, if_neg k2, if_pos k3, err, if_neg (fun h => by have := h.2.2.2.1; omega)]
    by_cases k4 : c > 7
    · rw [if_neg k1, if_neg k2, if_neg k3, if_pos k4, err, if_neg (fun h => by have := h.2.2.2.2; omega)]
    · rw [if_neg k1, if_neg k2, if_neg k3, if_neg k4, err, if_pos ⟨hb, by omega, by omega, by omega, by omega⟩]
  unfold wainscotref20_Check.f
  by_cases b1 : b = 8
  · rw [if_pos b1]; exact key (.inl b1)
  by_cases b2 : b = 16
  · rw [if_neg b1, if_pos b2]; exact key (.inr (.inl b2))
  by_cases b3 : b = 32
  · rw [if_neg b1, if_neg b2, if_pos b3]; exact key (.inr (.inr (.inl b3)))
  by_cases b4 : b = 64
  · rw [if_neg b1, if_neg b2, if_neg b3, if_pos b4]; exact key (.inr (.inr (.inr b4)))
  · rw [if_neg b1, if_neg b2, if_neg b3, if_neg b4, err, if_neg (fun h => by have := h.1; unfold al4 at this; omega)]

/-- How far the objects stand apart. -/
def stp (a b c : Int) : Int := if okS a b c then (a + b - 1) / b * b else 0

theorem wrap64_id {x : Int} (h0 : -9223372036854775808 ≤ x) (h1 : x ≤ 9223372036854775807) : wrap64 x = x := by
  unfold wrap64; omega

theorem mask_tab : ∀ n : Nat, n < 1025 → ∀ j : Nat, j < 4 → n = 0 ∨ Go.bits .andNot .i64 ((n : Int) + ((8 * 2 ^ j : Nat) : Int) - 1) (((8 * 2 ^ j : Nat) : Int) - 1) = ((n : Int) + ((8 * 2 ^ j : Nat) : Int) - 1) / ((8 * 2 ^ j : Nat) : Int) * ((8 * 2 ^ j : Nat) : Int) := by
  decide +kernel

theorem mask (a b : Int) (hb : al4 b) (h1 : 1 ≤ a) (h2 : a ≤ 1024) : Go.bits .andNot .i64 (wrap64 ((wrap64 (a + b)) - 1)) (wrap64 (b - 1)) = (a + b - 1) / b * b := by
  have hb' : 8 ≤ b ∧ b ≤ 64 := by unfold al4 at hb; omega
  rw [wrap64_id (x := a + b) (by omega) (by omega), wrap64_id (x := a + b - 1) (by omega) (by omega), wrap64_id (x := b - 1) (by omega) (by omega)]
  obtain ⟨n, rfl⟩ : ∃ n : Nat, a = n := ⟨a.toNat, by omega⟩
  rcases hb with rfl | rfl | rfl | rfl
  · rcases mask_tab n (by omega) 0 (by omega) with h | h
    · omega
    · exact h
  · rcases mask_tab n (by omega) 1 (by omega) with h | h
    · omega
    · exact h
  · rcases mask_tab n (by omega) 2 (by omega) with h | h
    · omega
    · exact h
  · rcases mask_tab n (by omega) 3 (by omega) with h | h
    · omega
    · exact h

theorem err_zero {a b c : Int} : err a b c = 0 ↔ okS a b c := by
  by_cases h : okS a b c
  · rw [err, if_pos h]; exact ⟨fun _ => h, fun _ => rfl⟩
  · rw [err, if_neg h]; exact ⟨fun x => absurd x (by decide), fun x => absurd x h⟩

theorem aStep (a b c : Int) (hb : (Lit.int .i64 b).wf = true) : alias_Step.f a b c = some (stp a b c) := by
  unfold alias_Step.f stp
  rw [aCheck a b c hb]
  simp only [Option.bind_some]
  by_cases h : okS a b c
  · rw [if_pos (err_zero.2 h), if_pos h, mask a b h.1 h.2.1 h.2.2.1]
  · rw [if_neg (fun x => h (err_zero.1 x)), if_neg h]

theorem rStep (a b c : Int) : wainscotref20_Step.f a b c = some (stp a b c) := by
  unfold wainscotref20_Step.f stp
  rw [rCheck a b c]
  simp only [Option.bind_some]
  by_cases h : okS a b c
  · have hb' : 8 ≤ b ∧ b ≤ 64 := by have := h.1; unfold al4 at this; omega
    have h1 := h.2.1
    have h2 := h.2.2.1
    rw [if_pos (err_zero.2 h), if_pos h, if_neg (by omega), wrap64_id (x := a + b) (by omega) (by omega), wrap64_id (x := a + b - 1) (by omega) (by omega), Int.tdiv_eq_ediv_of_nonneg (by omega)]
    have e1 : 0 ≤ (a + b - 1) / b := Int.ediv_nonneg (by omega) (by omega)
    have e2 : (a + b - 1) / b ≤ a + b - 1 := Int.ediv_le_self _ (by omega)
    have e3 : (a + b - 1) / b * b ≤ a + b - 1 := Int.ediv_mul_le _ (by omega)
    have e4 : 0 ≤ (a + b - 1) / b * b := Int.mul_nonneg e1 (by omega)
    rw [wrap64_id (x := (a + b - 1) / b) (by omega) (by omega), wrap64_id (x := (a + b - 1) / b * b) (by omega) (by omega)]
  · rw [if_neg (fun x => h (err_zero.1 x)), if_neg h]

end Go.Proofs.Ytfggpcfmfddfjaa.Pl
