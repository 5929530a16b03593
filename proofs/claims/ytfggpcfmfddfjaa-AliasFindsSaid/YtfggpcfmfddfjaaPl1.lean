/- What Serves and works answer, in plain numbers. -/
import Derived.Test.YtfggpcfmfddfjaaPl0
import Derived.Test.YtfggpcfmfddfjaaG3
namespace Go.Proofs.Ytfggpcfmfddfjaa.Pl
open Go.RowKit Go.Proofs.Ytfggpcfmfddfjaa.G Go.Proofs.YtfggpcfmfddfjaaW.PrintWords Go.Proofs.YtfggpcfmfddfjaaW.PrintLast

/-- Does a spec serve for another one? -/
def srv (a0 a1 a2 b0 b1 b2 : Int) : Bool := decide (okS a0 a1 a2 ∧ okS b0 b1 b2 ∧ a2 = 0 ∧ b2 = 0 ∧ stp a0 a1 a2 = stp b0 b1 b2 ∧ a1 % b1 = 0)

theorem or_tab : ∀ x : Nat, x < 8 → ∀ y : Nat, y < 8 → (Go.bits .or .i64 (x : Int) (y : Int) != 0) = !(decide ((x : Int) = 0) && decide ((y : Int) = 0)) := by decide +kernel

theorem or_flags (x y : Int) (h0 : 0 ≤ x) (h1 : x ≤ 7) (h2 : 0 ≤ y) (h3 : y ≤ 7) : (Go.bits .or .i64 x y != 0) = !(decide (x = 0) && decide (y = 0)) := by
  obtain ⟨n, rfl⟩ : ∃ n : Nat, x = n := ⟨x.toNat, by omega⟩
  obtain ⟨m, rfl⟩ : ∃ m : Nat, y = m := ⟨y.toNat, by omega⟩
  exact or_tab n (by omega) m (by omega)

theorem al4_pos {b : Int} (h : al4 b) : 8 ≤ b ∧ b ≤ 64 := by unfold al4 at h; omega

theorem aServes (k : Nat) (a0 a1 a2 b0 b1 b2 : Int) (ha : (Lit.int .i64 a1).wf = true) (hb : (Lit.int .i64 b1).wf = true) :
    alias_Serves.f (k + 1) a0 a1 a2 b0 b1 b2 = some (srv a0 a1 a2 b0 b1 b2) := by
  unfold alias_Serves.f srv
  rw [aCheck a0 a1 a2 ha]
  simp only [Option.bind_some]
  by_cases h1 : okS a0 a1 a2
  · rw [if_pos (err_zero.2 h1), aCheck b0 b1 b2 hb]
    simp only [Option.bind_some]
    by_cases h2 : okS b0 b1 b2
    · rw [if_pos (err_zero.2 h2), or_flags a2 b2 h1.2.2.2.1 h1.2.2.2.2 h2.2.2.2.1 h2.2.2.2.2]
      simp only [alias_Serves.j0]
      rw [aStep a0 a1 a2 ha, aStep b0 b1 b2 hb]
      simp only [Option.bind_some]
      have p1 := al4_pos h1.1
      have p2 := al4_pos h2.1
      by_cases f1 : a2 = 0
      · by_cases f2 : b2 = 0
        · rw [if_neg (by simp [f1, f2])]
          by_cases e : stp a0 a1 a2 = stp b0 b1 b2
          · rw [if_pos e, if_neg (by omega), Int.tmod_eq_emod_of_nonneg (by omega)]
            congr 1
            rw [Bool.eq_iff_iff]
            simp only [beq_iff_eq, decide_eq_true_eq]
            exact ⟨fun m => ⟨h1, h2, f1, f2, e, m⟩, fun h => h.2.2.2.2.2⟩
          · rw [if_neg e]; simp [e]
        · rw [if_pos (by simp [f2])]; simp [f2]
      · rw [if_pos (by simp [f1])]; simp [f1]
    · rw [if_neg (fun x => h2 (err_zero.1 x))]
      simp [alias_Serves.j0, h2]
  · rw [if_neg (fun x => h1 (err_zero.1 x))]
    simp [alias_Serves.j0, h1]

theorem rServes (k : Nat) (a0 a1 a2 b0 b1 b2 : Int) : wainscotref20_Serves.f (k + 1) a0 a1 a2 b0 b1 b2 = some (srv a0 a1 a2 b0 b1 b2) := by
  unfold wainscotref20_Serves.f srv
  rw [rCheck a0 a1 a2]
  simp only [Option.bind_some]
  by_cases h1 : okS a0 a1 a2
  · rw [if_pos (err_zero.2 h1), rCheck b0 b1 b2]
    simp only [Option.bind_some]
    by_cases h2 : okS b0 b1 b2
    · rw [if_pos (err_zero.2 h2)]
      have p1 := al4_pos h1.1
      have p2 := al4_pos h2.1
      simp only [wainscotref20_Serves.j0]
      rw [rStep a0 a1 a2, rStep b0 b1 b2]
      simp only [Option.bind_some]
      by_cases f1 : a2 = 0
      · rw [if_pos f1]
        by_cases f2 : b2 = 0
        · rw [if_neg (by simp [f2])]
          by_cases e : stp a0 a1 a2 = stp b0 b1 b2
          · rw [if_pos e, if_neg (by omega), Int.tmod_eq_emod_of_nonneg (by omega)]
            congr 1
            rw [Bool.eq_iff_iff]
            simp only [beq_iff_eq, decide_eq_true_eq]
            exact ⟨fun m => ⟨h1, h2, f1, f2, e, m⟩, fun h => h.2.2.2.2.2⟩
          · rw [if_neg e]; simp [e]
        · rw [if_pos (by simp [f2])]; simp [f2]
      · rw [if_neg f1, if_pos trivial]; simp [f1]
    · rw [if_neg (fun x => h2 (err_zero.1 x))]
      simp [wainscotref20_Serves.j0, h2]
  · rw [if_neg (fun x => h1 (err_zero.1 x))]
    simp [wainscotref20_Serves.j0, h1]

end Go.Proofs.Ytfggpcfmfddfjaa.Pl
