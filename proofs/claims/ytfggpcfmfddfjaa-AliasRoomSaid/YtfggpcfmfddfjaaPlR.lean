/- What serves for one has room for it: in plain numbers. -/
import Derived.Test.YtfggpcfmfddfjaaPlW
import Derived.Test.YtfggpcfmfddfjaaG8
namespace Go.Proofs.Ytfggpcfmfddfjaa.Pl
open Go.RowKit Go.Proofs.Ytfggpcfmfddfjaa.G Go.Proofs.YtfggpcfmfddfjaaW.PrintWords Go.Proofs.YtfggpcfmfddfjaaW.PrintLast

/-- A step is the least multiple of the align that is at least the size. -/
theorem stp_facts {a b c : Int} (h : okS a b c) : a ≤ stp a b c ∧ stp a b c - a < b ∧ stp a b c % b = 0 ∧ stp a b c ≤ 1088 := by
  have hb := al4_pos h.1
  have h1 := h.2.1
  have h2 := h.2.2.1
  unfold stp
  rw [if_pos h]
  have d := Int.emod_add_mul_ediv (a + b - 1) b
  have m0 := Int.emod_nonneg (a + b - 1) (show b ≠ 0 by omega)
  have m1 := Int.emod_lt_of_pos (a + b - 1) (show 0 < b by omega)
  have c0 : b * ((a + b - 1) / b) = (a + b - 1) / b * b := Int.mul_comm _ _
  exact ⟨by omega, by omega, Int.mul_emod_left _ _, by omega⟩

theorem room (a0 a1 a2 b0 b1 b2 : Int) (wa1 : (Lit.int .i64 a1).wf = true) (wb1 : (Lit.int .i64 b1).wf = true) : wainscotlaw20_AliasRoom.f 12 a0 a1 a2 b0 b1 b2 = some true := by
  unfold wainscotlaw20_AliasRoom.f
  rw [aServes 11 a0 a1 a2 b0 b1 b2 wa1 wb1, works12]
  simp only [Option.bind_some]
  by_cases hs : srv a0 a1 a2 b0 b1 b2 = true
  · rw [if_pos hs, aStep a0 a1 a2 wa1]
    simp only [Option.bind_some]
    obtain ⟨o1, o2, f1, f2, es, m⟩ := srv_iff.1 hs
    obtain ⟨x1, x2, x3, x4⟩ := stp_facts o1
    obtain ⟨y1, y2, y3, y4⟩ := stp_facts o2
    have p1 := al4_pos o1.1
    have p2 := al4_pos o2.1
    have q1 := o1.2.1
    rw [if_pos (by omega), if_pos (by omega), if_neg (by omega), Int.tmod_eq_emod_of_nonneg (by omega), if_pos (by rw [es]; exact y3), wrap64_id (x := stp a0 a1 a2 - a0) (by omega) (by omega), if_pos x2, if_pos f1, if_pos f2]
  · rw [if_neg hs, aCheck a0 a1 a2 wa1, aCheck b0 b1 b2 wb1]
    simp only [Option.bind_some]
    by_cases o1 : okS a0 a1 a2
    · rw [if_pos (err_zero.2 o1)]
      by_cases o2 : okS b0 b1 b2
      · rw [if_pos (err_zero.2 o2), aStep a0 a1 a2 wa1, aStep b0 b1 b2 wb1]
        simp only [Option.bind_some]
        have p1 := o1.2.2.2.1
        have p2 := o2.2.2.2.1
        have p3 := o1.2.2.2.2
        have p4 := o2.2.2.2.2
        rw [wrap64_id (x := a2 + b2) (by omega) (by omega)]
        by_cases hf : a2 + b2 > 0
        · rw [if_pos hf]
        · rw [if_neg hf]
          by_cases es : stp a0 a1 a2 = stp b0 b1 b2
          · rw [if_pos es]
            have hm : ¬ a1 % b1 = 0 := fun m => hs (srv_iff.2 ⟨o1, o2, by omega, by omega, es, m⟩)
            have z1 := o1.1
            have z2 := o2.1
            have hlt : a1 < b1 := by
              rcases z1 with rfl | rfl | rfl | rfl <;> rcases z2 with rfl | rfl | rfl | rfl <;> first | omega | exact absurd (by decide) hm
            rw [if_pos hlt]
          · rw [if_neg es]
      · rw [if_neg (fun x => o2 (err_zero.1 x))]
    · rw [if_neg (fun x => o1 (err_zero.1 x))]

end Go.Proofs.Ytfggpcfmfddfjaa.Pl
namespace Go.Proofs.Ytfggpcfmfddfjaa.Pure
theorem AliasRoom (a0 a1 a2 b0 b1 b2 : Int) (_ : (Lit.int .i64 a0).wf = true) (h1 : (Lit.int .i64 a1).wf = true) (_ : (Lit.int .i64 a2).wf = true) (_ : (Lit.int .i64 b0).wf = true) (h4 : (Lit.int .i64 b1).wf = true) (_ : (Lit.int .i64 b2).wf = true) :
    ∃ k, G.wainscotlaw20_AliasRoom.f k a0 a1 a2 b0 b1 b2 = some true := ⟨12, Pl.room a0 a1 a2 b0 b1 b2 h1 h4⟩
end Go.Proofs.Ytfggpcfmfddfjaa.Pure
