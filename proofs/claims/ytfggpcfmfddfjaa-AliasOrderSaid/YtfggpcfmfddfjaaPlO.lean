/- A cache without flags serves for itself; what serves through another one serves: in plain numbers. -/
import Derived.Test.YtfggpcfmfddfjaaPlW
import Derived.Test.YtfggpcfmfddfjaaG6
import Derived.Test.YtfggpcfmfddfjaaG7
import Derived.OpenShut
namespace Go.Proofs.Ytfggpcfmfddfjaa.Pl
open Go.RowKit Go.Proofs.Ytfggpcfmfddfjaa.G Go.Proofs.YtfggpcfmfddfjaaW.PrintWords Go.Proofs.YtfggpcfmfddfjaaW.PrintLast

theorem bring (x n : Int) (h0 : 0 < n) (h1 : n ≤ 1024) (hw : (Lit.int .i64 x).wf = true) : wainscotref00_Bring.f x n = some (x % n) := by
  have hx := bounds_i64 hw
  unfold wainscotref00_Bring.f
  rw [if_neg (by omega)]
  have e0 := Int.emod_nonneg x (show n ≠ 0 by omega)
  have e1 := Int.emod_lt_of_pos x h0
  by_cases h : 0 ≤ x
  · rw [Int.tmod_eq_emod_of_nonneg h, if_neg (by omega)]
  · have ht : Int.tmod x n = if n ∣ x then 0 else x % n - n := by
      rw [Int.tmod_eq_emod]
      by_cases hd : n ∣ x
      · rw [if_pos (.inr hd), if_pos hd]
        have := Int.emod_eq_zero_of_dvd hd
        omega
      · rw [if_neg (by simp [h, hd]), if_neg hd]
        omega
    rw [ht]
    by_cases hd : n ∣ x
    · rw [if_pos hd, if_neg (by omega), Int.emod_eq_zero_of_dvd hd]
    · have : x % n ≠ 0 := fun e => hd (Int.dvd_of_emod_eq_zero e)
      rw [if_neg hd, if_pos (by omega), wrap64_id (by omega) (by omega)]
      congr 1
      omega

theorem shl_tab (t : Int) (h0 : 0 ≤ t) (h1 : t < 4) : al4 (shl .i64 8 t) := by
  have : t = 0 ∨ t = 1 ∨ t = 2 ∨ t = 3 := by omega
  rcases this with rfl | rfl | rfl | rfl <;> decide +kernel

theorem made (a b c : Int) (ha : (Lit.int .i64 a).wf = true) (hb : (Lit.int .i64 b).wf = true) :
    ∃ s l, wainscotlaw20_made.f a b c = some (s, l, 0) ∧ okS s l 0 ∧ (Lit.int .i64 l).wf = true := by
  unfold wainscotlaw20_made.f
  rw [bring a 1024 (by omega) (by omega) ha, bring b 4 (by omega) (by omega) hb]
  simp only [Option.bind_some]
  have e0 := Int.emod_nonneg a (show (1024 : Int) ≠ 0 by omega)
  have e1 := Int.emod_lt_of_pos a (show (0 : Int) < 1024 by omega)
  have f0 := Int.emod_nonneg b (show (4 : Int) ≠ 0 by omega)
  have f1 := Int.emod_lt_of_pos b (show (0 : Int) < 4 by omega)
  rw [if_pos f0, wrap64_id (x := 1 + a % 1024) (by omega) (by omega)]
  have hl := shl_tab (b % 4) f0 f1
  refine ⟨_, _, rfl, ⟨hl, by omega, by omega, by omega, by omega⟩, ?_⟩
  unfold al4 at hl
  rcases hl with h | h | h | h <;> rw [h] <;> decide

theorem srv_self {a b : Int} (h : okS a b 0) : srv a b 0 a b 0 = true := srv_iff.2 ⟨h, h, rfl, rfl, rfl, Int.emod_self⟩

theorem srv_trans {a b c d e f : Int} (h : srv a b 0 c d 0 = true) (k : srv c d 0 e f 0 = true) : srv a b 0 e f 0 = true := by
  have h := srv_iff.1 h
  have k := srv_iff.1 k
  refine srv_iff.2 ⟨h.1, k.2.1, rfl, rfl, h.2.2.2.2.1.trans k.2.2.2.2.1, ?_⟩
  exact Int.emod_eq_zero_of_dvd (Int.dvd_trans (Int.dvd_of_emod_eq_zero k.2.2.2.2.2) (Int.dvd_of_emod_eq_zero h.2.2.2.2.2))

theorem order (a0 a1 a2 b0 b1 b2 c0 c1 c2 : Int) (wa0 : (Lit.int .i64 a0).wf = true) (wa1 : (Lit.int .i64 a1).wf = true) (wb0 : (Lit.int .i64 b0).wf = true) (wb1 : (Lit.int .i64 b1).wf = true)
    (wc0 : (Lit.int .i64 c0).wf = true) (wc1 : (Lit.int .i64 c1).wf = true) : wainscotlaw20_AliasOrder.f 13 a0 a1 a2 b0 b1 b2 c0 c1 c2 = some true := by
  obtain ⟨s, l, e1, o1, w1⟩ := made a0 a1 a2 wa0 wa1
  obtain ⟨t, m, e2, o2, w2⟩ := made b0 b1 b2 wb0 wb1
  obtain ⟨u, n, e3, o3, w3⟩ := made c0 c1 c2 wc0 wc1
  unfold wainscotlaw20_AliasOrder.f
  rw [e1, e2, e3]
  simp only [Option.bind_some]
  rw [aServes 12 s l 0 t m 0 w1 w2, aServes 12 t m 0 u n 0 w2 w3]
  simp only [Option.bind_some, wainscotlaw20_AliasOrder.j0]
  rw [aServes 11 s l 0 s l 0 w1 w1, aServes 11 s l 0 u n 0 w1 w3, aCheck s l 0 w1, works12, srv_self o1, err_zero.2 o1]
  simp only [Option.bind_some, if_true]
  by_cases h1 : srv s l 0 t m 0 = true
  · rw [if_pos h1]
    by_cases h2 : srv t m 0 u n 0 = true
    · rw [if_pos h2, if_pos (srv_trans h1 h2)]
    · rw [if_neg h2]
  · rw [if_neg h1]
    simp

end Go.Proofs.Ytfggpcfmfddfjaa.Pl
namespace Go.Proofs.Ytfggpcfmfddfjaa.Pure
theorem AliasOrder (a0 a1 a2 b0 b1 b2 c0 c1 c2 : Int) (h0 : (Lit.int .i64 a0).wf = true) (h1 : (Lit.int .i64 a1).wf = true) (_ : (Lit.int .i64 a2).wf = true) (h3 : (Lit.int .i64 b0).wf = true) (h4 : (Lit.int .i64 b1).wf = true) (_ : (Lit.int .i64 b2).wf = true)
    (h6 : (Lit.int .i64 c0).wf = true) (h7 : (Lit.int .i64 c1).wf = true) (_ : (Lit.int .i64 c2).wf = true) :
    ∃ k, G.wainscotlaw20_AliasOrder.f k a0 a1 a2 b0 b1 b2 c0 c1 c2 = some true := ⟨13, Pl.order a0 a1 a2 b0 b1 b2 c0 c1 c2 h0 h1 h3 h4 h6 h7⟩
end Go.Proofs.Ytfggpcfmfddfjaa.Pure
