/- What the document's Pack and Counts answer, in plain numbers; a word and its counts; Pack and Counts of the program and of the document agree. -/
import Derived.Test.YtfhjpefedlaacaaPlW
import Derived.Test.YtfhjpefedlaacaaG4
namespace Go.Proofs.Ytfhjpefedlaacaa.Pl
open Go.RowKit Go.Proofs.Ytfhjpefedlaacaa.G Go.Proofs.YtfhjpefedlaacaaW.PrintWords Go.Proofs.YtfhjpefedlaacaaW.PrintLast

theorem mayR_eq (i n : Int) (f l : Bool) : mayR i n f l = decide (mayC i n f l) := by
  rw [Bool.eq_iff_iff, decide_eq_true_eq]
  unfold mayR mayC
  cases f <;> cases l <;> simp

theorem rPack (i n : Int) (f l : Bool) : wainscotref17_Pack.f i n f l = some (packV i n f l) := by
  unfold wainscotref17_Pack.f packV wainscotref17_may.f
  rw [mayR_eq]
  simp only [Option.bind_some, decide_eq_true_eq]
  by_cases h : mayC i n f l
  · rw [if_pos h, if_pos h]
    have b := mayC_bounds h
    unfold word
    rw [wrapu_id (x := i) (by omega) (by omega), wrapu_id (x := n) (by omega) (by omega), wrapu_id (x := 256 * n) (by omega) (by omega), wrapu_id (x := i + 256 * n) (by omega) (by omega), wrapu_id (x := i + 256 * n + 65536) (by omega) (by omega), wrapu_id (x := i + 256 * n + 65536 + 131072) (by omega) (by omega), wrapu_id (x := i + 256 * n + 131072) (by omega) (by omega)]
    cases f <;> cases l <;> simp
  · rw [if_neg h, if_neg h]

theorem rCounts (w : Int) (h0 : 0 ≤ w) (h1 : w < 18446744073709551616) : wainscotref17_Counts.f w = some (countsV w) := by
  unfold wainscotref17_Counts.f countsV
  rw [Int.tmod_eq_emod_of_nonneg (a := w) h0, Int.tdiv_eq_ediv_of_nonneg (a := w) h0, Int.tdiv_eq_ediv_of_nonneg (a := w) h0, Int.tdiv_eq_ediv_of_nonneg (a := w) h0, wrapu_id (x := w / 256) (by omega) (by omega), wrapu_id (x := w / 65536) (by omega) (by omega), wrapu_id (x := w / 131072) (by omega) (by omega),
    Int.tmod_eq_emod_of_nonneg (a := w / 256) (by omega), Int.tmod_eq_emod_of_nonneg (a := w / 65536) (by omega), Int.tmod_eq_emod_of_nonneg (a := w / 131072) (by omega), wrap64_id (x := w % 256) (by omega) (by omega), wrap64_id (x := w / 256 % 256) (by omega) (by omega)]
  have e3 : (w / 65536 % 2 == 1) = decide (w / 65536 % 2 = 1) := rfl
  have e4 : (w / 131072 % 2 == 1) = decide (w / 131072 % 2 = 1) := rfl
  rw [e3, e4, rPack]
  simp only [Option.bind_some]
  unfold packV
  by_cases hm : mayC (w % 256) (w / 256 % 256) (decide (w / 65536 % 2 = 1)) (decide (w / 131072 % 2 = 1))
  · rw [if_pos hm]
    simp only [if_true]
    have hword : word (w % 256) (w / 256 % 256) (decide (w / 65536 % 2 = 1)) (decide (w / 131072 % 2 = 1)) = w % 262144 := by
      unfold word
      by_cases a : w / 65536 % 2 = 1 <;> by_cases b : w / 131072 % 2 = 1 <;> simp only [a, b, decide_true, decide_false, if_true, if_false, Bool.false_eq_true] <;> omega
    rw [hword]
    by_cases hw : w < 262144
    · rw [if_pos (c := w % 262144 = w) (by omega), if_pos ⟨hw, hm⟩]
    · rw [if_neg (c := w % 262144 = w) (by omega), if_neg (fun h => hw h.1)]
  · rw [if_neg hm]
    simp only
    rw [if_neg (by omega), if_neg (fun h => hm h.2)]

theorem packV_bounds (i n : Int) (f l : Bool) : 0 ≤ (packV i n f l).1 ∧ (packV i n f l).1 < 262144 := by
  unfold packV
  by_cases h : mayC i n f l
  · rw [if_pos h]
    have b := mayC_bounds h
    unfold word
    cases f <;> cases l <;> simp <;> omega
  · rw [if_neg h]; simp

theorem packsStep (k : Nat) (w a x : Int) (hw0 : 0 ≤ w) (hw1 : w < 18446744073709551616) (ha0 : 0 ≤ a) (ha1 : a < 18446744073709551616) (hx0 : 0 ≤ x) (hx1 : x < 3) :
    wainscotlaw17_CountPacks.l0 (k + 1) w a x = wainscotlaw17_CountPacks.l0 k w a (x + 1) := by
  have hm : Int.tmod w 262144 = w % 262144 := Int.tmod_eq_emod_of_nonneg hw0
  have key : ∀ v, 0 ≤ v → v < 18446744073709551616 → rd [w, Int.tmod w 262144, a] x = v → wainscotlaw17_CountPacks.l0 (k + 1) w a x = wainscotlaw17_CountPacks.l0 k w a (x + 1) := by
    intro v v0 v1 e
    simp only [wainscotlaw17_CountPacks.l0]
    rw [if_pos hx1]
    simp only [Option.bind_some]
    rw [if_pos hx0, if_pos (by simp; omega), e, aCounts v v0 v1, rCounts v v0 v1, wrap64_id (x := x + 1) (by omega) (by omega)]
    simp
  have : x = 0 ∨ x = 1 ∨ x = 2 := by omega
  rcases this with rfl | rfl | rfl
  · exact key w hw0 hw1 rfl
  · exact key (w % 262144) (by omega) (by omega) hm
  · exact key a ha0 ha1 rfl

theorem packs (i n : Int) (f l : Bool) (w : Int) (hw0 : 0 ≤ w) (hw1 : w < 18446744073709551616) : wainscotlaw17_CountPacks.f 7 i n f l w = some true := by
  unfold wainscotlaw17_CountPacks.f
  rw [aPack, rPack]
  simp only [Option.bind_some, if_true]
  obtain ⟨b0, b1⟩ := packV_bounds i n f l
  generalize (packV i n f l).1 = a at b0 b1 ⊢
  simp only [wainscotlaw17_CountPacks.j0, bne_self_eq_false]
  rw [if_neg (by simp), packsStep 5 w a 0 hw0 hw1 b0 (by omega) (by omega) (by omega), packsStep 4 w a (0 + 1) hw0 hw1 b0 (by omega) (by omega) (by omega), packsStep 3 w a (0 + 1 + 1) hw0 hw1 b0 (by omega) (by omega) (by omega)]
  simp only [wainscotlaw17_CountPacks.l0]
  rw [if_neg (by omega), works2]
  rfl

end Go.Proofs.Ytfhjpefedlaacaa.Pl
namespace Go.Proofs.Ytfhjpefedlaacaa.Pure
theorem CountPacks (i n : Int) (f l : Bool) (w : Int) (_ : (Lit.int .i64 i).wf = true) (_ : (Lit.int .i64 n).wf = true) (hw : (Lit.int .u64 w).wf = true) :
    ∃ k, G.wainscotlaw17_CountPacks.f k i n f l w = some true := ⟨7, by have b := Go.bounds_u64 hw; exact Pl.packs i n f l w (by omega) (by omega)⟩
end Go.Proofs.Ytfhjpefedlaacaa.Pure
