/- What Go functions of the seat compute: each as a plain Lean function, and that its call answers just that. Written by a program of this session (wip/own_print.py). -/
import Derived.Test.YtanolcldeeglmaaG0
namespace Go.Proofs.Ytanolcldeeglmaa.G
open Go.RowKit Go.Proofs.YtanolcldeeglmaaW.PrintWords Go.Proofs.YtanolcldeeglmaaW.PrintLast Go.Proofs.YtanolcldeeglmaaW.PrintMore
attribute [local go_sem] max2_int min2_int max_two min_two max_three min_three max_four min_four   -- for this text's walks alone
set_option linter.unusedVariables false
set_option linter.unusedSimpArgs false

/-! ### layout_up_int: function 16 -/
def layout_up_int.f (a0 : Int) (a1 : Int) : Option (Int) := if a1 = 0 then (none) else (some (wrap64 ((wrap64 (Int.tdiv (wrap64 ((wrap64 (a0 + a1)) - 1)) a1)) * a1)))
set_option maxHeartbeats 8000000 in
set_option maxRecDepth 100000 in
theorem layout_up_int.calls (a0 : Int) (a1 : Int) (r : Int) (w : World) (h : layout_up_int.f a0 a1 = some r) :
    Calls Try.prog 16 #[.int .i64 a0, .int .i64 a1] w fun e w' => e = .returned (.int .i64 r) ∧ Drawn0 w w' := by
  have H : (if a1 = 0 then (none) else (some (wrap64 ((wrap64 (Int.tdiv (wrap64 ((wrap64 (a0 + a1)) - 1)) a1)) * a1)))) = some r := h
  clear h
  by_cases c3 : a1 = 0
  · rw [if_pos c3] at H
    exact absurd H (by simp)
  · rw [if_neg c3] at H
    have c3b0 : (a1 == 0) = false := beq_eq_false_iff_ne.mpr c3
    have c3b1 : (a1 != 0) = true := bne_iff_ne.mpr c3
    obtain rfl := Option.some.inj H
    go_enter Try.func16, Try.ntmps16
    go_wp2
    go_ret
    exact ⟨by first | rfl | (simp; done) | (simp [*]; done), by repeat (first | exact Drawn0.refl _ | apply Drawn0.step)⟩

/-! ### layout_slab: function 17 -/
def layout_slab.f (a0_0 : Int) (a0_1 : Int) (a0_2 : Int) (a0_3 : Int) (a0_4 : Int) (a0_5 : Int) (a0_6 : Int) (a1 : Int) : Option (Int × Int × Int × Int × Int × Int × Int) := if 0 ≤ a1 then (if a0_2 = 0 then (none) else (some (a0_0, a0_1, a0_2, a0_3, a1, mn (wrap64 (Int.tdiv (shl .i64 256 a1) a0_2)) 16, wrap64 ((shl .i64 256 a1) - (wrap64 ((mn (wrap64 (Int.tdiv (shl .i64 256 a1) a0_2)) 16) * a0_2)))))) else (none)
set_option maxHeartbeats 8000000 in
set_option maxRecDepth 100000 in
theorem layout_slab.calls (a0_0 : Int) (a0_1 : Int) (a0_2 : Int) (a0_3 : Int) (a0_4 : Int) (a0_5 : Int) (a0_6 : Int) (a1 : Int) (r1 : Int) (r2 : Int) (r3 : Int) (r4 : Int) (r5 : Int) (r6 : Int) (r7 : Int) (w : World) (h : layout_slab.f a0_0 a0_1 a0_2 a0_3 a0_4 a0_5 a0_6 a1 = some (r1, r2, r3, r4, r5, r6, r7)) :
    Calls Try.prog 17 #[.agg #[.int .i64 a0_0, .int .i64 a0_1, .int .i64 a0_2, .int .i64 a0_3, .int .i64 a0_4, .int .i64 a0_5, .int .i64 a0_6], .int .i64 a1] w fun e w' => e = .returned (.agg #[.int .i64 r1, .int .i64 r2, .int .i64 r3, .int .i64 r4, .int .i64 r5, .int .i64 r6, .int .i64 r7]) ∧ Below w.heap.size w w' := by
  have hu23 := Try.underlying23
  have HB := Aside0.mk (Below.refl w.heap.size w)
  have H : (if 0 ≤ a1 then (if a0_2 = 0 then (none) else (some (a0_0, a0_1, a0_2, a0_3, a1, mn (wrap64 (Int.tdiv (shl .i64 256 a1) a0_2)) 16, wrap64 ((shl .i64 256 a1) - (wrap64 ((mn (wrap64 (Int.tdiv (shl .i64 256 a1) a0_2)) 16) * a0_2)))))) else (none)) = some (r1, r2, r3, r4, r5, r6, r7) := h
  clear h
  by_cases c3 : 0 ≤ a1
  · rw [if_pos c3] at H
    have c3b0 := eq_true c3
    have c3b1 : decide (0 ≤ a1) = true := decide_eq_true c3
    clear c3
    obtain ⟨ji4, hji4⟩ : ∃ j_ : Int, (shl .i64 256 a1) = j_ := ⟨_, rfl⟩
    replace H : (if a0_2 = 0 then (none) else (some (a0_0, a0_1, a0_2, a0_3, a1, mn (wrap64 (Int.tdiv (ji4) a0_2)) 16, wrap64 ((ji4) - (wrap64 ((mn (wrap64 (Int.tdiv (ji4) a0_2)) 16) * a0_2)))))) = some (r1, r2, r3, r4, r5, r6, r7) := by first | (rw [hji4] at H; exact H) | (simp only [hji4] at H ⊢; exact H)
    have hji4_ : (IntKind.i64.wrap (256 * 2 ^ min a1.toNat 64)) = ji4 := hji4
    have hji4z : a1 ≤ 64 → (IntKind.i64.wrap (256 * 2 ^ a1.toNat)) = ji4 := shl_small hji4
    have hji4y : (wrap64 (256 * 2 ^ min a1.toNat 64)) = ji4 := (i64_w _).symm.trans hji4_
    have hji4x : a1 ≤ 64 → (wrap64 (256 * 2 ^ a1.toNat)) = ji4 := fun h_ => (i64_w _).symm.trans (hji4z h_)
    by_cases c5 : a0_2 = 0
    · rw [if_pos c5] at H
      exact absurd H (by simp)
    · rw [if_neg c5] at H
      have c5b0 : (a0_2 == 0) = false := beq_eq_false_iff_ne.mpr c5
      have c5b1 : (a0_2 != 0) = true := bne_iff_ne.mpr c5
      obtain ⟨ji6, hji6⟩ : ∃ j_ : Int, (mn (wrap64 (Int.tdiv (ji4) a0_2)) 16) = j_ := ⟨_, rfl⟩
      replace H : (some (a0_0, a0_1, a0_2, a0_3, a1, ji6, wrap64 ((ji4) - (wrap64 ((ji6) * a0_2))))) = some (r1, r2, r3, r4, r5, r6, r7) := by first | (rw [hji6] at H; exact H) | (simp only [hji6] at H ⊢; exact H)
      have hji6_ : (if 16 < (wrap64 (Int.tdiv (ji4) a0_2)) then 16 else (wrap64 (Int.tdiv (ji4) a0_2))) = ji6 := hji6
      simp only [Option.some.injEq, Prod.mk.injEq] at H
      obtain ⟨rfl, rfl, rfl, rfl, rfl, rfl, rfl⟩ := H
      go_enter Try.func17, Try.ntmps17
      go_wp2_with (first | ((with_reducible refine gate_dst (N := 2) rfl ?_); refine box_event ?hg (N := 2) ?hd (cs := #[.int .i64 a0_0, .int .i64 a0_1, .int .i64 a0_2, .int .i64 a0_3, .int .i64 a0_4, .int .i64 a0_5, .int .i64 a0_6]) (t := 23) ?hr ?_; (case hd => rfl); (case hg => rfl); (case hr => first | (go_simp; done) | (go_simp; rfl)); intro gb101 hg w7 hbox hb; have n0_ := Aside0.mk (below_step (by repeat (first | (with_reducible first | exact HB.out | apply below_alloc | apply pw_below_drewN | apply below_drew1) | exact HB.out)) hb); have n1_ := Aside0.mk (hbox); have n2_ := Aside0.mk ((by rw [hg]; exact (below_size (by repeat (first | (with_reducible first | exact HB.out | apply below_alloc | apply pw_below_drewN | apply below_drew1) | exact HB.out))) : w.heap.size ≤ gb101)); have n3_ := Aside0.mk ((by rw [hg]; exact (below_size (by repeat (first | (with_reducible first | exact HB.out | apply below_alloc | apply pw_below_drewN | apply below_drew1) | exact HB.out))) : w.heap.size ≤ gb101)); clear HB; have HB := n0_; have BK101 := n1_; have GW101 := n2_; have GE101 := n3_; clear n0_ n1_ n2_ n3_; clear hb hbox hg) | ((with_reducible refine gate_dst (N := 4) rfl ?_); refine box_event ?hg (N := 4) ?hd (cs := #[.int .i64 0, .int .i64 0, .int .i64 0, .int .i64 0, .int .i64 0, .int .i64 0, .int .i64 0]) (t := 23) ?hr ?_; (case hd => rfl); (case hg => rfl); (case hr => first | (go_simp; done) | (go_simp; rfl)); intro gb102 hg w8 hbox hb; have n0_ := Aside0.mk (blk_below (g := gb101) (o := .cells #[.int .i64 a0_0, .int .i64 a0_1, .int .i64 a0_2, .int .i64 a0_3, .int .i64 a0_4, .int .i64 a0_5, .int .i64 a0_6] 23 (0, 0)) (by (with_reducible repeat (first | refine blk_drewN ?_ _ | refine blk_drew ?_ | refine blk_alloc ?_ _)); exact BK101.out) hb); have n1_ := Aside0.mk (below_step (by repeat (first | (with_reducible first | exact HB.out | apply below_alloc | apply pw_below_drewN | apply below_drew1 | refine below_set ?_ GE101.out) | exact HB.out)) hb); have n2_ := Aside0.mk (hbox); have n3_ := Aside0.mk ((by rw [hg]; exact (below_size (by repeat (first | (with_reducible first | exact HB.out | apply below_alloc | apply pw_below_drewN | apply below_drew1 | refine below_set ?_ GE101.out) | exact HB.out))) : w.heap.size ≤ gb102)); have n4_ := Aside0.mk ((by rw [hg]; exact (below_size (by repeat (first | (with_reducible first | exact HB.out | apply below_alloc | apply pw_below_drewN | apply below_drew1 | refine below_set ?_ GE101.out) | exact HB.out))) : w.heap.size ≤ gb102)); have n5_ := Aside0.mk ((by rw [hg]; exact Nat.ne_of_lt (blk_lt (g := gb101) (o := .cells #[.int .i64 a0_0, .int .i64 a0_1, .int .i64 a0_2, .int .i64 a0_3, .int .i64 a0_4, .int .i64 a0_5, .int .i64 a0_6] 23 (0, 0)) (by (with_reducible repeat (first | refine blk_drewN ?_ _ | refine blk_drew ?_ | refine blk_alloc ?_ _)); exact BK101.out)) : gb101 ≠ gb102)); have n6_ := Aside0.mk ((by rw [hg]; exact Nat.ne_of_gt (blk_lt (g := gb101) (o := .cells #[.int .i64 a0_0, .int .i64 a0_1, .int .i64 a0_2, .int .i64 a0_3, .int .i64 a0_4, .int .i64 a0_5, .int .i64 a0_6] 23 (0, 0)) (by (with_reducible repeat (first | refine blk_drewN ?_ _ | refine blk_drew ?_ | refine blk_alloc ?_ _)); exact BK101.out)) : gb102 ≠ gb101)); clear BK101; clear HB; have BK101 := n0_; have HB := n1_; have BK102 := n2_; have GW102 := n3_; have GE102 := n4_; have NB101_102 := n5_; have NB102_101 := n6_; clear n0_ n1_ n2_ n3_ n4_ n5_ n6_; clear hb hbox hg; have hnb9 := NB101_102.out; have hnc9 := NB102_101.out; have hcz10_0 : w8.cell? ⟨gb101, 0, none⟩ = some (.int .i64 a0_0) := (blk_cell BK101.out 0).trans rfl; have hcz10_1 : w8.cell? ⟨gb101, 1, none⟩ = some (.int .i64 a0_1) := (blk_cell BK101.out 1).trans rfl; have hcz10_2 : w8.cell? ⟨gb101, 2, none⟩ = some (.int .i64 a0_2) := (blk_cell BK101.out 2).trans rfl; have hcz10_3 : w8.cell? ⟨gb101, 3, none⟩ = some (.int .i64 a0_3) := (blk_cell BK101.out 3).trans rfl; have hcz10_4 : w8.cell? ⟨gb101, 4, none⟩ = some (.int .i64 a0_4) := (blk_cell BK101.out 4).trans rfl; have hcz10_5 : w8.cell? ⟨gb101, 5, none⟩ = some (.int .i64 a0_5) := (blk_cell BK101.out 5).trans rfl; have hcz10_6 : w8.cell? ⟨gb101, 6, none⟩ = some (.int .i64 a0_6) := (blk_cell BK101.out 6).trans rfl; have hfz10_0 := blk_frozen BK101.out 0; have hfz10_1 := blk_frozen BK101.out 1; have hfz10_2 := blk_frozen BK101.out 2; have hfz10_3 := blk_frozen BK101.out 3; have hfz10_4 := blk_frozen BK101.out 4; have hfz10_5 := blk_frozen BK101.out 5; have hfz10_6 := blk_frozen BK101.out 6; have hcz11_0 : w8.cell? ⟨gb102, 0, none⟩ = some (.int .i64 0) := (blk_cell BK102.out 0).trans rfl; have hcz11_1 : w8.cell? ⟨gb102, 1, none⟩ = some (.int .i64 0) := (blk_cell BK102.out 1).trans rfl; have hcz11_2 : w8.cell? ⟨gb102, 2, none⟩ = some (.int .i64 0) := (blk_cell BK102.out 2).trans rfl; have hcz11_3 : w8.cell? ⟨gb102, 3, none⟩ = some (.int .i64 0) := (blk_cell BK102.out 3).trans rfl; have hcz11_4 : w8.cell? ⟨gb102, 4, none⟩ = some (.int .i64 0) := (blk_cell BK102.out 4).trans rfl; have hcz11_5 : w8.cell? ⟨gb102, 5, none⟩ = some (.int .i64 0) := (blk_cell BK102.out 5).trans rfl; have hcz11_6 : w8.cell? ⟨gb102, 6, none⟩ = some (.int .i64 0) := (blk_cell BK102.out 6).trans rfl; have hfz11_0 := blk_frozen BK102.out 0; have hfz11_1 := blk_frozen BK102.out 1; have hfz11_2 := blk_frozen BK102.out 2; have hfz11_3 := blk_frozen BK102.out 3; have hfz11_4 := blk_frozen BK102.out 4; have hfz11_5 := blk_frozen BK102.out 5; have hfz11_6 := blk_frozen BK102.out 6))
      refine bodyPost_ret (results_cell_row rfl _ _ gb102 23 #[.int .i64 a0_0, .int .i64 a0_1, .int .i64 a0_2, .int .i64 a0_3, .int .i64 a1, .int .i64 ji6, .int .i64 (wrap64 ((ji4) - (wrap64 ((ji6) * a0_2))))] (0, 0) _ rfl (by (with_reducible repeat (first | refine blk_drewN ?_ _ | refine blk_drew ?_ | refine blk_alloc ?_ _)); refine blk_put (cs := #[.int .i64 a0_0, .int .i64 a0_1, .int .i64 a0_2, .int .i64 a0_3, .int .i64 a1, .int .i64 ji6, .int .i64 0]) ?_ 6 _ rfl; (with_reducible repeat (first | refine blk_drewN ?_ _ | refine blk_drew ?_ | refine blk_alloc ?_ _)); refine blk_put (cs := #[.int .i64 a0_0, .int .i64 a0_1, .int .i64 a0_2, .int .i64 a0_3, .int .i64 a1, .int .i64 0, .int .i64 0]) ?_ 5 _ rfl; (with_reducible repeat (first | refine blk_drewN ?_ _ | refine blk_drew ?_ | refine blk_alloc ?_ _)); refine blk_put (cs := #[.int .i64 a0_0, .int .i64 a0_1, .int .i64 a0_2, .int .i64 a0_3, .int .i64 0, .int .i64 0, .int .i64 0]) ?_ 4 _ rfl; (with_reducible repeat (first | refine blk_drewN ?_ _ | refine blk_drew ?_ | refine blk_alloc ?_ _)); refine blk_put (cs := #[.int .i64 a0_0, .int .i64 a0_1, .int .i64 a0_2, .int .i64 0, .int .i64 0, .int .i64 0, .int .i64 0]) ?_ 3 _ rfl; (with_reducible repeat (first | refine blk_drewN ?_ _ | refine blk_drew ?_ | refine blk_alloc ?_ _)); refine blk_put (cs := #[.int .i64 a0_0, .int .i64 a0_1, .int .i64 0, .int .i64 0, .int .i64 0, .int .i64 0, .int .i64 0]) ?_ 2 _ rfl; (with_reducible repeat (first | refine blk_drewN ?_ _ | refine blk_drew ?_ | refine blk_alloc ?_ _)); refine blk_put (cs := #[.int .i64 a0_0, .int .i64 0, .int .i64 0, .int .i64 0, .int .i64 0, .int .i64 0, .int .i64 0]) ?_ 1 _ rfl; (with_reducible repeat (first | refine blk_drewN ?_ _ | refine blk_drew ?_ | refine blk_alloc ?_ _)); refine blk_put (cs := #[.int .i64 0, .int .i64 0, .int .i64 0, .int .i64 0, .int .i64 0, .int .i64 0, .int .i64 0]) ?_ 0 _ rfl; (with_reducible repeat (first | refine blk_drewN ?_ _ | refine blk_drew ?_ | refine blk_alloc ?_ _)); refine blk_far ?_ NB102_101.out _; (with_reducible repeat (first | refine blk_drewN ?_ _ | refine blk_drew ?_ | refine blk_alloc ?_ _)); refine blk_far ?_ NB102_101.out _; (with_reducible repeat (first | refine blk_drewN ?_ _ | refine blk_drew ?_ | refine blk_alloc ?_ _)); refine blk_far ?_ NB102_101.out _; (with_reducible repeat (first | refine blk_drewN ?_ _ | refine blk_drew ?_ | refine blk_alloc ?_ _)); exact BK102.out) Try.underlying23 rfl (by kernel_rfl)) rfl ?_
      exact ⟨by first | rfl | (simp [errW_none, errW_some] <;> rfl) | (simp only [← hji4, ← hji6]; first | rfl | (simp [errW_none, errW_some] <;> rfl)) | (simp [*, errW_none, errW_some] <;> rfl), by repeat (first | (with_reducible first | exact HB.out | apply below_alloc | apply pw_below_drewN | apply below_drew1 | refine below_set ?_ GE101.out | refine below_set ?_ GE102.out) | exact HB.out)⟩
  · rw [if_neg c3] at H
    exact absurd H (by simp)

/-! ### layout_Of: function 8: given, by hand -/
/-! what Of computes: offset, step, then the four orders -/
def layout_Of.off (a1 : Int) (g : Bool) : Int := if g = true then (8 + a1 - 1) / a1 * a1 else 0
def layout_Of.num (a0 a1 : Int) (g : Bool) : Int := if g = true then a0 + (layout_Of.off a1 g + 8) else a0
def layout_Of.stp (a0 a1 : Int) (g : Bool) : Int := (layout_Of.num a0 a1 g + mx 8 a1 - 1) / mx 8 a1 * mx 8 a1
def layout_Of.byt (i : Int) : Int := 256 * 2 ^ i.toNat
def layout_Of.ob (st i : Int) : Int := if 16 < layout_Of.byt i / st then 16 else layout_Of.byt i / st
def layout_Of.ws (st i : Int) : Int := layout_Of.byt i - layout_Of.ob st i * st
def layout_Of.sc (a0 a1 st off : Int) : Nat → Int → Bool → Int → Int → Int → Int × Int × Int × Int × Int × Int × Int × Int
  | 0, _, fd, o1, o2, o3 => if fd = true then (a0, a1, st, off, o1, o2, o3, 0) else (0, 0, 0, 0, 0, 0, 0, 150)
  | d + 1, i, fd, o1, o2, o3 => if layout_Of.ob st i = 0 then layout_Of.sc a0 a1 st off d (i + 1) fd o1 o2 o3 else if layout_Of.ws st i * 8 ≤ layout_Of.byt i then (a0, a1, st, off, i, layout_Of.ob st i, layout_Of.ws st i, 0) else if fd = true then layout_Of.sc a0 a1 st off d (i + 1) fd o1 o2 o3 else layout_Of.sc a0 a1 st off d (i + 1) true i (layout_Of.ob st i) (layout_Of.ws st i)
def layout_Of.bad (a0 a1 : Int) : Prop := a0 < 1 ∨ a0 > 2048 ∨ a1 < 1 ∨ a1 > 64 ∨ Go.bits .and .i64 a1 (a1 - 1) ≠ 0
instance (a0 a1 : Int) : Decidable (layout_Of.bad a0 a1) := by unfold layout_Of.bad; infer_instance
def layout_Of.f (a0 a1 : Int) (a2 : Bool) : Option (Int × Int × Int × Int × Int × Int × Int × Int) := if layout_Of.bad a0 a1 then some (0, 0, 0, 0, 0, 0, 0, 2) else some (layout_Of.sc a0 a1 (layout_Of.stp a0 a1 a2) (layout_Of.off a1 a2) 4 0 false 0 0 0)
theorem layout_Of.w64 {x : Int} (h0 : -9223372036854775808 ≤ x) (h1 : x ≤ 9223372036854775807) : wrap64 x = x := by
  unfold wrap64; omega
/-- A number, rounded up to a multiple. -/
theorem layout_Of.up_bounds (n m : Int) (hm : 1 ≤ m) : n ≤ (n + m - 1) / m * m ∧ (n + m - 1) / m * m ≤ n + m - 1 := by
  have h1 := Int.mul_ediv_add_emod (n + m - 1) m
  have h2 := Int.emod_nonneg (n + m - 1) (show m ≠ 0 by omega)
  have h3 := Int.emod_lt_of_pos (n + m - 1) (show 0 < m by omega)
  have h4 : (n + m - 1) / m * m = m * ((n + m - 1) / m) := Int.mul_comm _ _
  omega
theorem layout_Of.up_eq (n m : Int) (hm : 1 ≤ m) (hm2 : m ≤ 64) (hn : 1 ≤ n) (hn2 : n ≤ 4096) : layout_up_int.f n m = some ((n + m - 1) / m * m) := by
  have hb := layout_Of.up_bounds n m hm
  unfold layout_up_int.f
  rw [if_neg (by omega), layout_Of.w64 (x := n + m) (by omega) (by omega), layout_Of.w64 (x := n + m - 1) (by omega) (by omega), Int.tdiv_eq_ediv_of_nonneg (by omega)]
  have h5 : 0 ≤ (n + m - 1) / m := Int.ediv_nonneg (by omega) (by omega)
  have h6 : (n + m - 1) / m ≤ n + m - 1 := Int.ediv_le_self _ (by omega)
  rw [layout_Of.w64 (x := (n + m - 1) / m) (by omega) (by omega), layout_Of.w64 (by omega) (by omega)]
theorem layout_Of.byt_cases {i : Int} (h0 : 0 ≤ i) (h4 : i < 4) : shl .i64 256 i = layout_Of.byt i ∧ 256 ≤ layout_Of.byt i ∧ layout_Of.byt i ≤ 2048 := by
  have : i = 0 ∨ i = 1 ∨ i = 2 ∨ i = 3 := by omega
  rcases this with rfl | rfl | rfl | rfl <;> decide +kernel
theorem layout_Of.ob_bounds {st i : Int} (hs : 1 ≤ st) (h0 : 0 ≤ i) (h4 : i < 4) : 0 ≤ layout_Of.ob st i ∧ layout_Of.ob st i ≤ 16 ∧ 0 ≤ layout_Of.ob st i * st ∧ layout_Of.ob st i * st ≤ layout_Of.byt i := by
  have hb := layout_Of.byt_cases h0 h4
  have q0 : 0 ≤ layout_Of.byt i / st := Int.ediv_nonneg (by omega) (by omega)
  have q1 : layout_Of.byt i / st * st ≤ layout_Of.byt i := Int.ediv_mul_le _ (by omega)
  unfold layout_Of.ob
  split
  · next h =>
    have : 16 * st ≤ layout_Of.byt i / st * st := Int.mul_le_mul_of_nonneg_right (by omega) (by omega)
    exact ⟨by omega, by omega, by omega, by omega⟩
  · have : 0 ≤ layout_Of.byt i / st * st := Int.mul_nonneg q0 (by omega)
    exact ⟨q0, by omega, this, q1⟩
theorem layout_Of.slab_eq (a0 a1 st off i : Int) (hs : 1 ≤ st) (h0 : 0 ≤ i) (h4 : i < 4) : layout_slab.f a0 a1 st off 0 0 0 i = some (a0, a1, st, off, i, layout_Of.ob st i, layout_Of.ws st i) := by
  have hb := layout_Of.byt_cases h0 h4
  have q0 : 0 ≤ layout_Of.byt i / st := Int.ediv_nonneg (by omega) (by omega)
  have q1 : layout_Of.byt i / st ≤ layout_Of.byt i := Int.ediv_le_self _ (by omega)
  have ho := layout_Of.ob_bounds hs h0 h4
  unfold layout_slab.f
  rw [if_pos h0, if_neg (by omega), hb.1, Int.tdiv_eq_ediv_of_nonneg (by omega), layout_Of.w64 (x := layout_Of.byt i / st) (by omega) (by omega)]
  have e : mn (layout_Of.byt i / st) 16 = layout_Of.ob st i := rfl
  rw [e, layout_Of.w64 (x := layout_Of.ob st i * st) (by omega) (by omega), layout_Of.w64 (by omega) (by omega)]
  rfl
theorem put7 {w : World} {g : Nat} {x0 x1 x2 x3 x4 x5 x6 a0 a1 a2 a3 a4 a5 a6 : Value} (h : w.heap[g]? = some (.cells #[x0, x1, x2, x3, x4, x5, x6] 23 (0, 0))) :
    (((((((w.setCell ⟨g, 0, none⟩ a0).setCell ⟨g, 1, none⟩ a1).setCell ⟨g, 2, none⟩ a2).setCell ⟨g, 3, none⟩ a3).setCell ⟨g, 4, none⟩ a4).setCell ⟨g, 5, none⟩ a5).setCell ⟨g, 6, none⟩ a6).heap[g]? = some (.cells #[a0, a1, a2, a3, a4, a5, a6] 23 (0, 0)) :=
  blk_put (blk_put (blk_put (blk_put (blk_put (blk_put (blk_put h 0 a0 (cs' := #[a0, x1, x2, x3, x4, x5, x6]) rfl) 1 a1 (cs' := #[a0, a1, x2, x3, x4, x5, x6]) rfl) 2 a2 (cs' := #[a0, a1, a2, x3, x4, x5, x6]) rfl) 3 a3 (cs' := #[a0, a1, a2, a3, x4, x5, x6]) rfl) 4 a4 (cs' := #[a0, a1, a2, a3, a4, x5, x6]) rfl) 5 a5 (cs' := #[a0, a1, a2, a3, a4, a5, x6]) rfl) 6 a6 rfl
theorem dr {w : World} {n g : Nat} {o : Obj} (h : w.heap[g]? = some o) : (w.drewN n).heap[g]? = some o := blk_drewN h _
theorem drb {W w : World} {n : Nat} (h : Below W.heap.size W w) : Below W.heap.size W (w.drewN n) := pw_below_drewN h _
theorem far7 {w : World} {g g2 : Nat} {cs : Array Value} {a0 a1 a2 a3 a4 a5 a6 : Value} (hne : g2 ≠ g) (h : w.heap[g2]? = some (.cells cs 23 (0, 0))) :
    (((((((w.setCell ⟨g, 0, none⟩ a0).setCell ⟨g, 1, none⟩ a1).setCell ⟨g, 2, none⟩ a2).setCell ⟨g, 3, none⟩ a3).setCell ⟨g, 4, none⟩ a4).setCell ⟨g, 5, none⟩ a5).setCell ⟨g, 6, none⟩ a6).heap[g2]? = some (.cells cs 23 (0, 0)) :=
  blk_far (blk_far (blk_far (blk_far (blk_far (blk_far (blk_far h hne _) hne _) hne _) hne _) hne _) hne _) hne _
theorem below7 {W w : World} {g : Nat} {a0 a1 a2 a3 a4 a5 a6 : Value} (h : Below W.heap.size W w) (hg : W.heap.size ≤ g) :
    Below W.heap.size W (((((((w.setCell ⟨g, 0, none⟩ a0).setCell ⟨g, 1, none⟩ a1).setCell ⟨g, 2, none⟩ a2).setCell ⟨g, 3, none⟩ a3).setCell ⟨g, 4, none⟩ a4).setCell ⟨g, 5, none⟩ a5).setCell ⟨g, 6, none⟩ a6) :=
  below_set (below_set (below_set (below_set (below_set (below_set (below_set h hg) hg) hg) hg) hg) hg) hg

set_option maxHeartbeats 8000000 in
set_option maxRecDepth 100000 in
theorem layout_Of.calls (a0 : Int) (a1 : Int) (a2 : Bool) (r1 : Int) (r2 : Int) (r3 : Int) (r4 : Int) (r5 : Int) (r6 : Int) (r7 : Int) (r8 : Int) (w : World) (h : layout_Of.f a0 a1 a2 = some (r1, r2, r3, r4, r5, r6, r7, r8)) :
    Calls Try.prog 8 #[.int .i64 a0, .int .i64 a1, .bool a2] w fun e w' => e = .returned (.tuple #[.agg #[.int .i64 r1, .int .i64 r2, .int .i64 r3, .int .i64 r4, .int .i64 r5, .int .i64 r6, .int .i64 r7], .int .i64 r8]) ∧ Below w.heap.size w w' := by
  have hu23 := Try.underlying23
  have HB := Aside0.mk (Below.refl w.heap.size w)
  unfold layout_Of.f at h
  go_enter Try.func8, Try.ntmps8
  go_upto_region 1 with ((with_reducible refine gate_dst (N := 6) rfl ?_); refine box_event ?hg (N := 6) ?hd (cs := #[.int .i64 0, .int .i64 0, .int .i64 0, .int .i64 0, .int .i64 0, .int .i64 0, .int .i64 0]) (t := 23) ?hr ?_; (case hd => rfl); (case hg => rfl); (case hr => first | (go_simp; done) | (go_simp; rfl)); intro gr hg wgr hbox hb; have HGgr := Aside0.mk hg; have BKgr := Aside0.mk hbox; have HBgr := Aside0.mk hb; clear hg hbox hb; have grc0 := (blk_cell BKgr.out 0).trans rfl; have grc1 := (blk_cell BKgr.out 1).trans rfl; have grc2 := (blk_cell BKgr.out 2).trans rfl; have grc3 := (blk_cell BKgr.out 3).trans rfl; have grc4 := (blk_cell BKgr.out 4).trans rfl; have grc5 := (blk_cell BKgr.out 5).trans rfl; have grc6 := (blk_cell BKgr.out 6).trans rfl; have grf0 := blk_frozen BKgr.out 0; have grf1 := blk_frozen BKgr.out 1; have grf2 := blk_frozen BKgr.out 2; have grf3 := blk_frozen BKgr.out 3; have grf4 := blk_frozen BKgr.out 4; have grf5 := blk_frozen BKgr.out 5; have grf6 := blk_frozen BKgr.out 6)
  have HBr := Aside0.mk (below_step HB.out HBgr.out)
  have GR := Aside0.mk (Nat.le_of_eq HGgr.out.symm)
  by_cases g1 : a0 < 1
  · skip
    rw [if_pos (by unfold layout_Of.bad; omega)] at h
    simp only [Option.some.injEq, Prod.mk.injEq] at h
    obtain ⟨rfl, rfl, rfl, rfl, rfl, rfl, rfl, rfl⟩ := h
    go_wp2
    refine bodyPost_ret (results_ct rfl _ _ gr 23 #[.int .i64 0, .int .i64 0, .int .i64 0, .int .i64 0, .int .i64 0, .int .i64 0, .int .i64 0] (0, 0) _ rfl (put7 BKgr.out) Try.underlying23 rfl (by kernel_rfl)) rfl ?_
    exact ⟨rfl, below7 HBr.out GR.out⟩
  by_cases g2 : a0 > 2048
  · skip
    rw [if_pos (by unfold layout_Of.bad; omega)] at h
    simp only [Option.some.injEq, Prod.mk.injEq] at h
    obtain ⟨rfl, rfl, rfl, rfl, rfl, rfl, rfl, rfl⟩ := h
    go_wp2
    refine bodyPost_ret (results_ct rfl _ _ gr 23 #[.int .i64 0, .int .i64 0, .int .i64 0, .int .i64 0, .int .i64 0, .int .i64 0, .int .i64 0] (0, 0) _ rfl (put7 BKgr.out) Try.underlying23 rfl (by kernel_rfl)) rfl ?_
    exact ⟨rfl, below7 HBr.out GR.out⟩
  by_cases g3 : a1 < 1
  · skip
    rw [if_pos (by unfold layout_Of.bad; omega)] at h
    simp only [Option.some.injEq, Prod.mk.injEq] at h
    obtain ⟨rfl, rfl, rfl, rfl, rfl, rfl, rfl, rfl⟩ := h
    go_wp2
    refine bodyPost_ret (results_ct rfl _ _ gr 23 #[.int .i64 0, .int .i64 0, .int .i64 0, .int .i64 0, .int .i64 0, .int .i64 0, .int .i64 0] (0, 0) _ rfl (put7 BKgr.out) Try.underlying23 rfl (by kernel_rfl)) rfl ?_
    exact ⟨rfl, below7 HBr.out GR.out⟩
  by_cases g4 : a1 > 64
  · skip
    rw [if_pos (by unfold layout_Of.bad; omega)] at h
    simp only [Option.some.injEq, Prod.mk.injEq] at h
    obtain ⟨rfl, rfl, rfl, rfl, rfl, rfl, rfl, rfl⟩ := h
    go_wp2
    refine bodyPost_ret (results_ct rfl _ _ gr 23 #[.int .i64 0, .int .i64 0, .int .i64 0, .int .i64 0, .int .i64 0, .int .i64 0, .int .i64 0] (0, 0) _ rfl (put7 BKgr.out) Try.underlying23 rfl (by kernel_rfl)) rfl ?_
    exact ⟨rfl, below7 HBr.out GR.out⟩
  have ea : wrap64 (a1 - 1) = a1 - 1 := layout_Of.w64 (by omega) (by omega)
  by_cases g5 : Go.bits .and .i64 a1 (a1 - 1) ≠ 0
  · have g5b : (Go.bits .and .i64 a1 (a1 - 1) != 0) = true := bne_iff_ne.mpr g5
    have g5c : (Go.bits .and .i64 a1 (a1 - 1) == 0) = false := beq_eq_false_iff_ne.mpr g5
    rw [if_pos (by unfold layout_Of.bad; exact .inr (.inr (.inr (.inr g5))))] at h
    simp only [Option.some.injEq, Prod.mk.injEq] at h
    obtain ⟨rfl, rfl, rfl, rfl, rfl, rfl, rfl, rfl⟩ := h
    go_wp2
    refine bodyPost_ret (results_ct rfl _ _ gr 23 #[.int .i64 0, .int .i64 0, .int .i64 0, .int .i64 0, .int .i64 0, .int .i64 0, .int .i64 0] (0, 0) _ rfl (put7 BKgr.out) Try.underlying23 rfl (by kernel_rfl)) rfl ?_
    exact ⟨rfl, below7 HBr.out GR.out⟩
  have g5d : Go.bits .and .i64 a1 (a1 - 1) = 0 := Decidable.not_not.mp g5
  clear g5
  have g5b : (Go.bits .and .i64 a1 (a1 - 1) != 0) = false := bne_eq_false_iff_eq.mpr g5d
  have g5c : (Go.bits .and .i64 a1 (a1 - 1) == 0) = true := beq_iff_eq.mpr g5d
  rw [if_neg (by unfold layout_Of.bad; omega)] at h
  have hm1 : mx 8 a1 = (if 8 < a1 then a1 else 8) := rfl
  have hm2 : 8 ≤ mx 8 a1 := by rw [hm1]; split <;> omega
  have hm3 : mx 8 a1 ≤ 64 := by rw [hm1]; split <;> omega
  have ho := layout_Of.up_bounds 8 a1 (by omega)
  have hof : layout_Of.off a1 a2 = (if a2 = true then (8 + a1 - 1) / a1 * a1 else 0) := rfl
  have hof0 : 0 ≤ layout_Of.off a1 a2 := by rw [hof]; split <;> omega
  have hof1 : layout_Of.off a1 a2 ≤ 71 := by rw [hof]; split <;> omega
  have hnu : layout_Of.num a0 a1 a2 = (if a2 = true then a0 + (layout_Of.off a1 a2 + 8) else a0) := rfl
  have hnu0 : 1 ≤ layout_Of.num a0 a1 a2 := by rw [hnu]; split <;> omega
  have hnu1 : layout_Of.num a0 a1 a2 ≤ 2127 := by rw [hnu]; split <;> omega
  have hs := layout_Of.up_bounds (layout_Of.num a0 a1 a2) (mx 8 a1) (by omega)
  have U1 := Aside0.mk (layout_Of.up_eq 8 a1 (by omega) (by omega) (by omega) (by omega))
  have U2 := Aside0.mk (layout_Of.up_eq (layout_Of.num a0 a1 a2) (mx 8 a1) (by omega) hm3 hnu0 (by omega))
  obtain ⟨st, hst⟩ : ∃ st, st = layout_Of.stp a0 a1 a2 := ⟨_, rfl⟩
  have hst' : (layout_Of.num a0 a1 a2 + mx 8 a1 - 1) / mx 8 a1 * mx 8 a1 = st := hst.symm
  rw [hst'] at hs U2
  rw [← hst] at h
  have hst0 : 1 ≤ st := by omega
  have hst1 : st ≤ 2200 := by omega
  obtain ⟨off, hoff⟩ : ∃ off, off = layout_Of.off a1 a2 := ⟨_, rfl⟩
  obtain ⟨nu, hnuu⟩ : ∃ nu, nu = layout_Of.num a0 a1 a2 := ⟨_, rfl⟩
  obtain ⟨mm, hmm⟩ : ∃ mm, mm = mx 8 a1 := ⟨_, rfl⟩
  rw [← hoff] at h hof hof0 hof1 hnu
  rw [← hnuu] at U2 hnu hnu0 hnu1
  rw [← hmm] at U2 hm1 hm2 hm3
  clear hst' hst hs ho hnuu hoff hmm
  have H := Aside0.mk h
  have HOF := Aside0.mk hof
  have HNU := Aside0.mk hnu
  have HM := Aside0.mk hm1
  clear h hof hnu hm1 g5d
  go_upto_region 3 with (fail)
  go_cut [8] (fun v8 wc => ∃ gl : Nat, v8 = .pointer (some ⟨gl, 0, none⟩) ∧ Aside0 (w.heap.size ≤ gl) ∧ Aside0 (gr ≠ gl) ∧ Aside0 (wc.heap[gr]? = some (.cells #[.int .i64 0, .int .i64 0, .int .i64 0, .int .i64 0, .int .i64 0, .int .i64 0, .int .i64 0] 23 (0, 0))) ∧ Aside0 (wc.heap[gl]? = some (.cells #[.int .i64 a0, .int .i64 a1, .int .i64 0, .int .i64 0, .int .i64 0, .int .i64 0, .int .i64 0] 23 (0, 0))) ∧ Aside0 (Below w.heap.size w wc))
  case first =>
    go_wp2_with ((with_reducible refine gate_dst (N := 8) rfl ?_); refine box_event ?hg (N := 8) ?hd (cs := #[.int .i64 0, .int .i64 0, .int .i64 0, .int .i64 0, .int .i64 0, .int .i64 0, .int .i64 0]) (t := 23) ?hr ?_; (case hd => rfl); (case hg => rfl); (case hr => first | (go_simp; done) | (go_simp; rfl)); intro gx hg wgx hbox hb; have HGgx := Aside0.mk hg; have BKgx := Aside0.mk hbox; have HBgx := Aside0.mk hb; clear hg hbox hb; have gxc0 := (blk_cell BKgx.out 0).trans rfl; have gxc1 := (blk_cell BKgx.out 1).trans rfl; have gxc2 := (blk_cell BKgx.out 2).trans rfl; have gxc3 := (blk_cell BKgx.out 3).trans rfl; have gxc4 := (blk_cell BKgx.out 4).trans rfl; have gxc5 := (blk_cell BKgx.out 5).trans rfl; have gxc6 := (blk_cell BKgx.out 6).trans rfl; have gxf0 := blk_frozen BKgx.out 0; have gxf1 := blk_frozen BKgx.out 1; have gxf2 := blk_frozen BKgx.out 2; have gxf3 := blk_frozen BKgx.out 3; have gxf4 := blk_frozen BKgx.out 4; have gxf5 := blk_frozen BKgx.out 5; have gxf6 := blk_frozen BKgx.out 6)
    go_meet
    case rel => exact ⟨gx, rfl, ⟨Nat.le_trans HBr.out.size (Nat.le_of_eq HGgx.out.symm)⟩, ⟨Nat.ne_of_lt (HGgx.out ▸ blk_lt BKgr.out)⟩, ⟨far7 (Nat.ne_of_lt (HGgx.out ▸ blk_lt BKgr.out)) (blk_below BKgr.out HBgx.out)⟩, ⟨put7 BKgx.out⟩, ⟨below7 (below_step HBr.out HBgx.out) (Nat.le_trans HBr.out.size (Nat.le_of_eq HGgx.out.symm))⟩⟩
  case rest =>
  obtain ⟨gl, rfl, GL, NRL, BR, BL, HB2⟩ := hcut
  clear BKgr HBr HBgr HB
  go_upto_if 40 with (fail)
  go_cut [9] (fun v9 wc => v9 = .int .i64 nu ∧ Aside0 (wc.heap[gr]? = some (.cells #[.int .i64 0, .int .i64 0, .int .i64 0, .int .i64 0, .int .i64 0, .int .i64 0, .int .i64 0] 23 (0, 0))) ∧ Aside0 (wc.heap[gl]? = some (.cells #[.int .i64 a0, .int .i64 a1, .int .i64 0, .int .i64 off, .int .i64 0, .int .i64 0, .int .i64 0] 23 (0, 0))) ∧ Aside0 (Below w.heap.size w wc))
  case first =>
    have NLR : gl ≠ gr := fun e => NRL.out e.symm
    have NRL1 := NRL.out
    have lc0 := (blk_cell BL.out 0).trans rfl
    have lc1 := (blk_cell BL.out 1).trans rfl
    have lc2 := (blk_cell BL.out 2).trans rfl
    have lc3 := (blk_cell BL.out 3).trans rfl
    have lc4 := (blk_cell BL.out 4).trans rfl
    have lc5 := (blk_cell BL.out 5).trans rfl
    have lc6 := (blk_cell BL.out 6).trans rfl
    have lf0 := blk_frozen BL.out 0
    have lf1 := blk_frozen BL.out 1
    have lf2 := blk_frozen BL.out 2
    have lf3 := blk_frozen BL.out 3
    have lf4 := blk_frozen BL.out 4
    have lf5 := blk_frozen BL.out 5
    have lf6 := blk_frozen BL.out 6
    by_cases c : a2 = true
    · subst c
      have e1 : off = (8 + a1 - 1) / a1 * a1 := by have := HOF.out; rw [if_pos rfl] at this; exact this
      have e2 : nu = a0 + (off + 8) := by have := HNU.out; rw [if_pos rfl] at this; exact this
      have U3 := Aside0.mk (e1 ▸ U1.out : layout_up_int.f 8 a1 = some off)
      clear e1
      go_wp2_with (go_at_call 16; (with_reducible refine (layout_up_int.calls 8 a1 off _ U3.out).mono ?_); rintro e w' ⟨rfl, ⟨nd, rfl⟩⟩)
      go_meet
      case rel => exact ⟨by first | rw [e2] | (simp [e2]; done), ⟨by (with_reducible repeat (first | refine blk_drewN ?_ _ | refine blk_drew ?_ | refine blk_alloc ?_ _)); refine blk_far ?_ NRL1 _; (with_reducible repeat (first | refine blk_drewN ?_ _ | refine blk_drew ?_ | refine blk_alloc ?_ _)); exact BR.out⟩, ⟨by (with_reducible repeat (first | refine blk_drewN ?_ _ | refine blk_drew ?_ | refine blk_alloc ?_ _)); refine blk_put (cs := #[.int .i64 a0, .int .i64 a1, .int .i64 0, .int .i64 0, .int .i64 0, .int .i64 0, .int .i64 0]) ?_ 3 _ rfl; (with_reducible repeat (first | refine blk_drewN ?_ _ | refine blk_drew ?_ | refine blk_alloc ?_ _)); exact BL.out⟩, ⟨(by repeat (first | (with_reducible first | exact HB2.out | apply below_alloc | apply pw_below_drewN | apply below_drew1 | refine below_set ?_ GL.out | refine below_set ?_ GR.out) | exact HB2.out))⟩⟩
    · have c' : a2 = false := Bool.eq_false_iff.mpr c
      subst c'
      have e1 : off = 0 := by have := HOF.out; rw [if_neg c] at this; exact this
      have e2 : nu = a0 := by have := HNU.out; rw [if_neg c] at this; exact this
      go_wp2
      go_meet
      case rel => exact ⟨by rw [e2], ⟨by (with_reducible repeat (first | refine blk_drewN ?_ _ | refine blk_drew ?_ | refine blk_alloc ?_ _)); exact BR.out⟩, ⟨by rw [e1]; (with_reducible repeat (first | refine blk_drewN ?_ _ | refine blk_drew ?_ | refine blk_alloc ?_ _)); exact BL.out⟩, ⟨(by repeat (first | (with_reducible first | exact HB2.out | apply below_alloc | apply pw_below_drewN | apply below_drew1 | refine below_set ?_ GL.out | refine below_set ?_ GR.out) | exact HB2.out))⟩⟩
  case rest =>
  clear BR BL HB2
  obtain ⟨rfl, BR, BL, HB3⟩ := hcut
  have NLR : gl ≠ gr := fun e => NRL.out e.symm
  have NRL1 := NRL.out
  have hmx : (if 8 < a1 then a1 else 8) = mm := HM.out.symm
  go_upto_region 8 with (fail)
  go_cut [9] (fun v9 wc => v9 = .int .i64 nu ∧ Aside0 (wc.heap[gr]? = some (.cells #[.int .i64 0, .int .i64 0, .int .i64 0, .int .i64 0, .int .i64 0, .int .i64 0, .int .i64 0] 23 (0, 0))) ∧ Aside0 (wc.heap[gl]? = some (.cells #[.int .i64 a0, .int .i64 a1, .int .i64 st, .int .i64 off, .int .i64 0, .int .i64 0, .int .i64 0] 23 (0, 0))) ∧ Aside0 (Below w.heap.size w wc))
  case first =>
    have lc0 := (blk_cell BL.out 0).trans rfl
    have lc1 := (blk_cell BL.out 1).trans rfl
    have lc2 := (blk_cell BL.out 2).trans rfl
    have lc3 := (blk_cell BL.out 3).trans rfl
    have lc4 := (blk_cell BL.out 4).trans rfl
    have lc5 := (blk_cell BL.out 5).trans rfl
    have lc6 := (blk_cell BL.out 6).trans rfl
    have lf0 := blk_frozen BL.out 0
    have lf1 := blk_frozen BL.out 1
    have lf2 := blk_frozen BL.out 2
    have lf3 := blk_frozen BL.out 3
    have lf4 := blk_frozen BL.out 4
    have lf5 := blk_frozen BL.out 5
    have lf6 := blk_frozen BL.out 6
    go_wp2_with (go_at_call 16; (with_reducible refine (layout_up_int.calls nu mm st _ U2.out).mono ?_); rintro e w' ⟨rfl, ⟨nd, rfl⟩⟩)
    go_meet
    case rel => exact ⟨rfl, ⟨by (with_reducible repeat (first | refine blk_drewN ?_ _ | refine blk_drew ?_ | refine blk_alloc ?_ _)); refine blk_far ?_ NRL1 _; (with_reducible repeat (first | refine blk_drewN ?_ _ | refine blk_drew ?_ | refine blk_alloc ?_ _)); exact BR.out⟩, ⟨by (with_reducible repeat (first | refine blk_drewN ?_ _ | refine blk_drew ?_ | refine blk_alloc ?_ _)); refine blk_put (cs := #[.int .i64 a0, .int .i64 a1, .int .i64 0, .int .i64 off, .int .i64 0, .int .i64 0, .int .i64 0]) ?_ 2 _ rfl; (with_reducible repeat (first | refine blk_drewN ?_ _ | refine blk_drew ?_ | refine blk_alloc ?_ _)); exact BL.out⟩, ⟨(by repeat (first | (with_reducible first | exact HB3.out | apply below_alloc | apply pw_below_drewN | apply below_drew1 | refine below_set ?_ GL.out | refine below_set ?_ GR.out) | exact HB3.out))⟩⟩
  case rest =>
  clear BR BL HB3
  obtain ⟨rfl, BR, BL, HB4⟩ := hcut
  go_upto_region 10 with (fail)
  go_cut [11] (fun v11 wc => ∃ gf : Nat, v11 = .pointer (some ⟨gf, 0, none⟩) ∧ Aside0 (w.heap.size ≤ gf) ∧ Aside0 (gr ≠ gf) ∧ Aside0 (gl ≠ gf) ∧ Aside0 (wc.heap[gr]? = some (.cells #[.int .i64 0, .int .i64 0, .int .i64 0, .int .i64 0, .int .i64 0, .int .i64 0, .int .i64 0] 23 (0, 0))) ∧ Aside0 (wc.heap[gl]? = some (.cells #[.int .i64 a0, .int .i64 a1, .int .i64 st, .int .i64 off, .int .i64 0, .int .i64 0, .int .i64 0] 23 (0, 0))) ∧ Aside0 (wc.heap[gf]? = some (.cells #[.int .i64 0, .int .i64 0, .int .i64 0, .int .i64 0, .int .i64 0, .int .i64 0, .int .i64 0] 23 (0, 0))) ∧ Aside0 (Below w.heap.size w wc))
  case first =>
    go_wp2_with ((with_reducible refine gate_dst (N := 11) rfl ?_); refine box_event ?hg (N := 11) ?hd (cs := #[.int .i64 0, .int .i64 0, .int .i64 0, .int .i64 0, .int .i64 0, .int .i64 0, .int .i64 0]) (t := 23) ?hr ?_; (case hd => rfl); (case hg => rfl); (case hr => first | (go_simp; done) | (go_simp; rfl)); intro gx hg wgx hbox hb; have HGgx := Aside0.mk hg; have BKgx := Aside0.mk hbox; have HBgx := Aside0.mk hb; clear hg hbox hb; have gxc0 := (blk_cell BKgx.out 0).trans rfl; have gxc1 := (blk_cell BKgx.out 1).trans rfl; have gxc2 := (blk_cell BKgx.out 2).trans rfl; have gxc3 := (blk_cell BKgx.out 3).trans rfl; have gxc4 := (blk_cell BKgx.out 4).trans rfl; have gxc5 := (blk_cell BKgx.out 5).trans rfl; have gxc6 := (blk_cell BKgx.out 6).trans rfl; have gxf0 := blk_frozen BKgx.out 0; have gxf1 := blk_frozen BKgx.out 1; have gxf2 := blk_frozen BKgx.out 2; have gxf3 := blk_frozen BKgx.out 3; have gxf4 := blk_frozen BKgx.out 4; have gxf5 := blk_frozen BKgx.out 5; have gxf6 := blk_frozen BKgx.out 6)
    go_meet
    case rel => exact ⟨gx, rfl, ⟨Nat.le_trans HB4.out.size (Nat.le_of_eq HGgx.out.symm)⟩, ⟨Nat.ne_of_lt (HGgx.out ▸ blk_lt BR.out)⟩, ⟨Nat.ne_of_lt (HGgx.out ▸ blk_lt BL.out)⟩, ⟨blk_below BR.out HBgx.out⟩, ⟨blk_below BL.out HBgx.out⟩, ⟨BKgx.out⟩, ⟨below_step HB4.out HBgx.out⟩⟩
  case rest =>
  clear hmx
  have HI := HB4
  clear HB4
  have BR0 := BR
  have BL0 := BL
  clear BR BL
  obtain ⟨gf, rfl, GF, NRF, NLF, BR, BL, BF, HB5⟩ := hcut
  clear BR0 BL0 HI
  go_wp2
  go_loopg [10, 54] 4 (fun kq v10 v54 w' => ∃ (fd : Bool) (i o1 o2 o3 y0 y1 y2 y3 y4 y5 y6 : Int), v10 = .bool fd ∧ v54 = .int .i64 i ∧ Aside0 (layout_Of.sc a0 a1 st off kq i fd o1 o2 o3 = (r1, r2, r3, r4, r5, r6, r7, r8)) ∧ 0 ≤ i ∧ i + kq = 4 ∧ Aside0 (fd = true → y0 = a0 ∧ y1 = a1 ∧ y2 = st ∧ y3 = off ∧ y4 = o1 ∧ y5 = o2 ∧ y6 = o3) ∧ Aside0 (w'.heap[gr]? = some (.cells #[.int .i64 0, .int .i64 0, .int .i64 0, .int .i64 0, .int .i64 0, .int .i64 0, .int .i64 0] 23 (0, 0))) ∧ Aside0 (w'.heap[gl]? = some (.cells #[.int .i64 a0, .int .i64 a1, .int .i64 st, .int .i64 off, .int .i64 0, .int .i64 0, .int .i64 0] 23 (0, 0))) ∧ Aside0 (w'.heap[gf]? = some (.cells #[.int .i64 y0, .int .i64 y1, .int .i64 y2, .int .i64 y3, .int .i64 y4, .int .i64 y5, .int .i64 y6] 23 (0, 0))) ∧ Aside0 (Below w.heap.size w w'))
  case atStart => exact ⟨false, 0, 0, 0, 0, 0, 0, 0, 0, 0, 0, 0, rfl, rfl, ⟨Option.some.inj H.out⟩, by omega, by omega, ⟨fun h => by cases h⟩, BR, BL, BF, HB5⟩
  case round =>
    clear BR BL BF HB5 H
    obtain ⟨fd, i, o1, o2, o3, y0, y1, y2, y3, y4, y5, y6, rfl, rfl, HA, hi0, hik, HY, BR, BL, BF, HBl⟩ := hrel
    have NRF1 := NRF.out
    have NLF1 := NLF.out
    have NFR1 : gf ≠ gr := fun e => NRF.out e.symm
    have NFL1 : gf ≠ gl := fun e => NLF.out e.symm
    cases gk with
    | zero =>
      obtain rfl : i = 4 := by omega
      have H2 := HA.out
      clear HA
      rw [layout_Of.sc] at H2
      have fc0 := (blk_cell BF.out 0).trans rfl
      have fc1 := (blk_cell BF.out 1).trans rfl
      have fc2 := (blk_cell BF.out 2).trans rfl
      have fc3 := (blk_cell BF.out 3).trans rfl
      have fc4 := (blk_cell BF.out 4).trans rfl
      have fc5 := (blk_cell BF.out 5).trans rfl
      have fc6 := (blk_cell BF.out 6).trans rfl
      have ff0 := blk_frozen BF.out 0
      have ff1 := blk_frozen BF.out 1
      have ff2 := blk_frozen BF.out 2
      have ff3 := blk_frozen BF.out 3
      have ff4 := blk_frozen BF.out 4
      have ff5 := blk_frozen BF.out 5
      have ff6 := blk_frozen BF.out 6
      have rc0 := (blk_cell BR.out 0).trans rfl
      have rc1 := (blk_cell BR.out 1).trans rfl
      have rc2 := (blk_cell BR.out 2).trans rfl
      have rc3 := (blk_cell BR.out 3).trans rfl
      have rc4 := (blk_cell BR.out 4).trans rfl
      have rc5 := (blk_cell BR.out 5).trans rfl
      have rc6 := (blk_cell BR.out 6).trans rfl
      have rf0 := blk_frozen BR.out 0
      have rf1 := blk_frozen BR.out 1
      have rf2 := blk_frozen BR.out 2
      have rf3 := blk_frozen BR.out 3
      have rf4 := blk_frozen BR.out 4
      have rf5 := blk_frozen BR.out 5
      have rf6 := blk_frozen BR.out 6
      by_cases c : fd = true
      · subst c
        obtain ⟨rfl, rfl, rfl, rfl, rfl, rfl, rfl⟩ := HY.out rfl
        rw [if_pos rfl] at H2
        simp only [Prod.mk.injEq] at H2
        obtain ⟨rfl, rfl, rfl, rfl, rfl, rfl, rfl, rfl⟩ := H2
        go_wp2
        refine bodyPost_ret (results_ct rfl _ _ gr 23 #[.int .i64 y0, .int .i64 y1, .int .i64 y2, .int .i64 y3, .int .i64 y4, .int .i64 y5, .int .i64 y6] (0, 0) _ rfl (put7 BR.out) Try.underlying23 rfl (by kernel_rfl)) rfl ?_
        exact ⟨rfl, below7 HBl.out GR.out⟩
      · have c' : fd = false := Bool.eq_false_iff.mpr c
        subst c'
        rw [if_neg c] at H2
        simp only [Prod.mk.injEq] at H2
        obtain ⟨rfl, rfl, rfl, rfl, rfl, rfl, rfl, rfl⟩ := H2
        go_wp2
        refine bodyPost_ret (results_ct rfl _ _ gr 23 #[.int .i64 0, .int .i64 0, .int .i64 0, .int .i64 0, .int .i64 0, .int .i64 0, .int .i64 0] (0, 0) _ rfl (put7 BR.out) Try.underlying23 rfl (by kernel_rfl)) rfl ?_
        exact ⟨rfl, below7 HBl.out GR.out⟩
    | succ k1 =>
      have H2 := HA.out
      clear HA
      rw [layout_Of.sc] at H2
      have hi4 : i < 4 := by omega
      have hob := layout_Of.ob_bounds hst0 hi0 hi4
      have hby := layout_Of.byt_cases hi0 hi4
      have HS := Aside0.mk (layout_Of.slab_eq a0 a1 st off i hst0 hi0 hi4)
      have hws : layout_Of.ws st i = layout_Of.byt i - layout_Of.ob st i * st := rfl
      obtain ⟨m, hm⟩ : ∃ m, m = layout_Of.ob st i * st := ⟨_, rfl⟩
      rw [← hm] at hws hob
      obtain ⟨o, eo⟩ : ∃ o, o = layout_Of.ob st i := ⟨_, rfl⟩
      obtain ⟨z, ez⟩ : ∃ z, z = layout_Of.ws st i := ⟨_, rfl⟩
      obtain ⟨P, eP⟩ : ∃ P, P = layout_Of.byt i := ⟨_, rfl⟩
      rw [← eo, ← ez] at HS H2
      rw [← eo] at hob
      rw [← ez, ← eP] at hws
      rw [← eP] at hob hby H2
      clear eo ez eP hm
      have hz0 : 0 ≤ z := by omega
      have hz1 : z ≤ 2048 := by omega
      have hP1 := hby.2.1
      have hP2 := hby.2.2
      have ho0 := hob.1
      have ho1 := hob.2.1
      have hji_ : (IntKind.i64.wrap (256 * 2 ^ min i.toNat 64)) = P := hby.1
      have hjiz : i ≤ 64 → (IntKind.i64.wrap (256 * 2 ^ i.toNat)) = P := shl_small hby.1
      have hjiy : (wrap64 (256 * 2 ^ min i.toNat 64)) = P := (i64_w _).symm.trans hji_
      have hjix : i ≤ 64 → (wrap64 (256 * 2 ^ i.toNat)) = P := fun h_ => (i64_w _).symm.trans (hjiz h_)
      clear hws hob hby
      go_upto_region 14 with (fail)
      go_cut [12, 13] (fun v12 v13 wc => ∃ gx : Nat, v12 = .int .i64 i ∧ v13 = .pointer (some ⟨gx, 0, none⟩) ∧ Aside0 (w.heap.size ≤ gx) ∧ Aside0 (gr ≠ gx) ∧ Aside0 (gf ≠ gx) ∧ Aside0 (gl ≠ gx) ∧ Aside0 (wc.heap[gr]? = some (.cells #[.int .i64 0, .int .i64 0, .int .i64 0, .int .i64 0, .int .i64 0, .int .i64 0, .int .i64 0] 23 (0, 0))) ∧ Aside0 (wc.heap[gl]? = some (.cells #[.int .i64 a0, .int .i64 a1, .int .i64 st, .int .i64 off, .int .i64 0, .int .i64 0, .int .i64 0] 23 (0, 0))) ∧ Aside0 (wc.heap[gf]? = some (.cells #[.int .i64 y0, .int .i64 y1, .int .i64 y2, .int .i64 y3, .int .i64 y4, .int .i64 y5, .int .i64 y6] 23 (0, 0))) ∧ Aside0 (wc.heap[gx]? = some (.cells #[.int .i64 a0, .int .i64 a1, .int .i64 st, .int .i64 off, .int .i64 i, .int .i64 o, .int .i64 z] 23 (0, 0))) ∧ Aside0 (Below w.heap.size w wc))
      case first =>
        have lc0 := (blk_cell BL.out 0).trans rfl
        have lc1 := (blk_cell BL.out 1).trans rfl
        have lc2 := (blk_cell BL.out 2).trans rfl
        have lc3 := (blk_cell BL.out 3).trans rfl
        have lc4 := (blk_cell BL.out 4).trans rfl
        have lc5 := (blk_cell BL.out 5).trans rfl
        have lc6 := (blk_cell BL.out 6).trans rfl
        have lf0 := blk_frozen BL.out 0
        have lf1 := blk_frozen BL.out 1
        have lf2 := blk_frozen BL.out 2
        have lf3 := blk_frozen BL.out 3
        have lf4 := blk_frozen BL.out 4
        have lf5 := blk_frozen BL.out 5
        have lf6 := blk_frozen BL.out 6
        go_wp2_with (first | (go_at_call 17; (with_reducible refine (layout_slab.calls a0 a1 st off 0 0 0 i a0 a1 st off i o z _ HS.out).mono ?_); rintro e w3 ⟨rfl, hb⟩; have HBc := Aside0.mk hb; clear hb; have BRc := Aside0.mk (blk_below BR.out HBc.out); have BFc := Aside0.mk (blk_below BF.out HBc.out); have BLc := Aside0.mk (blk_below BL.out HBc.out); have HBd := Aside0.mk (below_step (by repeat (first | (with_reducible first | exact HBl.out | apply below_alloc | apply pw_below_drewN | apply below_drew1) | exact HBl.out)) HBc.out)) | ((with_reducible refine gate_dst (N := 13) rfl ?_); refine box_event ?hg (N := 13) ?hd (cs := #[.int .i64 0, .int .i64 0, .int .i64 0, .int .i64 0, .int .i64 0, .int .i64 0, .int .i64 0]) (t := 23) ?hr ?_; (case hd => rfl); (case hg => rfl); (case hr => first | (go_simp; done) | (go_simp; rfl)); intro gx hg wgx hbox hb; have HGgx := Aside0.mk hg; have BKgx := Aside0.mk hbox; have HBgx := Aside0.mk hb; clear hg hbox hb; have gxc0 := (blk_cell BKgx.out 0).trans rfl; have gxc1 := (blk_cell BKgx.out 1).trans rfl; have gxc2 := (blk_cell BKgx.out 2).trans rfl; have gxc3 := (blk_cell BKgx.out 3).trans rfl; have gxc4 := (blk_cell BKgx.out 4).trans rfl; have gxc5 := (blk_cell BKgx.out 5).trans rfl; have gxc6 := (blk_cell BKgx.out 6).trans rfl; have gxf0 := blk_frozen BKgx.out 0; have gxf1 := blk_frozen BKgx.out 1; have gxf2 := blk_frozen BKgx.out 2; have gxf3 := blk_frozen BKgx.out 3; have gxf4 := blk_frozen BKgx.out 4; have gxf5 := blk_frozen BKgx.out 5; have gxf6 := blk_frozen BKgx.out 6; have BRx := Aside0.mk (blk_below BRc.out HBgx.out); have BFx := Aside0.mk (blk_below BFc.out HBgx.out); have BLx := Aside0.mk (blk_below BLc.out HBgx.out); have HBx := Aside0.mk (below_step (by repeat (first | (with_reducible first | exact HBd.out | apply below_alloc | apply pw_below_drewN | apply below_drew1) | exact HBd.out)) HBgx.out); have GX := Aside0.mk (Nat.le_trans HBd.out.size (Nat.le_of_eq HGgx.out.symm)); have NRX1 : gr ≠ gx := Nat.ne_of_lt (HGgx.out ▸ blk_lt BRc.out); have NFX1 : gf ≠ gx := Nat.ne_of_lt (HGgx.out ▸ blk_lt BFc.out); have NLX1 : gl ≠ gx := Nat.ne_of_lt (HGgx.out ▸ blk_lt BLc.out); have NXR1 : gx ≠ gr := fun e => NRX1 e.symm; have NXF1 : gx ≠ gf := fun e => NFX1 e.symm; have rc0 := (blk_cell BRx.out 0).trans rfl; have rc1 := (blk_cell BRx.out 1).trans rfl; have rc2 := (blk_cell BRx.out 2).trans rfl; have rc3 := (blk_cell BRx.out 3).trans rfl; have rc4 := (blk_cell BRx.out 4).trans rfl; have rc5 := (blk_cell BRx.out 5).trans rfl; have rc6 := (blk_cell BRx.out 6).trans rfl; have rf0 := blk_frozen BRx.out 0; have rf1 := blk_frozen BRx.out 1; have rf2 := blk_frozen BRx.out 2; have rf3 := blk_frozen BRx.out 3; have rf4 := blk_frozen BRx.out 4; have rf5 := blk_frozen BRx.out 5; have rf6 := blk_frozen BRx.out 6; have fc0 := (blk_cell BFx.out 0).trans rfl; have fc1 := (blk_cell BFx.out 1).trans rfl; have fc2 := (blk_cell BFx.out 2).trans rfl; have fc3 := (blk_cell BFx.out 3).trans rfl; have fc4 := (blk_cell BFx.out 4).trans rfl; have fc5 := (blk_cell BFx.out 5).trans rfl; have fc6 := (blk_cell BFx.out 6).trans rfl; have ff0 := blk_frozen BFx.out 0; have ff1 := blk_frozen BFx.out 1; have ff2 := blk_frozen BFx.out 2; have ff3 := blk_frozen BFx.out 3; have ff4 := blk_frozen BFx.out 4; have ff5 := blk_frozen BFx.out 5; have ff6 := blk_frozen BFx.out 6))
        go_meet
        case rel => exact ⟨gx, rfl, rfl, GX, ⟨NRX1⟩, ⟨NFX1⟩, ⟨NLX1⟩, ⟨far7 NRX1 BRx.out⟩, ⟨far7 NLX1 BLx.out⟩, ⟨far7 NFX1 BFx.out⟩, ⟨put7 BKgx.out⟩, ⟨below7 HBx.out GX.out⟩⟩
      case rest =>
      clear BR BL BF HBl
      obtain ⟨gx, rfl, rfl, GX, NRX, NFX, NLX, BR, BL, BF, BX, HBx⟩ := hcut
      have NRX1 := NRX.out
      have NFX1 := NFX.out
      have NXR1 : gx ≠ gr := fun e => NRX.out e.symm
      have NXF1 : gx ≠ gf := fun e => NFX.out e.symm
      have xc0 := (blk_cell BX.out 0).trans rfl
      have xc1 := (blk_cell BX.out 1).trans rfl
      have xc2 := (blk_cell BX.out 2).trans rfl
      have xc3 := (blk_cell BX.out 3).trans rfl
      have xc4 := (blk_cell BX.out 4).trans rfl
      have xc5 := (blk_cell BX.out 5).trans rfl
      have xc6 := (blk_cell BX.out 6).trans rfl
      have xf0 := blk_frozen BX.out 0
      have xf1 := blk_frozen BX.out 1
      have xf2 := blk_frozen BX.out 2
      have xf3 := blk_frozen BX.out 3
      have xf4 := blk_frozen BX.out 4
      have xf5 := blk_frozen BX.out 5
      have xf6 := blk_frozen BX.out 6
      have rc0 := (blk_cell BR.out 0).trans rfl
      have rc1 := (blk_cell BR.out 1).trans rfl
      have rc2 := (blk_cell BR.out 2).trans rfl
      have rc3 := (blk_cell BR.out 3).trans rfl
      have rc4 := (blk_cell BR.out 4).trans rfl
      have rc5 := (blk_cell BR.out 5).trans rfl
      have rc6 := (blk_cell BR.out 6).trans rfl
      have rf0 := blk_frozen BR.out 0
      have rf1 := blk_frozen BR.out 1
      have rf2 := blk_frozen BR.out 2
      have rf3 := blk_frozen BR.out 3
      have rf4 := blk_frozen BR.out 4
      have rf5 := blk_frozen BR.out 5
      have rf6 := blk_frozen BR.out 6
      have fc0 := (blk_cell BF.out 0).trans rfl
      have fc1 := (blk_cell BF.out 1).trans rfl
      have fc2 := (blk_cell BF.out 2).trans rfl
      have fc3 := (blk_cell BF.out 3).trans rfl
      have fc4 := (blk_cell BF.out 4).trans rfl
      have fc5 := (blk_cell BF.out 5).trans rfl
      have fc6 := (blk_cell BF.out 6).trans rfl
      have ff0 := blk_frozen BF.out 0
      have ff1 := blk_frozen BF.out 1
      have ff2 := blk_frozen BF.out 2
      have ff3 := blk_frozen BF.out 3
      have ff4 := blk_frozen BF.out 4
      have ff5 := blk_frozen BF.out 5
      have ff6 := blk_frozen BF.out 6
      by_cases c1 : o = 0
      · rw [if_pos c1] at H2
        have c1b : (o == 0) = true := beq_iff_eq.mpr c1
        go_wp2
        go_roundg k1
        case measure => omega
        case rel => exact ⟨fd, i + 1, o1, o2, o3, y0, y1, y2, y3, y4, y5, y6, rfl, rfl, ⟨H2⟩, by omega, by omega, HY, ⟨by first | exact (BR.out) | exact (dr (BR.out))⟩, ⟨by first | exact (BL.out) | exact (dr (BL.out))⟩, ⟨by first | exact (BF.out) | exact (dr (BF.out))⟩, ⟨by first | exact (HBx.out) | exact (drb (HBx.out))⟩⟩
      rw [if_neg c1] at H2
      have c1b : (o == 0) = false := beq_eq_false_iff_ne.mpr c1
      go_upto_region 16 with (fail)
      go_cut [68] (fun v68 wq => v68 = .bool (decide (z * 8 ≤ P)) ∧ Aside0 (wq.heap[gr]? = some (.cells #[.int .i64 0, .int .i64 0, .int .i64 0, .int .i64 0, .int .i64 0, .int .i64 0, .int .i64 0] 23 (0, 0))) ∧ Aside0 (wq.heap[gl]? = some (.cells #[.int .i64 a0, .int .i64 a1, .int .i64 st, .int .i64 off, .int .i64 0, .int .i64 0, .int .i64 0] 23 (0, 0))) ∧ Aside0 (wq.heap[gf]? = some (.cells #[.int .i64 y0, .int .i64 y1, .int .i64 y2, .int .i64 y3, .int .i64 y4, .int .i64 y5, .int .i64 y6] 23 (0, 0))) ∧ Aside0 (wq.heap[gx]? = some (.cells #[.int .i64 a0, .int .i64 a1, .int .i64 st, .int .i64 off, .int .i64 i, .int .i64 o, .int .i64 z] 23 (0, 0))) ∧ Aside0 (Below w.heap.size w wq))
      case first =>
        go_quiet (fail)
        try go_wp2
        go_meet
        case rel => exact ⟨by first | rfl | rw [hjix (by omega)], ⟨by first | exact BR.out | exact dr BR.out⟩, ⟨by first | exact BL.out | exact dr BL.out⟩, ⟨by first | exact BF.out | exact dr BF.out⟩, ⟨by first | exact BX.out | exact dr BX.out⟩, ⟨by first | exact HBx.out | exact drb HBx.out⟩⟩
      case rest =>
      clear BR BL BF BX HBx xc0 xc1 xc2 xc3 xc4 xc5 xc6 xf0 xf1 xf2 xf3 xf4 xf5 xf6 rc0 rc1 rc2 rc3 rc4 rc5 rc6 rf0 rf1 rf2 rf3 rf4 rf5 rf6 fc0 fc1 fc2 fc3 fc4 fc5 fc6 ff0 ff1 ff2 ff3 ff4 ff5 ff6
      obtain ⟨rfl, BR, BL, BF, BX, HBx⟩ := hcut
      have xc0 := (blk_cell BX.out 0).trans rfl
      have xc1 := (blk_cell BX.out 1).trans rfl
      have xc2 := (blk_cell BX.out 2).trans rfl
      have xc3 := (blk_cell BX.out 3).trans rfl
      have xc4 := (blk_cell BX.out 4).trans rfl
      have xc5 := (blk_cell BX.out 5).trans rfl
      have xc6 := (blk_cell BX.out 6).trans rfl
      have xf0 := blk_frozen BX.out 0
      have xf1 := blk_frozen BX.out 1
      have xf2 := blk_frozen BX.out 2
      have xf3 := blk_frozen BX.out 3
      have xf4 := blk_frozen BX.out 4
      have xf5 := blk_frozen BX.out 5
      have xf6 := blk_frozen BX.out 6
      have rc0 := (blk_cell BR.out 0).trans rfl
      have rc1 := (blk_cell BR.out 1).trans rfl
      have rc2 := (blk_cell BR.out 2).trans rfl
      have rc3 := (blk_cell BR.out 3).trans rfl
      have rc4 := (blk_cell BR.out 4).trans rfl
      have rc5 := (blk_cell BR.out 5).trans rfl
      have rc6 := (blk_cell BR.out 6).trans rfl
      have rf0 := blk_frozen BR.out 0
      have rf1 := blk_frozen BR.out 1
      have rf2 := blk_frozen BR.out 2
      have rf3 := blk_frozen BR.out 3
      have rf4 := blk_frozen BR.out 4
      have rf5 := blk_frozen BR.out 5
      have rf6 := blk_frozen BR.out 6
      have fc0 := (blk_cell BF.out 0).trans rfl
      have fc1 := (blk_cell BF.out 1).trans rfl
      have fc2 := (blk_cell BF.out 2).trans rfl
      have fc3 := (blk_cell BF.out 3).trans rfl
      have fc4 := (blk_cell BF.out 4).trans rfl
      have fc5 := (blk_cell BF.out 5).trans rfl
      have fc6 := (blk_cell BF.out 6).trans rfl
      have ff0 := blk_frozen BF.out 0
      have ff1 := blk_frozen BF.out 1
      have ff2 := blk_frozen BF.out 2
      have ff3 := blk_frozen BF.out 3
      have ff4 := blk_frozen BF.out 4
      have ff5 := blk_frozen BF.out 5
      have ff6 := blk_frozen BF.out 6
      by_cases c2 : z * 8 ≤ P
      · rw [if_pos c2] at H2
        have c2b : decide (z * 8 ≤ P) = true := decide_eq_true c2
        rw [c2b]
        simp only [Prod.mk.injEq] at H2
        obtain ⟨rfl, rfl, rfl, rfl, rfl, rfl, rfl, rfl⟩ := H2
        go_wp2
        refine bodyPost_ret (results_ct rfl _ _ gr 23 #[.int .i64 a0, .int .i64 a1, .int .i64 st, .int .i64 off, .int .i64 i, .int .i64 o, .int .i64 z] (0, 0) _ rfl (by first | exact put7 BR.out | exact put7 (dr BR.out)) Try.underlying23 rfl (by kernel_rfl)) rfl ?_
        exact ⟨rfl, by first | exact below7 HBx.out GR.out | exact below7 (drb HBx.out) GR.out⟩
      rw [if_neg c2] at H2
      have c2b : decide (z * 8 ≤ P) = false := decide_eq_false c2
      rw [c2b]
      by_cases c3 : fd = true
      · subst c3
        rw [if_pos rfl] at H2
        go_wp2
        go_roundg k1
        case measure => omega
        case rel => exact ⟨true, i + 1, o1, o2, o3, y0, y1, y2, y3, y4, y5, y6, rfl, rfl, ⟨H2⟩, by omega, by omega, ⟨fun _ => HY.out trivial⟩, ⟨by first | exact (BR.out) | exact (dr (BR.out))⟩, ⟨by first | exact (BL.out) | exact (dr (BL.out))⟩, ⟨by first | exact (BF.out) | exact (dr (BF.out))⟩, ⟨by first | exact (HBx.out) | exact (drb (HBx.out))⟩⟩
      · have c3' : fd = false := Bool.eq_false_iff.mpr c3
        subst c3'
        rw [if_neg c3] at H2
        go_wp2
        go_roundg k1
        case measure => omega
        case rel => exact ⟨true, i + 1, i, o, z, a0, a1, st, off, i, o, z, rfl, rfl, ⟨H2⟩, by omega, by omega, ⟨fun _ => ⟨rfl, rfl, rfl, rfl, rfl, rfl, rfl⟩⟩, ⟨by first | exact far7 NRF1 (BR.out) | exact far7 NRF1 (dr (BR.out))⟩, ⟨by first | exact far7 NLF1 (BL.out) | exact far7 NLF1 (dr (BL.out))⟩, ⟨by first | exact put7 (BF.out) | exact put7 (dr (BF.out))⟩, ⟨by first | exact below7 (HBx.out) GF.out | exact below7 (drb (HBx.out)) GF.out⟩⟩


/-! ### wainscotref15_aligned: function 18 -/
def wainscotref15_aligned.l0 : Nat → Int → Int → Option (Bool)
  | 0, _, _ => none
  | k + 1, x0, x3 => if x3 ≤ 64 then (if x0 = x3 then (some true) else (wainscotref15_aligned.l0 k x0 (wrap64 (x3 * 2)))) else (some false)
def wainscotref15_aligned.f (k : Nat) (a0 : Int) : Option (Bool) := wainscotref15_aligned.l0 k a0 1
theorem wainscotref15_aligned.mono_l : ∀ k, (∀ y0 y1, LeO (wainscotref15_aligned.l0 k y0 y1) (wainscotref15_aligned.l0 (k + 1) y0 y1))
  | 0 => fun _ _ r h => by simp [wainscotref15_aligned.l0] at h
  | k + 1 => by
    have ih0 := wainscotref15_aligned.mono_l k
    · intro y0 y1
      unfold wainscotref15_aligned.l0
      repeat' first
      | (with_reducible exact ih0 _ _)
      | (with_reducible exact LeO.refl _)
      | (with_reducible exact LeO.none _)
      | (with_reducible refine LeO.ite ?_ ?_)
      | (with_reducible refine LeO.bind ?_ (fun _ => ?_))
      | exact ih0 _ _
      | exact LeO.none _
      | refine LeO.ite ?_ ?_
      | refine LeO.bind ?_ (fun _ => ?_)
theorem wainscotref15_aligned.mono : ∀ a0 k, LeO (wainscotref15_aligned.f k a0) (wainscotref15_aligned.f (k + 1) a0) := by
  intro a0 k
  have ih0 := wainscotref15_aligned.mono_l k
  unfold wainscotref15_aligned.f
  repeat' first
      | (with_reducible exact ih0 _ _)
      | (with_reducible exact LeO.refl _)
      | (with_reducible exact LeO.none _)
      | (with_reducible refine LeO.ite ?_ ?_)
      | (with_reducible refine LeO.bind ?_ (fun _ => ?_))
      | exact ih0 _ _
      | exact LeO.none _
      | refine LeO.ite ?_ ?_
      | refine LeO.bind ?_ (fun _ => ?_)
set_option maxHeartbeats 8000000 in
set_option maxRecDepth 100000 in
theorem wainscotref15_aligned.calls (k : Nat) (a0 : Int) (r : Bool) (w : World) (h : wainscotref15_aligned.f k a0 = some r) :
    Calls Try.prog 18 #[.int .i64 a0] w fun e w' => e = .returned (.bool r) ∧ Drawn0 w w' := by
  have H : (wainscotref15_aligned.l0 k a0 1) = some r := h
  clear h
  have H' := Aside0.mk H
  clear H
  go_enter Try.func18, Try.ntmps18
  go_wp2
  go_loopg [3] k (fun kq v3 w' => ∃ (x3_1 : Int), v3 = .int .i64 x3_1 ∧ Aside0 (wainscotref15_aligned.l0 kq a0 x3_1 = some r) ∧ Aside0 (kq ≤ k) ∧ Drawn0 w w')
  case atStart => exact ⟨(1), (by first | rfl | (simp; done) | (simp [*]; done)), H', ⟨Nat.le_refl _⟩, by repeat (first | exact Drawn0.refl _ | apply Drawn0.step)⟩
  case round =>
    clear H'
    try clear c1
    obtain ⟨x3_1, rfl, HA, HK1, ⟨m1, rfl⟩⟩ := hrel
    cases gk with
    | zero => exact absurd HA.out (by simp [wainscotref15_aligned.l0])
    | succ k1 =>
      have H := HA.out
      clear HA
      simp only [wainscotref15_aligned.l0] at H
      by_cases c2 : x3_1 ≤ 64
      · rw [if_pos c2] at H
        have c2b0 : decide (x3_1 ≤ 64) = true := decide_eq_true c2
        clear c2
        by_cases c3 : a0 = x3_1
        · rw [if_pos c3] at H
          have c3b0 : (a0 == x3_1) = true := beq_iff_eq.mpr c3
          have c3b1 : (a0 != x3_1) = false := bne_eq_false_iff_eq.mpr c3
          clear c3
          obtain rfl := Option.some.inj H
          go_wp2
          go_ret
          exact ⟨by first | rfl | (simp; done) | (simp [*]; done), by repeat (first | exact Drawn0.refl _ | apply Drawn0.step)⟩
        · rw [if_neg c3] at H
          have c3b0 : (a0 == x3_1) = false := beq_eq_false_iff_ne.mpr c3
          have c3b1 : (a0 != x3_1) = true := bne_iff_ne.mpr c3
          have H' := Aside0.mk H
          clear H
          go_wp2
          go_roundg k1
          case measure => have := HK1.out; omega
          case rel => exact ⟨(wrap64 (x3_1 * 2)), (by first | rfl | (simp; done) | (simp [*]; done)), H', ⟨by have := HK1.out; omega⟩, by repeat (first | exact Drawn0.refl _ | apply Drawn0.step)⟩
      · rw [if_neg c2] at H
        have c2b0 : decide (x3_1 ≤ 64) = false := decide_eq_false c2
        clear c2
        obtain rfl := Option.some.inj H
        go_wp2
        go_ret
        exact ⟨by first | rfl | (simp; done) | (simp [*]; done), by repeat (first | exact Drawn0.refl _ | apply Drawn0.step)⟩

/-! ### wainscotref15_up: function 19 -/
def wainscotref15_up.l0 : Nat → Int → Int → Option (Int)
  | 0, _, _ => none
  | k + 1, x0, x1 => if x1 = 0 then (none) else (if (Int.tmod x0 x1) = 0 then (some x0) else (wainscotref15_up.l0 k (wrap64 (x0 + 1)) x1))
def wainscotref15_up.f (k : Nat) (a0 : Int) (a1 : Int) : Option (Int) := wainscotref15_up.l0 k a0 a1
theorem wainscotref15_up.mono_l : ∀ k, (∀ y0 y1, LeO (wainscotref15_up.l0 k y0 y1) (wainscotref15_up.l0 (k + 1) y0 y1))
  | 0 => fun _ _ r h => by simp [wainscotref15_up.l0] at h
  | k + 1 => by
    have ih0 := wainscotref15_up.mono_l k
    · intro y0 y1
      unfold wainscotref15_up.l0
      repeat' first
      | (with_reducible exact ih0 _ _)
      | (with_reducible exact LeO.refl _)
      | (with_reducible exact LeO.none _)
      | (with_reducible refine LeO.ite ?_ ?_)
      | (with_reducible refine LeO.bind ?_ (fun _ => ?_))
      | exact ih0 _ _
      | exact LeO.none _
      | refine LeO.ite ?_ ?_
      | refine LeO.bind ?_ (fun _ => ?_)
theorem wainscotref15_up.mono : ∀ a0 a1 k, LeO (wainscotref15_up.f k a0 a1) (wainscotref15_up.f (k + 1) a0 a1) := by
  intro a0 a1 k
  have ih0 := wainscotref15_up.mono_l k
  unfold wainscotref15_up.f
  repeat' first
      | (with_reducible exact ih0 _ _)
      | (with_reducible exact LeO.refl _)
      | (with_reducible exact LeO.none _)
      | (with_reducible refine LeO.ite ?_ ?_)
      | (with_reducible refine LeO.bind ?_ (fun _ => ?_))
      | exact ih0 _ _
      | exact LeO.none _
      | refine LeO.ite ?_ ?_
      | refine LeO.bind ?_ (fun _ => ?_)
set_option maxHeartbeats 8000000 in
set_option maxRecDepth 100000 in
theorem wainscotref15_up.calls (k : Nat) (a0 : Int) (a1 : Int) (r : Int) (w : World) (h : wainscotref15_up.f k a0 a1 = some r) :
    Calls Try.prog 19 #[.int .i64 a0, .int .i64 a1] w fun e w' => e = .returned (.int .i64 r) ∧ Drawn0 w w' := by
  have H : (wainscotref15_up.l0 k a0 a1) = some r := h
  clear h
  have H' := Aside0.mk H
  clear H
  go_enter Try.func19, Try.ntmps19
  go_wp2
  go_loopg [0] k (fun kq v0 w' => ∃ (x0_1 : Int), v0 = .int .i64 x0_1 ∧ Aside0 (wainscotref15_up.l0 kq x0_1 a1 = some r) ∧ Aside0 (kq ≤ k) ∧ Drawn0 w w')
  case atStart => exact ⟨(a0), (by first | rfl | (simp; done) | (simp [*]; done)), H', ⟨Nat.le_refl _⟩, by repeat (first | exact Drawn0.refl _ | apply Drawn0.step)⟩
  case round =>
    clear H'
    try clear c1
    try clear p2
    obtain ⟨x0_1, rfl, HA, HK1, ⟨m1, rfl⟩⟩ := hrel
    cases gk with
    | zero => exact absurd HA.out (by simp [wainscotref15_up.l0])
    | succ k1 =>
      have H := HA.out
      clear HA
      simp only [wainscotref15_up.l0] at H
      by_cases c3 : a1 = 0
      · rw [if_pos c3] at H
        exact absurd H (by simp)
      · rw [if_neg c3] at H
        have c3b0 : (a1 == 0) = false := beq_eq_false_iff_ne.mpr c3
        have c3b1 : (a1 != 0) = true := bne_iff_ne.mpr c3
        by_cases c4 : (Int.tmod x0_1 a1) = 0
        · rw [if_pos c4] at H
          have c4b0 : ((Int.tmod x0_1 a1) == 0) = true := beq_iff_eq.mpr c4
          have c4b1 : ((Int.tmod x0_1 a1) != 0) = false := bne_eq_false_iff_eq.mpr c4
          clear c4
          obtain rfl := Option.some.inj H
          go_wp2
          go_ret
          exact ⟨by first | rfl | (simp; done) | (simp [*]; done), by repeat (first | exact Drawn0.refl _ | apply Drawn0.step)⟩
        · rw [if_neg c4] at H
          have c4b0 : ((Int.tmod x0_1 a1) == 0) = false := beq_eq_false_iff_ne.mpr c4
          have c4b1 : ((Int.tmod x0_1 a1) != 0) = true := bne_iff_ne.mpr c4
          have H' := Aside0.mk H
          clear H
          go_wp2
          go_roundg k1
          case measure => have := HK1.out; omega
          case rel => exact ⟨(wrap64 (x0_1 + 1)), (by first | rfl | (simp; done) | (simp [*]; done)), H', ⟨by have := HK1.out; omega⟩, by repeat (first | exact Drawn0.refl _ | apply Drawn0.step)⟩

/-! ### wainscotref15_slab: function 20 -/
def wainscotref15_slab.l0 : Nat → Int → Int → Int → Int → Int → Int → Int → Int → Int → Int → Option (Int × Int × Int × Int × Int × Int × Int)
  | 0, _, _, _, _, _, _, _, _, _, _ => none
  | k + 1, x1, x5, x6, x104000, x104001, x104002, x104003, x104004, x104005, x104006 => if x6 < x1 then (wainscotref15_slab.l0 k x1 (wrap64 (x5 * 2)) (wrap64 (x6 + 1)) x104000 x104001 x104002 x104003 x104004 x104005 x104006) else (if x104002 = 0 then (none) else (some (x104000, x104001, x104002, x104003, x1, mn (wrap64 (Int.tdiv x5 x104002)) 16, wrap64 (x5 - (wrap64 ((mn (wrap64 (Int.tdiv x5 x104002)) 16) * x104002))))))
def wainscotref15_slab.f (k : Nat) (a0_0 : Int) (a0_1 : Int) (a0_2 : Int) (a0_3 : Int) (a0_4 : Int) (a0_5 : Int) (a0_6 : Int) (a1 : Int) : Option (Int × Int × Int × Int × Int × Int × Int) := wainscotref15_slab.l0 k a1 256 0 a0_0 a0_1 a0_2 a0_3 a0_4 a0_5 a0_6
theorem wainscotref15_slab.mono_l : ∀ k, (∀ y0 y1 y2 y3 y4 y5 y6 y7 y8 y9, LeO (wainscotref15_slab.l0 k y0 y1 y2 y3 y4 y5 y6 y7 y8 y9) (wainscotref15_slab.l0 (k + 1) y0 y1 y2 y3 y4 y5 y6 y7 y8 y9))
  | 0 => fun _ _ _ _ _ _ _ _ _ _ r h => by simp [wainscotref15_slab.l0] at h
  | k + 1 => by
    have ih0 := wainscotref15_slab.mono_l k
    · intro y0 y1 y2 y3 y4 y5 y6 y7 y8 y9
      unfold wainscotref15_slab.l0
      repeat' first
      | (with_reducible exact ih0 _ _ _ _ _ _ _ _ _ _)
      | (with_reducible exact LeO.refl _)
      | (with_reducible exact LeO.none _)
      | (with_reducible refine LeO.ite ?_ ?_)
      | (with_reducible refine LeO.bind ?_ (fun _ => ?_))
      | exact ih0 _ _ _ _ _ _ _ _ _ _
      | exact LeO.none _
      | refine LeO.ite ?_ ?_
      | refine LeO.bind ?_ (fun _ => ?_)
theorem wainscotref15_slab.mono : ∀ a0 a1 a2 a3 a4 a5 a6 a7 k, LeO (wainscotref15_slab.f k a0 a1 a2 a3 a4 a5 a6 a7) (wainscotref15_slab.f (k + 1) a0 a1 a2 a3 a4 a5 a6 a7) := by
  intro a0 a1 a2 a3 a4 a5 a6 a7 k
  have ih0 := wainscotref15_slab.mono_l k
  unfold wainscotref15_slab.f
  repeat' first
      | (with_reducible exact ih0 _ _ _ _ _ _ _ _ _ _)
      | (with_reducible exact LeO.refl _)
      | (with_reducible exact LeO.none _)
      | (with_reducible refine LeO.ite ?_ ?_)
      | (with_reducible refine LeO.bind ?_ (fun _ => ?_))
      | exact ih0 _ _ _ _ _ _ _ _ _ _
      | exact LeO.none _
      | refine LeO.ite ?_ ?_
      | refine LeO.bind ?_ (fun _ => ?_)
set_option maxHeartbeats 8000000 in
set_option maxRecDepth 100000 in
theorem wainscotref15_slab.calls (k : Nat) (a0_0 : Int) (a0_1 : Int) (a0_2 : Int) (a0_3 : Int) (a0_4 : Int) (a0_5 : Int) (a0_6 : Int) (a1 : Int) (r1 : Int) (r2 : Int) (r3 : Int) (r4 : Int) (r5 : Int) (r6 : Int) (r7 : Int) (w : World) (h : wainscotref15_slab.f k a0_0 a0_1 a0_2 a0_3 a0_4 a0_5 a0_6 a1 = some (r1, r2, r3, r4, r5, r6, r7)) :
    Calls Try.prog 20 #[.agg #[.int .i64 a0_0, .int .i64 a0_1, .int .i64 a0_2, .int .i64 a0_3, .int .i64 a0_4, .int .i64 a0_5, .int .i64 a0_6], .int .i64 a1] w fun e w' => e = .returned (.agg #[.int .i64 r1, .int .i64 r2, .int .i64 r3, .int .i64 r4, .int .i64 r5, .int .i64 r6, .int .i64 r7]) ∧ Below w.heap.size w w' := by
  have hu23 := Try.underlying23
  have HB := Aside0.mk (Below.refl w.heap.size w)
  have H : (wainscotref15_slab.l0 k a1 256 0 a0_0 a0_1 a0_2 a0_3 a0_4 a0_5 a0_6) = some (r1, r2, r3, r4, r5, r6, r7) := h
  clear h
  have H' := Aside0.mk H
  clear H
  go_enter Try.func20, Try.ntmps20
  go_wp2_with (first | ((with_reducible refine gate_dst (N := 2) rfl ?_); refine box_event ?hg (N := 2) ?hd (cs := #[.int .i64 a0_0, .int .i64 a0_1, .int .i64 a0_2, .int .i64 a0_3, .int .i64 a0_4, .int .i64 a0_5, .int .i64 a0_6]) (t := 23) ?hr ?_; (case hd => rfl); (case hg => rfl); (case hr => first | (go_simp; done) | (go_simp; rfl)); intro gb103 hg w3 hbox hb; have n0_ := Aside0.mk (below_step (by repeat (first | (with_reducible first | exact HB.out | apply below_alloc | apply pw_below_drewN | apply below_drew1) | exact HB.out)) hb); have n1_ := Aside0.mk (hbox); have n2_ := Aside0.mk ((by rw [hg]; exact (below_size (by repeat (first | (with_reducible first | exact HB.out | apply below_alloc | apply pw_below_drewN | apply below_drew1) | exact HB.out))) : w.heap.size ≤ gb103)); have n3_ := Aside0.mk ((by rw [hg]; exact (below_size (by repeat (first | (with_reducible first | exact HB.out | apply below_alloc | apply pw_below_drewN | apply below_drew1) | exact HB.out))) : w.heap.size ≤ gb103)); clear HB; have HB := n0_; have BK103 := n1_; have GW103 := n2_; have GE103 := n3_; clear n0_ n1_ n2_ n3_; clear hb hbox hg) | ((with_reducible refine gate_dst (N := 4) rfl ?_); refine box_event ?hg (N := 4) ?hd (cs := #[.int .i64 0, .int .i64 0, .int .i64 0, .int .i64 0, .int .i64 0, .int .i64 0, .int .i64 0]) (t := 23) ?hr ?_; (case hd => rfl); (case hg => rfl); (case hr => first | (go_simp; done) | (go_simp; rfl)); intro gb104 hg w4 hbox hb; have n0_ := Aside0.mk (blk_below (g := gb103) (o := .cells #[.int .i64 a0_0, .int .i64 a0_1, .int .i64 a0_2, .int .i64 a0_3, .int .i64 a0_4, .int .i64 a0_5, .int .i64 a0_6] 23 (0, 0)) (by (with_reducible repeat (first | refine blk_drewN ?_ _ | refine blk_drew ?_ | refine blk_alloc ?_ _)); exact BK103.out) hb); have n1_ := Aside0.mk (below_step (by repeat (first | (with_reducible first | exact HB.out | apply below_alloc | apply pw_below_drewN | apply below_drew1 | refine below_set ?_ GE103.out) | exact HB.out)) hb); have n2_ := Aside0.mk (hbox); have n3_ := Aside0.mk ((by rw [hg]; exact (below_size (by repeat (first | (with_reducible first | exact HB.out | apply below_alloc | apply pw_below_drewN | apply below_drew1 | refine below_set ?_ GE103.out) | exact HB.out))) : w.heap.size ≤ gb104)); have n4_ := Aside0.mk ((by rw [hg]; exact (below_size (by repeat (first | (with_reducible first | exact HB.out | apply below_alloc | apply pw_below_drewN | apply below_drew1 | refine below_set ?_ GE103.out) | exact HB.out))) : w.heap.size ≤ gb104)); have n5_ := Aside0.mk ((by rw [hg]; exact Nat.ne_of_lt (blk_lt (g := gb103) (o := .cells #[.int .i64 a0_0, .int .i64 a0_1, .int .i64 a0_2, .int .i64 a0_3, .int .i64 a0_4, .int .i64 a0_5, .int .i64 a0_6] 23 (0, 0)) (by (with_reducible repeat (first | refine blk_drewN ?_ _ | refine blk_drew ?_ | refine blk_alloc ?_ _)); exact BK103.out)) : gb103 ≠ gb104)); have n6_ := Aside0.mk ((by rw [hg]; exact Nat.ne_of_gt (blk_lt (g := gb103) (o := .cells #[.int .i64 a0_0, .int .i64 a0_1, .int .i64 a0_2, .int .i64 a0_3, .int .i64 a0_4, .int .i64 a0_5, .int .i64 a0_6] 23 (0, 0)) (by (with_reducible repeat (first | refine blk_drewN ?_ _ | refine blk_drew ?_ | refine blk_alloc ?_ _)); exact BK103.out)) : gb104 ≠ gb103)); clear BK103; clear HB; have BK103 := n0_; have HB := n1_; have BK104 := n2_; have GW104 := n3_; have GE104 := n4_; have NB103_104 := n5_; have NB104_103 := n6_; clear n0_ n1_ n2_ n3_ n4_ n5_ n6_; clear hb hbox hg))
  go_loopg [5, 6] k (fun kq v5 v6 w' => ∃ (x5_1 : Int) (x6_1 : Int), v5 = .int .i64 x5_1 ∧ v6 = .int .i64 x6_1 ∧ Aside0 (wainscotref15_slab.l0 kq a1 x5_1 x6_1 a0_0 a0_1 a0_2 a0_3 a0_4 a0_5 a0_6 = some (r1, r2, r3, r4, r5, r6, r7)) ∧ Aside0 (kq ≤ k) ∧ Aside0 (w'.heap[gb103]? = some (.cells #[.int .i64 a0_0, .int .i64 a0_1, .int .i64 a0_2, .int .i64 a0_3, .int .i64 a0_4, .int .i64 a0_5, .int .i64 a0_6] 23 (0, 0))) ∧ Aside0 (w'.heap[gb104]? = some (.cells #[.int .i64 0, .int .i64 0, .int .i64 0, .int .i64 0, .int .i64 0, .int .i64 0, .int .i64 0] 23 (0, 0))) ∧ Aside0 (Below w.heap.size w w'))
  case atStart => exact ⟨(256), (0), (by first | rfl | (simp; done) | (simp [*]; done)), (by first | rfl | (simp; done) | (simp [*]; done)), H', ⟨Nat.le_refl _⟩, ⟨by (with_reducible repeat (first | refine blk_drewN ?_ _ | refine blk_drew ?_ | refine blk_alloc ?_ _)); exact BK103.out⟩, ⟨by (with_reducible repeat (first | refine blk_drewN ?_ _ | refine blk_drew ?_ | refine blk_alloc ?_ _)); exact BK104.out⟩, ⟨by repeat (first | (with_reducible first | exact HB.out | apply below_alloc | apply pw_below_drewN | apply below_drew1 | refine below_set ?_ GE103.out | refine below_set ?_ GE104.out) | exact HB.out)⟩⟩
  case round =>
    clear H'
    try clear c2
    try clear p2
    obtain ⟨x5_1, x6_1, rfl, rfl, HA, HK1, BK103, BK104, HB⟩ := hrel
    cases gk with
    | zero => exact absurd HA.out (by simp [wainscotref15_slab.l0])
    | succ k1 =>
      have H := HA.out
      clear HA
      simp only [wainscotref15_slab.l0] at H
      by_cases c5 : x6_1 < a1
      · rw [if_pos c5] at H
        have c5b0 : decide (x6_1 < a1) = true := decide_eq_true c5
        clear c5
        have H' := Aside0.mk H
        clear H
        go_wp2
        go_roundg k1
        case measure => have := HK1.out; omega
        case rel => exact ⟨(wrap64 (x5_1 * 2)), (wrap64 (x6_1 + 1)), (by first | rfl | (simp; done) | (simp [*]; done)), (by first | rfl | (simp; done) | (simp [*]; done)), H', ⟨by have := HK1.out; omega⟩, ⟨by (with_reducible repeat (first | refine blk_drewN ?_ _ | refine blk_drew ?_ | refine blk_alloc ?_ _)); exact BK103.out⟩, ⟨by (with_reducible repeat (first | refine blk_drewN ?_ _ | refine blk_drew ?_ | refine blk_alloc ?_ _)); exact BK104.out⟩, ⟨by repeat (first | (with_reducible first | exact HB.out | apply below_alloc | apply pw_below_drewN | apply below_drew1 | refine below_set ?_ GE103.out | refine below_set ?_ GE104.out) | exact HB.out)⟩⟩
      · rw [if_neg c5] at H
        have c5b0 : decide (x6_1 < a1) = false := decide_eq_false c5
        clear c5
        by_cases c6 : a0_2 = 0
        · rw [if_pos c6] at H
          exact absurd H (by simp)
        · rw [if_neg c6] at H
          have c6b0 : (a0_2 == 0) = false := beq_eq_false_iff_ne.mpr c6
          have c6b1 : (a0_2 != 0) = true := bne_iff_ne.mpr c6
          obtain ⟨ji7, hji7⟩ : ∃ j_ : Int, (mn (wrap64 (Int.tdiv x5_1 a0_2)) 16) = j_ := ⟨_, rfl⟩
          replace H : (some (a0_0, a0_1, a0_2, a0_3, a1, ji7, wrap64 (x5_1 - (wrap64 ((ji7) * a0_2))))) = some (r1, r2, r3, r4, r5, r6, r7) := by first | (rw [hji7] at H; exact H) | (simp only [hji7] at H ⊢; exact H)
          have hji7_ : (if 16 < (wrap64 (Int.tdiv x5_1 a0_2)) then 16 else (wrap64 (Int.tdiv x5_1 a0_2))) = ji7 := hji7
          simp only [Option.some.injEq, Prod.mk.injEq] at H
          obtain ⟨rfl, rfl, rfl, rfl, rfl, rfl, rfl⟩ := H
          have hnb8 := NB103_104.out
          have hnc8 := NB104_103.out
          have hcz9_0 : wr.cell? ⟨gb103, 0, none⟩ = some (.int .i64 a0_0) := (blk_cell BK103.out 0).trans rfl
          have hcz9_1 : wr.cell? ⟨gb103, 1, none⟩ = some (.int .i64 a0_1) := (blk_cell BK103.out 1).trans rfl
          have hcz9_2 : wr.cell? ⟨gb103, 2, none⟩ = some (.int .i64 a0_2) := (blk_cell BK103.out 2).trans rfl
          have hcz9_3 : wr.cell? ⟨gb103, 3, none⟩ = some (.int .i64 a0_3) := (blk_cell BK103.out 3).trans rfl
          have hcz9_4 : wr.cell? ⟨gb103, 4, none⟩ = some (.int .i64 a0_4) := (blk_cell BK103.out 4).trans rfl
          have hcz9_5 : wr.cell? ⟨gb103, 5, none⟩ = some (.int .i64 a0_5) := (blk_cell BK103.out 5).trans rfl
          have hcz9_6 : wr.cell? ⟨gb103, 6, none⟩ = some (.int .i64 a0_6) := (blk_cell BK103.out 6).trans rfl
          have hfz9_0 := blk_frozen BK103.out 0
          have hfz9_1 := blk_frozen BK103.out 1
          have hfz9_2 := blk_frozen BK103.out 2
          have hfz9_3 := blk_frozen BK103.out 3
          have hfz9_4 := blk_frozen BK103.out 4
          have hfz9_5 := blk_frozen BK103.out 5
          have hfz9_6 := blk_frozen BK103.out 6
          have hcz10_0 : wr.cell? ⟨gb104, 0, none⟩ = some (.int .i64 0) := (blk_cell BK104.out 0).trans rfl
          have hcz10_1 : wr.cell? ⟨gb104, 1, none⟩ = some (.int .i64 0) := (blk_cell BK104.out 1).trans rfl
          have hcz10_2 : wr.cell? ⟨gb104, 2, none⟩ = some (.int .i64 0) := (blk_cell BK104.out 2).trans rfl
          have hcz10_3 : wr.cell? ⟨gb104, 3, none⟩ = some (.int .i64 0) := (blk_cell BK104.out 3).trans rfl
          have hcz10_4 : wr.cell? ⟨gb104, 4, none⟩ = some (.int .i64 0) := (blk_cell BK104.out 4).trans rfl
          have hcz10_5 : wr.cell? ⟨gb104, 5, none⟩ = some (.int .i64 0) := (blk_cell BK104.out 5).trans rfl
          have hcz10_6 : wr.cell? ⟨gb104, 6, none⟩ = some (.int .i64 0) := (blk_cell BK104.out 6).trans rfl
          have hfz10_0 := blk_frozen BK104.out 0
          have hfz10_1 := blk_frozen BK104.out 1
          have hfz10_2 := blk_frozen BK104.out 2
          have hfz10_3 := blk_frozen BK104.out 3
          have hfz10_4 := blk_frozen BK104.out 4
          have hfz10_5 := blk_frozen BK104.out 5
          have hfz10_6 := blk_frozen BK104.out 6
          go_wp2
          refine bodyPost_ret (results_cell_row rfl _ _ gb104 23 #[.int .i64 a0_0, .int .i64 a0_1, .int .i64 a0_2, .int .i64 a0_3, .int .i64 a1, .int .i64 ji7, .int .i64 (wrap64 (x5_1 - (wrap64 ((ji7) * a0_2))))] (0, 0) _ rfl (by (with_reducible repeat (first | refine blk_drewN ?_ _ | refine blk_drew ?_ | refine blk_alloc ?_ _)); refine blk_put (cs := #[.int .i64 a0_0, .int .i64 a0_1, .int .i64 a0_2, .int .i64 a0_3, .int .i64 a1, .int .i64 ji7, .int .i64 0]) ?_ 6 _ rfl; (with_reducible repeat (first | refine blk_drewN ?_ _ | refine blk_drew ?_ | refine blk_alloc ?_ _)); refine blk_put (cs := #[.int .i64 a0_0, .int .i64 a0_1, .int .i64 a0_2, .int .i64 a0_3, .int .i64 a1, .int .i64 0, .int .i64 0]) ?_ 5 _ rfl; (with_reducible repeat (first | refine blk_drewN ?_ _ | refine blk_drew ?_ | refine blk_alloc ?_ _)); refine blk_put (cs := #[.int .i64 a0_0, .int .i64 a0_1, .int .i64 a0_2, .int .i64 a0_3, .int .i64 0, .int .i64 0, .int .i64 0]) ?_ 4 _ rfl; (with_reducible repeat (first | refine blk_drewN ?_ _ | refine blk_drew ?_ | refine blk_alloc ?_ _)); refine blk_put (cs := #[.int .i64 a0_0, .int .i64 a0_1, .int .i64 a0_2, .int .i64 0, .int .i64 0, .int .i64 0, .int .i64 0]) ?_ 3 _ rfl; (with_reducible repeat (first | refine blk_drewN ?_ _ | refine blk_drew ?_ | refine blk_alloc ?_ _)); refine blk_put (cs := #[.int .i64 a0_0, .int .i64 a0_1, .int .i64 0, .int .i64 0, .int .i64 0, .int .i64 0, .int .i64 0]) ?_ 2 _ rfl; (with_reducible repeat (first | refine blk_drewN ?_ _ | refine blk_drew ?_ | refine blk_alloc ?_ _)); refine blk_put (cs := #[.int .i64 a0_0, .int .i64 0, .int .i64 0, .int .i64 0, .int .i64 0, .int .i64 0, .int .i64 0]) ?_ 1 _ rfl; (with_reducible repeat (first | refine blk_drewN ?_ _ | refine blk_drew ?_ | refine blk_alloc ?_ _)); refine blk_put (cs := #[.int .i64 0, .int .i64 0, .int .i64 0, .int .i64 0, .int .i64 0, .int .i64 0, .int .i64 0]) ?_ 0 _ rfl; (with_reducible repeat (first | refine blk_drewN ?_ _ | refine blk_drew ?_ | refine blk_alloc ?_ _)); refine blk_far ?_ NB104_103.out _; (with_reducible repeat (first | refine blk_drewN ?_ _ | refine blk_drew ?_ | refine blk_alloc ?_ _)); refine blk_far ?_ NB104_103.out _; (with_reducible repeat (first | refine blk_drewN ?_ _ | refine blk_drew ?_ | refine blk_alloc ?_ _)); refine blk_far ?_ NB104_103.out _; (with_reducible repeat (first | refine blk_drewN ?_ _ | refine blk_drew ?_ | refine blk_alloc ?_ _)); exact BK104.out) Try.underlying23 rfl (by kernel_rfl)) rfl ?_
          exact ⟨by first | rfl | (simp [errW_none, errW_some] <;> rfl) | (simp only [← hji7]; first | rfl | (simp [errW_none, errW_some] <;> rfl)) | (simp [*, errW_none, errW_some] <;> rfl), by repeat (first | (with_reducible first | exact HB.out | apply below_alloc | apply pw_below_drewN | apply below_drew1 | refine below_set ?_ GE103.out | refine below_set ?_ GE104.out) | exact HB.out)⟩

end Go.Proofs.Ytanolcldeeglmaa.G
