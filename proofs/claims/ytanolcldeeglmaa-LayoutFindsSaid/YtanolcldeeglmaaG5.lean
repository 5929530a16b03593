/- What Go functions of the seat compute: each as a plain Lean function, and that its call answers just that. Written by a program of this session (wip/own_print.py). -/
import Derived.Test.YtanolcldeeglmaaG0
import Derived.Test.YtanolcldeeglmaaG2
import Derived.Test.YtanolcldeeglmaaG3
import Derived.Test.YtanolcldeeglmaaG4
namespace Go.Proofs.Ytanolcldeeglmaa.G
open Go.RowKit Go.Proofs.YtanolcldeeglmaaW.PrintWords Go.Proofs.YtanolcldeeglmaaW.PrintLast Go.Proofs.YtanolcldeeglmaaW.PrintMore
attribute [local go_sem] max2_int min2_int max_two min_two max_three min_three max_four min_four   -- for this text's walks alone
set_option linter.unusedVariables false
set_option linter.unusedSimpArgs false

/-! ### wainscotlaw15_LayoutApart: function 4 -/
def wainscotlaw15_LayoutApart.l0 : Nat → Bool → Int → Int → Int → Int → Int → Int → Int → Int → Int → Int → Int → Int → Option (Bool)
  | 0, _, _, _, _, _, _, _, _, _, _, _, _, _ => none
  | k + 1, x2, x7, x8, x11, x12, x13, x147000, x147001, x147002, x147003, x147004, x147005, x147006 => if x13 < x147005 then ((layout_At.f x147000 x147001 x147002 x147003 x147004 x147005 x147006 x13).bind fun bt150 => (if x2 = true then (if bt150.2 = 0 then (if x8 = 0 then (none) else (if (Int.tmod bt150.1 x8) = 0 then (if (wrap64 (bt150.1 - 8)) < x12 then (some false) else (if (wrap64 ((wrap64 (bt150.1 + x7)) + 8)) > x11 then (some false) else (wainscotlaw15_LayoutApart.l0 k x2 x7 x8 x11 (wrap64 ((wrap64 (bt150.1 + x7)) + 8)) (wrap64 (x13 + 1)) x147000 x147001 x147002 x147003 x147004 x147005 x147006))) else (some false))) else (some false)) else (if bt150.2 = 0 then (if x8 = 0 then (none) else (if (Int.tmod bt150.1 x8) = 0 then (if bt150.1 < x12 then (some false) else (if (wrap64 (bt150.1 + x7)) > x11 then (some false) else (wainscotlaw15_LayoutApart.l0 k x2 x7 x8 x11 (wrap64 (bt150.1 + x7)) (wrap64 (x13 + 1)) x147000 x147001 x147002 x147003 x147004 x147005 x147006))) else (some false))) else (some false)))) else (if x147005 ≥ 1 then (if x147005 ≤ 16 then (if x147006 = (wrap64 (x11 - (wrap64 (x147005 * x147002)))) then (if x147004 ≥ 0 then (if x147004 ≤ 3 then ((wainscotlaw15_works.f).bind fun t149 => (some t149)) else (some false)) else (some false)) else (some false)) else (some false)) else (some false))
def wainscotlaw15_LayoutApart.f (k : Nat) (a0 : Int) (a1 : Int) (a2 : Bool) : Option (Bool) := (wainscotref00_Bring.f a0 2048).bind fun t136 => ((wainscotref00_Bring.f a1 7).bind fun t137 => (if 0 ≤ t137 then ((layout_Of.f (wrap64 (1 + t136)) (shl .i64 1 t137) a2).bind fun bt138 => (if bt138.2.2.2.2.2.2.2 = 0 then ((wainscotref00_Bring.f bt138.2.2.2.2.1 4).bind fun t148 => (if 0 ≤ t148 then (wainscotlaw15_LayoutApart.l0 k a2 (wrap64 (1 + t136)) (shl .i64 1 t137) (shl .i64 256 t148) 0 0 bt138.1 bt138.2.1 bt138.2.2.1 bt138.2.2.2.1 bt138.2.2.2.2.1 bt138.2.2.2.2.2.1 bt138.2.2.2.2.2.2.1) else (none))) else (if bt138.2.2.2.2.2.2.2 = 150 then (if a2 = true then ((wainscotlaw15_works.f).bind fun t147 => (some t147)) else (some false)) else (some false)))) else (none)))
theorem wainscotlaw15_LayoutApart.mono_l : ∀ k, (∀ y0 y1 y2 y3 y4 y5 y6 y7 y8 y9 y10 y11 y12, LeO (wainscotlaw15_LayoutApart.l0 k y0 y1 y2 y3 y4 y5 y6 y7 y8 y9 y10 y11 y12) (wainscotlaw15_LayoutApart.l0 (k + 1) y0 y1 y2 y3 y4 y5 y6 y7 y8 y9 y10 y11 y12))
  | 0 => fun _ _ _ _ _ _ _ _ _ _ _ _ _ r h => by simp [wainscotlaw15_LayoutApart.l0] at h
  | k + 1 => by
    have ih0 := wainscotlaw15_LayoutApart.mono_l k
    · intro y0 y1 y2 y3 y4 y5 y6 y7 y8 y9 y10 y11 y12
      unfold wainscotlaw15_LayoutApart.l0
      repeat' first
      | (with_reducible exact ih0 _ _ _ _ _ _ _ _ _ _ _ _ _)
      | (with_reducible exact LeO.refl _)
      | (with_reducible exact LeO.none _)
      | (with_reducible refine LeO.ite ?_ ?_)
      | (with_reducible refine LeO.bind ?_ (fun _ => ?_))
      | exact ih0 _ _ _ _ _ _ _ _ _ _ _ _ _
      | exact LeO.none _
      | refine LeO.ite ?_ ?_
      | refine LeO.bind ?_ (fun _ => ?_)
theorem wainscotlaw15_LayoutApart.mono : ∀ a0 a1 a2 k, LeO (wainscotlaw15_LayoutApart.f k a0 a1 a2) (wainscotlaw15_LayoutApart.f (k + 1) a0 a1 a2) := by
  intro a0 a1 a2 k
  have ih0 := wainscotlaw15_LayoutApart.mono_l k
  unfold wainscotlaw15_LayoutApart.f
  repeat' first
      | (with_reducible exact ih0 _ _ _ _ _ _ _ _ _ _ _ _ _)
      | (with_reducible exact LeO.refl _)
      | (with_reducible exact LeO.none _)
      | (with_reducible refine LeO.ite ?_ ?_)
      | (with_reducible refine LeO.bind ?_ (fun _ => ?_))
      | exact ih0 _ _ _ _ _ _ _ _ _ _ _ _ _
      | exact LeO.none _
      | refine LeO.ite ?_ ?_
      | refine LeO.bind ?_ (fun _ => ?_)
set_option maxHeartbeats 8000000 in
set_option maxRecDepth 100000 in
theorem wainscotlaw15_LayoutApart.calls (k : Nat) (a0 : Int) (a1 : Int) (a2 : Bool) (r : Bool) (w : World) (h : wainscotlaw15_LayoutApart.f k a0 a1 a2 = some r) :
    Calls Try.prog 4 #[.int .i64 a0, .int .i64 a1, .bool a2] w fun e w' => e = .returned (.bool r) ∧ Below w.heap.size w w' := by
  have hu23 := Try.underlying23
  have HB := Aside0.mk (Below.refl w.heap.size w)
  have H : ((wainscotref00_Bring.f a0 2048).bind fun t136 => ((wainscotref00_Bring.f a1 7).bind fun t137 => (if 0 ≤ t137 then ((layout_Of.f (wrap64 (1 + t136)) (shl .i64 1 t137) a2).bind fun bt138 => (if bt138.2.2.2.2.2.2.2 = 0 then ((wainscotref00_Bring.f bt138.2.2.2.2.1 4).bind fun t148 => (if 0 ≤ t148 then (wainscotlaw15_LayoutApart.l0 k a2 (wrap64 (1 + t136)) (shl .i64 1 t137) (shl .i64 256 t148) 0 0 bt138.1 bt138.2.1 bt138.2.2.1 bt138.2.2.2.1 bt138.2.2.2.2.1 bt138.2.2.2.2.2.1 bt138.2.2.2.2.2.2.1) else (none))) else (if bt138.2.2.2.2.2.2.2 = 150 then (if a2 = true then ((wainscotlaw15_works.f).bind fun t147 => (some t147)) else (some false)) else (some false)))) else (none)))) = some r := h
  clear h
  replace H := Option.bind_eq_some_iff.mp H
  obtain ⟨t136, A40, H⟩ := H
  replace H : ((wainscotref00_Bring.f a1 7).bind fun t137 => (if 0 ≤ t137 then ((layout_Of.f (wrap64 (1 + t136)) (shl .i64 1 t137) a2).bind fun bt138 => (if bt138.2.2.2.2.2.2.2 = 0 then ((wainscotref00_Bring.f bt138.2.2.2.2.1 4).bind fun t148 => (if 0 ≤ t148 then (wainscotlaw15_LayoutApart.l0 k a2 (wrap64 (1 + t136)) (shl .i64 1 t137) (shl .i64 256 t148) 0 0 bt138.1 bt138.2.1 bt138.2.2.1 bt138.2.2.2.1 bt138.2.2.2.2.1 bt138.2.2.2.2.2.1 bt138.2.2.2.2.2.2.1) else (none))) else (if bt138.2.2.2.2.2.2.2 = 150 then (if a2 = true then ((wainscotlaw15_works.f).bind fun t147 => (some t147)) else (some false)) else (some false)))) else (none))) = some r := H
  have A4 := Aside0.mk A40
  clear A40
  replace H := Option.bind_eq_some_iff.mp H
  obtain ⟨t137, A50, H⟩ := H
  replace H : (if 0 ≤ t137 then ((layout_Of.f (wrap64 (1 + t136)) (shl .i64 1 t137) a2).bind fun bt138 => (if bt138.2.2.2.2.2.2.2 = 0 then ((wainscotref00_Bring.f bt138.2.2.2.2.1 4).bind fun t148 => (if 0 ≤ t148 then (wainscotlaw15_LayoutApart.l0 k a2 (wrap64 (1 + t136)) (shl .i64 1 t137) (shl .i64 256 t148) 0 0 bt138.1 bt138.2.1 bt138.2.2.1 bt138.2.2.2.1 bt138.2.2.2.2.1 bt138.2.2.2.2.2.1 bt138.2.2.2.2.2.2.1) else (none))) else (if bt138.2.2.2.2.2.2.2 = 150 then (if a2 = true then ((wainscotlaw15_works.f).bind fun t147 => (some t147)) else (some false)) else (some false)))) else (none)) = some r := H
  have A5 := Aside0.mk A50
  clear A50
  by_cases c6 : 0 ≤ t137
  · rw [if_pos c6] at H
    have c6b0 := eq_true c6
    have c6b1 : decide (0 ≤ t137) = true := decide_eq_true c6
    clear c6
    obtain ⟨ji7, hji7⟩ : ∃ j_ : Int, (shl .i64 1 t137) = j_ := ⟨_, rfl⟩
    replace H : ((layout_Of.f (wrap64 (1 + t136)) (ji7) a2).bind fun bt138 => (if bt138.2.2.2.2.2.2.2 = 0 then ((wainscotref00_Bring.f bt138.2.2.2.2.1 4).bind fun t148 => (if 0 ≤ t148 then (wainscotlaw15_LayoutApart.l0 k a2 (wrap64 (1 + t136)) ji7 (shl .i64 256 t148) 0 0 bt138.1 bt138.2.1 bt138.2.2.1 bt138.2.2.2.1 bt138.2.2.2.2.1 bt138.2.2.2.2.2.1 bt138.2.2.2.2.2.2.1) else (none))) else (if bt138.2.2.2.2.2.2.2 = 150 then (if a2 = true then ((wainscotlaw15_works.f).bind fun t147 => (some t147)) else (some false)) else (some false)))) = some r := by first | (rw [hji7] at H; exact H) | (simp only [hji7] at H ⊢; exact H)
    (try rw [hji7] at A4)
    (try rw [hji7] at A5)
    have hji7_ : (IntKind.i64.wrap (1 * 2 ^ min t137.toNat 64)) = ji7 := hji7
    have hji7z : t137 ≤ 64 → (IntKind.i64.wrap (1 * 2 ^ t137.toNat)) = ji7 := shl_small hji7
    have hji7u : (IntKind.i64.wrap (2 ^ min t137.toNat 64)) = ji7 := by have h_ := hji7_; rw [Int.one_mul] at h_; exact h_
    have hji7v : t137 ≤ 64 → (IntKind.i64.wrap (2 ^ t137.toNat)) = ji7 := fun hle_ => by have h_ := hji7z hle_; rw [Int.one_mul] at h_; exact h_
    have hji7y : (wrap64 (1 * 2 ^ min t137.toNat 64)) = ji7 := (i64_w _).symm.trans hji7_
    have hji7x : t137 ≤ 64 → (wrap64 (1 * 2 ^ t137.toNat)) = ji7 := fun h_ => (i64_w _).symm.trans (hji7z h_)
    replace H := Option.bind_eq_some_iff.mp H
    obtain ⟨⟨t138, t139, t140, t141, t142, t143, t144, t145⟩, A80, H⟩ := H
    replace H : (if t145 = 0 then ((wainscotref00_Bring.f t142 4).bind fun t148 => (if 0 ≤ t148 then (wainscotlaw15_LayoutApart.l0 k a2 (wrap64 (1 + t136)) ji7 (shl .i64 256 t148) 0 0 t138 t139 t140 t141 t142 t143 t144) else (none))) else (if t145 = 150 then (if a2 = true then ((wainscotlaw15_works.f).bind fun t147 => (some t147)) else (some false)) else (some false))) = some r := H
    have A8 := Aside0.mk A80
    clear A80
    by_cases c9 : t145 = 0
    · rw [if_pos c9] at H
      have c9b0 : (t145 == 0) = true := beq_iff_eq.mpr c9
      have c9b1 : (t145 != 0) = false := bne_eq_false_iff_eq.mpr c9
      clear c9
      replace H := Option.bind_eq_some_iff.mp H
      obtain ⟨t148, A100, H⟩ := H
      replace H : (if 0 ≤ t148 then (wainscotlaw15_LayoutApart.l0 k a2 (wrap64 (1 + t136)) ji7 (shl .i64 256 t148) 0 0 t138 t139 t140 t141 t142 t143 t144) else (none)) = some r := H
      have A10 := Aside0.mk A100
      clear A100
      by_cases c11 : 0 ≤ t148
      · rw [if_pos c11] at H
        have c11b0 := eq_true c11
        have c11b1 : decide (0 ≤ t148) = true := decide_eq_true c11
        clear c11
        obtain ⟨ji12, hji12⟩ : ∃ j_ : Int, (shl .i64 256 t148) = j_ := ⟨_, rfl⟩
        replace H : (wainscotlaw15_LayoutApart.l0 k a2 (wrap64 (1 + t136)) ji7 ji12 0 0 t138 t139 t140 t141 t142 t143 t144) = some r := by first | (rw [hji12] at H; exact H) | (simp only [hji12] at H ⊢; exact H)
        (try rw [hji12] at A4)
        (try rw [hji12] at A5)
        (try rw [hji12] at A8)
        (try rw [hji12] at A10)
        have hji12_ : (IntKind.i64.wrap (256 * 2 ^ min t148.toNat 64)) = ji12 := hji12
        have hji12z : t148 ≤ 64 → (IntKind.i64.wrap (256 * 2 ^ t148.toNat)) = ji12 := shl_small hji12
        have hji12y : (wrap64 (256 * 2 ^ min t148.toNat 64)) = ji12 := (i64_w _).symm.trans hji12_
        have hji12x : t148 ≤ 64 → (wrap64 (256 * 2 ^ t148.toNat)) = ji12 := fun h_ => (i64_w _).symm.trans (hji12z h_)
        have H' := Aside0.mk H
        clear H
        go_enter Try.func4, Try.ntmps4
        go_wp2_with (first | (go_at_call 11; (with_reducible refine (wainscotref00_Bring.calls a0 2048 t136 _ A4.out).mono ?_); rintro e w' ⟨rfl, ⟨nd, rfl⟩⟩; (try first | exact ⟨rfl, _, World.drewN_drewN _ _ _⟩ | exact ⟨rfl, _, Eq.trans (World.drewN_drewN _ _ _) (congrArg (World.drewN _) (Nat.add_assoc _ _ _))⟩)) | (go_at_call 11; (with_reducible refine (wainscotref00_Bring.calls a1 7 t137 _ A5.out).mono ?_); rintro e w' ⟨rfl, ⟨nd, rfl⟩⟩; (try first | exact ⟨rfl, _, World.drewN_drewN _ _ _⟩ | exact ⟨rfl, _, Eq.trans (World.drewN_drewN _ _ _) (congrArg (World.drewN _) (Nat.add_assoc _ _ _))⟩)) | (go_at_call 8; (with_reducible refine (layout_Of.calls (wrap64 (1 + t136)) ji7 a2 t138 t139 t140 t141 t142 t143 t144 t145 _ A8.out).mono ?_); rintro e w13 ⟨rfl, hb⟩; have n0_ := Aside0.mk (below_step (by repeat (first | (with_reducible first | exact HB.out | apply below_alloc | apply pw_below_drewN | apply below_drew1) | exact HB.out)) hb); clear HB; have HB := n0_; clear n0_; (try clear hb); (try clear hb2); (try clear hk); (try clear hi)) | ((with_reducible refine gate_dst (N := 9) rfl ?_); refine box_event ?hg (N := 9) ?hd (cs := #[.int .i64 0, .int .i64 0, .int .i64 0, .int .i64 0, .int .i64 0, .int .i64 0, .int .i64 0]) (t := 23) ?hr ?_; (case hd => rfl); (case hg => rfl); (case hr => first | (go_simp; done) | (go_simp; rfl)); intro gb146 hg w14 hbox hb; have n0_ := Aside0.mk (below_step (by repeat (first | (with_reducible first | exact HB.out | apply below_alloc | apply pw_below_drewN | apply below_drew1) | exact HB.out)) hb); have n1_ := Aside0.mk (hbox); have n2_ := Aside0.mk ((by rw [hg]; exact (below_size (by repeat (first | (with_reducible first | exact HB.out | apply below_alloc | apply pw_below_drewN | apply below_drew1) | exact HB.out))) : w.heap.size ≤ gb146)); have n3_ := Aside0.mk ((by rw [hg]; exact (below_size (by repeat (first | (with_reducible first | exact HB.out | apply below_alloc | apply pw_below_drewN | apply below_drew1) | exact HB.out))) : w.heap.size ≤ gb146)); clear HB; have HB := n0_; have BK146 := n1_; have GW146 := n2_; have GE146 := n3_; clear n0_ n1_ n2_ n3_; clear hb hbox hg; have hcz15_0 : w14.cell? ⟨gb146, 0, none⟩ = some (.int .i64 0) := (blk_cell BK146.out 0).trans rfl; have hcz15_1 : w14.cell? ⟨gb146, 1, none⟩ = some (.int .i64 0) := (blk_cell BK146.out 1).trans rfl; have hcz15_2 : w14.cell? ⟨gb146, 2, none⟩ = some (.int .i64 0) := (blk_cell BK146.out 2).trans rfl; have hcz15_3 : w14.cell? ⟨gb146, 3, none⟩ = some (.int .i64 0) := (blk_cell BK146.out 3).trans rfl; have hcz15_4 : w14.cell? ⟨gb146, 4, none⟩ = some (.int .i64 0) := (blk_cell BK146.out 4).trans rfl; have hcz15_5 : w14.cell? ⟨gb146, 5, none⟩ = some (.int .i64 0) := (blk_cell BK146.out 5).trans rfl; have hcz15_6 : w14.cell? ⟨gb146, 6, none⟩ = some (.int .i64 0) := (blk_cell BK146.out 6).trans rfl; have hfz15_0 := blk_frozen BK146.out 0; have hfz15_1 := blk_frozen BK146.out 1; have hfz15_2 := blk_frozen BK146.out 2; have hfz15_3 := blk_frozen BK146.out 3; have hfz15_4 := blk_frozen BK146.out 4; have hfz15_5 := blk_frozen BK146.out 5; have hfz15_6 := blk_frozen BK146.out 6) | (go_at_call 11; (with_reducible refine (wainscotref00_Bring.calls t142 4 t148 _ A10.out).mono ?_); rintro e w' ⟨rfl, ⟨nd, rfl⟩⟩; (try first | exact ⟨rfl, _, World.drewN_drewN _ _ _⟩ | exact ⟨rfl, _, Eq.trans (World.drewN_drewN _ _ _) (congrArg (World.drewN _) (Nat.add_assoc _ _ _))⟩)))
        repeat (go_quiet (first | (go_at_call 11; (with_reducible refine (wainscotref00_Bring.calls a0 2048 t136 _ A4.out).mono ?_); rintro e w' ⟨rfl, ⟨nd, rfl⟩⟩; (try first | exact ⟨rfl, _, World.drewN_drewN _ _ _⟩ | exact ⟨rfl, _, Eq.trans (World.drewN_drewN _ _ _) (congrArg (World.drewN _) (Nat.add_assoc _ _ _))⟩)) | (go_at_call 11; (with_reducible refine (wainscotref00_Bring.calls a1 7 t137 _ A5.out).mono ?_); rintro e w' ⟨rfl, ⟨nd, rfl⟩⟩; (try first | exact ⟨rfl, _, World.drewN_drewN _ _ _⟩ | exact ⟨rfl, _, Eq.trans (World.drewN_drewN _ _ _) (congrArg (World.drewN _) (Nat.add_assoc _ _ _))⟩)) | (go_at_call 8; (with_reducible refine (layout_Of.calls (wrap64 (1 + t136)) ji7 a2 t138 t139 t140 t141 t142 t143 t144 t145 _ A8.out).mono ?_); rintro e w13 ⟨rfl, hb⟩; have n0_ := Aside0.mk (below_step (by repeat (first | (with_reducible first | exact HB.out | apply below_alloc | apply pw_below_drewN | apply below_drew1) | exact HB.out)) hb); clear HB; have HB := n0_; clear n0_; (try clear hb); (try clear hb2); (try clear hk); (try clear hi)) | ((with_reducible refine gate_dst (N := 9) rfl ?_); refine box_event ?hg (N := 9) ?hd (cs := #[.int .i64 0, .int .i64 0, .int .i64 0, .int .i64 0, .int .i64 0, .int .i64 0, .int .i64 0]) (t := 23) ?hr ?_; (case hd => rfl); (case hg => rfl); (case hr => first | (go_simp; done) | (go_simp; rfl)); intro gb146 hg w14 hbox hb; have n0_ := Aside0.mk (below_step (by repeat (first | (with_reducible first | exact HB.out | apply below_alloc | apply pw_below_drewN | apply below_drew1) | exact HB.out)) hb); have n1_ := Aside0.mk (hbox); have n2_ := Aside0.mk ((by rw [hg]; exact (below_size (by repeat (first | (with_reducible first | exact HB.out | apply below_alloc | apply pw_below_drewN | apply below_drew1) | exact HB.out))) : w.heap.size ≤ gb146)); have n3_ := Aside0.mk ((by rw [hg]; exact (below_size (by repeat (first | (with_reducible first | exact HB.out | apply below_alloc | apply pw_below_drewN | apply below_drew1) | exact HB.out))) : w.heap.size ≤ gb146)); clear HB; have HB := n0_; have BK146 := n1_; have GW146 := n2_; have GE146 := n3_; clear n0_ n1_ n2_ n3_; clear hb hbox hg; have hcz15_0 : w14.cell? ⟨gb146, 0, none⟩ = some (.int .i64 0) := (blk_cell BK146.out 0).trans rfl; have hcz15_1 : w14.cell? ⟨gb146, 1, none⟩ = some (.int .i64 0) := (blk_cell BK146.out 1).trans rfl; have hcz15_2 : w14.cell? ⟨gb146, 2, none⟩ = some (.int .i64 0) := (blk_cell BK146.out 2).trans rfl; have hcz15_3 : w14.cell? ⟨gb146, 3, none⟩ = some (.int .i64 0) := (blk_cell BK146.out 3).trans rfl; have hcz15_4 : w14.cell? ⟨gb146, 4, none⟩ = some (.int .i64 0) := (blk_cell BK146.out 4).trans rfl; have hcz15_5 : w14.cell? ⟨gb146, 5, none⟩ = some (.int .i64 0) := (blk_cell BK146.out 5).trans rfl; have hcz15_6 : w14.cell? ⟨gb146, 6, none⟩ = some (.int .i64 0) := (blk_cell BK146.out 6).trans rfl; have hfz15_0 := blk_frozen BK146.out 0; have hfz15_1 := blk_frozen BK146.out 1; have hfz15_2 := blk_frozen BK146.out 2; have hfz15_3 := blk_frozen BK146.out 3; have hfz15_4 := blk_frozen BK146.out 4; have hfz15_5 := blk_frozen BK146.out 5; have hfz15_6 := blk_frozen BK146.out 6) | (go_at_call 11; (with_reducible refine (wainscotref00_Bring.calls t142 4 t148 _ A10.out).mono ?_); rintro e w' ⟨rfl, ⟨nd, rfl⟩⟩; (try first | exact ⟨rfl, _, World.drewN_drewN _ _ _⟩ | exact ⟨rfl, _, Eq.trans (World.drewN_drewN _ _ _) (congrArg (World.drewN _) (Nat.add_assoc _ _ _))⟩))); try go_wp2_with (first | (go_at_call 11; (with_reducible refine (wainscotref00_Bring.calls a0 2048 t136 _ A4.out).mono ?_); rintro e w' ⟨rfl, ⟨nd, rfl⟩⟩; (try first | exact ⟨rfl, _, World.drewN_drewN _ _ _⟩ | exact ⟨rfl, _, Eq.trans (World.drewN_drewN _ _ _) (congrArg (World.drewN _) (Nat.add_assoc _ _ _))⟩)) | (go_at_call 11; (with_reducible refine (wainscotref00_Bring.calls a1 7 t137 _ A5.out).mono ?_); rintro e w' ⟨rfl, ⟨nd, rfl⟩⟩; (try first | exact ⟨rfl, _, World.drewN_drewN _ _ _⟩ | exact ⟨rfl, _, Eq.trans (World.drewN_drewN _ _ _) (congrArg (World.drewN _) (Nat.add_assoc _ _ _))⟩)) | (go_at_call 8; (with_reducible refine (layout_Of.calls (wrap64 (1 + t136)) ji7 a2 t138 t139 t140 t141 t142 t143 t144 t145 _ A8.out).mono ?_); rintro e w13 ⟨rfl, hb⟩; have n0_ := Aside0.mk (below_step (by repeat (first | (with_reducible first | exact HB.out | apply below_alloc | apply pw_below_drewN | apply below_drew1) | exact HB.out)) hb); clear HB; have HB := n0_; clear n0_; (try clear hb); (try clear hb2); (try clear hk); (try clear hi)) | ((with_reducible refine gate_dst (N := 9) rfl ?_); refine box_event ?hg (N := 9) ?hd (cs := #[.int .i64 0, .int .i64 0, .int .i64 0, .int .i64 0, .int .i64 0, .int .i64 0, .int .i64 0]) (t := 23) ?hr ?_; (case hd => rfl); (case hg => rfl); (case hr => first | (go_simp; done) | (go_simp; rfl)); intro gb146 hg w14 hbox hb; have n0_ := Aside0.mk (below_step (by repeat (first | (with_reducible first | exact HB.out | apply below_alloc | apply pw_below_drewN | apply below_drew1) | exact HB.out)) hb); have n1_ := Aside0.mk (hbox); have n2_ := Aside0.mk ((by rw [hg]; exact (below_size (by repeat (first | (with_reducible first | exact HB.out | apply below_alloc | apply pw_below_drewN | apply below_drew1) | exact HB.out))) : w.heap.size ≤ gb146)); have n3_ := Aside0.mk ((by rw [hg]; exact (below_size (by repeat (first | (with_reducible first | exact HB.out | apply below_alloc | apply pw_below_drewN | apply below_drew1) | exact HB.out))) : w.heap.size ≤ gb146)); clear HB; have HB := n0_; have BK146 := n1_; have GW146 := n2_; have GE146 := n3_; clear n0_ n1_ n2_ n3_; clear hb hbox hg; have hcz15_0 : w14.cell? ⟨gb146, 0, none⟩ = some (.int .i64 0) := (blk_cell BK146.out 0).trans rfl; have hcz15_1 : w14.cell? ⟨gb146, 1, none⟩ = some (.int .i64 0) := (blk_cell BK146.out 1).trans rfl; have hcz15_2 : w14.cell? ⟨gb146, 2, none⟩ = some (.int .i64 0) := (blk_cell BK146.out 2).trans rfl; have hcz15_3 : w14.cell? ⟨gb146, 3, none⟩ = some (.int .i64 0) := (blk_cell BK146.out 3).trans rfl; have hcz15_4 : w14.cell? ⟨gb146, 4, none⟩ = some (.int .i64 0) := (blk_cell BK146.out 4).trans rfl; have hcz15_5 : w14.cell? ⟨gb146, 5, none⟩ = some (.int .i64 0) := (blk_cell BK146.out 5).trans rfl; have hcz15_6 : w14.cell? ⟨gb146, 6, none⟩ = some (.int .i64 0) := (blk_cell BK146.out 6).trans rfl; have hfz15_0 := blk_frozen BK146.out 0; have hfz15_1 := blk_frozen BK146.out 1; have hfz15_2 := blk_frozen BK146.out 2; have hfz15_3 := blk_frozen BK146.out 3; have hfz15_4 := blk_frozen BK146.out 4; have hfz15_5 := blk_frozen BK146.out 5; have hfz15_6 := blk_frozen BK146.out 6) | (go_at_call 11; (with_reducible refine (wainscotref00_Bring.calls t142 4 t148 _ A10.out).mono ?_); rintro e w' ⟨rfl, ⟨nd, rfl⟩⟩; (try first | exact ⟨rfl, _, World.drewN_drewN _ _ _⟩ | exact ⟨rfl, _, Eq.trans (World.drewN_drewN _ _ _) (congrArg (World.drewN _) (Nat.add_assoc _ _ _))⟩))))
        go_loopg [12, 13] k (fun kq v12 v13 w' => ∃ (x12_1 : Int) (x13_1 : Int), v12 = .int .i64 x12_1 ∧ v13 = .int .i64 x13_1 ∧ Aside0 (wainscotlaw15_LayoutApart.l0 kq a2 (wrap64 (1 + t136)) ji7 ji12 x12_1 x13_1 t138 t139 t140 t141 t142 t143 t144 = some r) ∧ Aside0 (kq ≤ k) ∧ Aside0 (w'.heap[gb146]? = some (.cells #[.int .i64 t138, .int .i64 t139, .int .i64 t140, .int .i64 t141, .int .i64 t142, .int .i64 t143, .int .i64 t144] 23 (0, 0))) ∧ Aside0 (Below w.heap.size w w'))
        case atStart => exact ⟨(0), (0), (by first | rfl | (simp; done) | (simp [*]; done)), (by first | rfl | (simp; done) | (simp [*]; done)), H', ⟨Nat.le_refl _⟩, ⟨by (with_reducible repeat (first | refine blk_drewN ?_ _ | refine blk_drew ?_ | refine blk_alloc ?_ _)); refine blk_put (cs := #[.int .i64 t138, .int .i64 t139, .int .i64 t140, .int .i64 t141, .int .i64 t142, .int .i64 t143, .int .i64 0]) ?_ 6 _ rfl; (with_reducible repeat (first | refine blk_drewN ?_ _ | refine blk_drew ?_ | refine blk_alloc ?_ _)); refine blk_put (cs := #[.int .i64 t138, .int .i64 t139, .int .i64 t140, .int .i64 t141, .int .i64 t142, .int .i64 0, .int .i64 0]) ?_ 5 _ rfl; (with_reducible repeat (first | refine blk_drewN ?_ _ | refine blk_drew ?_ | refine blk_alloc ?_ _)); refine blk_put (cs := #[.int .i64 t138, .int .i64 t139, .int .i64 t140, .int .i64 t141, .int .i64 0, .int .i64 0, .int .i64 0]) ?_ 4 _ rfl; (with_reducible repeat (first | refine blk_drewN ?_ _ | refine blk_drew ?_ | refine blk_alloc ?_ _)); refine blk_put (cs := #[.int .i64 t138, .int .i64 t139, .int .i64 t140, .int .i64 0, .int .i64 0, .int .i64 0, .int .i64 0]) ?_ 3 _ rfl; (with_reducible repeat (first | refine blk_drewN ?_ _ | refine blk_drew ?_ | refine blk_alloc ?_ _)); refine blk_put (cs := #[.int .i64 t138, .int .i64 t139, .int .i64 0, .int .i64 0, .int .i64 0, .int .i64 0, .int .i64 0]) ?_ 2 _ rfl; (with_reducible repeat (first | refine blk_drewN ?_ _ | refine blk_drew ?_ | refine blk_alloc ?_ _)); refine blk_put (cs := #[.int .i64 t138, .int .i64 0, .int .i64 0, .int .i64 0, .int .i64 0, .int .i64 0, .int .i64 0]) ?_ 1 _ rfl; (with_reducible repeat (first | refine blk_drewN ?_ _ | refine blk_drew ?_ | refine blk_alloc ?_ _)); refine blk_put (cs := #[.int .i64 0, .int .i64 0, .int .i64 0, .int .i64 0, .int .i64 0, .int .i64 0, .int .i64 0]) ?_ 0 _ rfl; (with_reducible repeat (first | refine blk_drewN ?_ _ | refine blk_drew ?_ | refine blk_alloc ?_ _)); exact BK146.out⟩, ⟨by repeat (first | (with_reducible first | exact HB.out | apply below_alloc | apply pw_below_drewN | apply below_drew1 | refine below_set ?_ GE146.out) | exact HB.out)⟩⟩
        case round =>
          clear H'
          try clear c1
          try clear p2
          try clear c4
          try clear c6
          try clear c6b0
          try clear c6b1
          try clear p6
          try clear c9
          try clear c9b0
          try clear c9b1
          try clear c11
          try clear c11b0
          try clear c11b1
          try clear hcz15_0
          try clear hcz15_1
          try clear hcz15_2
          try clear hcz15_3
          try clear hcz15_4
          try clear hcz15_5
          try clear hcz15_6
          try clear hfz15_0
          try clear hfz15_1
          try clear hfz15_2
          try clear hfz15_3
          try clear hfz15_4
          try clear hfz15_5
          try clear hfz15_6
          obtain ⟨x12_1, x13_1, rfl, rfl, HA, HK1, BK146, HB⟩ := hrel
          cases gk with
          | zero => exact absurd HA.out (by simp [wainscotlaw15_LayoutApart.l0])
          | succ k1 =>
            have H := HA.out
            clear HA
            simp only [wainscotlaw15_LayoutApart.l0] at H
            by_cases c16 : x13_1 < t143
            · rw [if_pos c16] at H
              have c16b0 : decide (x13_1 < t143) = true := decide_eq_true c16
              clear c16
              replace H := Option.bind_eq_some_iff.mp H
              obtain ⟨⟨t150, t151⟩, A170, H⟩ := H
              replace H : (if a2 = true then (if t151 = 0 then (if ji7 = 0 then (none) else (if (Int.tmod t150 ji7) = 0 then (if (wrap64 (t150 - 8)) < x12_1 then (some false) else (if (wrap64 ((wrap64 (t150 + (wrap64 (1 + t136)))) + 8)) > ji12 then (some false) else (wainscotlaw15_LayoutApart.l0 k1 a2 (wrap64 (1 + t136)) ji7 ji12 (wrap64 ((wrap64 (t150 + (wrap64 (1 + t136)))) + 8)) (wrap64 (x13_1 + 1)) t138 t139 t140 t141 t142 t143 t144))) else (some false))) else (some false)) else (if t151 = 0 then (if ji7 = 0 then (none) else (if (Int.tmod t150 ji7) = 0 then (if t150 < x12_1 then (some false) else (if (wrap64 (t150 + (wrap64 (1 + t136)))) > ji12 then (some false) else (wainscotlaw15_LayoutApart.l0 k1 a2 (wrap64 (1 + t136)) ji7 ji12 (wrap64 (t150 + (wrap64 (1 + t136)))) (wrap64 (x13_1 + 1)) t138 t139 t140 t141 t142 t143 t144))) else (some false))) else (some false))) = some r := H
              have A17 := Aside0.mk A170
              clear A170
              by_cases c18 : a2 = true
              · subst c18
                have H1 : (if t151 = 0 then (if ji7 = 0 then (none) else (if (Int.tmod t150 ji7) = 0 then (if (wrap64 (t150 - 8)) < x12_1 then (some false) else (if (wrap64 ((wrap64 (t150 + (wrap64 (1 + t136)))) + 8)) > ji12 then (some false) else (wainscotlaw15_LayoutApart.l0 k1 true (wrap64 (1 + t136)) ji7 ji12 (wrap64 ((wrap64 (t150 + (wrap64 (1 + t136)))) + 8)) (wrap64 (x13_1 + 1)) t138 t139 t140 t141 t142 t143 t144))) else (some false))) else (some false)) = some r := by rw [if_pos rfl] at H; exact H
                clear H
                have H := H1
                clear H1
                by_cases c19 : t151 = 0
                · rw [if_pos c19] at H
                  have c19b0 : (t151 == 0) = true := beq_iff_eq.mpr c19
                  have c19b1 : (t151 != 0) = false := bne_eq_false_iff_eq.mpr c19
                  clear c19
                  by_cases c20 : ji7 = 0
                  · rw [if_pos c20] at H
                    exact absurd H (by simp)
                  · rw [if_neg c20] at H
                    have c20b0 : (ji7 == 0) = false := beq_eq_false_iff_ne.mpr c20
                    have c20b1 : (ji7 != 0) = true := bne_iff_ne.mpr c20
                    by_cases c21 : (Int.tmod t150 ji7) = 0
                    · rw [if_pos c21] at H
                      have c21b0 : ((Int.tmod t150 ji7) == 0) = true := beq_iff_eq.mpr c21
                      have c21b1 : ((Int.tmod t150 ji7) != 0) = false := bne_eq_false_iff_eq.mpr c21
                      clear c21
                      by_cases c22 : (wrap64 (t150 - 8)) < x12_1
                      · rw [if_pos c22] at H
                        have c22b0 : decide ((wrap64 (t150 - 8)) < x12_1) = true := decide_eq_true c22
                        clear c22
                        obtain rfl := Option.some.inj H
                        have hcz23_0 : wr.cell? ⟨gb146, 0, none⟩ = some (.int .i64 t138) := (blk_cell BK146.out 0).trans rfl
                        have hcz23_1 : wr.cell? ⟨gb146, 1, none⟩ = some (.int .i64 t139) := (blk_cell BK146.out 1).trans rfl
                        have hcz23_2 : wr.cell? ⟨gb146, 2, none⟩ = some (.int .i64 t140) := (blk_cell BK146.out 2).trans rfl
                        have hcz23_3 : wr.cell? ⟨gb146, 3, none⟩ = some (.int .i64 t141) := (blk_cell BK146.out 3).trans rfl
                        have hcz23_4 : wr.cell? ⟨gb146, 4, none⟩ = some (.int .i64 t142) := (blk_cell BK146.out 4).trans rfl
                        have hcz23_5 : wr.cell? ⟨gb146, 5, none⟩ = some (.int .i64 t143) := (blk_cell BK146.out 5).trans rfl
                        have hcz23_6 : wr.cell? ⟨gb146, 6, none⟩ = some (.int .i64 t144) := (blk_cell BK146.out 6).trans rfl
                        have hfz23_0 := blk_frozen BK146.out 0
                        have hfz23_1 := blk_frozen BK146.out 1
                        have hfz23_2 := blk_frozen BK146.out 2
                        have hfz23_3 := blk_frozen BK146.out 3
                        have hfz23_4 := blk_frozen BK146.out 4
                        have hfz23_5 := blk_frozen BK146.out 5
                        have hfz23_6 := blk_frozen BK146.out 6
                        go_wp2_with (first | (go_at_call 12; (with_reducible refine (layout_At.calls t138 t139 t140 t141 t142 t143 t144 x13_1 t150 t151 _ A17.out).mono ?_); rintro e w24 ⟨rfl, hb⟩; have n0_ := Aside0.mk (blk_below (g := gb146) (o := .cells #[.int .i64 t138, .int .i64 t139, .int .i64 t140, .int .i64 t141, .int .i64 t142, .int .i64 t143, .int .i64 t144] 23 (0, 0)) (by (with_reducible repeat (first | refine blk_drewN ?_ _ | refine blk_drew ?_ | refine blk_alloc ?_ _)); exact BK146.out) hb); have n1_ := Aside0.mk (below_step (by repeat (first | (with_reducible first | exact HB.out | apply below_alloc | apply pw_below_drewN | apply below_drew1 | refine below_set ?_ GE146.out) | exact HB.out)) hb); clear BK146; clear HB; have BK146 := n0_; have HB := n1_; clear n0_ n1_; (try clear hb); (try clear hb2); (try clear hk); (try clear hi)))
                        repeat (go_quiet (first | (go_at_call 12; (with_reducible refine (layout_At.calls t138 t139 t140 t141 t142 t143 t144 x13_1 t150 t151 _ A17.out).mono ?_); rintro e w24 ⟨rfl, hb⟩; have n0_ := Aside0.mk (blk_below (g := gb146) (o := .cells #[.int .i64 t138, .int .i64 t139, .int .i64 t140, .int .i64 t141, .int .i64 t142, .int .i64 t143, .int .i64 t144] 23 (0, 0)) (by (with_reducible repeat (first | refine blk_drewN ?_ _ | refine blk_drew ?_ | refine blk_alloc ?_ _)); exact BK146.out) hb); have n1_ := Aside0.mk (below_step (by repeat (first | (with_reducible first | exact HB.out | apply below_alloc | apply pw_below_drewN | apply below_drew1 | refine below_set ?_ GE146.out) | exact HB.out)) hb); clear BK146; clear HB; have BK146 := n0_; have HB := n1_; clear n0_ n1_; (try clear hb); (try clear hb2); (try clear hk); (try clear hi))); try go_wp2_with (first | (go_at_call 12; (with_reducible refine (layout_At.calls t138 t139 t140 t141 t142 t143 t144 x13_1 t150 t151 _ A17.out).mono ?_); rintro e w24 ⟨rfl, hb⟩; have n0_ := Aside0.mk (blk_below (g := gb146) (o := .cells #[.int .i64 t138, .int .i64 t139, .int .i64 t140, .int .i64 t141, .int .i64 t142, .int .i64 t143, .int .i64 t144] 23 (0, 0)) (by (with_reducible repeat (first | refine blk_drewN ?_ _ | refine blk_drew ?_ | refine blk_alloc ?_ _)); exact BK146.out) hb); have n1_ := Aside0.mk (below_step (by repeat (first | (with_reducible first | exact HB.out | apply below_alloc | apply pw_below_drewN | apply below_drew1 | refine below_set ?_ GE146.out) | exact HB.out)) hb); clear BK146; clear HB; have BK146 := n0_; have HB := n1_; clear n0_ n1_; (try clear hb); (try clear hb2); (try clear hk); (try clear hi))))
                        go_ret
                        exact ⟨by first | rfl | (simp [errW_none, errW_some] <;> rfl) | (simp only [← hji7, ← hji12]; first | rfl | (simp [errW_none, errW_some] <;> rfl)) | (simp [*, errW_none, errW_some] <;> rfl), by repeat (first | (with_reducible first | exact HB.out | apply below_alloc | apply pw_below_drewN | apply below_drew1 | refine below_set ?_ GE146.out) | exact HB.out)⟩
                      · rw [if_neg c22] at H
                        have c22b0 : decide ((wrap64 (t150 - 8)) < x12_1) = false := decide_eq_false c22
                        clear c22
                        by_cases c25 : (wrap64 ((wrap64 (t150 + (wrap64 (1 + t136)))) + 8)) > ji12
                        · rw [if_pos c25] at H
                          have c25b0 : decide (ji12 < (wrap64 ((wrap64 (t150 + (wrap64 (1 + t136)))) + 8))) = true := decide_eq_true c25
                          clear c25
                          obtain rfl := Option.some.inj H
                          have hcz26_0 : wr.cell? ⟨gb146, 0, none⟩ = some (.int .i64 t138) := (blk_cell BK146.out 0).trans rfl
                          have hcz26_1 : wr.cell? ⟨gb146, 1, none⟩ = some (.int .i64 t139) := (blk_cell BK146.out 1).trans rfl
                          have hcz26_2 : wr.cell? ⟨gb146, 2, none⟩ = some (.int .i64 t140) := (blk_cell BK146.out 2).trans rfl
                          have hcz26_3 : wr.cell? ⟨gb146, 3, none⟩ = some (.int .i64 t141) := (blk_cell BK146.out 3).trans rfl
                          have hcz26_4 : wr.cell? ⟨gb146, 4, none⟩ = some (.int .i64 t142) := (blk_cell BK146.out 4).trans rfl
                          have hcz26_5 : wr.cell? ⟨gb146, 5, none⟩ = some (.int .i64 t143) := (blk_cell BK146.out 5).trans rfl
                          have hcz26_6 : wr.cell? ⟨gb146, 6, none⟩ = some (.int .i64 t144) := (blk_cell BK146.out 6).trans rfl
                          have hfz26_0 := blk_frozen BK146.out 0
                          have hfz26_1 := blk_frozen BK146.out 1
                          have hfz26_2 := blk_frozen BK146.out 2
                          have hfz26_3 := blk_frozen BK146.out 3
                          have hfz26_4 := blk_frozen BK146.out 4
                          have hfz26_5 := blk_frozen BK146.out 5
                          have hfz26_6 := blk_frozen BK146.out 6
                          go_wp2_with (first | (go_at_call 12; (with_reducible refine (layout_At.calls t138 t139 t140 t141 t142 t143 t144 x13_1 t150 t151 _ A17.out).mono ?_); rintro e w27 ⟨rfl, hb⟩; have n0_ := Aside0.mk (blk_below (g := gb146) (o := .cells #[.int .i64 t138, .int .i64 t139, .int .i64 t140, .int .i64 t141, .int .i64 t142, .int .i64 t143, .int .i64 t144] 23 (0, 0)) (by (with_reducible repeat (first | refine blk_drewN ?_ _ | refine blk_drew ?_ | refine blk_alloc ?_ _)); exact BK146.out) hb); have n1_ := Aside0.mk (below_step (by repeat (first | (with_reducible first | exact HB.out | apply below_alloc | apply pw_below_drewN | apply below_drew1 | refine below_set ?_ GE146.out) | exact HB.out)) hb); clear BK146; clear HB; have BK146 := n0_; have HB := n1_; clear n0_ n1_; (try clear hb); (try clear hb2); (try clear hk); (try clear hi)))
                          repeat (go_quiet (first | (go_at_call 12; (with_reducible refine (layout_At.calls t138 t139 t140 t141 t142 t143 t144 x13_1 t150 t151 _ A17.out).mono ?_); rintro e w27 ⟨rfl, hb⟩; have n0_ := Aside0.mk (blk_below (g := gb146) (o := .cells #[.int .i64 t138, .int .i64 t139, .int .i64 t140, .int .i64 t141, .int .i64 t142, .int .i64 t143, .int .i64 t144] 23 (0, 0)) (by (with_reducible repeat (first | refine blk_drewN ?_ _ | refine blk_drew ?_ | refine blk_alloc ?_ _)); exact BK146.out) hb); have n1_ := Aside0.mk (below_step (by repeat (first | (with_reducible first | exact HB.out | apply below_alloc | apply pw_below_drewN | apply below_drew1 | refine below_set ?_ GE146.out) | exact HB.out)) hb); clear BK146; clear HB; have BK146 := n0_; have HB := n1_; clear n0_ n1_; (try clear hb); (try clear hb2); (try clear hk); (try clear hi))); try go_wp2_with (first | (go_at_call 12; (with_reducible refine (layout_At.calls t138 t139 t140 t141 t142 t143 t144 x13_1 t150 t151 _ A17.out).mono ?_); rintro e w27 ⟨rfl, hb⟩; have n0_ := Aside0.mk (blk_below (g := gb146) (o := .cells #[.int .i64 t138, .int .i64 t139, .int .i64 t140, .int .i64 t141, .int .i64 t142, .int .i64 t143, .int .i64 t144] 23 (0, 0)) (by (with_reducible repeat (first | refine blk_drewN ?_ _ | refine blk_drew ?_ | refine blk_alloc ?_ _)); exact BK146.out) hb); have n1_ := Aside0.mk (below_step (by repeat (first | (with_reducible first | exact HB.out | apply below_alloc | apply pw_below_drewN | apply below_drew1 | refine below_set ?_ GE146.out) | exact HB.out)) hb); clear BK146; clear HB; have BK146 := n0_; have HB := n1_; clear n0_ n1_; (try clear hb); (try clear hb2); (try clear hk); (try clear hi))))
                          go_ret
                          exact ⟨by first | rfl | (simp [errW_none, errW_some] <;> rfl) | (simp only [← hji7, ← hji12]; first | rfl | (simp [errW_none, errW_some] <;> rfl)) | (simp [*, errW_none, errW_some] <;> rfl), by repeat (first | (with_reducible first | exact HB.out | apply below_alloc | apply pw_below_drewN | apply below_drew1 | refine below_set ?_ GE146.out) | exact HB.out)⟩
                        · rw [if_neg c25] at H
                          have c25b0 : decide (ji12 < (wrap64 ((wrap64 (t150 + (wrap64 (1 + t136)))) + 8))) = false := decide_eq_false c25
                          clear c25
                          have H' := Aside0.mk H
                          clear H
                          have hcz28_0 : wr.cell? ⟨gb146, 0, none⟩ = some (.int .i64 t138) := (blk_cell BK146.out 0).trans rfl
                          have hcz28_1 : wr.cell? ⟨gb146, 1, none⟩ = some (.int .i64 t139) := (blk_cell BK146.out 1).trans rfl
                          have hcz28_2 : wr.cell? ⟨gb146, 2, none⟩ = some (.int .i64 t140) := (blk_cell BK146.out 2).trans rfl
                          have hcz28_3 : wr.cell? ⟨gb146, 3, none⟩ = some (.int .i64 t141) := (blk_cell BK146.out 3).trans rfl
                          have hcz28_4 : wr.cell? ⟨gb146, 4, none⟩ = some (.int .i64 t142) := (blk_cell BK146.out 4).trans rfl
                          have hcz28_5 : wr.cell? ⟨gb146, 5, none⟩ = some (.int .i64 t143) := (blk_cell BK146.out 5).trans rfl
                          have hcz28_6 : wr.cell? ⟨gb146, 6, none⟩ = some (.int .i64 t144) := (blk_cell BK146.out 6).trans rfl
                          have hfz28_0 := blk_frozen BK146.out 0
                          have hfz28_1 := blk_frozen BK146.out 1
                          have hfz28_2 := blk_frozen BK146.out 2
                          have hfz28_3 := blk_frozen BK146.out 3
                          have hfz28_4 := blk_frozen BK146.out 4
                          have hfz28_5 := blk_frozen BK146.out 5
                          have hfz28_6 := blk_frozen BK146.out 6
                          go_wp2_with (first | (go_at_call 12; (with_reducible refine (layout_At.calls t138 t139 t140 t141 t142 t143 t144 x13_1 t150 t151 _ A17.out).mono ?_); rintro e w29 ⟨rfl, hb⟩; have n0_ := Aside0.mk (blk_below (g := gb146) (o := .cells #[.int .i64 t138, .int .i64 t139, .int .i64 t140, .int .i64 t141, .int .i64 t142, .int .i64 t143, .int .i64 t144] 23 (0, 0)) (by (with_reducible repeat (first | refine blk_drewN ?_ _ | refine blk_drew ?_ | refine blk_alloc ?_ _)); exact BK146.out) hb); have n1_ := Aside0.mk (below_step (by repeat (first | (with_reducible first | exact HB.out | apply below_alloc | apply pw_below_drewN | apply below_drew1 | refine below_set ?_ GE146.out) | exact HB.out)) hb); clear BK146; clear HB; have BK146 := n0_; have HB := n1_; clear n0_ n1_; (try clear hb); (try clear hb2); (try clear hk); (try clear hi)))
                          repeat (go_quiet (first | (go_at_call 12; (with_reducible refine (layout_At.calls t138 t139 t140 t141 t142 t143 t144 x13_1 t150 t151 _ A17.out).mono ?_); rintro e w29 ⟨rfl, hb⟩; have n0_ := Aside0.mk (blk_below (g := gb146) (o := .cells #[.int .i64 t138, .int .i64 t139, .int .i64 t140, .int .i64 t141, .int .i64 t142, .int .i64 t143, .int .i64 t144] 23 (0, 0)) (by (with_reducible repeat (first | refine blk_drewN ?_ _ | refine blk_drew ?_ | refine blk_alloc ?_ _)); exact BK146.out) hb); have n1_ := Aside0.mk (below_step (by repeat (first | (with_reducible first | exact HB.out | apply below_alloc | apply pw_below_drewN | apply below_drew1 | refine below_set ?_ GE146.out) | exact HB.out)) hb); clear BK146; clear HB; have BK146 := n0_; have HB := n1_; clear n0_ n1_; (try clear hb); (try clear hb2); (try clear hk); (try clear hi))); try go_wp2_with (first | (go_at_call 12; (with_reducible refine (layout_At.calls t138 t139 t140 t141 t142 t143 t144 x13_1 t150 t151 _ A17.out).mono ?_); rintro e w29 ⟨rfl, hb⟩; have n0_ := Aside0.mk (blk_below (g := gb146) (o := .cells #[.int .i64 t138, .int .i64 t139, .int .i64 t140, .int .i64 t141, .int .i64 t142, .int .i64 t143, .int .i64 t144] 23 (0, 0)) (by (with_reducible repeat (first | refine blk_drewN ?_ _ | refine blk_drew ?_ | refine blk_alloc ?_ _)); exact BK146.out) hb); have n1_ := Aside0.mk (below_step (by repeat (first | (with_reducible first | exact HB.out | apply below_alloc | apply pw_below_drewN | apply below_drew1 | refine below_set ?_ GE146.out) | exact HB.out)) hb); clear BK146; clear HB; have BK146 := n0_; have HB := n1_; clear n0_ n1_; (try clear hb); (try clear hb2); (try clear hk); (try clear hi))))
                          go_roundg k1
                          case measure => have := HK1.out; omega
                          case rel => exact ⟨(wrap64 ((wrap64 (t150 + (wrap64 (1 + t136)))) + 8)), (wrap64 (x13_1 + 1)), (by first | rfl | (simp; done) | (simp [*]; done)), (by first | rfl | (simp; done) | (simp [*]; done)), H', ⟨by have := HK1.out; omega⟩, ⟨by (with_reducible repeat (first | refine blk_drewN ?_ _ | refine blk_drew ?_ | refine blk_alloc ?_ _)); exact BK146.out⟩, ⟨by repeat (first | (with_reducible first | exact HB.out | apply below_alloc | apply pw_below_drewN | apply below_drew1 | refine below_set ?_ GE146.out) | exact HB.out)⟩⟩
                    · rw [if_neg c21] at H
                      have c21b0 : ((Int.tmod t150 ji7) == 0) = false := beq_eq_false_iff_ne.mpr c21
                      have c21b1 : ((Int.tmod t150 ji7) != 0) = true := bne_iff_ne.mpr c21
                      obtain rfl := Option.some.inj H
                      have hcz30_0 : wr.cell? ⟨gb146, 0, none⟩ = some (.int .i64 t138) := (blk_cell BK146.out 0).trans rfl
                      have hcz30_1 : wr.cell? ⟨gb146, 1, none⟩ = some (.int .i64 t139) := (blk_cell BK146.out 1).trans rfl
                      have hcz30_2 : wr.cell? ⟨gb146, 2, none⟩ = some (.int .i64 t140) := (blk_cell BK146.out 2).trans rfl
                      have hcz30_3 : wr.cell? ⟨gb146, 3, none⟩ = some (.int .i64 t141) := (blk_cell BK146.out 3).trans rfl
                      have hcz30_4 : wr.cell? ⟨gb146, 4, none⟩ = some (.int .i64 t142) := (blk_cell BK146.out 4).trans rfl
                      have hcz30_5 : wr.cell? ⟨gb146, 5, none⟩ = some (.int .i64 t143) := (blk_cell BK146.out 5).trans rfl
                      have hcz30_6 : wr.cell? ⟨gb146, 6, none⟩ = some (.int .i64 t144) := (blk_cell BK146.out 6).trans rfl
                      have hfz30_0 := blk_frozen BK146.out 0
                      have hfz30_1 := blk_frozen BK146.out 1
                      have hfz30_2 := blk_frozen BK146.out 2
                      have hfz30_3 := blk_frozen BK146.out 3
                      have hfz30_4 := blk_frozen BK146.out 4
                      have hfz30_5 := blk_frozen BK146.out 5
                      have hfz30_6 := blk_frozen BK146.out 6
                      go_wp2_with (first | (go_at_call 12; (with_reducible refine (layout_At.calls t138 t139 t140 t141 t142 t143 t144 x13_1 t150 t151 _ A17.out).mono ?_); rintro e w31 ⟨rfl, hb⟩; have n0_ := Aside0.mk (blk_below (g := gb146) (o := .cells #[.int .i64 t138, .int .i64 t139, .int .i64 t140, .int .i64 t141, .int .i64 t142, .int .i64 t143, .int .i64 t144] 23 (0, 0)) (by (with_reducible repeat (first | refine blk_drewN ?_ _ | refine blk_drew ?_ | refine blk_alloc ?_ _)); exact BK146.out) hb); have n1_ := Aside0.mk (below_step (by repeat (first | (with_reducible first | exact HB.out | apply below_alloc | apply pw_below_drewN | apply below_drew1 | refine below_set ?_ GE146.out) | exact HB.out)) hb); clear BK146; clear HB; have BK146 := n0_; have HB := n1_; clear n0_ n1_; (try clear hb); (try clear hb2); (try clear hk); (try clear hi)))
                      repeat (go_quiet (first | (go_at_call 12; (with_reducible refine (layout_At.calls t138 t139 t140 t141 t142 t143 t144 x13_1 t150 t151 _ A17.out).mono ?_); rintro e w31 ⟨rfl, hb⟩; have n0_ := Aside0.mk (blk_below (g := gb146) (o := .cells #[.int .i64 t138, .int .i64 t139, .int .i64 t140, .int .i64 t141, .int .i64 t142, .int .i64 t143, .int .i64 t144] 23 (0, 0)) (by (with_reducible repeat (first | refine blk_drewN ?_ _ | refine blk_drew ?_ | refine blk_alloc ?_ _)); exact BK146.out) hb); have n1_ := Aside0.mk (below_step (by repeat (first | (with_reducible first | exact HB.out | apply below_alloc | apply pw_below_drewN | apply below_drew1 | refine below_set ?_ GE146.out) | exact HB.out)) hb); clear BK146; clear HB; have BK146 := n0_; have HB := n1_; clear n0_ n1_; (try clear hb); (try clear hb2); (try clear hk); (try clear hi))); try go_wp2_with (first | (go_at_call 12; (with_reducible refine (layout_At.calls t138 t139 t140 t141 t142 t143 t144 x13_1 t150 t151 _ A17.out).mono ?_); rintro e w31 ⟨rfl, hb⟩; have n0_ := Aside0.mk (blk_below (g := gb146) (o := .cells #[.int .i64 t138, .int .i64 t139, .int .i64 t140, .int .i64 t141, .int .i64 t142, .int .i64 t143, .int .i64 t144] 23 (0, 0)) (by (with_reducible repeat (first | refine blk_drewN ?_ _ | refine blk_drew ?_ | refine blk_alloc ?_ _)); exact BK146.out) hb); have n1_ := Aside0.mk (below_step (by repeat (first | (with_reducible first | exact HB.out | apply below_alloc | apply pw_below_drewN | apply below_drew1 | refine below_set ?_ GE146.out) | exact HB.out)) hb); clear BK146; clear HB; have BK146 := n0_; have HB := n1_; clear n0_ n1_; (try clear hb); (try clear hb2); (try clear hk); (try clear hi))))
                      go_ret
                      exact ⟨by first | rfl | (simp [errW_none, errW_some] <;> rfl) | (simp only [← hji7, ← hji12]; first | rfl | (simp [errW_none, errW_some] <;> rfl)) | (simp [*, errW_none, errW_some] <;> rfl), by repeat (first | (with_reducible first | exact HB.out | apply below_alloc | apply pw_below_drewN | apply below_drew1 | refine below_set ?_ GE146.out) | exact HB.out)⟩
                · rw [if_neg c19] at H
                  have c19b0 : (t151 == 0) = false := beq_eq_false_iff_ne.mpr c19
                  have c19b1 : (t151 != 0) = true := bne_iff_ne.mpr c19
                  obtain rfl := Option.some.inj H
                  have hcz32_0 : wr.cell? ⟨gb146, 0, none⟩ = some (.int .i64 t138) := (blk_cell BK146.out 0).trans rfl
                  have hcz32_1 : wr.cell? ⟨gb146, 1, none⟩ = some (.int .i64 t139) := (blk_cell BK146.out 1).trans rfl
                  have hcz32_2 : wr.cell? ⟨gb146, 2, none⟩ = some (.int .i64 t140) := (blk_cell BK146.out 2).trans rfl
                  have hcz32_3 : wr.cell? ⟨gb146, 3, none⟩ = some (.int .i64 t141) := (blk_cell BK146.out 3).trans rfl
                  have hcz32_4 : wr.cell? ⟨gb146, 4, none⟩ = some (.int .i64 t142) := (blk_cell BK146.out 4).trans rfl
                  have hcz32_5 : wr.cell? ⟨gb146, 5, none⟩ = some (.int .i64 t143) := (blk_cell BK146.out 5).trans rfl
                  have hcz32_6 : wr.cell? ⟨gb146, 6, none⟩ = some (.int .i64 t144) := (blk_cell BK146.out 6).trans rfl
                  have hfz32_0 := blk_frozen BK146.out 0
                  have hfz32_1 := blk_frozen BK146.out 1
                  have hfz32_2 := blk_frozen BK146.out 2
                  have hfz32_3 := blk_frozen BK146.out 3
                  have hfz32_4 := blk_frozen BK146.out 4
                  have hfz32_5 := blk_frozen BK146.out 5
                  have hfz32_6 := blk_frozen BK146.out 6
                  go_wp2_with (first | (go_at_call 12; (with_reducible refine (layout_At.calls t138 t139 t140 t141 t142 t143 t144 x13_1 t150 t151 _ A17.out).mono ?_); rintro e w33 ⟨rfl, hb⟩; have n0_ := Aside0.mk (blk_below (g := gb146) (o := .cells #[.int .i64 t138, .int .i64 t139, .int .i64 t140, .int .i64 t141, .int .i64 t142, .int .i64 t143, .int .i64 t144] 23 (0, 0)) (by (with_reducible repeat (first | refine blk_drewN ?_ _ | refine blk_drew ?_ | refine blk_alloc ?_ _)); exact BK146.out) hb); have n1_ := Aside0.mk (below_step (by repeat (first | (with_reducible first | exact HB.out | apply below_alloc | apply pw_below_drewN | apply below_drew1 | refine below_set ?_ GE146.out) | exact HB.out)) hb); clear BK146; clear HB; have BK146 := n0_; have HB := n1_; clear n0_ n1_; (try clear hb); (try clear hb2); (try clear hk); (try clear hi)))
                  repeat (go_quiet (first | (go_at_call 12; (with_reducible refine (layout_At.calls t138 t139 t140 t141 t142 t143 t144 x13_1 t150 t151 _ A17.out).mono ?_); rintro e w33 ⟨rfl, hb⟩; have n0_ := Aside0.mk (blk_below (g := gb146) (o := .cells #[.int .i64 t138, .int .i64 t139, .int .i64 t140, .int .i64 t141, .int .i64 t142, .int .i64 t143, .int .i64 t144] 23 (0, 0)) (by (with_reducible repeat (first | refine blk_drewN ?_ _ | refine blk_drew ?_ | refine blk_alloc ?_ _)); exact BK146.out) hb); have n1_ := Aside0.mk (below_step (by repeat (first | (with_reducible first | exact HB.out | apply below_alloc | apply pw_below_drewN | apply below_drew1 | refine below_set ?_ GE146.out) | exact HB.out)) hb); clear BK146; clear HB; have BK146 := n0_; have HB := n1_; clear n0_ n1_; (try clear hb); (try clear hb2); (try clear hk); (try clear hi))); try go_wp2_with (first | (go_at_call 12; (with_reducible refine (layout_At.calls t138 t139 t140 t141 t142 t143 t144 x13_1 t150 t151 _ A17.out).mono ?_); rintro e w33 ⟨rfl, hb⟩; have n0_ := Aside0.mk (blk_below (g := gb146) (o := .cells #[.int .i64 t138, .int .i64 t139, .int .i64 t140, .int .i64 t141, .int .i64 t142, .int .i64 t143, .int .i64 t144] 23 (0, 0)) (by (with_reducible repeat (first | refine blk_drewN ?_ _ | refine blk_drew ?_ | refine blk_alloc ?_ _)); exact BK146.out) hb); have n1_ := Aside0.mk (below_step (by repeat (first | (with_reducible first | exact HB.out | apply below_alloc | apply pw_below_drewN | apply below_drew1 | refine below_set ?_ GE146.out) | exact HB.out)) hb); clear BK146; clear HB; have BK146 := n0_; have HB := n1_; clear n0_ n1_; (try clear hb); (try clear hb2); (try clear hk); (try clear hi))))
                  go_ret
                  exact ⟨by first | rfl | (simp [errW_none, errW_some] <;> rfl) | (simp only [← hji7, ← hji12]; first | rfl | (simp [errW_none, errW_some] <;> rfl)) | (simp [*, errW_none, errW_some] <;> rfl), by repeat (first | (with_reducible first | exact HB.out | apply below_alloc | apply pw_below_drewN | apply below_drew1 | refine below_set ?_ GE146.out) | exact HB.out)⟩
              · replace c18 := Bool.eq_false_iff.mpr c18
                subst c18
                have H1 : (if t151 = 0 then (if ji7 = 0 then (none) else (if (Int.tmod t150 ji7) = 0 then (if t150 < x12_1 then (some false) else (if (wrap64 (t150 + (wrap64 (1 + t136)))) > ji12 then (some false) else (wainscotlaw15_LayoutApart.l0 k1 false (wrap64 (1 + t136)) ji7 ji12 (wrap64 (t150 + (wrap64 (1 + t136)))) (wrap64 (x13_1 + 1)) t138 t139 t140 t141 t142 t143 t144))) else (some false))) else (some false)) = some r := by rw [if_neg (show ¬ (false = true) by decide)] at H; exact H
                clear H
                have H := H1
                clear H1
                by_cases c34 : t151 = 0
                · rw [if_pos c34] at H
                  have c34b0 : (t151 == 0) = true := beq_iff_eq.mpr c34
                  have c34b1 : (t151 != 0) = false := bne_eq_false_iff_eq.mpr c34
                  clear c34
                  by_cases c35 : ji7 = 0
                  · rw [if_pos c35] at H
                    exact absurd H (by simp)
                  · rw [if_neg c35] at H
                    have c35b0 : (ji7 == 0) = false := beq_eq_false_iff_ne.mpr c35
                    have c35b1 : (ji7 != 0) = true := bne_iff_ne.mpr c35
                    by_cases c36 : (Int.tmod t150 ji7) = 0
                    · rw [if_pos c36] at H
                      have c36b0 : ((Int.tmod t150 ji7) == 0) = true := beq_iff_eq.mpr c36
                      have c36b1 : ((Int.tmod t150 ji7) != 0) = false := bne_eq_false_iff_eq.mpr c36
                      clear c36
                      by_cases c37 : t150 < x12_1
                      · rw [if_pos c37] at H
                        have c37b0 : decide (t150 < x12_1) = true := decide_eq_true c37
                        clear c37
                        obtain rfl := Option.some.inj H
                        have hcz38_0 : wr.cell? ⟨gb146, 0, none⟩ = some (.int .i64 t138) := (blk_cell BK146.out 0).trans rfl
                        have hcz38_1 : wr.cell? ⟨gb146, 1, none⟩ = some (.int .i64 t139) := (blk_cell BK146.out 1).trans rfl
                        have hcz38_2 : wr.cell? ⟨gb146, 2, none⟩ = some (.int .i64 t140) := (blk_cell BK146.out 2).trans rfl
                        have hcz38_3 : wr.cell? ⟨gb146, 3, none⟩ = some (.int .i64 t141) := (blk_cell BK146.out 3).trans rfl
                        have hcz38_4 : wr.cell? ⟨gb146, 4, none⟩ = some (.int .i64 t142) := (blk_cell BK146.out 4).trans rfl
                        have hcz38_5 : wr.cell? ⟨gb146, 5, none⟩ = some (.int .i64 t143) := (blk_cell BK146.out 5).trans rfl
                        have hcz38_6 : wr.cell? ⟨gb146, 6, none⟩ = some (.int .i64 t144) := (blk_cell BK146.out 6).trans rfl
                        have hfz38_0 := blk_frozen BK146.out 0
                        have hfz38_1 := blk_frozen BK146.out 1
                        have hfz38_2 := blk_frozen BK146.out 2
                        have hfz38_3 := blk_frozen BK146.out 3
                        have hfz38_4 := blk_frozen BK146.out 4
                        have hfz38_5 := blk_frozen BK146.out 5
                        have hfz38_6 := blk_frozen BK146.out 6
                        go_wp2_with (first | (go_at_call 12; (with_reducible refine (layout_At.calls t138 t139 t140 t141 t142 t143 t144 x13_1 t150 t151 _ A17.out).mono ?_); rintro e w39 ⟨rfl, hb⟩; have n0_ := Aside0.mk (blk_below (g := gb146) (o := .cells #[.int .i64 t138, .int .i64 t139, .int .i64 t140, .int .i64 t141, .int .i64 t142, .int .i64 t143, .int .i64 t144] 23 (0, 0)) (by (with_reducible repeat (first | refine blk_drewN ?_ _ | refine blk_drew ?_ | refine blk_alloc ?_ _)); exact BK146.out) hb); have n1_ := Aside0.mk (below_step (by repeat (first | (with_reducible first | exact HB.out | apply below_alloc | apply pw_below_drewN | apply below_drew1 | refine below_set ?_ GE146.out) | exact HB.out)) hb); clear BK146; clear HB; have BK146 := n0_; have HB := n1_; clear n0_ n1_; (try clear hb); (try clear hb2); (try clear hk); (try clear hi)))
                        repeat (go_quiet (first | (go_at_call 12; (with_reducible refine (layout_At.calls t138 t139 t140 t141 t142 t143 t144 x13_1 t150 t151 _ A17.out).mono ?_); rintro e w39 ⟨rfl, hb⟩; have n0_ := Aside0.mk (blk_below (g := gb146) (o := .cells #[.int .i64 t138, .int .i64 t139, .int .i64 t140, .int .i64 t141, .int .i64 t142, .int .i64 t143, .int .i64 t144] 23 (0, 0)) (by (with_reducible repeat (first | refine blk_drewN ?_ _ | refine blk_drew ?_ | refine blk_alloc ?_ _)); exact BK146.out) hb); have n1_ := Aside0.mk (below_step (by repeat (first | (with_reducible first | exact HB.out | apply below_alloc | apply pw_below_drewN | apply below_drew1 | refine below_set ?_ GE146.out) | exact HB.out)) hb); clear BK146; clear HB; have BK146 := n0_; have HB := n1_; clear n0_ n1_; (try clear hb); (try clear hb2); (try clear hk); (try clear hi))); try go_wp2_with (first | (go_at_call 12; (with_reducible refine (layout_At.calls t138 t139 t140 t141 t142 t143 t144 x13_1 t150 t151 _ A17.out).mono ?_); rintro e w39 ⟨rfl, hb⟩; have n0_ := Aside0.mk (blk_below (g := gb146) (o := .cells #[.int .i64 t138, .int .i64 t139, .int .i64 t140, .int .i64 t141, .int .i64 t142, .int .i64 t143, .int .i64 t144] 23 (0, 0)) (by (with_reducible repeat (first | refine blk_drewN ?_ _ | refine blk_drew ?_ | refine blk_alloc ?_ _)); exact BK146.out) hb); have n1_ := Aside0.mk (below_step (by repeat (first | (with_reducible first | exact HB.out | apply below_alloc | apply pw_below_drewN | apply below_drew1 | refine below_set ?_ GE146.out) | exact HB.out)) hb); clear BK146; clear HB; have BK146 := n0_; have HB := n1_; clear n0_ n1_; (try clear hb); (try clear hb2); (try clear hk); (try clear hi))))
                        go_ret
                        exact ⟨by first | rfl | (simp [errW_none, errW_some] <;> rfl) | (simp only [← hji7, ← hji12]; first | rfl | (simp [errW_none, errW_some] <;> rfl)) | (simp [*, errW_none, errW_some] <;> rfl), by repeat (first | (with_reducible first | exact HB.out | apply below_alloc | apply pw_below_drewN | apply below_drew1 | refine below_set ?_ GE146.out) | exact HB.out)⟩
                      · rw [if_neg c37] at H
                        have c37b0 : decide (t150 < x12_1) = false := decide_eq_false c37
                        clear c37
                        by_cases c40 : (wrap64 (t150 + (wrap64 (1 + t136)))) > ji12
                        · rw [if_pos c40] at H
                          have c40b0 : decide (ji12 < (wrap64 (t150 + (wrap64 (1 + t136))))) = true := decide_eq_true c40
                          clear c40
                          obtain rfl := Option.some.inj H
                          have hcz41_0 : wr.cell? ⟨gb146, 0, none⟩ = some (.int .i64 t138) := (blk_cell BK146.out 0).trans rfl
                          have hcz41_1 : wr.cell? ⟨gb146, 1, none⟩ = some (.int .i64 t139) := (blk_cell BK146.out 1).trans rfl
                          have hcz41_2 : wr.cell? ⟨gb146, 2, none⟩ = some (.int .i64 t140) := (blk_cell BK146.out 2).trans rfl
                          have hcz41_3 : wr.cell? ⟨gb146, 3, none⟩ = some (.int .i64 t141) := (blk_cell BK146.out 3).trans rfl
                          have hcz41_4 : wr.cell? ⟨gb146, 4, none⟩ = some (.int .i64 t142) := (blk_cell BK146.out 4).trans rfl
                          have hcz41_5 : wr.cell? ⟨gb146, 5, none⟩ = some (.int .i64 t143) := (blk_cell BK146.out 5).trans rfl
                          have hcz41_6 : wr.cell? ⟨gb146, 6, none⟩ = some (.int .i64 t144) := (blk_cell BK146.out 6).trans rfl
                          have hfz41_0 := blk_frozen BK146.out 0
                          have hfz41_1 := blk_frozen BK146.out 1
                          have hfz41_2 := blk_frozen BK146.out 2
                          have hfz41_3 := blk_frozen BK146.out 3
                          have hfz41_4 := blk_frozen BK146.out 4
                          have hfz41_5 := blk_frozen BK146.out 5
                          have hfz41_6 := blk_frozen BK146.out 6
                          go_wp2_with (first | (go_at_call 12; (with_reducible refine (layout_At.calls t138 t139 t140 t141 t142 t143 t144 x13_1 t150 t151 _ A17.out).mono ?_); rintro e w42 ⟨rfl, hb⟩; have n0_ := Aside0.mk (blk_below (g := gb146) (o := .cells #[.int .i64 t138, .int .i64 t139, .int .i64 t140, .int .i64 t141, .int .i64 t142, .int .i64 t143, .int .i64 t144] 23 (0, 0)) (by (with_reducible repeat (first | refine blk_drewN ?_ _ | refine blk_drew ?_ | refine blk_alloc ?_ _)); exact BK146.out) hb); have n1_ := Aside0.mk (below_step (by repeat (first | (with_reducible first | exact HB.out | apply below_alloc | apply pw_below_drewN | apply below_drew1 | refine below_set ?_ GE146.out) | exact HB.out)) hb); clear BK146; clear HB; have BK146 := n0_; have HB := n1_; clear n0_ n1_; (try clear hb); (try clear hb2); (try clear hk); (try clear hi)))
                          repeat (go_quiet (first | (go_at_call 12; (with_reducible refine (layout_At.calls t138 t139 t140 t141 t142 t143 t144 x13_1 t150 t151 _ A17.out).mono ?_); rintro e w42 ⟨rfl, hb⟩; have n0_ := Aside0.mk (blk_below (g := gb146) (o := .cells #[.int .i64 t138, .int .i64 t139, .int .i64 t140, .int .i64 t141, .int .i64 t142, .int .i64 t143, .int .i64 t144] 23 (0, 0)) (by (with_reducible repeat (first | refine blk_drewN ?_ _ | refine blk_drew ?_ | refine blk_alloc ?_ _)); exact BK146.out) hb); have n1_ := Aside0.mk (below_step (by repeat (first | (with_reducible first | exact HB.out | apply below_alloc | apply pw_below_drewN | apply below_drew1 | refine below_set ?_ GE146.out) | exact HB.out)) hb); clear BK146; clear HB; have BK146 := n0_; have HB := n1_; clear n0_ n1_; (try clear hb); (try clear hb2); (try clear hk); (try clear hi))); try go_wp2_with (first | (go_at_call 12; (with_reducible refine (layout_At.calls t138 t139 t140 t141 t142 t143 t144 x13_1 t150 t151 _ A17.out).mono ?_); rintro e w42 ⟨rfl, hb⟩; have n0_ := Aside0.mk (blk_below (g := gb146) (o := .cells #[.int .i64 t138, .int .i64 t139, .int .i64 t140, .int .i64 t141, .int .i64 t142, .int .i64 t143, .int .i64 t144] 23 (0, 0)) (by (with_reducible repeat (first | refine blk_drewN ?_ _ | refine blk_drew ?_ | refine blk_alloc ?_ _)); exact BK146.out) hb); have n1_ := Aside0.mk (below_step (by repeat (first | (with_reducible first | exact HB.out | apply below_alloc | apply pw_below_drewN | apply below_drew1 | refine below_set ?_ GE146.out) | exact HB.out)) hb); clear BK146; clear HB; have BK146 := n0_; have HB := n1_; clear n0_ n1_; (try clear hb); (try clear hb2); (try clear hk); (try clear hi))))
                          go_ret
                          exact ⟨by first | rfl | (simp [errW_none, errW_some] <;> rfl) | (simp only [← hji7, ← hji12]; first | rfl | (simp [errW_none, errW_some] <;> rfl)) | (simp [*, errW_none, errW_some] <;> rfl), by repeat (first | (with_reducible first | exact HB.out | apply below_alloc | apply pw_below_drewN | apply below_drew1 | refine below_set ?_ GE146.out) | exact HB.out)⟩
                        · rw [if_neg c40] at H
                          have c40b0 : decide (ji12 < (wrap64 (t150 + (wrap64 (1 + t136))))) = false := decide_eq_false c40
                          clear c40
                          have H' := Aside0.mk H
                          clear H
                          have hcz43_0 : wr.cell? ⟨gb146, 0, none⟩ = some (.int .i64 t138) := (blk_cell BK146.out 0).trans rfl
                          have hcz43_1 : wr.cell? ⟨gb146, 1, none⟩ = some (.int .i64 t139) := (blk_cell BK146.out 1).trans rfl
                          have hcz43_2 : wr.cell? ⟨gb146, 2, none⟩ = some (.int .i64 t140) := (blk_cell BK146.out 2).trans rfl
                          have hcz43_3 : wr.cell? ⟨gb146, 3, none⟩ = some (.int .i64 t141) := (blk_cell BK146.out 3).trans rfl
                          have hcz43_4 : wr.cell? ⟨gb146, 4, none⟩ = some (.int .i64 t142) := (blk_cell BK146.out 4).trans rfl
                          have hcz43_5 : wr.cell? ⟨gb146, 5, none⟩ = some (.int .i64 t143) := (blk_cell BK146.out 5).trans rfl
                          have hcz43_6 : wr.cell? ⟨gb146, 6, none⟩ = some (.int .i64 t144) := (blk_cell BK146.out 6).trans rfl
                          have hfz43_0 := blk_frozen BK146.out 0
                          have hfz43_1 := blk_frozen BK146.out 1
                          have hfz43_2 := blk_frozen BK146.out 2
                          have hfz43_3 := blk_frozen BK146.out 3
                          have hfz43_4 := blk_frozen BK146.out 4
                          have hfz43_5 := blk_frozen BK146.out 5
                          have hfz43_6 := blk_frozen BK146.out 6
                          go_wp2_with (first | (go_at_call 12; (with_reducible refine (layout_At.calls t138 t139 t140 t141 t142 t143 t144 x13_1 t150 t151 _ A17.out).mono ?_); rintro e w44 ⟨rfl, hb⟩; have n0_ := Aside0.mk (blk_below (g := gb146) (o := .cells #[.int .i64 t138, .int .i64 t139, .int .i64 t140, .int .i64 t141, .int .i64 t142, .int .i64 t143, .int .i64 t144] 23 (0, 0)) (by (with_reducible repeat (first | refine blk_drewN ?_ _ | refine blk_drew ?_ | refine blk_alloc ?_ _)); exact BK146.out) hb); have n1_ := Aside0.mk (below_step (by repeat (first | (with_reducible first | exact HB.out | apply below_alloc | apply pw_below_drewN | apply below_drew1 | refine below_set ?_ GE146.out) | exact HB.out)) hb); clear BK146; clear HB; have BK146 := n0_; have HB := n1_; clear n0_ n1_; (try clear hb); (try clear hb2); (try clear hk); (try clear hi)))
                          repeat (go_quiet (first | (go_at_call 12; (with_reducible refine (layout_At.calls t138 t139 t140 t141 t142 t143 t144 x13_1 t150 t151 _ A17.out).mono ?_); rintro e w44 ⟨rfl, hb⟩; have n0_ := Aside0.mk (blk_below (g := gb146) (o := .cells #[.int .i64 t138, .int .i64 t139, .int .i64 t140, .int .i64 t141, .int .i64 t142, .int .i64 t143, .int .i64 t144] 23 (0, 0)) (by (with_reducible repeat (first | refine blk_drewN ?_ _ | refine blk_drew ?_ | refine blk_alloc ?_ _)); exact BK146.out) hb); have n1_ := Aside0.mk (below_step (by repeat (first | (with_reducible first | exact HB.out | apply below_alloc | apply pw_below_drewN | apply below_drew1 | refine below_set ?_ GE146.out) | exact HB.out)) hb); clear BK146; clear HB; have BK146 := n0_; have HB := n1_; clear n0_ n1_; (try clear hb); (try clear hb2); (try clear hk); (try clear hi))); try go_wp2_with (first | (go_at_call 12; (with_reducible refine (layout_At.calls t138 t139 t140 t141 t142 t143 t144 x13_1 t150 t151 _ A17.out).mono ?_); rintro e w44 ⟨rfl, hb⟩; have n0_ := Aside0.mk (blk_below (g := gb146) (o := .cells #[.int .i64 t138, .int .i64 t139, .int .i64 t140, .int .i64 t141, .int .i64 t142, .int .i64 t143, .int .i64 t144] 23 (0, 0)) (by (with_reducible repeat (first | refine blk_drewN ?_ _ | refine blk_drew ?_ | refine blk_alloc ?_ _)); exact BK146.out) hb); have n1_ := Aside0.mk (below_step (by repeat (first | (with_reducible first | exact HB.out | apply below_alloc | apply pw_below_drewN | apply below_drew1 | refine below_set ?_ GE146.out) | exact HB.out)) hb); clear BK146; clear HB; have BK146 := n0_; have HB := n1_; clear n0_ n1_; (try clear hb); (try clear hb2); (try clear hk); (try clear hi))))
                          go_roundg k1
                          case measure => have := HK1.out; omega
                          case rel => exact ⟨(wrap64 (t150 + (wrap64 (1 + t136)))), (wrap64 (x13_1 + 1)), (by first | rfl | (simp; done) | (simp [*]; done)), (by first | rfl | (simp; done) | (simp [*]; done)), H', ⟨by have := HK1.out; omega⟩, ⟨by (with_reducible repeat (first | refine blk_drewN ?_ _ | refine blk_drew ?_ | refine blk_alloc ?_ _)); exact BK146.out⟩, ⟨by repeat (first | (with_reducible first | exact HB.out | apply below_alloc | apply pw_below_drewN | apply below_drew1 | refine below_set ?_ GE146.out) | exact HB.out)⟩⟩
                    · rw [if_neg c36] at H
                      have c36b0 : ((Int.tmod t150 ji7) == 0) = false := beq_eq_false_iff_ne.mpr c36
                      have c36b1 : ((Int.tmod t150 ji7) != 0) = true := bne_iff_ne.mpr c36
                      obtain rfl := Option.some.inj H
                      have hcz45_0 : wr.cell? ⟨gb146, 0, none⟩ = some (.int .i64 t138) := (blk_cell BK146.out 0).trans rfl
                      have hcz45_1 : wr.cell? ⟨gb146, 1, none⟩ = some (.int .i64 t139) := (blk_cell BK146.out 1).trans rfl
                      have hcz45_2 : wr.cell? ⟨gb146, 2, none⟩ = some (.int .i64 t140) := (blk_cell BK146.out 2).trans rfl
                      have hcz45_3 : wr.cell? ⟨gb146, 3, none⟩ = some (.int .i64 t141) := (blk_cell BK146.out 3).trans rfl
                      have hcz45_4 : wr.cell? ⟨gb146, 4, none⟩ = some (.int .i64 t142) := (blk_cell BK146.out 4).trans rfl
                      have hcz45_5 : wr.cell? ⟨gb146, 5, none⟩ = some (.int .i64 t143) := (blk_cell BK146.out 5).trans rfl
                      have hcz45_6 : wr.cell? ⟨gb146, 6, none⟩ = some (.int .i64 t144) := (blk_cell BK146.out 6).trans rfl
                      have hfz45_0 := blk_frozen BK146.out 0
                      have hfz45_1 := blk_frozen BK146.out 1
                      have hfz45_2 := blk_frozen BK146.out 2
                      have hfz45_3 := blk_frozen BK146.out 3
                      have hfz45_4 := blk_frozen BK146.out 4
                      have hfz45_5 := blk_frozen BK146.out 5
                      have hfz45_6 := blk_frozen BK146.out 6
                      go_wp2_with (first | (go_at_call 12; (with_reducible refine (layout_At.calls t138 t139 t140 t141 t142 t143 t144 x13_1 t150 t151 _ A17.out).mono ?_); rintro e w46 ⟨rfl, hb⟩; have n0_ := Aside0.mk (blk_below (g := gb146) (o := .cells #[.int .i64 t138, .int .i64 t139, .int .i64 t140, .int .i64 t141, .int .i64 t142, .int .i64 t143, .int .i64 t144] 23 (0, 0)) (by (with_reducible repeat (first | refine blk_drewN ?_ _ | refine blk_drew ?_ | refine blk_alloc ?_ _)); exact BK146.out) hb); have n1_ := Aside0.mk (below_step (by repeat (first | (with_reducible first | exact HB.out | apply below_alloc | apply pw_below_drewN | apply below_drew1 | refine below_set ?_ GE146.out) | exact HB.out)) hb); clear BK146; clear HB; have BK146 := n0_; have HB := n1_; clear n0_ n1_; (try clear hb); (try clear hb2); (try clear hk); (try clear hi)))
                      repeat (go_quiet (first | (go_at_call 12; (with_reducible refine (layout_At.calls t138 t139 t140 t141 t142 t143 t144 x13_1 t150 t151 _ A17.out).mono ?_); rintro e w46 ⟨rfl, hb⟩; have n0_ := Aside0.mk (blk_below (g := gb146) (o := .cells #[.int .i64 t138, .int .i64 t139, .int .i64 t140, .int .i64 t141, .int .i64 t142, .int .i64 t143, .int .i64 t144] 23 (0, 0)) (by (with_reducible repeat (first | refine blk_drewN ?_ _ | refine blk_drew ?_ | refine blk_alloc ?_ _)); exact BK146.out) hb); have n1_ := Aside0.mk (below_step (by repeat (first | (with_reducible first | exact HB.out | apply below_alloc | apply pw_below_drewN | apply below_drew1 | refine below_set ?_ GE146.out) | exact HB.out)) hb); clear BK146; clear HB; have BK146 := n0_; have HB := n1_; clear n0_ n1_; (try clear hb); (try clear hb2); (try clear hk); (try clear hi))); try go_wp2_with (first | (go_at_call 12; (with_reducible refine (layout_At.calls t138 t139 t140 t141 t142 t143 t144 x13_1 t150 t151 _ A17.out).mono ?_); rintro e w46 ⟨rfl, hb⟩; have n0_ := Aside0.mk (blk_below (g := gb146) (o := .cells #[.int .i64 t138, .int .i64 t139, .int .i64 t140, .int .i64 t141, .int .i64 t142, .int .i64 t143, .int .i64 t144] 23 (0, 0)) (by (with_reducible repeat (first | refine blk_drewN ?_ _ | refine blk_drew ?_ | refine blk_alloc ?_ _)); exact BK146.out) hb); have n1_ := Aside0.mk (below_step (by repeat (first | (with_reducible first | exact HB.out | apply below_alloc | apply pw_below_drewN | apply below_drew1 | refine below_set ?_ GE146.out) | exact HB.out)) hb); clear BK146; clear HB; have BK146 := n0_; have HB := n1_; clear n0_ n1_; (try clear hb); (try clear hb2); (try clear hk); (try clear hi))))
                      go_ret
                      exact ⟨by first | rfl | (simp [errW_none, errW_some] <;> rfl) | (simp only [← hji7, ← hji12]; first | rfl | (simp [errW_none, errW_some] <;> rfl)) | (simp [*, errW_none, errW_some] <;> rfl), by repeat (first | (with_reducible first | exact HB.out | apply below_alloc | apply pw_below_drewN | apply below_drew1 | refine below_set ?_ GE146.out) | exact HB.out)⟩
                · rw [if_neg c34] at H
                  have c34b0 : (t151 == 0) = false := beq_eq_false_iff_ne.mpr c34
                  have c34b1 : (t151 != 0) = true := bne_iff_ne.mpr c34
                  obtain rfl := Option.some.inj H
                  have hcz47_0 : wr.cell? ⟨gb146, 0, none⟩ = some (.int .i64 t138) := (blk_cell BK146.out 0).trans rfl
                  have hcz47_1 : wr.cell? ⟨gb146, 1, none⟩ = some (.int .i64 t139) := (blk_cell BK146.out 1).trans rfl
                  have hcz47_2 : wr.cell? ⟨gb146, 2, none⟩ = some (.int .i64 t140) := (blk_cell BK146.out 2).trans rfl
                  have hcz47_3 : wr.cell? ⟨gb146, 3, none⟩ = some (.int .i64 t141) := (blk_cell BK146.out 3).trans rfl
                  have hcz47_4 : wr.cell? ⟨gb146, 4, none⟩ = some (.int .i64 t142) := (blk_cell BK146.out 4).trans rfl
                  have hcz47_5 : wr.cell? ⟨gb146, 5, none⟩ = some (.int .i64 t143) := (blk_cell BK146.out 5).trans rfl
                  have hcz47_6 : wr.cell? ⟨gb146, 6, none⟩ = some (.int .i64 t144) := (blk_cell BK146.out 6).trans rfl
                  have hfz47_0 := blk_frozen BK146.out 0
                  have hfz47_1 := blk_frozen BK146.out 1
                  have hfz47_2 := blk_frozen BK146.out 2
                  have hfz47_3 := blk_frozen BK146.out 3
                  have hfz47_4 := blk_frozen BK146.out 4
                  have hfz47_5 := blk_frozen BK146.out 5
                  have hfz47_6 := blk_frozen BK146.out 6
                  go_wp2_with (first | (go_at_call 12; (with_reducible refine (layout_At.calls t138 t139 t140 t141 t142 t143 t144 x13_1 t150 t151 _ A17.out).mono ?_); rintro e w48 ⟨rfl, hb⟩; have n0_ := Aside0.mk (blk_below (g := gb146) (o := .cells #[.int .i64 t138, .int .i64 t139, .int .i64 t140, .int .i64 t141, .int .i64 t142, .int .i64 t143, .int .i64 t144] 23 (0, 0)) (by (with_reducible repeat (first | refine blk_drewN ?_ _ | refine blk_drew ?_ | refine blk_alloc ?_ _)); exact BK146.out) hb); have n1_ := Aside0.mk (below_step (by repeat (first | (with_reducible first | exact HB.out | apply below_alloc | apply pw_below_drewN | apply below_drew1 | refine below_set ?_ GE146.out) | exact HB.out)) hb); clear BK146; clear HB; have BK146 := n0_; have HB := n1_; clear n0_ n1_; (try clear hb); (try clear hb2); (try clear hk); (try clear hi)))
                  repeat (go_quiet (first | (go_at_call 12; (with_reducible refine (layout_At.calls t138 t139 t140 t141 t142 t143 t144 x13_1 t150 t151 _ A17.out).mono ?_); rintro e w48 ⟨rfl, hb⟩; have n0_ := Aside0.mk (blk_below (g := gb146) (o := .cells #[.int .i64 t138, .int .i64 t139, .int .i64 t140, .int .i64 t141, .int .i64 t142, .int .i64 t143, .int .i64 t144] 23 (0, 0)) (by (with_reducible repeat (first | refine blk_drewN ?_ _ | refine blk_drew ?_ | refine blk_alloc ?_ _)); exact BK146.out) hb); have n1_ := Aside0.mk (below_step (by repeat (first | (with_reducible first | exact HB.out | apply below_alloc | apply pw_below_drewN | apply below_drew1 | refine below_set ?_ GE146.out) | exact HB.out)) hb); clear BK146; clear HB; have BK146 := n0_; have HB := n1_; clear n0_ n1_; (try clear hb); (try clear hb2); (try clear hk); (try clear hi))); try go_wp2_with (first | (go_at_call 12; (with_reducible refine (layout_At.calls t138 t139 t140 t141 t142 t143 t144 x13_1 t150 t151 _ A17.out).mono ?_); rintro e w48 ⟨rfl, hb⟩; have n0_ := Aside0.mk (blk_below (g := gb146) (o := .cells #[.int .i64 t138, .int .i64 t139, .int .i64 t140, .int .i64 t141, .int .i64 t142, .int .i64 t143, .int .i64 t144] 23 (0, 0)) (by (with_reducible repeat (first | refine blk_drewN ?_ _ | refine blk_drew ?_ | refine blk_alloc ?_ _)); exact BK146.out) hb); have n1_ := Aside0.mk (below_step (by repeat (first | (with_reducible first | exact HB.out | apply below_alloc | apply pw_below_drewN | apply below_drew1 | refine below_set ?_ GE146.out) | exact HB.out)) hb); clear BK146; clear HB; have BK146 := n0_; have HB := n1_; clear n0_ n1_; (try clear hb); (try clear hb2); (try clear hk); (try clear hi))))
                  go_ret
                  exact ⟨by first | rfl | (simp [errW_none, errW_some] <;> rfl) | (simp only [← hji7, ← hji12]; first | rfl | (simp [errW_none, errW_some] <;> rfl)) | (simp [*, errW_none, errW_some] <;> rfl), by repeat (first | (with_reducible first | exact HB.out | apply below_alloc | apply pw_below_drewN | apply below_drew1 | refine below_set ?_ GE146.out) | exact HB.out)⟩
            · rw [if_neg c16] at H
              have c16b0 : decide (x13_1 < t143) = false := decide_eq_false c16
              clear c16
              by_cases c49 : t143 ≥ 1
              · rw [if_pos c49] at H
                have c49b0 : decide (1 ≤ t143) = true := decide_eq_true c49
                clear c49
                by_cases c50 : t143 ≤ 16
                · rw [if_pos c50] at H
                  have c50b0 : decide (t143 ≤ 16) = true := decide_eq_true c50
                  clear c50
                  by_cases c51 : t144 = (wrap64 (ji12 - (wrap64 (t143 * t140))))
                  · rw [if_pos c51] at H
                    have c51b0 : (t144 == (wrap64 (ji12 - (wrap64 (t143 * t140))))) = true := beq_iff_eq.mpr c51
                    have c51b1 : (t144 != (wrap64 (ji12 - (wrap64 (t143 * t140))))) = false := bne_eq_false_iff_eq.mpr c51
                    clear c51
                    by_cases c52 : t142 ≥ 0
                    · rw [if_pos c52] at H
                      have c52b0 : decide (0 ≤ t142) = true := decide_eq_true c52
                      clear c52
                      by_cases c53 : t142 ≤ 3
                      · rw [if_pos c53] at H
                        have c53b0 : decide (t142 ≤ 3) = true := decide_eq_true c53
                        clear c53
                        replace H := Option.bind_eq_some_iff.mp H
                        obtain ⟨t149, A540, H⟩ := H
                        replace H : (some t149) = some r := H
                        have A54 := Aside0.mk A540
                        clear A540
                        obtain rfl := Option.some.inj H
                        have hcz55_0 : wr.cell? ⟨gb146, 0, none⟩ = some (.int .i64 t138) := (blk_cell BK146.out 0).trans rfl
                        have hcz55_1 : wr.cell? ⟨gb146, 1, none⟩ = some (.int .i64 t139) := (blk_cell BK146.out 1).trans rfl
                        have hcz55_2 : wr.cell? ⟨gb146, 2, none⟩ = some (.int .i64 t140) := (blk_cell BK146.out 2).trans rfl
                        have hcz55_3 : wr.cell? ⟨gb146, 3, none⟩ = some (.int .i64 t141) := (blk_cell BK146.out 3).trans rfl
                        have hcz55_4 : wr.cell? ⟨gb146, 4, none⟩ = some (.int .i64 t142) := (blk_cell BK146.out 4).trans rfl
                        have hcz55_5 : wr.cell? ⟨gb146, 5, none⟩ = some (.int .i64 t143) := (blk_cell BK146.out 5).trans rfl
                        have hcz55_6 : wr.cell? ⟨gb146, 6, none⟩ = some (.int .i64 t144) := (blk_cell BK146.out 6).trans rfl
                        have hfz55_0 := blk_frozen BK146.out 0
                        have hfz55_1 := blk_frozen BK146.out 1
                        have hfz55_2 := blk_frozen BK146.out 2
                        have hfz55_3 := blk_frozen BK146.out 3
                        have hfz55_4 := blk_frozen BK146.out 4
                        have hfz55_5 := blk_frozen BK146.out 5
                        have hfz55_6 := blk_frozen BK146.out 6
                        go_wp2_with (first | (go_at_call 10; (with_reducible refine (wainscotlaw15_works.calls  t149 _ A54.out).mono ?_); rintro e w56 ⟨rfl, hb⟩; have n0_ := Aside0.mk (blk_below (g := gb146) (o := .cells #[.int .i64 t138, .int .i64 t139, .int .i64 t140, .int .i64 t141, .int .i64 t142, .int .i64 t143, .int .i64 t144] 23 (0, 0)) (by (with_reducible repeat (first | refine blk_drewN ?_ _ | refine blk_drew ?_ | refine blk_alloc ?_ _)); exact BK146.out) hb); have n1_ := Aside0.mk (below_step (by repeat (first | (with_reducible first | exact HB.out | apply below_alloc | apply pw_below_drewN | apply below_drew1 | refine below_set ?_ GE146.out) | exact HB.out)) hb); clear BK146; clear HB; have BK146 := n0_; have HB := n1_; clear n0_ n1_; (try clear hb); (try clear hb2); (try clear hk); (try clear hi)))
                        repeat (go_quiet (first | (go_at_call 10; (with_reducible refine (wainscotlaw15_works.calls  t149 _ A54.out).mono ?_); rintro e w56 ⟨rfl, hb⟩; have n0_ := Aside0.mk (blk_below (g := gb146) (o := .cells #[.int .i64 t138, .int .i64 t139, .int .i64 t140, .int .i64 t141, .int .i64 t142, .int .i64 t143, .int .i64 t144] 23 (0, 0)) (by (with_reducible repeat (first | refine blk_drewN ?_ _ | refine blk_drew ?_ | refine blk_alloc ?_ _)); exact BK146.out) hb); have n1_ := Aside0.mk (below_step (by repeat (first | (with_reducible first | exact HB.out | apply below_alloc | apply pw_below_drewN | apply below_drew1 | refine below_set ?_ GE146.out) | exact HB.out)) hb); clear BK146; clear HB; have BK146 := n0_; have HB := n1_; clear n0_ n1_; (try clear hb); (try clear hb2); (try clear hk); (try clear hi))); try go_wp2_with (first | (go_at_call 10; (with_reducible refine (wainscotlaw15_works.calls  t149 _ A54.out).mono ?_); rintro e w56 ⟨rfl, hb⟩; have n0_ := Aside0.mk (blk_below (g := gb146) (o := .cells #[.int .i64 t138, .int .i64 t139, .int .i64 t140, .int .i64 t141, .int .i64 t142, .int .i64 t143, .int .i64 t144] 23 (0, 0)) (by (with_reducible repeat (first | refine blk_drewN ?_ _ | refine blk_drew ?_ | refine blk_alloc ?_ _)); exact BK146.out) hb); have n1_ := Aside0.mk (below_step (by repeat (first | (with_reducible first | exact HB.out | apply below_alloc | apply pw_below_drewN | apply below_drew1 | refine below_set ?_ GE146.out) | exact HB.out)) hb); clear BK146; clear HB; have BK146 := n0_; have HB := n1_; clear n0_ n1_; (try clear hb); (try clear hb2); (try clear hk); (try clear hi))))
                        go_ret
                        exact ⟨by first | rfl | (simp [errW_none, errW_some] <;> rfl) | (simp only [← hji7, ← hji12]; first | rfl | (simp [errW_none, errW_some] <;> rfl)) | (simp [*, errW_none, errW_some] <;> rfl), by repeat (first | (with_reducible first | exact HB.out | apply below_alloc | apply pw_below_drewN | apply below_drew1 | refine below_set ?_ GE146.out) | exact HB.out)⟩
                      · rw [if_neg c53] at H
                        have c53b0 : decide (t142 ≤ 3) = false := decide_eq_false c53
                        clear c53
                        obtain rfl := Option.some.inj H
                        have hcz57_0 : wr.cell? ⟨gb146, 0, none⟩ = some (.int .i64 t138) := (blk_cell BK146.out 0).trans rfl
                        have hcz57_1 : wr.cell? ⟨gb146, 1, none⟩ = some (.int .i64 t139) := (blk_cell BK146.out 1).trans rfl
                        have hcz57_2 : wr.cell? ⟨gb146, 2, none⟩ = some (.int .i64 t140) := (blk_cell BK146.out 2).trans rfl
                        have hcz57_3 : wr.cell? ⟨gb146, 3, none⟩ = some (.int .i64 t141) := (blk_cell BK146.out 3).trans rfl
                        have hcz57_4 : wr.cell? ⟨gb146, 4, none⟩ = some (.int .i64 t142) := (blk_cell BK146.out 4).trans rfl
                        have hcz57_5 : wr.cell? ⟨gb146, 5, none⟩ = some (.int .i64 t143) := (blk_cell BK146.out 5).trans rfl
                        have hcz57_6 : wr.cell? ⟨gb146, 6, none⟩ = some (.int .i64 t144) := (blk_cell BK146.out 6).trans rfl
                        have hfz57_0 := blk_frozen BK146.out 0
                        have hfz57_1 := blk_frozen BK146.out 1
                        have hfz57_2 := blk_frozen BK146.out 2
                        have hfz57_3 := blk_frozen BK146.out 3
                        have hfz57_4 := blk_frozen BK146.out 4
                        have hfz57_5 := blk_frozen BK146.out 5
                        have hfz57_6 := blk_frozen BK146.out 6
                        go_wp2
                        repeat (go_quiet (fail); try go_wp2)
                        go_ret
                        exact ⟨by first | rfl | (simp [errW_none, errW_some] <;> rfl) | (simp only [← hji7, ← hji12]; first | rfl | (simp [errW_none, errW_some] <;> rfl)) | (simp [*, errW_none, errW_some] <;> rfl), by repeat (first | (with_reducible first | exact HB.out | apply below_alloc | apply pw_below_drewN | apply below_drew1 | refine below_set ?_ GE146.out) | exact HB.out)⟩
                    · rw [if_neg c52] at H
                      have c52b0 : decide (0 ≤ t142) = false := decide_eq_false c52
                      clear c52
                      obtain rfl := Option.some.inj H
                      have hcz58_0 : wr.cell? ⟨gb146, 0, none⟩ = some (.int .i64 t138) := (blk_cell BK146.out 0).trans rfl
                      have hcz58_1 : wr.cell? ⟨gb146, 1, none⟩ = some (.int .i64 t139) := (blk_cell BK146.out 1).trans rfl
                      have hcz58_2 : wr.cell? ⟨gb146, 2, none⟩ = some (.int .i64 t140) := (blk_cell BK146.out 2).trans rfl
                      have hcz58_3 : wr.cell? ⟨gb146, 3, none⟩ = some (.int .i64 t141) := (blk_cell BK146.out 3).trans rfl
                      have hcz58_4 : wr.cell? ⟨gb146, 4, none⟩ = some (.int .i64 t142) := (blk_cell BK146.out 4).trans rfl
                      have hcz58_5 : wr.cell? ⟨gb146, 5, none⟩ = some (.int .i64 t143) := (blk_cell BK146.out 5).trans rfl
                      have hcz58_6 : wr.cell? ⟨gb146, 6, none⟩ = some (.int .i64 t144) := (blk_cell BK146.out 6).trans rfl
                      have hfz58_0 := blk_frozen BK146.out 0
                      have hfz58_1 := blk_frozen BK146.out 1
                      have hfz58_2 := blk_frozen BK146.out 2
                      have hfz58_3 := blk_frozen BK146.out 3
                      have hfz58_4 := blk_frozen BK146.out 4
                      have hfz58_5 := blk_frozen BK146.out 5
                      have hfz58_6 := blk_frozen BK146.out 6
                      go_wp2
                      repeat (go_quiet (fail); try go_wp2)
                      go_ret
                      exact ⟨by first | rfl | (simp [errW_none, errW_some] <;> rfl) | (simp only [← hji7, ← hji12]; first | rfl | (simp [errW_none, errW_some] <;> rfl)) | (simp [*, errW_none, errW_some] <;> rfl), by repeat (first | (with_reducible first | exact HB.out | apply below_alloc | apply pw_below_drewN | apply below_drew1 | refine below_set ?_ GE146.out) | exact HB.out)⟩
                  · rw [if_neg c51] at H
                    have c51b0 : (t144 == (wrap64 (ji12 - (wrap64 (t143 * t140))))) = false := beq_eq_false_iff_ne.mpr c51
                    have c51b1 : (t144 != (wrap64 (ji12 - (wrap64 (t143 * t140))))) = true := bne_iff_ne.mpr c51
                    obtain rfl := Option.some.inj H
                    have hcz59_0 : wr.cell? ⟨gb146, 0, none⟩ = some (.int .i64 t138) := (blk_cell BK146.out 0).trans rfl
                    have hcz59_1 : wr.cell? ⟨gb146, 1, none⟩ = some (.int .i64 t139) := (blk_cell BK146.out 1).trans rfl
                    have hcz59_2 : wr.cell? ⟨gb146, 2, none⟩ = some (.int .i64 t140) := (blk_cell BK146.out 2).trans rfl
                    have hcz59_3 : wr.cell? ⟨gb146, 3, none⟩ = some (.int .i64 t141) := (blk_cell BK146.out 3).trans rfl
                    have hcz59_4 : wr.cell? ⟨gb146, 4, none⟩ = some (.int .i64 t142) := (blk_cell BK146.out 4).trans rfl
                    have hcz59_5 : wr.cell? ⟨gb146, 5, none⟩ = some (.int .i64 t143) := (blk_cell BK146.out 5).trans rfl
                    have hcz59_6 : wr.cell? ⟨gb146, 6, none⟩ = some (.int .i64 t144) := (blk_cell BK146.out 6).trans rfl
                    have hfz59_0 := blk_frozen BK146.out 0
                    have hfz59_1 := blk_frozen BK146.out 1
                    have hfz59_2 := blk_frozen BK146.out 2
                    have hfz59_3 := blk_frozen BK146.out 3
                    have hfz59_4 := blk_frozen BK146.out 4
                    have hfz59_5 := blk_frozen BK146.out 5
                    have hfz59_6 := blk_frozen BK146.out 6
                    go_wp2
                    repeat (go_quiet (fail); try go_wp2)
                    go_ret
                    exact ⟨by first | rfl | (simp [errW_none, errW_some] <;> rfl) | (simp only [← hji7, ← hji12]; first | rfl | (simp [errW_none, errW_some] <;> rfl)) | (simp [*, errW_none, errW_some] <;> rfl), by repeat (first | (with_reducible first | exact HB.out | apply below_alloc | apply pw_below_drewN | apply below_drew1 | refine below_set ?_ GE146.out) | exact HB.out)⟩
                · rw [if_neg c50] at H
                  have c50b0 : decide (t143 ≤ 16) = false := decide_eq_false c50
                  clear c50
                  obtain rfl := Option.some.inj H
                  have hcz60_0 : wr.cell? ⟨gb146, 0, none⟩ = some (.int .i64 t138) := (blk_cell BK146.out 0).trans rfl
                  have hcz60_1 : wr.cell? ⟨gb146, 1, none⟩ = some (.int .i64 t139) := (blk_cell BK146.out 1).trans rfl
                  have hcz60_2 : wr.cell? ⟨gb146, 2, none⟩ = some (.int .i64 t140) := (blk_cell BK146.out 2).trans rfl
                  have hcz60_3 : wr.cell? ⟨gb146, 3, none⟩ = some (.int .i64 t141) := (blk_cell BK146.out 3).trans rfl
                  have hcz60_4 : wr.cell? ⟨gb146, 4, none⟩ = some (.int .i64 t142) := (blk_cell BK146.out 4).trans rfl
                  have hcz60_5 : wr.cell? ⟨gb146, 5, none⟩ = some (.int .i64 t143) := (blk_cell BK146.out 5).trans rfl
                  have hcz60_6 : wr.cell? ⟨gb146, 6, none⟩ = some (.int .i64 t144) := (blk_cell BK146.out 6).trans rfl
                  have hfz60_0 := blk_frozen BK146.out 0
                  have hfz60_1 := blk_frozen BK146.out 1
                  have hfz60_2 := blk_frozen BK146.out 2
                  have hfz60_3 := blk_frozen BK146.out 3
                  have hfz60_4 := blk_frozen BK146.out 4
                  have hfz60_5 := blk_frozen BK146.out 5
                  have hfz60_6 := blk_frozen BK146.out 6
                  go_wp2
                  repeat (go_quiet (fail); try go_wp2)
                  go_ret
                  exact ⟨by first | rfl | (simp [errW_none, errW_some] <;> rfl) | (simp only [← hji7, ← hji12]; first | rfl | (simp [errW_none, errW_some] <;> rfl)) | (simp [*, errW_none, errW_some] <;> rfl), by repeat (first | (with_reducible first | exact HB.out | apply below_alloc | apply pw_below_drewN | apply below_drew1 | refine below_set ?_ GE146.out) | exact HB.out)⟩
              · rw [if_neg c49] at H
                have c49b0 : decide (1 ≤ t143) = false := decide_eq_false c49
                clear c49
                obtain rfl := Option.some.inj H
                have hcz61_0 : wr.cell? ⟨gb146, 0, none⟩ = some (.int .i64 t138) := (blk_cell BK146.out 0).trans rfl
                have hcz61_1 : wr.cell? ⟨gb146, 1, none⟩ = some (.int .i64 t139) := (blk_cell BK146.out 1).trans rfl
                have hcz61_2 : wr.cell? ⟨gb146, 2, none⟩ = some (.int .i64 t140) := (blk_cell BK146.out 2).trans rfl
                have hcz61_3 : wr.cell? ⟨gb146, 3, none⟩ = some (.int .i64 t141) := (blk_cell BK146.out 3).trans rfl
                have hcz61_4 : wr.cell? ⟨gb146, 4, none⟩ = some (.int .i64 t142) := (blk_cell BK146.out 4).trans rfl
                have hcz61_5 : wr.cell? ⟨gb146, 5, none⟩ = some (.int .i64 t143) := (blk_cell BK146.out 5).trans rfl
                have hcz61_6 : wr.cell? ⟨gb146, 6, none⟩ = some (.int .i64 t144) := (blk_cell BK146.out 6).trans rfl
                have hfz61_0 := blk_frozen BK146.out 0
                have hfz61_1 := blk_frozen BK146.out 1
                have hfz61_2 := blk_frozen BK146.out 2
                have hfz61_3 := blk_frozen BK146.out 3
                have hfz61_4 := blk_frozen BK146.out 4
                have hfz61_5 := blk_frozen BK146.out 5
                have hfz61_6 := blk_frozen BK146.out 6
                go_wp2
                repeat (go_quiet (fail); try go_wp2)
                go_ret
                exact ⟨by first | rfl | (simp [errW_none, errW_some] <;> rfl) | (simp only [← hji7, ← hji12]; first | rfl | (simp [errW_none, errW_some] <;> rfl)) | (simp [*, errW_none, errW_some] <;> rfl), by repeat (first | (with_reducible first | exact HB.out | apply below_alloc | apply pw_below_drewN | apply below_drew1 | refine below_set ?_ GE146.out) | exact HB.out)⟩
      · rw [if_neg c11] at H
        exact absurd H (by simp)
    · rw [if_neg c9] at H
      have c9b0 : (t145 == 0) = false := beq_eq_false_iff_ne.mpr c9
      have c9b1 : (t145 != 0) = true := bne_iff_ne.mpr c9
      by_cases c62 : t145 = 150
      · rw [if_pos c62] at H
        have c62b0 : (t145 == 150) = true := beq_iff_eq.mpr c62
        have c62b1 : (t145 != 150) = false := bne_eq_false_iff_eq.mpr c62
        clear c62
        by_cases c63 : a2 = true
        · subst c63
          have H1 : ((wainscotlaw15_works.f).bind fun t147 => (some t147)) = some r := by rw [if_pos rfl] at H; exact H
          clear H
          have H := H1
          clear H1
          replace H := Option.bind_eq_some_iff.mp H
          obtain ⟨t147, A640, H⟩ := H
          replace H : (some t147) = some r := H
          have A64 := Aside0.mk A640
          clear A640
          obtain rfl := Option.some.inj H
          go_enter Try.func4, Try.ntmps4
          go_wp2_with (first | (go_at_call 11; (with_reducible refine (wainscotref00_Bring.calls a0 2048 t136 _ A4.out).mono ?_); rintro e w' ⟨rfl, ⟨nd, rfl⟩⟩; (try first | exact ⟨rfl, _, World.drewN_drewN _ _ _⟩ | exact ⟨rfl, _, Eq.trans (World.drewN_drewN _ _ _) (congrArg (World.drewN _) (Nat.add_assoc _ _ _))⟩)) | (go_at_call 11; (with_reducible refine (wainscotref00_Bring.calls a1 7 t137 _ A5.out).mono ?_); rintro e w' ⟨rfl, ⟨nd, rfl⟩⟩; (try first | exact ⟨rfl, _, World.drewN_drewN _ _ _⟩ | exact ⟨rfl, _, Eq.trans (World.drewN_drewN _ _ _) (congrArg (World.drewN _) (Nat.add_assoc _ _ _))⟩)) | (go_at_call 8; (with_reducible refine (layout_Of.calls (wrap64 (1 + t136)) ji7 true t138 t139 t140 t141 t142 t143 t144 t145 _ A8.out).mono ?_); rintro e w65 ⟨rfl, hb⟩; have n0_ := Aside0.mk (below_step (by repeat (first | (with_reducible first | exact HB.out | apply below_alloc | apply pw_below_drewN | apply below_drew1) | exact HB.out)) hb); clear HB; have HB := n0_; clear n0_; (try clear hb); (try clear hb2); (try clear hk); (try clear hi)) | ((with_reducible refine gate_dst (N := 9) rfl ?_); refine box_event ?hg (N := 9) ?hd (cs := #[.int .i64 0, .int .i64 0, .int .i64 0, .int .i64 0, .int .i64 0, .int .i64 0, .int .i64 0]) (t := 23) ?hr ?_; (case hd => rfl); (case hg => rfl); (case hr => first | (go_simp; done) | (go_simp; rfl)); intro gb146 hg w66 hbox hb; have n0_ := Aside0.mk (below_step (by repeat (first | (with_reducible first | exact HB.out | apply below_alloc | apply pw_below_drewN | apply below_drew1) | exact HB.out)) hb); have n1_ := Aside0.mk (hbox); have n2_ := Aside0.mk ((by rw [hg]; exact (below_size (by repeat (first | (with_reducible first | exact HB.out | apply below_alloc | apply pw_below_drewN | apply below_drew1) | exact HB.out))) : w.heap.size ≤ gb146)); have n3_ := Aside0.mk ((by rw [hg]; exact (below_size (by repeat (first | (with_reducible first | exact HB.out | apply below_alloc | apply pw_below_drewN | apply below_drew1) | exact HB.out))) : w.heap.size ≤ gb146)); clear HB; have HB := n0_; have BK146 := n1_; have GW146 := n2_; have GE146 := n3_; clear n0_ n1_ n2_ n3_; clear hb hbox hg; have hcz67_0 : w66.cell? ⟨gb146, 0, none⟩ = some (.int .i64 0) := (blk_cell BK146.out 0).trans rfl; have hcz67_1 : w66.cell? ⟨gb146, 1, none⟩ = some (.int .i64 0) := (blk_cell BK146.out 1).trans rfl; have hcz67_2 : w66.cell? ⟨gb146, 2, none⟩ = some (.int .i64 0) := (blk_cell BK146.out 2).trans rfl; have hcz67_3 : w66.cell? ⟨gb146, 3, none⟩ = some (.int .i64 0) := (blk_cell BK146.out 3).trans rfl; have hcz67_4 : w66.cell? ⟨gb146, 4, none⟩ = some (.int .i64 0) := (blk_cell BK146.out 4).trans rfl; have hcz67_5 : w66.cell? ⟨gb146, 5, none⟩ = some (.int .i64 0) := (blk_cell BK146.out 5).trans rfl; have hcz67_6 : w66.cell? ⟨gb146, 6, none⟩ = some (.int .i64 0) := (blk_cell BK146.out 6).trans rfl; have hfz67_0 := blk_frozen BK146.out 0; have hfz67_1 := blk_frozen BK146.out 1; have hfz67_2 := blk_frozen BK146.out 2; have hfz67_3 := blk_frozen BK146.out 3; have hfz67_4 := blk_frozen BK146.out 4; have hfz67_5 := blk_frozen BK146.out 5; have hfz67_6 := blk_frozen BK146.out 6) | (go_at_call 10; (with_reducible refine (wainscotlaw15_works.calls  t147 _ A64.out).mono ?_); rintro e w68 ⟨rfl, hb⟩; have n0_ := Aside0.mk (blk_below (g := gb146) (o := .cells #[.int .i64 t138, .int .i64 t139, .int .i64 t140, .int .i64 t141, .int .i64 t142, .int .i64 t143, .int .i64 t144] 23 (0, 0)) (by (with_reducible repeat (first | refine blk_drewN ?_ _ | refine blk_drew ?_ | refine blk_alloc ?_ _)); refine blk_put (cs := #[.int .i64 t138, .int .i64 t139, .int .i64 t140, .int .i64 t141, .int .i64 t142, .int .i64 t143, .int .i64 0]) ?_ 6 _ rfl; (with_reducible repeat (first | refine blk_drewN ?_ _ | refine blk_drew ?_ | refine blk_alloc ?_ _)); refine blk_put (cs := #[.int .i64 t138, .int .i64 t139, .int .i64 t140, .int .i64 t141, .int .i64 t142, .int .i64 0, .int .i64 0]) ?_ 5 _ rfl; (with_reducible repeat (first | refine blk_drewN ?_ _ | refine blk_drew ?_ | refine blk_alloc ?_ _)); refine blk_put (cs := #[.int .i64 t138, .int .i64 t139, .int .i64 t140, .int .i64 t141, .int .i64 0, .int .i64 0, .int .i64 0]) ?_ 4 _ rfl; (with_reducible repeat (first | refine blk_drewN ?_ _ | refine blk_drew ?_ | refine blk_alloc ?_ _)); refine blk_put (cs := #[.int .i64 t138, .int .i64 t139, .int .i64 t140, .int .i64 0, .int .i64 0, .int .i64 0, .int .i64 0]) ?_ 3 _ rfl; (with_reducible repeat (first | refine blk_drewN ?_ _ | refine blk_drew ?_ | refine blk_alloc ?_ _)); refine blk_put (cs := #[.int .i64 t138, .int .i64 t139, .int .i64 0, .int .i64 0, .int .i64 0, .int .i64 0, .int .i64 0]) ?_ 2 _ rfl; (with_reducible repeat (first | refine blk_drewN ?_ _ | refine blk_drew ?_ | refine blk_alloc ?_ _)); refine blk_put (cs := #[.int .i64 t138, .int .i64 0, .int .i64 0, .int .i64 0, .int .i64 0, .int .i64 0, .int .i64 0]) ?_ 1 _ rfl; (with_reducible repeat (first | refine blk_drewN ?_ _ | refine blk_drew ?_ | refine blk_alloc ?_ _)); refine blk_put (cs := #[.int .i64 0, .int .i64 0, .int .i64 0, .int .i64 0, .int .i64 0, .int .i64 0, .int .i64 0]) ?_ 0 _ rfl; (with_reducible repeat (first | refine blk_drewN ?_ _ | refine blk_drew ?_ | refine blk_alloc ?_ _)); exact BK146.out) hb); have n1_ := Aside0.mk (below_step (by repeat (first | (with_reducible first | exact HB.out | apply below_alloc | apply pw_below_drewN | apply below_drew1 | refine below_set ?_ GE146.out) | exact HB.out)) hb); clear BK146; clear HB; have BK146 := n0_; have HB := n1_; clear n0_ n1_; (try clear hb); (try clear hb2); (try clear hk); (try clear hi)))
          repeat (go_quiet (first | (go_at_call 11; (with_reducible refine (wainscotref00_Bring.calls a0 2048 t136 _ A4.out).mono ?_); rintro e w' ⟨rfl, ⟨nd, rfl⟩⟩; (try first | exact ⟨rfl, _, World.drewN_drewN _ _ _⟩ | exact ⟨rfl, _, Eq.trans (World.drewN_drewN _ _ _) (congrArg (World.drewN _) (Nat.add_assoc _ _ _))⟩)) | (go_at_call 11; (with_reducible refine (wainscotref00_Bring.calls a1 7 t137 _ A5.out).mono ?_); rintro e w' ⟨rfl, ⟨nd, rfl⟩⟩; (try first | exact ⟨rfl, _, World.drewN_drewN _ _ _⟩ | exact ⟨rfl, _, Eq.trans (World.drewN_drewN _ _ _) (congrArg (World.drewN _) (Nat.add_assoc _ _ _))⟩)) | (go_at_call 8; (with_reducible refine (layout_Of.calls (wrap64 (1 + t136)) ji7 true t138 t139 t140 t141 t142 t143 t144 t145 _ A8.out).mono ?_); rintro e w65 ⟨rfl, hb⟩; have n0_ := Aside0.mk (below_step (by repeat (first | (with_reducible first | exact HB.out | apply below_alloc | apply pw_below_drewN | apply below_drew1) | exact HB.out)) hb); clear HB; have HB := n0_; clear n0_; (try clear hb); (try clear hb2); (try clear hk); (try clear hi)) | ((with_reducible refine gate_dst (N := 9) rfl ?_); refine box_event ?hg (N := 9) ?hd (cs := #[.int .i64 0, .int .i64 0, .int .i64 0, .int .i64 0, .int .i64 0, .int .i64 0, .int .i64 0]) (t := 23) ?hr ?_; (case hd => rfl); (case hg => rfl); (case hr => first | (go_simp; done) | (go_simp; rfl)); intro gb146 hg w66 hbox hb; have n0_ := Aside0.mk (below_step (by repeat (first | (with_reducible first | exact HB.out | apply below_alloc | apply pw_below_drewN | apply below_drew1) | exact HB.out)) hb); have n1_ := Aside0.mk (hbox); have n2_ := Aside0.mk ((by rw [hg]; exact (below_size (by repeat (first | (with_reducible first | exact HB.out | apply below_alloc | apply pw_below_drewN | apply below_drew1) | exact HB.out))) : w.heap.size ≤ gb146)); have n3_ := Aside0.mk ((by rw [hg]; exact (below_size (by repeat (first | (with_reducible first | exact HB.out | apply below_alloc | apply pw_below_drewN | apply below_drew1) | exact HB.out))) : w.heap.size ≤ gb146)); clear HB; have HB := n0_; have BK146 := n1_; have GW146 := n2_; have GE146 := n3_; clear n0_ n1_ n2_ n3_; clear hb hbox hg; have hcz67_0 : w66.cell? ⟨gb146, 0, none⟩ = some (.int .i64 0) := (blk_cell BK146.out 0).trans rfl; have hcz67_1 : w66.cell? ⟨gb146, 1, none⟩ = some (.int .i64 0) := (blk_cell BK146.out 1).trans rfl; have hcz67_2 : w66.cell? ⟨gb146, 2, none⟩ = some (.int .i64 0) := (blk_cell BK146.out 2).trans rfl; have hcz67_3 : w66.cell? ⟨gb146, 3, none⟩ = some (.int .i64 0) := (blk_cell BK146.out 3).trans rfl; have hcz67_4 : w66.cell? ⟨gb146, 4, none⟩ = some (.int .i64 0) := (blk_cell BK146.out 4).trans rfl; have hcz67_5 : w66.cell? ⟨gb146, 5, none⟩ = some (.int .i64 0) := (blk_cell BK146.out 5).trans rfl; have hcz67_6 : w66.cell? ⟨gb146, 6, none⟩ = some (.int .i64 0) := (blk_cell BK146.out 6).trans rfl; have hfz67_0 := blk_frozen BK146.out 0; have hfz67_1 := blk_frozen BK146.out 1; have hfz67_2 := blk_frozen BK146.out 2; have hfz67_3 := blk_frozen BK146.out 3; have hfz67_4 := blk_frozen BK146.out 4; have hfz67_5 := blk_frozen BK146.out 5; have hfz67_6 := blk_frozen BK146.out 6) | (go_at_call 10; (with_reducible refine (wainscotlaw15_works.calls  t147 _ A64.out).mono ?_); rintro e w68 ⟨rfl, hb⟩; have n0_ := Aside0.mk (blk_below (g := gb146) (o := .cells #[.int .i64 t138, .int .i64 t139, .int .i64 t140, .int .i64 t141, .int .i64 t142, .int .i64 t143, .int .i64 t144] 23 (0, 0)) (by (with_reducible repeat (first | refine blk_drewN ?_ _ | refine blk_drew ?_ | refine blk_alloc ?_ _)); refine blk_put (cs := #[.int .i64 t138, .int .i64 t139, .int .i64 t140, .int .i64 t141, .int .i64 t142, .int .i64 t143, .int .i64 0]) ?_ 6 _ rfl; (with_reducible repeat (first | refine blk_drewN ?_ _ | refine blk_drew ?_ | refine blk_alloc ?_ _)); refine blk_put (cs := #[.int .i64 t138, .int .i64 t139, .int .i64 t140, .int .i64 t141, .int .i64 t142, .int .i64 0, .int .i64 0]) ?_ 5 _ rfl; (with_reducible repeat (first | refine blk_drewN ?_ _ | refine blk_drew ?_ | refine blk_alloc ?_ _)); refine blk_put (cs := #[.int .i64 t138, .int .i64 t139, .int .i64 t140, .int .i64 t141, .int .i64 0, .int .i64 0, .int .i64 0]) ?_ 4 _ rfl; (with_reducible repeat (first | refine blk_drewN ?_ _ | refine blk_drew ?_ | refine blk_alloc ?_ _)); refine blk_put (cs := #[.int .i64 t138, .int .i64 t139, .int .i64 t140, .int .i64 0, .int .i64 0, .int .i64 0, .int .i64 0]) ?_ 3 _ rfl; (with_reducible repeat (first | refine blk_drewN ?_ _ | refine blk_drew ?_ | refine blk_alloc ?_ _)); refine blk_put (cs := #[.int .i64 t138, .int .i64 t139, .int .i64 0, .int .i64 0, .int .i64 0, .int .i64 0, .int .i64 0]) ?_ 2 _ rfl; (with_reducible repeat (first | refine blk_drewN ?_ _ | refine blk_drew ?_ | refine blk_alloc ?_ _)); refine blk_put (cs := #[.int .i64 t138, .int .i64 0, .int .i64 0, .int .i64 0, .int .i64 0, .int .i64 0, .int .i64 0]) ?_ 1 _ rfl; (with_reducible repeat (first | refine blk_drewN ?_ _ | refine blk_drew ?_ | refine blk_alloc ?_ _)); refine blk_put (cs := #[.int .i64 0, .int .i64 0, .int .i64 0, .int .i64 0, .int .i64 0, .int .i64 0, .int .i64 0]) ?_ 0 _ rfl; (with_reducible repeat (first | refine blk_drewN ?_ _ | refine blk_drew ?_ | refine blk_alloc ?_ _)); exact BK146.out) hb); have n1_ := Aside0.mk (below_step (by repeat (first | (with_reducible first | exact HB.out | apply below_alloc | apply pw_below_drewN | apply below_drew1 | refine below_set ?_ GE146.out) | exact HB.out)) hb); clear BK146; clear HB; have BK146 := n0_; have HB := n1_; clear n0_ n1_; (try clear hb); (try clear hb2); (try clear hk); (try clear hi))); try go_wp2_with (first | (go_at_call 11; (with_reducible refine (wainscotref00_Bring.calls a0 2048 t136 _ A4.out).mono ?_); rintro e w' ⟨rfl, ⟨nd, rfl⟩⟩; (try first | exact ⟨rfl, _, World.drewN_drewN _ _ _⟩ | exact ⟨rfl, _, Eq.trans (World.drewN_drewN _ _ _) (congrArg (World.drewN _) (Nat.add_assoc _ _ _))⟩)) | (go_at_call 11; (with_reducible refine (wainscotref00_Bring.calls a1 7 t137 _ A5.out).mono ?_); rintro e w' ⟨rfl, ⟨nd, rfl⟩⟩; (try first | exact ⟨rfl, _, World.drewN_drewN _ _ _⟩ | exact ⟨rfl, _, Eq.trans (World.drewN_drewN _ _ _) (congrArg (World.drewN _) (Nat.add_assoc _ _ _))⟩)) | (go_at_call 8; (with_reducible refine (layout_Of.calls (wrap64 (1 + t136)) ji7 true t138 t139 t140 t141 t142 t143 t144 t145 _ A8.out).mono ?_); rintro e w65 ⟨rfl, hb⟩; have n0_ := Aside0.mk (below_step (by repeat (first | (with_reducible first | exact HB.out | apply below_alloc | apply pw_below_drewN | apply below_drew1) | exact HB.out)) hb); clear HB; have HB := n0_; clear n0_; (try clear hb); (try clear hb2); (try clear hk); (try clear hi)) | ((with_reducible refine gate_dst (N := 9) rfl ?_); refine box_event ?hg (N := 9) ?hd (cs := #[.int .i64 0, .int .i64 0, .int .i64 0, .int .i64 0, .int .i64 0, .int .i64 0, .int .i64 0]) (t := 23) ?hr ?_; (case hd => rfl); (case hg => rfl); (case hr => first | (go_simp; done) | (go_simp; rfl)); intro gb146 hg w66 hbox hb; have n0_ := Aside0.mk (below_step (by repeat (first | (with_reducible first | exact HB.out | apply below_alloc | apply pw_below_drewN | apply below_drew1) | exact HB.out)) hb); have n1_ := Aside0.mk (hbox); have n2_ := Aside0.mk ((by rw [hg]; exact (below_size (by repeat (first | (with_reducible first | exact HB.out | apply below_alloc | apply pw_below_drewN | apply below_drew1) | exact HB.out))) : w.heap.size ≤ gb146)); have n3_ := Aside0.mk ((by rw [hg]; exact (below_size (by repeat (first | (with_reducible first | exact HB.out | apply below_alloc | apply pw_below_drewN | apply below_drew1) | exact HB.out))) : w.heap.size ≤ gb146)); clear HB; have HB := n0_; have BK146 := n1_; have GW146 := n2_; have GE146 := n3_; clear n0_ n1_ n2_ n3_; clear hb hbox hg; have hcz67_0 : w66.cell? ⟨gb146, 0, none⟩ = some (.int .i64 0) := (blk_cell BK146.out 0).trans rfl; have hcz67_1 : w66.cell? ⟨gb146, 1, none⟩ = some (.int .i64 0) := (blk_cell BK146.out 1).trans rfl; have hcz67_2 : w66.cell? ⟨gb146, 2, none⟩ = some (.int .i64 0) := (blk_cell BK146.out 2).trans rfl; have hcz67_3 : w66.cell? ⟨gb146, 3, none⟩ = some (.int .i64 0) := (blk_cell BK146.out 3).trans rfl; have hcz67_4 : w66.cell? ⟨gb146, 4, none⟩ = some (.int .i64 0) := (blk_cell BK146.out 4).trans rfl; have hcz67_5 : w66.cell? ⟨gb146, 5, none⟩ = some (.int .i64 0) := (blk_cell BK146.out 5).trans rfl; have hcz67_6 : w66.cell? ⟨gb146, 6, none⟩ = some (.int .i64 0) := (blk_cell BK146.out 6).trans rfl; have hfz67_0 := blk_frozen BK146.out 0; have hfz67_1 := blk_frozen BK146.out 1; have hfz67_2 := blk_frozen BK146.out 2; have hfz67_3 := blk_frozen BK146.out 3; have hfz67_4 := blk_frozen BK146.out 4; have hfz67_5 := blk_frozen BK146.out 5; have hfz67_6 := blk_frozen BK146.out 6) | (go_at_call 10; (with_reducible refine (wainscotlaw15_works.calls  t147 _ A64.out).mono ?_); rintro e w68 ⟨rfl, hb⟩; have n0_ := Aside0.mk (blk_below (g := gb146) (o := .cells #[.int .i64 t138, .int .i64 t139, .int .i64 t140, .int .i64 t141, .int .i64 t142, .int .i64 t143, .int .i64 t144] 23 (0, 0)) (by (with_reducible repeat (first | refine blk_drewN ?_ _ | refine blk_drew ?_ | refine blk_alloc ?_ _)); refine blk_put (cs := #[.int .i64 t138, .int .i64 t139, .int .i64 t140, .int .i64 t141, .int .i64 t142, .int .i64 t143, .int .i64 0]) ?_ 6 _ rfl; (with_reducible repeat (first | refine blk_drewN ?_ _ | refine blk_drew ?_ | refine blk_alloc ?_ _)); refine blk_put (cs := #[.int .i64 t138, .int .i64 t139, .int .i64 t140, .int .i64 t141, .int .i64 t142, .int .i64 0, .int .i64 0]) ?_ 5 _ rfl; (with_reducible repeat (first | refine blk_drewN ?_ _ | refine blk_drew ?_ | refine blk_alloc ?_ _)); refine blk_put (cs := #[.int .i64 t138, .int .i64 t139, .int .i64 t140, .int .i64 t141, .int .i64 0, .int .i64 0, .int .i64 0]) ?_ 4 _ rfl; (with_reducible repeat (first | refine blk_drewN ?_ _ | refine blk_drew ?_ | refine blk_alloc ?_ _)); refine blk_put (cs := #[.int .i64 t138, .int .i64 t139, .int .i64 t140, .int .i64 0, .int .i64 0, .int .i64 0, .int .i64 0]) ?_ 3 _ rfl; (with_reducible repeat (first | refine blk_drewN ?_ _ | refine blk_drew ?_ | refine blk_alloc ?_ _)); refine blk_put (cs := #[.int .i64 t138, .int .i64 t139, .int .i64 0, .int .i64 0, .int .i64 0, .int .i64 0, .int .i64 0]) ?_ 2 _ rfl; (with_reducible repeat (first | refine blk_drewN ?_ _ | refine blk_drew ?_ | refine blk_alloc ?_ _)); refine blk_put (cs := #[.int .i64 t138, .int .i64 0, .int .i64 0, .int .i64 0, .int .i64 0, .int .i64 0, .int .i64 0]) ?_ 1 _ rfl; (with_reducible repeat (first | refine blk_drewN ?_ _ | refine blk_drew ?_ | refine blk_alloc ?_ _)); refine blk_put (cs := #[.int .i64 0, .int .i64 0, .int .i64 0, .int .i64 0, .int .i64 0, .int .i64 0, .int .i64 0]) ?_ 0 _ rfl; (with_reducible repeat (first | refine blk_drewN ?_ _ | refine blk_drew ?_ | refine blk_alloc ?_ _)); exact BK146.out) hb); have n1_ := Aside0.mk (below_step (by repeat (first | (with_reducible first | exact HB.out | apply below_alloc | apply pw_below_drewN | apply below_drew1 | refine below_set ?_ GE146.out) | exact HB.out)) hb); clear BK146; clear HB; have BK146 := n0_; have HB := n1_; clear n0_ n1_; (try clear hb); (try clear hb2); (try clear hk); (try clear hi))))
          go_ret
          exact ⟨by first | rfl | (simp [errW_none, errW_some] <;> rfl) | (simp only [← hji7]; first | rfl | (simp [errW_none, errW_some] <;> rfl)) | (simp [*, errW_none, errW_some] <;> rfl), by repeat (first | (with_reducible first | exact HB.out | apply below_alloc | apply pw_below_drewN | apply below_drew1 | refine below_set ?_ GE146.out) | exact HB.out)⟩
        · replace c63 := Bool.eq_false_iff.mpr c63
          subst c63
          have H1 : (some false) = some r := by rw [if_neg (show ¬ (false = true) by decide)] at H; exact H
          clear H
          have H := H1
          clear H1
          obtain rfl := Option.some.inj H
          go_enter Try.func4, Try.ntmps4
          go_wp2_with (first | (go_at_call 11; (with_reducible refine (wainscotref00_Bring.calls a0 2048 t136 _ A4.out).mono ?_); rintro e w' ⟨rfl, ⟨nd, rfl⟩⟩; (try first | exact ⟨rfl, _, World.drewN_drewN _ _ _⟩ | exact ⟨rfl, _, Eq.trans (World.drewN_drewN _ _ _) (congrArg (World.drewN _) (Nat.add_assoc _ _ _))⟩)) | (go_at_call 11; (with_reducible refine (wainscotref00_Bring.calls a1 7 t137 _ A5.out).mono ?_); rintro e w' ⟨rfl, ⟨nd, rfl⟩⟩; (try first | exact ⟨rfl, _, World.drewN_drewN _ _ _⟩ | exact ⟨rfl, _, Eq.trans (World.drewN_drewN _ _ _) (congrArg (World.drewN _) (Nat.add_assoc _ _ _))⟩)) | (go_at_call 8; (with_reducible refine (layout_Of.calls (wrap64 (1 + t136)) ji7 false t138 t139 t140 t141 t142 t143 t144 t145 _ A8.out).mono ?_); rintro e w69 ⟨rfl, hb⟩; have n0_ := Aside0.mk (below_step (by repeat (first | (with_reducible first | exact HB.out | apply below_alloc | apply pw_below_drewN | apply below_drew1) | exact HB.out)) hb); clear HB; have HB := n0_; clear n0_; (try clear hb); (try clear hb2); (try clear hk); (try clear hi)) | ((with_reducible refine gate_dst (N := 9) rfl ?_); refine box_event ?hg (N := 9) ?hd (cs := #[.int .i64 0, .int .i64 0, .int .i64 0, .int .i64 0, .int .i64 0, .int .i64 0, .int .i64 0]) (t := 23) ?hr ?_; (case hd => rfl); (case hg => rfl); (case hr => first | (go_simp; done) | (go_simp; rfl)); intro gb146 hg w70 hbox hb; have n0_ := Aside0.mk (below_step (by repeat (first | (with_reducible first | exact HB.out | apply below_alloc | apply pw_below_drewN | apply below_drew1) | exact HB.out)) hb); have n1_ := Aside0.mk (hbox); have n2_ := Aside0.mk ((by rw [hg]; exact (below_size (by repeat (first | (with_reducible first | exact HB.out | apply below_alloc | apply pw_below_drewN | apply below_drew1) | exact HB.out))) : w.heap.size ≤ gb146)); have n3_ := Aside0.mk ((by rw [hg]; exact (below_size (by repeat (first | (with_reducible first | exact HB.out | apply below_alloc | apply pw_below_drewN | apply below_drew1) | exact HB.out))) : w.heap.size ≤ gb146)); clear HB; have HB := n0_; have BK146 := n1_; have GW146 := n2_; have GE146 := n3_; clear n0_ n1_ n2_ n3_; clear hb hbox hg; have hcz71_0 : w70.cell? ⟨gb146, 0, none⟩ = some (.int .i64 0) := (blk_cell BK146.out 0).trans rfl; have hcz71_1 : w70.cell? ⟨gb146, 1, none⟩ = some (.int .i64 0) := (blk_cell BK146.out 1).trans rfl; have hcz71_2 : w70.cell? ⟨gb146, 2, none⟩ = some (.int .i64 0) := (blk_cell BK146.out 2).trans rfl; have hcz71_3 : w70.cell? ⟨gb146, 3, none⟩ = some (.int .i64 0) := (blk_cell BK146.out 3).trans rfl; have hcz71_4 : w70.cell? ⟨gb146, 4, none⟩ = some (.int .i64 0) := (blk_cell BK146.out 4).trans rfl; have hcz71_5 : w70.cell? ⟨gb146, 5, none⟩ = some (.int .i64 0) := (blk_cell BK146.out 5).trans rfl; have hcz71_6 : w70.cell? ⟨gb146, 6, none⟩ = some (.int .i64 0) := (blk_cell BK146.out 6).trans rfl; have hfz71_0 := blk_frozen BK146.out 0; have hfz71_1 := blk_frozen BK146.out 1; have hfz71_2 := blk_frozen BK146.out 2; have hfz71_3 := blk_frozen BK146.out 3; have hfz71_4 := blk_frozen BK146.out 4; have hfz71_5 := blk_frozen BK146.out 5; have hfz71_6 := blk_frozen BK146.out 6))
          repeat (go_quiet (first | (go_at_call 11; (with_reducible refine (wainscotref00_Bring.calls a0 2048 t136 _ A4.out).mono ?_); rintro e w' ⟨rfl, ⟨nd, rfl⟩⟩; (try first | exact ⟨rfl, _, World.drewN_drewN _ _ _⟩ | exact ⟨rfl, _, Eq.trans (World.drewN_drewN _ _ _) (congrArg (World.drewN _) (Nat.add_assoc _ _ _))⟩)) | (go_at_call 11; (with_reducible refine (wainscotref00_Bring.calls a1 7 t137 _ A5.out).mono ?_); rintro e w' ⟨rfl, ⟨nd, rfl⟩⟩; (try first | exact ⟨rfl, _, World.drewN_drewN _ _ _⟩ | exact ⟨rfl, _, Eq.trans (World.drewN_drewN _ _ _) (congrArg (World.drewN _) (Nat.add_assoc _ _ _))⟩)) | (go_at_call 8; (with_reducible refine (layout_Of.calls (wrap64 (1 + t136)) ji7 false t138 t139 t140 t141 t142 t143 t144 t145 _ A8.out).mono ?_); rintro e w69 ⟨rfl, hb⟩; have n0_ := Aside0.mk (below_step (by repeat (first | (with_reducible first | exact HB.out | apply below_alloc | apply pw_below_drewN | apply below_drew1) | exact HB.out)) hb); clear HB; have HB := n0_; clear n0_; (try clear hb); (try clear hb2); (try clear hk); (try clear hi)) | ((with_reducible refine gate_dst (N := 9) rfl ?_); refine box_event ?hg (N := 9) ?hd (cs := #[.int .i64 0, .int .i64 0, .int .i64 0, .int .i64 0, .int .i64 0, .int .i64 0, .int .i64 0]) (t := 23) ?hr ?_; (case hd => rfl); (case hg => rfl); (case hr => first | (go_simp; done) | (go_simp; rfl)); intro gb146 hg w70 hbox hb; have n0_ := Aside0.mk (below_step (by repeat (first | (with_reducible first | exact HB.out | apply below_alloc | apply pw_below_drewN | apply below_drew1) | exact HB.out)) hb); have n1_ := Aside0.mk (hbox); have n2_ := Aside0.mk ((by rw [hg]; exact (below_size (by repeat (first | (with_reducible first | exact HB.out | apply below_alloc | apply pw_below_drewN | apply below_drew1) | exact HB.out))) : w.heap.size ≤ gb146)); have n3_ := Aside0.mk ((by rw [hg]; exact (below_size (by repeat (first | (with_reducible first | exact HB.out | apply below_alloc | apply pw_below_drewN | apply below_drew1) | exact HB.out))) : w.heap.size ≤ gb146)); clear HB; have HB := n0_; have BK146 := n1_; have GW146 := n2_; have GE146 := n3_; clear n0_ n1_ n2_ n3_; clear hb hbox hg; have hcz71_0 : w70.cell? ⟨gb146, 0, none⟩ = some (.int .i64 0) := (blk_cell BK146.out 0).trans rfl; have hcz71_1 : w70.cell? ⟨gb146, 1, none⟩ = some (.int .i64 0) := (blk_cell BK146.out 1).trans rfl; have hcz71_2 : w70.cell? ⟨gb146, 2, none⟩ = some (.int .i64 0) := (blk_cell BK146.out 2).trans rfl; have hcz71_3 : w70.cell? ⟨gb146, 3, none⟩ = some (.int .i64 0) := (blk_cell BK146.out 3).trans rfl; have hcz71_4 : w70.cell? ⟨gb146, 4, none⟩ = some (.int .i64 0) := (blk_cell BK146.out 4).trans rfl; have hcz71_5 : w70.cell? ⟨gb146, 5, none⟩ = some (.int .i64 0) := (blk_cell BK146.out 5).trans rfl; have hcz71_6 : w70.cell? ⟨gb146, 6, none⟩ = some (.int .i64 0) := (blk_cell BK146.out 6).trans rfl; have hfz71_0 := blk_frozen BK146.out 0; have hfz71_1 := blk_frozen BK146.out 1; have hfz71_2 := blk_frozen BK146.out 2; have hfz71_3 := blk_frozen BK146.out 3; have hfz71_4 := blk_frozen BK146.out 4; have hfz71_5 := blk_frozen BK146.out 5; have hfz71_6 := blk_frozen BK146.out 6)); try go_wp2_with (first | (go_at_call 11; (with_reducible refine (wainscotref00_Bring.calls a0 2048 t136 _ A4.out).mono ?_); rintro e w' ⟨rfl, ⟨nd, rfl⟩⟩; (try first | exact ⟨rfl, _, World.drewN_drewN _ _ _⟩ | exact ⟨rfl, _, Eq.trans (World.drewN_drewN _ _ _) (congrArg (World.drewN _) (Nat.add_assoc _ _ _))⟩)) | (go_at_call 11; (with_reducible refine (wainscotref00_Bring.calls a1 7 t137 _ A5.out).mono ?_); rintro e w' ⟨rfl, ⟨nd, rfl⟩⟩; (try first | exact ⟨rfl, _, World.drewN_drewN _ _ _⟩ | exact ⟨rfl, _, Eq.trans (World.drewN_drewN _ _ _) (congrArg (World.drewN _) (Nat.add_assoc _ _ _))⟩)) | (go_at_call 8; (with_reducible refine (layout_Of.calls (wrap64 (1 + t136)) ji7 false t138 t139 t140 t141 t142 t143 t144 t145 _ A8.out).mono ?_); rintro e w69 ⟨rfl, hb⟩; have n0_ := Aside0.mk (below_step (by repeat (first | (with_reducible first | exact HB.out | apply below_alloc | apply pw_below_drewN | apply below_drew1) | exact HB.out)) hb); clear HB; have HB := n0_; clear n0_; (try clear hb); (try clear hb2); (try clear hk); (try clear hi)) | ((with_reducible refine gate_dst (N := 9) rfl ?_); refine box_event ?hg (N := 9) ?hd (cs := #[.int .i64 0, .int .i64 0, .int .i64 0, .int .i64 0, .int .i64 0, .int .i64 0, .int .i64 0]) (t := 23) ?hr ?_; (case hd => rfl); (case hg => rfl); (case hr => first | (go_simp; done) | (go_simp; rfl)); intro gb146 hg w70 hbox hb; have n0_ := Aside0.mk (below_step (by repeat (first | (with_reducible first | exact HB.out | apply below_alloc | apply pw_below_drewN | apply below_drew1) | exact HB.out)) hb); have n1_ := Aside0.mk (hbox); have n2_ := Aside0.mk ((by rw [hg]; exact (below_size (by repeat (first | (with_reducible first | exact HB.out | apply below_alloc | apply pw_below_drewN | apply below_drew1) | exact HB.out))) : w.heap.size ≤ gb146)); have n3_ := Aside0.mk ((by rw [hg]; exact (below_size (by repeat (first | (with_reducible first | exact HB.out | apply below_alloc | apply pw_below_drewN | apply below_drew1) | exact HB.out))) : w.heap.size ≤ gb146)); clear HB; have HB := n0_; have BK146 := n1_; have GW146 := n2_; have GE146 := n3_; clear n0_ n1_ n2_ n3_; clear hb hbox hg; have hcz71_0 : w70.cell? ⟨gb146, 0, none⟩ = some (.int .i64 0) := (blk_cell BK146.out 0).trans rfl; have hcz71_1 : w70.cell? ⟨gb146, 1, none⟩ = some (.int .i64 0) := (blk_cell BK146.out 1).trans rfl; have hcz71_2 : w70.cell? ⟨gb146, 2, none⟩ = some (.int .i64 0) := (blk_cell BK146.out 2).trans rfl; have hcz71_3 : w70.cell? ⟨gb146, 3, none⟩ = some (.int .i64 0) := (blk_cell BK146.out 3).trans rfl; have hcz71_4 : w70.cell? ⟨gb146, 4, none⟩ = some (.int .i64 0) := (blk_cell BK146.out 4).trans rfl; have hcz71_5 : w70.cell? ⟨gb146, 5, none⟩ = some (.int .i64 0) := (blk_cell BK146.out 5).trans rfl; have hcz71_6 : w70.cell? ⟨gb146, 6, none⟩ = some (.int .i64 0) := (blk_cell BK146.out 6).trans rfl; have hfz71_0 := blk_frozen BK146.out 0; have hfz71_1 := blk_frozen BK146.out 1; have hfz71_2 := blk_frozen BK146.out 2; have hfz71_3 := blk_frozen BK146.out 3; have hfz71_4 := blk_frozen BK146.out 4; have hfz71_5 := blk_frozen BK146.out 5; have hfz71_6 := blk_frozen BK146.out 6)))
          go_ret
          exact ⟨by first | rfl | (simp [errW_none, errW_some] <;> rfl) | (simp only [← hji7]; first | rfl | (simp [errW_none, errW_some] <;> rfl)) | (simp [*, errW_none, errW_some] <;> rfl), by repeat (first | (with_reducible first | exact HB.out | apply below_alloc | apply pw_below_drewN | apply below_drew1 | refine below_set ?_ GE146.out) | exact HB.out)⟩
      · rw [if_neg c62] at H
        have c62b0 : (t145 == 150) = false := beq_eq_false_iff_ne.mpr c62
        have c62b1 : (t145 != 150) = true := bne_iff_ne.mpr c62
        obtain rfl := Option.some.inj H
        go_enter Try.func4, Try.ntmps4
        go_wp2_with (first | (go_at_call 11; (with_reducible refine (wainscotref00_Bring.calls a0 2048 t136 _ A4.out).mono ?_); rintro e w' ⟨rfl, ⟨nd, rfl⟩⟩; (try first | exact ⟨rfl, _, World.drewN_drewN _ _ _⟩ | exact ⟨rfl, _, Eq.trans (World.drewN_drewN _ _ _) (congrArg (World.drewN _) (Nat.add_assoc _ _ _))⟩)) | (go_at_call 11; (with_reducible refine (wainscotref00_Bring.calls a1 7 t137 _ A5.out).mono ?_); rintro e w' ⟨rfl, ⟨nd, rfl⟩⟩; (try first | exact ⟨rfl, _, World.drewN_drewN _ _ _⟩ | exact ⟨rfl, _, Eq.trans (World.drewN_drewN _ _ _) (congrArg (World.drewN _) (Nat.add_assoc _ _ _))⟩)) | (go_at_call 8; (with_reducible refine (layout_Of.calls (wrap64 (1 + t136)) ji7 a2 t138 t139 t140 t141 t142 t143 t144 t145 _ A8.out).mono ?_); rintro e w72 ⟨rfl, hb⟩; have n0_ := Aside0.mk (below_step (by repeat (first | (with_reducible first | exact HB.out | apply below_alloc | apply pw_below_drewN | apply below_drew1) | exact HB.out)) hb); clear HB; have HB := n0_; clear n0_; (try clear hb); (try clear hb2); (try clear hk); (try clear hi)) | ((with_reducible refine gate_dst (N := 9) rfl ?_); refine box_event ?hg (N := 9) ?hd (cs := #[.int .i64 0, .int .i64 0, .int .i64 0, .int .i64 0, .int .i64 0, .int .i64 0, .int .i64 0]) (t := 23) ?hr ?_; (case hd => rfl); (case hg => rfl); (case hr => first | (go_simp; done) | (go_simp; rfl)); intro gb146 hg w73 hbox hb; have n0_ := Aside0.mk (below_step (by repeat (first | (with_reducible first | exact HB.out | apply below_alloc | apply pw_below_drewN | apply below_drew1) | exact HB.out)) hb); have n1_ := Aside0.mk (hbox); have n2_ := Aside0.mk ((by rw [hg]; exact (below_size (by repeat (first | (with_reducible first | exact HB.out | apply below_alloc | apply pw_below_drewN | apply below_drew1) | exact HB.out))) : w.heap.size ≤ gb146)); have n3_ := Aside0.mk ((by rw [hg]; exact (below_size (by repeat (first | (with_reducible first | exact HB.out | apply below_alloc | apply pw_below_drewN | apply below_drew1) | exact HB.out))) : w.heap.size ≤ gb146)); clear HB; have HB := n0_; have BK146 := n1_; have GW146 := n2_; have GE146 := n3_; clear n0_ n1_ n2_ n3_; clear hb hbox hg; have hcz74_0 : w73.cell? ⟨gb146, 0, none⟩ = some (.int .i64 0) := (blk_cell BK146.out 0).trans rfl; have hcz74_1 : w73.cell? ⟨gb146, 1, none⟩ = some (.int .i64 0) := (blk_cell BK146.out 1).trans rfl; have hcz74_2 : w73.cell? ⟨gb146, 2, none⟩ = some (.int .i64 0) := (blk_cell BK146.out 2).trans rfl; have hcz74_3 : w73.cell? ⟨gb146, 3, none⟩ = some (.int .i64 0) := (blk_cell BK146.out 3).trans rfl; have hcz74_4 : w73.cell? ⟨gb146, 4, none⟩ = some (.int .i64 0) := (blk_cell BK146.out 4).trans rfl; have hcz74_5 : w73.cell? ⟨gb146, 5, none⟩ = some (.int .i64 0) := (blk_cell BK146.out 5).trans rfl; have hcz74_6 : w73.cell? ⟨gb146, 6, none⟩ = some (.int .i64 0) := (blk_cell BK146.out 6).trans rfl; have hfz74_0 := blk_frozen BK146.out 0; have hfz74_1 := blk_frozen BK146.out 1; have hfz74_2 := blk_frozen BK146.out 2; have hfz74_3 := blk_frozen BK146.out 3; have hfz74_4 := blk_frozen BK146.out 4; have hfz74_5 := blk_frozen BK146.out 5; have hfz74_6 := blk_frozen BK146.out 6))
        repeat (go_quiet (first | (go_at_call 11; (with_reducible refine (wainscotref00_Bring.calls a0 2048 t136 _ A4.out).mono ?_); rintro e w' ⟨rfl, ⟨nd, rfl⟩⟩; (try first | exact ⟨rfl, _, World.drewN_drewN _ _ _⟩ | exact ⟨rfl, _, Eq.trans (World.drewN_drewN _ _ _) (congrArg (World.drewN _) (Nat.add_assoc _ _ _))⟩)) | (go_at_call 11; (with_reducible refine (wainscotref00_Bring.calls a1 7 t137 _ A5.out).mono ?_); rintro e w' ⟨rfl, ⟨nd, rfl⟩⟩; (try first | exact ⟨rfl, _, World.drewN_drewN _ _ _⟩ | exact ⟨rfl, _, Eq.trans (World.drewN_drewN _ _ _) (congrArg (World.drewN _) (Nat.add_assoc _ _ _))⟩)) | (go_at_call 8; (with_reducible refine (layout_Of.calls (wrap64 (1 + t136)) ji7 a2 t138 t139 t140 t141 t142 t143 t144 t145 _ A8.out).mono ?_); rintro e w72 ⟨rfl, hb⟩; have n0_ := Aside0.mk (below_step (by repeat (first | (with_reducible first | exact HB.out | apply below_alloc | apply pw_below_drewN | apply below_drew1) | exact HB.out)) hb); clear HB; have HB := n0_; clear n0_; (try clear hb); (try clear hb2); (try clear hk); (try clear hi)) | ((with_reducible refine gate_dst (N := 9) rfl ?_); refine box_event ?hg (N := 9) ?hd (cs := #[.int .i64 0, .int .i64 0, .int .i64 0, .int .i64 0, .int .i64 0, .int .i64 0, .int .i64 0]) (t := 23) ?hr ?_; (case hd => rfl); (case hg => rfl); (case hr => first | (go_simp; done) | (go_simp; rfl)); intro gb146 hg w73 hbox hb; have n0_ := Aside0.mk (below_step (by repeat (first | (with_reducible first | exact HB.out | apply below_alloc | apply pw_below_drewN | apply below_drew1) | exact HB.out)) hb); have n1_ := Aside0.mk (hbox); have n2_ := Aside0.mk ((by rw [hg]; exact (below_size (by repeat (first | (with_reducible first | exact HB.out | apply below_alloc | apply pw_below_drewN | apply below_drew1) | exact HB.out))) : w.heap.size ≤ gb146)); have n3_ := Aside0.mk ((by rw [hg]; exact (below_size (by repeat (first | (with_reducible first | exact HB.out | apply below_alloc | apply pw_below_drewN | apply below_drew1) | exact HB.out))) : w.heap.size ≤ gb146)); clear HB; have HB := n0_; have BK146 := n1_; have GW146 := n2_; have GE146 := n3_; clear n0_ n1_ n2_ n3_; clear hb hbox hg; have hcz74_0 : w73.cell? ⟨gb146, 0, none⟩ = some (.int .i64 0) := (blk_cell BK146.out 0).trans rfl; have hcz74_1 : w73.cell? ⟨gb146, 1, none⟩ = some (.int .i64 0) := (blk_cell BK146.out 1).trans rfl; have hcz74_2 : w73.cell? ⟨gb146, 2, none⟩ = some (.int .i64 0) := (blk_cell BK146.out 2).trans rfl; have hcz74_3 : w73.cell? ⟨gb146, 3, none⟩ = some (.int .i64 0) := (blk_cell BK146.out 3).trans rfl; have hcz74_4 : w73.cell? ⟨gb146, 4, none⟩ = some (.int .i64 0) := (blk_cell BK146.out 4).trans rfl; have hcz74_5 : w73.cell? ⟨gb146, 5, none⟩ = some (.int .i64 0) := (blk_cell BK146.out 5).trans rfl; have hcz74_6 : w73.cell? ⟨gb146, 6, none⟩ = some (.int .i64 0) := (blk_cell BK146.out 6).trans rfl; have hfz74_0 := blk_frozen BK146.out 0; have hfz74_1 := blk_frozen BK146.out 1; have hfz74_2 := blk_frozen BK146.out 2; have hfz74_3 := blk_frozen BK146.out 3; have hfz74_4 := blk_frozen BK146.out 4; have hfz74_5 := blk_frozen BK146.out 5; have hfz74_6 := blk_frozen BK146.out 6)); try go_wp2_with (first | (go_at_call 11; (with_reducible refine (wainscotref00_Bring.calls a0 2048 t136 _ A4.out).mono ?_); rintro e w' ⟨rfl, ⟨nd, rfl⟩⟩; (try first | exact ⟨rfl, _, World.drewN_drewN _ _ _⟩ | exact ⟨rfl, _, Eq.trans (World.drewN_drewN _ _ _) (congrArg (World.drewN _) (Nat.add_assoc _ _ _))⟩)) | (go_at_call 11; (with_reducible refine (wainscotref00_Bring.calls a1 7 t137 _ A5.out).mono ?_); rintro e w' ⟨rfl, ⟨nd, rfl⟩⟩; (try first | exact ⟨rfl, _, World.drewN_drewN _ _ _⟩ | exact ⟨rfl, _, Eq.trans (World.drewN_drewN _ _ _) (congrArg (World.drewN _) (Nat.add_assoc _ _ _))⟩)) | (go_at_call 8; (with_reducible refine (layout_Of.calls (wrap64 (1 + t136)) ji7 a2 t138 t139 t140 t141 t142 t143 t144 t145 _ A8.out).mono ?_); rintro e w72 ⟨rfl, hb⟩; have n0_ := Aside0.mk (below_step (by repeat (first | (with_reducible first | exact HB.out | apply below_alloc | apply pw_below_drewN | apply below_drew1) | exact HB.out)) hb); clear HB; have HB := n0_; clear n0_; (try clear hb); (try clear hb2); (try clear hk); (try clear hi)) | ((with_reducible refine gate_dst (N := 9) rfl ?_); refine box_event ?hg (N := 9) ?hd (cs := #[.int .i64 0, .int .i64 0, .int .i64 0, .int .i64 0, .int .i64 0, .int .i64 0, .int .i64 0]) (t := 23) ?hr ?_; (case hd => rfl); (case hg => rfl); (case hr => first | (go_simp; done) | (go_simp; rfl)); intro gb146 hg w73 hbox hb; have n0_ := Aside0.mk (below_step (by repeat (first | (with_reducible first | exact HB.out | apply below_alloc | apply pw_below_drewN | apply below_drew1) | exact HB.out)) hb); have n1_ := Aside0.mk (hbox); have n2_ := Aside0.mk ((by rw [hg]; exact (below_size (by repeat (first | (with_reducible first | exact HB.out | apply below_alloc | apply pw_below_drewN | apply below_drew1) | exact HB.out))) : w.heap.size ≤ gb146)); have n3_ := Aside0.mk ((by rw [hg]; exact (below_size (by repeat (first | (with_reducible first | exact HB.out | apply below_alloc | apply pw_below_drewN | apply below_drew1) | exact HB.out))) : w.heap.size ≤ gb146)); clear HB; have HB := n0_; have BK146 := n1_; have GW146 := n2_; have GE146 := n3_; clear n0_ n1_ n2_ n3_; clear hb hbox hg; have hcz74_0 : w73.cell? ⟨gb146, 0, none⟩ = some (.int .i64 0) := (blk_cell BK146.out 0).trans rfl; have hcz74_1 : w73.cell? ⟨gb146, 1, none⟩ = some (.int .i64 0) := (blk_cell BK146.out 1).trans rfl; have hcz74_2 : w73.cell? ⟨gb146, 2, none⟩ = some (.int .i64 0) := (blk_cell BK146.out 2).trans rfl; have hcz74_3 : w73.cell? ⟨gb146, 3, none⟩ = some (.int .i64 0) := (blk_cell BK146.out 3).trans rfl; have hcz74_4 : w73.cell? ⟨gb146, 4, none⟩ = some (.int .i64 0) := (blk_cell BK146.out 4).trans rfl; have hcz74_5 : w73.cell? ⟨gb146, 5, none⟩ = some (.int .i64 0) := (blk_cell BK146.out 5).trans rfl; have hcz74_6 : w73.cell? ⟨gb146, 6, none⟩ = some (.int .i64 0) := (blk_cell BK146.out 6).trans rfl; have hfz74_0 := blk_frozen BK146.out 0; have hfz74_1 := blk_frozen BK146.out 1; have hfz74_2 := blk_frozen BK146.out 2; have hfz74_3 := blk_frozen BK146.out 3; have hfz74_4 := blk_frozen BK146.out 4; have hfz74_5 := blk_frozen BK146.out 5; have hfz74_6 := blk_frozen BK146.out 6)))
        go_ret
        exact ⟨by first | rfl | (simp [errW_none, errW_some] <;> rfl) | (simp only [← hji7]; first | rfl | (simp [errW_none, errW_some] <;> rfl)) | (simp [*, errW_none, errW_some] <;> rfl), by repeat (first | (with_reducible first | exact HB.out | apply below_alloc | apply pw_below_drewN | apply below_drew1 | refine below_set ?_ GE146.out) | exact HB.out)⟩
  · rw [if_neg c6] at H
    exact absurd H (by simp)

/-- THE ONE PURE STATEMENT of wainscotlaw15_LayoutApart: yours. -/
def wainscotlaw15_LayoutApart.Pure : Prop := ∀ (a0 : Int) (a1 : Int) (a2 : Bool), (Lit.int .i64 a0).wf = true → (Lit.int .i64 a1).wf = true → ∃ k, wainscotlaw15_LayoutApart.f k a0 a1 a2 = some true
theorem wainscotlaw15_LayoutApart.walk (P : wainscotlaw15_LayoutApart.Pure) (a0 : Int) (a1 : Int) (a2 : Bool) (w : World) (w0 : (Lit.int .i64 a0).wf = true) (w1 : (Lit.int .i64 a1).wf = true) :
    Calls Try.prog 4 #[.int .i64 a0, .int .i64 a1, .bool a2] w fun e w' => e = .returned (.bool true) ∧ Below w.heap.size w w' := by
  obtain ⟨k, h⟩ := P a0 a1 a2 w0 w1
  refine (wainscotlaw15_LayoutApart.calls k a0 a1 a2 true w h).mono ?_
  rintro e w' ⟨rfl, hd⟩
  exact ⟨rfl, hd⟩

end Go.Proofs.Ytanolcldeeglmaa.G
