/- What Go functions of the seat compute: each as a plain Lean function, and that its call answers just that. Written by a program of this session (wip/own_print.py). -/
import Derived.Test.YtfhjpefedlaacaaG0
import Derived.Test.YtfhjpefedlaacaaG2
import Derived.Test.YtfhjpefedlaacaaG3
import Derived.Test.YtfhjpefedlaacaaG4
namespace Go.Proofs.Ytfhjpefedlaacaa.G
open Go.RowKit Go.Proofs.YtfhjpefedlaacaaW.PrintWords Go.Proofs.YtfhjpefedlaacaaW.PrintLast Go.Proofs.YtfhjpefedlaacaaW.PrintMore
attribute [local go_sem] max2_int min2_int max_two min_two max_three min_three max_four min_four   -- for this text's walks alone
set_option linter.unusedVariables false
set_option linter.unusedSimpArgs false

/-! ### wainscotlaw17_CountHeads: function 6 -/
mutual
def wainscotlaw17_CountHeads.j0 : Nat → Int → Int → Bool → Option (Bool)
  | 0, _, _, _ => none
  | k + 1, x2, x7, x70 => if x70 = true then (some false) else (wainscotlaw17_CountHeads.l0 k x2 x7 0)
def wainscotlaw17_CountHeads.l0 : Nat → Int → Int → Int → Option (Bool)
  | 0, _, _, _ => none
  | k + 1, x2, x7, x15 => if x15 < 3 then ((some (([x2, Int.tmod x2 4200, x7] : List Int) : List Int)).bind fun y224 => (if 0 ≤ x15 then (if x15 < (y224.length : Int) then ((count_HeadOf.f k (rd y224 x15)).bind fun bt228 => ((wainscotref17_HeadOf.f k (rd y224 x15)).bind fun bt231 => ((count_PartOf.f k (rd y224 x15)).bind fun bt234 => ((wainscotref17_PartOf.f k (rd y224 x15)).bind fun bt237 => (if bt228.1 = bt231.1 then (if bt228.2.1 = bt231.2.1 then (if (bt228.2.2 != bt231.2.2) = true then (some false) else (if bt234.1 = bt237.1 then (if bt234.2.1 = bt237.2.1 then (if (bt234.2.2 != bt237.2.2) = true then (some false) else (wainscotlaw17_CountHeads.l0 k x2 x7 (wrap64 (x15 + 1)))) else (some false)) else (some false))) else (some false)) else (some false)))))) else (none)) else (none))) else ((wainscotlaw17_works.f k).bind fun t223 => (some t223))
end
def wainscotlaw17_CountHeads.f (k : Nat) (a0 : Int) (a1 : Int) (a2 : Int) : Option (Bool) := (count_Head.f k a0 a1).bind fun bt215 => ((wainscotref17_Head.f k a0 a1).bind fun bt217 => ((count_Part.f k a0 a1).bind fun bt219 => ((wainscotref17_Part.f k a0 a1).bind fun bt221 => (if bt215.1 = bt217.1 then (if bt215.2 = bt217.2 then (if bt219.1 = bt221.1 then (wainscotlaw17_CountHeads.j0 k a2 bt215.1 (bt219.2 != bt221.2)) else (wainscotlaw17_CountHeads.j0 k a2 bt215.1 true)) else (wainscotlaw17_CountHeads.j0 k a2 bt215.1 true)) else (wainscotlaw17_CountHeads.j0 k a2 bt215.1 true)))))
theorem wainscotlaw17_CountHeads.mono_l : ∀ k, (∀ y0 y1 y2, LeO (wainscotlaw17_CountHeads.j0 k y0 y1 y2) (wainscotlaw17_CountHeads.j0 (k + 1) y0 y1 y2)) ∧ (∀ y0 y1 y2, LeO (wainscotlaw17_CountHeads.l0 k y0 y1 y2) (wainscotlaw17_CountHeads.l0 (k + 1) y0 y1 y2))
  | 0 => ⟨fun _ _ _ r h => by simp [wainscotlaw17_CountHeads.j0] at h, fun _ _ _ r h => by simp [wainscotlaw17_CountHeads.l0] at h⟩
  | k + 1 => by
    obtain ⟨ih0, ih1⟩ := wainscotlaw17_CountHeads.mono_l k
    refine ⟨?_, ?_⟩
    · intro y0 y1 y2
      unfold wainscotlaw17_CountHeads.j0
      repeat' first
      | (with_reducible exact ih0 _ _ _)
      | (with_reducible exact ih1 _ _ _)
      | (with_reducible exact count_Head.mono _ _ _)
      | (with_reducible exact count_HeadOf.mono _ _)
      | (with_reducible exact count_Part.mono _ _ _)
      | (with_reducible exact count_PartOf.mono _ _)
      | (with_reducible exact wainscotlaw17_works.mono _)
      | (with_reducible exact wainscotref17_Head.mono _ _ _)
      | (with_reducible exact wainscotref17_HeadOf.mono _ _)
      | (with_reducible exact wainscotref17_Part.mono _ _ _)
      | (with_reducible exact wainscotref17_PartOf.mono _ _)
      | (with_reducible exact LeO.refl _)
      | (with_reducible exact LeO.none _)
      | (with_reducible refine LeO.ite ?_ ?_)
      | (with_reducible refine LeO.bind ?_ (fun _ => ?_))
      | exact ih0 _ _ _
      | exact ih1 _ _ _
      | exact count_Head.mono _ _ _
      | exact count_HeadOf.mono _ _
      | exact count_Part.mono _ _ _
      | exact count_PartOf.mono _ _
      | exact wainscotlaw17_works.mono _
      | exact wainscotref17_Head.mono _ _ _
      | exact wainscotref17_HeadOf.mono _ _
      | exact wainscotref17_Part.mono _ _ _
      | exact wainscotref17_PartOf.mono _ _
      | exact LeO.none _
      | refine LeO.ite ?_ ?_
      | refine LeO.bind ?_ (fun _ => ?_)
    · intro y0 y1 y2
      unfold wainscotlaw17_CountHeads.l0
      repeat' first
      | (with_reducible exact ih0 _ _ _)
      | (with_reducible exact ih1 _ _ _)
      | (with_reducible exact count_Head.mono _ _ _)
      | (with_reducible exact count_HeadOf.mono _ _)
      | (with_reducible exact count_Part.mono _ _ _)
      | (with_reducible exact count_PartOf.mono _ _)
      | (with_reducible exact wainscotlaw17_works.mono _)
      | (with_reducible exact wainscotref17_Head.mono _ _ _)
      | (with_reducible exact wainscotref17_HeadOf.mono _ _)
      | (with_reducible exact wainscotref17_Part.mono _ _ _)
      | (with_reducible exact wainscotref17_PartOf.mono _ _)
      | (with_reducible exact LeO.refl _)
      | (with_reducible exact LeO.none _)
      | (with_reducible refine LeO.ite ?_ ?_)
      | (with_reducible refine LeO.bind ?_ (fun _ => ?_))
      | exact ih0 _ _ _
      | exact ih1 _ _ _
      | exact count_Head.mono _ _ _
      | exact count_HeadOf.mono _ _
      | exact count_Part.mono _ _ _
      | exact count_PartOf.mono _ _
      | exact wainscotlaw17_works.mono _
      | exact wainscotref17_Head.mono _ _ _
      | exact wainscotref17_HeadOf.mono _ _
      | exact wainscotref17_Part.mono _ _ _
      | exact wainscotref17_PartOf.mono _ _
      | exact LeO.none _
      | refine LeO.ite ?_ ?_
      | refine LeO.bind ?_ (fun _ => ?_)
theorem wainscotlaw17_CountHeads.mono : ∀ a0 a1 a2 k, LeO (wainscotlaw17_CountHeads.f k a0 a1 a2) (wainscotlaw17_CountHeads.f (k + 1) a0 a1 a2) := by
  intro a0 a1 a2 k
  obtain ⟨ih0, ih1⟩ := wainscotlaw17_CountHeads.mono_l k
  unfold wainscotlaw17_CountHeads.f
  repeat' first
      | (with_reducible exact ih0 _ _ _)
      | (with_reducible exact ih1 _ _ _)
      | (with_reducible exact count_Head.mono _ _ _)
      | (with_reducible exact count_HeadOf.mono _ _)
      | (with_reducible exact count_Part.mono _ _ _)
      | (with_reducible exact count_PartOf.mono _ _)
      | (with_reducible exact wainscotlaw17_works.mono _)
      | (with_reducible exact wainscotref17_Head.mono _ _ _)
      | (with_reducible exact wainscotref17_HeadOf.mono _ _)
      | (with_reducible exact wainscotref17_Part.mono _ _ _)
      | (with_reducible exact wainscotref17_PartOf.mono _ _)
      | (with_reducible exact LeO.refl _)
      | (with_reducible exact LeO.none _)
      | (with_reducible refine LeO.ite ?_ ?_)
      | (with_reducible refine LeO.bind ?_ (fun _ => ?_))
      | exact ih0 _ _ _
      | exact ih1 _ _ _
      | exact count_Head.mono _ _ _
      | exact count_HeadOf.mono _ _
      | exact count_Part.mono _ _ _
      | exact count_PartOf.mono _ _
      | exact wainscotlaw17_works.mono _
      | exact wainscotref17_Head.mono _ _ _
      | exact wainscotref17_HeadOf.mono _ _
      | exact wainscotref17_Part.mono _ _ _
      | exact wainscotref17_PartOf.mono _ _
      | exact LeO.none _
      | refine LeO.ite ?_ ?_
      | refine LeO.bind ?_ (fun _ => ?_)
set_option maxHeartbeats 8000000 in
set_option maxRecDepth 100000 in
theorem wainscotlaw17_CountHeads.calls (k : Nat) (a0 : Int) (a1 : Int) (a2 : Int) (r : Bool) (w : World) (h : wainscotlaw17_CountHeads.f k a0 a1 a2 = some r) :
    Calls Try.prog 6 #[.int .i64 a0, .int .i64 a1, .int .u64 a2] w fun e w' => e = .returned (.bool r) ∧ Below w.heap.size w w' := by
  have HB := Aside0.mk (Below.refl w.heap.size w)
  have H : ((count_Head.f k a0 a1).bind fun bt215 => ((wainscotref17_Head.f k a0 a1).bind fun bt217 => ((count_Part.f k a0 a1).bind fun bt219 => ((wainscotref17_Part.f k a0 a1).bind fun bt221 => (if bt215.1 = bt217.1 then (if bt215.2 = bt217.2 then (if bt219.1 = bt221.1 then (wainscotlaw17_CountHeads.j0 k a2 bt215.1 (bt219.2 != bt221.2)) else (wainscotlaw17_CountHeads.j0 k a2 bt215.1 true)) else (wainscotlaw17_CountHeads.j0 k a2 bt215.1 true)) else (wainscotlaw17_CountHeads.j0 k a2 bt215.1 true)))))) = some r := h
  clear h
  replace H := Option.bind_eq_some_iff.mp H
  obtain ⟨⟨t215, t216⟩, A40, H⟩ := H
  replace H : ((wainscotref17_Head.f k a0 a1).bind fun bt217 => ((count_Part.f k a0 a1).bind fun bt219 => ((wainscotref17_Part.f k a0 a1).bind fun bt221 => (if t215 = bt217.1 then (if t216 = bt217.2 then (if bt219.1 = bt221.1 then (wainscotlaw17_CountHeads.j0 k a2 t215 (bt219.2 != bt221.2)) else (wainscotlaw17_CountHeads.j0 k a2 t215 true)) else (wainscotlaw17_CountHeads.j0 k a2 t215 true)) else (wainscotlaw17_CountHeads.j0 k a2 t215 true))))) = some r := H
  have A4 := Aside0.mk A40
  clear A40
  replace H := Option.bind_eq_some_iff.mp H
  obtain ⟨⟨t217, t218⟩, A50, H⟩ := H
  replace H : ((count_Part.f k a0 a1).bind fun bt219 => ((wainscotref17_Part.f k a0 a1).bind fun bt221 => (if t215 = t217 then (if t216 = t218 then (if bt219.1 = bt221.1 then (wainscotlaw17_CountHeads.j0 k a2 t215 (bt219.2 != bt221.2)) else (wainscotlaw17_CountHeads.j0 k a2 t215 true)) else (wainscotlaw17_CountHeads.j0 k a2 t215 true)) else (wainscotlaw17_CountHeads.j0 k a2 t215 true)))) = some r := H
  have A5 := Aside0.mk A50
  clear A50
  replace H := Option.bind_eq_some_iff.mp H
  obtain ⟨⟨t219, t220⟩, A60, H⟩ := H
  replace H : ((wainscotref17_Part.f k a0 a1).bind fun bt221 => (if t215 = t217 then (if t216 = t218 then (if t219 = bt221.1 then (wainscotlaw17_CountHeads.j0 k a2 t215 (t220 != bt221.2)) else (wainscotlaw17_CountHeads.j0 k a2 t215 true)) else (wainscotlaw17_CountHeads.j0 k a2 t215 true)) else (wainscotlaw17_CountHeads.j0 k a2 t215 true))) = some r := H
  have A6 := Aside0.mk A60
  clear A60
  replace H := Option.bind_eq_some_iff.mp H
  obtain ⟨⟨t221, t222⟩, A70, H⟩ := H
  replace H : (if t215 = t217 then (if t216 = t218 then (if t219 = t221 then (wainscotlaw17_CountHeads.j0 k a2 t215 (t220 != t222)) else (wainscotlaw17_CountHeads.j0 k a2 t215 true)) else (wainscotlaw17_CountHeads.j0 k a2 t215 true)) else (wainscotlaw17_CountHeads.j0 k a2 t215 true)) = some r := H
  have A7 := Aside0.mk A70
  clear A70
  have HC8 := Aside0.mk H
  clear H
  go_enter Try.func6, Try.ntmps6
  go_upto_region 5 with (first | ((with_reducible refine gate_callee (f := 16) rfl ?_); refine goesL_ (some 32) rfl rfl Try.func16 (by kernel_rfl) rfl #[.int .i64 a0, .int .i64 a1] rfl (by (try simp only [List.map_toArray, List.map_cons, List.map_nil]); first | done | rfl | (simp only [List.length_drop, List.length_take]; rfl)) ?_; (with_reducible refine (count_Head.calls k a0 a1 t215 t216 _ A4.out).mono ?_); rintro e w' ⟨rfl, ⟨nd, rfl⟩⟩; refine ⟨_, rfl, ?_⟩) | ((with_reducible refine gate_callee (f := 17) rfl ?_); refine goesL_ (some 38) rfl rfl Try.func17 (by kernel_rfl) rfl #[.int .i64 a0, .int .i64 a1] rfl (by (try simp only [List.map_toArray, List.map_cons, List.map_nil]); first | done | rfl | (simp only [List.length_drop, List.length_take]; rfl)) ?_; (with_reducible refine (wainscotref17_Head.calls k a0 a1 t217 t218 _ A5.out).mono ?_); rintro e w' ⟨rfl, ⟨nd, rfl⟩⟩; refine ⟨_, rfl, ?_⟩) | ((with_reducible refine gate_callee (f := 18) rfl ?_); refine goesL_ (some 44) rfl rfl Try.func18 (by kernel_rfl) rfl #[.int .i64 a0, .int .i64 a1] rfl (by (try simp only [List.map_toArray, List.map_cons, List.map_nil]); first | done | rfl | (simp only [List.length_drop, List.length_take]; rfl)) ?_; (with_reducible refine (count_Part.calls k a0 a1 t219 t220 _ A6.out).mono ?_); rintro e w' ⟨rfl, ⟨nd, rfl⟩⟩; refine ⟨_, rfl, ?_⟩) | ((with_reducible refine gate_callee (f := 19) rfl ?_); refine goesL_ (some 50) rfl rfl Try.func19 (by kernel_rfl) rfl #[.int .i64 a0, .int .i64 a1] rfl (by (try simp only [List.map_toArray, List.map_cons, List.map_nil]); first | done | rfl | (simp only [List.length_drop, List.length_take]; rfl)) ?_; (with_reducible refine (wainscotref17_Part.calls k a0 a1 t221 t222 _ A7.out).mono ?_); rintro e w' ⟨rfl, ⟨nd, rfl⟩⟩; refine ⟨_, rfl, ?_⟩))
  (try simp only [Act.put, List.setIfInBounds_toArray, List.set_cons_zero, List.set_cons_succ])
  go_cut [70] (fun v70 wc => ∃ (kq : Nat) (x70_7 : Bool), v70 = .bool x70_7 ∧ Aside0 (wainscotlaw17_CountHeads.j0 kq a2 t215 x70_7 = some r) ∧ Aside0 (kq ≤ k) ∧ Aside0 (Below w.heap.size w wc))
  case first =>
    have H := HC8.out
    clear HC8
    by_cases c9 : t215 = t217
    · rw [if_pos c9] at H
      have c9b0 : (t215 == t217) = true := beq_iff_eq.mpr c9
      have c9b1 : (t215 != t217) = false := bne_eq_false_iff_eq.mpr c9
      clear c9
      (first | rw [c9b0] | (simp only [i64_w, i32_w]; rw [c9b0]) | skip)
      by_cases c10 : t216 = t218
      · rw [if_pos c10] at H
        have c10b0 : (t216 == t218) = true := beq_iff_eq.mpr c10
        have c10b1 : (t216 != t218) = false := bne_eq_false_iff_eq.mpr c10
        clear c10
        by_cases c11 : t219 = t221
        · rw [if_pos c11] at H
          have c11b0 : (t219 == t221) = true := beq_iff_eq.mpr c11
          have c11b1 : (t219 != t221) = false := bne_eq_false_iff_eq.mpr c11
          clear c11
          have H' := Aside0.mk H
          clear H
          go_wp2
          go_meet
          case rel => exact ⟨_, ((t220 != t222)), (by first | rfl | (simp; done) | (simp [*]; done)), H', ⟨by first | omega | exact Nat.le_refl _⟩, ⟨by repeat (first | (with_reducible first | exact HB.out | apply below_alloc | apply pw_below_drewN | apply below_drew1) | exact HB.out)⟩⟩
        · rw [if_neg c11] at H
          have c11b0 : (t219 == t221) = false := beq_eq_false_iff_ne.mpr c11
          have c11b1 : (t219 != t221) = true := bne_iff_ne.mpr c11
          have H' := Aside0.mk H
          clear H
          go_wp2
          go_meet
          case rel => exact ⟨_, (true), (by first | rfl | (simp; done) | (simp [*]; done)), H', ⟨by first | omega | exact Nat.le_refl _⟩, ⟨by repeat (first | (with_reducible first | exact HB.out | apply below_alloc | apply pw_below_drewN | apply below_drew1) | exact HB.out)⟩⟩
      · rw [if_neg c10] at H
        have c10b0 : (t216 == t218) = false := beq_eq_false_iff_ne.mpr c10
        have c10b1 : (t216 != t218) = true := bne_iff_ne.mpr c10
        have H' := Aside0.mk H
        clear H
        go_wp2
        go_meet
        case rel => exact ⟨_, (true), (by first | rfl | (simp; done) | (simp [*]; done)), H', ⟨by first | omega | exact Nat.le_refl _⟩, ⟨by repeat (first | (with_reducible first | exact HB.out | apply below_alloc | apply pw_below_drewN | apply below_drew1) | exact HB.out)⟩⟩
    · rw [if_neg c9] at H
      have c9b0 : (t215 == t217) = false := beq_eq_false_iff_ne.mpr c9
      have c9b1 : (t215 != t217) = true := bne_iff_ne.mpr c9
      (first | rw [c9b0] | (simp only [i64_w, i32_w]; rw [c9b0]) | skip)
      have H' := Aside0.mk H
      clear H
      go_wp2
      go_meet
      case rel => exact ⟨_, (true), (by first | rfl | (simp; done) | (simp [*]; done)), H', ⟨by first | omega | exact Nat.le_refl _⟩, ⟨by repeat (first | (with_reducible first | exact HB.out | apply below_alloc | apply pw_below_drewN | apply below_drew1) | exact HB.out)⟩⟩
  case rest =>
    clear HC8
    try clear c1
    try clear p2
    try clear c6
    try clear c9
    try clear c9b0
    try clear c9b1
    try clear c10
    try clear c10b0
    try clear c10b1
    try clear c11
    try clear c11b0
    try clear c11b1
    obtain ⟨kq, x70_7, rfl, HA, HJ7, HB⟩ := hcut
    cases kq with
    | zero => exact absurd HA.out (by simp [wainscotlaw17_CountHeads.j0])
    | succ kj7 =>
      have H := HA.out
      clear HA
      simp only [wainscotlaw17_CountHeads.j0] at H
      by_cases c12 : x70_7 = true
      · subst c12
        have H1 : (some false) = some r := by rw [if_pos rfl] at H; exact H
        clear H
        have H := H1
        clear H1
        obtain rfl := Option.some.inj H
        go_wp2
        go_ret
        exact ⟨by first | rfl | (simp [errW_none, errW_some] <;> rfl) | (simp [*, errW_none, errW_some] <;> rfl), by repeat (first | (with_reducible first | exact HB.out | apply below_alloc | apply pw_below_drewN | apply below_drew1) | exact HB.out)⟩
      · replace c12 := Bool.eq_false_iff.mpr c12
        subst c12
        have H1 : (wainscotlaw17_CountHeads.l0 kj7 a2 t215 0) = some r := by rw [if_neg (show ¬ (false = true) by decide)] at H; exact H
        clear H
        have H := H1
        clear H1
        have H' := Aside0.mk H
        clear H
        go_wp2
        go_loopg [15] kj7 (fun kq v15 w' => ∃ (x15_2 : Int), v15 = .int .i64 x15_2 ∧ Aside0 (wainscotlaw17_CountHeads.l0 kq a2 t215 x15_2 = some r) ∧ Aside0 (kq ≤ kj7) ∧ Aside0 (Below w.heap.size w w'))
        case atStart => exact ⟨(0), (by first | rfl | (simp; done) | (simp [*]; done)), H', ⟨Nat.le_refl _⟩, ⟨by repeat (first | (with_reducible first | exact HB.out | apply below_alloc | apply pw_below_drewN | apply below_drew1) | exact HB.out)⟩⟩
        case round =>
          clear H'
          try clear c1
          try clear p2
          try clear c6
          try clear c9
          try clear c9b0
          try clear c9b1
          try clear c10
          try clear c10b0
          try clear c10b1
          try clear c11
          try clear c11b0
          try clear c11b1
          try clear c12
          try clear p2
          obtain ⟨x15_2, rfl, HA, HK2, HB⟩ := hrel
          cases gk with
          | zero => exact absurd HA.out (by simp [wainscotlaw17_CountHeads.l0])
          | succ k2 =>
            have H := HA.out
            clear HA
            simp only [wainscotlaw17_CountHeads.l0] at H
            by_cases c13 : x15_2 < 3
            · rw [if_pos c13] at H
              have c13b0 : decide (x15_2 < 3) = true := decide_eq_true c13
              clear c13
              obtain ⟨y224, hy224⟩ : ∃ y_ : List Int, y_ = (([a2, Int.tmod a2 4200, t215] : List Int)) := ⟨_, rfl⟩
              replace H : (if 0 ≤ x15_2 then (if x15_2 < (y224.length : Int) then ((count_HeadOf.f k2 (rd y224 x15_2)).bind fun bt228 => ((wainscotref17_HeadOf.f k2 (rd y224 x15_2)).bind fun bt231 => ((count_PartOf.f k2 (rd y224 x15_2)).bind fun bt234 => ((wainscotref17_PartOf.f k2 (rd y224 x15_2)).bind fun bt237 => (if bt228.1 = bt231.1 then (if bt228.2.1 = bt231.2.1 then (if (bt228.2.2 != bt231.2.2) = true then (some false) else (if bt234.1 = bt237.1 then (if bt234.2.1 = bt237.2.1 then (if (bt234.2.2 != bt237.2.2) = true then (some false) else (wainscotlaw17_CountHeads.l0 k2 a2 t215 (wrap64 (x15_2 + 1)))) else (some false)) else (some false))) else (some false)) else (some false)))))) else (none)) else (none)) = some r := by first | (rw [hy224]; with_reducible exact H) | (have H2_ := (Option.bind_some _ _).symm.trans H; rw [hy224]; with_reducible exact H2_) | (have H2_ := (Option.bind_some _ _).symm.trans H; with_reducible exact H2_) | with_reducible exact H | (rw [hy224]; exact H) | exact H
              have Ny224 := Aside0.mk hy224
              clear hy224
              by_cases c14 : 0 ≤ x15_2
              · rw [if_pos c14] at H
                have c14b0 : decide (0 ≤ x15_2) = true := decide_eq_true c14
                clear c14
                by_cases c15 : x15_2 < (y224.length : Int)
                · rw [if_pos c15] at H
                  have c15b0 : decide (x15_2 < (y224.length : Int)) = true := decide_eq_true c15
                  clear c15
                  replace H := Option.bind_eq_some_iff.mp H
                  obtain ⟨⟨t228, t229, t230⟩, A160, H⟩ := H
                  replace H : ((wainscotref17_HeadOf.f k2 (rd y224 x15_2)).bind fun bt231 => ((count_PartOf.f k2 (rd y224 x15_2)).bind fun bt234 => ((wainscotref17_PartOf.f k2 (rd y224 x15_2)).bind fun bt237 => (if t228 = bt231.1 then (if t229 = bt231.2.1 then (if (t230 != bt231.2.2) = true then (some false) else (if bt234.1 = bt237.1 then (if bt234.2.1 = bt237.2.1 then (if (bt234.2.2 != bt237.2.2) = true then (some false) else (wainscotlaw17_CountHeads.l0 k2 a2 t215 (wrap64 (x15_2 + 1)))) else (some false)) else (some false))) else (some false)) else (some false))))) = some r := H
                  have A16 := Aside0.mk A160
                  clear A160
                  replace H := Option.bind_eq_some_iff.mp H
                  obtain ⟨⟨t231, t232, t233⟩, A170, H⟩ := H
                  replace H : ((count_PartOf.f k2 (rd y224 x15_2)).bind fun bt234 => ((wainscotref17_PartOf.f k2 (rd y224 x15_2)).bind fun bt237 => (if t228 = t231 then (if t229 = t232 then (if (t230 != t233) = true then (some false) else (if bt234.1 = bt237.1 then (if bt234.2.1 = bt237.2.1 then (if (bt234.2.2 != bt237.2.2) = true then (some false) else (wainscotlaw17_CountHeads.l0 k2 a2 t215 (wrap64 (x15_2 + 1)))) else (some false)) else (some false))) else (some false)) else (some false)))) = some r := H
                  have A17 := Aside0.mk A170
                  clear A170
                  replace H := Option.bind_eq_some_iff.mp H
                  obtain ⟨⟨t234, t235, t236⟩, A180, H⟩ := H
                  replace H : ((wainscotref17_PartOf.f k2 (rd y224 x15_2)).bind fun bt237 => (if t228 = t231 then (if t229 = t232 then (if (t230 != t233) = true then (some false) else (if t234 = bt237.1 then (if t235 = bt237.2.1 then (if (t236 != bt237.2.2) = true then (some false) else (wainscotlaw17_CountHeads.l0 k2 a2 t215 (wrap64 (x15_2 + 1)))) else (some false)) else (some false))) else (some false)) else (some false))) = some r := H
                  have A18 := Aside0.mk A180
                  clear A180
                  replace H := Option.bind_eq_some_iff.mp H
                  obtain ⟨⟨t237, t238, t239⟩, A190, H⟩ := H
                  replace H : (if t228 = t231 then (if t229 = t232 then (if (t230 != t233) = true then (some false) else (if t234 = t237 then (if t235 = t238 then (if (t236 != t239) = true then (some false) else (wainscotlaw17_CountHeads.l0 k2 a2 t215 (wrap64 (x15_2 + 1)))) else (some false)) else (some false))) else (some false)) else (some false)) = some r := H
                  have A19 := Aside0.mk A190
                  clear A190
                  by_cases c20 : t228 = t231
                  · rw [if_pos c20] at H
                    have c20b0 : (t228 == t231) = true := beq_iff_eq.mpr c20
                    have c20b1 : (t228 != t231) = false := bne_eq_false_iff_eq.mpr c20
                    clear c20
                    by_cases c21 : t229 = t232
                    · rw [if_pos c21] at H
                      have c21b0 : (t229 == t232) = true := beq_iff_eq.mpr c21
                      have c21b1 : (t229 != t232) = false := bne_eq_false_iff_eq.mpr c21
                      clear c21
                      by_cases c22 : (t230 != t233) = true
                      · rw [if_pos c22] at H
                        have c22b0 : (t230 != t233) = true := c22
                        (try (have c22b1 : decide (t230 = t233) = false := by simpa using c22))
                        (try (have c22b2 : (t230 == t233) = false := by simpa using c22))
                        (try (have c22b3 : ¬ (t230 = t233) := by simpa using c22))
                        clear c22
                        obtain rfl := Option.some.inj H
                        go_wp2_with (first | ((with_reducible refine gate_dst (N := 79) rfl ?_); refine Kd.R_lit (Kd.int .u64) _ 25 ?hg (N := 79) ?hd (xs := ([a2, Int.tmod a2 4200, t215] : List Int)) (inner := [.int .u64 a2, .int .u64 (Int.tmod a2 4200), .int .u64 t215]) (ok := fun _ => True) (okp := fun _ => True) ?hr ?hp (fun _ hk => hk) trivial (Below.refl _ _) (Nat.le_refl _) (by simp) ?_; (case hd => rfl); (case hg => rfl); (case hr => first | (go_simp; done) | (go_simp; rfl)); (case hp => exact (Reps.one (show Kd.M (Kd.int .u64) _ _ _ a2 [.int .u64 a2] from rfl) (Reps.one (show Kd.M (Kd.int .u64) _ _ _ (Int.tmod a2 4200) [.int .u64 (Int.tmod a2 4200)] from rfl) (Reps.one (show Kd.M (Kd.int .u64) _ _ _ t215 [.int .u64 t215] from rfl) (Reps.none _ _))))); intro v225 w23 ho24 hb hg_ hnew_; clear hg_ hnew_; (first | rw [← Ny224.out] at ho24 | (simp only [Int.reduceToNat] at ho24; rw [← Ny224.out] at ho24)); have n0_ := Aside0.mk (Kd.R_lower ho24 (below_size (by repeat (first | (with_reducible first | exact HB.out | apply below_alloc | apply pw_below_drewN | apply below_drew1) | exact HB.out)))); have n1_ := Aside0.mk (below_step (by repeat (first | (with_reducible first | exact HB.out | apply below_alloc | apply pw_below_drewN | apply below_drew1) | exact HB.out)) hb); clear HB; have HO226 := n0_; have HB := n1_; clear n0_ n1_; clear hb ho24; obtain ⟨Ao25, co25, eo25⟩ := Kd.R_slice HO226.out; subst eo25; have p227 : 0 ≤ (x15_2 : Int) := of_decide_eq_true (by first | (with_reducible assumption) | assumption); have q227 : x15_2 < (y224.length : Int) := of_decide_eq_true (by first | (with_reducible assumption) | assumption); obtain ⟨ad227, e227, hx227_0⟩ := Kd.at_int (Kd.R_reads' HO226.out).2.2 x15_2 p227 q227; cases e227; replace p227 := eq_true p227; replace q227 := eq_true q227) | ((with_reducible refine gate_callee (f := 12) rfl ?_); refine goesL_ (some 85) rfl rfl Try.func12 (by kernel_rfl) rfl #[.int .u64 (rd y224 x15_2)] rfl (by (try simp only [List.map_toArray, List.map_cons, List.map_nil]); first | done | rfl | (simp only [List.length_drop, List.length_take]; rfl)) ?_; (with_reducible refine (count_HeadOf.calls k2 (rd y224 x15_2) t228 t229 t230 _ A16.out).mono ?_); rintro e w' ⟨rfl, ⟨nd, rfl⟩⟩; refine ⟨_, rfl, ?_⟩) | ((with_reducible refine gate_callee (f := 20) rfl ?_); refine goesL_ (some 91) rfl rfl Try.func20 (by kernel_rfl) rfl #[.int .u64 (rd y224 x15_2)] rfl (by (try simp only [List.map_toArray, List.map_cons, List.map_nil]); first | done | rfl | (simp only [List.length_drop, List.length_take]; rfl)) ?_; (with_reducible refine (wainscotref17_HeadOf.calls k2 (rd y224 x15_2) t231 t232 t233 _ A17.out).mono ?_); rintro e w' ⟨rfl, ⟨nd, rfl⟩⟩; refine ⟨_, rfl, ?_⟩) | ((with_reducible refine gate_callee (f := 13) rfl ?_); refine goesL_ (some 97) rfl rfl Try.func13 (by kernel_rfl) rfl #[.int .u64 (rd y224 x15_2)] rfl (by (try simp only [List.map_toArray, List.map_cons, List.map_nil]); first | done | rfl | (simp only [List.length_drop, List.length_take]; rfl)) ?_; (with_reducible refine (count_PartOf.calls k2 (rd y224 x15_2) t234 t235 t236 _ A18.out).mono ?_); rintro e w' ⟨rfl, ⟨nd, rfl⟩⟩; refine ⟨_, rfl, ?_⟩) | ((with_reducible refine gate_callee (f := 21) rfl ?_); refine goesL_ (some 103) rfl rfl Try.func21 (by kernel_rfl) rfl #[.int .u64 (rd y224 x15_2)] rfl (by (try simp only [List.map_toArray, List.map_cons, List.map_nil]); first | done | rfl | (simp only [List.length_drop, List.length_take]; rfl)) ?_; (with_reducible refine (wainscotref17_PartOf.calls k2 (rd y224 x15_2) t237 t238 t239 _ A19.out).mono ?_); rintro e w' ⟨rfl, ⟨nd, rfl⟩⟩; refine ⟨_, rfl, ?_⟩))
                        go_ret
                        exact ⟨by first | rfl | (simp [errW_none, errW_some] <;> rfl) | (simp [*, errW_none, errW_some] <;> rfl), by repeat (first | (with_reducible first | exact HB.out | apply below_alloc | apply pw_below_drewN | apply below_drew1) | exact HB.out)⟩
                      · rw [if_neg c22] at H
                        have c22b0 : (t230 != t233) = false := by simpa using c22
                        (try (have c22b1 : decide (t230 = t233) = true := by simpa using c22))
                        (try (have c22b2 : (t230 == t233) = true := by simpa using c22))
                        clear c22
                        by_cases c26 : t234 = t237
                        · rw [if_pos c26] at H
                          have c26b0 : (t234 == t237) = true := beq_iff_eq.mpr c26
                          have c26b1 : (t234 != t237) = false := bne_eq_false_iff_eq.mpr c26
                          clear c26
                          by_cases c27 : t235 = t238
                          · rw [if_pos c27] at H
                            have c27b0 : (t235 == t238) = true := beq_iff_eq.mpr c27
                            have c27b1 : (t235 != t238) = false := bne_eq_false_iff_eq.mpr c27
                            clear c27
                            by_cases c28 : (t236 != t239) = true
                            · rw [if_pos c28] at H
                              have c28b0 : (t236 != t239) = true := c28
                              (try (have c28b1 : decide (t236 = t239) = false := by simpa using c28))
                              (try (have c28b2 : (t236 == t239) = false := by simpa using c28))
                              (try (have c28b3 : ¬ (t236 = t239) := by simpa using c28))
                              clear c28
                              obtain rfl := Option.some.inj H
                              go_wp2_with (first | ((with_reducible refine gate_dst (N := 79) rfl ?_); refine Kd.R_lit (Kd.int .u64) _ 25 ?hg (N := 79) ?hd (xs := ([a2, Int.tmod a2 4200, t215] : List Int)) (inner := [.int .u64 a2, .int .u64 (Int.tmod a2 4200), .int .u64 t215]) (ok := fun _ => True) (okp := fun _ => True) ?hr ?hp (fun _ hk => hk) trivial (Below.refl _ _) (Nat.le_refl _) (by simp) ?_; (case hd => rfl); (case hg => rfl); (case hr => first | (go_simp; done) | (go_simp; rfl)); (case hp => exact (Reps.one (show Kd.M (Kd.int .u64) _ _ _ a2 [.int .u64 a2] from rfl) (Reps.one (show Kd.M (Kd.int .u64) _ _ _ (Int.tmod a2 4200) [.int .u64 (Int.tmod a2 4200)] from rfl) (Reps.one (show Kd.M (Kd.int .u64) _ _ _ t215 [.int .u64 t215] from rfl) (Reps.none _ _))))); intro v225 w29 ho30 hb hg_ hnew_; clear hg_ hnew_; (first | rw [← Ny224.out] at ho30 | (simp only [Int.reduceToNat] at ho30; rw [← Ny224.out] at ho30)); have n0_ := Aside0.mk (Kd.R_lower ho30 (below_size (by repeat (first | (with_reducible first | exact HB.out | apply below_alloc | apply pw_below_drewN | apply below_drew1) | exact HB.out)))); have n1_ := Aside0.mk (below_step (by repeat (first | (with_reducible first | exact HB.out | apply below_alloc | apply pw_below_drewN | apply below_drew1) | exact HB.out)) hb); clear HB; have HO226 := n0_; have HB := n1_; clear n0_ n1_; clear hb ho30; obtain ⟨Ao31, co31, eo31⟩ := Kd.R_slice HO226.out; subst eo31; have p227 : 0 ≤ (x15_2 : Int) := of_decide_eq_true (by first | (with_reducible assumption) | assumption); have q227 : x15_2 < (y224.length : Int) := of_decide_eq_true (by first | (with_reducible assumption) | assumption); obtain ⟨ad227, e227, hx227_0⟩ := Kd.at_int (Kd.R_reads' HO226.out).2.2 x15_2 p227 q227; cases e227; replace p227 := eq_true p227; replace q227 := eq_true q227) | ((with_reducible refine gate_callee (f := 12) rfl ?_); refine goesL_ (some 85) rfl rfl Try.func12 (by kernel_rfl) rfl #[.int .u64 (rd y224 x15_2)] rfl (by (try simp only [List.map_toArray, List.map_cons, List.map_nil]); first | done | rfl | (simp only [List.length_drop, List.length_take]; rfl)) ?_; (with_reducible refine (count_HeadOf.calls k2 (rd y224 x15_2) t228 t229 t230 _ A16.out).mono ?_); rintro e w' ⟨rfl, ⟨nd, rfl⟩⟩; refine ⟨_, rfl, ?_⟩) | ((with_reducible refine gate_callee (f := 20) rfl ?_); refine goesL_ (some 91) rfl rfl Try.func20 (by kernel_rfl) rfl #[.int .u64 (rd y224 x15_2)] rfl (by (try simp only [List.map_toArray, List.map_cons, List.map_nil]); first | done | rfl | (simp only [List.length_drop, List.length_take]; rfl)) ?_; (with_reducible refine (wainscotref17_HeadOf.calls k2 (rd y224 x15_2) t231 t232 t233 _ A17.out).mono ?_); rintro e w' ⟨rfl, ⟨nd, rfl⟩⟩; refine ⟨_, rfl, ?_⟩) | ((with_reducible refine gate_callee (f := 13) rfl ?_); refine goesL_ (some 97) rfl rfl Try.func13 (by kernel_rfl) rfl #[.int .u64 (rd y224 x15_2)] rfl (by (try simp only [List.map_toArray, List.map_cons, List.map_nil]); first | done | rfl | (simp only [List.length_drop, List.length_take]; rfl)) ?_; (with_reducible refine (count_PartOf.calls k2 (rd y224 x15_2) t234 t235 t236 _ A18.out).mono ?_); rintro e w' ⟨rfl, ⟨nd, rfl⟩⟩; refine ⟨_, rfl, ?_⟩) | ((with_reducible refine gate_callee (f := 21) rfl ?_); refine goesL_ (some 103) rfl rfl Try.func21 (by kernel_rfl) rfl #[.int .u64 (rd y224 x15_2)] rfl (by (try simp only [List.map_toArray, List.map_cons, List.map_nil]); first | done | rfl | (simp only [List.length_drop, List.length_take]; rfl)) ?_; (with_reducible refine (wainscotref17_PartOf.calls k2 (rd y224 x15_2) t237 t238 t239 _ A19.out).mono ?_); rintro e w' ⟨rfl, ⟨nd, rfl⟩⟩; refine ⟨_, rfl, ?_⟩))
                              go_ret
                              exact ⟨by first | rfl | (simp [errW_none, errW_some] <;> rfl) | (simp [*, errW_none, errW_some] <;> rfl), by repeat (first | (with_reducible first | exact HB.out | apply below_alloc | apply pw_below_drewN | apply below_drew1) | exact HB.out)⟩
                            · rw [if_neg c28] at H
                              have c28b0 : (t236 != t239) = false := by simpa using c28
                              (try (have c28b1 : decide (t236 = t239) = true := by simpa using c28))
                              (try (have c28b2 : (t236 == t239) = true := by simpa using c28))
                              clear c28
                              have H' := Aside0.mk H
                              clear H
                              go_wp2_with (first | ((with_reducible refine gate_dst (N := 79) rfl ?_); refine Kd.R_lit (Kd.int .u64) _ 25 ?hg (N := 79) ?hd (xs := ([a2, Int.tmod a2 4200, t215] : List Int)) (inner := [.int .u64 a2, .int .u64 (Int.tmod a2 4200), .int .u64 t215]) (ok := fun _ => True) (okp := fun _ => True) ?hr ?hp (fun _ hk => hk) trivial (Below.refl _ _) (Nat.le_refl _) (by simp) ?_; (case hd => rfl); (case hg => rfl); (case hr => first | (go_simp; done) | (go_simp; rfl)); (case hp => exact (Reps.one (show Kd.M (Kd.int .u64) _ _ _ a2 [.int .u64 a2] from rfl) (Reps.one (show Kd.M (Kd.int .u64) _ _ _ (Int.tmod a2 4200) [.int .u64 (Int.tmod a2 4200)] from rfl) (Reps.one (show Kd.M (Kd.int .u64) _ _ _ t215 [.int .u64 t215] from rfl) (Reps.none _ _))))); intro v225 w32 ho33 hb hg_ hnew_; clear hg_ hnew_; (first | rw [← Ny224.out] at ho33 | (simp only [Int.reduceToNat] at ho33; rw [← Ny224.out] at ho33)); have n0_ := Aside0.mk (Kd.R_lower ho33 (below_size (by repeat (first | (with_reducible first | exact HB.out | apply below_alloc | apply pw_below_drewN | apply below_drew1) | exact HB.out)))); have n1_ := Aside0.mk (below_step (by repeat (first | (with_reducible first | exact HB.out | apply below_alloc | apply pw_below_drewN | apply below_drew1) | exact HB.out)) hb); clear HB; have HO226 := n0_; have HB := n1_; clear n0_ n1_; clear hb ho33; obtain ⟨Ao34, co34, eo34⟩ := Kd.R_slice HO226.out; subst eo34; have p227 : 0 ≤ (x15_2 : Int) := of_decide_eq_true (by first | (with_reducible assumption) | assumption); have q227 : x15_2 < (y224.length : Int) := of_decide_eq_true (by first | (with_reducible assumption) | assumption); obtain ⟨ad227, e227, hx227_0⟩ := Kd.at_int (Kd.R_reads' HO226.out).2.2 x15_2 p227 q227; cases e227; replace p227 := eq_true p227; replace q227 := eq_true q227) | ((with_reducible refine gate_callee (f := 12) rfl ?_); refine goesL_ (some 85) rfl rfl Try.func12 (by kernel_rfl) rfl #[.int .u64 (rd y224 x15_2)] rfl (by (try simp only [List.map_toArray, List.map_cons, List.map_nil]); first | done | rfl | (simp only [List.length_drop, List.length_take]; rfl)) ?_; (with_reducible refine (count_HeadOf.calls k2 (rd y224 x15_2) t228 t229 t230 _ A16.out).mono ?_); rintro e w' ⟨rfl, ⟨nd, rfl⟩⟩; refine ⟨_, rfl, ?_⟩) | ((with_reducible refine gate_callee (f := 20) rfl ?_); refine goesL_ (some 91) rfl rfl Try.func20 (by kernel_rfl) rfl #[.int .u64 (rd y224 x15_2)] rfl (by (try simp only [List.map_toArray, List.map_cons, List.map_nil]); first | done | rfl | (simp only [List.length_drop, List.length_take]; rfl)) ?_; (with_reducible refine (wainscotref17_HeadOf.calls k2 (rd y224 x15_2) t231 t232 t233 _ A17.out).mono ?_); rintro e w' ⟨rfl, ⟨nd, rfl⟩⟩; refine ⟨_, rfl, ?_⟩) | ((with_reducible refine gate_callee (f := 13) rfl ?_); refine goesL_ (some 97) rfl rfl Try.func13 (by kernel_rfl) rfl #[.int .u64 (rd y224 x15_2)] rfl (by (try simp only [List.map_toArray, List.map_cons, List.map_nil]); first | done | rfl | (simp only [List.length_drop, List.length_take]; rfl)) ?_; (with_reducible refine (count_PartOf.calls k2 (rd y224 x15_2) t234 t235 t236 _ A18.out).mono ?_); rintro e w' ⟨rfl, ⟨nd, rfl⟩⟩; refine ⟨_, rfl, ?_⟩) | ((with_reducible refine gate_callee (f := 21) rfl ?_); refine goesL_ (some 103) rfl rfl Try.func21 (by kernel_rfl) rfl #[.int .u64 (rd y224 x15_2)] rfl (by (try simp only [List.map_toArray, List.map_cons, List.map_nil]); first | done | rfl | (simp only [List.length_drop, List.length_take]; rfl)) ?_; (with_reducible refine (wainscotref17_PartOf.calls k2 (rd y224 x15_2) t237 t238 t239 _ A19.out).mono ?_); rintro e w' ⟨rfl, ⟨nd, rfl⟩⟩; refine ⟨_, rfl, ?_⟩))
                              go_roundg k2
                              case measure => have := HJ7.out; have := HK2.out; omega
                              case rel => exact ⟨(wrap64 (x15_2 + 1)), (by first | rfl | (simp; done) | (simp [*]; done)), H', ⟨by have := HJ7.out; have := HK2.out; omega⟩, ⟨by repeat (first | (with_reducible first | exact HB.out | apply below_alloc | apply pw_below_drewN | apply below_drew1) | exact HB.out)⟩⟩
                          · rw [if_neg c27] at H
                            have c27b0 : (t235 == t238) = false := beq_eq_false_iff_ne.mpr c27
                            have c27b1 : (t235 != t238) = true := bne_iff_ne.mpr c27
                            obtain rfl := Option.some.inj H
                            go_wp2_with (first | ((with_reducible refine gate_dst (N := 79) rfl ?_); refine Kd.R_lit (Kd.int .u64) _ 25 ?hg (N := 79) ?hd (xs := ([a2, Int.tmod a2 4200, t215] : List Int)) (inner := [.int .u64 a2, .int .u64 (Int.tmod a2 4200), .int .u64 t215]) (ok := fun _ => True) (okp := fun _ => True) ?hr ?hp (fun _ hk => hk) trivial (Below.refl _ _) (Nat.le_refl _) (by simp) ?_; (case hd => rfl); (case hg => rfl); (case hr => first | (go_simp; done) | (go_simp; rfl)); (case hp => exact (Reps.one (show Kd.M (Kd.int .u64) _ _ _ a2 [.int .u64 a2] from rfl) (Reps.one (show Kd.M (Kd.int .u64) _ _ _ (Int.tmod a2 4200) [.int .u64 (Int.tmod a2 4200)] from rfl) (Reps.one (show Kd.M (Kd.int .u64) _ _ _ t215 [.int .u64 t215] from rfl) (Reps.none _ _))))); intro v225 w35 ho36 hb hg_ hnew_; clear hg_ hnew_; (first | rw [← Ny224.out] at ho36 | (simp only [Int.reduceToNat] at ho36; rw [← Ny224.out] at ho36)); have n0_ := Aside0.mk (Kd.R_lower ho36 (below_size (by repeat (first | (with_reducible first | exact HB.out | apply below_alloc | apply pw_below_drewN | apply below_drew1) | exact HB.out)))); have n1_ := Aside0.mk (below_step (by repeat (first | (with_reducible first | exact HB.out | apply below_alloc | apply pw_below_drewN | apply below_drew1) | exact HB.out)) hb); clear HB; have HO226 := n0_; have HB := n1_; clear n0_ n1_; clear hb ho36; obtain ⟨Ao37, co37, eo37⟩ := Kd.R_slice HO226.out; subst eo37; have p227 : 0 ≤ (x15_2 : Int) := of_decide_eq_true (by first | (with_reducible assumption) | assumption); have q227 : x15_2 < (y224.length : Int) := of_decide_eq_true (by first | (with_reducible assumption) | assumption); obtain ⟨ad227, e227, hx227_0⟩ := Kd.at_int (Kd.R_reads' HO226.out).2.2 x15_2 p227 q227; cases e227; replace p227 := eq_true p227; replace q227 := eq_true q227) | ((with_reducible refine gate_callee (f := 12) rfl ?_); refine goesL_ (some 85) rfl rfl Try.func12 (by kernel_rfl) rfl #[.int .u64 (rd y224 x15_2)] rfl (by (try simp only [List.map_toArray, List.map_cons, List.map_nil]); first | done | rfl | (simp only [List.length_drop, List.length_take]; rfl)) ?_; (with_reducible refine (count_HeadOf.calls k2 (rd y224 x15_2) t228 t229 t230 _ A16.out).mono ?_); rintro e w' ⟨rfl, ⟨nd, rfl⟩⟩; refine ⟨_, rfl, ?_⟩) | ((with_reducible refine gate_callee (f := 20) rfl ?_); refine goesL_ (some 91) rfl rfl Try.func20 (by kernel_rfl) rfl #[.int .u64 (rd y224 x15_2)] rfl (by (try simp only [List.map_toArray, List.map_cons, List.map_nil]); first | done | rfl | (simp only [List.length_drop, List.length_take]; rfl)) ?_; (with_reducible refine (wainscotref17_HeadOf.calls k2 (rd y224 x15_2) t231 t232 t233 _ A17.out).mono ?_); rintro e w' ⟨rfl, ⟨nd, rfl⟩⟩; refine ⟨_, rfl, ?_⟩) | ((with_reducible refine gate_callee (f := 13) rfl ?_); refine goesL_ (some 97) rfl rfl Try.func13 (by kernel_rfl) rfl #[.int .u64 (rd y224 x15_2)] rfl (by (try simp only [List.map_toArray, List.map_cons, List.map_nil]); first | done | rfl | (simp only [List.length_drop, List.length_take]; rfl)) ?_; (with_reducible refine (count_PartOf.calls k2 (rd y224 x15_2) t234 t235 t236 _ A18.out).mono ?_); rintro e w' ⟨rfl, ⟨nd, rfl⟩⟩; refine ⟨_, rfl, ?_⟩) | ((with_reducible refine gate_callee (f := 21) rfl ?_); refine goesL_ (some 103) rfl rfl Try.func21 (by kernel_rfl) rfl #[.int .u64 (rd y224 x15_2)] rfl (by (try simp only [List.map_toArray, List.map_cons, List.map_nil]); first | done | rfl | (simp only [List.length_drop, List.length_take]; rfl)) ?_; (with_reducible refine (wainscotref17_PartOf.calls k2 (rd y224 x15_2) t237 t238 t239 _ A19.out).mono ?_); rintro e w' ⟨rfl, ⟨nd, rfl⟩⟩; refine ⟨_, rfl, ?_⟩))
                            go_ret
                            exact ⟨by first | rfl | (simp [errW_none, errW_some] <;> rfl) | (simp [*, errW_none, errW_some] <;> rfl), by repeat (first | (with_reducible first | exact HB.out | apply below_alloc | apply pw_below_drewN | apply below_drew1) | exact HB.out)⟩
                        · rw [if_neg c26] at H
                          have c26b0 : (t234 == t237) = false := beq_eq_false_iff_ne.mpr c26
                          have c26b1 : (t234 != t237) = true := bne_iff_ne.mpr c26
                          obtain rfl := Option.some.inj H
                          go_wp2_with (first | ((with_reducible refine gate_dst (N := 79) rfl ?_); refine Kd.R_lit (Kd.int .u64) _ 25 ?hg (N := 79) ?hd (xs := ([a2, Int.tmod a2 4200, t215] : List Int)) (inner := [.int .u64 a2, .int .u64 (Int.tmod a2 4200), .int .u64 t215]) (ok := fun _ => True) (okp := fun _ => True) ?hr ?hp (fun _ hk => hk) trivial (Below.refl _ _) (Nat.le_refl _) (by simp) ?_; (case hd => rfl); (case hg => rfl); (case hr => first | (go_simp; done) | (go_simp; rfl)); (case hp => exact (Reps.one (show Kd.M (Kd.int .u64) _ _ _ a2 [.int .u64 a2] from rfl) (Reps.one (show Kd.M (Kd.int .u64) _ _ _ (Int.tmod a2 4200) [.int .u64 (Int.tmod a2 4200)] from rfl) (Reps.one (show Kd.M (Kd.int .u64) _ _ _ t215 [.int .u64 t215] from rfl) (Reps.none _ _))))); intro v225 w38 ho39 hb hg_ hnew_; clear hg_ hnew_; (first | rw [← Ny224.out] at ho39 | (simp only [Int.reduceToNat] at ho39; rw [← Ny224.out] at ho39)); have n0_ := Aside0.mk (Kd.R_lower ho39 (below_size (by repeat (first | (with_reducible first | exact HB.out | apply below_alloc | apply pw_below_drewN | apply below_drew1) | exact HB.out)))); have n1_ := Aside0.mk (below_step (by repeat (first | (with_reducible first | exact HB.out | apply below_alloc | apply pw_below_drewN | apply below_drew1) | exact HB.out)) hb); clear HB; have HO226 := n0_; have HB := n1_; clear n0_ n1_; clear hb ho39; obtain ⟨Ao40, co40, eo40⟩ := Kd.R_slice HO226.out; subst eo40; have p227 : 0 ≤ (x15_2 : Int) := of_decide_eq_true (by first | (with_reducible assumption) | assumption); have q227 : x15_2 < (y224.length : Int) := of_decide_eq_true (by first | (with_reducible assumption) | assumption); obtain ⟨ad227, e227, hx227_0⟩ := Kd.at_int (Kd.R_reads' HO226.out).2.2 x15_2 p227 q227; cases e227; replace p227 := eq_true p227; replace q227 := eq_true q227) | ((with_reducible refine gate_callee (f := 12) rfl ?_); refine goesL_ (some 85) rfl rfl Try.func12 (by kernel_rfl) rfl #[.int .u64 (rd y224 x15_2)] rfl (by (try simp only [List.map_toArray, List.map_cons, List.map_nil]); first | done | rfl | (simp only [List.length_drop, List.length_take]; rfl)) ?_; (with_reducible refine (count_HeadOf.calls k2 (rd y224 x15_2) t228 t229 t230 _ A16.out).mono ?_); rintro e w' ⟨rfl, ⟨nd, rfl⟩⟩; refine ⟨_, rfl, ?_⟩) | ((with_reducible refine gate_callee (f := 20) rfl ?_); refine goesL_ (some 91) rfl rfl Try.func20 (by kernel_rfl) rfl #[.int .u64 (rd y224 x15_2)] rfl (by (try simp only [List.map_toArray, List.map_cons, List.map_nil]); first | done | rfl | (simp only [List.length_drop, List.length_take]; rfl)) ?_; (with_reducible refine (wainscotref17_HeadOf.calls k2 (rd y224 x15_2) t231 t232 t233 _ A17.out).mono ?_); rintro e w' ⟨rfl, ⟨nd, rfl⟩⟩; refine ⟨_, rfl, ?_⟩) | ((with_reducible refine gate_callee (f := 13) rfl ?_); refine goesL_ (some 97) rfl rfl Try.func13 (by kernel_rfl) rfl #[.int .u64 (rd y224 x15_2)] rfl (by (try simp only [List.map_toArray, List.map_cons, List.map_nil]); first | done | rfl | (simp only [List.length_drop, List.length_take]; rfl)) ?_; (with_reducible refine (count_PartOf.calls k2 (rd y224 x15_2) t234 t235 t236 _ A18.out).mono ?_); rintro e w' ⟨rfl, ⟨nd, rfl⟩⟩; refine ⟨_, rfl, ?_⟩) | ((with_reducible refine gate_callee (f := 21) rfl ?_); refine goesL_ (some 103) rfl rfl Try.func21 (by kernel_rfl) rfl #[.int .u64 (rd y224 x15_2)] rfl (by (try simp only [List.map_toArray, List.map_cons, List.map_nil]); first | done | rfl | (simp only [List.length_drop, List.length_take]; rfl)) ?_; (with_reducible refine (wainscotref17_PartOf.calls k2 (rd y224 x15_2) t237 t238 t239 _ A19.out).mono ?_); rintro e w' ⟨rfl, ⟨nd, rfl⟩⟩; refine ⟨_, rfl, ?_⟩))
                          go_ret
                          exact ⟨by first | rfl | (simp [errW_none, errW_some] <;> rfl) | (simp [*, errW_none, errW_some] <;> rfl), by repeat (first | (with_reducible first | exact HB.out | apply below_alloc | apply pw_below_drewN | apply below_drew1) | exact HB.out)⟩
                    · rw [if_neg c21] at H
                      have c21b0 : (t229 == t232) = false := beq_eq_false_iff_ne.mpr c21
                      have c21b1 : (t229 != t232) = true := bne_iff_ne.mpr c21
                      obtain rfl := Option.some.inj H
                      go_wp2_with (first | ((with_reducible refine gate_dst (N := 79) rfl ?_); refine Kd.R_lit (Kd.int .u64) _ 25 ?hg (N := 79) ?hd (xs := ([a2, Int.tmod a2 4200, t215] : List Int)) (inner := [.int .u64 a2, .int .u64 (Int.tmod a2 4200), .int .u64 t215]) (ok := fun _ => True) (okp := fun _ => True) ?hr ?hp (fun _ hk => hk) trivial (Below.refl _ _) (Nat.le_refl _) (by simp) ?_; (case hd => rfl); (case hg => rfl); (case hr => first | (go_simp; done) | (go_simp; rfl)); (case hp => exact (Reps.one (show Kd.M (Kd.int .u64) _ _ _ a2 [.int .u64 a2] from rfl) (Reps.one (show Kd.M (Kd.int .u64) _ _ _ (Int.tmod a2 4200) [.int .u64 (Int.tmod a2 4200)] from rfl) (Reps.one (show Kd.M (Kd.int .u64) _ _ _ t215 [.int .u64 t215] from rfl) (Reps.none _ _))))); intro v225 w41 ho42 hb hg_ hnew_; clear hg_ hnew_; (first | rw [← Ny224.out] at ho42 | (simp only [Int.reduceToNat] at ho42; rw [← Ny224.out] at ho42)); have n0_ := Aside0.mk (Kd.R_lower ho42 (below_size (by repeat (first | (with_reducible first | exact HB.out | apply below_alloc | apply pw_below_drewN | apply below_drew1) | exact HB.out)))); have n1_ := Aside0.mk (below_step (by repeat (first | (with_reducible first | exact HB.out | apply below_alloc | apply pw_below_drewN | apply below_drew1) | exact HB.out)) hb); clear HB; have HO226 := n0_; have HB := n1_; clear n0_ n1_; clear hb ho42; obtain ⟨Ao43, co43, eo43⟩ := Kd.R_slice HO226.out; subst eo43; have p227 : 0 ≤ (x15_2 : Int) := of_decide_eq_true (by first | (with_reducible assumption) | assumption); have q227 : x15_2 < (y224.length : Int) := of_decide_eq_true (by first | (with_reducible assumption) | assumption); obtain ⟨ad227, e227, hx227_0⟩ := Kd.at_int (Kd.R_reads' HO226.out).2.2 x15_2 p227 q227; cases e227; replace p227 := eq_true p227; replace q227 := eq_true q227) | ((with_reducible refine gate_callee (f := 12) rfl ?_); refine goesL_ (some 85) rfl rfl Try.func12 (by kernel_rfl) rfl #[.int .u64 (rd y224 x15_2)] rfl (by (try simp only [List.map_toArray, List.map_cons, List.map_nil]); first | done | rfl | (simp only [List.length_drop, List.length_take]; rfl)) ?_; (with_reducible refine (count_HeadOf.calls k2 (rd y224 x15_2) t228 t229 t230 _ A16.out).mono ?_); rintro e w' ⟨rfl, ⟨nd, rfl⟩⟩; refine ⟨_, rfl, ?_⟩) | ((with_reducible refine gate_callee (f := 20) rfl ?_); refine goesL_ (some 91) rfl rfl Try.func20 (by kernel_rfl) rfl #[.int .u64 (rd y224 x15_2)] rfl (by (try simp only [List.map_toArray, List.map_cons, List.map_nil]); first | done | rfl | (simp only [List.length_drop, List.length_take]; rfl)) ?_; (with_reducible refine (wainscotref17_HeadOf.calls k2 (rd y224 x15_2) t231 t232 t233 _ A17.out).mono ?_); rintro e w' ⟨rfl, ⟨nd, rfl⟩⟩; refine ⟨_, rfl, ?_⟩) | ((with_reducible refine gate_callee (f := 13) rfl ?_); refine goesL_ (some 97) rfl rfl Try.func13 (by kernel_rfl) rfl #[.int .u64 (rd y224 x15_2)] rfl (by (try simp only [List.map_toArray, List.map_cons, List.map_nil]); first | done | rfl | (simp only [List.length_drop, List.length_take]; rfl)) ?_; (with_reducible refine (count_PartOf.calls k2 (rd y224 x15_2) t234 t235 t236 _ A18.out).mono ?_); rintro e w' ⟨rfl, ⟨nd, rfl⟩⟩; refine ⟨_, rfl, ?_⟩) | ((with_reducible refine gate_callee (f := 21) rfl ?_); refine goesL_ (some 103) rfl rfl Try.func21 (by kernel_rfl) rfl #[.int .u64 (rd y224 x15_2)] rfl (by (try simp only [List.map_toArray, List.map_cons, List.map_nil]); first | done | rfl | (simp only [List.length_drop, List.length_take]; rfl)) ?_; (with_reducible refine (wainscotref17_PartOf.calls k2 (rd y224 x15_2) t237 t238 t239 _ A19.out).mono ?_); rintro e w' ⟨rfl, ⟨nd, rfl⟩⟩; refine ⟨_, rfl, ?_⟩))
                      go_ret
                      exact ⟨by first | rfl | (simp [errW_none, errW_some] <;> rfl) | (simp [*, errW_none, errW_some] <;> rfl), by repeat (first | (with_reducible first | exact HB.out | apply below_alloc | apply pw_below_drewN | apply below_drew1) | exact HB.out)⟩
                  · rw [if_neg c20] at H
                    have c20b0 : (t228 == t231) = false := beq_eq_false_iff_ne.mpr c20
                    have c20b1 : (t228 != t231) = true := bne_iff_ne.mpr c20
                    obtain rfl := Option.some.inj H
                    go_wp2_with (first | ((with_reducible refine gate_dst (N := 79) rfl ?_); refine Kd.R_lit (Kd.int .u64) _ 25 ?hg (N := 79) ?hd (xs := ([a2, Int.tmod a2 4200, t215] : List Int)) (inner := [.int .u64 a2, .int .u64 (Int.tmod a2 4200), .int .u64 t215]) (ok := fun _ => True) (okp := fun _ => True) ?hr ?hp (fun _ hk => hk) trivial (Below.refl _ _) (Nat.le_refl _) (by simp) ?_; (case hd => rfl); (case hg => rfl); (case hr => first | (go_simp; done) | (go_simp; rfl)); (case hp => exact (Reps.one (show Kd.M (Kd.int .u64) _ _ _ a2 [.int .u64 a2] from rfl) (Reps.one (show Kd.M (Kd.int .u64) _ _ _ (Int.tmod a2 4200) [.int .u64 (Int.tmod a2 4200)] from rfl) (Reps.one (show Kd.M (Kd.int .u64) _ _ _ t215 [.int .u64 t215] from rfl) (Reps.none _ _))))); intro v225 w44 ho45 hb hg_ hnew_; clear hg_ hnew_; (first | rw [← Ny224.out] at ho45 | (simp only [Int.reduceToNat] at ho45; rw [← Ny224.out] at ho45)); have n0_ := Aside0.mk (Kd.R_lower ho45 (below_size (by repeat (first | (with_reducible first | exact HB.out | apply below_alloc | apply pw_below_drewN | apply below_drew1) | exact HB.out)))); have n1_ := Aside0.mk (below_step (by repeat (first | (with_reducible first | exact HB.out | apply below_alloc | apply pw_below_drewN | apply below_drew1) | exact HB.out)) hb); clear HB; have HO226 := n0_; have HB := n1_; clear n0_ n1_; clear hb ho45; obtain ⟨Ao46, co46, eo46⟩ := Kd.R_slice HO226.out; subst eo46; have p227 : 0 ≤ (x15_2 : Int) := of_decide_eq_true (by first | (with_reducible assumption) | assumption); have q227 : x15_2 < (y224.length : Int) := of_decide_eq_true (by first | (with_reducible assumption) | assumption); obtain ⟨ad227, e227, hx227_0⟩ := Kd.at_int (Kd.R_reads' HO226.out).2.2 x15_2 p227 q227; cases e227; replace p227 := eq_true p227; replace q227 := eq_true q227) | ((with_reducible refine gate_callee (f := 12) rfl ?_); refine goesL_ (some 85) rfl rfl Try.func12 (by kernel_rfl) rfl #[.int .u64 (rd y224 x15_2)] rfl (by (try simp only [List.map_toArray, List.map_cons, List.map_nil]); first | done | rfl | (simp only [List.length_drop, List.length_take]; rfl)) ?_; (with_reducible refine (count_HeadOf.calls k2 (rd y224 x15_2) t228 t229 t230 _ A16.out).mono ?_); rintro e w' ⟨rfl, ⟨nd, rfl⟩⟩; refine ⟨_, rfl, ?_⟩) | ((with_reducible refine gate_callee (f := 20) rfl ?_); refine goesL_ (some 91) rfl rfl Try.func20 (by kernel_rfl) rfl #[.int .u64 (rd y224 x15_2)] rfl (by (try simp only [List.map_toArray, List.map_cons, List.map_nil]); first | done | rfl | (simp only [List.length_drop, List.length_take]; rfl)) ?_; (with_reducible refine (wainscotref17_HeadOf.calls k2 (rd y224 x15_2) t231 t232 t233 _ A17.out).mono ?_); rintro e w' ⟨rfl, ⟨nd, rfl⟩⟩; refine ⟨_, rfl, ?_⟩) | ((with_reducible refine gate_callee (f := 13) rfl ?_); refine goesL_ (some 97) rfl rfl Try.func13 (by kernel_rfl) rfl #[.int .u64 (rd y224 x15_2)] rfl (by (try simp only [List.map_toArray, List.map_cons, List.map_nil]); first | done | rfl | (simp only [List.length_drop, List.length_take]; rfl)) ?_; (with_reducible refine (count_PartOf.calls k2 (rd y224 x15_2) t234 t235 t236 _ A18.out).mono ?_); rintro e w' ⟨rfl, ⟨nd, rfl⟩⟩; refine ⟨_, rfl, ?_⟩) | ((with_reducible refine gate_callee (f := 21) rfl ?_); refine goesL_ (some 103) rfl rfl Try.func21 (by kernel_rfl) rfl #[.int .u64 (rd y224 x15_2)] rfl (by (try simp only [List.map_toArray, List.map_cons, List.map_nil]); first | done | rfl | (simp only [List.length_drop, List.length_take]; rfl)) ?_; (with_reducible refine (wainscotref17_PartOf.calls k2 (rd y224 x15_2) t237 t238 t239 _ A19.out).mono ?_); rintro e w' ⟨rfl, ⟨nd, rfl⟩⟩; refine ⟨_, rfl, ?_⟩))
                    go_ret
                    exact ⟨by first | rfl | (simp [errW_none, errW_some] <;> rfl) | (simp [*, errW_none, errW_some] <;> rfl), by repeat (first | (with_reducible first | exact HB.out | apply below_alloc | apply pw_below_drewN | apply below_drew1) | exact HB.out)⟩
                · rw [if_neg c15] at H
                  exact absurd H (by simp)
              · rw [if_neg c14] at H
                exact absurd H (by simp)
            · rw [if_neg c13] at H
              have c13b0 : decide (x15_2 < 3) = false := decide_eq_false c13
              clear c13
              replace H := Option.bind_eq_some_iff.mp H
              obtain ⟨t223, A470, H⟩ := H
              replace H : (some t223) = some r := H
              have A47 := Aside0.mk A470
              clear A470
              obtain rfl := Option.some.inj H
              go_wp2_with (first | ((with_reducible refine gate_callee (f := 11) rfl ?_); refine goesL_ (some 135) rfl rfl Try.func11 (by kernel_rfl) rfl #[] rfl (by (try simp only [List.map_toArray, List.map_cons, List.map_nil]); first | done | rfl | (simp only [List.length_drop, List.length_take]; rfl)) ?_; (with_reducible refine (wainscotlaw17_works.calls k2  t223 _ A47.out).mono ?_); rintro e w48 ⟨rfl, hb⟩; refine ⟨_, rfl, ?_⟩; have n0_ := Aside0.mk (below_step (by repeat (first | (with_reducible first | exact HB.out | apply below_alloc | apply pw_below_drewN | apply below_drew1) | exact HB.out)) hb); clear HB; have HB := n0_; clear n0_; (try clear hb); (try clear hb2); (try clear hk); (try clear hi)))
              go_ret
              exact ⟨by first | rfl | (simp [errW_none, errW_some] <;> rfl) | (simp [*, errW_none, errW_some] <;> rfl), by repeat (first | (with_reducible first | exact HB.out | apply below_alloc | apply pw_below_drewN | apply below_drew1) | exact HB.out)⟩

/-- THE ONE PURE STATEMENT of wainscotlaw17_CountHeads: yours. -/
def wainscotlaw17_CountHeads.Pure : Prop := ∀ (a0 : Int) (a1 : Int) (a2 : Int), (Lit.int .i64 a0).wf = true → (Lit.int .i64 a1).wf = true → (Lit.int .u64 a2).wf = true → ∃ k, wainscotlaw17_CountHeads.f k a0 a1 a2 = some true
theorem wainscotlaw17_CountHeads.walk (P : wainscotlaw17_CountHeads.Pure) (a0 : Int) (a1 : Int) (a2 : Int) (w : World) (w0 : (Lit.int .i64 a0).wf = true) (w1 : (Lit.int .i64 a1).wf = true) (w2 : (Lit.int .u64 a2).wf = true) :
    Calls Try.prog 6 #[.int .i64 a0, .int .i64 a1, .int .u64 a2] w fun e w' => e = .returned (.bool true) ∧ Below w.heap.size w w' := by
  obtain ⟨k, h⟩ := P a0 a1 a2 w0 w1 w2
  refine (wainscotlaw17_CountHeads.calls k a0 a1 a2 true w h).mono ?_
  rintro e w' ⟨rfl, hd⟩
  exact ⟨rfl, hd⟩

end Go.Proofs.Ytfhjpefedlaacaa.G
