/- What Go functions of the seat compute: each as a plain Lean function, and that its call answers just that. Written by a program of this session (wip/own_print.py). -/
import Derived.Test.YtamdfipmbpfhbaaG0
namespace Go.Proofs.Ytamdfipmbpfhbaa.G
open Go.RowKit Go.Proofs.YtamdfipmbpfhbaaW.PrintWords Go.Proofs.YtamdfipmbpfhbaaW.PrintLast Go.Proofs.YtamdfipmbpfhbaaW.PrintMore
attribute [local go_sem] max2_int min2_int max_two min_two max_three min_three max_four min_four   -- for this text's walks alone
set_option linter.unusedVariables false
set_option linter.unusedSimpArgs false

/-! ### link_object: function 23 -/
def link_object.f (a0 : Int) : Option (Bool) := if 0 ≤ a0 then (some (decide (a0 < 16))) else (some false)
set_option maxHeartbeats 8000000 in
set_option maxRecDepth 100000 in
theorem link_object.calls (a0 : Int) (r : Bool) (w : World) (h : link_object.f a0 = some r) :
    Calls Try.prog 23 #[.int .i64 a0] w fun e w' => e = .returned (.bool r) ∧ Drawn0 w w' := by
  have H : (if 0 ≤ a0 then (some (decide (a0 < 16))) else (some false)) = some r := h
  clear h
  by_cases c2 : 0 ≤ a0
  · rw [if_pos c2] at H
    have c2b0 : decide (0 ≤ a0) = true := decide_eq_true c2
    clear c2
    obtain rfl := Option.some.inj H
    go_enter Try.func23, Try.ntmps23
    go_wp2
    go_ret
    exact ⟨by first | rfl | (simp; done) | (simp [*]; done), by repeat (first | exact Drawn0.refl _ | apply Drawn0.step)⟩
  · rw [if_neg c2] at H
    have c2b0 : decide (0 ≤ a0) = false := decide_eq_false c2
    clear c2
    obtain rfl := Option.some.inj H
    go_enter Try.func23, Try.ntmps23
    go_wp2
    go_ret
    exact ⟨by first | rfl | (simp; done) | (simp [*]; done), by repeat (first | exact Drawn0.refl _ | apply Drawn0.step)⟩

/-! ### bits_RotateLeft64: function 26 -/
def bits_RotateLeft64.f (a0 : Int) (a1 : Int) : Option (Int) := if 0 ≤ (Go.bits .and .u64 (IntKind.u64.wrap (a1)) 63) then (if 0 ≤ (IntKind.u64.wrap (64 - (Go.bits .and .u64 (IntKind.u64.wrap (a1)) 63))) then (some (Go.bits .or .u64 (shl .u64 a0 (Go.bits .and .u64 (IntKind.u64.wrap (a1)) 63)) (shr .u64 a0 (IntKind.u64.wrap (64 - (Go.bits .and .u64 (IntKind.u64.wrap (a1)) 63)))))) else (none)) else (none)
set_option maxHeartbeats 8000000 in
set_option maxRecDepth 100000 in
theorem bits_RotateLeft64.calls (a0 : Int) (a1 : Int) (r : Int) (w : World) (h : bits_RotateLeft64.f a0 a1 = some r) :
    Calls Try.prog 26 #[.int .u64 a0, .int .i64 a1] w fun e w' => e = .returned (.int .u64 r) ∧ Drawn0 w w' := by
  have H : (if 0 ≤ (Go.bits .and .u64 (IntKind.u64.wrap (a1)) 63) then (if 0 ≤ (IntKind.u64.wrap (64 - (Go.bits .and .u64 (IntKind.u64.wrap (a1)) 63))) then (some (Go.bits .or .u64 (shl .u64 a0 (Go.bits .and .u64 (IntKind.u64.wrap (a1)) 63)) (shr .u64 a0 (IntKind.u64.wrap (64 - (Go.bits .and .u64 (IntKind.u64.wrap (a1)) 63)))))) else (none)) else (none)) = some r := h
  clear h
  obtain ⟨ji3, hji3⟩ : ∃ j_ : Int, (Go.bits .and .u64 (IntKind.u64.wrap (a1)) 63) = j_ := ⟨_, rfl⟩
  replace H : (if 0 ≤ (ji3) then (if 0 ≤ (IntKind.u64.wrap (64 - (ji3))) then (some (Go.bits .or .u64 (shl .u64 a0 (ji3)) (shr .u64 a0 (IntKind.u64.wrap (64 - (ji3)))))) else (none)) else (none)) = some r := by first | (rw [hji3] at H; exact H) | (simp only [hji3] at H ⊢; exact H)
  by_cases c4 : 0 ≤ (ji3)
  · rw [if_pos c4] at H
    have c4b0 := eq_true c4
    have c4b1 : decide (0 ≤ (ji3)) = true := decide_eq_true c4
    clear c4
    obtain ⟨ji5, hji5⟩ : ∃ j_ : Int, (shl .u64 a0 (ji3)) = j_ := ⟨_, rfl⟩
    replace H : (if 0 ≤ (IntKind.u64.wrap (64 - (ji3))) then (some (Go.bits .or .u64 (ji5) (shr .u64 a0 (IntKind.u64.wrap (64 - (ji3)))))) else (none)) = some r := by first | (rw [hji5] at H; exact H) | (simp only [hji5] at H ⊢; exact H)
    have hji5_ : (IntKind.u64.wrap (a0 * 2 ^ min (ji3).toNat 64)) = ji5 := hji5
    have hji5z : (ji3) ≤ 64 → (IntKind.u64.wrap (a0 * 2 ^ (ji3).toNat)) = ji5 := shl_small hji5
    obtain ⟨ji6, hji6⟩ : ∃ j_ : Int, (IntKind.u64.wrap (64 - (ji3))) = j_ := ⟨_, rfl⟩
    replace H : (if 0 ≤ (ji6) then (some (Go.bits .or .u64 (ji5) (shr .u64 a0 (ji6)))) else (none)) = some r := by first | (rw [hji6] at H; exact H) | (simp only [hji6] at H ⊢; exact H)
    by_cases c7 : 0 ≤ (ji6)
    · rw [if_pos c7] at H
      have c7b0 := eq_true c7
      have c7b1 : decide (0 ≤ (ji6)) = true := decide_eq_true c7
      clear c7
      obtain ⟨ji8, hji8⟩ : ∃ j_ : Int, (shr .u64 a0 (ji6)) = j_ := ⟨_, rfl⟩
      replace H : (some (Go.bits .or .u64 (ji5) (ji8))) = some r := by first | (rw [hji8] at H; exact H) | (simp only [hji8] at H ⊢; exact H)
      have hji8_ : (a0 / 2 ^ min (ji6).toNat 64) = ji8 := hji8
      have hji8z : (ji6) ≤ 64 → (a0 / 2 ^ (ji6).toNat) = ji8 := shr_small hji8
      obtain rfl := Option.some.inj H
      go_enter Try.func26, Try.ntmps26
      go_wp2
      go_ret
      exact ⟨by first | rfl | (simp; done) | (simp only [← hji3, ← hji5, ← hji6, ← hji8] <;> (first | rfl | simp)) | (simp [*]; done), by repeat (first | exact Drawn0.refl _ | apply Drawn0.step)⟩
    · rw [if_neg c7] at H
      exact absurd H (by simp)
  · rw [if_neg c4] at H
    exact absurd H (by simp)

/-! ### link_turned: function 24 -/
def link_turned.f (a0 : Int) (a1 : Int) : Option (Int) := (bits_RotateLeft64.f a0 (wrap64 (5 * a1))).bind fun t101 => (some (IntKind.u64.wrap (t101 + (IntKind.u64.wrap ((IntKind.u64.wrap (a1)) * 2654435769)))))
set_option maxHeartbeats 8000000 in
set_option maxRecDepth 100000 in
theorem link_turned.calls (a0 : Int) (a1 : Int) (r : Int) (w : World) (h : link_turned.f a0 a1 = some r) :
    Calls Try.prog 24 #[.int .u64 a0, .int .i64 a1] w fun e w' => e = .returned (.int .u64 r) ∧ Drawn0 w w' := by
  have H : ((bits_RotateLeft64.f a0 (wrap64 (5 * a1))).bind fun t101 => (some (IntKind.u64.wrap (t101 + (IntKind.u64.wrap ((IntKind.u64.wrap (a1)) * 2654435769)))))) = some r := h
  clear h
  replace H := Option.bind_eq_some_iff.mp H
  obtain ⟨t101, A30, H⟩ := H
  replace H : (some (IntKind.u64.wrap (t101 + (IntKind.u64.wrap ((IntKind.u64.wrap (a1)) * 2654435769))))) = some r := H
  have A3 := Aside0.mk A30
  clear A30
  obtain rfl := Option.some.inj H
  go_enter Try.func24, Try.ntmps24
  go_wp2_with (first | ((with_reducible refine gate_callee (f := 26) rfl ?_); refine goesL_ (some 8) rfl rfl Try.func26 (by kernel_rfl) rfl #[.int .u64 a0, .int .i64 (wrap64 (5 * a1))] rfl (by (try simp only [List.map_toArray, List.map_cons, List.map_nil]); first | done | rfl | (simp only [List.length_drop, List.length_take]; rfl)) ?_; (with_reducible refine (bits_RotateLeft64.calls a0 (wrap64 (5 * a1)) t101 _ A3.out).mono ?_); rintro e w' ⟨rfl, ⟨nd, rfl⟩⟩; refine ⟨_, rfl, ?_⟩))
  go_ret
  exact ⟨by first | rfl | (simp; done) | (simp [*]; done), by repeat (first | exact Drawn0.refl _ | apply Drawn0.step)⟩

/-! ### link_Hide: function 10 -/
def link_Hide.f (a0 : Int) (a1 : Int) (a2 : Int) : Option (Int × Int) := if a0 = (-1) then ((link_object.f a2).bind fun t102 => (if t102 = true then ((link_turned.f a1 a2).bind fun t103 => (some (Go.bits .xor .u64 (IntKind.u64.wrap (wrap64 (a0 + 1))) t103, 0))) else (some (0, 2)))) else ((link_object.f a0).bind fun t104 => (if t104 = true then ((link_object.f a2).bind fun t105 => (if t105 = true then ((link_turned.f a1 a2).bind fun t106 => (some (Go.bits .xor .u64 (IntKind.u64.wrap (wrap64 (a0 + 1))) t106, 0))) else (some (0, 2)))) else (some (0, 2))))
set_option maxHeartbeats 8000000 in
set_option maxRecDepth 100000 in
theorem link_Hide.calls (a0 : Int) (a1 : Int) (a2 : Int) (r1 : Int) (r2 : Int) (w : World) (h : link_Hide.f a0 a1 a2 = some (r1, r2)) :
    Calls Try.prog 10 #[.int .i64 a0, .int .u64 a1, .int .i64 a2] w fun e w' => e = .returned (.tuple #[.int .u64 r1, .int .i64 r2]) ∧ Drawn0 w w' := by
  have H : (if a0 = (-1) then ((link_object.f a2).bind fun t102 => (if t102 = true then ((link_turned.f a1 a2).bind fun t103 => (some (Go.bits .xor .u64 (IntKind.u64.wrap (wrap64 (a0 + 1))) t103, 0))) else (some (0, 2)))) else ((link_object.f a0).bind fun t104 => (if t104 = true then ((link_object.f a2).bind fun t105 => (if t105 = true then ((link_turned.f a1 a2).bind fun t106 => (some (Go.bits .xor .u64 (IntKind.u64.wrap (wrap64 (a0 + 1))) t106, 0))) else (some (0, 2)))) else (some (0, 2))))) = some (r1, r2) := h
  clear h
  by_cases c4 : a0 = (-1)
  · rw [if_pos c4] at H
    have c4b0 : (a0 == (-1)) = true := beq_iff_eq.mpr c4
    have c4b1 : (a0 != (-1)) = false := bne_eq_false_iff_eq.mpr c4
    clear c4
    replace H := Option.bind_eq_some_iff.mp H
    obtain ⟨t102, A50, H⟩ := H
    replace H : (if t102 = true then ((link_turned.f a1 a2).bind fun t103 => (some (Go.bits .xor .u64 (IntKind.u64.wrap (wrap64 (a0 + 1))) t103, 0))) else (some (0, 2))) = some (r1, r2) := H
    have A5 := Aside0.mk A50
    clear A50
    by_cases c6 : t102 = true
    · subst c6
      have H1 : ((link_turned.f a1 a2).bind fun t103 => (some (Go.bits .xor .u64 (IntKind.u64.wrap (wrap64 (a0 + 1))) t103, 0))) = some (r1, r2) := by rw [if_pos rfl] at H; exact H
      clear H
      have H := H1
      clear H1
      replace H := Option.bind_eq_some_iff.mp H
      obtain ⟨t103, A70, H⟩ := H
      replace H : (some (Go.bits .xor .u64 (IntKind.u64.wrap (wrap64 (a0 + 1))) t103, 0)) = some (r1, r2) := H
      have A7 := Aside0.mk A70
      clear A70
      simp only [Option.some.injEq, Prod.mk.injEq] at H
      obtain ⟨rfl, rfl⟩ := H
      go_enter Try.func10, Try.ntmps10
      go_wp2_with (first | (go_at_call 23; (with_reducible refine (link_object.calls a2 true _ A5.out).mono ?_); rintro e w' ⟨rfl, ⟨nd, rfl⟩⟩) | ((with_reducible refine gate_callee (f := 24) rfl ?_); refine goesL_ (some 25) rfl rfl Try.func24 (by kernel_rfl) rfl #[.int .u64 a1, .int .i64 a2] rfl (by (try simp only [List.map_toArray, List.map_cons, List.map_nil]); first | done | rfl | (simp only [List.length_drop, List.length_take]; rfl)) ?_; (with_reducible refine (link_turned.calls a1 a2 t103 _ A7.out).mono ?_); rintro e w' ⟨rfl, ⟨nd, rfl⟩⟩; refine ⟨_, rfl, ?_⟩))
      go_ret2
      exact ⟨by first | rfl | (simp; done) | (simp [*]; done), by repeat (first | exact Drawn0.refl _ | apply Drawn0.step)⟩
    · replace c6 := Bool.eq_false_iff.mpr c6
      subst c6
      have H1 : (some (0, 2)) = some (r1, r2) := by rw [if_neg (show ¬ (false = true) by decide)] at H; exact H
      clear H
      have H := H1
      clear H1
      simp only [Option.some.injEq, Prod.mk.injEq] at H
      obtain ⟨rfl, rfl⟩ := H
      go_enter Try.func10, Try.ntmps10
      go_wp2_with (first | (go_at_call 23; (with_reducible refine (link_object.calls a2 false _ A5.out).mono ?_); rintro e w' ⟨rfl, ⟨nd, rfl⟩⟩))
      go_ret2
      exact ⟨by first | rfl | (simp; done) | (simp [*]; done), by repeat (first | exact Drawn0.refl _ | apply Drawn0.step)⟩
  · rw [if_neg c4] at H
    have c4b0 : (a0 == (-1)) = false := beq_eq_false_iff_ne.mpr c4
    have c4b1 : (a0 != (-1)) = true := bne_iff_ne.mpr c4
    replace H := Option.bind_eq_some_iff.mp H
    obtain ⟨t104, A80, H⟩ := H
    replace H : (if t104 = true then ((link_object.f a2).bind fun t105 => (if t105 = true then ((link_turned.f a1 a2).bind fun t106 => (some (Go.bits .xor .u64 (IntKind.u64.wrap (wrap64 (a0 + 1))) t106, 0))) else (some (0, 2)))) else (some (0, 2))) = some (r1, r2) := H
    have A8 := Aside0.mk A80
    clear A80
    by_cases c9 : t104 = true
    · subst c9
      have H1 : ((link_object.f a2).bind fun t105 => (if t105 = true then ((link_turned.f a1 a2).bind fun t106 => (some (Go.bits .xor .u64 (IntKind.u64.wrap (wrap64 (a0 + 1))) t106, 0))) else (some (0, 2)))) = some (r1, r2) := by rw [if_pos rfl] at H; exact H
      clear H
      have H := H1
      clear H1
      replace H := Option.bind_eq_some_iff.mp H
      obtain ⟨t105, A100, H⟩ := H
      replace H : (if t105 = true then ((link_turned.f a1 a2).bind fun t106 => (some (Go.bits .xor .u64 (IntKind.u64.wrap (wrap64 (a0 + 1))) t106, 0))) else (some (0, 2))) = some (r1, r2) := H
      have A10 := Aside0.mk A100
      clear A100
      by_cases c11 : t105 = true
      · subst c11
        have H1 : ((link_turned.f a1 a2).bind fun t106 => (some (Go.bits .xor .u64 (IntKind.u64.wrap (wrap64 (a0 + 1))) t106, 0))) = some (r1, r2) := by rw [if_pos rfl] at H; exact H
        clear H
        have H := H1
        clear H1
        replace H := Option.bind_eq_some_iff.mp H
        obtain ⟨t106, A120, H⟩ := H
        replace H : (some (Go.bits .xor .u64 (IntKind.u64.wrap (wrap64 (a0 + 1))) t106, 0)) = some (r1, r2) := H
        have A12 := Aside0.mk A120
        clear A120
        simp only [Option.some.injEq, Prod.mk.injEq] at H
        obtain ⟨rfl, rfl⟩ := H
        go_enter Try.func10, Try.ntmps10
        go_wp2_with (first | (go_at_call 23; (with_reducible refine (link_object.calls a0 true _ A8.out).mono ?_); rintro e w' ⟨rfl, ⟨nd, rfl⟩⟩) | (go_at_call 23; (with_reducible refine (link_object.calls a2 true _ A10.out).mono ?_); rintro e w' ⟨rfl, ⟨nd, rfl⟩⟩) | ((with_reducible refine gate_callee (f := 24) rfl ?_); refine goesL_ (some 25) rfl rfl Try.func24 (by kernel_rfl) rfl #[.int .u64 a1, .int .i64 a2] rfl (by (try simp only [List.map_toArray, List.map_cons, List.map_nil]); first | done | rfl | (simp only [List.length_drop, List.length_take]; rfl)) ?_; (with_reducible refine (link_turned.calls a1 a2 t106 _ A12.out).mono ?_); rintro e w' ⟨rfl, ⟨nd, rfl⟩⟩; refine ⟨_, rfl, ?_⟩))
        go_ret2
        exact ⟨by first | rfl | (simp; done) | (simp [*]; done), by repeat (first | exact Drawn0.refl _ | apply Drawn0.step)⟩
      · replace c11 := Bool.eq_false_iff.mpr c11
        subst c11
        have H1 : (some (0, 2)) = some (r1, r2) := by rw [if_neg (show ¬ (false = true) by decide)] at H; exact H
        clear H
        have H := H1
        clear H1
        simp only [Option.some.injEq, Prod.mk.injEq] at H
        obtain ⟨rfl, rfl⟩ := H
        go_enter Try.func10, Try.ntmps10
        go_wp2_with (first | (go_at_call 23; (with_reducible refine (link_object.calls a0 true _ A8.out).mono ?_); rintro e w' ⟨rfl, ⟨nd, rfl⟩⟩) | (go_at_call 23; (with_reducible refine (link_object.calls a2 false _ A10.out).mono ?_); rintro e w' ⟨rfl, ⟨nd, rfl⟩⟩))
        go_ret2
        exact ⟨by first | rfl | (simp; done) | (simp [*]; done), by repeat (first | exact Drawn0.refl _ | apply Drawn0.step)⟩
    · replace c9 := Bool.eq_false_iff.mpr c9
      subst c9
      have H1 : (some (0, 2)) = some (r1, r2) := by rw [if_neg (show ¬ (false = true) by decide)] at H; exact H
      clear H
      have H := H1
      clear H1
      simp only [Option.some.injEq, Prod.mk.injEq] at H
      obtain ⟨rfl, rfl⟩ := H
      go_enter Try.func10, Try.ntmps10
      go_wp2_with (first | (go_at_call 23; (with_reducible refine (link_object.calls a0 false _ A8.out).mono ?_); rintro e w' ⟨rfl, ⟨nd, rfl⟩⟩))
      go_ret2
      exact ⟨by first | rfl | (simp; done) | (simp [*]; done), by repeat (first | exact Drawn0.refl _ | apply Drawn0.step)⟩

/-! ### wainscotref16_turned: function 25 -/
mutual
def wainscotref16_turned.l0 : Nat → Int → Int → Int → Option (Int)
  | 0, _, _, _ => none
  | k + 1, x1, x5, x6 => if x6 < (wrap64 (5 * x1)) then (wainscotref16_turned.l0 k x1 (Go.bits .or .u64 (IntKind.u64.wrap (x5 * 2)) (x5 / 9223372036854775808)) (wrap64 (x6 + 1))) else (wainscotref16_turned.l1 k x1 x5 0)
def wainscotref16_turned.l1 : Nat → Int → Int → Int → Option (Int)
  | 0, _, _, _ => none
  | k + 1, x1, x5, x7 => if x7 < x1 then (wainscotref16_turned.l1 k x1 (IntKind.u64.wrap (x5 + 2654435769)) (wrap64 (x7 + 1))) else (some x5)
end
def wainscotref16_turned.f (k : Nat) (a0 : Int) (a1 : Int) : Option (Int) := wainscotref16_turned.l0 k a1 a0 0
theorem wainscotref16_turned.mono_l : ∀ k, (∀ y0 y1 y2, LeO (wainscotref16_turned.l0 k y0 y1 y2) (wainscotref16_turned.l0 (k + 1) y0 y1 y2)) ∧ (∀ y0 y1 y2, LeO (wainscotref16_turned.l1 k y0 y1 y2) (wainscotref16_turned.l1 (k + 1) y0 y1 y2))
  | 0 => ⟨fun _ _ _ r h => by simp [wainscotref16_turned.l0] at h, fun _ _ _ r h => by simp [wainscotref16_turned.l1] at h⟩
  | k + 1 => by
    obtain ⟨ih0, ih1⟩ := wainscotref16_turned.mono_l k
    refine ⟨?_, ?_⟩
    · intro y0 y1 y2
      unfold wainscotref16_turned.l0
      repeat' first
      | (with_reducible exact ih0 _ _ _)
      | (with_reducible exact ih1 _ _ _)
      | (with_reducible exact LeO.refl _)
      | (with_reducible exact LeO.none _)
      | (with_reducible refine LeO.ite ?_ ?_)
      | (with_reducible refine LeO.bind ?_ (fun _ => ?_))
      | exact ih0 _ _ _
      | exact ih1 _ _ _
      | exact LeO.none _
      | refine LeO.ite ?_ ?_
      | refine LeO.bind ?_ (fun _ => ?_)
    · intro y0 y1 y2
      unfold wainscotref16_turned.l1
      repeat' first
      | (with_reducible exact ih0 _ _ _)
      | (with_reducible exact ih1 _ _ _)
      | (with_reducible exact LeO.refl _)
      | (with_reducible exact LeO.none _)
      | (with_reducible refine LeO.ite ?_ ?_)
      | (with_reducible refine LeO.bind ?_ (fun _ => ?_))
      | exact ih0 _ _ _
      | exact ih1 _ _ _
      | exact LeO.none _
      | refine LeO.ite ?_ ?_
      | refine LeO.bind ?_ (fun _ => ?_)
theorem wainscotref16_turned.mono : ∀ a0 a1 k, LeO (wainscotref16_turned.f k a0 a1) (wainscotref16_turned.f (k + 1) a0 a1) := by
  intro a0 a1 k
  obtain ⟨ih0, ih1⟩ := wainscotref16_turned.mono_l k
  unfold wainscotref16_turned.f
  repeat' first
      | (with_reducible exact ih0 _ _ _)
      | (with_reducible exact ih1 _ _ _)
      | (with_reducible exact LeO.refl _)
      | (with_reducible exact LeO.none _)
      | (with_reducible refine LeO.ite ?_ ?_)
      | (with_reducible refine LeO.bind ?_ (fun _ => ?_))
      | exact ih0 _ _ _
      | exact ih1 _ _ _
      | exact LeO.none _
      | refine LeO.ite ?_ ?_
      | refine LeO.bind ?_ (fun _ => ?_)
set_option maxHeartbeats 8000000 in
set_option maxRecDepth 100000 in
theorem wainscotref16_turned.calls (k : Nat) (a0 : Int) (a1 : Int) (r : Int) (w : World) (h : wainscotref16_turned.f k a0 a1 = some r) :
    Calls Try.prog 25 #[.int .u64 a0, .int .i64 a1] w fun e w' => e = .returned (.int .u64 r) ∧ Drawn0 w w' := by
  have H : (wainscotref16_turned.l0 k a1 a0 0) = some r := h
  clear h
  have H' := Aside0.mk H
  clear H
  go_enter Try.func25, Try.ntmps25
  go_wp2
  go_loopg [5, 6] k (fun kq v5 v6 w' => ∃ (x5_1 : Int) (x6_1 : Int), v5 = .int .u64 x5_1 ∧ v6 = .int .i64 x6_1 ∧ Aside0 (wainscotref16_turned.l0 kq a1 x5_1 x6_1 = some r) ∧ Aside0 (kq ≤ k) ∧ Drawn0 w w')
  case atStart => exact ⟨(a0), (0), (by first | rfl | (simp; done) | (simp [*]; done)), (by first | rfl | (simp; done) | (simp [*]; done)), H', ⟨Nat.le_refl _⟩, by repeat (first | exact Drawn0.refl _ | apply Drawn0.step)⟩
  case round =>
    clear H'
    try clear c2
    try clear p2
    obtain ⟨x5_1, x6_1, rfl, rfl, HA, HK1, ⟨m1, rfl⟩⟩ := hrel
    cases gk with
    | zero => exact absurd HA.out (by simp [wainscotref16_turned.l0])
    | succ k1 =>
      have H := HA.out
      clear HA
      simp only [wainscotref16_turned.l0] at H
      by_cases c3 : x6_1 < (wrap64 (5 * a1))
      · rw [if_pos c3] at H
        have c3b0 : decide (x6_1 < (wrap64 (5 * a1))) = true := decide_eq_true c3
        clear c3
        have H' := Aside0.mk H
        clear H
        go_wp2
        go_roundg k1
        case measure => have := HK1.out; omega
        case rel => exact ⟨(Go.bits .or .u64 (IntKind.u64.wrap (x5_1 * 2)) (x5_1 / 9223372036854775808)), (wrap64 (x6_1 + 1)), (by first | rfl | (simp; done) | (simp [*]; done)), (by first | rfl | (simp; done) | (simp [*]; done)), H', ⟨by have := HK1.out; omega⟩, by repeat (first | exact Drawn0.refl _ | apply Drawn0.step)⟩
      · rw [if_neg c3] at H
        have c3b0 : decide (x6_1 < (wrap64 (5 * a1))) = false := decide_eq_false c3
        clear c3
        have H' := Aside0.mk H
        clear H
        go_wp2
        go_loopg [5, 7] k1 (fun kq v5 v7 w' => ∃ (x5_2 : Int) (x7_2 : Int), v5 = .int .u64 x5_2 ∧ v7 = .int .i64 x7_2 ∧ Aside0 (wainscotref16_turned.l1 kq a1 x5_2 x7_2 = some r) ∧ Aside0 (kq ≤ k1) ∧ Drawn0 w w')
        case atStart => exact ⟨(x5_1), (0), (by first | rfl | (simp; done) | (simp [*]; done)), (by first | rfl | (simp; done) | (simp [*]; done)), H', ⟨Nat.le_refl _⟩, by repeat (first | exact Drawn0.refl _ | apply Drawn0.step)⟩
        case round =>
          clear H'
          try clear c2
          try clear p2
          try clear c3
          try clear c3b0
          try clear p2
          obtain ⟨x5_2, x7_2, rfl, rfl, HA, HK2, ⟨m2, rfl⟩⟩ := hrel
          cases gk with
          | zero => exact absurd HA.out (by simp [wainscotref16_turned.l1])
          | succ k2 =>
            have H := HA.out
            clear HA
            simp only [wainscotref16_turned.l1] at H
            by_cases c4 : x7_2 < a1
            · rw [if_pos c4] at H
              have c4b0 : decide (x7_2 < a1) = true := decide_eq_true c4
              clear c4
              have H' := Aside0.mk H
              clear H
              go_wp2
              go_roundg k2
              case measure => have := HK1.out; have := HK2.out; omega
              case rel => exact ⟨(IntKind.u64.wrap (x5_2 + 2654435769)), (wrap64 (x7_2 + 1)), (by first | rfl | (simp; done) | (simp [*]; done)), (by first | rfl | (simp; done) | (simp [*]; done)), H', ⟨by have := HK1.out; have := HK2.out; omega⟩, by repeat (first | exact Drawn0.refl _ | apply Drawn0.step)⟩
            · rw [if_neg c4] at H
              have c4b0 : decide (x7_2 < a1) = false := decide_eq_false c4
              clear c4
              obtain rfl := Option.some.inj H
              go_wp2
              go_ret
              exact ⟨by first | rfl | (simp; done) | (simp [*]; done), by repeat (first | exact Drawn0.refl _ | apply Drawn0.step)⟩

/-! ### wainscotref16_Hide: function 11 -/
def wainscotref16_Hide.f (k : Nat) (a0 : Int) (a1 : Int) (a2 : Int) : Option (Int × Int) := if a0 < (-1) then (some (0, 2)) else (if a0 ≥ 16 then (some (0, 2)) else (if a2 < 0 then (some (0, 2)) else (if a2 ≥ 16 then (some (0, 2)) else ((wainscotref16_turned.f k a1 a2).bind fun t107 => (some (Go.bits .xor .u64 (IntKind.u64.wrap (wrap64 (a0 + 1))) t107, 0))))))
theorem wainscotref16_Hide.mono : ∀ a0 a1 a2 k, LeO (wainscotref16_Hide.f k a0 a1 a2) (wainscotref16_Hide.f (k + 1) a0 a1 a2) := by
  intro a0 a1 a2 k
  unfold wainscotref16_Hide.f
  repeat' first
      | (with_reducible exact wainscotref16_turned.mono _ _ _)
      | (with_reducible exact LeO.refl _)
      | (with_reducible exact LeO.none _)
      | (with_reducible refine LeO.ite ?_ ?_)
      | (with_reducible refine LeO.bind ?_ (fun _ => ?_))
      | exact wainscotref16_turned.mono _ _ _
      | exact LeO.none _
      | refine LeO.ite ?_ ?_
      | refine LeO.bind ?_ (fun _ => ?_)
set_option maxHeartbeats 8000000 in
set_option maxRecDepth 100000 in
theorem wainscotref16_Hide.calls (k : Nat) (a0 : Int) (a1 : Int) (a2 : Int) (r1 : Int) (r2 : Int) (w : World) (h : wainscotref16_Hide.f k a0 a1 a2 = some (r1, r2)) :
    Calls Try.prog 11 #[.int .i64 a0, .int .u64 a1, .int .i64 a2] w fun e w' => e = .returned (.tuple #[.int .u64 r1, .int .i64 r2]) ∧ Drawn0 w w' := by
  have H : (if a0 < (-1) then (some (0, 2)) else (if a0 ≥ 16 then (some (0, 2)) else (if a2 < 0 then (some (0, 2)) else (if a2 ≥ 16 then (some (0, 2)) else ((wainscotref16_turned.f k a1 a2).bind fun t107 => (some (Go.bits .xor .u64 (IntKind.u64.wrap (wrap64 (a0 + 1))) t107, 0))))))) = some (r1, r2) := h
  clear h
  by_cases c4 : a0 < (-1)
  · rw [if_pos c4] at H
    have c4b0 : decide (a0 < (-1)) = true := decide_eq_true c4
    clear c4
    simp only [Option.some.injEq, Prod.mk.injEq] at H
    obtain ⟨rfl, rfl⟩ := H
    go_enter Try.func11, Try.ntmps11
    go_wp2
    go_ret2
    exact ⟨by first | rfl | (simp; done) | (simp [*]; done), by repeat (first | exact Drawn0.refl _ | apply Drawn0.step)⟩
  · rw [if_neg c4] at H
    have c4b0 : decide (a0 < (-1)) = false := decide_eq_false c4
    clear c4
    by_cases c5 : a0 ≥ 16
    · rw [if_pos c5] at H
      have c5b0 : decide (16 ≤ a0) = true := decide_eq_true c5
      clear c5
      simp only [Option.some.injEq, Prod.mk.injEq] at H
      obtain ⟨rfl, rfl⟩ := H
      go_enter Try.func11, Try.ntmps11
      go_wp2
      go_ret2
      exact ⟨by first | rfl | (simp; done) | (simp [*]; done), by repeat (first | exact Drawn0.refl _ | apply Drawn0.step)⟩
    · rw [if_neg c5] at H
      have c5b0 : decide (16 ≤ a0) = false := decide_eq_false c5
      clear c5
      by_cases c6 : a2 < 0
      · rw [if_pos c6] at H
        have c6b0 : decide (a2 < 0) = true := decide_eq_true c6
        clear c6
        simp only [Option.some.injEq, Prod.mk.injEq] at H
        obtain ⟨rfl, rfl⟩ := H
        go_enter Try.func11, Try.ntmps11
        go_wp2
        go_ret2
        exact ⟨by first | rfl | (simp; done) | (simp [*]; done), by repeat (first | exact Drawn0.refl _ | apply Drawn0.step)⟩
      · rw [if_neg c6] at H
        have c6b0 : decide (a2 < 0) = false := decide_eq_false c6
        clear c6
        by_cases c7 : a2 ≥ 16
        · rw [if_pos c7] at H
          have c7b0 : decide (16 ≤ a2) = true := decide_eq_true c7
          clear c7
          simp only [Option.some.injEq, Prod.mk.injEq] at H
          obtain ⟨rfl, rfl⟩ := H
          go_enter Try.func11, Try.ntmps11
          go_wp2
          go_ret2
          exact ⟨by first | rfl | (simp; done) | (simp [*]; done), by repeat (first | exact Drawn0.refl _ | apply Drawn0.step)⟩
        · rw [if_neg c7] at H
          have c7b0 : decide (16 ≤ a2) = false := decide_eq_false c7
          clear c7
          replace H := Option.bind_eq_some_iff.mp H
          obtain ⟨t107, A80, H⟩ := H
          replace H : (some (Go.bits .xor .u64 (IntKind.u64.wrap (wrap64 (a0 + 1))) t107, 0)) = some (r1, r2) := H
          have A8 := Aside0.mk A80
          clear A80
          simp only [Option.some.injEq, Prod.mk.injEq] at H
          obtain ⟨rfl, rfl⟩ := H
          go_enter Try.func11, Try.ntmps11
          go_wp2_with (first | ((with_reducible refine gate_callee (f := 25) rfl ?_); refine goesL_ (some 27) rfl rfl Try.func25 (by kernel_rfl) rfl #[.int .u64 a1, .int .i64 a2] rfl (by (try simp only [List.map_toArray, List.map_cons, List.map_nil]); first | done | rfl | (simp only [List.length_drop, List.length_take]; rfl)) ?_; (with_reducible refine (wainscotref16_turned.calls k a1 a2 t107 _ A8.out).mono ?_); rintro e w' ⟨rfl, ⟨nd, rfl⟩⟩; refine ⟨_, rfl, ?_⟩))
          go_ret2
          exact ⟨by first | rfl | (simp; done) | (simp [*]; done), by repeat (first | exact Drawn0.refl _ | apply Drawn0.step)⟩

/-! ### link_Show: function 12 -/
def link_Show.f (a0 : Int) (a1 : Int) (a2 : Int) : Option (Int × Bool) := (link_object.f a2).bind fun t108 => (if t108 = true then ((link_turned.f a1 a2).bind fun t109 => (if (Go.bits .xor .u64 a0 t109) > 16 then (some (0, false)) else (some (wrap64 ((wrap64 (Go.bits .xor .u64 a0 t109)) - 1), true)))) else (some (0, false)))
set_option maxHeartbeats 8000000 in
set_option maxRecDepth 100000 in
theorem link_Show.calls (a0 : Int) (a1 : Int) (a2 : Int) (r1 : Int) (r2 : Bool) (w : World) (h : link_Show.f a0 a1 a2 = some (r1, r2)) :
    Calls Try.prog 12 #[.int .u64 a0, .int .u64 a1, .int .i64 a2] w fun e w' => e = .returned (.tuple #[.int .i64 r1, .bool r2]) ∧ Drawn0 w w' := by
  have H : ((link_object.f a2).bind fun t108 => (if t108 = true then ((link_turned.f a1 a2).bind fun t109 => (if (Go.bits .xor .u64 a0 t109) > 16 then (some (0, false)) else (some (wrap64 ((wrap64 (Go.bits .xor .u64 a0 t109)) - 1), true)))) else (some (0, false)))) = some (r1, r2) := h
  clear h
  replace H := Option.bind_eq_some_iff.mp H
  obtain ⟨t108, A40, H⟩ := H
  replace H : (if t108 = true then ((link_turned.f a1 a2).bind fun t109 => (if (Go.bits .xor .u64 a0 t109) > 16 then (some (0, false)) else (some (wrap64 ((wrap64 (Go.bits .xor .u64 a0 t109)) - 1), true)))) else (some (0, false))) = some (r1, r2) := H
  have A4 := Aside0.mk A40
  clear A40
  by_cases c5 : t108 = true
  · subst c5
    have H1 : ((link_turned.f a1 a2).bind fun t109 => (if (Go.bits .xor .u64 a0 t109) > 16 then (some (0, false)) else (some (wrap64 ((wrap64 (Go.bits .xor .u64 a0 t109)) - 1), true)))) = some (r1, r2) := by rw [if_pos rfl] at H; exact H
    clear H
    have H := H1
    clear H1
    replace H := Option.bind_eq_some_iff.mp H
    obtain ⟨t109, A60, H⟩ := H
    replace H : (if (Go.bits .xor .u64 a0 t109) > 16 then (some (0, false)) else (some (wrap64 ((wrap64 (Go.bits .xor .u64 a0 t109)) - 1), true))) = some (r1, r2) := H
    have A6 := Aside0.mk A60
    clear A60
    by_cases c7 : (Go.bits .xor .u64 a0 t109) > 16
    · rw [if_pos c7] at H
      have c7b0 : decide (16 < (Go.bits .xor .u64 a0 t109)) = true := decide_eq_true c7
      clear c7
      simp only [Option.some.injEq, Prod.mk.injEq] at H
      obtain ⟨rfl, rfl⟩ := H
      go_enter Try.func12, Try.ntmps12
      go_wp2_with (first | ((with_reducible refine gate_callee (f := 23) rfl ?_); refine goesL_ (some 9) rfl rfl Try.func23 (by kernel_rfl) rfl #[.int .i64 a2] rfl (by (try simp only [List.map_toArray, List.map_cons, List.map_nil]); first | done | rfl | (simp only [List.length_drop, List.length_take]; rfl)) ?_; (with_reducible refine (link_object.calls a2 true _ A4.out).mono ?_); rintro e w' ⟨rfl, ⟨nd, rfl⟩⟩; refine ⟨_, rfl, ?_⟩) | ((with_reducible refine gate_callee (f := 24) rfl ?_); refine goesL_ (some 14) rfl rfl Try.func24 (by kernel_rfl) rfl #[.int .u64 a1, .int .i64 a2] rfl (by (try simp only [List.map_toArray, List.map_cons, List.map_nil]); first | done | rfl | (simp only [List.length_drop, List.length_take]; rfl)) ?_; (with_reducible refine (link_turned.calls a1 a2 t109 _ A6.out).mono ?_); rintro e w' ⟨rfl, ⟨nd, rfl⟩⟩; refine ⟨_, rfl, ?_⟩))
      go_ret2
      exact ⟨by first | rfl | (simp; done) | (simp [*]; done), by repeat (first | exact Drawn0.refl _ | apply Drawn0.step)⟩
    · rw [if_neg c7] at H
      have c7b0 : decide (16 < (Go.bits .xor .u64 a0 t109)) = false := decide_eq_false c7
      clear c7
      simp only [Option.some.injEq, Prod.mk.injEq] at H
      obtain ⟨rfl, rfl⟩ := H
      go_enter Try.func12, Try.ntmps12
      go_wp2_with (first | ((with_reducible refine gate_callee (f := 23) rfl ?_); refine goesL_ (some 9) rfl rfl Try.func23 (by kernel_rfl) rfl #[.int .i64 a2] rfl (by (try simp only [List.map_toArray, List.map_cons, List.map_nil]); first | done | rfl | (simp only [List.length_drop, List.length_take]; rfl)) ?_; (with_reducible refine (link_object.calls a2 true _ A4.out).mono ?_); rintro e w' ⟨rfl, ⟨nd, rfl⟩⟩; refine ⟨_, rfl, ?_⟩) | ((with_reducible refine gate_callee (f := 24) rfl ?_); refine goesL_ (some 14) rfl rfl Try.func24 (by kernel_rfl) rfl #[.int .u64 a1, .int .i64 a2] rfl (by (try simp only [List.map_toArray, List.map_cons, List.map_nil]); first | done | rfl | (simp only [List.length_drop, List.length_take]; rfl)) ?_; (with_reducible refine (link_turned.calls a1 a2 t109 _ A6.out).mono ?_); rintro e w' ⟨rfl, ⟨nd, rfl⟩⟩; refine ⟨_, rfl, ?_⟩))
      go_ret2
      exact ⟨by first | rfl | (simp; done) | (simp [*]; done), by repeat (first | exact Drawn0.refl _ | apply Drawn0.step)⟩
  · replace c5 := Bool.eq_false_iff.mpr c5
    subst c5
    have H1 : (some (0, false)) = some (r1, r2) := by rw [if_neg (show ¬ (false = true) by decide)] at H; exact H
    clear H
    have H := H1
    clear H1
    simp only [Option.some.injEq, Prod.mk.injEq] at H
    obtain ⟨rfl, rfl⟩ := H
    go_enter Try.func12, Try.ntmps12
    go_wp2_with (first | ((with_reducible refine gate_callee (f := 23) rfl ?_); refine goesL_ (some 9) rfl rfl Try.func23 (by kernel_rfl) rfl #[.int .i64 a2] rfl (by (try simp only [List.map_toArray, List.map_cons, List.map_nil]); first | done | rfl | (simp only [List.length_drop, List.length_take]; rfl)) ?_; (with_reducible refine (link_object.calls a2 false _ A4.out).mono ?_); rintro e w' ⟨rfl, ⟨nd, rfl⟩⟩; refine ⟨_, rfl, ?_⟩))
    go_ret2
    exact ⟨by first | rfl | (simp; done) | (simp [*]; done), by repeat (first | exact Drawn0.refl _ | apply Drawn0.step)⟩

/-! ### wainscotref16_Show: function 13 -/
def wainscotref16_Show.j0 : Nat → Int → Int → Int → Bool → Option (Int × Bool)
  | 0, _, _, _, _ => none
  | k + 1, x0, x1, x2, x14 => if x14 = true then (some (0, false)) else ((wainscotref16_turned.f k x1 x2).bind fun t110 => (if (Go.bits .xor .u64 x0 t110) > 16 then (some (0, false)) else (some (wrap64 ((wrap64 (Go.bits .xor .u64 x0 t110)) - 1), true))))
def wainscotref16_Show.f (k : Nat) (a0 : Int) (a1 : Int) (a2 : Int) : Option (Int × Bool) := if a2 < 0 then (wainscotref16_Show.j0 k a0 a1 a2 true) else (wainscotref16_Show.j0 k a0 a1 a2 (decide (a2 ≥ 16)))
theorem wainscotref16_Show.mono_l : ∀ k, (∀ y0 y1 y2 y3, LeO (wainscotref16_Show.j0 k y0 y1 y2 y3) (wainscotref16_Show.j0 (k + 1) y0 y1 y2 y3))
  | 0 => fun _ _ _ _ r h => by simp [wainscotref16_Show.j0] at h
  | k + 1 => by
    have ih0 := wainscotref16_Show.mono_l k
    · intro y0 y1 y2 y3
      unfold wainscotref16_Show.j0
      repeat' first
      | (with_reducible exact ih0 _ _ _ _)
      | (with_reducible exact wainscotref16_turned.mono _ _ _)
      | (with_reducible exact LeO.refl _)
      | (with_reducible exact LeO.none _)
      | (with_reducible refine LeO.ite ?_ ?_)
      | (with_reducible refine LeO.bind ?_ (fun _ => ?_))
      | exact ih0 _ _ _ _
      | exact wainscotref16_turned.mono _ _ _
      | exact LeO.none _
      | refine LeO.ite ?_ ?_
      | refine LeO.bind ?_ (fun _ => ?_)
theorem wainscotref16_Show.mono : ∀ a0 a1 a2 k, LeO (wainscotref16_Show.f k a0 a1 a2) (wainscotref16_Show.f (k + 1) a0 a1 a2) := by
  intro a0 a1 a2 k
  have ih0 := wainscotref16_Show.mono_l k
  unfold wainscotref16_Show.f
  repeat' first
      | (with_reducible exact ih0 _ _ _ _)
      | (with_reducible exact wainscotref16_turned.mono _ _ _)
      | (with_reducible exact LeO.refl _)
      | (with_reducible exact LeO.none _)
      | (with_reducible refine LeO.ite ?_ ?_)
      | (with_reducible refine LeO.bind ?_ (fun _ => ?_))
      | exact ih0 _ _ _ _
      | exact wainscotref16_turned.mono _ _ _
      | exact LeO.none _
      | refine LeO.ite ?_ ?_
      | refine LeO.bind ?_ (fun _ => ?_)
set_option maxHeartbeats 8000000 in
set_option maxRecDepth 100000 in
theorem wainscotref16_Show.calls (k : Nat) (a0 : Int) (a1 : Int) (a2 : Int) (r1 : Int) (r2 : Bool) (w : World) (h : wainscotref16_Show.f k a0 a1 a2 = some (r1, r2)) :
    Calls Try.prog 13 #[.int .u64 a0, .int .u64 a1, .int .i64 a2] w fun e w' => e = .returned (.tuple #[.int .i64 r1, .bool r2]) ∧ Drawn0 w w' := by
  have H : (if a2 < 0 then (wainscotref16_Show.j0 k a0 a1 a2 true) else (wainscotref16_Show.j0 k a0 a1 a2 (decide (a2 ≥ 16)))) = some (r1, r2) := h
  clear h
  have HC4 := Aside0.mk H
  clear H
  go_enter Try.func13, Try.ntmps13
  go_upto_region 1 with (fail)
  go_cut [14] (fun v14 wc => ∃ (kq : Nat) (x14_3 : Bool), v14 = .bool x14_3 ∧ Aside0 (wainscotref16_Show.j0 kq a0 a1 a2 x14_3 = some (r1, r2)) ∧ Aside0 (kq ≤ k) ∧ Drawn0 w wc)
  case first =>
    have H := HC4.out
    clear HC4
    by_cases c5 : a2 < 0
    · rw [if_pos c5] at H
      have c5b0 : decide (a2 < 0) = true := decide_eq_true c5
      clear c5
      (first | rw [c5b0] | (simp only [i64_w, i32_w]; rw [c5b0]) | skip)
      have H' := Aside0.mk H
      clear H
      go_wp2
      go_meet
      case rel => exact ⟨_, (true), (by first | rfl | (simp; done) | (simp [*]; done)), H', ⟨by first | omega | exact Nat.le_refl _⟩, by repeat (first | exact Drawn0.refl _ | apply Drawn0.step)⟩
    · rw [if_neg c5] at H
      have c5b0 : decide (a2 < 0) = false := decide_eq_false c5
      clear c5
      (first | rw [c5b0] | (simp only [i64_w, i32_w]; rw [c5b0]) | skip)
      have H' := Aside0.mk H
      clear H
      go_wp2
      go_meet
      case rel => exact ⟨_, (decide (a2 ≥ 16)), (by first | rfl | (simp; done) | (simp [*]; done)), H', ⟨by first | omega | exact Nat.le_refl _⟩, by repeat (first | exact Drawn0.refl _ | apply Drawn0.step)⟩
  case rest =>
    clear HC4
    try clear c1
    try clear p2
    try clear c5
    try clear c5b0
    obtain ⟨kq, x14_3, rfl, HA, HJ3, ⟨mc3, rfl⟩⟩ := hcut
    cases kq with
    | zero => exact absurd HA.out (by simp [wainscotref16_Show.j0])
    | succ kj3 =>
      have H := HA.out
      clear HA
      simp only [wainscotref16_Show.j0] at H
      by_cases c6 : x14_3 = true
      · subst c6
        have H1 : (some (0, false)) = some (r1, r2) := by rw [if_pos rfl] at H; exact H
        clear H
        have H := H1
        clear H1
        simp only [Option.some.injEq, Prod.mk.injEq] at H
        obtain ⟨rfl, rfl⟩ := H
        go_wp2
        go_ret2
        exact ⟨by first | rfl | (simp; done) | (simp [*]; done), by repeat (first | exact Drawn0.refl _ | apply Drawn0.step)⟩
      · replace c6 := Bool.eq_false_iff.mpr c6
        subst c6
        have H1 : ((wainscotref16_turned.f kj3 a1 a2).bind fun t110 => (if (Go.bits .xor .u64 a0 t110) > 16 then (some (0, false)) else (some (wrap64 ((wrap64 (Go.bits .xor .u64 a0 t110)) - 1), true)))) = some (r1, r2) := by rw [if_neg (show ¬ (false = true) by decide)] at H; exact H
        clear H
        have H := H1
        clear H1
        replace H := Option.bind_eq_some_iff.mp H
        obtain ⟨t110, A70, H⟩ := H
        replace H : (if (Go.bits .xor .u64 a0 t110) > 16 then (some (0, false)) else (some (wrap64 ((wrap64 (Go.bits .xor .u64 a0 t110)) - 1), true))) = some (r1, r2) := H
        have A7 := Aside0.mk A70
        clear A70
        by_cases c8 : (Go.bits .xor .u64 a0 t110) > 16
        · rw [if_pos c8] at H
          have c8b0 : decide (16 < (Go.bits .xor .u64 a0 t110)) = true := decide_eq_true c8
          clear c8
          simp only [Option.some.injEq, Prod.mk.injEq] at H
          obtain ⟨rfl, rfl⟩ := H
          go_wp2_with (first | ((with_reducible refine gate_callee (f := 25) rfl ?_); refine goesL_ (some 18) rfl rfl Try.func25 (by kernel_rfl) rfl #[.int .u64 a1, .int .i64 a2] rfl (by (try simp only [List.map_toArray, List.map_cons, List.map_nil]); first | done | rfl | (simp only [List.length_drop, List.length_take]; rfl)) ?_; (with_reducible refine (wainscotref16_turned.calls kj3 a1 a2 t110 _ A7.out).mono ?_); rintro e w' ⟨rfl, ⟨nd, rfl⟩⟩; refine ⟨_, rfl, ?_⟩))
          go_ret2
          exact ⟨by first | rfl | (simp; done) | (simp [*]; done), by repeat (first | exact Drawn0.refl _ | apply Drawn0.step)⟩
        · rw [if_neg c8] at H
          have c8b0 : decide (16 < (Go.bits .xor .u64 a0 t110)) = false := decide_eq_false c8
          clear c8
          simp only [Option.some.injEq, Prod.mk.injEq] at H
          obtain ⟨rfl, rfl⟩ := H
          go_wp2_with (first | ((with_reducible refine gate_callee (f := 25) rfl ?_); refine goesL_ (some 18) rfl rfl Try.func25 (by kernel_rfl) rfl #[.int .u64 a1, .int .i64 a2] rfl (by (try simp only [List.map_toArray, List.map_cons, List.map_nil]); first | done | rfl | (simp only [List.length_drop, List.length_take]; rfl)) ?_; (with_reducible refine (wainscotref16_turned.calls kj3 a1 a2 t110 _ A7.out).mono ?_); rintro e w' ⟨rfl, ⟨nd, rfl⟩⟩; refine ⟨_, rfl, ?_⟩))
          go_ret2
          exact ⟨by first | rfl | (simp; done) | (simp [*]; done), by repeat (first | exact Drawn0.refl _ | apply Drawn0.step)⟩

/-! ### link_List: function 15: given, by hand -/
/-- Which objects have been met: a block of sixteen bools. -/
def hadC (out : List Int) : Array Value := ((List.range 16).map fun (j : Nat) => Value.bool (decide ((j : Int) ∈ out))).toArray
theorem hadC_get (out : List Int) (i : Int) (h0 : 0 ≤ i) (h1 : i < 16) : (hadC out)[i.toNat]? = some (.bool (decide (i ∈ out))) := by
  unfold hadC
  have hi : i.toNat < 16 := by omega
  simp only [List.getElem?_toArray, List.getElem?_map, List.getElem?_range hi, Option.map_some]
  rw [show ((i.toNat : Nat) : Int) = i by omega]
theorem hadC_set (out : List Int) (i : Int) (h0 : 0 ≤ i) (h1 : i < 16) : (hadC out).setIfInBounds i.toNat (.bool true) = hadC (out ++ [i]) := by
  unfold hadC
  apply Array.ext'
  rw [Array.toList_setIfInBounds]
  apply List.ext_getElem?
  intro j
  rw [List.getElem?_set]
  by_cases hj : i.toNat = j
  · subst hj
    have hi : i.toNat < 16 := by omega
    simp [hi]
    exact .inr (by omega)
  · rw [if_neg hj]
    by_cases h16 : j < 16
    · simp only [List.getElem?_map, List.getElem?_range h16, Option.map_some]
      have : decide ((j : Int) ∈ out) = decide ((j : Int) ∈ out ++ [i]) := by
        rw [decide_eq_decide, List.mem_append, List.mem_singleton]
        exact ⟨.inl, fun h => h.elim id (fun h => absurd h (by omega))⟩
      rw [this]
    · have : (List.range 16)[j]? = none := List.getElem?_eq_none (by simp; omega)
      simp [this]
theorem hadC_nil : hadC [] = #[.bool false, .bool false, .bool false, .bool false, .bool false, .bool false, .bool false, .bool false, .bool false, .bool false, .bool false, .bool false, .bool false, .bool false, .bool false, .bool false] := by rfl

def link_List.l0 : Nat → List Int → Int → Int → List Int → Option (List Int × Int)
  | 0, _, _, _, _ => none
  | k + 1, l, key, i, out => if i = -1 then (some (out, 0)) else (if 0 ≤ i then (if i < 16 then (if i ∈ out then (some ([], 150)) else (if out.length < 16 then (if i < (l.length : Int) then ((link_Show.f (rd l i) key i).bind fun t => (if t.2 = true then (if t.1 ≥ (l.length : Int) then (some ([], 150)) else (link_List.l0 k l key t.1 (out ++ [i]))) else (some ([], 150)))) else (none)) else (none))) else (none)) else (none))
def link_List.f (k : Nat) (l0 : List Int) (a1 : Int) (a2 : Int) : Option (List Int × Int) := if (l0.length : Int) > 16 ∨ a2 < -1 ∨ a2 ≥ (l0.length : Int) then (some ([], 2)) else (link_List.l0 k l0 a1 a2 [])
theorem link_List.mono_l : ∀ k, (∀ y0 y1 y2 y3, LeO (link_List.l0 k y0 y1 y2 y3) (link_List.l0 (k + 1) y0 y1 y2 y3))
  | 0 => fun _ _ _ _ r h => by simp [link_List.l0] at h
  | k + 1 => by
    have ih0 := link_List.mono_l k
    intro y0 y1 y2 y3
    unfold link_List.l0
    repeat' first
      | (with_reducible exact ih0 _ _ _ _)
      | (with_reducible exact LeO.refl _)
      | (with_reducible exact LeO.none _)
      | (with_reducible refine LeO.ite ?_ ?_)
      | (with_reducible refine LeO.bind ?_ (fun _ => ?_))
theorem link_List.mono : ∀ a0 a1 a2 k, LeO (link_List.f k a0 a1 a2) (link_List.f (k + 1) a0 a1 a2) := by
  intro a0 a1 a2 k
  unfold link_List.f
  exact LeO.ite (LeO.refl _) (link_List.mono_l k _ _ _ _)

set_option maxHeartbeats 8000000 in
set_option maxRecDepth 100000 in
theorem link_List.calls (k : Nat) (A0 : Option Addr) (c0 : Nat) (l0 : List Int) (a1 : Int) (a2 : Int) (r1 : List Int) (r2 : Int) (w : World) (hr0 : Kd.C (Kd.int .u64) w A0 l0.length l0) (hc0 : l0.length ≤ c0) (h : link_List.f k l0 a1 a2 = some (r1, r2)) :
    Calls Try.prog 15 #[.slice A0 l0.length c0, .int .u64 a1, .int .i64 a2] w fun e w' => ∃ v0_ : Value, e = .returned (.tuple #[v0_, .int .i64 r2]) ∧ Kd.R (Kd.int .i64) 3 w' w.heap.size (fun _ => True) v0_ r1 ∧ Below w.heap.size w w' := by
  have HR0 := Aside0.mk hr0
  have HB := Aside0.mk (Below.refl w.heap.size w)
  clear hr0
  unfold link_List.f at h
  by_cases g1 : (l0.length : Int) > 16
  · rw [if_pos (.inl g1)] at h
    simp only [Option.some.injEq, Prod.mk.injEq] at h
    obtain ⟨rfl, rfl⟩ := h
    have b1 : decide (16 < (l0.length : Int)) = true := decide_eq_true (by omega)
    clear g1
    go_enter Try.func15, Try.ntmps15
    go_wp2
    go_step3
    go_wp2
    rw [Exit.noGoto_ret]
    go_ret2
    exact ⟨_, rfl, Kd.R_nil _ _ _ _ _, HB.out⟩
  by_cases g2 : a2 < -1
  · rw [if_pos (.inr (.inl g2))] at h
    simp only [Option.some.injEq, Prod.mk.injEq] at h
    obtain ⟨rfl, rfl⟩ := h
    have b1 : decide (16 < (l0.length : Int)) = false := decide_eq_false (by omega)
    clear g1
    go_enter Try.func15, Try.ntmps15
    go_wp2
    go_step3
    go_wp2
    rw [Exit.noGoto_ret]
    go_ret2
    exact ⟨_, rfl, Kd.R_nil _ _ _ _ _, HB.out⟩
  by_cases g3 : a2 ≥ (l0.length : Int)
  · rw [if_pos (.inr (.inr g3))] at h
    simp only [Option.some.injEq, Prod.mk.injEq] at h
    obtain ⟨rfl, rfl⟩ := h
    have b1 : decide (16 < (l0.length : Int)) = false := decide_eq_false (by omega)
    clear g1
    go_enter Try.func15, Try.ntmps15
    go_wp2
    go_step3
    go_wp2
    rw [Exit.noGoto_ret]
    go_ret2
    exact ⟨_, rfl, Kd.R_nil _ _ _ _ _, HB.out⟩
  rw [if_neg (by omega)] at h
  have H' := Aside0.mk h
  have b1 : decide (16 < (l0.length : Int)) = false := decide_eq_false (by omega)
  have hl16 : l0.length ≤ 16 := by omega
  clear g1 h
  go_enter Try.func15, Try.ntmps15
  go_wp2
  go_step3
  go_wp2
  go_step3
  go_wp2
  go_loopg [2, 9] k (fun kq v2 v9 w' => ∃ (i : Int) (out : List Int), v2 = .int .i64 i ∧ Aside0 (link_List.l0 kq l0 a1 i out = some (r1, r2)) ∧ Aside0 (Kd.R (Kd.int .i64) 3 w' w.heap.size (fun _ => True) v9 out) ∧ Aside0 (w'.heap[w.heap.size]? = some (.cells (hadC out) 47 (0, 0))) ∧ Aside0 (Below w.heap.size w w'))
  case atStart => exact ⟨a2, [], rfl, H', ⟨Kd.R_nil _ _ _ _ _⟩, ⟨by rw [hadC_nil]; exact blk_new w _⟩, ⟨below_alloc HB.out _⟩⟩
  case round =>
    clear H' HB
    obtain ⟨i, out, rfl, HA, HO, HH, HB⟩ := hrel
    cases gk with
    | zero => exact absurd HA.out (by simp [link_List.l0])
    | succ k1 =>
      have H := HA.out
      clear HA
      simp only [link_List.l0] at H
      by_cases c1 : i = -1
      · rw [if_pos c1] at H
        simp only [Option.some.injEq, Prod.mk.injEq] at H
        obtain ⟨rfl, rfl⟩ := H
        have b2 : (i == -1) = true := beq_iff_eq.mpr c1
        clear c1
        go_wp2
        rw [Exit.noGoto_ret]
        go_ret2
        exact ⟨_, rfl, HO.out, HB.out⟩
      · rw [if_neg c1] at H
        have b2 : (i == -1) = false := beq_eq_false_iff_ne.mpr c1
        by_cases c2 : 0 ≤ i
        · rw [if_pos c2] at H
          by_cases c3 : i < 16
          · rw [if_pos c3] at H
            have hcell : wr.cell? ⟨w.heap.size, i.toNat, none⟩ = some (.bool (decide (i ∈ out))) := (blk_cell HH.out i.toNat).trans (hadC_get out i c2 c3)
            by_cases c4 : i ∈ out
            · rw [if_pos c4] at H
              simp only [Option.some.injEq, Prod.mk.injEq] at H
              obtain ⟨rfl, rfl⟩ := H
              rw [decide_eq_true c4] at hcell
              clear c4
              go_wp2
              rw [Exit.noGoto_ret]
              go_ret2
              exact ⟨_, rfl, Kd.R_nil _ _ _ _ _, HB.out⟩
            · rw [if_neg c4] at H
              rw [decide_eq_false c4] at hcell
              have hfz : wr.frozen? ⟨w.heap.size, i.toNat, none⟩ = false := blk_frozen HH.out i.toNat
              have HH2 : Aside0 ((wr.setCell ⟨w.heap.size, i.toNat, none⟩ (.bool true)).heap[w.heap.size]? = some (.cells (hadC (out ++ [i])) 47 (0, 0))) := ⟨blk_put HH.out i.toNat _ (hadC_set out i c2 c3)⟩
              have HO2 : Aside0 (Kd.R (Kd.int .i64) 3 (wr.setCell ⟨w.heap.size, i.toNat, none⟩ (.bool true)) w.heap.size (fun _ => True) u9 out) := ⟨Kd.R_set HO.out HH.out (by intro q hq; simp [Kd.int, Kd.scalar] at hq; omega) i.toNat _⟩
              have HB2 : Aside0 (Below w.heap.size w (wr.setCell ⟨w.heap.size, i.toNat, none⟩ (.bool true))) := ⟨below_set HB.out (Nat.le_refl _)⟩
              by_cases c5 : out.length < 16
              · rw [if_pos c5] at H
                by_cases c6 : i < (l0.length : Int)
                · rw [if_pos c6] at H
                  replace H := Option.bind_eq_some_iff.mp H
                  obtain ⟨⟨t1, t2⟩, A6, H⟩ := H
                  have A6' := Aside0.mk A6
                  clear A6 c4 HH HO HB
                  go_upto_region 9 with (fail)
                  generalize wr.setCell ⟨w.heap.size, i.toNat, none⟩ (.bool true) = w2 at HH2 HO2 HB2 ⊢
                  clear hcell hfz
                  obtain ⟨Ao, co, eo⟩ := Kd.R_slice HO2.out
                  subst eo
                  obtain ⟨ad, ead, hx⟩ := Kd.at_int HR0.out i c2 c6
                  cases ead
                  have LM := Aside0.mk c5
                  have HC2 := Aside0.mk c2
                  clear c5
                  simp only at H
                  cases t2 with
                  | false =>
                    rw [if_neg (by simp)] at H
                    simp only [Option.some.injEq, Prod.mk.injEq] at H
                    obtain ⟨rfl, rfl⟩ := H
                    have hx3 : ∀ w3 : World, Below w.heap.size w w3 → w3.cell? (ad.add i.toNat) = some (.int .u64 (rd l0 i)) := fun w3 hb => (hb.cell (World.block_lt_of_cell? w _ hx)).trans hx
                    have HX3 := Aside0.mk hx3
                    clear hx hx3
                    go_wp2_with (first | ((with_reducible refine gate_builtin (b := .append) (xs := #[.tmp 34, .tmp 36]) rfl ?_); (try (refine gate_guard (by rfl) ?_; dsimp only)); at_builtin; refine Kd.R_append (Kd.int .i64) (w0 := w) w.heap.size rfl (.tmp 34) (.tmp 36) 31 3 (.int .i64 0) 8 rfl Try.underlying31 info3 rfl (by decide) (by omega) (.slice Ao out.length co) out i [.int .i64 i] (fun _ => True) (fun _ => False) rfl rfl ?aP (fun _ hk => hk.elim) ?aF ?aO ?aB ?aS ?aL ?_; (case aP => exact rfl); (case aB => exact HB2.out); (case aF => exact (fun _ _ => trivial)); (case aO => exact HO2.out); (case aS => exact below_size HB2.out); (case aL => have := LM.out; omega); intro v3 w3 ho hb hg hat; have HO3 := Aside0.mk ho; have HB3 := Aside0.mk hb; have HH3 := Aside0.mk (blk_grown HH2.out hg (Kd.R_ne HO2.out HH2.out (by decide))); have hx4 := HX3.out w3 HB3.out; clear ho hb hg hat) | (go_at_call 12; (with_reducible refine (link_Show.calls (rd l0 i) a1 i t1 _ _ A6'.out).mono ?_); rintro e w' ⟨rfl, ⟨⟨nd, rfl⟩⟩⟩))
                    rw [Exit.noGoto_ret]
                    go_ret2
                    exact ⟨_, rfl, Kd.R_nil _ _ _ _ _, pw_below_drewN HB3.out _⟩
                  | true =>
                    rw [if_pos rfl] at H
                    by_cases c7 : t1 ≥ (l0.length : Int)
                    · rw [if_pos c7] at H
                      have b7 : decide ((l0.length : Int) ≤ t1) = true := decide_eq_true c7
                      clear c7
                      simp only [Option.some.injEq, Prod.mk.injEq] at H
                      obtain ⟨rfl, rfl⟩ := H
                      have hx3 : ∀ w3 : World, Below w.heap.size w w3 → w3.cell? (ad.add i.toNat) = some (.int .u64 (rd l0 i)) := fun w3 hb => (hb.cell (World.block_lt_of_cell? w _ hx)).trans hx
                      have HX3 := Aside0.mk hx3
                      clear hx hx3
                      go_wp2_with (first | ((with_reducible refine gate_builtin (b := .append) (xs := #[.tmp 34, .tmp 36]) rfl ?_); (try (refine gate_guard (by rfl) ?_; dsimp only)); at_builtin; refine Kd.R_append (Kd.int .i64) (w0 := w) w.heap.size rfl (.tmp 34) (.tmp 36) 31 3 (.int .i64 0) 8 rfl Try.underlying31 info3 rfl (by decide) (by omega) (.slice Ao out.length co) out i [.int .i64 i] (fun _ => True) (fun _ => False) rfl rfl ?aP (fun _ hk => hk.elim) ?aF ?aO ?aB ?aS ?aL ?_; (case aP => exact rfl); (case aB => exact HB2.out); (case aF => exact (fun _ _ => trivial)); (case aO => exact HO2.out); (case aS => exact below_size HB2.out); (case aL => have := LM.out; omega); intro v3 w3 ho hb hg hat; have HO3 := Aside0.mk ho; have HB3 := Aside0.mk hb; have HH3 := Aside0.mk (blk_grown HH2.out hg (Kd.R_ne HO2.out HH2.out (by decide))); have hx4 := HX3.out w3 HB3.out; clear ho hb hg hat) | (go_at_call 12; (with_reducible refine (link_Show.calls (rd l0 i) a1 i t1 _ _ A6'.out).mono ?_); rintro e w' ⟨rfl, ⟨⟨nd, rfl⟩⟩⟩))
                      rw [Exit.noGoto_ret]
                      go_ret2
                      exact ⟨_, rfl, Kd.R_nil _ _ _ _ _, pw_below_drewN HB3.out _⟩
                    · rw [if_neg c7] at H
                      have b7 : decide ((l0.length : Int) ≤ t1) = false := decide_eq_false c7
                      clear c7
                      have H2 := Aside0.mk H
                      clear H
                      have hx3 : ∀ w3 : World, Below w.heap.size w w3 → w3.cell? (ad.add i.toNat) = some (.int .u64 (rd l0 i)) := fun w3 hb => (hb.cell (World.block_lt_of_cell? w _ hx)).trans hx
                      have HX3 := Aside0.mk hx3
                      clear hx hx3
                      go_wp2_with (first | ((with_reducible refine gate_builtin (b := .append) (xs := #[.tmp 34, .tmp 36]) rfl ?_); (try (refine gate_guard (by rfl) ?_; dsimp only)); at_builtin; refine Kd.R_append (Kd.int .i64) (w0 := w) w.heap.size rfl (.tmp 34) (.tmp 36) 31 3 (.int .i64 0) 8 rfl Try.underlying31 info3 rfl (by decide) (by omega) (.slice Ao out.length co) out i [.int .i64 i] (fun _ => True) (fun _ => False) rfl rfl ?aP (fun _ hk => hk.elim) ?aF ?aO ?aB ?aS ?aL ?_; (case aP => exact rfl); (case aB => exact HB2.out); (case aF => exact (fun _ _ => trivial)); (case aO => exact HO2.out); (case aS => exact below_size HB2.out); (case aL => have := LM.out; omega); intro v3 w3 ho hb hg hat; have HO3 := Aside0.mk ho; have HB3 := Aside0.mk hb; have HH3 := Aside0.mk (blk_grown HH2.out hg (Kd.R_ne HO2.out HH2.out (by decide))); have hx4 := HX3.out w3 HB3.out; clear ho hb hg hat) | (go_at_call 12; (with_reducible refine (link_Show.calls (rd l0 i) a1 i t1 _ _ A6'.out).mono ?_); rintro e w' ⟨rfl, ⟨⟨nd, rfl⟩⟩⟩))
                      go_roundg k1
                      case measure => omega
                      case rel => exact ⟨t1, out ++ [i], rfl, H2, ⟨Kd.R_drewN HO3.out _⟩, ⟨blk_drewN HH3.out _⟩, ⟨pw_below_drewN HB3.out _⟩⟩
                · rw [if_neg c6] at H; cases H
              · rw [if_neg c5] at H; cases H
          · rw [if_neg c3] at H; cases H
        · rw [if_neg c2] at H; cases H


end Go.Proofs.Ytamdfipmbpfhbaa.G
