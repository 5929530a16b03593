/- What Go functions of the seat compute: each as a plain Lean function, and that its call answers just that. Written by a program of this session (wip/own_print.py). -/
import Derived.Test.YtanolcldeeglmaaG0
import Derived.Test.YtanolcldeeglmaaG1
import Derived.Test.YtanolcldeeglmaaG2
namespace Go.Proofs.Ytanolcldeeglmaa.G
open Go.RowKit Go.Proofs.YtanolcldeeglmaaW.PrintWords Go.Proofs.YtanolcldeeglmaaW.PrintLast Go.Proofs.YtanolcldeeglmaaW.PrintMore
attribute [local go_sem] max2_int min2_int max_two min_two max_three min_three max_four min_four   -- for this text's walks alone
set_option linter.unusedVariables false
set_option linter.unusedSimpArgs false

attribute [local go_sem high] eqA23
/-! ### wainscotref15_Of: function 9: given, by hand -/
section RefOf
open layout_Of (off num stp byt ob ws sc bad)
theorem w64 {x : Int} (h0 : -9223372036854775808 ≤ x) (h1 : x ≤ 9223372036854775807) : wrap64 x = x := layout_Of.w64 h0 h1
def al (a : Int) : Prop := a = 1 ∨ a = 2 ∨ a = 4 ∨ a = 8 ∨ a = 16 ∨ a = 32 ∨ a = 64
instance (a : Int) : Decidable (al a) := by unfold al; infer_instance
theorem and_al : ∀ n : Nat, n < 65 → 1 ≤ n → (Go.bits .and .i64 (n : Int) ((n : Int) - 1) = 0 ↔ al (n : Int)) := by decide +kernel
theorem bad_iff (a0 a1 : Int) : bad a0 a1 ↔ (a0 < 1 ∨ a0 > 2048 ∨ ¬ al a1) := by
  unfold bad
  by_cases h : 1 ≤ a1 ∧ a1 ≤ 64
  · obtain ⟨n, rfl⟩ : ∃ n : Nat, a1 = n := ⟨a1.toNat, by omega⟩
    have := and_al n (by omega) (by omega)
    rw [ne_eq, this]
    constructor
    · rintro (h | h | h | h | h)
      · exact .inl h
      · exact .inr (.inl h)
      · omega
      · omega
      · exact .inr (.inr h)
    · rintro (h | h | h)
      · exact .inl h
      · exact .inr (.inl h)
      · exact .inr (.inr (.inr (.inr h)))
  · have hn : ¬ al a1 := by unfold al; omega
    constructor
    · intro _; exact .inr (.inr hn)
    · intro _; omega
theorem rAligned (a : Int) (k : Nat) (hk : 8 ≤ k) : wainscotref15_aligned.f k a = some (decide (al a)) := by
  obtain ⟨k, rfl⟩ : ∃ j, k = j + 8 := ⟨k - 8, by omega⟩
  unfold wainscotref15_aligned.f
  rw [wainscotref15_aligned.l0, if_pos (by omega)]
  by_cases h1 : a = 1
  · rw [if_pos h1]; subst h1; rfl
  rw [if_neg h1, show wrap64 (1 * 2) = 2 by decide +kernel, wainscotref15_aligned.l0, if_pos (by omega)]
  by_cases h2 : a = 2
  · rw [if_pos h2]; subst h2; rfl
  rw [if_neg h2, show wrap64 (2 * 2) = 4 by decide +kernel, wainscotref15_aligned.l0, if_pos (by omega)]
  by_cases h3 : a = 4
  · rw [if_pos h3]; subst h3; rfl
  rw [if_neg h3, show wrap64 (4 * 2) = 8 by decide +kernel, wainscotref15_aligned.l0, if_pos (by omega)]
  by_cases h4 : a = 8
  · rw [if_pos h4]; subst h4; rfl
  rw [if_neg h4, show wrap64 (8 * 2) = 16 by decide +kernel, wainscotref15_aligned.l0, if_pos (by omega)]
  by_cases h5 : a = 16
  · rw [if_pos h5]; subst h5; rfl
  rw [if_neg h5, show wrap64 (16 * 2) = 32 by decide +kernel, wainscotref15_aligned.l0, if_pos (by omega)]
  by_cases h6 : a = 32
  · rw [if_pos h6]; subst h6; rfl
  rw [if_neg h6, show wrap64 (32 * 2) = 64 by decide +kernel, wainscotref15_aligned.l0, if_pos (by omega)]
  by_cases h7 : a = 64
  · rw [if_pos h7]; subst h7; rfl
  rw [if_neg h7, show wrap64 (64 * 2) = 128 by decide +kernel, wainscotref15_aligned.l0, if_neg (by omega)]
  congr 1
  exact (decide_eq_false (by unfold al; omega)).symm
theorem rUp0 (m q : Int) (hm : 1 ≤ m) : ∀ (d : Nat) (j : Int) (k : Nat), j + d = m * q → d < m → 0 ≤ j → m * q ≤ 1000000 → d + 1 ≤ k → wainscotref15_up.l0 k j m = some (m * q) := by
  intro d
  induction d with
  | zero =>
    intro j k hj _ h0 _ hk
    obtain ⟨k, rfl⟩ : ∃ j, k = j + 1 := ⟨k - 1, by omega⟩
    have e : j = m * q := by omega
    rw [wainscotref15_up.l0, if_neg (by omega), e, Int.mul_tmod_right, if_pos rfl]
  | succ d ih =>
    intro j k hj hd h0 h1 hk
    obtain ⟨k, rfl⟩ : ∃ j, k = j + 1 := ⟨k - 1, by omega⟩
    have hne : ¬ Int.tmod j m = 0 := by
      intro h
      obtain ⟨p, hp⟩ := Int.dvd_of_tmod_eq_zero h
      have a1 : m * p < m * q := by omega
      have a2 : m * (q - 1) < m * p := by rw [Int.mul_sub, Int.mul_one]; omega
      have b1 := Int.lt_of_mul_lt_mul_left a1 (by omega)
      have b2 := Int.lt_of_mul_lt_mul_left a2 (by omega)
      omega
    rw [wainscotref15_up.l0, if_neg (by omega), if_neg hne, w64 (by omega) (by omega)]
    exact ih (j + 1) k (by omega) (by omega) (by omega) h1 (by omega)
theorem rUp (n m : Int) (hm : 1 ≤ m) (hm2 : m ≤ 64) (hn : 1 ≤ n) (hn2 : n ≤ 4096) (k : Nat) (hk : 64 ≤ k) : wainscotref15_up.f k n m = some ((n + m - 1) / m * m) := by
  have hb := layout_Of.up_bounds n m hm
  have hc : (n + m - 1) / m * m = m * ((n + m - 1) / m) := Int.mul_comm _ _
  unfold wainscotref15_up.f
  rw [hc] at hb ⊢
  exact rUp0 m _ hm (m * ((n + m - 1) / m) - n).toNat n k (by omega) (by omega) (by omega) (by omega) (by omega)
theorem rSlab (a0 a1 st f i : Int) (hs : 1 ≤ st) (h0 : 0 ≤ i) (h4 : i < 4) (k : Nat) (hk : 5 ≤ k) : wainscotref15_slab.f k a0 a1 st f 0 0 0 i = some (a0, a1, st, f, i, ob st i, ws st i) := by
  have hb := layout_Of.byt_cases h0 h4
  have q0 : 0 ≤ byt i / st := Int.ediv_nonneg (by omega) (by omega)
  have q1 : byt i / st ≤ byt i := Int.ediv_le_self _ (by omega)
  have ho := layout_Of.ob_bounds hs h0 h4
  have fin : ∀ k : Nat, wainscotref15_slab.l0 (k + 1) i (byt i) i a0 a1 st f 0 0 0 = some (a0, a1, st, f, i, ob st i, ws st i) := by
    intro k
    rw [wainscotref15_slab.l0, if_neg (by omega), if_neg (by omega), Int.tdiv_eq_ediv_of_nonneg (by omega), w64 (x := byt i / st) (by omega) (by omega)]
    have e : mn (byt i / st) 16 = ob st i := rfl
    rw [e, w64 (x := ob st i * st) (by omega) (by omega), w64 (by omega) (by omega)]
    rfl
  obtain ⟨k, rfl⟩ : ∃ j, k = j + 5 := ⟨k - 5, by omega⟩
  unfold wainscotref15_slab.f
  have : i = 0 ∨ i = 1 ∨ i = 2 ∨ i = 3 := by omega
  rcases this with rfl | rfl | rfl | rfl
  · exact fin (k + 4)
  · have f1 := fin (k + 3)
    rw [show byt 1 = 512 by decide +kernel] at f1
    rw [wainscotref15_slab.l0, if_pos (by omega), show wrap64 (256 * 2) = 512 by decide +kernel, show wrap64 (0 + 1) = 1 by decide +kernel]
    exact f1
  · have f1 := fin (k + 2)
    rw [show byt 2 = 1024 by decide +kernel] at f1
    rw [wainscotref15_slab.l0, if_pos (by omega), show wrap64 (256 * 2) = 512 by decide +kernel, show wrap64 (0 + 1) = 1 by decide +kernel]
    rw [wainscotref15_slab.l0, if_pos (by omega), show wrap64 (512 * 2) = 1024 by decide +kernel, show wrap64 (1 + 1) = 2 by decide +kernel]
    exact f1
  · have f1 := fin (k + 1)
    rw [show byt 3 = 2048 by decide +kernel] at f1
    rw [wainscotref15_slab.l0, if_pos (by omega), show wrap64 (256 * 2) = 512 by decide +kernel, show wrap64 (0 + 1) = 1 by decide +kernel]
    rw [wainscotref15_slab.l0, if_pos (by omega), show wrap64 (512 * 2) = 1024 by decide +kernel, show wrap64 (1 + 1) = 2 by decide +kernel]
    rw [wainscotref15_slab.l0, if_pos (by omega), show wrap64 (1024 * 2) = 2048 by decide +kernel, show wrap64 (2 + 1) = 3 by decide +kernel]
    exact f1

/-! ### which order -/
def fg (st : Int) : Nat → Int → Option Int
  | 0, _ => none
  | d + 1, i => if ob st i = 0 then fg st d (i + 1) else if ws st i * 8 ≤ byt i then some i else fg st d (i + 1)
def fn (st : Int) : Nat → Int → Option Int
  | 0, _ => none
  | d + 1, i => if ob st i = 0 then fn st d (i + 1) else some i
abbrev L8 := Int × Int × Int × Int × Int × Int × Int × Int
def lay (a0 a1 st f i : Int) : L8 := (a0, a1, st, f, i, ob st i, ws st i, 0)
def orFn (a0 a1 st f : Int) : Option Int → L8
  | some j => lay a0 a1 st f j
  | none => (0, 0, 0, 0, 0, 0, 0, 150)
def orFg (a0 a1 st f : Int) (R : L8) : Option Int → L8
  | some j => lay a0 a1 st f j
  | none => R
theorem sc_eq (a0 a1 st f : Int) : ∀ (d : Nat) (i : Int) (fd : Bool) (o1 o2 o3 : Int), sc a0 a1 st f d i fd o1 o2 o3 = orFg a0 a1 st f (if fd = true then (a0, a1, st, f, o1, o2, o3, 0) else orFn a0 a1 st f (fn st d i)) (fg st d i) := by
  intro d
  induction d with
  | zero => intro i fd o1 o2 o3; rfl
  | succ d ih =>
    intro i fd o1 o2 o3
    rw [sc, fg, fn]
    by_cases h : ob st i = 0
    · rw [if_pos h, if_pos h, if_pos h, ih]
    · rw [if_neg h, if_neg h, if_neg h]
      by_cases g : ws st i * 8 ≤ byt i
      · rw [if_pos g, if_pos g]; rfl
      · rw [if_neg g, if_neg g]
        by_cases c : fd = true
        · rw [if_pos c, ih, if_pos c, if_pos c]
        · rw [if_neg c, ih, if_pos rfl, if_neg c]; rfl
/-! ### numbers of a layout -/
structure Num (a0 a1 : Int) (g : Bool) : Prop where
  off0 : 0 ≤ off a1 g
  off1 : off a1 g ≤ 71
  m8 : 8 ≤ mx 8 a1
  m64 : mx 8 a1 ≤ 64
  num0 : a0 ≤ num a0 a1 g
  num1 : num a0 a1 g ≤ 2127
  stp0 : num a0 a1 g ≤ stp a0 a1 g
  stp1 : stp a0 a1 g ≤ 2200
theorem al_bounds {a : Int} (h : al a) : 1 ≤ a ∧ a ≤ 64 := by unfold al at h; omega
theorem numb {a0 a1 : Int} (g : Bool) (h0 : 1 ≤ a0) (h1 : a0 ≤ 2048) (ha : al a1) : Num a0 a1 g := by
  have hb := al_bounds ha
  have m8 : 8 ≤ mx 8 a1 := by unfold mx; split <;> omega
  have m64 : mx 8 a1 ≤ 64 := by unfold mx; split <;> omega
  have u := layout_Of.up_bounds 8 a1 (by omega)
  have o0 : 0 ≤ off a1 g := by unfold off; split <;> omega
  have o1 : off a1 g ≤ 71 := by unfold off; split <;> omega
  have n0 : a0 ≤ num a0 a1 g := by unfold num; split <;> omega
  have n1 : num a0 a1 g ≤ 2127 := by unfold num; split <;> omega
  have v := layout_Of.up_bounds (num a0 a1 g) (mx 8 a1) (by omega)
  exact ⟨o0, o1, m8, m64, n0, n1, by unfold stp; omega, by unfold stp; omega⟩
theorem aOf {a0 a1 : Int} (g : Bool) (h0 : 1 ≤ a0) (h1 : a0 ≤ 2048) (ha : al a1) : layout_Of.f a0 a1 g = some (orFg a0 a1 (stp a0 a1 g) (off a1 g) (orFn a0 a1 (stp a0 a1 g) (off a1 g) (fn (stp a0 a1 g) 4 0)) (fg (stp a0 a1 g) 4 0)) := by
  unfold layout_Of.f
  rw [if_neg (by rw [bad_iff]; rintro (h | h | h); omega; omega; exact h ha), sc_eq, if_neg (by simp)]

def wainscotref15_Of.f (a0 a1 : Int) (a2 : Bool) : Option (Int × Int × Int × Int × Int × Int × Int × Int) := layout_Of.f a0 a1 a2
set_option maxHeartbeats 8000000 in
set_option maxRecDepth 100000 in
theorem wainscotref15_Of.calls (a0 : Int) (a1 : Int) (a2 : Bool) (r1 : Int) (r2 : Int) (r3 : Int) (r4 : Int) (r5 : Int) (r6 : Int) (r7 : Int) (r8 : Int) (w : World) (h : wainscotref15_Of.f a0 a1 a2 = some (r1, r2, r3, r4, r5, r6, r7, r8)) :
    Calls Try.prog 9 #[.int .i64 a0, .int .i64 a1, .bool a2] w fun e w' => e = .returned (.tuple #[.agg #[.int .i64 r1, .int .i64 r2, .int .i64 r3, .int .i64 r4, .int .i64 r5, .int .i64 r6, .int .i64 r7], .int .i64 r8]) ∧ Below w.heap.size w w' := by
  have hu23 := Try.underlying23
  have HB := Aside0.mk (Below.refl w.heap.size w)
  unfold wainscotref15_Of.f at h
  have AL0 := rAligned a1 8 (by omega)
  have hbd : ¬ al a1 → layout_Of.f a0 a1 a2 = some (0, 0, 0, 0, 0, 0, 0, 2) := fun hn => by unfold layout_Of.f; rw [if_pos ((bad_iff a0 a1).2 (.inr (.inr hn)))]
  have hb0 : a0 < 1 ∨ a0 > 2048 → layout_Of.f a0 a1 a2 = some (0, 0, 0, 0, 0, 0, 0, 2) := fun hn => by unfold layout_Of.f; rw [if_pos ((bad_iff a0 a1).2 (hn.elim .inl (fun q => .inr (.inl q))))]
  have HD := Aside0.mk hbd
  have HD0 := Aside0.mk hb0
  have H := Aside0.mk h
  have ALA := Aside0.mk AL0
  clear hbd hb0 h AL0
  go_enter Try.func9, Try.ntmps9
  go_upto_region 1 with ((with_reducible refine gate_dst (N := 6) rfl ?_); refine box_event ?hg (N := 6) ?hd (cs := #[.int .i64 0, .int .i64 0, .int .i64 0, .int .i64 0, .int .i64 0, .int .i64 0, .int .i64 0]) (t := 23) ?hr ?_; (case hd => rfl); (case hg => rfl); (case hr => first | (go_simp; done) | (go_simp; rfl)); intro gr hg wgr hbox hb; have HGgr := Aside0.mk hg; have BKgr := Aside0.mk hbox; have HBgr := Aside0.mk hb; clear hg hbox hb; have grc0 := (blk_cell BKgr.out 0).trans rfl; have grc1 := (blk_cell BKgr.out 1).trans rfl; have grc2 := (blk_cell BKgr.out 2).trans rfl; have grc3 := (blk_cell BKgr.out 3).trans rfl; have grc4 := (blk_cell BKgr.out 4).trans rfl; have grc5 := (blk_cell BKgr.out 5).trans rfl; have grc6 := (blk_cell BKgr.out 6).trans rfl; have grf0 := blk_frozen BKgr.out 0; have grf1 := blk_frozen BKgr.out 1; have grf2 := blk_frozen BKgr.out 2; have grf3 := blk_frozen BKgr.out 3; have grf4 := blk_frozen BKgr.out 4; have grf5 := blk_frozen BKgr.out 5; have grf6 := blk_frozen BKgr.out 6)
  have HBr := Aside0.mk (below_step HB.out HBgr.out)
  have GR := Aside0.mk (Nat.le_of_eq HGgr.out.symm)
  by_cases g1 : a0 < 1
  · have h := H.out
    rw [HD0.out (.inl g1)] at h
    simp only [Option.some.injEq, Prod.mk.injEq] at h
    obtain ⟨rfl, rfl, rfl, rfl, rfl, rfl, rfl, rfl⟩ := h
    go_wp2
    refine bodyPost_ret (results_ct rfl _ _ gr 23 #[.int .i64 0, .int .i64 0, .int .i64 0, .int .i64 0, .int .i64 0, .int .i64 0, .int .i64 0] (0, 0) _ rfl (by first | exact put7 BKgr.out | exact put7 (dr BKgr.out)) Try.underlying23 rfl (by kernel_rfl)) rfl ?_
    exact ⟨rfl, by first | exact below7 HBr.out GR.out | exact below7 (drb HBr.out) GR.out⟩
  by_cases g2 : a0 > 2048
  · have h := H.out
    rw [HD0.out (.inr g2)] at h
    simp only [Option.some.injEq, Prod.mk.injEq] at h
    obtain ⟨rfl, rfl, rfl, rfl, rfl, rfl, rfl, rfl⟩ := h
    go_wp2
    refine bodyPost_ret (results_ct rfl _ _ gr 23 #[.int .i64 0, .int .i64 0, .int .i64 0, .int .i64 0, .int .i64 0, .int .i64 0, .int .i64 0] (0, 0) _ rfl (by first | exact put7 BKgr.out | exact put7 (dr BKgr.out)) Try.underlying23 rfl (by kernel_rfl)) rfl ?_
    exact ⟨rfl, by first | exact below7 HBr.out GR.out | exact below7 (drb HBr.out) GR.out⟩
  by_cases g3 : al a1
  rotate_left
  · have h := H.out
    rw [HD.out g3] at h
    simp only [Option.some.injEq, Prod.mk.injEq] at h
    obtain ⟨rfl, rfl, rfl, rfl, rfl, rfl, rfl, rfl⟩ := h
    have AL := Aside0.mk (show wainscotref15_aligned.f 8 a1 = some false by rw [ALA.out, decide_eq_false g3])
    clear g3
    go_wp2_with (go_at_call 18; (with_reducible refine (wainscotref15_aligned.calls 8 a1 false _ AL.out).mono ?_); rintro e w' ⟨rfl, ⟨nd, rfl⟩⟩)
    refine bodyPost_ret (results_ct rfl _ _ gr 23 #[.int .i64 0, .int .i64 0, .int .i64 0, .int .i64 0, .int .i64 0, .int .i64 0, .int .i64 0] (0, 0) _ rfl (by first | exact put7 BKgr.out | exact put7 (dr BKgr.out)) Try.underlying23 rfl (by kernel_rfl)) rfl ?_
    exact ⟨rfl, by first | exact below7 HBr.out GR.out | exact below7 (drb HBr.out) GR.out⟩
  have AL := Aside0.mk (show wainscotref15_aligned.f 8 a1 = some true by rw [ALA.out, decide_eq_true g3])
  have N := numb a2 (show 1 ≤ a0 by omega) (show a0 ≤ 2048 by omega) g3
  have hal := al_bounds g3
  have hf := aOf a2 (show 1 ≤ a0 by omega) (show a0 ≤ 2048 by omega) g3
  have h := H.out
  rw [hf] at h
  have H2 := Aside0.mk (Option.some.inj h)
  clear h hf H ALA HD HD0 g3
  have n0 := N.num0
  have n1 := N.num1
  have s0 := N.stp0
  have s1 := N.stp1
  have m8 := N.m8
  have m64 := N.m64
  have of0 := N.off0
  have of1 := N.off1
  clear N
  have U1 := Aside0.mk (rUp 8 a1 (by omega) (by omega) (by omega) (by omega) 100 (by omega))
  have U2 := Aside0.mk (rUp (num a0 a1 a2) (mx 8 a1) (by omega) m64 (by omega) (by omega) 100 (by omega))
  have hof : off a1 a2 = (if a2 = true then (8 + a1 - 1) / a1 * a1 else 0) := rfl
  have hnu : num a0 a1 a2 = (if a2 = true then a0 + (off a1 a2 + 8) else a0) := rfl
  have hm1 : mx 8 a1 = (if 8 < a1 then a1 else 8) := rfl
  have hst' : (num a0 a1 a2 + mx 8 a1 - 1) / mx 8 a1 * mx 8 a1 = stp a0 a1 a2 := rfl
  rw [hst'] at U2
  obtain ⟨st, hst⟩ : ∃ st, st = stp a0 a1 a2 := ⟨_, rfl⟩
  obtain ⟨of, hoff⟩ : ∃ of, of = off a1 a2 := ⟨_, rfl⟩
  obtain ⟨nu, hnuu⟩ : ∃ nu, nu = num a0 a1 a2 := ⟨_, rfl⟩
  obtain ⟨mm, hmm⟩ : ∃ mm, mm = mx 8 a1 := ⟨_, rfl⟩
  rw [← hst] at U2 s0 s1 H2
  rw [← hoff] at H2 hof of0 of1 hnu
  rw [← hnuu] at U2 hnu n0 n1 s0
  rw [← hmm] at U2 hm1 m8 m64
  clear hst' hst hnuu hoff hmm
  have hst0 : 1 ≤ st := by omega
  have HOF := Aside0.mk hof
  have HNU := Aside0.mk hnu
  have HM := Aside0.mk hm1
  clear hof hnu hm1
  go_upto_region 3 with (go_at_call 18; (with_reducible refine (wainscotref15_aligned.calls 8 a1 true _ AL.out).mono ?_); rintro e w' ⟨rfl, ⟨nd, rfl⟩⟩)
  go_cut [8] (fun v8 wc => ∃ gl : Nat, v8 = .pointer (some ⟨gl, 0, none⟩) ∧ Aside0 (w.heap.size ≤ gl) ∧ Aside0 (gr ≠ gl) ∧ Aside0 (wc.heap[gr]? = some (.cells #[.int .i64 0, .int .i64 0, .int .i64 0, .int .i64 0, .int .i64 0, .int .i64 0, .int .i64 0] 23 (0, 0))) ∧ Aside0 (wc.heap[gl]? = some (.cells #[.int .i64 a0, .int .i64 a1, .int .i64 0, .int .i64 0, .int .i64 0, .int .i64 0, .int .i64 0] 23 (0, 0))) ∧ Aside0 (Below w.heap.size w wc))
  case first =>
    go_wp2_with ((with_reducible refine gate_dst (N := 8) rfl ?_); refine box_event ?hg (N := 8) ?hd (cs := #[.int .i64 0, .int .i64 0, .int .i64 0, .int .i64 0, .int .i64 0, .int .i64 0, .int .i64 0]) (t := 23) ?hr ?_; (case hd => rfl); (case hg => rfl); (case hr => first | (go_simp; done) | (go_simp; rfl)); intro gx hg wgx hbox hb; have HGgx := Aside0.mk hg; have BKgx := Aside0.mk hbox; have HBgx := Aside0.mk hb; clear hg hbox hb; have gxc0 := (blk_cell BKgx.out 0).trans rfl; have gxc1 := (blk_cell BKgx.out 1).trans rfl; have gxc2 := (blk_cell BKgx.out 2).trans rfl; have gxc3 := (blk_cell BKgx.out 3).trans rfl; have gxc4 := (blk_cell BKgx.out 4).trans rfl; have gxc5 := (blk_cell BKgx.out 5).trans rfl; have gxc6 := (blk_cell BKgx.out 6).trans rfl; have gxf0 := blk_frozen BKgx.out 0; have gxf1 := blk_frozen BKgx.out 1; have gxf2 := blk_frozen BKgx.out 2; have gxf3 := blk_frozen BKgx.out 3; have gxf4 := blk_frozen BKgx.out 4; have gxf5 := blk_frozen BKgx.out 5; have gxf6 := blk_frozen BKgx.out 6)
    go_meet
    case rel => exact ⟨gx, rfl, ⟨Nat.le_trans HBr.out.size (Nat.le_of_eq HGgx.out.symm)⟩, ⟨Nat.ne_of_lt (HGgx.out ▸ blk_lt BKgr.out)⟩, ⟨far7 (Nat.ne_of_lt (HGgx.out ▸ blk_lt BKgr.out)) (by first | exact blk_below BKgr.out HBgx.out | exact blk_below (dr BKgr.out) HBgx.out)⟩, ⟨put7 BKgx.out⟩, ⟨below7 (by first | exact below_step HBr.out HBgx.out | exact below_step (drb HBr.out) HBgx.out) (Nat.le_trans HBr.out.size (Nat.le_of_eq HGgx.out.symm))⟩⟩
  case rest =>
  obtain ⟨gl, rfl, GL, NRL, BR, BL, HB2⟩ := hcut
  clear BKgr HBr HBgr HB
  go_upto_if 30 with (fail)
  go_cut [9] (fun v9 wc => v9 = .int .i64 nu ∧ Aside0 (wc.heap[gr]? = some (.cells #[.int .i64 0, .int .i64 0, .int .i64 0, .int .i64 0, .int .i64 0, .int .i64 0, .int .i64 0] 23 (0, 0))) ∧ Aside0 (wc.heap[gl]? = some (.cells #[.int .i64 a0, .int .i64 a1, .int .i64 0, .int .i64 of, .int .i64 0, .int .i64 0, .int .i64 0] 23 (0, 0))) ∧ Aside0 (Below w.heap.size w wc))
  case first =>
    have NLR : gl ≠ gr := fun e => NRL.out e.symm
    have NRL1 := NRL.out
    have lc0 := (blk_cell BL.out 0).trans rfl
    have lc1 := (blk_cell BL.out 1).trans rfl
    have lc2 := (blk_cell BL.out 2).trans rfl
    have lc3 := (blk_cell BL.out 3).trans rfl
    have lc4 := (blk_cell BL.out 4).trans rfl
    have lc5 := (blk_cell BL.out 5).trans rfl
    have lc6 := (blk_cell BL.out 6).trans rfl
    have lf0 := blk_frozen BL.out 0
    have lf1 := blk_frozen BL.out 1
    have lf2 := blk_frozen BL.out 2
    have lf3 := blk_frozen BL.out 3
    have lf4 := blk_frozen BL.out 4
    have lf5 := blk_frozen BL.out 5
    have lf6 := blk_frozen BL.out 6
    by_cases c : a2 = true
    · subst c
      have e1 : of = (8 + a1 - 1) / a1 * a1 := by have := HOF.out; rw [if_pos rfl] at this; exact this
      have e2 : nu = a0 + of + 8 := by have := HNU.out; rw [if_pos rfl] at this; omega
      have U3 := Aside0.mk (e1 ▸ U1.out : wainscotref15_up.f 100 8 a1 = some of)
      clear e1
      go_wp2_with (go_at_call 19; (with_reducible refine (wainscotref15_up.calls 100 8 a1 of _ U3.out).mono ?_); rintro e w' ⟨rfl, ⟨nd, rfl⟩⟩)
      go_meet
      case rel => exact ⟨by first | rw [e2] | (simp [e2]; done), ⟨blk_far (dr BR.out) NRL1 _⟩, ⟨blk_put (cs := #[.int .i64 a0, .int .i64 a1, .int .i64 0, .int .i64 0, .int .i64 0, .int .i64 0, .int .i64 0]) (dr BL.out) 3 _ rfl⟩, ⟨below_set (drb HB2.out) GL.out⟩⟩
    · have c' : a2 = false := Bool.eq_false_iff.mpr c
      subst c'
      have e1 : of = 0 := by have := HOF.out; rw [if_neg c] at this; exact this
      have e2 : nu = a0 := by have := HNU.out; rw [if_neg c] at this; exact this
      go_wp2
      go_meet
      case rel => exact ⟨by rw [e2], BR, ⟨by rw [e1]; exact BL.out⟩, HB2⟩
  case rest =>
  clear BR BL HB2
  obtain ⟨rfl, BR, BL, HB3⟩ := hcut
  have NLR : gl ≠ gr := fun e => NRL.out e.symm
  have NRL1 := NRL.out
  have hmx : (if 8 < a1 then a1 else 8) = mm := HM.out.symm
  go_upto_region 8 with (fail)
  go_cut [9] (fun v9 wc => v9 = .int .i64 nu ∧ Aside0 (wc.heap[gr]? = some (.cells #[.int .i64 0, .int .i64 0, .int .i64 0, .int .i64 0, .int .i64 0, .int .i64 0, .int .i64 0] 23 (0, 0))) ∧ Aside0 (wc.heap[gl]? = some (.cells #[.int .i64 a0, .int .i64 a1, .int .i64 st, .int .i64 of, .int .i64 0, .int .i64 0, .int .i64 0] 23 (0, 0))) ∧ Aside0 (Below w.heap.size w wc))
  case first =>
    have lc0 := (blk_cell BL.out 0).trans rfl
    have lc1 := (blk_cell BL.out 1).trans rfl
    have lc2 := (blk_cell BL.out 2).trans rfl
    have lc3 := (blk_cell BL.out 3).trans rfl
    have lc4 := (blk_cell BL.out 4).trans rfl
    have lc5 := (blk_cell BL.out 5).trans rfl
    have lc6 := (blk_cell BL.out 6).trans rfl
    have lf0 := blk_frozen BL.out 0
    have lf1 := blk_frozen BL.out 1
    have lf2 := blk_frozen BL.out 2
    have lf3 := blk_frozen BL.out 3
    have lf4 := blk_frozen BL.out 4
    have lf5 := blk_frozen BL.out 5
    have lf6 := blk_frozen BL.out 6
    go_wp2_with (go_at_call 19; (with_reducible refine (wainscotref15_up.calls 100 nu mm st _ U2.out).mono ?_); rintro e w' ⟨rfl, ⟨nd, rfl⟩⟩)
    go_meet
    case rel => exact ⟨rfl, ⟨blk_far (dr BR.out) NRL1 _⟩, ⟨blk_put (cs := #[.int .i64 a0, .int .i64 a1, .int .i64 0, .int .i64 of, .int .i64 0, .int .i64 0, .int .i64 0]) (dr BL.out) 2 _ rfl⟩, ⟨below_set (drb HB3.out) GL.out⟩⟩
  case rest =>
  clear BR BL HB3
  obtain ⟨rfl, BR, BL, HB4⟩ := hcut
  clear hmx
  go_wp2
  go_loopg [10] 4 (fun kq v10 w' => ∃ (i : Int), v10 = .int .i64 i ∧ Aside0 (orFg a0 a1 st of (orFn a0 a1 st of (fn st 4 0)) (fg st kq i) = (r1, r2, r3, r4, r5, r6, r7, r8)) ∧ 0 ≤ i ∧ i + kq = 4 ∧ Aside0 (w'.heap[gr]? = some (.cells #[.int .i64 0, .int .i64 0, .int .i64 0, .int .i64 0, .int .i64 0, .int .i64 0, .int .i64 0] 23 (0, 0))) ∧ Aside0 (w'.heap[gl]? = some (.cells #[.int .i64 a0, .int .i64 a1, .int .i64 st, .int .i64 of, .int .i64 0, .int .i64 0, .int .i64 0] 23 (0, 0))) ∧ Aside0 (Below w.heap.size w w'))
  case atStart => exact ⟨0, rfl, H2, by omega, by omega, BR, BL, HB4⟩
  case round =>
    clear BR BL HB4 H2
    obtain ⟨i, rfl, HA, hi0, hik, BR, BL, HBl⟩ := hrel
    cases gk with
    | zero =>
      obtain rfl : i = 4 := by omega
      go_wp2
      go_loopg [12] 4 (fun kq v12 w' => ∃ (i : Int), v12 = .int .i64 i ∧ Aside0 (orFn a0 a1 st of (fn st kq i) = (r1, r2, r3, r4, r5, r6, r7, r8)) ∧ 0 ≤ i ∧ i + kq = 4 ∧ Aside0 (w'.heap[gr]? = some (.cells #[.int .i64 0, .int .i64 0, .int .i64 0, .int .i64 0, .int .i64 0, .int .i64 0, .int .i64 0] 23 (0, 0))) ∧ Aside0 (w'.heap[gl]? = some (.cells #[.int .i64 a0, .int .i64 a1, .int .i64 st, .int .i64 of, .int .i64 0, .int .i64 0, .int .i64 0] 23 (0, 0))) ∧ Aside0 (Below w.heap.size w w'))
      case atStart => exact ⟨0, rfl, HA, by omega, by omega, BR, BL, HBl⟩
      case round =>
        clear BR BL HBl HA hi0 hik
        obtain ⟨i, rfl, HA, hi0, hik, BR, BL, HBl⟩ := hrel
        cases gk with
        | zero =>
          obtain rfl : i = 4 := by omega
          have h3 := HA.out
          clear HA
          rw [fn] at h3
          simp only [orFn, Prod.mk.injEq] at h3
          obtain ⟨rfl, rfl, rfl, rfl, rfl, rfl, rfl, rfl⟩ := h3
          have rc0 := (blk_cell BR.out 0).trans rfl
          have rc1 := (blk_cell BR.out 1).trans rfl
          have rc2 := (blk_cell BR.out 2).trans rfl
          have rc3 := (blk_cell BR.out 3).trans rfl
          have rc4 := (blk_cell BR.out 4).trans rfl
          have rc5 := (blk_cell BR.out 5).trans rfl
          have rc6 := (blk_cell BR.out 6).trans rfl
          have rf0 := blk_frozen BR.out 0
          have rf1 := blk_frozen BR.out 1
          have rf2 := blk_frozen BR.out 2
          have rf3 := blk_frozen BR.out 3
          have rf4 := blk_frozen BR.out 4
          have rf5 := blk_frozen BR.out 5
          have rf6 := blk_frozen BR.out 6
          go_wp2
          refine bodyPost_ret (results_ct rfl _ _ gr 23 #[.int .i64 0, .int .i64 0, .int .i64 0, .int .i64 0, .int .i64 0, .int .i64 0, .int .i64 0] (0, 0) _ rfl (by first | exact put7 BR.out | exact put7 (dr BR.out)) Try.underlying23 rfl (by kernel_rfl)) rfl ?_
          exact ⟨rfl, by first | exact below7 HBl.out GR.out | exact below7 (drb HBl.out) GR.out⟩
        | succ k1 =>
          have h3 := HA.out
          clear HA
          rw [fn] at h3
          have hi4 : i < 4 := by omega
          have hob := layout_Of.ob_bounds hst0 hi0 hi4
          have hby := layout_Of.byt_cases hi0 hi4
          have HS := Aside0.mk (rSlab a0 a1 st of i hst0 hi0 hi4 10 (by omega))
          have hws : ws st i = byt i - ob st i * st := rfl
          obtain ⟨o, eo⟩ : ∃ o, o = ob st i := ⟨_, rfl⟩
          obtain ⟨z, ez⟩ : ∃ z, z = ws st i := ⟨_, rfl⟩
          obtain ⟨P, eP⟩ : ∃ P, P = byt i := ⟨_, rfl⟩
          have hlay : lay a0 a1 st of i = (a0, a1, st, of, i, o, z, 0) := by rw [eo, ez]; rfl
          have HL := Aside0.mk hlay
          rw [← eo, ← ez] at HS
          rw [← eo] at hob hws h3
          rw [← ez, ← eP] at hws
          rw [← eP] at hob hby
          skip
          clear eo ez eP hlay
          have hP1 := hby.2.1
          have hP2 := hby.2.2
          have ho0 := hob.1
          have ho1 := hob.2.1
          have hm0 := hob.2.2.1
          have hm1 := hob.2.2.2
          have hz0 : 0 ≤ z := by omega
          have hz1 : z ≤ 2048 := by omega
          have H3 := Aside0.mk h3
          have HBY := Aside0.mk hby.1
          have HW := Aside0.mk hws
          clear hob hby h3 hws
          go_upto_region 18 with (fail)
          go_cut [12, 13] (fun v12 v13 wc => ∃ gx : Nat, v12 = .int .i64 i ∧ v13 = .pointer (some ⟨gx, 0, none⟩) ∧ Aside0 (w.heap.size ≤ gx) ∧ Aside0 (gr ≠ gx) ∧ Aside0 (gl ≠ gx) ∧ Aside0 (wc.heap[gr]? = some (.cells #[.int .i64 0, .int .i64 0, .int .i64 0, .int .i64 0, .int .i64 0, .int .i64 0, .int .i64 0] 23 (0, 0))) ∧ Aside0 (wc.heap[gl]? = some (.cells #[.int .i64 a0, .int .i64 a1, .int .i64 st, .int .i64 of, .int .i64 0, .int .i64 0, .int .i64 0] 23 (0, 0))) ∧ Aside0 (wc.heap[gx]? = some (.cells #[.int .i64 a0, .int .i64 a1, .int .i64 st, .int .i64 of, .int .i64 i, .int .i64 o, .int .i64 z] 23 (0, 0))) ∧ Aside0 (Below w.heap.size w wc))
          case first =>
            have lc0 := (blk_cell BL.out 0).trans rfl
            have lc1 := (blk_cell BL.out 1).trans rfl
            have lc2 := (blk_cell BL.out 2).trans rfl
            have lc3 := (blk_cell BL.out 3).trans rfl
            have lc4 := (blk_cell BL.out 4).trans rfl
            have lc5 := (blk_cell BL.out 5).trans rfl
            have lc6 := (blk_cell BL.out 6).trans rfl
            have lf0 := blk_frozen BL.out 0
            have lf1 := blk_frozen BL.out 1
            have lf2 := blk_frozen BL.out 2
            have lf3 := blk_frozen BL.out 3
            have lf4 := blk_frozen BL.out 4
            have lf5 := blk_frozen BL.out 5
            have lf6 := blk_frozen BL.out 6
            go_wp2_with (first | (go_at_call 20; (with_reducible refine (wainscotref15_slab.calls 10 a0 a1 st of 0 0 0 i a0 a1 st of i o z _ HS.out).mono ?_); rintro e w3 ⟨rfl, hb⟩; have HBc := Aside0.mk hb; clear hb; have BRc := Aside0.mk (blk_below BR.out HBc.out); have BLc := Aside0.mk (blk_below BL.out HBc.out); have HBd := Aside0.mk (below_step HBl.out HBc.out)) | ((with_reducible refine gate_dst (N := 13) rfl ?_); refine box_event ?hg (N := 13) ?hd (cs := #[.int .i64 0, .int .i64 0, .int .i64 0, .int .i64 0, .int .i64 0, .int .i64 0, .int .i64 0]) (t := 23) ?hr ?_; (case hd => rfl); (case hg => rfl); (case hr => first | (go_simp; done) | (go_simp; rfl)); intro gx hg wgx hbox hb; have HGgx := Aside0.mk hg; have BKgx := Aside0.mk hbox; have HBgx := Aside0.mk hb; clear hg hbox hb; have gxc0 := (blk_cell BKgx.out 0).trans rfl; have gxc1 := (blk_cell BKgx.out 1).trans rfl; have gxc2 := (blk_cell BKgx.out 2).trans rfl; have gxc3 := (blk_cell BKgx.out 3).trans rfl; have gxc4 := (blk_cell BKgx.out 4).trans rfl; have gxc5 := (blk_cell BKgx.out 5).trans rfl; have gxc6 := (blk_cell BKgx.out 6).trans rfl; have gxf0 := blk_frozen BKgx.out 0; have gxf1 := blk_frozen BKgx.out 1; have gxf2 := blk_frozen BKgx.out 2; have gxf3 := blk_frozen BKgx.out 3; have gxf4 := blk_frozen BKgx.out 4; have gxf5 := blk_frozen BKgx.out 5; have gxf6 := blk_frozen BKgx.out 6; have BRx := Aside0.mk (blk_below BRc.out HBgx.out); have BLx := Aside0.mk (blk_below BLc.out HBgx.out); have HBx := Aside0.mk (below_step HBd.out HBgx.out); have GX := Aside0.mk (Nat.le_trans HBd.out.size (Nat.le_of_eq HGgx.out.symm)); have NRX1 : gr ≠ gx := Nat.ne_of_lt (HGgx.out ▸ blk_lt BRc.out); have NLX1 : gl ≠ gx := Nat.ne_of_lt (HGgx.out ▸ blk_lt BLc.out)))
            go_meet
            case rel => exact ⟨gx, rfl, rfl, GX, ⟨NRX1⟩, ⟨NLX1⟩, ⟨far7 NRX1 BRx.out⟩, ⟨far7 NLX1 BLx.out⟩, ⟨put7 BKgx.out⟩, ⟨below7 HBx.out GX.out⟩⟩
          case rest =>
          clear BR BL HBl
          obtain ⟨gx, rfl, rfl, GX, NRX, NLX, BR, BL, BX, HBx⟩ := hcut
          have NRX1 := NRX.out
          have NXR1 : gx ≠ gr := fun e => NRX.out e.symm
          have xc0 := (blk_cell BX.out 0).trans rfl
          have xc1 := (blk_cell BX.out 1).trans rfl
          have xc2 := (blk_cell BX.out 2).trans rfl
          have xc3 := (blk_cell BX.out 3).trans rfl
          have xc4 := (blk_cell BX.out 4).trans rfl
          have xc5 := (blk_cell BX.out 5).trans rfl
          have xc6 := (blk_cell BX.out 6).trans rfl
          have xf0 := blk_frozen BX.out 0
          have xf1 := blk_frozen BX.out 1
          have xf2 := blk_frozen BX.out 2
          have xf3 := blk_frozen BX.out 3
          have xf4 := blk_frozen BX.out 4
          have xf5 := blk_frozen BX.out 5
          have xf6 := blk_frozen BX.out 6
          have rc0 := (blk_cell BR.out 0).trans rfl
          have rc1 := (blk_cell BR.out 1).trans rfl
          have rc2 := (blk_cell BR.out 2).trans rfl
          have rc3 := (blk_cell BR.out 3).trans rfl
          have rc4 := (blk_cell BR.out 4).trans rfl
          have rc5 := (blk_cell BR.out 5).trans rfl
          have rc6 := (blk_cell BR.out 6).trans rfl
          have rf0 := blk_frozen BR.out 0
          have rf1 := blk_frozen BR.out 1
          have rf2 := blk_frozen BR.out 2
          have rf3 := blk_frozen BR.out 3
          have rf4 := blk_frozen BR.out 4
          have rf5 := blk_frozen BR.out 5
          have rf6 := blk_frozen BR.out 6
          by_cases c1 : o = 0
          · have h3 := H3.out
            rw [if_pos c1] at h3
            have c1b : decide (o > 0) = false := decide_eq_false (by omega)
            go_wp2
            go_roundg k1
            case measure => omega
            case rel => exact ⟨i + 1, rfl, ⟨h3⟩, by omega, by omega, BR, BL, HBx⟩
          · have h3 := H3.out
            rw [if_neg c1] at h3
            have c1b : decide (o > 0) = true := decide_eq_true (by omega)
            have h4 := HL.out.symm.trans h3
            simp only [Prod.mk.injEq] at h4
            obtain ⟨rfl, rfl, rfl, rfl, rfl, rfl, rfl, rfl⟩ := h4
            go_wp2
            refine bodyPost_ret (results_ct rfl _ _ gr 23 #[.int .i64 a0, .int .i64 a1, .int .i64 st, .int .i64 of, .int .i64 i, .int .i64 o, .int .i64 z] (0, 0) _ rfl (by first | exact put7 BR.out | exact put7 (dr BR.out)) Try.underlying23 rfl (by kernel_rfl)) rfl ?_
            exact ⟨rfl, by first | exact below7 HBx.out GR.out | exact below7 (drb HBx.out) GR.out⟩
    | succ k1 =>
      have h3 := HA.out
      clear HA
      rw [fg] at h3
      have hi4 : i < 4 := by omega
      have hob := layout_Of.ob_bounds hst0 hi0 hi4
      have hby := layout_Of.byt_cases hi0 hi4
      have HS := Aside0.mk (rSlab a0 a1 st of i hst0 hi0 hi4 10 (by omega))
      have hws : ws st i = byt i - ob st i * st := rfl
      obtain ⟨o, eo⟩ : ∃ o, o = ob st i := ⟨_, rfl⟩
      obtain ⟨z, ez⟩ : ∃ z, z = ws st i := ⟨_, rfl⟩
      obtain ⟨P, eP⟩ : ∃ P, P = byt i := ⟨_, rfl⟩
      have hlay : lay a0 a1 st of i = (a0, a1, st, of, i, o, z, 0) := by rw [eo, ez]; rfl
      have HL := Aside0.mk hlay
      rw [← eo, ← ez] at HS
      rw [← eo] at hob hws h3
      rw [← ez, ← eP] at hws
      rw [← eP] at hob hby
      rw [← ez, ← eP] at h3
      clear eo ez eP hlay
      have hP1 := hby.2.1
      have hP2 := hby.2.2
      have ho0 := hob.1
      have ho1 := hob.2.1
      have hm0 := hob.2.2.1
      have hm1 := hob.2.2.2
      have hz0 : 0 ≤ z := by omega
      have hz1 : z ≤ 2048 := by omega
      have H3 := Aside0.mk h3
      have HBY := Aside0.mk hby.1
      have HW := Aside0.mk hws
      clear hob hby h3 hws
      go_upto_region 12 with (fail)
      go_cut [10, 11] (fun v10 v11 wc => ∃ gx : Nat, v10 = .int .i64 i ∧ v11 = .pointer (some ⟨gx, 0, none⟩) ∧ Aside0 (w.heap.size ≤ gx) ∧ Aside0 (gr ≠ gx) ∧ Aside0 (gl ≠ gx) ∧ Aside0 (wc.heap[gr]? = some (.cells #[.int .i64 0, .int .i64 0, .int .i64 0, .int .i64 0, .int .i64 0, .int .i64 0, .int .i64 0] 23 (0, 0))) ∧ Aside0 (wc.heap[gl]? = some (.cells #[.int .i64 a0, .int .i64 a1, .int .i64 st, .int .i64 of, .int .i64 0, .int .i64 0, .int .i64 0] 23 (0, 0))) ∧ Aside0 (wc.heap[gx]? = some (.cells #[.int .i64 a0, .int .i64 a1, .int .i64 st, .int .i64 of, .int .i64 i, .int .i64 o, .int .i64 z] 23 (0, 0))) ∧ Aside0 (Below w.heap.size w wc))
      case first =>
        have lc0 := (blk_cell BL.out 0).trans rfl
        have lc1 := (blk_cell BL.out 1).trans rfl
        have lc2 := (blk_cell BL.out 2).trans rfl
        have lc3 := (blk_cell BL.out 3).trans rfl
        have lc4 := (blk_cell BL.out 4).trans rfl
        have lc5 := (blk_cell BL.out 5).trans rfl
        have lc6 := (blk_cell BL.out 6).trans rfl
        have lf0 := blk_frozen BL.out 0
        have lf1 := blk_frozen BL.out 1
        have lf2 := blk_frozen BL.out 2
        have lf3 := blk_frozen BL.out 3
        have lf4 := blk_frozen BL.out 4
        have lf5 := blk_frozen BL.out 5
        have lf6 := blk_frozen BL.out 6
        go_wp2_with (first | (go_at_call 20; (with_reducible refine (wainscotref15_slab.calls 10 a0 a1 st of 0 0 0 i a0 a1 st of i o z _ HS.out).mono ?_); rintro e w3 ⟨rfl, hb⟩; have HBc := Aside0.mk hb; clear hb; have BRc := Aside0.mk (blk_below BR.out HBc.out); have BLc := Aside0.mk (blk_below BL.out HBc.out); have HBd := Aside0.mk (below_step HBl.out HBc.out)) | ((with_reducible refine gate_dst (N := 11) rfl ?_); refine box_event ?hg (N := 11) ?hd (cs := #[.int .i64 0, .int .i64 0, .int .i64 0, .int .i64 0, .int .i64 0, .int .i64 0, .int .i64 0]) (t := 23) ?hr ?_; (case hd => rfl); (case hg => rfl); (case hr => first | (go_simp; done) | (go_simp; rfl)); intro gx hg wgx hbox hb; have HGgx := Aside0.mk hg; have BKgx := Aside0.mk hbox; have HBgx := Aside0.mk hb; clear hg hbox hb; have gxc0 := (blk_cell BKgx.out 0).trans rfl; have gxc1 := (blk_cell BKgx.out 1).trans rfl; have gxc2 := (blk_cell BKgx.out 2).trans rfl; have gxc3 := (blk_cell BKgx.out 3).trans rfl; have gxc4 := (blk_cell BKgx.out 4).trans rfl; have gxc5 := (blk_cell BKgx.out 5).trans rfl; have gxc6 := (blk_cell BKgx.out 6).trans rfl; have gxf0 := blk_frozen BKgx.out 0; have gxf1 := blk_frozen BKgx.out 1; have gxf2 := blk_frozen BKgx.out 2; have gxf3 := blk_frozen BKgx.out 3; have gxf4 := blk_frozen BKgx.out 4; have gxf5 := blk_frozen BKgx.out 5; have gxf6 := blk_frozen BKgx.out 6; have BRx := Aside0.mk (blk_below BRc.out HBgx.out); have BLx := Aside0.mk (blk_below BLc.out HBgx.out); have HBx := Aside0.mk (below_step HBd.out HBgx.out); have GX := Aside0.mk (Nat.le_trans HBd.out.size (Nat.le_of_eq HGgx.out.symm)); have NRX1 : gr ≠ gx := Nat.ne_of_lt (HGgx.out ▸ blk_lt BRc.out); have NLX1 : gl ≠ gx := Nat.ne_of_lt (HGgx.out ▸ blk_lt BLc.out)))
        go_meet
        case rel => exact ⟨gx, rfl, rfl, GX, ⟨NRX1⟩, ⟨NLX1⟩, ⟨far7 NRX1 BRx.out⟩, ⟨far7 NLX1 BLx.out⟩, ⟨put7 BKgx.out⟩, ⟨below7 HBx.out GX.out⟩⟩
      case rest =>
      clear BR BL HBl
      obtain ⟨gx, rfl, rfl, GX, NRX, NLX, BR, BL, BX, HBx⟩ := hcut
      have NRX1 := NRX.out
      have NXR1 : gx ≠ gr := fun e => NRX.out e.symm
      have xc0 := (blk_cell BX.out 0).trans rfl
      have xc1 := (blk_cell BX.out 1).trans rfl
      have xc2 := (blk_cell BX.out 2).trans rfl
      have xc3 := (blk_cell BX.out 3).trans rfl
      have xc4 := (blk_cell BX.out 4).trans rfl
      have xc5 := (blk_cell BX.out 5).trans rfl
      have xc6 := (blk_cell BX.out 6).trans rfl
      have xf0 := blk_frozen BX.out 0
      have xf1 := blk_frozen BX.out 1
      have xf2 := blk_frozen BX.out 2
      have xf3 := blk_frozen BX.out 3
      have xf4 := blk_frozen BX.out 4
      have xf5 := blk_frozen BX.out 5
      have xf6 := blk_frozen BX.out 6
      have rc0 := (blk_cell BR.out 0).trans rfl
      have rc1 := (blk_cell BR.out 1).trans rfl
      have rc2 := (blk_cell BR.out 2).trans rfl
      have rc3 := (blk_cell BR.out 3).trans rfl
      have rc4 := (blk_cell BR.out 4).trans rfl
      have rc5 := (blk_cell BR.out 5).trans rfl
      have rc6 := (blk_cell BR.out 6).trans rfl
      have rf0 := blk_frozen BR.out 0
      have rf1 := blk_frozen BR.out 1
      have rf2 := blk_frozen BR.out 2
      have rf3 := blk_frozen BR.out 3
      have rf4 := blk_frozen BR.out 4
      have rf5 := blk_frozen BR.out 5
      have rf6 := blk_frozen BR.out 6
      go_upto_region 13 with (fail)
      go_cut [67] (fun v67 wq => v67 = .bool (decide (o ≠ 0 ∧ z * 8 ≤ P)) ∧ Aside0 (wq.heap[gr]? = some (.cells #[.int .i64 0, .int .i64 0, .int .i64 0, .int .i64 0, .int .i64 0, .int .i64 0, .int .i64 0] 23 (0, 0))) ∧ Aside0 (wq.heap[gl]? = some (.cells #[.int .i64 a0, .int .i64 a1, .int .i64 st, .int .i64 of, .int .i64 0, .int .i64 0, .int .i64 0] 23 (0, 0))) ∧ Aside0 (wq.heap[gx]? = some (.cells #[.int .i64 a0, .int .i64 a1, .int .i64 st, .int .i64 of, .int .i64 i, .int .i64 o, .int .i64 z] 23 (0, 0))) ∧ Aside0 (Below w.heap.size w wq))
      case first =>
        have eP : z + o * st = P := by have := HW.out; omega
        by_cases c1 : o = 0
        · have c1b : decide (o > 0) = false := decide_eq_false (by omega)
          have c3 : decide (o ≠ 0 ∧ z * 8 ≤ P) = false := decide_eq_false (fun h => h.1 c1)
          go_wp2
          go_meet
          case rel => exact ⟨by rw [c3], BR, BL, BX, HBx⟩
        · have c1b : decide (o > 0) = true := decide_eq_true (by omega)
          have c3 : decide (o ≠ 0 ∧ z * 8 ≤ P) = decide (z * 8 ≤ P) := decide_eq_decide.2 ⟨fun h => h.2, fun h => ⟨c1, h⟩⟩
          go_wp2
          go_meet
          case rel => exact ⟨by rw [c3, ← eP], BR, BL, BX, HBx⟩
      case rest =>
      clear BR BL BX HBx xc0 xc1 xc2 xc3 xc4 xc5 xc6 xf0 xf1 xf2 xf3 xf4 xf5 xf6 rc0 rc1 rc2 rc3 rc4 rc5 rc6 rf0 rf1 rf2 rf3 rf4 rf5 rf6
      obtain ⟨rfl, BR, BL, BX, HBx⟩ := hcut
      have xc0 := (blk_cell BX.out 0).trans rfl
      have xc1 := (blk_cell BX.out 1).trans rfl
      have xc2 := (blk_cell BX.out 2).trans rfl
      have xc3 := (blk_cell BX.out 3).trans rfl
      have xc4 := (blk_cell BX.out 4).trans rfl
      have xc5 := (blk_cell BX.out 5).trans rfl
      have xc6 := (blk_cell BX.out 6).trans rfl
      have xf0 := blk_frozen BX.out 0
      have xf1 := blk_frozen BX.out 1
      have xf2 := blk_frozen BX.out 2
      have xf3 := blk_frozen BX.out 3
      have xf4 := blk_frozen BX.out 4
      have xf5 := blk_frozen BX.out 5
      have xf6 := blk_frozen BX.out 6
      have rc0 := (blk_cell BR.out 0).trans rfl
      have rc1 := (blk_cell BR.out 1).trans rfl
      have rc2 := (blk_cell BR.out 2).trans rfl
      have rc3 := (blk_cell BR.out 3).trans rfl
      have rc4 := (blk_cell BR.out 4).trans rfl
      have rc5 := (blk_cell BR.out 5).trans rfl
      have rc6 := (blk_cell BR.out 6).trans rfl
      have rf0 := blk_frozen BR.out 0
      have rf1 := blk_frozen BR.out 1
      have rf2 := blk_frozen BR.out 2
      have rf3 := blk_frozen BR.out 3
      have rf4 := blk_frozen BR.out 4
      have rf5 := blk_frozen BR.out 5
      have rf6 := blk_frozen BR.out 6
      have h3 := H3.out
      by_cases c2 : o ≠ 0 ∧ z * 8 ≤ P
      · rw [if_neg c2.1, if_pos c2.2] at h3
        have c2b : decide (o ≠ 0 ∧ z * 8 ≤ P) = true := decide_eq_true c2
        rw [c2b]
        have h4 := HL.out.symm.trans h3
        simp only [Prod.mk.injEq] at h4
        obtain ⟨rfl, rfl, rfl, rfl, rfl, rfl, rfl, rfl⟩ := h4
        go_wp2
        refine bodyPost_ret (results_ct rfl _ _ gr 23 #[.int .i64 a0, .int .i64 a1, .int .i64 st, .int .i64 of, .int .i64 i, .int .i64 o, .int .i64 z] (0, 0) _ rfl (by first | exact put7 BR.out | exact put7 (dr BR.out)) Try.underlying23 rfl (by kernel_rfl)) rfl ?_
        exact ⟨rfl, by first | exact below7 HBx.out GR.out | exact below7 (drb HBx.out) GR.out⟩
      · have c2b : decide (o ≠ 0 ∧ z * 8 ≤ P) = false := decide_eq_false c2
        rw [c2b]
        have h4 : orFg a0 a1 st of (orFn a0 a1 st of (fn st 4 0)) (fg st k1 (i + 1)) = (r1, r2, r3, r4, r5, r6, r7, r8) := by
          by_cases c1 : o = 0
          · rw [if_pos c1] at h3; exact h3
          · rw [if_neg c1, if_neg (fun h => c2 ⟨c1, h⟩)] at h3; exact h3
        clear c2 h3
        go_wp2
        go_roundg k1
        case measure => omega
        case rel => exact ⟨i + 1, rfl, ⟨h4⟩, by omega, by omega, BR, BL, HBx⟩
end RefOf


/-! ### wainscotlaw15_works: function 10: given, by hand -/
set_option maxHeartbeats 8000000 in
set_option maxRecDepth 100000 in
theorem wainscotlaw15_works.leaf (w : World)
    (A10 : (layout_Of.f 24 8 false) = some (24, 8, 24, 0, 0, 10, 16, 0)) (A20 : (layout_Of.f 100 8 false) = some (100, 8, 104, 0, 2, 9, 88, 0)) (A30 : (layout_Of.f 8 1 true) = some (8, 1, 24, 8, 0, 10, 16, 0)) (A40 : (layout_Of.f 2048 1 true) = some (0, 0, 0, 0, 0, 0, 0, 150)) (A50 : (layout_Of.f 0 1 false) = some (0, 0, 0, 0, 0, 0, 0, 2)) (A60 : (layout_Of.f 8 3 false) = some (0, 0, 0, 0, 0, 0, 0, 2)) :
    Calls Try.prog 10 #[] w fun e w' => e = .returned (.bool true) ∧ Below w.heap.size w w' := by
  have hu23 := Try.underlying23
  have HB := Aside0.mk (Below.refl w.heap.size w)
  have A1 := Aside0.mk A10
  clear A10
  have A2 := Aside0.mk A20
  clear A20
  have A3 := Aside0.mk A30
  clear A30
  have A4 := Aside0.mk A40
  clear A40
  have A5 := Aside0.mk A50
  clear A50
  have A6 := Aside0.mk A60
  clear A60
  go_enter Try.func10, Try.ntmps10
  go_wp2_with (first | ((with_reducible refine gate_callee (f := 8) rfl ?_); refine goesL_ (some 14) rfl rfl Try.func8 (by kernel_rfl) rfl #[.int .i64 24, .int .i64 8, .bool false] rfl (by (try simp only [List.map_toArray, List.map_cons, List.map_nil]); first | done | rfl | (simp only [List.length_drop, List.length_take]; rfl)) ?_; (with_reducible refine (layout_Of.calls 24 8 false 24 8 24 0 0 10 16 0 _ A1.out).mono ?_); rintro e w15 ⟨rfl, hb⟩; refine ⟨_, rfl, ?_⟩; have n0_ := Aside0.mk (below_step (by repeat (first | (with_reducible first | exact HB.out | apply below_alloc | apply pw_below_drewN | apply below_drew1) | exact HB.out)) hb); clear HB; have HB := n0_; clear n0_; (try clear hb); (try clear hb2); (try clear hk); (try clear hi)) | ((with_reducible refine gate_dst (N := 1) rfl ?_); refine box_event ?hg (N := 1) ?hd (cs := #[.int .i64 0, .int .i64 0, .int .i64 0, .int .i64 0, .int .i64 0, .int .i64 0, .int .i64 0]) (t := 23) ?hr ?_; (case hd => rfl); (case hg => rfl); (case hr => first | (go_simp; done) | (go_simp; rfl)); intro gb147 hg w16 hbox hb; have n0_ := Aside0.mk (below_step (by repeat (first | (with_reducible first | exact HB.out | apply below_alloc | apply pw_below_drewN | apply below_drew1) | exact HB.out)) hb); have n1_ := Aside0.mk (hbox); have n2_ := Aside0.mk ((by rw [hg]; exact (below_size (by repeat (first | (with_reducible first | exact HB.out | apply below_alloc | apply pw_below_drewN | apply below_drew1) | exact HB.out))) : w.heap.size ≤ gb147)); have n3_ := Aside0.mk ((by rw [hg]; exact (below_size (by repeat (first | (with_reducible first | exact HB.out | apply below_alloc | apply pw_below_drewN | apply below_drew1) | exact HB.out))) : w.heap.size ≤ gb147)); clear HB; have HB := n0_; have BK147 := n1_; have GW147 := n2_; have GE147 := n3_; clear n0_ n1_ n2_ n3_; clear hb hbox hg; have hcz17_0 : w16.cell? ⟨gb147, 0, none⟩ = some (.int .i64 0) := (blk_cell BK147.out 0).trans rfl; have hcz17_1 : w16.cell? ⟨gb147, 1, none⟩ = some (.int .i64 0) := (blk_cell BK147.out 1).trans rfl; have hcz17_2 : w16.cell? ⟨gb147, 2, none⟩ = some (.int .i64 0) := (blk_cell BK147.out 2).trans rfl; have hcz17_3 : w16.cell? ⟨gb147, 3, none⟩ = some (.int .i64 0) := (blk_cell BK147.out 3).trans rfl; have hcz17_4 : w16.cell? ⟨gb147, 4, none⟩ = some (.int .i64 0) := (blk_cell BK147.out 4).trans rfl; have hcz17_5 : w16.cell? ⟨gb147, 5, none⟩ = some (.int .i64 0) := (blk_cell BK147.out 5).trans rfl; have hcz17_6 : w16.cell? ⟨gb147, 6, none⟩ = some (.int .i64 0) := (blk_cell BK147.out 6).trans rfl; have hfz17_0 := blk_frozen BK147.out 0; have hfz17_1 := blk_frozen BK147.out 1; have hfz17_2 := blk_frozen BK147.out 2; have hfz17_3 := blk_frozen BK147.out 3; have hfz17_4 := blk_frozen BK147.out 4; have hfz17_5 := blk_frozen BK147.out 5; have hfz17_6 := blk_frozen BK147.out 6) | ((with_reducible refine gate_callee (f := 8) rfl ?_); refine goesL_ (some 18) rfl rfl Try.func8 (by kernel_rfl) rfl #[.int .i64 100, .int .i64 8, .bool false] rfl (by (try simp only [List.map_toArray, List.map_cons, List.map_nil]); first | done | rfl | (simp only [List.length_drop, List.length_take]; rfl)) ?_; (with_reducible refine (layout_Of.calls 100 8 false 100 8 104 0 2 9 88 0 _ A2.out).mono ?_); rintro e w18 ⟨rfl, hb⟩; refine ⟨_, rfl, ?_⟩; have n0_ := Aside0.mk (blk_below (g := gb147) (o := .cells #[.int .i64 24, .int .i64 8, .int .i64 24, .int .i64 0, .int .i64 0, .int .i64 10, .int .i64 16] 23 (0, 0)) (by (with_reducible repeat (first | refine blk_drewN ?_ _ | refine blk_drew ?_ | refine blk_alloc ?_ _)); refine blk_put (cs := #[.int .i64 24, .int .i64 8, .int .i64 24, .int .i64 0, .int .i64 0, .int .i64 10, .int .i64 0]) ?_ 6 _ rfl; (with_reducible repeat (first | refine blk_drewN ?_ _ | refine blk_drew ?_ | refine blk_alloc ?_ _)); refine blk_put (cs := #[.int .i64 24, .int .i64 8, .int .i64 24, .int .i64 0, .int .i64 0, .int .i64 0, .int .i64 0]) ?_ 5 _ rfl; (with_reducible repeat (first | refine blk_drewN ?_ _ | refine blk_drew ?_ | refine blk_alloc ?_ _)); refine blk_put (cs := #[.int .i64 24, .int .i64 8, .int .i64 24, .int .i64 0, .int .i64 0, .int .i64 0, .int .i64 0]) ?_ 4 _ rfl; (with_reducible repeat (first | refine blk_drewN ?_ _ | refine blk_drew ?_ | refine blk_alloc ?_ _)); refine blk_put (cs := #[.int .i64 24, .int .i64 8, .int .i64 24, .int .i64 0, .int .i64 0, .int .i64 0, .int .i64 0]) ?_ 3 _ rfl; (with_reducible repeat (first | refine blk_drewN ?_ _ | refine blk_drew ?_ | refine blk_alloc ?_ _)); refine blk_put (cs := #[.int .i64 24, .int .i64 8, .int .i64 0, .int .i64 0, .int .i64 0, .int .i64 0, .int .i64 0]) ?_ 2 _ rfl; (with_reducible repeat (first | refine blk_drewN ?_ _ | refine blk_drew ?_ | refine blk_alloc ?_ _)); refine blk_put (cs := #[.int .i64 24, .int .i64 0, .int .i64 0, .int .i64 0, .int .i64 0, .int .i64 0, .int .i64 0]) ?_ 1 _ rfl; (with_reducible repeat (first | refine blk_drewN ?_ _ | refine blk_drew ?_ | refine blk_alloc ?_ _)); refine blk_put (cs := #[.int .i64 0, .int .i64 0, .int .i64 0, .int .i64 0, .int .i64 0, .int .i64 0, .int .i64 0]) ?_ 0 _ rfl; (with_reducible repeat (first | refine blk_drewN ?_ _ | refine blk_drew ?_ | refine blk_alloc ?_ _)); exact BK147.out) hb); have n1_ := Aside0.mk (below_step (by repeat (first | (with_reducible first | exact HB.out | apply below_alloc | apply pw_below_drewN | apply below_drew1 | refine below_set ?_ GE147.out) | exact HB.out)) hb); clear BK147; clear HB; have BK147 := n0_; have HB := n1_; clear n0_ n1_; (try clear hb); (try clear hb2); (try clear hk); (try clear hi)) | ((with_reducible refine gate_dst (N := 3) rfl ?_); refine box_event ?hg (N := 3) ?hd (cs := #[.int .i64 0, .int .i64 0, .int .i64 0, .int .i64 0, .int .i64 0, .int .i64 0, .int .i64 0]) (t := 23) ?hr ?_; (case hd => rfl); (case hg => rfl); (case hr => first | (go_simp; done) | (go_simp; rfl)); intro gb156 hg w19 hbox hb; have n0_ := Aside0.mk (blk_below (g := gb147) (o := .cells #[.int .i64 24, .int .i64 8, .int .i64 24, .int .i64 0, .int .i64 0, .int .i64 10, .int .i64 16] 23 (0, 0)) (by (with_reducible repeat (first | refine blk_drewN ?_ _ | refine blk_drew ?_ | refine blk_alloc ?_ _)); exact BK147.out) hb); have n1_ := Aside0.mk (below_step (by repeat (first | (with_reducible first | exact HB.out | apply below_alloc | apply pw_below_drewN | apply below_drew1 | refine below_set ?_ GE147.out) | exact HB.out)) hb); have n2_ := Aside0.mk (hbox); have n3_ := Aside0.mk ((by rw [hg]; exact (below_size (by repeat (first | (with_reducible first | exact HB.out | apply below_alloc | apply pw_below_drewN | apply below_drew1 | refine below_set ?_ GE147.out) | exact HB.out))) : w.heap.size ≤ gb156)); have n4_ := Aside0.mk ((by rw [hg]; exact (below_size (by repeat (first | (with_reducible first | exact HB.out | apply below_alloc | apply pw_below_drewN | apply below_drew1 | refine below_set ?_ GE147.out) | exact HB.out))) : w.heap.size ≤ gb156)); have n5_ := Aside0.mk ((by rw [hg]; exact Nat.ne_of_lt (blk_lt (g := gb147) (o := .cells #[.int .i64 24, .int .i64 8, .int .i64 24, .int .i64 0, .int .i64 0, .int .i64 10, .int .i64 16] 23 (0, 0)) (by (with_reducible repeat (first | refine blk_drewN ?_ _ | refine blk_drew ?_ | refine blk_alloc ?_ _)); exact BK147.out)) : gb147 ≠ gb156)); have n6_ := Aside0.mk ((by rw [hg]; exact Nat.ne_of_gt (blk_lt (g := gb147) (o := .cells #[.int .i64 24, .int .i64 8, .int .i64 24, .int .i64 0, .int .i64 0, .int .i64 10, .int .i64 16] 23 (0, 0)) (by (with_reducible repeat (first | refine blk_drewN ?_ _ | refine blk_drew ?_ | refine blk_alloc ?_ _)); exact BK147.out)) : gb156 ≠ gb147)); clear BK147; clear HB; have BK147 := n0_; have HB := n1_; have BK156 := n2_; have GW156 := n3_; have GE156 := n4_; have NB147_156 := n5_; have NB156_147 := n6_; clear n0_ n1_ n2_ n3_ n4_ n5_ n6_; clear hb hbox hg; have hnb20 := NB156_147.out; have hnc20 := NB147_156.out; have hcz21_0 : w19.cell? ⟨gb156, 0, none⟩ = some (.int .i64 0) := (blk_cell BK156.out 0).trans rfl; have hcz21_1 : w19.cell? ⟨gb156, 1, none⟩ = some (.int .i64 0) := (blk_cell BK156.out 1).trans rfl; have hcz21_2 : w19.cell? ⟨gb156, 2, none⟩ = some (.int .i64 0) := (blk_cell BK156.out 2).trans rfl; have hcz21_3 : w19.cell? ⟨gb156, 3, none⟩ = some (.int .i64 0) := (blk_cell BK156.out 3).trans rfl; have hcz21_4 : w19.cell? ⟨gb156, 4, none⟩ = some (.int .i64 0) := (blk_cell BK156.out 4).trans rfl; have hcz21_5 : w19.cell? ⟨gb156, 5, none⟩ = some (.int .i64 0) := (blk_cell BK156.out 5).trans rfl; have hcz21_6 : w19.cell? ⟨gb156, 6, none⟩ = some (.int .i64 0) := (blk_cell BK156.out 6).trans rfl; have hfz21_0 := blk_frozen BK156.out 0; have hfz21_1 := blk_frozen BK156.out 1; have hfz21_2 := blk_frozen BK156.out 2; have hfz21_3 := blk_frozen BK156.out 3; have hfz21_4 := blk_frozen BK156.out 4; have hfz21_5 := blk_frozen BK156.out 5; have hfz21_6 := blk_frozen BK156.out 6) | ((with_reducible refine gate_callee (f := 8) rfl ?_); refine goesL_ (some 22) rfl rfl Try.func8 (by kernel_rfl) rfl #[.int .i64 8, .int .i64 1, .bool true] rfl (by (try simp only [List.map_toArray, List.map_cons, List.map_nil]); first | done | rfl | (simp only [List.length_drop, List.length_take]; rfl)) ?_; (with_reducible refine (layout_Of.calls 8 1 true 8 1 24 8 0 10 16 0 _ A3.out).mono ?_); rintro e w22 ⟨rfl, hb⟩; refine ⟨_, rfl, ?_⟩; have n0_ := Aside0.mk (blk_below (g := gb147) (o := .cells #[.int .i64 24, .int .i64 8, .int .i64 24, .int .i64 0, .int .i64 0, .int .i64 10, .int .i64 16] 23 (0, 0)) (by (with_reducible repeat (first | refine blk_drewN ?_ _ | refine blk_drew ?_ | refine blk_alloc ?_ _)); refine blk_far ?_ NB147_156.out _; (with_reducible repeat (first | refine blk_drewN ?_ _ | refine blk_drew ?_ | refine blk_alloc ?_ _)); refine blk_far ?_ NB147_156.out _; (with_reducible repeat (first | refine blk_drewN ?_ _ | refine blk_drew ?_ | refine blk_alloc ?_ _)); refine blk_far ?_ NB147_156.out _; (with_reducible repeat (first | refine blk_drewN ?_ _ | refine blk_drew ?_ | refine blk_alloc ?_ _)); refine blk_far ?_ NB147_156.out _; (with_reducible repeat (first | refine blk_drewN ?_ _ | refine blk_drew ?_ | refine blk_alloc ?_ _)); refine blk_far ?_ NB147_156.out _; (with_reducible repeat (first | refine blk_drewN ?_ _ | refine blk_drew ?_ | refine blk_alloc ?_ _)); refine blk_far ?_ NB147_156.out _; (with_reducible repeat (first | refine blk_drewN ?_ _ | refine blk_drew ?_ | refine blk_alloc ?_ _)); refine blk_far ?_ NB147_156.out _; (with_reducible repeat (first | refine blk_drewN ?_ _ | refine blk_drew ?_ | refine blk_alloc ?_ _)); exact BK147.out) hb); have n1_ := Aside0.mk (blk_below (g := gb156) (o := .cells #[.int .i64 100, .int .i64 8, .int .i64 104, .int .i64 0, .int .i64 2, .int .i64 9, .int .i64 88] 23 (0, 0)) (by (with_reducible repeat (first | refine blk_drewN ?_ _ | refine blk_drew ?_ | refine blk_alloc ?_ _)); refine blk_put (cs := #[.int .i64 100, .int .i64 8, .int .i64 104, .int .i64 0, .int .i64 2, .int .i64 9, .int .i64 0]) ?_ 6 _ rfl; (with_reducible repeat (first | refine blk_drewN ?_ _ | refine blk_drew ?_ | refine blk_alloc ?_ _)); refine blk_put (cs := #[.int .i64 100, .int .i64 8, .int .i64 104, .int .i64 0, .int .i64 2, .int .i64 0, .int .i64 0]) ?_ 5 _ rfl; (with_reducible repeat (first | refine blk_drewN ?_ _ | refine blk_drew ?_ | refine blk_alloc ?_ _)); refine blk_put (cs := #[.int .i64 100, .int .i64 8, .int .i64 104, .int .i64 0, .int .i64 0, .int .i64 0, .int .i64 0]) ?_ 4 _ rfl; (with_reducible repeat (first | refine blk_drewN ?_ _ | refine blk_drew ?_ | refine blk_alloc ?_ _)); refine blk_put (cs := #[.int .i64 100, .int .i64 8, .int .i64 104, .int .i64 0, .int .i64 0, .int .i64 0, .int .i64 0]) ?_ 3 _ rfl; (with_reducible repeat (first | refine blk_drewN ?_ _ | refine blk_drew ?_ | refine blk_alloc ?_ _)); refine blk_put (cs := #[.int .i64 100, .int .i64 8, .int .i64 0, .int .i64 0, .int .i64 0, .int .i64 0, .int .i64 0]) ?_ 2 _ rfl; (with_reducible repeat (first | refine blk_drewN ?_ _ | refine blk_drew ?_ | refine blk_alloc ?_ _)); refine blk_put (cs := #[.int .i64 100, .int .i64 0, .int .i64 0, .int .i64 0, .int .i64 0, .int .i64 0, .int .i64 0]) ?_ 1 _ rfl; (with_reducible repeat (first | refine blk_drewN ?_ _ | refine blk_drew ?_ | refine blk_alloc ?_ _)); refine blk_put (cs := #[.int .i64 0, .int .i64 0, .int .i64 0, .int .i64 0, .int .i64 0, .int .i64 0, .int .i64 0]) ?_ 0 _ rfl; (with_reducible repeat (first | refine blk_drewN ?_ _ | refine blk_drew ?_ | refine blk_alloc ?_ _)); exact BK156.out) hb); have n2_ := Aside0.mk (below_step (by repeat (first | (with_reducible first | exact HB.out | apply below_alloc | apply pw_below_drewN | apply below_drew1 | refine below_set ?_ GE147.out | refine below_set ?_ GE156.out) | exact HB.out)) hb); clear BK147; clear BK156; clear HB; have BK147 := n0_; have BK156 := n1_; have HB := n2_; clear n0_ n1_ n2_; (try clear hb); (try clear hb2); (try clear hk); (try clear hi)) | ((with_reducible refine gate_dst (N := 5) rfl ?_); refine box_event ?hg (N := 5) ?hd (cs := #[.int .i64 0, .int .i64 0, .int .i64 0, .int .i64 0, .int .i64 0, .int .i64 0, .int .i64 0]) (t := 23) ?hr ?_; (case hd => rfl); (case hg => rfl); (case hr => first | (go_simp; done) | (go_simp; rfl)); intro gb165 hg w23 hbox hb; have n0_ := Aside0.mk (blk_below (g := gb147) (o := .cells #[.int .i64 24, .int .i64 8, .int .i64 24, .int .i64 0, .int .i64 0, .int .i64 10, .int .i64 16] 23 (0, 0)) (by (with_reducible repeat (first | refine blk_drewN ?_ _ | refine blk_drew ?_ | refine blk_alloc ?_ _)); exact BK147.out) hb); have n1_ := Aside0.mk (blk_below (g := gb156) (o := .cells #[.int .i64 100, .int .i64 8, .int .i64 104, .int .i64 0, .int .i64 2, .int .i64 9, .int .i64 88] 23 (0, 0)) (by (with_reducible repeat (first | refine blk_drewN ?_ _ | refine blk_drew ?_ | refine blk_alloc ?_ _)); exact BK156.out) hb); have n2_ := Aside0.mk (below_step (by repeat (first | (with_reducible first | exact HB.out | apply below_alloc | apply pw_below_drewN | apply below_drew1 | refine below_set ?_ GE147.out | refine below_set ?_ GE156.out) | exact HB.out)) hb); have n3_ := Aside0.mk (hbox); have n4_ := Aside0.mk ((by rw [hg]; exact (below_size (by repeat (first | (with_reducible first | exact HB.out | apply below_alloc | apply pw_below_drewN | apply below_drew1 | refine below_set ?_ GE147.out | refine below_set ?_ GE156.out) | exact HB.out))) : w.heap.size ≤ gb165)); have n5_ := Aside0.mk ((by rw [hg]; exact (below_size (by repeat (first | (with_reducible first | exact HB.out | apply below_alloc | apply pw_below_drewN | apply below_drew1 | refine below_set ?_ GE147.out | refine below_set ?_ GE156.out) | exact HB.out))) : w.heap.size ≤ gb165)); have n6_ := Aside0.mk ((by rw [hg]; exact Nat.ne_of_lt (blk_lt (g := gb147) (o := .cells #[.int .i64 24, .int .i64 8, .int .i64 24, .int .i64 0, .int .i64 0, .int .i64 10, .int .i64 16] 23 (0, 0)) (by (with_reducible repeat (first | refine blk_drewN ?_ _ | refine blk_drew ?_ | refine blk_alloc ?_ _)); exact BK147.out)) : gb147 ≠ gb165)); have n7_ := Aside0.mk ((by rw [hg]; exact Nat.ne_of_gt (blk_lt (g := gb147) (o := .cells #[.int .i64 24, .int .i64 8, .int .i64 24, .int .i64 0, .int .i64 0, .int .i64 10, .int .i64 16] 23 (0, 0)) (by (with_reducible repeat (first | refine blk_drewN ?_ _ | refine blk_drew ?_ | refine blk_alloc ?_ _)); exact BK147.out)) : gb165 ≠ gb147)); have n8_ := Aside0.mk ((by rw [hg]; exact Nat.ne_of_lt (blk_lt (g := gb156) (o := .cells #[.int .i64 100, .int .i64 8, .int .i64 104, .int .i64 0, .int .i64 2, .int .i64 9, .int .i64 88] 23 (0, 0)) (by (with_reducible repeat (first | refine blk_drewN ?_ _ | refine blk_drew ?_ | refine blk_alloc ?_ _)); exact BK156.out)) : gb156 ≠ gb165)); have n9_ := Aside0.mk ((by rw [hg]; exact Nat.ne_of_gt (blk_lt (g := gb156) (o := .cells #[.int .i64 100, .int .i64 8, .int .i64 104, .int .i64 0, .int .i64 2, .int .i64 9, .int .i64 88] 23 (0, 0)) (by (with_reducible repeat (first | refine blk_drewN ?_ _ | refine blk_drew ?_ | refine blk_alloc ?_ _)); exact BK156.out)) : gb165 ≠ gb156)); clear BK147; clear BK156; clear HB; have BK147 := n0_; have BK156 := n1_; have HB := n2_; have BK165 := n3_; have GW165 := n4_; have GE165 := n5_; have NB147_165 := n6_; have NB165_147 := n7_; have NB156_165 := n8_; have NB165_156 := n9_; clear n0_ n1_ n2_ n3_ n4_ n5_ n6_ n7_ n8_ n9_; clear hb hbox hg; have hnb24 := NB165_147.out; have hnc24 := NB147_165.out; have hnb25 := NB165_156.out; have hnc25 := NB156_165.out; have hcz26_0 : w23.cell? ⟨gb165, 0, none⟩ = some (.int .i64 0) := (blk_cell BK165.out 0).trans rfl; have hcz26_1 : w23.cell? ⟨gb165, 1, none⟩ = some (.int .i64 0) := (blk_cell BK165.out 1).trans rfl; have hcz26_2 : w23.cell? ⟨gb165, 2, none⟩ = some (.int .i64 0) := (blk_cell BK165.out 2).trans rfl; have hcz26_3 : w23.cell? ⟨gb165, 3, none⟩ = some (.int .i64 0) := (blk_cell BK165.out 3).trans rfl; have hcz26_4 : w23.cell? ⟨gb165, 4, none⟩ = some (.int .i64 0) := (blk_cell BK165.out 4).trans rfl; have hcz26_5 : w23.cell? ⟨gb165, 5, none⟩ = some (.int .i64 0) := (blk_cell BK165.out 5).trans rfl; have hcz26_6 : w23.cell? ⟨gb165, 6, none⟩ = some (.int .i64 0) := (blk_cell BK165.out 6).trans rfl; have hfz26_0 := blk_frozen BK165.out 0; have hfz26_1 := blk_frozen BK165.out 1; have hfz26_2 := blk_frozen BK165.out 2; have hfz26_3 := blk_frozen BK165.out 3; have hfz26_4 := blk_frozen BK165.out 4; have hfz26_5 := blk_frozen BK165.out 5; have hfz26_6 := blk_frozen BK165.out 6) | ((with_reducible refine gate_callee (f := 8) rfl ?_); refine goesL_ (some 26) rfl rfl Try.func8 (by kernel_rfl) rfl #[.int .i64 2048, .int .i64 1, .bool true] rfl (by (try simp only [List.map_toArray, List.map_cons, List.map_nil]); first | done | rfl | (simp only [List.length_drop, List.length_take]; rfl)) ?_; (with_reducible refine (layout_Of.calls 2048 1 true 0 0 0 0 0 0 0 150 _ A4.out).mono ?_); rintro e w27 ⟨rfl, hb⟩; refine ⟨_, rfl, ?_⟩; have n0_ := Aside0.mk (blk_below (g := gb147) (o := .cells #[.int .i64 24, .int .i64 8, .int .i64 24, .int .i64 0, .int .i64 0, .int .i64 10, .int .i64 16] 23 (0, 0)) (by (with_reducible repeat (first | refine blk_drewN ?_ _ | refine blk_drew ?_ | refine blk_alloc ?_ _)); refine blk_far ?_ NB147_165.out _; (with_reducible repeat (first | refine blk_drewN ?_ _ | refine blk_drew ?_ | refine blk_alloc ?_ _)); refine blk_far ?_ NB147_165.out _; (with_reducible repeat (first | refine blk_drewN ?_ _ | refine blk_drew ?_ | refine blk_alloc ?_ _)); refine blk_far ?_ NB147_165.out _; (with_reducible repeat (first | refine blk_drewN ?_ _ | refine blk_drew ?_ | refine blk_alloc ?_ _)); refine blk_far ?_ NB147_165.out _; (with_reducible repeat (first | refine blk_drewN ?_ _ | refine blk_drew ?_ | refine blk_alloc ?_ _)); refine blk_far ?_ NB147_165.out _; (with_reducible repeat (first | refine blk_drewN ?_ _ | refine blk_drew ?_ | refine blk_alloc ?_ _)); refine blk_far ?_ NB147_165.out _; (with_reducible repeat (first | refine blk_drewN ?_ _ | refine blk_drew ?_ | refine blk_alloc ?_ _)); refine blk_far ?_ NB147_165.out _; (with_reducible repeat (first | refine blk_drewN ?_ _ | refine blk_drew ?_ | refine blk_alloc ?_ _)); exact BK147.out) hb); have n1_ := Aside0.mk (blk_below (g := gb156) (o := .cells #[.int .i64 100, .int .i64 8, .int .i64 104, .int .i64 0, .int .i64 2, .int .i64 9, .int .i64 88] 23 (0, 0)) (by (with_reducible repeat (first | refine blk_drewN ?_ _ | refine blk_drew ?_ | refine blk_alloc ?_ _)); refine blk_far ?_ NB156_165.out _; (with_reducible repeat (first | refine blk_drewN ?_ _ | refine blk_drew ?_ | refine blk_alloc ?_ _)); refine blk_far ?_ NB156_165.out _; (with_reducible repeat (first | refine blk_drewN ?_ _ | refine blk_drew ?_ | refine blk_alloc ?_ _)); refine blk_far ?_ NB156_165.out _; (with_reducible repeat (first | refine blk_drewN ?_ _ | refine blk_drew ?_ | refine blk_alloc ?_ _)); refine blk_far ?_ NB156_165.out _; (with_reducible repeat (first | refine blk_drewN ?_ _ | refine blk_drew ?_ | refine blk_alloc ?_ _)); refine blk_far ?_ NB156_165.out _; (with_reducible repeat (first | refine blk_drewN ?_ _ | refine blk_drew ?_ | refine blk_alloc ?_ _)); refine blk_far ?_ NB156_165.out _; (with_reducible repeat (first | refine blk_drewN ?_ _ | refine blk_drew ?_ | refine blk_alloc ?_ _)); refine blk_far ?_ NB156_165.out _; (with_reducible repeat (first | refine blk_drewN ?_ _ | refine blk_drew ?_ | refine blk_alloc ?_ _)); exact BK156.out) hb); have n2_ := Aside0.mk (blk_below (g := gb165) (o := .cells #[.int .i64 8, .int .i64 1, .int .i64 24, .int .i64 8, .int .i64 0, .int .i64 10, .int .i64 16] 23 (0, 0)) (by (with_reducible repeat (first | refine blk_drewN ?_ _ | refine blk_drew ?_ | refine blk_alloc ?_ _)); refine blk_put (cs := #[.int .i64 8, .int .i64 1, .int .i64 24, .int .i64 8, .int .i64 0, .int .i64 10, .int .i64 0]) ?_ 6 _ rfl; (with_reducible repeat (first | refine blk_drewN ?_ _ | refine blk_drew ?_ | refine blk_alloc ?_ _)); refine blk_put (cs := #[.int .i64 8, .int .i64 1, .int .i64 24, .int .i64 8, .int .i64 0, .int .i64 0, .int .i64 0]) ?_ 5 _ rfl; (with_reducible repeat (first | refine blk_drewN ?_ _ | refine blk_drew ?_ | refine blk_alloc ?_ _)); refine blk_put (cs := #[.int .i64 8, .int .i64 1, .int .i64 24, .int .i64 8, .int .i64 0, .int .i64 0, .int .i64 0]) ?_ 4 _ rfl; (with_reducible repeat (first | refine blk_drewN ?_ _ | refine blk_drew ?_ | refine blk_alloc ?_ _)); refine blk_put (cs := #[.int .i64 8, .int .i64 1, .int .i64 24, .int .i64 0, .int .i64 0, .int .i64 0, .int .i64 0]) ?_ 3 _ rfl; (with_reducible repeat (first | refine blk_drewN ?_ _ | refine blk_drew ?_ | refine blk_alloc ?_ _)); refine blk_put (cs := #[.int .i64 8, .int .i64 1, .int .i64 0, .int .i64 0, .int .i64 0, .int .i64 0, .int .i64 0]) ?_ 2 _ rfl; (with_reducible repeat (first | refine blk_drewN ?_ _ | refine blk_drew ?_ | refine blk_alloc ?_ _)); refine blk_put (cs := #[.int .i64 8, .int .i64 0, .int .i64 0, .int .i64 0, .int .i64 0, .int .i64 0, .int .i64 0]) ?_ 1 _ rfl; (with_reducible repeat (first | refine blk_drewN ?_ _ | refine blk_drew ?_ | refine blk_alloc ?_ _)); refine blk_put (cs := #[.int .i64 0, .int .i64 0, .int .i64 0, .int .i64 0, .int .i64 0, .int .i64 0, .int .i64 0]) ?_ 0 _ rfl; (with_reducible repeat (first | refine blk_drewN ?_ _ | refine blk_drew ?_ | refine blk_alloc ?_ _)); exact BK165.out) hb); have n3_ := Aside0.mk (below_step (by repeat (first | (with_reducible first | exact HB.out | apply below_alloc | apply pw_below_drewN | apply below_drew1 | refine below_set ?_ GE147.out | refine below_set ?_ GE156.out | refine below_set ?_ GE165.out) | exact HB.out)) hb); clear BK147; clear BK156; clear BK165; clear HB; have BK147 := n0_; have BK156 := n1_; have BK165 := n2_; have HB := n3_; clear n0_ n1_ n2_ n3_; (try clear hb); (try clear hb2); (try clear hk); (try clear hi)) | ((with_reducible refine gate_dst (N := 7) rfl ?_); refine box_event ?hg (N := 7) ?hd (cs := #[.int .i64 0, .int .i64 0, .int .i64 0, .int .i64 0, .int .i64 0, .int .i64 0, .int .i64 0]) (t := 23) ?hr ?_; (case hd => rfl); (case hg => rfl); (case hr => first | (go_simp; done) | (go_simp; rfl)); intro gb174 hg w28 hbox hb; have n0_ := Aside0.mk (blk_below (g := gb147) (o := .cells #[.int .i64 24, .int .i64 8, .int .i64 24, .int .i64 0, .int .i64 0, .int .i64 10, .int .i64 16] 23 (0, 0)) (by (with_reducible repeat (first | refine blk_drewN ?_ _ | refine blk_drew ?_ | refine blk_alloc ?_ _)); exact BK147.out) hb); have n1_ := Aside0.mk (blk_below (g := gb156) (o := .cells #[.int .i64 100, .int .i64 8, .int .i64 104, .int .i64 0, .int .i64 2, .int .i64 9, .int .i64 88] 23 (0, 0)) (by (with_reducible repeat (first | refine blk_drewN ?_ _ | refine blk_drew ?_ | refine blk_alloc ?_ _)); exact BK156.out) hb); have n2_ := Aside0.mk (blk_below (g := gb165) (o := .cells #[.int .i64 8, .int .i64 1, .int .i64 24, .int .i64 8, .int .i64 0, .int .i64 10, .int .i64 16] 23 (0, 0)) (by (with_reducible repeat (first | refine blk_drewN ?_ _ | refine blk_drew ?_ | refine blk_alloc ?_ _)); exact BK165.out) hb); have n3_ := Aside0.mk (below_step (by repeat (first | (with_reducible first | exact HB.out | apply below_alloc | apply pw_below_drewN | apply below_drew1 | refine below_set ?_ GE147.out | refine below_set ?_ GE156.out | refine below_set ?_ GE165.out) | exact HB.out)) hb); have n4_ := Aside0.mk (hbox); have n5_ := Aside0.mk ((by rw [hg]; exact (below_size (by repeat (first | (with_reducible first | exact HB.out | apply below_alloc | apply pw_below_drewN | apply below_drew1 | refine below_set ?_ GE147.out | refine below_set ?_ GE156.out | refine below_set ?_ GE165.out) | exact HB.out))) : w.heap.size ≤ gb174)); have n6_ := Aside0.mk ((by rw [hg]; exact (below_size (by repeat (first | (with_reducible first | exact HB.out | apply below_alloc | apply pw_below_drewN | apply below_drew1 | refine below_set ?_ GE147.out | refine below_set ?_ GE156.out | refine below_set ?_ GE165.out) | exact HB.out))) : w.heap.size ≤ gb174)); have n7_ := Aside0.mk ((by rw [hg]; exact Nat.ne_of_lt (blk_lt (g := gb147) (o := .cells #[.int .i64 24, .int .i64 8, .int .i64 24, .int .i64 0, .int .i64 0, .int .i64 10, .int .i64 16] 23 (0, 0)) (by (with_reducible repeat (first | refine blk_drewN ?_ _ | refine blk_drew ?_ | refine blk_alloc ?_ _)); exact BK147.out)) : gb147 ≠ gb174)); have n8_ := Aside0.mk ((by rw [hg]; exact Nat.ne_of_gt (blk_lt (g := gb147) (o := .cells #[.int .i64 24, .int .i64 8, .int .i64 24, .int .i64 0, .int .i64 0, .int .i64 10, .int .i64 16] 23 (0, 0)) (by (with_reducible repeat (first | refine blk_drewN ?_ _ | refine blk_drew ?_ | refine blk_alloc ?_ _)); exact BK147.out)) : gb174 ≠ gb147)); have n9_ := Aside0.mk ((by rw [hg]; exact Nat.ne_of_lt (blk_lt (g := gb156) (o := .cells #[.int .i64 100, .int .i64 8, .int .i64 104, .int .i64 0, .int .i64 2, .int .i64 9, .int .i64 88] 23 (0, 0)) (by (with_reducible repeat (first | refine blk_drewN ?_ _ | refine blk_drew ?_ | refine blk_alloc ?_ _)); exact BK156.out)) : gb156 ≠ gb174)); have n10_ := Aside0.mk ((by rw [hg]; exact Nat.ne_of_gt (blk_lt (g := gb156) (o := .cells #[.int .i64 100, .int .i64 8, .int .i64 104, .int .i64 0, .int .i64 2, .int .i64 9, .int .i64 88] 23 (0, 0)) (by (with_reducible repeat (first | refine blk_drewN ?_ _ | refine blk_drew ?_ | refine blk_alloc ?_ _)); exact BK156.out)) : gb174 ≠ gb156)); have n11_ := Aside0.mk ((by rw [hg]; exact Nat.ne_of_lt (blk_lt (g := gb165) (o := .cells #[.int .i64 8, .int .i64 1, .int .i64 24, .int .i64 8, .int .i64 0, .int .i64 10, .int .i64 16] 23 (0, 0)) (by (with_reducible repeat (first | refine blk_drewN ?_ _ | refine blk_drew ?_ | refine blk_alloc ?_ _)); exact BK165.out)) : gb165 ≠ gb174)); have n12_ := Aside0.mk ((by rw [hg]; exact Nat.ne_of_gt (blk_lt (g := gb165) (o := .cells #[.int .i64 8, .int .i64 1, .int .i64 24, .int .i64 8, .int .i64 0, .int .i64 10, .int .i64 16] 23 (0, 0)) (by (with_reducible repeat (first | refine blk_drewN ?_ _ | refine blk_drew ?_ | refine blk_alloc ?_ _)); exact BK165.out)) : gb174 ≠ gb165)); clear BK147; clear BK156; clear BK165; clear HB; have BK147 := n0_; have BK156 := n1_; have BK165 := n2_; have HB := n3_; have BK174 := n4_; have GW174 := n5_; have GE174 := n6_; have NB147_174 := n7_; have NB174_147 := n8_; have NB156_174 := n9_; have NB174_156 := n10_; have NB165_174 := n11_; have NB174_165 := n12_; clear n0_ n1_ n2_ n3_ n4_ n5_ n6_ n7_ n8_ n9_ n10_ n11_ n12_; clear hb hbox hg; have hnb29 := NB174_147.out; have hnc29 := NB147_174.out; have hnb30 := NB174_156.out; have hnc30 := NB156_174.out; have hnb31 := NB174_165.out; have hnc31 := NB165_174.out; have hcz32_0 : w28.cell? ⟨gb174, 0, none⟩ = some (.int .i64 0) := (blk_cell BK174.out 0).trans rfl; have hcz32_1 : w28.cell? ⟨gb174, 1, none⟩ = some (.int .i64 0) := (blk_cell BK174.out 1).trans rfl; have hcz32_2 : w28.cell? ⟨gb174, 2, none⟩ = some (.int .i64 0) := (blk_cell BK174.out 2).trans rfl; have hcz32_3 : w28.cell? ⟨gb174, 3, none⟩ = some (.int .i64 0) := (blk_cell BK174.out 3).trans rfl; have hcz32_4 : w28.cell? ⟨gb174, 4, none⟩ = some (.int .i64 0) := (blk_cell BK174.out 4).trans rfl; have hcz32_5 : w28.cell? ⟨gb174, 5, none⟩ = some (.int .i64 0) := (blk_cell BK174.out 5).trans rfl; have hcz32_6 : w28.cell? ⟨gb174, 6, none⟩ = some (.int .i64 0) := (blk_cell BK174.out 6).trans rfl; have hfz32_0 := blk_frozen BK174.out 0; have hfz32_1 := blk_frozen BK174.out 1; have hfz32_2 := blk_frozen BK174.out 2; have hfz32_3 := blk_frozen BK174.out 3; have hfz32_4 := blk_frozen BK174.out 4; have hfz32_5 := blk_frozen BK174.out 5; have hfz32_6 := blk_frozen BK174.out 6) | ((with_reducible refine gate_callee (f := 8) rfl ?_); refine goesL_ (some 30) rfl rfl Try.func8 (by kernel_rfl) rfl #[.int .i64 0, .int .i64 1, .bool false] rfl (by (try simp only [List.map_toArray, List.map_cons, List.map_nil]); first | done | rfl | (simp only [List.length_drop, List.length_take]; rfl)) ?_; (with_reducible refine (layout_Of.calls 0 1 false 0 0 0 0 0 0 0 2 _ A5.out).mono ?_); rintro e w33 ⟨rfl, hb⟩; refine ⟨_, rfl, ?_⟩; have n0_ := Aside0.mk (blk_below (g := gb147) (o := .cells #[.int .i64 24, .int .i64 8, .int .i64 24, .int .i64 0, .int .i64 0, .int .i64 10, .int .i64 16] 23 (0, 0)) (by (with_reducible repeat (first | refine blk_drewN ?_ _ | refine blk_drew ?_ | refine blk_alloc ?_ _)); refine blk_far ?_ NB147_174.out _; (with_reducible repeat (first | refine blk_drewN ?_ _ | refine blk_drew ?_ | refine blk_alloc ?_ _)); refine blk_far ?_ NB147_174.out _; (with_reducible repeat (first | refine blk_drewN ?_ _ | refine blk_drew ?_ | refine blk_alloc ?_ _)); refine blk_far ?_ NB147_174.out _; (with_reducible repeat (first | refine blk_drewN ?_ _ | refine blk_drew ?_ | refine blk_alloc ?_ _)); refine blk_far ?_ NB147_174.out _; (with_reducible repeat (first | refine blk_drewN ?_ _ | refine blk_drew ?_ | refine blk_alloc ?_ _)); refine blk_far ?_ NB147_174.out _; (with_reducible repeat (first | refine blk_drewN ?_ _ | refine blk_drew ?_ | refine blk_alloc ?_ _)); refine blk_far ?_ NB147_174.out _; (with_reducible repeat (first | refine blk_drewN ?_ _ | refine blk_drew ?_ | refine blk_alloc ?_ _)); refine blk_far ?_ NB147_174.out _; (with_reducible repeat (first | refine blk_drewN ?_ _ | refine blk_drew ?_ | refine blk_alloc ?_ _)); exact BK147.out) hb); have n1_ := Aside0.mk (blk_below (g := gb156) (o := .cells #[.int .i64 100, .int .i64 8, .int .i64 104, .int .i64 0, .int .i64 2, .int .i64 9, .int .i64 88] 23 (0, 0)) (by (with_reducible repeat (first | refine blk_drewN ?_ _ | refine blk_drew ?_ | refine blk_alloc ?_ _)); refine blk_far ?_ NB156_174.out _; (with_reducible repeat (first | refine blk_drewN ?_ _ | refine blk_drew ?_ | refine blk_alloc ?_ _)); refine blk_far ?_ NB156_174.out _; (with_reducible repeat (first | refine blk_drewN ?_ _ | refine blk_drew ?_ | refine blk_alloc ?_ _)); refine blk_far ?_ NB156_174.out _; (with_reducible repeat (first | refine blk_drewN ?_ _ | refine blk_drew ?_ | refine blk_alloc ?_ _)); refine blk_far ?_ NB156_174.out _; (with_reducible repeat (first | refine blk_drewN ?_ _ | refine blk_drew ?_ | refine blk_alloc ?_ _)); refine blk_far ?_ NB156_174.out _; (with_reducible repeat (first | refine blk_drewN ?_ _ | refine blk_drew ?_ | refine blk_alloc ?_ _)); refine blk_far ?_ NB156_174.out _; (with_reducible repeat (first | refine blk_drewN ?_ _ | refine blk_drew ?_ | refine blk_alloc ?_ _)); refine blk_far ?_ NB156_174.out _; (with_reducible repeat (first | refine blk_drewN ?_ _ | refine blk_drew ?_ | refine blk_alloc ?_ _)); exact BK156.out) hb); have n2_ := Aside0.mk (blk_below (g := gb165) (o := .cells #[.int .i64 8, .int .i64 1, .int .i64 24, .int .i64 8, .int .i64 0, .int .i64 10, .int .i64 16] 23 (0, 0)) (by (with_reducible repeat (first | refine blk_drewN ?_ _ | refine blk_drew ?_ | refine blk_alloc ?_ _)); refine blk_far ?_ NB165_174.out _; (with_reducible repeat (first | refine blk_drewN ?_ _ | refine blk_drew ?_ | refine blk_alloc ?_ _)); refine blk_far ?_ NB165_174.out _; (with_reducible repeat (first | refine blk_drewN ?_ _ | refine blk_drew ?_ | refine blk_alloc ?_ _)); refine blk_far ?_ NB165_174.out _; (with_reducible repeat (first | refine blk_drewN ?_ _ | refine blk_drew ?_ | refine blk_alloc ?_ _)); refine blk_far ?_ NB165_174.out _; (with_reducible repeat (first | refine blk_drewN ?_ _ | refine blk_drew ?_ | refine blk_alloc ?_ _)); refine blk_far ?_ NB165_174.out _; (with_reducible repeat (first | refine blk_drewN ?_ _ | refine blk_drew ?_ | refine blk_alloc ?_ _)); refine blk_far ?_ NB165_174.out _; (with_reducible repeat (first | refine blk_drewN ?_ _ | refine blk_drew ?_ | refine blk_alloc ?_ _)); refine blk_far ?_ NB165_174.out _; (with_reducible repeat (first | refine blk_drewN ?_ _ | refine blk_drew ?_ | refine blk_alloc ?_ _)); exact BK165.out) hb); have n3_ := Aside0.mk (blk_below (g := gb174) (o := .cells #[.int .i64 0, .int .i64 0, .int .i64 0, .int .i64 0, .int .i64 0, .int .i64 0, .int .i64 0] 23 (0, 0)) (by (with_reducible repeat (first | refine blk_drewN ?_ _ | refine blk_drew ?_ | refine blk_alloc ?_ _)); refine blk_put (cs := #[.int .i64 0, .int .i64 0, .int .i64 0, .int .i64 0, .int .i64 0, .int .i64 0, .int .i64 0]) ?_ 6 _ rfl; (with_reducible repeat (first | refine blk_drewN ?_ _ | refine blk_drew ?_ | refine blk_alloc ?_ _)); refine blk_put (cs := #[.int .i64 0, .int .i64 0, .int .i64 0, .int .i64 0, .int .i64 0, .int .i64 0, .int .i64 0]) ?_ 5 _ rfl; (with_reducible repeat (first | refine blk_drewN ?_ _ | refine blk_drew ?_ | refine blk_alloc ?_ _)); refine blk_put (cs := #[.int .i64 0, .int .i64 0, .int .i64 0, .int .i64 0, .int .i64 0, .int .i64 0, .int .i64 0]) ?_ 4 _ rfl; (with_reducible repeat (first | refine blk_drewN ?_ _ | refine blk_drew ?_ | refine blk_alloc ?_ _)); refine blk_put (cs := #[.int .i64 0, .int .i64 0, .int .i64 0, .int .i64 0, .int .i64 0, .int .i64 0, .int .i64 0]) ?_ 3 _ rfl; (with_reducible repeat (first | refine blk_drewN ?_ _ | refine blk_drew ?_ | refine blk_alloc ?_ _)); refine blk_put (cs := #[.int .i64 0, .int .i64 0, .int .i64 0, .int .i64 0, .int .i64 0, .int .i64 0, .int .i64 0]) ?_ 2 _ rfl; (with_reducible repeat (first | refine blk_drewN ?_ _ | refine blk_drew ?_ | refine blk_alloc ?_ _)); refine blk_put (cs := #[.int .i64 0, .int .i64 0, .int .i64 0, .int .i64 0, .int .i64 0, .int .i64 0, .int .i64 0]) ?_ 1 _ rfl; (with_reducible repeat (first | refine blk_drewN ?_ _ | refine blk_drew ?_ | refine blk_alloc ?_ _)); refine blk_put (cs := #[.int .i64 0, .int .i64 0, .int .i64 0, .int .i64 0, .int .i64 0, .int .i64 0, .int .i64 0]) ?_ 0 _ rfl; (with_reducible repeat (first | refine blk_drewN ?_ _ | refine blk_drew ?_ | refine blk_alloc ?_ _)); exact BK174.out) hb); have n4_ := Aside0.mk (below_step (by repeat (first | (with_reducible first | exact HB.out | apply below_alloc | apply pw_below_drewN | apply below_drew1 | refine below_set ?_ GE147.out | refine below_set ?_ GE156.out | refine below_set ?_ GE165.out | refine below_set ?_ GE174.out) | exact HB.out)) hb); clear BK147; clear BK156; clear BK165; clear BK174; clear HB; have BK147 := n0_; have BK156 := n1_; have BK165 := n2_; have BK174 := n3_; have HB := n4_; clear n0_ n1_ n2_ n3_ n4_; (try clear hb); (try clear hb2); (try clear hk); (try clear hi)) | ((with_reducible refine gate_dst (N := 9) rfl ?_); refine box_event ?hg (N := 9) ?hd (cs := #[.int .i64 0, .int .i64 0, .int .i64 0, .int .i64 0, .int .i64 0, .int .i64 0, .int .i64 0]) (t := 23) ?hr ?_; (case hd => rfl); (case hg => rfl); (case hr => first | (go_simp; done) | (go_simp; rfl)); intro gb183 hg w34 hbox hb; have n0_ := Aside0.mk (blk_below (g := gb147) (o := .cells #[.int .i64 24, .int .i64 8, .int .i64 24, .int .i64 0, .int .i64 0, .int .i64 10, .int .i64 16] 23 (0, 0)) (by (with_reducible repeat (first | refine blk_drewN ?_ _ | refine blk_drew ?_ | refine blk_alloc ?_ _)); exact BK147.out) hb); have n1_ := Aside0.mk (blk_below (g := gb156) (o := .cells #[.int .i64 100, .int .i64 8, .int .i64 104, .int .i64 0, .int .i64 2, .int .i64 9, .int .i64 88] 23 (0, 0)) (by (with_reducible repeat (first | refine blk_drewN ?_ _ | refine blk_drew ?_ | refine blk_alloc ?_ _)); exact BK156.out) hb); have n2_ := Aside0.mk (blk_below (g := gb165) (o := .cells #[.int .i64 8, .int .i64 1, .int .i64 24, .int .i64 8, .int .i64 0, .int .i64 10, .int .i64 16] 23 (0, 0)) (by (with_reducible repeat (first | refine blk_drewN ?_ _ | refine blk_drew ?_ | refine blk_alloc ?_ _)); exact BK165.out) hb); have n3_ := Aside0.mk (blk_below (g := gb174) (o := .cells #[.int .i64 0, .int .i64 0, .int .i64 0, .int .i64 0, .int .i64 0, .int .i64 0, .int .i64 0] 23 (0, 0)) (by (with_reducible repeat (first | refine blk_drewN ?_ _ | refine blk_drew ?_ | refine blk_alloc ?_ _)); exact BK174.out) hb); have n4_ := Aside0.mk (below_step (by repeat (first | (with_reducible first | exact HB.out | apply below_alloc | apply pw_below_drewN | apply below_drew1 | refine below_set ?_ GE147.out | refine below_set ?_ GE156.out | refine below_set ?_ GE165.out | refine below_set ?_ GE174.out) | exact HB.out)) hb); have n5_ := Aside0.mk (hbox); have n6_ := Aside0.mk ((by rw [hg]; exact (below_size (by repeat (first | (with_reducible first | exact HB.out | apply below_alloc | apply pw_below_drewN | apply below_drew1 | refine below_set ?_ GE147.out | refine below_set ?_ GE156.out | refine below_set ?_ GE165.out | refine below_set ?_ GE174.out) | exact HB.out))) : w.heap.size ≤ gb183)); have n7_ := Aside0.mk ((by rw [hg]; exact (below_size (by repeat (first | (with_reducible first | exact HB.out | apply below_alloc | apply pw_below_drewN | apply below_drew1 | refine below_set ?_ GE147.out | refine below_set ?_ GE156.out | refine below_set ?_ GE165.out | refine below_set ?_ GE174.out) | exact HB.out))) : w.heap.size ≤ gb183)); have n8_ := Aside0.mk ((by rw [hg]; exact Nat.ne_of_lt (blk_lt (g := gb147) (o := .cells #[.int .i64 24, .int .i64 8, .int .i64 24, .int .i64 0, .int .i64 0, .int .i64 10, .int .i64 16] 23 (0, 0)) (by (with_reducible repeat (first | refine blk_drewN ?_ _ | refine blk_drew ?_ | refine blk_alloc ?_ _)); exact BK147.out)) : gb147 ≠ gb183)); have n9_ := Aside0.mk ((by rw [hg]; exact Nat.ne_of_gt (blk_lt (g := gb147) (o := .cells #[.int .i64 24, .int .i64 8, .int .i64 24, .int .i64 0, .int .i64 0, .int .i64 10, .int .i64 16] 23 (0, 0)) (by (with_reducible repeat (first | refine blk_drewN ?_ _ | refine blk_drew ?_ | refine blk_alloc ?_ _)); exact BK147.out)) : gb183 ≠ gb147)); have n10_ := Aside0.mk ((by rw [hg]; exact Nat.ne_of_lt (blk_lt (g := gb156) (o := .cells #[.int .i64 100, .int .i64 8, .int .i64 104, .int .i64 0, .int .i64 2, .int .i64 9, .int .i64 88] 23 (0, 0)) (by (with_reducible repeat (first | refine blk_drewN ?_ _ | refine blk_drew ?_ | refine blk_alloc ?_ _)); exact BK156.out)) : gb156 ≠ gb183)); have n11_ := Aside0.mk ((by rw [hg]; exact Nat.ne_of_gt (blk_lt (g := gb156) (o := .cells #[.int .i64 100, .int .i64 8, .int .i64 104, .int .i64 0, .int .i64 2, .int .i64 9, .int .i64 88] 23 (0, 0)) (by (with_reducible repeat (first | refine blk_drewN ?_ _ | refine blk_drew ?_ | refine blk_alloc ?_ _)); exact BK156.out)) : gb183 ≠ gb156)); have n12_ := Aside0.mk ((by rw [hg]; exact Nat.ne_of_lt (blk_lt (g := gb165) (o := .cells #[.int .i64 8, .int .i64 1, .int .i64 24, .int .i64 8, .int .i64 0, .int .i64 10, .int .i64 16] 23 (0, 0)) (by (with_reducible repeat (first | refine blk_drewN ?_ _ | refine blk_drew ?_ | refine blk_alloc ?_ _)); exact BK165.out)) : gb165 ≠ gb183)); have n13_ := Aside0.mk ((by rw [hg]; exact Nat.ne_of_gt (blk_lt (g := gb165) (o := .cells #[.int .i64 8, .int .i64 1, .int .i64 24, .int .i64 8, .int .i64 0, .int .i64 10, .int .i64 16] 23 (0, 0)) (by (with_reducible repeat (first | refine blk_drewN ?_ _ | refine blk_drew ?_ | refine blk_alloc ?_ _)); exact BK165.out)) : gb183 ≠ gb165)); have n14_ := Aside0.mk ((by rw [hg]; exact Nat.ne_of_lt (blk_lt (g := gb174) (o := .cells #[.int .i64 0, .int .i64 0, .int .i64 0, .int .i64 0, .int .i64 0, .int .i64 0, .int .i64 0] 23 (0, 0)) (by (with_reducible repeat (first | refine blk_drewN ?_ _ | refine blk_drew ?_ | refine blk_alloc ?_ _)); exact BK174.out)) : gb174 ≠ gb183)); have n15_ := Aside0.mk ((by rw [hg]; exact Nat.ne_of_gt (blk_lt (g := gb174) (o := .cells #[.int .i64 0, .int .i64 0, .int .i64 0, .int .i64 0, .int .i64 0, .int .i64 0, .int .i64 0] 23 (0, 0)) (by (with_reducible repeat (first | refine blk_drewN ?_ _ | refine blk_drew ?_ | refine blk_alloc ?_ _)); exact BK174.out)) : gb183 ≠ gb174)); clear BK147; clear BK156; clear BK165; clear BK174; clear HB; have BK147 := n0_; have BK156 := n1_; have BK165 := n2_; have BK174 := n3_; have HB := n4_; have BK183 := n5_; have GW183 := n6_; have GE183 := n7_; have NB147_183 := n8_; have NB183_147 := n9_; have NB156_183 := n10_; have NB183_156 := n11_; have NB165_183 := n12_; have NB183_165 := n13_; have NB174_183 := n14_; have NB183_174 := n15_; clear n0_ n1_ n2_ n3_ n4_ n5_ n6_ n7_ n8_ n9_ n10_ n11_ n12_ n13_ n14_ n15_; clear hb hbox hg; have hnb35 := NB183_147.out; have hnc35 := NB147_183.out; have hnb36 := NB183_156.out; have hnc36 := NB156_183.out; have hnb37 := NB183_165.out; have hnc37 := NB165_183.out; have hnb38 := NB183_174.out; have hnc38 := NB174_183.out; have hcz39_0 : w34.cell? ⟨gb183, 0, none⟩ = some (.int .i64 0) := (blk_cell BK183.out 0).trans rfl; have hcz39_1 : w34.cell? ⟨gb183, 1, none⟩ = some (.int .i64 0) := (blk_cell BK183.out 1).trans rfl; have hcz39_2 : w34.cell? ⟨gb183, 2, none⟩ = some (.int .i64 0) := (blk_cell BK183.out 2).trans rfl; have hcz39_3 : w34.cell? ⟨gb183, 3, none⟩ = some (.int .i64 0) := (blk_cell BK183.out 3).trans rfl; have hcz39_4 : w34.cell? ⟨gb183, 4, none⟩ = some (.int .i64 0) := (blk_cell BK183.out 4).trans rfl; have hcz39_5 : w34.cell? ⟨gb183, 5, none⟩ = some (.int .i64 0) := (blk_cell BK183.out 5).trans rfl; have hcz39_6 : w34.cell? ⟨gb183, 6, none⟩ = some (.int .i64 0) := (blk_cell BK183.out 6).trans rfl; have hfz39_0 := blk_frozen BK183.out 0; have hfz39_1 := blk_frozen BK183.out 1; have hfz39_2 := blk_frozen BK183.out 2; have hfz39_3 := blk_frozen BK183.out 3; have hfz39_4 := blk_frozen BK183.out 4; have hfz39_5 := blk_frozen BK183.out 5; have hfz39_6 := blk_frozen BK183.out 6) | ((with_reducible refine gate_callee (f := 8) rfl ?_); refine goesL_ (some 34) rfl rfl Try.func8 (by kernel_rfl) rfl #[.int .i64 8, .int .i64 3, .bool false] rfl (by (try simp only [List.map_toArray, List.map_cons, List.map_nil]); first | done | rfl | (simp only [List.length_drop, List.length_take]; rfl)) ?_; (with_reducible refine (layout_Of.calls 8 3 false 0 0 0 0 0 0 0 2 _ A6.out).mono ?_); rintro e w40 ⟨rfl, hb⟩; refine ⟨_, rfl, ?_⟩; have n0_ := Aside0.mk (blk_below (g := gb147) (o := .cells #[.int .i64 24, .int .i64 8, .int .i64 24, .int .i64 0, .int .i64 0, .int .i64 10, .int .i64 16] 23 (0, 0)) (by (with_reducible repeat (first | refine blk_drewN ?_ _ | refine blk_drew ?_ | refine blk_alloc ?_ _)); refine blk_far ?_ NB147_183.out _; (with_reducible repeat (first | refine blk_drewN ?_ _ | refine blk_drew ?_ | refine blk_alloc ?_ _)); refine blk_far ?_ NB147_183.out _; (with_reducible repeat (first | refine blk_drewN ?_ _ | refine blk_drew ?_ | refine blk_alloc ?_ _)); refine blk_far ?_ NB147_183.out _; (with_reducible repeat (first | refine blk_drewN ?_ _ | refine blk_drew ?_ | refine blk_alloc ?_ _)); refine blk_far ?_ NB147_183.out _; (with_reducible repeat (first | refine blk_drewN ?_ _ | refine blk_drew ?_ | refine blk_alloc ?_ _)); refine blk_far ?_ NB147_183.out _; (with_reducible repeat (first | refine blk_drewN ?_ _ | refine blk_drew ?_ | refine blk_alloc ?_ _)); refine blk_far ?_ NB147_183.out _; (with_reducible repeat (first | refine blk_drewN ?_ _ | refine blk_drew ?_ | refine blk_alloc ?_ _)); refine blk_far ?_ NB147_183.out _; (with_reducible repeat (first | refine blk_drewN ?_ _ | refine blk_drew ?_ | refine blk_alloc ?_ _)); exact BK147.out) hb); have n1_ := Aside0.mk (blk_below (g := gb156) (o := .cells #[.int .i64 100, .int .i64 8, .int .i64 104, .int .i64 0, .int .i64 2, .int .i64 9, .int .i64 88] 23 (0, 0)) (by (with_reducible repeat (first | refine blk_drewN ?_ _ | refine blk_drew ?_ | refine blk_alloc ?_ _)); refine blk_far ?_ NB156_183.out _; (with_reducible repeat (first | refine blk_drewN ?_ _ | refine blk_drew ?_ | refine blk_alloc ?_ _)); refine blk_far ?_ NB156_183.out _; (with_reducible repeat (first | refine blk_drewN ?_ _ | refine blk_drew ?_ | refine blk_alloc ?_ _)); refine blk_far ?_ NB156_183.out _; (with_reducible repeat (first | refine blk_drewN ?_ _ | refine blk_drew ?_ | refine blk_alloc ?_ _)); refine blk_far ?_ NB156_183.out _; (with_reducible repeat (first | refine blk_drewN ?_ _ | refine blk_drew ?_ | refine blk_alloc ?_ _)); refine blk_far ?_ NB156_183.out _; (with_reducible repeat (first | refine blk_drewN ?_ _ | refine blk_drew ?_ | refine blk_alloc ?_ _)); refine blk_far ?_ NB156_183.out _; (with_reducible repeat (first | refine blk_drewN ?_ _ | refine blk_drew ?_ | refine blk_alloc ?_ _)); refine blk_far ?_ NB156_183.out _; (with_reducible repeat (first | refine blk_drewN ?_ _ | refine blk_drew ?_ | refine blk_alloc ?_ _)); exact BK156.out) hb); have n2_ := Aside0.mk (blk_below (g := gb165) (o := .cells #[.int .i64 8, .int .i64 1, .int .i64 24, .int .i64 8, .int .i64 0, .int .i64 10, .int .i64 16] 23 (0, 0)) (by (with_reducible repeat (first | refine blk_drewN ?_ _ | refine blk_drew ?_ | refine blk_alloc ?_ _)); refine blk_far ?_ NB165_183.out _; (with_reducible repeat (first | refine blk_drewN ?_ _ | refine blk_drew ?_ | refine blk_alloc ?_ _)); refine blk_far ?_ NB165_183.out _; (with_reducible repeat (first | refine blk_drewN ?_ _ | refine blk_drew ?_ | refine blk_alloc ?_ _)); refine blk_far ?_ NB165_183.out _; (with_reducible repeat (first | refine blk_drewN ?_ _ | refine blk_drew ?_ | refine blk_alloc ?_ _)); refine blk_far ?_ NB165_183.out _; (with_reducible repeat (first | refine blk_drewN ?_ _ | refine blk_drew ?_ | refine blk_alloc ?_ _)); refine blk_far ?_ NB165_183.out _; (with_reducible repeat (first | refine blk_drewN ?_ _ | refine blk_drew ?_ | refine blk_alloc ?_ _)); refine blk_far ?_ NB165_183.out _; (with_reducible repeat (first | refine blk_drewN ?_ _ | refine blk_drew ?_ | refine blk_alloc ?_ _)); refine blk_far ?_ NB165_183.out _; (with_reducible repeat (first | refine blk_drewN ?_ _ | refine blk_drew ?_ | refine blk_alloc ?_ _)); exact BK165.out) hb); have n3_ := Aside0.mk (blk_below (g := gb174) (o := .cells #[.int .i64 0, .int .i64 0, .int .i64 0, .int .i64 0, .int .i64 0, .int .i64 0, .int .i64 0] 23 (0, 0)) (by (with_reducible repeat (first | refine blk_drewN ?_ _ | refine blk_drew ?_ | refine blk_alloc ?_ _)); refine blk_far ?_ NB174_183.out _; (with_reducible repeat (first | refine blk_drewN ?_ _ | refine blk_drew ?_ | refine blk_alloc ?_ _)); refine blk_far ?_ NB174_183.out _; (with_reducible repeat (first | refine blk_drewN ?_ _ | refine blk_drew ?_ | refine blk_alloc ?_ _)); refine blk_far ?_ NB174_183.out _; (with_reducible repeat (first | refine blk_drewN ?_ _ | refine blk_drew ?_ | refine blk_alloc ?_ _)); refine blk_far ?_ NB174_183.out _; (with_reducible repeat (first | refine blk_drewN ?_ _ | refine blk_drew ?_ | refine blk_alloc ?_ _)); refine blk_far ?_ NB174_183.out _; (with_reducible repeat (first | refine blk_drewN ?_ _ | refine blk_drew ?_ | refine blk_alloc ?_ _)); refine blk_far ?_ NB174_183.out _; (with_reducible repeat (first | refine blk_drewN ?_ _ | refine blk_drew ?_ | refine blk_alloc ?_ _)); refine blk_far ?_ NB174_183.out _; (with_reducible repeat (first | refine blk_drewN ?_ _ | refine blk_drew ?_ | refine blk_alloc ?_ _)); exact BK174.out) hb); have n4_ := Aside0.mk (blk_below (g := gb183) (o := .cells #[.int .i64 0, .int .i64 0, .int .i64 0, .int .i64 0, .int .i64 0, .int .i64 0, .int .i64 0] 23 (0, 0)) (by (with_reducible repeat (first | refine blk_drewN ?_ _ | refine blk_drew ?_ | refine blk_alloc ?_ _)); refine blk_put (cs := #[.int .i64 0, .int .i64 0, .int .i64 0, .int .i64 0, .int .i64 0, .int .i64 0, .int .i64 0]) ?_ 6 _ rfl; (with_reducible repeat (first | refine blk_drewN ?_ _ | refine blk_drew ?_ | refine blk_alloc ?_ _)); refine blk_put (cs := #[.int .i64 0, .int .i64 0, .int .i64 0, .int .i64 0, .int .i64 0, .int .i64 0, .int .i64 0]) ?_ 5 _ rfl; (with_reducible repeat (first | refine blk_drewN ?_ _ | refine blk_drew ?_ | refine blk_alloc ?_ _)); refine blk_put (cs := #[.int .i64 0, .int .i64 0, .int .i64 0, .int .i64 0, .int .i64 0, .int .i64 0, .int .i64 0]) ?_ 4 _ rfl; (with_reducible repeat (first | refine blk_drewN ?_ _ | refine blk_drew ?_ | refine blk_alloc ?_ _)); refine blk_put (cs := #[.int .i64 0, .int .i64 0, .int .i64 0, .int .i64 0, .int .i64 0, .int .i64 0, .int .i64 0]) ?_ 3 _ rfl; (with_reducible repeat (first | refine blk_drewN ?_ _ | refine blk_drew ?_ | refine blk_alloc ?_ _)); refine blk_put (cs := #[.int .i64 0, .int .i64 0, .int .i64 0, .int .i64 0, .int .i64 0, .int .i64 0, .int .i64 0]) ?_ 2 _ rfl; (with_reducible repeat (first | refine blk_drewN ?_ _ | refine blk_drew ?_ | refine blk_alloc ?_ _)); refine blk_put (cs := #[.int .i64 0, .int .i64 0, .int .i64 0, .int .i64 0, .int .i64 0, .int .i64 0, .int .i64 0]) ?_ 1 _ rfl; (with_reducible repeat (first | refine blk_drewN ?_ _ | refine blk_drew ?_ | refine blk_alloc ?_ _)); refine blk_put (cs := #[.int .i64 0, .int .i64 0, .int .i64 0, .int .i64 0, .int .i64 0, .int .i64 0, .int .i64 0]) ?_ 0 _ rfl; (with_reducible repeat (first | refine blk_drewN ?_ _ | refine blk_drew ?_ | refine blk_alloc ?_ _)); exact BK183.out) hb); have n5_ := Aside0.mk (below_step (by repeat (first | (with_reducible first | exact HB.out | apply below_alloc | apply pw_below_drewN | apply below_drew1 | refine below_set ?_ GE147.out | refine below_set ?_ GE156.out | refine below_set ?_ GE165.out | refine below_set ?_ GE174.out | refine below_set ?_ GE183.out) | exact HB.out)) hb); clear BK147; clear BK156; clear BK165; clear BK174; clear BK183; clear HB; have BK147 := n0_; have BK156 := n1_; have BK165 := n2_; have BK174 := n3_; have BK183 := n4_; have HB := n5_; clear n0_ n1_ n2_ n3_ n4_ n5_; (try clear hb); (try clear hb2); (try clear hk); (try clear hi)) | ((with_reducible refine gate_dst (N := 11) rfl ?_); refine box_event ?hg (N := 11) ?hd (cs := #[.int .i64 0, .int .i64 0, .int .i64 0, .int .i64 0, .int .i64 0, .int .i64 0, .int .i64 0]) (t := 23) ?hr ?_; (case hd => rfl); (case hg => rfl); (case hr => first | (go_simp; done) | (go_simp; rfl)); intro gb192 hg w41 hbox hb; have n0_ := Aside0.mk (blk_below (g := gb147) (o := .cells #[.int .i64 24, .int .i64 8, .int .i64 24, .int .i64 0, .int .i64 0, .int .i64 10, .int .i64 16] 23 (0, 0)) (by (with_reducible repeat (first | refine blk_drewN ?_ _ | refine blk_drew ?_ | refine blk_alloc ?_ _)); exact BK147.out) hb); have n1_ := Aside0.mk (blk_below (g := gb156) (o := .cells #[.int .i64 100, .int .i64 8, .int .i64 104, .int .i64 0, .int .i64 2, .int .i64 9, .int .i64 88] 23 (0, 0)) (by (with_reducible repeat (first | refine blk_drewN ?_ _ | refine blk_drew ?_ | refine blk_alloc ?_ _)); exact BK156.out) hb); have n2_ := Aside0.mk (blk_below (g := gb165) (o := .cells #[.int .i64 8, .int .i64 1, .int .i64 24, .int .i64 8, .int .i64 0, .int .i64 10, .int .i64 16] 23 (0, 0)) (by (with_reducible repeat (first | refine blk_drewN ?_ _ | refine blk_drew ?_ | refine blk_alloc ?_ _)); exact BK165.out) hb); have n3_ := Aside0.mk (blk_below (g := gb174) (o := .cells #[.int .i64 0, .int .i64 0, .int .i64 0, .int .i64 0, .int .i64 0, .int .i64 0, .int .i64 0] 23 (0, 0)) (by (with_reducible repeat (first | refine blk_drewN ?_ _ | refine blk_drew ?_ | refine blk_alloc ?_ _)); exact BK174.out) hb); have n4_ := Aside0.mk (blk_below (g := gb183) (o := .cells #[.int .i64 0, .int .i64 0, .int .i64 0, .int .i64 0, .int .i64 0, .int .i64 0, .int .i64 0] 23 (0, 0)) (by (with_reducible repeat (first | refine blk_drewN ?_ _ | refine blk_drew ?_ | refine blk_alloc ?_ _)); exact BK183.out) hb); have n5_ := Aside0.mk (below_step (by repeat (first | (with_reducible first | exact HB.out | apply below_alloc | apply pw_below_drewN | apply below_drew1 | refine below_set ?_ GE147.out | refine below_set ?_ GE156.out | refine below_set ?_ GE165.out | refine below_set ?_ GE174.out | refine below_set ?_ GE183.out) | exact HB.out)) hb); have n6_ := Aside0.mk (hbox); have n7_ := Aside0.mk ((by rw [hg]; exact (below_size (by repeat (first | (with_reducible first | exact HB.out | apply below_alloc | apply pw_below_drewN | apply below_drew1 | refine below_set ?_ GE147.out | refine below_set ?_ GE156.out | refine below_set ?_ GE165.out | refine below_set ?_ GE174.out | refine below_set ?_ GE183.out) | exact HB.out))) : w.heap.size ≤ gb192)); have n8_ := Aside0.mk ((by rw [hg]; exact (below_size (by repeat (first | (with_reducible first | exact HB.out | apply below_alloc | apply pw_below_drewN | apply below_drew1 | refine below_set ?_ GE147.out | refine below_set ?_ GE156.out | refine below_set ?_ GE165.out | refine below_set ?_ GE174.out | refine below_set ?_ GE183.out) | exact HB.out))) : w.heap.size ≤ gb192)); have n9_ := Aside0.mk ((by rw [hg]; exact Nat.ne_of_lt (blk_lt (g := gb147) (o := .cells #[.int .i64 24, .int .i64 8, .int .i64 24, .int .i64 0, .int .i64 0, .int .i64 10, .int .i64 16] 23 (0, 0)) (by (with_reducible repeat (first | refine blk_drewN ?_ _ | refine blk_drew ?_ | refine blk_alloc ?_ _)); exact BK147.out)) : gb147 ≠ gb192)); have n10_ := Aside0.mk ((by rw [hg]; exact Nat.ne_of_gt (blk_lt (g := gb147) (o := .cells #[.int .i64 24, .int .i64 8, .int .i64 24, .int .i64 0, .int .i64 0, .int .i64 10, .int .i64 16] 23 (0, 0)) (by (with_reducible repeat (first | refine blk_drewN ?_ _ | refine blk_drew ?_ | refine blk_alloc ?_ _)); exact BK147.out)) : gb192 ≠ gb147)); have n11_ := Aside0.mk ((by rw [hg]; exact Nat.ne_of_lt (blk_lt (g := gb156) (o := .cells #[.int .i64 100, .int .i64 8, .int .i64 104, .int .i64 0, .int .i64 2, .int .i64 9, .int .i64 88] 23 (0, 0)) (by (with_reducible repeat (first | refine blk_drewN ?_ _ | refine blk_drew ?_ | refine blk_alloc ?_ _)); exact BK156.out)) : gb156 ≠ gb192)); have n12_ := Aside0.mk ((by rw [hg]; exact Nat.ne_of_gt (blk_lt (g := gb156) (o := .cells #[.int .i64 100, .int .i64 8, .int .i64 104, .int .i64 0, .int .i64 2, .int .i64 9, .int .i64 88] 23 (0, 0)) (by (with_reducible repeat (first | refine blk_drewN ?_ _ | refine blk_drew ?_ | refine blk_alloc ?_ _)); exact BK156.out)) : gb192 ≠ gb156)); have n13_ := Aside0.mk ((by rw [hg]; exact Nat.ne_of_lt (blk_lt (g := gb165) (o := .cells #[.int .i64 8, .int .i64 1, .int .i64 24, .int .i64 8, .int .i64 0, .int .i64 10, .int .i64 16] 23 (0, 0)) (by (with_reducible repeat (first | refine blk_drewN ?_ _ | refine blk_drew ?_ | refine blk_alloc ?_ _)); exact BK165.out)) : gb165 ≠ gb192)); have n14_ := Aside0.mk ((by rw [hg]; exact Nat.ne_of_gt (blk_lt (g := gb165) (o := .cells #[.int .i64 8, .int .i64 1, .int .i64 24, .int .i64 8, .int .i64 0, .int .i64 10, .int .i64 16] 23 (0, 0)) (by (with_reducible repeat (first | refine blk_drewN ?_ _ | refine blk_drew ?_ | refine blk_alloc ?_ _)); exact BK165.out)) : gb192 ≠ gb165)); have n15_ := Aside0.mk ((by rw [hg]; exact Nat.ne_of_lt (blk_lt (g := gb174) (o := .cells #[.int .i64 0, .int .i64 0, .int .i64 0, .int .i64 0, .int .i64 0, .int .i64 0, .int .i64 0] 23 (0, 0)) (by (with_reducible repeat (first | refine blk_drewN ?_ _ | refine blk_drew ?_ | refine blk_alloc ?_ _)); exact BK174.out)) : gb174 ≠ gb192)); have n16_ := Aside0.mk ((by rw [hg]; exact Nat.ne_of_gt (blk_lt (g := gb174) (o := .cells #[.int .i64 0, .int .i64 0, .int .i64 0, .int .i64 0, .int .i64 0, .int .i64 0, .int .i64 0] 23 (0, 0)) (by (with_reducible repeat (first | refine blk_drewN ?_ _ | refine blk_drew ?_ | refine blk_alloc ?_ _)); exact BK174.out)) : gb192 ≠ gb174)); have n17_ := Aside0.mk ((by rw [hg]; exact Nat.ne_of_lt (blk_lt (g := gb183) (o := .cells #[.int .i64 0, .int .i64 0, .int .i64 0, .int .i64 0, .int .i64 0, .int .i64 0, .int .i64 0] 23 (0, 0)) (by (with_reducible repeat (first | refine blk_drewN ?_ _ | refine blk_drew ?_ | refine blk_alloc ?_ _)); exact BK183.out)) : gb183 ≠ gb192)); have n18_ := Aside0.mk ((by rw [hg]; exact Nat.ne_of_gt (blk_lt (g := gb183) (o := .cells #[.int .i64 0, .int .i64 0, .int .i64 0, .int .i64 0, .int .i64 0, .int .i64 0, .int .i64 0] 23 (0, 0)) (by (with_reducible repeat (first | refine blk_drewN ?_ _ | refine blk_drew ?_ | refine blk_alloc ?_ _)); exact BK183.out)) : gb192 ≠ gb183)); clear BK147; clear BK156; clear BK165; clear BK174; clear BK183; clear HB; have BK147 := n0_; have BK156 := n1_; have BK165 := n2_; have BK174 := n3_; have BK183 := n4_; have HB := n5_; have BK192 := n6_; have GW192 := n7_; have GE192 := n8_; have NB147_192 := n9_; have NB192_147 := n10_; have NB156_192 := n11_; have NB192_156 := n12_; have NB165_192 := n13_; have NB192_165 := n14_; have NB174_192 := n15_; have NB192_174 := n16_; have NB183_192 := n17_; have NB192_183 := n18_; clear n0_ n1_ n2_ n3_ n4_ n5_ n6_ n7_ n8_ n9_ n10_ n11_ n12_ n13_ n14_ n15_ n16_ n17_ n18_; clear hb hbox hg; have hnb42 := NB192_147.out; have hnc42 := NB147_192.out; have hnb43 := NB192_156.out; have hnc43 := NB156_192.out; have hnb44 := NB192_165.out; have hnc44 := NB165_192.out; have hnb45 := NB192_174.out; have hnc45 := NB174_192.out; have hnb46 := NB192_183.out; have hnc46 := NB183_192.out; have hcz47_0 : w41.cell? ⟨gb192, 0, none⟩ = some (.int .i64 0) := (blk_cell BK192.out 0).trans rfl; have hcz47_1 : w41.cell? ⟨gb192, 1, none⟩ = some (.int .i64 0) := (blk_cell BK192.out 1).trans rfl; have hcz47_2 : w41.cell? ⟨gb192, 2, none⟩ = some (.int .i64 0) := (blk_cell BK192.out 2).trans rfl; have hcz47_3 : w41.cell? ⟨gb192, 3, none⟩ = some (.int .i64 0) := (blk_cell BK192.out 3).trans rfl; have hcz47_4 : w41.cell? ⟨gb192, 4, none⟩ = some (.int .i64 0) := (blk_cell BK192.out 4).trans rfl; have hcz47_5 : w41.cell? ⟨gb192, 5, none⟩ = some (.int .i64 0) := (blk_cell BK192.out 5).trans rfl; have hcz47_6 : w41.cell? ⟨gb192, 6, none⟩ = some (.int .i64 0) := (blk_cell BK192.out 6).trans rfl; have hfz47_0 := blk_frozen BK192.out 0; have hfz47_1 := blk_frozen BK192.out 1; have hfz47_2 := blk_frozen BK192.out 2; have hfz47_3 := blk_frozen BK192.out 3; have hfz47_4 := blk_frozen BK192.out 4; have hfz47_5 := blk_frozen BK192.out 5; have hfz47_6 := blk_frozen BK192.out 6; have hcz48_0 : w41.cell? ⟨gb147, 0, none⟩ = some (.int .i64 24) := (blk_cell BK147.out 0).trans rfl; have hcz48_1 : w41.cell? ⟨gb147, 1, none⟩ = some (.int .i64 8) := (blk_cell BK147.out 1).trans rfl; have hcz48_2 : w41.cell? ⟨gb147, 2, none⟩ = some (.int .i64 24) := (blk_cell BK147.out 2).trans rfl; have hcz48_3 : w41.cell? ⟨gb147, 3, none⟩ = some (.int .i64 0) := (blk_cell BK147.out 3).trans rfl; have hcz48_4 : w41.cell? ⟨gb147, 4, none⟩ = some (.int .i64 0) := (blk_cell BK147.out 4).trans rfl; have hcz48_5 : w41.cell? ⟨gb147, 5, none⟩ = some (.int .i64 10) := (blk_cell BK147.out 5).trans rfl; have hcz48_6 : w41.cell? ⟨gb147, 6, none⟩ = some (.int .i64 16) := (blk_cell BK147.out 6).trans rfl; have hfz48_0 := blk_frozen BK147.out 0; have hfz48_1 := blk_frozen BK147.out 1; have hfz48_2 := blk_frozen BK147.out 2; have hfz48_3 := blk_frozen BK147.out 3; have hfz48_4 := blk_frozen BK147.out 4; have hfz48_5 := blk_frozen BK147.out 5; have hfz48_6 := blk_frozen BK147.out 6; have hcz49_0 : w41.cell? ⟨gb156, 0, none⟩ = some (.int .i64 100) := (blk_cell BK156.out 0).trans rfl; have hcz49_1 : w41.cell? ⟨gb156, 1, none⟩ = some (.int .i64 8) := (blk_cell BK156.out 1).trans rfl; have hcz49_2 : w41.cell? ⟨gb156, 2, none⟩ = some (.int .i64 104) := (blk_cell BK156.out 2).trans rfl; have hcz49_3 : w41.cell? ⟨gb156, 3, none⟩ = some (.int .i64 0) := (blk_cell BK156.out 3).trans rfl; have hcz49_4 : w41.cell? ⟨gb156, 4, none⟩ = some (.int .i64 2) := (blk_cell BK156.out 4).trans rfl; have hcz49_5 : w41.cell? ⟨gb156, 5, none⟩ = some (.int .i64 9) := (blk_cell BK156.out 5).trans rfl; have hcz49_6 : w41.cell? ⟨gb156, 6, none⟩ = some (.int .i64 88) := (blk_cell BK156.out 6).trans rfl; have hfz49_0 := blk_frozen BK156.out 0; have hfz49_1 := blk_frozen BK156.out 1; have hfz49_2 := blk_frozen BK156.out 2; have hfz49_3 := blk_frozen BK156.out 3; have hfz49_4 := blk_frozen BK156.out 4; have hfz49_5 := blk_frozen BK156.out 5; have hfz49_6 := blk_frozen BK156.out 6; have hcz50_0 : w41.cell? ⟨gb165, 0, none⟩ = some (.int .i64 8) := (blk_cell BK165.out 0).trans rfl; have hcz50_1 : w41.cell? ⟨gb165, 1, none⟩ = some (.int .i64 1) := (blk_cell BK165.out 1).trans rfl; have hcz50_2 : w41.cell? ⟨gb165, 2, none⟩ = some (.int .i64 24) := (blk_cell BK165.out 2).trans rfl; have hcz50_3 : w41.cell? ⟨gb165, 3, none⟩ = some (.int .i64 8) := (blk_cell BK165.out 3).trans rfl; have hcz50_4 : w41.cell? ⟨gb165, 4, none⟩ = some (.int .i64 0) := (blk_cell BK165.out 4).trans rfl; have hcz50_5 : w41.cell? ⟨gb165, 5, none⟩ = some (.int .i64 10) := (blk_cell BK165.out 5).trans rfl; have hcz50_6 : w41.cell? ⟨gb165, 6, none⟩ = some (.int .i64 16) := (blk_cell BK165.out 6).trans rfl; have hfz50_0 := blk_frozen BK165.out 0; have hfz50_1 := blk_frozen BK165.out 1; have hfz50_2 := blk_frozen BK165.out 2; have hfz50_3 := blk_frozen BK165.out 3; have hfz50_4 := blk_frozen BK165.out 4; have hfz50_5 := blk_frozen BK165.out 5; have hfz50_6 := blk_frozen BK165.out 6))
  go_ret
  exact ⟨by first | rfl | (simp [errW_none, errW_some] <;> rfl) | (simp [*, errW_none, errW_some] <;> rfl), by repeat (first | (with_reducible first | exact HB.out | apply below_alloc | apply pw_below_drewN | apply below_drew1 | refine below_set ?_ GE147.out | refine below_set ?_ GE156.out | refine below_set ?_ GE165.out | refine below_set ?_ GE174.out | refine below_set ?_ GE183.out | refine below_set ?_ GE192.out) | exact HB.out)⟩
def wainscotlaw15_works.f : Option (Bool) := some true
theorem wainscotlaw15_works.calls (r : Bool) (w : World) (h : wainscotlaw15_works.f = some r) :
    Calls Try.prog 10 #[] w fun e w' => e = .returned (.bool r) ∧ Below w.heap.size w w' := by
  unfold wainscotlaw15_works.f at h
  obtain rfl := Option.some.inj h
  exact wainscotlaw15_works.leaf w (by kernel_rfl) (by kernel_rfl) (by kernel_rfl) (by kernel_rfl) (by kernel_rfl) (by kernel_rfl)


/-! ### wainscotlaw15_LayoutOf: function 3 -/
def wainscotlaw15_LayoutOf.f (a0 : Int) (a1 : Int) (a2 : Bool) : Option (Bool) := (layout_Of.f a0 a1 a2).bind fun bt105 => ((wainscotref15_Of.f a0 a1 a2).bind fun bt114 => (if (bt105.1 == bt114.1 && (bt105.2.1 == bt114.2.1 && (bt105.2.2.1 == bt114.2.2.1 && (bt105.2.2.2.1 == bt114.2.2.2.1 && (bt105.2.2.2.2.1 == bt114.2.2.2.2.1 && (bt105.2.2.2.2.2.1 == bt114.2.2.2.2.2.1 && (bt105.2.2.2.2.2.2.1 == bt114.2.2.2.2.2.2.1))))))) = true then (if bt105.2.2.2.2.2.2.2 = bt114.2.2.2.2.2.2.2 then ((wainscotlaw15_works.f).bind fun t123 => (some t123)) else (some false)) else (some false)))
set_option maxHeartbeats 8000000 in
set_option maxRecDepth 100000 in
theorem wainscotlaw15_LayoutOf.calls (a0 : Int) (a1 : Int) (a2 : Bool) (r : Bool) (w : World) (h : wainscotlaw15_LayoutOf.f a0 a1 a2 = some r) :
    Calls Try.prog 3 #[.int .i64 a0, .int .i64 a1, .bool a2] w fun e w' => e = .returned (.bool r) ∧ Below w.heap.size w w' := by
  have hu23 := Try.underlying23
  have HB := Aside0.mk (Below.refl w.heap.size w)
  have H : ((layout_Of.f a0 a1 a2).bind fun bt105 => ((wainscotref15_Of.f a0 a1 a2).bind fun bt114 => (if (bt105.1 == bt114.1 && (bt105.2.1 == bt114.2.1 && (bt105.2.2.1 == bt114.2.2.1 && (bt105.2.2.2.1 == bt114.2.2.2.1 && (bt105.2.2.2.2.1 == bt114.2.2.2.2.1 && (bt105.2.2.2.2.2.1 == bt114.2.2.2.2.2.1 && (bt105.2.2.2.2.2.2.1 == bt114.2.2.2.2.2.2.1))))))) = true then (if bt105.2.2.2.2.2.2.2 = bt114.2.2.2.2.2.2.2 then ((wainscotlaw15_works.f).bind fun t123 => (some t123)) else (some false)) else (some false)))) = some r := h
  clear h
  replace H := Option.bind_eq_some_iff.mp H
  obtain ⟨⟨t105, t106, t107, t108, t109, t110, t111, t112⟩, A40, H⟩ := H
  replace H : ((wainscotref15_Of.f a0 a1 a2).bind fun bt114 => (if (t105 == bt114.1 && (t106 == bt114.2.1 && (t107 == bt114.2.2.1 && (t108 == bt114.2.2.2.1 && (t109 == bt114.2.2.2.2.1 && (t110 == bt114.2.2.2.2.2.1 && (t111 == bt114.2.2.2.2.2.2.1))))))) = true then (if t112 = bt114.2.2.2.2.2.2.2 then ((wainscotlaw15_works.f).bind fun t123 => (some t123)) else (some false)) else (some false))) = some r := H
  have A4 := Aside0.mk A40
  clear A40
  replace H := Option.bind_eq_some_iff.mp H
  obtain ⟨⟨t114, t115, t116, t117, t118, t119, t120, t121⟩, A50, H⟩ := H
  replace H : (if (t105 == t114 && (t106 == t115 && (t107 == t116 && (t108 == t117 && (t109 == t118 && (t110 == t119 && (t111 == t120))))))) = true then (if t112 = t121 then ((wainscotlaw15_works.f).bind fun t123 => (some t123)) else (some false)) else (some false)) = some r := H
  have A5 := Aside0.mk A50
  clear A50
  by_cases c6 : (t105 == t114 && (t106 == t115 && (t107 == t116 && (t108 == t117 && (t109 == t118 && (t110 == t119 && (t111 == t120))))))) = true
  · rw [if_pos c6] at H
    have c6b0 : (t105 == t114 && (t106 == t115 && (t107 == t116 && (t108 == t117 && (t109 == t118 && (t110 == t119 && (t111 == t120))))))) = true := c6
    (try (have c6b1 : decide (t105 = t114 && (t106 == t115 && (t107 == t116 && (t108 == t117 && (t109 == t118 && (t110 == t119 && (t111 == t120))))))) = true := by simpa using c6))
    (try (have c6b2 : (t105 == t114 && (t106 == t115 && (t107 == t116 && (t108 == t117 && (t109 == t118 && (t110 == t119 && (t111 == t120))))))) = true := by simpa using c6))
    clear c6
    by_cases c7 : t112 = t121
    · rw [if_pos c7] at H
      have c7b0 : (t112 == t121) = true := beq_iff_eq.mpr c7
      have c7b1 : (t112 != t121) = false := bne_eq_false_iff_eq.mpr c7
      clear c7
      replace H := Option.bind_eq_some_iff.mp H
      obtain ⟨t123, A80, H⟩ := H
      replace H : (some t123) = some r := H
      have A8 := Aside0.mk A80
      clear A80
      obtain rfl := Option.some.inj H
      go_enter Try.func3, Try.ntmps3
      go_wp2_with (first | ((with_reducible refine gate_callee (f := 8) rfl ?_); refine goesL_ (some 15) rfl rfl Try.func8 (by kernel_rfl) rfl #[.int .i64 a0, .int .i64 a1, .bool a2] rfl (by (try simp only [List.map_toArray, List.map_cons, List.map_nil]); first | done | rfl | (simp only [List.length_drop, List.length_take]; rfl)) ?_; (with_reducible refine (layout_Of.calls a0 a1 a2 t105 t106 t107 t108 t109 t110 t111 t112 _ A4.out).mono ?_); rintro e w9 ⟨rfl, hb⟩; refine ⟨_, rfl, ?_⟩; have n0_ := Aside0.mk (below_step (by repeat (first | (with_reducible first | exact HB.out | apply below_alloc | apply pw_below_drewN | apply below_drew1) | exact HB.out)) hb); clear HB; have HB := n0_; clear n0_; (try clear hb); (try clear hb2); (try clear hk); (try clear hi)) | ((with_reducible refine gate_dst (N := 7) rfl ?_); refine box_event ?hg (N := 7) ?hd (cs := #[.int .i64 0, .int .i64 0, .int .i64 0, .int .i64 0, .int .i64 0, .int .i64 0, .int .i64 0]) (t := 23) ?hr ?_; (case hd => rfl); (case hg => rfl); (case hr => first | (go_simp; done) | (go_simp; rfl)); intro gb113 hg w10 hbox hb; have n0_ := Aside0.mk (below_step (by repeat (first | (with_reducible first | exact HB.out | apply below_alloc | apply pw_below_drewN | apply below_drew1) | exact HB.out)) hb); have n1_ := Aside0.mk (hbox); have n2_ := Aside0.mk ((by rw [hg]; exact (below_size (by repeat (first | (with_reducible first | exact HB.out | apply below_alloc | apply pw_below_drewN | apply below_drew1) | exact HB.out))) : w.heap.size ≤ gb113)); have n3_ := Aside0.mk ((by rw [hg]; exact (below_size (by repeat (first | (with_reducible first | exact HB.out | apply below_alloc | apply pw_below_drewN | apply below_drew1) | exact HB.out))) : w.heap.size ≤ gb113)); clear HB; have HB := n0_; have BK113 := n1_; have GW113 := n2_; have GE113 := n3_; clear n0_ n1_ n2_ n3_; clear hb hbox hg; have hcz11_0 : w10.cell? ⟨gb113, 0, none⟩ = some (.int .i64 0) := (blk_cell BK113.out 0).trans rfl; have hcz11_1 : w10.cell? ⟨gb113, 1, none⟩ = some (.int .i64 0) := (blk_cell BK113.out 1).trans rfl; have hcz11_2 : w10.cell? ⟨gb113, 2, none⟩ = some (.int .i64 0) := (blk_cell BK113.out 2).trans rfl; have hcz11_3 : w10.cell? ⟨gb113, 3, none⟩ = some (.int .i64 0) := (blk_cell BK113.out 3).trans rfl; have hcz11_4 : w10.cell? ⟨gb113, 4, none⟩ = some (.int .i64 0) := (blk_cell BK113.out 4).trans rfl; have hcz11_5 : w10.cell? ⟨gb113, 5, none⟩ = some (.int .i64 0) := (blk_cell BK113.out 5).trans rfl; have hcz11_6 : w10.cell? ⟨gb113, 6, none⟩ = some (.int .i64 0) := (blk_cell BK113.out 6).trans rfl; have hfz11_0 := blk_frozen BK113.out 0; have hfz11_1 := blk_frozen BK113.out 1; have hfz11_2 := blk_frozen BK113.out 2; have hfz11_3 := blk_frozen BK113.out 3; have hfz11_4 := blk_frozen BK113.out 4; have hfz11_5 := blk_frozen BK113.out 5; have hfz11_6 := blk_frozen BK113.out 6) | ((with_reducible refine gate_callee (f := 9) rfl ?_); refine goesL_ (some 22) rfl rfl Try.func9 (by kernel_rfl) rfl #[.int .i64 a0, .int .i64 a1, .bool a2] rfl (by (try simp only [List.map_toArray, List.map_cons, List.map_nil]); first | done | rfl | (simp only [List.length_drop, List.length_take]; rfl)) ?_; (with_reducible refine (wainscotref15_Of.calls a0 a1 a2 t114 t115 t116 t117 t118 t119 t120 t121 _ A5.out).mono ?_); rintro e w12 ⟨rfl, hb⟩; refine ⟨_, rfl, ?_⟩; have n0_ := Aside0.mk (blk_below (g := gb113) (o := .cells #[.int .i64 t105, .int .i64 t106, .int .i64 t107, .int .i64 t108, .int .i64 t109, .int .i64 t110, .int .i64 t111] 23 (0, 0)) (by (with_reducible repeat (first | refine blk_drewN ?_ _ | refine blk_drew ?_ | refine blk_alloc ?_ _)); refine blk_put (cs := #[.int .i64 t105, .int .i64 t106, .int .i64 t107, .int .i64 t108, .int .i64 t109, .int .i64 t110, .int .i64 0]) ?_ 6 _ rfl; (with_reducible repeat (first | refine blk_drewN ?_ _ | refine blk_drew ?_ | refine blk_alloc ?_ _)); refine blk_put (cs := #[.int .i64 t105, .int .i64 t106, .int .i64 t107, .int .i64 t108, .int .i64 t109, .int .i64 0, .int .i64 0]) ?_ 5 _ rfl; (with_reducible repeat (first | refine blk_drewN ?_ _ | refine blk_drew ?_ | refine blk_alloc ?_ _)); refine blk_put (cs := #[.int .i64 t105, .int .i64 t106, .int .i64 t107, .int .i64 t108, .int .i64 0, .int .i64 0, .int .i64 0]) ?_ 4 _ rfl; (with_reducible repeat (first | refine blk_drewN ?_ _ | refine blk_drew ?_ | refine blk_alloc ?_ _)); refine blk_put (cs := #[.int .i64 t105, .int .i64 t106, .int .i64 t107, .int .i64 0, .int .i64 0, .int .i64 0, .int .i64 0]) ?_ 3 _ rfl; (with_reducible repeat (first | refine blk_drewN ?_ _ | refine blk_drew ?_ | refine blk_alloc ?_ _)); refine blk_put (cs := #[.int .i64 t105, .int .i64 t106, .int .i64 0, .int .i64 0, .int .i64 0, .int .i64 0, .int .i64 0]) ?_ 2 _ rfl; (with_reducible repeat (first | refine blk_drewN ?_ _ | refine blk_drew ?_ | refine blk_alloc ?_ _)); refine blk_put (cs := #[.int .i64 t105, .int .i64 0, .int .i64 0, .int .i64 0, .int .i64 0, .int .i64 0, .int .i64 0]) ?_ 1 _ rfl; (with_reducible repeat (first | refine blk_drewN ?_ _ | refine blk_drew ?_ | refine blk_alloc ?_ _)); refine blk_put (cs := #[.int .i64 0, .int .i64 0, .int .i64 0, .int .i64 0, .int .i64 0, .int .i64 0, .int .i64 0]) ?_ 0 _ rfl; (with_reducible repeat (first | refine blk_drewN ?_ _ | refine blk_drew ?_ | refine blk_alloc ?_ _)); exact BK113.out) hb); have n1_ := Aside0.mk (below_step (by repeat (first | (with_reducible first | exact HB.out | apply below_alloc | apply pw_below_drewN | apply below_drew1 | refine below_set ?_ GE113.out) | exact HB.out)) hb); clear BK113; clear HB; have BK113 := n0_; have HB := n1_; clear n0_ n1_; (try clear hb); (try clear hb2); (try clear hk); (try clear hi)) | ((with_reducible refine gate_dst (N := 9) rfl ?_); refine box_event ?hg (N := 9) ?hd (cs := #[.int .i64 0, .int .i64 0, .int .i64 0, .int .i64 0, .int .i64 0, .int .i64 0, .int .i64 0]) (t := 23) ?hr ?_; (case hd => rfl); (case hg => rfl); (case hr => first | (go_simp; done) | (go_simp; rfl)); intro gb122 hg w13 hbox hb; have n0_ := Aside0.mk (blk_below (g := gb113) (o := .cells #[.int .i64 t105, .int .i64 t106, .int .i64 t107, .int .i64 t108, .int .i64 t109, .int .i64 t110, .int .i64 t111] 23 (0, 0)) (by (with_reducible repeat (first | refine blk_drewN ?_ _ | refine blk_drew ?_ | refine blk_alloc ?_ _)); exact BK113.out) hb); have n1_ := Aside0.mk (below_step (by repeat (first | (with_reducible first | exact HB.out | apply below_alloc | apply pw_below_drewN | apply below_drew1 | refine below_set ?_ GE113.out) | exact HB.out)) hb); have n2_ := Aside0.mk (hbox); have n3_ := Aside0.mk ((by rw [hg]; exact (below_size (by repeat (first | (with_reducible first | exact HB.out | apply below_alloc | apply pw_below_drewN | apply below_drew1 | refine below_set ?_ GE113.out) | exact HB.out))) : w.heap.size ≤ gb122)); have n4_ := Aside0.mk ((by rw [hg]; exact (below_size (by repeat (first | (with_reducible first | exact HB.out | apply below_alloc | apply pw_below_drewN | apply below_drew1 | refine below_set ?_ GE113.out) | exact HB.out))) : w.heap.size ≤ gb122)); have n5_ := Aside0.mk ((by rw [hg]; exact Nat.ne_of_lt (blk_lt (g := gb113) (o := .cells #[.int .i64 t105, .int .i64 t106, .int .i64 t107, .int .i64 t108, .int .i64 t109, .int .i64 t110, .int .i64 t111] 23 (0, 0)) (by (with_reducible repeat (first | refine blk_drewN ?_ _ | refine blk_drew ?_ | refine blk_alloc ?_ _)); exact BK113.out)) : gb113 ≠ gb122)); have n6_ := Aside0.mk ((by rw [hg]; exact Nat.ne_of_gt (blk_lt (g := gb113) (o := .cells #[.int .i64 t105, .int .i64 t106, .int .i64 t107, .int .i64 t108, .int .i64 t109, .int .i64 t110, .int .i64 t111] 23 (0, 0)) (by (with_reducible repeat (first | refine blk_drewN ?_ _ | refine blk_drew ?_ | refine blk_alloc ?_ _)); exact BK113.out)) : gb122 ≠ gb113)); clear BK113; clear HB; have BK113 := n0_; have HB := n1_; have BK122 := n2_; have GW122 := n3_; have GE122 := n4_; have NB113_122 := n5_; have NB122_113 := n6_; clear n0_ n1_ n2_ n3_ n4_ n5_ n6_; clear hb hbox hg; have hnb14 := NB122_113.out; have hnc14 := NB113_122.out; have hcz15_0 : w13.cell? ⟨gb122, 0, none⟩ = some (.int .i64 0) := (blk_cell BK122.out 0).trans rfl; have hcz15_1 : w13.cell? ⟨gb122, 1, none⟩ = some (.int .i64 0) := (blk_cell BK122.out 1).trans rfl; have hcz15_2 : w13.cell? ⟨gb122, 2, none⟩ = some (.int .i64 0) := (blk_cell BK122.out 2).trans rfl; have hcz15_3 : w13.cell? ⟨gb122, 3, none⟩ = some (.int .i64 0) := (blk_cell BK122.out 3).trans rfl; have hcz15_4 : w13.cell? ⟨gb122, 4, none⟩ = some (.int .i64 0) := (blk_cell BK122.out 4).trans rfl; have hcz15_5 : w13.cell? ⟨gb122, 5, none⟩ = some (.int .i64 0) := (blk_cell BK122.out 5).trans rfl; have hcz15_6 : w13.cell? ⟨gb122, 6, none⟩ = some (.int .i64 0) := (blk_cell BK122.out 6).trans rfl; have hfz15_0 := blk_frozen BK122.out 0; have hfz15_1 := blk_frozen BK122.out 1; have hfz15_2 := blk_frozen BK122.out 2; have hfz15_3 := blk_frozen BK122.out 3; have hfz15_4 := blk_frozen BK122.out 4; have hfz15_5 := blk_frozen BK122.out 5; have hfz15_6 := blk_frozen BK122.out 6; have hcz16_0 : w13.cell? ⟨gb113, 0, none⟩ = some (.int .i64 t105) := (blk_cell BK113.out 0).trans rfl; have hcz16_1 : w13.cell? ⟨gb113, 1, none⟩ = some (.int .i64 t106) := (blk_cell BK113.out 1).trans rfl; have hcz16_2 : w13.cell? ⟨gb113, 2, none⟩ = some (.int .i64 t107) := (blk_cell BK113.out 2).trans rfl; have hcz16_3 : w13.cell? ⟨gb113, 3, none⟩ = some (.int .i64 t108) := (blk_cell BK113.out 3).trans rfl; have hcz16_4 : w13.cell? ⟨gb113, 4, none⟩ = some (.int .i64 t109) := (blk_cell BK113.out 4).trans rfl; have hcz16_5 : w13.cell? ⟨gb113, 5, none⟩ = some (.int .i64 t110) := (blk_cell BK113.out 5).trans rfl; have hcz16_6 : w13.cell? ⟨gb113, 6, none⟩ = some (.int .i64 t111) := (blk_cell BK113.out 6).trans rfl; have hfz16_0 := blk_frozen BK113.out 0; have hfz16_1 := blk_frozen BK113.out 1; have hfz16_2 := blk_frozen BK113.out 2; have hfz16_3 := blk_frozen BK113.out 3; have hfz16_4 := blk_frozen BK113.out 4; have hfz16_5 := blk_frozen BK113.out 5; have hfz16_6 := blk_frozen BK113.out 6) | (go_at_call 10; (with_reducible refine (wainscotlaw15_works.calls  t123 _ A8.out).mono ?_); rintro e w17 ⟨rfl, hb⟩; have n0_ := Aside0.mk (blk_below (g := gb113) (o := .cells #[.int .i64 t105, .int .i64 t106, .int .i64 t107, .int .i64 t108, .int .i64 t109, .int .i64 t110, .int .i64 t111] 23 (0, 0)) (by (with_reducible repeat (first | refine blk_drewN ?_ _ | refine blk_drew ?_ | refine blk_alloc ?_ _)); refine blk_far ?_ NB113_122.out _; (with_reducible repeat (first | refine blk_drewN ?_ _ | refine blk_drew ?_ | refine blk_alloc ?_ _)); refine blk_far ?_ NB113_122.out _; (with_reducible repeat (first | refine blk_drewN ?_ _ | refine blk_drew ?_ | refine blk_alloc ?_ _)); refine blk_far ?_ NB113_122.out _; (with_reducible repeat (first | refine blk_drewN ?_ _ | refine blk_drew ?_ | refine blk_alloc ?_ _)); refine blk_far ?_ NB113_122.out _; (with_reducible repeat (first | refine blk_drewN ?_ _ | refine blk_drew ?_ | refine blk_alloc ?_ _)); refine blk_far ?_ NB113_122.out _; (with_reducible repeat (first | refine blk_drewN ?_ _ | refine blk_drew ?_ | refine blk_alloc ?_ _)); refine blk_far ?_ NB113_122.out _; (with_reducible repeat (first | refine blk_drewN ?_ _ | refine blk_drew ?_ | refine blk_alloc ?_ _)); refine blk_far ?_ NB113_122.out _; (with_reducible repeat (first | refine blk_drewN ?_ _ | refine blk_drew ?_ | refine blk_alloc ?_ _)); exact BK113.out) hb); have n1_ := Aside0.mk (blk_below (g := gb122) (o := .cells #[.int .i64 t114, .int .i64 t115, .int .i64 t116, .int .i64 t117, .int .i64 t118, .int .i64 t119, .int .i64 t120] 23 (0, 0)) (by (with_reducible repeat (first | refine blk_drewN ?_ _ | refine blk_drew ?_ | refine blk_alloc ?_ _)); refine blk_put (cs := #[.int .i64 t114, .int .i64 t115, .int .i64 t116, .int .i64 t117, .int .i64 t118, .int .i64 t119, .int .i64 0]) ?_ 6 _ rfl; (with_reducible repeat (first | refine blk_drewN ?_ _ | refine blk_drew ?_ | refine blk_alloc ?_ _)); refine blk_put (cs := #[.int .i64 t114, .int .i64 t115, .int .i64 t116, .int .i64 t117, .int .i64 t118, .int .i64 0, .int .i64 0]) ?_ 5 _ rfl; (with_reducible repeat (first | refine blk_drewN ?_ _ | refine blk_drew ?_ | refine blk_alloc ?_ _)); refine blk_put (cs := #[.int .i64 t114, .int .i64 t115, .int .i64 t116, .int .i64 t117, .int .i64 0, .int .i64 0, .int .i64 0]) ?_ 4 _ rfl; (with_reducible repeat (first | refine blk_drewN ?_ _ | refine blk_drew ?_ | refine blk_alloc ?_ _)); refine blk_put (cs := #[.int .i64 t114, .int .i64 t115, .int .i64 t116, .int .i64 0, .int .i64 0, .int .i64 0, .int .i64 0]) ?_ 3 _ rfl; (with_reducible repeat (first | refine blk_drewN ?_ _ | refine blk_drew ?_ | refine blk_alloc ?_ _)); refine blk_put (cs := #[.int .i64 t114, .int .i64 t115, .int .i64 0, .int .i64 0, .int .i64 0, .int .i64 0, .int .i64 0]) ?_ 2 _ rfl; (with_reducible repeat (first | refine blk_drewN ?_ _ | refine blk_drew ?_ | refine blk_alloc ?_ _)); refine blk_put (cs := #[.int .i64 t114, .int .i64 0, .int .i64 0, .int .i64 0, .int .i64 0, .int .i64 0, .int .i64 0]) ?_ 1 _ rfl; (with_reducible repeat (first | refine blk_drewN ?_ _ | refine blk_drew ?_ | refine blk_alloc ?_ _)); refine blk_put (cs := #[.int .i64 0, .int .i64 0, .int .i64 0, .int .i64 0, .int .i64 0, .int .i64 0, .int .i64 0]) ?_ 0 _ rfl; (with_reducible repeat (first | refine blk_drewN ?_ _ | refine blk_drew ?_ | refine blk_alloc ?_ _)); exact BK122.out) hb); have n2_ := Aside0.mk (below_step (by repeat (first | (with_reducible first | exact HB.out | apply below_alloc | apply pw_below_drewN | apply below_drew1 | refine below_set ?_ GE113.out | refine below_set ?_ GE122.out) | exact HB.out)) hb); clear BK113; clear BK122; clear HB; have BK113 := n0_; have BK122 := n1_; have HB := n2_; clear n0_ n1_ n2_; (try clear hb); (try clear hb2); (try clear hk); (try clear hi)))
      go_ret
      exact ⟨by first | rfl | (simp [errW_none, errW_some] <;> rfl) | (simp [*, errW_none, errW_some] <;> rfl), by repeat (first | (with_reducible first | exact HB.out | apply below_alloc | apply pw_below_drewN | apply below_drew1 | refine below_set ?_ GE113.out | refine below_set ?_ GE122.out) | exact HB.out)⟩
    · rw [if_neg c7] at H
      have c7b0 : (t112 == t121) = false := beq_eq_false_iff_ne.mpr c7
      have c7b1 : (t112 != t121) = true := bne_iff_ne.mpr c7
      obtain rfl := Option.some.inj H
      go_enter Try.func3, Try.ntmps3
      go_wp2_with (first | ((with_reducible refine gate_callee (f := 8) rfl ?_); refine goesL_ (some 15) rfl rfl Try.func8 (by kernel_rfl) rfl #[.int .i64 a0, .int .i64 a1, .bool a2] rfl (by (try simp only [List.map_toArray, List.map_cons, List.map_nil]); first | done | rfl | (simp only [List.length_drop, List.length_take]; rfl)) ?_; (with_reducible refine (layout_Of.calls a0 a1 a2 t105 t106 t107 t108 t109 t110 t111 t112 _ A4.out).mono ?_); rintro e w18 ⟨rfl, hb⟩; refine ⟨_, rfl, ?_⟩; have n0_ := Aside0.mk (below_step (by repeat (first | (with_reducible first | exact HB.out | apply below_alloc | apply pw_below_drewN | apply below_drew1) | exact HB.out)) hb); clear HB; have HB := n0_; clear n0_; (try clear hb); (try clear hb2); (try clear hk); (try clear hi)) | ((with_reducible refine gate_dst (N := 7) rfl ?_); refine box_event ?hg (N := 7) ?hd (cs := #[.int .i64 0, .int .i64 0, .int .i64 0, .int .i64 0, .int .i64 0, .int .i64 0, .int .i64 0]) (t := 23) ?hr ?_; (case hd => rfl); (case hg => rfl); (case hr => first | (go_simp; done) | (go_simp; rfl)); intro gb113 hg w19 hbox hb; have n0_ := Aside0.mk (below_step (by repeat (first | (with_reducible first | exact HB.out | apply below_alloc | apply pw_below_drewN | apply below_drew1) | exact HB.out)) hb); have n1_ := Aside0.mk (hbox); have n2_ := Aside0.mk ((by rw [hg]; exact (below_size (by repeat (first | (with_reducible first | exact HB.out | apply below_alloc | apply pw_below_drewN | apply below_drew1) | exact HB.out))) : w.heap.size ≤ gb113)); have n3_ := Aside0.mk ((by rw [hg]; exact (below_size (by repeat (first | (with_reducible first | exact HB.out | apply below_alloc | apply pw_below_drewN | apply below_drew1) | exact HB.out))) : w.heap.size ≤ gb113)); clear HB; have HB := n0_; have BK113 := n1_; have GW113 := n2_; have GE113 := n3_; clear n0_ n1_ n2_ n3_; clear hb hbox hg; have hcz20_0 : w19.cell? ⟨gb113, 0, none⟩ = some (.int .i64 0) := (blk_cell BK113.out 0).trans rfl; have hcz20_1 : w19.cell? ⟨gb113, 1, none⟩ = some (.int .i64 0) := (blk_cell BK113.out 1).trans rfl; have hcz20_2 : w19.cell? ⟨gb113, 2, none⟩ = some (.int .i64 0) := (blk_cell BK113.out 2).trans rfl; have hcz20_3 : w19.cell? ⟨gb113, 3, none⟩ = some (.int .i64 0) := (blk_cell BK113.out 3).trans rfl; have hcz20_4 : w19.cell? ⟨gb113, 4, none⟩ = some (.int .i64 0) := (blk_cell BK113.out 4).trans rfl; have hcz20_5 : w19.cell? ⟨gb113, 5, none⟩ = some (.int .i64 0) := (blk_cell BK113.out 5).trans rfl; have hcz20_6 : w19.cell? ⟨gb113, 6, none⟩ = some (.int .i64 0) := (blk_cell BK113.out 6).trans rfl; have hfz20_0 := blk_frozen BK113.out 0; have hfz20_1 := blk_frozen BK113.out 1; have hfz20_2 := blk_frozen BK113.out 2; have hfz20_3 := blk_frozen BK113.out 3; have hfz20_4 := blk_frozen BK113.out 4; have hfz20_5 := blk_frozen BK113.out 5; have hfz20_6 := blk_frozen BK113.out 6) | ((with_reducible refine gate_callee (f := 9) rfl ?_); refine goesL_ (some 22) rfl rfl Try.func9 (by kernel_rfl) rfl #[.int .i64 a0, .int .i64 a1, .bool a2] rfl (by (try simp only [List.map_toArray, List.map_cons, List.map_nil]); first | done | rfl | (simp only [List.length_drop, List.length_take]; rfl)) ?_; (with_reducible refine (wainscotref15_Of.calls a0 a1 a2 t114 t115 t116 t117 t118 t119 t120 t121 _ A5.out).mono ?_); rintro e w21 ⟨rfl, hb⟩; refine ⟨_, rfl, ?_⟩; have n0_ := Aside0.mk (blk_below (g := gb113) (o := .cells #[.int .i64 t105, .int .i64 t106, .int .i64 t107, .int .i64 t108, .int .i64 t109, .int .i64 t110, .int .i64 t111] 23 (0, 0)) (by (with_reducible repeat (first | refine blk_drewN ?_ _ | refine blk_drew ?_ | refine blk_alloc ?_ _)); refine blk_put (cs := #[.int .i64 t105, .int .i64 t106, .int .i64 t107, .int .i64 t108, .int .i64 t109, .int .i64 t110, .int .i64 0]) ?_ 6 _ rfl; (with_reducible repeat (first | refine blk_drewN ?_ _ | refine blk_drew ?_ | refine blk_alloc ?_ _)); refine blk_put (cs := #[.int .i64 t105, .int .i64 t106, .int .i64 t107, .int .i64 t108, .int .i64 t109, .int .i64 0, .int .i64 0]) ?_ 5 _ rfl; (with_reducible repeat (first | refine blk_drewN ?_ _ | refine blk_drew ?_ | refine blk_alloc ?_ _)); refine blk_put (cs := #[.int .i64 t105, .int .i64 t106, .int .i64 t107, .int .i64 t108, .int .i64 0, .int .i64 0, .int .i64 0]) ?_ 4 _ rfl; (with_reducible repeat (first | refine blk_drewN ?_ _ | refine blk_drew ?_ | refine blk_alloc ?_ _)); refine blk_put (cs := #[.int .i64 t105, .int .i64 t106, .int .i64 t107, .int .i64 0, .int .i64 0, .int .i64 0, .int .i64 0]) ?_ 3 _ rfl; (with_reducible repeat (first | refine blk_drewN ?_ _ | refine blk_drew ?_ | refine blk_alloc ?_ _)); refine blk_put (cs := #[.int .i64 t105, .int .i64 t106, .int .i64 0, .int .i64 0, .int .i64 0, .int .i64 0, .int .i64 0]) ?_ 2 _ rfl; (with_reducible repeat (first | refine blk_drewN ?_ _ | refine blk_drew ?_ | refine blk_alloc ?_ _)); refine blk_put (cs := #[.int .i64 t105, .int .i64 0, .int .i64 0, .int .i64 0, .int .i64 0, .int .i64 0, .int .i64 0]) ?_ 1 _ rfl; (with_reducible repeat (first | refine blk_drewN ?_ _ | refine blk_drew ?_ | refine blk_alloc ?_ _)); refine blk_put (cs := #[.int .i64 0, .int .i64 0, .int .i64 0, .int .i64 0, .int .i64 0, .int .i64 0, .int .i64 0]) ?_ 0 _ rfl; (with_reducible repeat (first | refine blk_drewN ?_ _ | refine blk_drew ?_ | refine blk_alloc ?_ _)); exact BK113.out) hb); have n1_ := Aside0.mk (below_step (by repeat (first | (with_reducible first | exact HB.out | apply below_alloc | apply pw_below_drewN | apply below_drew1 | refine below_set ?_ GE113.out) | exact HB.out)) hb); clear BK113; clear HB; have BK113 := n0_; have HB := n1_; clear n0_ n1_; (try clear hb); (try clear hb2); (try clear hk); (try clear hi)) | ((with_reducible refine gate_dst (N := 9) rfl ?_); refine box_event ?hg (N := 9) ?hd (cs := #[.int .i64 0, .int .i64 0, .int .i64 0, .int .i64 0, .int .i64 0, .int .i64 0, .int .i64 0]) (t := 23) ?hr ?_; (case hd => rfl); (case hg => rfl); (case hr => first | (go_simp; done) | (go_simp; rfl)); intro gb122 hg w22 hbox hb; have n0_ := Aside0.mk (blk_below (g := gb113) (o := .cells #[.int .i64 t105, .int .i64 t106, .int .i64 t107, .int .i64 t108, .int .i64 t109, .int .i64 t110, .int .i64 t111] 23 (0, 0)) (by (with_reducible repeat (first | refine blk_drewN ?_ _ | refine blk_drew ?_ | refine blk_alloc ?_ _)); exact BK113.out) hb); have n1_ := Aside0.mk (below_step (by repeat (first | (with_reducible first | exact HB.out | apply below_alloc | apply pw_below_drewN | apply below_drew1 | refine below_set ?_ GE113.out) | exact HB.out)) hb); have n2_ := Aside0.mk (hbox); have n3_ := Aside0.mk ((by rw [hg]; exact (below_size (by repeat (first | (with_reducible first | exact HB.out | apply below_alloc | apply pw_below_drewN | apply below_drew1 | refine below_set ?_ GE113.out) | exact HB.out))) : w.heap.size ≤ gb122)); have n4_ := Aside0.mk ((by rw [hg]; exact (below_size (by repeat (first | (with_reducible first | exact HB.out | apply below_alloc | apply pw_below_drewN | apply below_drew1 | refine below_set ?_ GE113.out) | exact HB.out))) : w.heap.size ≤ gb122)); have n5_ := Aside0.mk ((by rw [hg]; exact Nat.ne_of_lt (blk_lt (g := gb113) (o := .cells #[.int .i64 t105, .int .i64 t106, .int .i64 t107, .int .i64 t108, .int .i64 t109, .int .i64 t110, .int .i64 t111] 23 (0, 0)) (by (with_reducible repeat (first | refine blk_drewN ?_ _ | refine blk_drew ?_ | refine blk_alloc ?_ _)); exact BK113.out)) : gb113 ≠ gb122)); have n6_ := Aside0.mk ((by rw [hg]; exact Nat.ne_of_gt (blk_lt (g := gb113) (o := .cells #[.int .i64 t105, .int .i64 t106, .int .i64 t107, .int .i64 t108, .int .i64 t109, .int .i64 t110, .int .i64 t111] 23 (0, 0)) (by (with_reducible repeat (first | refine blk_drewN ?_ _ | refine blk_drew ?_ | refine blk_alloc ?_ _)); exact BK113.out)) : gb122 ≠ gb113)); clear BK113; clear HB; have BK113 := n0_; have HB := n1_; have BK122 := n2_; have GW122 := n3_; have GE122 := n4_; have NB113_122 := n5_; have NB122_113 := n6_; clear n0_ n1_ n2_ n3_ n4_ n5_ n6_; clear hb hbox hg; have hnb23 := NB122_113.out; have hnc23 := NB113_122.out; have hcz24_0 : w22.cell? ⟨gb122, 0, none⟩ = some (.int .i64 0) := (blk_cell BK122.out 0).trans rfl; have hcz24_1 : w22.cell? ⟨gb122, 1, none⟩ = some (.int .i64 0) := (blk_cell BK122.out 1).trans rfl; have hcz24_2 : w22.cell? ⟨gb122, 2, none⟩ = some (.int .i64 0) := (blk_cell BK122.out 2).trans rfl; have hcz24_3 : w22.cell? ⟨gb122, 3, none⟩ = some (.int .i64 0) := (blk_cell BK122.out 3).trans rfl; have hcz24_4 : w22.cell? ⟨gb122, 4, none⟩ = some (.int .i64 0) := (blk_cell BK122.out 4).trans rfl; have hcz24_5 : w22.cell? ⟨gb122, 5, none⟩ = some (.int .i64 0) := (blk_cell BK122.out 5).trans rfl; have hcz24_6 : w22.cell? ⟨gb122, 6, none⟩ = some (.int .i64 0) := (blk_cell BK122.out 6).trans rfl; have hfz24_0 := blk_frozen BK122.out 0; have hfz24_1 := blk_frozen BK122.out 1; have hfz24_2 := blk_frozen BK122.out 2; have hfz24_3 := blk_frozen BK122.out 3; have hfz24_4 := blk_frozen BK122.out 4; have hfz24_5 := blk_frozen BK122.out 5; have hfz24_6 := blk_frozen BK122.out 6; have hcz25_0 : w22.cell? ⟨gb113, 0, none⟩ = some (.int .i64 t105) := (blk_cell BK113.out 0).trans rfl; have hcz25_1 : w22.cell? ⟨gb113, 1, none⟩ = some (.int .i64 t106) := (blk_cell BK113.out 1).trans rfl; have hcz25_2 : w22.cell? ⟨gb113, 2, none⟩ = some (.int .i64 t107) := (blk_cell BK113.out 2).trans rfl; have hcz25_3 : w22.cell? ⟨gb113, 3, none⟩ = some (.int .i64 t108) := (blk_cell BK113.out 3).trans rfl; have hcz25_4 : w22.cell? ⟨gb113, 4, none⟩ = some (.int .i64 t109) := (blk_cell BK113.out 4).trans rfl; have hcz25_5 : w22.cell? ⟨gb113, 5, none⟩ = some (.int .i64 t110) := (blk_cell BK113.out 5).trans rfl; have hcz25_6 : w22.cell? ⟨gb113, 6, none⟩ = some (.int .i64 t111) := (blk_cell BK113.out 6).trans rfl; have hfz25_0 := blk_frozen BK113.out 0; have hfz25_1 := blk_frozen BK113.out 1; have hfz25_2 := blk_frozen BK113.out 2; have hfz25_3 := blk_frozen BK113.out 3; have hfz25_4 := blk_frozen BK113.out 4; have hfz25_5 := blk_frozen BK113.out 5; have hfz25_6 := blk_frozen BK113.out 6))
      go_ret
      exact ⟨by first | rfl | (simp [errW_none, errW_some] <;> rfl) | (simp [*, errW_none, errW_some] <;> rfl), by repeat (first | (with_reducible first | exact HB.out | apply below_alloc | apply pw_below_drewN | apply below_drew1 | refine below_set ?_ GE113.out | refine below_set ?_ GE122.out) | exact HB.out)⟩
  · rw [if_neg c6] at H
    have c6b0 : (t105 == t114 && (t106 == t115 && (t107 == t116 && (t108 == t117 && (t109 == t118 && (t110 == t119 && (t111 == t120))))))) = false := by simpa using c6
    (try (have c6b1 : decide (t105 = t114 && (t106 == t115 && (t107 == t116 && (t108 == t117 && (t109 == t118 && (t110 == t119 && (t111 == t120))))))) = false := by simpa using c6))
    (try (have c6b2 : (t105 == t114 && (t106 == t115 && (t107 == t116 && (t108 == t117 && (t109 == t118 && (t110 == t119 && (t111 == t120))))))) = false := by simpa using c6))
    (try (have c6b3 : ¬ (t105 = t114 && (t106 == t115 && (t107 == t116 && (t108 == t117 && (t109 == t118 && (t110 == t119 && (t111 == t120))))))) := by simpa using c6))
    clear c6
    obtain rfl := Option.some.inj H
    go_enter Try.func3, Try.ntmps3
    go_wp2_with (first | ((with_reducible refine gate_callee (f := 8) rfl ?_); refine goesL_ (some 15) rfl rfl Try.func8 (by kernel_rfl) rfl #[.int .i64 a0, .int .i64 a1, .bool a2] rfl (by (try simp only [List.map_toArray, List.map_cons, List.map_nil]); first | done | rfl | (simp only [List.length_drop, List.length_take]; rfl)) ?_; (with_reducible refine (layout_Of.calls a0 a1 a2 t105 t106 t107 t108 t109 t110 t111 t112 _ A4.out).mono ?_); rintro e w26 ⟨rfl, hb⟩; refine ⟨_, rfl, ?_⟩; have n0_ := Aside0.mk (below_step (by repeat (first | (with_reducible first | exact HB.out | apply below_alloc | apply pw_below_drewN | apply below_drew1) | exact HB.out)) hb); clear HB; have HB := n0_; clear n0_; (try clear hb); (try clear hb2); (try clear hk); (try clear hi)) | ((with_reducible refine gate_dst (N := 7) rfl ?_); refine box_event ?hg (N := 7) ?hd (cs := #[.int .i64 0, .int .i64 0, .int .i64 0, .int .i64 0, .int .i64 0, .int .i64 0, .int .i64 0]) (t := 23) ?hr ?_; (case hd => rfl); (case hg => rfl); (case hr => first | (go_simp; done) | (go_simp; rfl)); intro gb113 hg w27 hbox hb; have n0_ := Aside0.mk (below_step (by repeat (first | (with_reducible first | exact HB.out | apply below_alloc | apply pw_below_drewN | apply below_drew1) | exact HB.out)) hb); have n1_ := Aside0.mk (hbox); have n2_ := Aside0.mk ((by rw [hg]; exact (below_size (by repeat (first | (with_reducible first | exact HB.out | apply below_alloc | apply pw_below_drewN | apply below_drew1) | exact HB.out))) : w.heap.size ≤ gb113)); have n3_ := Aside0.mk ((by rw [hg]; exact (below_size (by repeat (first | (with_reducible first | exact HB.out | apply below_alloc | apply pw_below_drewN | apply below_drew1) | exact HB.out))) : w.heap.size ≤ gb113)); clear HB; have HB := n0_; have BK113 := n1_; have GW113 := n2_; have GE113 := n3_; clear n0_ n1_ n2_ n3_; clear hb hbox hg; have hcz28_0 : w27.cell? ⟨gb113, 0, none⟩ = some (.int .i64 0) := (blk_cell BK113.out 0).trans rfl; have hcz28_1 : w27.cell? ⟨gb113, 1, none⟩ = some (.int .i64 0) := (blk_cell BK113.out 1).trans rfl; have hcz28_2 : w27.cell? ⟨gb113, 2, none⟩ = some (.int .i64 0) := (blk_cell BK113.out 2).trans rfl; have hcz28_3 : w27.cell? ⟨gb113, 3, none⟩ = some (.int .i64 0) := (blk_cell BK113.out 3).trans rfl; have hcz28_4 : w27.cell? ⟨gb113, 4, none⟩ = some (.int .i64 0) := (blk_cell BK113.out 4).trans rfl; have hcz28_5 : w27.cell? ⟨gb113, 5, none⟩ = some (.int .i64 0) := (blk_cell BK113.out 5).trans rfl; have hcz28_6 : w27.cell? ⟨gb113, 6, none⟩ = some (.int .i64 0) := (blk_cell BK113.out 6).trans rfl; have hfz28_0 := blk_frozen BK113.out 0; have hfz28_1 := blk_frozen BK113.out 1; have hfz28_2 := blk_frozen BK113.out 2; have hfz28_3 := blk_frozen BK113.out 3; have hfz28_4 := blk_frozen BK113.out 4; have hfz28_5 := blk_frozen BK113.out 5; have hfz28_6 := blk_frozen BK113.out 6) | ((with_reducible refine gate_callee (f := 9) rfl ?_); refine goesL_ (some 22) rfl rfl Try.func9 (by kernel_rfl) rfl #[.int .i64 a0, .int .i64 a1, .bool a2] rfl (by (try simp only [List.map_toArray, List.map_cons, List.map_nil]); first | done | rfl | (simp only [List.length_drop, List.length_take]; rfl)) ?_; (with_reducible refine (wainscotref15_Of.calls a0 a1 a2 t114 t115 t116 t117 t118 t119 t120 t121 _ A5.out).mono ?_); rintro e w29 ⟨rfl, hb⟩; refine ⟨_, rfl, ?_⟩; have n0_ := Aside0.mk (blk_below (g := gb113) (o := .cells #[.int .i64 t105, .int .i64 t106, .int .i64 t107, .int .i64 t108, .int .i64 t109, .int .i64 t110, .int .i64 t111] 23 (0, 0)) (by (with_reducible repeat (first | refine blk_drewN ?_ _ | refine blk_drew ?_ | refine blk_alloc ?_ _)); refine blk_put (cs := #[.int .i64 t105, .int .i64 t106, .int .i64 t107, .int .i64 t108, .int .i64 t109, .int .i64 t110, .int .i64 0]) ?_ 6 _ rfl; (with_reducible repeat (first | refine blk_drewN ?_ _ | refine blk_drew ?_ | refine blk_alloc ?_ _)); refine blk_put (cs := #[.int .i64 t105, .int .i64 t106, .int .i64 t107, .int .i64 t108, .int .i64 t109, .int .i64 0, .int .i64 0]) ?_ 5 _ rfl; (with_reducible repeat (first | refine blk_drewN ?_ _ | refine blk_drew ?_ | refine blk_alloc ?_ _)); refine blk_put (cs := #[.int .i64 t105, .int .i64 t106, .int .i64 t107, .int .i64 t108, .int .i64 0, .int .i64 0, .int .i64 0]) ?_ 4 _ rfl; (with_reducible repeat (first | refine blk_drewN ?_ _ | refine blk_drew ?_ | refine blk_alloc ?_ _)); refine blk_put (cs := #[.int .i64 t105, .int .i64 t106, .int .i64 t107, .int .i64 0, .int .i64 0, .int .i64 0, .int .i64 0]) ?_ 3 _ rfl; (with_reducible repeat (first | refine blk_drewN ?_ _ | refine blk_drew ?_ | refine blk_alloc ?_ _)); refine blk_put (cs := #[.int .i64 t105, .int .i64 t106, .int .i64 0, .int .i64 0, .int .i64 0, .int .i64 0, .int .i64 0]) ?_ 2 _ rfl; (with_reducible repeat (first | refine blk_drewN ?_ _ | refine blk_drew ?_ | refine blk_alloc ?_ _)); refine blk_put (cs := #[.int .i64 t105, .int .i64 0, .int .i64 0, .int .i64 0, .int .i64 0, .int .i64 0, .int .i64 0]) ?_ 1 _ rfl; (with_reducible repeat (first | refine blk_drewN ?_ _ | refine blk_drew ?_ | refine blk_alloc ?_ _)); refine blk_put (cs := #[.int .i64 0, .int .i64 0, .int .i64 0, .int .i64 0, .int .i64 0, .int .i64 0, .int .i64 0]) ?_ 0 _ rfl; (with_reducible repeat (first | refine blk_drewN ?_ _ | refine blk_drew ?_ | refine blk_alloc ?_ _)); exact BK113.out) hb); have n1_ := Aside0.mk (below_step (by repeat (first | (with_reducible first | exact HB.out | apply below_alloc | apply pw_below_drewN | apply below_drew1 | refine below_set ?_ GE113.out) | exact HB.out)) hb); clear BK113; clear HB; have BK113 := n0_; have HB := n1_; clear n0_ n1_; (try clear hb); (try clear hb2); (try clear hk); (try clear hi)) | ((with_reducible refine gate_dst (N := 9) rfl ?_); refine box_event ?hg (N := 9) ?hd (cs := #[.int .i64 0, .int .i64 0, .int .i64 0, .int .i64 0, .int .i64 0, .int .i64 0, .int .i64 0]) (t := 23) ?hr ?_; (case hd => rfl); (case hg => rfl); (case hr => first | (go_simp; done) | (go_simp; rfl)); intro gb122 hg w30 hbox hb; have n0_ := Aside0.mk (blk_below (g := gb113) (o := .cells #[.int .i64 t105, .int .i64 t106, .int .i64 t107, .int .i64 t108, .int .i64 t109, .int .i64 t110, .int .i64 t111] 23 (0, 0)) (by (with_reducible repeat (first | refine blk_drewN ?_ _ | refine blk_drew ?_ | refine blk_alloc ?_ _)); exact BK113.out) hb); have n1_ := Aside0.mk (below_step (by repeat (first | (with_reducible first | exact HB.out | apply below_alloc | apply pw_below_drewN | apply below_drew1 | refine below_set ?_ GE113.out) | exact HB.out)) hb); have n2_ := Aside0.mk (hbox); have n3_ := Aside0.mk ((by rw [hg]; exact (below_size (by repeat (first | (with_reducible first | exact HB.out | apply below_alloc | apply pw_below_drewN | apply below_drew1 | refine below_set ?_ GE113.out) | exact HB.out))) : w.heap.size ≤ gb122)); have n4_ := Aside0.mk ((by rw [hg]; exact (below_size (by repeat (first | (with_reducible first | exact HB.out | apply below_alloc | apply pw_below_drewN | apply below_drew1 | refine below_set ?_ GE113.out) | exact HB.out))) : w.heap.size ≤ gb122)); have n5_ := Aside0.mk ((by rw [hg]; exact Nat.ne_of_lt (blk_lt (g := gb113) (o := .cells #[.int .i64 t105, .int .i64 t106, .int .i64 t107, .int .i64 t108, .int .i64 t109, .int .i64 t110, .int .i64 t111] 23 (0, 0)) (by (with_reducible repeat (first | refine blk_drewN ?_ _ | refine blk_drew ?_ | refine blk_alloc ?_ _)); exact BK113.out)) : gb113 ≠ gb122)); have n6_ := Aside0.mk ((by rw [hg]; exact Nat.ne_of_gt (blk_lt (g := gb113) (o := .cells #[.int .i64 t105, .int .i64 t106, .int .i64 t107, .int .i64 t108, .int .i64 t109, .int .i64 t110, .int .i64 t111] 23 (0, 0)) (by (with_reducible repeat (first | refine blk_drewN ?_ _ | refine blk_drew ?_ | refine blk_alloc ?_ _)); exact BK113.out)) : gb122 ≠ gb113)); clear BK113; clear HB; have BK113 := n0_; have HB := n1_; have BK122 := n2_; have GW122 := n3_; have GE122 := n4_; have NB113_122 := n5_; have NB122_113 := n6_; clear n0_ n1_ n2_ n3_ n4_ n5_ n6_; clear hb hbox hg; have hnb31 := NB122_113.out; have hnc31 := NB113_122.out; have hcz32_0 : w30.cell? ⟨gb122, 0, none⟩ = some (.int .i64 0) := (blk_cell BK122.out 0).trans rfl; have hcz32_1 : w30.cell? ⟨gb122, 1, none⟩ = some (.int .i64 0) := (blk_cell BK122.out 1).trans rfl; have hcz32_2 : w30.cell? ⟨gb122, 2, none⟩ = some (.int .i64 0) := (blk_cell BK122.out 2).trans rfl; have hcz32_3 : w30.cell? ⟨gb122, 3, none⟩ = some (.int .i64 0) := (blk_cell BK122.out 3).trans rfl; have hcz32_4 : w30.cell? ⟨gb122, 4, none⟩ = some (.int .i64 0) := (blk_cell BK122.out 4).trans rfl; have hcz32_5 : w30.cell? ⟨gb122, 5, none⟩ = some (.int .i64 0) := (blk_cell BK122.out 5).trans rfl; have hcz32_6 : w30.cell? ⟨gb122, 6, none⟩ = some (.int .i64 0) := (blk_cell BK122.out 6).trans rfl; have hfz32_0 := blk_frozen BK122.out 0; have hfz32_1 := blk_frozen BK122.out 1; have hfz32_2 := blk_frozen BK122.out 2; have hfz32_3 := blk_frozen BK122.out 3; have hfz32_4 := blk_frozen BK122.out 4; have hfz32_5 := blk_frozen BK122.out 5; have hfz32_6 := blk_frozen BK122.out 6; have hcz33_0 : w30.cell? ⟨gb113, 0, none⟩ = some (.int .i64 t105) := (blk_cell BK113.out 0).trans rfl; have hcz33_1 : w30.cell? ⟨gb113, 1, none⟩ = some (.int .i64 t106) := (blk_cell BK113.out 1).trans rfl; have hcz33_2 : w30.cell? ⟨gb113, 2, none⟩ = some (.int .i64 t107) := (blk_cell BK113.out 2).trans rfl; have hcz33_3 : w30.cell? ⟨gb113, 3, none⟩ = some (.int .i64 t108) := (blk_cell BK113.out 3).trans rfl; have hcz33_4 : w30.cell? ⟨gb113, 4, none⟩ = some (.int .i64 t109) := (blk_cell BK113.out 4).trans rfl; have hcz33_5 : w30.cell? ⟨gb113, 5, none⟩ = some (.int .i64 t110) := (blk_cell BK113.out 5).trans rfl; have hcz33_6 : w30.cell? ⟨gb113, 6, none⟩ = some (.int .i64 t111) := (blk_cell BK113.out 6).trans rfl; have hfz33_0 := blk_frozen BK113.out 0; have hfz33_1 := blk_frozen BK113.out 1; have hfz33_2 := blk_frozen BK113.out 2; have hfz33_3 := blk_frozen BK113.out 3; have hfz33_4 := blk_frozen BK113.out 4; have hfz33_5 := blk_frozen BK113.out 5; have hfz33_6 := blk_frozen BK113.out 6))
    go_ret
    exact ⟨by first | rfl | (simp [errW_none, errW_some] <;> rfl) | (simp [*, errW_none, errW_some] <;> rfl), by repeat (first | (with_reducible first | exact HB.out | apply below_alloc | apply pw_below_drewN | apply below_drew1 | refine below_set ?_ GE113.out | refine below_set ?_ GE122.out) | exact HB.out)⟩

/-- THE ONE PURE STATEMENT of wainscotlaw15_LayoutOf: yours. -/
def wainscotlaw15_LayoutOf.Pure : Prop := ∀ (a0 : Int) (a1 : Int) (a2 : Bool), (Lit.int .i64 a0).wf = true → (Lit.int .i64 a1).wf = true → wainscotlaw15_LayoutOf.f a0 a1 a2 = some true
theorem wainscotlaw15_LayoutOf.walk (P : wainscotlaw15_LayoutOf.Pure) (a0 : Int) (a1 : Int) (a2 : Bool) (w : World) (w0 : (Lit.int .i64 a0).wf = true) (w1 : (Lit.int .i64 a1).wf = true) :
    Calls Try.prog 3 #[.int .i64 a0, .int .i64 a1, .bool a2] w fun e w' => e = .returned (.bool true) ∧ Below w.heap.size w w' := by
  have h := P a0 a1 a2 w0 w1
  refine (wainscotlaw15_LayoutOf.calls a0 a1 a2 true w h).mono ?_
  rintro e w' ⟨rfl, hd⟩
  exact ⟨rfl, hd⟩

/-! ### wainscotref00_Bring: function 11 -/
def wainscotref00_Bring.f (a0 : Int) (a1 : Int) : Option (Int) := if a1 = 0 then (none) else (if (Int.tmod a0 a1) < 0 then (some (wrap64 ((Int.tmod a0 a1) + a1))) else (some (Int.tmod a0 a1)))
set_option maxHeartbeats 8000000 in
set_option maxRecDepth 100000 in
theorem wainscotref00_Bring.calls (a0 : Int) (a1 : Int) (r : Int) (w : World) (h : wainscotref00_Bring.f a0 a1 = some r) :
    Calls Try.prog 11 #[.int .i64 a0, .int .i64 a1] w fun e w' => e = .returned (.int .i64 r) ∧ Drawn0 w w' := by
  have H : (if a1 = 0 then (none) else (if (Int.tmod a0 a1) < 0 then (some (wrap64 ((Int.tmod a0 a1) + a1))) else (some (Int.tmod a0 a1)))) = some r := h
  clear h
  by_cases c3 : a1 = 0
  · rw [if_pos c3] at H
    exact absurd H (by simp)
  · rw [if_neg c3] at H
    have c3b0 : (a1 == 0) = false := beq_eq_false_iff_ne.mpr c3
    have c3b1 : (a1 != 0) = true := bne_iff_ne.mpr c3
    by_cases c4 : (Int.tmod a0 a1) < 0
    · rw [if_pos c4] at H
      have c4b0 : decide ((Int.tmod a0 a1) < 0) = true := decide_eq_true c4
      clear c4
      obtain rfl := Option.some.inj H
      go_enter Try.func11, Try.ntmps11
      go_wp2
      go_ret
      exact ⟨by first | rfl | (simp; done) | (simp [*]; done), by repeat (first | exact Drawn0.refl _ | apply Drawn0.step)⟩
    · rw [if_neg c4] at H
      have c4b0 : decide ((Int.tmod a0 a1) < 0) = false := decide_eq_false c4
      clear c4
      obtain rfl := Option.some.inj H
      go_enter Try.func11, Try.ntmps11
      go_wp2
      go_ret
      exact ⟨by first | rfl | (simp; done) | (simp [*]; done), by repeat (first | exact Drawn0.refl _ | apply Drawn0.step)⟩

end Go.Proofs.Ytanolcldeeglmaa.G
