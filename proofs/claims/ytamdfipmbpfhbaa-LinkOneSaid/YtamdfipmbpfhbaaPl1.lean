/- What turned, Hide and Show answer (program and document), in plain numbers. -/
import Derived.Test.YtamdfipmbpfhbaaG1
import Derived.Laws.BitsAllLaws
import Derived.OpenShut
namespace Go.Proofs.Ytamdfipmbpfhbaa.Pl
open Go.RowKit Go.Proofs.Ytamdfipmbpfhbaa.G Go.Proofs.YtamdfipmbpfhbaaW.PrintWords Go.Proofs.YtamdfipmbpfhbaaW.PrintLast Go.Proofs.YtamdfipmbpfhbaaW.PrintMore

set_option linter.unusedVariables false
theorem wrap64_id {x : Int} (h0 : -9223372036854775808 ≤ x) (h1 : x ≤ 9223372036854775807) : wrap64 x = x := by
  unfold wrap64; omega
theorem wrapu_mod (x : Int) : IntKind.u64.wrap x = x % 18446744073709551616 := rfl
theorem wrapu_id {x : Int} (h0 : 0 ≤ x) (h1 : x < 18446744073709551616) : IntKind.u64.wrap x = x := by
  rw [wrapu_mod]; exact Int.emod_eq_of_lt h0 h1

/-! ### turning words -/
def rot (s : Nat) (b : BitVec 64) : BitVec 64 := b <<< s ||| b >>> (64 - s)
theorem rot_bit (b : BitVec 64) (s i : Nat) (hi : i < 64) (hs : s < 64) : (rot s b).getLsbD i = if i < s then b.getLsbD (64 - s + i) else b.getLsbD (i - s) := by
  unfold rot
  simp only [BitVec.getLsbD_or, BitVec.getLsbD_shiftLeft, BitVec.getLsbD_ushiftRight, hi, decide_true, Bool.true_and]
  by_cases h : i < s
  · simp [h]
  · simp only [h, decide_false, Bool.not_false, Bool.true_and, if_false]
    rw [show b.getLsbD (64 - s + i) = false from BitVec.getLsbD_of_ge _ _ (by omega)]
    simp
theorem rot_step (b : BitVec 64) (s : Nat) (hs : s < 64) : rot 1 (rot s b) = rot ((s + 1) % 64) b := by
  apply BitVec.eq_of_getLsbD_eq
  intro i hi
  have hm : (s + 1) % 64 < 64 := Nat.mod_lt _ (by omega)
  rw [rot_bit _ 1 i hi (by omega), rot_bit _ _ i hi hm]
  by_cases h : i < 1
  · rw [if_pos h, rot_bit _ s _ (by omega) hs]
    by_cases e : s = 63
    · subst e
      rw [if_neg (by omega), if_neg (by omega)]; congr 1; omega
    · rw [if_neg (by omega), if_pos (by omega)]; congr 1; omega
  · rw [if_neg h, rot_bit _ s _ (by omega) hs]
    by_cases e : s = 63
    · subst e
      rw [if_pos (by omega), if_neg (by omega)]; congr 1; omega
    · rw [show (s + 1) % 64 = s + 1 by omega]
      by_cases q : i - 1 < s
      · rw [if_pos q, if_pos (by omega)]; congr 1; omega
      · rw [if_neg q, if_neg (by omega)]; congr 1; omega
theorem rot_zero (b : BitVec 64) : rot 0 b = b := by
  apply BitVec.eq_of_getLsbD_eq
  intro i hi
  rw [rot_bit _ 0 i hi (by omega), if_neg (by omega), Nat.sub_zero]
/-- A word, turned so often to the left. -/
def turn (key : Int) (n : Nat) : Int := ((rot (n % 64) (BitVec.ofNat 64 key.toNat)).toNat : Int)
theorem turn_nonneg (key : Int) (n : Nat) : 0 ≤ turn key n := Int.natCast_nonneg _
theorem turn_lt (key : Int) (n : Nat) : turn key n < 18446744073709551616 := by
  have := (rot (n % 64) (BitVec.ofNat 64 key.toNat)).isLt
  unfold turn; omega
theorem or_rot (b : BitVec 64) (s : Nat) (hs : s < 64) : Go.bits .or .u64 (IntKind.u64.wrap ((b.toNat : Int) * 2 ^ s)) ((b.toNat : Int) / 2 ^ (64 - s)) = ((rot s b).toNat : Int) := by
  have hb := b.isLt
  have e1 : (IntKind.u64.wrap ((b.toNat : Int) * 2 ^ s)) = ((b.toNat * 2 ^ s % 18446744073709551616 : Nat) : Int) := by
    rw [wrapu_mod, Int.natCast_emod, Int.natCast_mul, Int.natCast_pow]; rfl
  have e2 : ((b.toNat : Int) / 2 ^ (64 - s)) = ((b.toNat / 2 ^ (64 - s) : Nat) : Int) := by
    rw [Int.natCast_ediv, Int.natCast_pow]; rfl
  rw [e1, e2, u64_or_nat _ _ (Nat.mod_lt _ (by omega)) (Nat.lt_of_le_of_lt (Nat.div_le_self _ _) hb)]
  congr 1
  unfold rot
  rw [BitVec.toNat_or, BitVec.toNat_shiftLeft, BitVec.toNat_ushiftRight, Nat.shiftLeft_eq, Nat.shiftRight_eq_div_pow]
theorem turn_zero {key : Int} (h0 : 0 ≤ key) (h1 : key < 18446744073709551616) : turn key 0 = key := by
  unfold turn
  rw [Nat.zero_mod, rot_zero, BitVec.toNat_ofNat, Nat.mod_eq_of_lt (by omega)]
  omega
theorem turn_step (key : Int) (n : Nat) : Go.bits .or .u64 (IntKind.u64.wrap (turn key n * 2)) (turn key n / 9223372036854775808) = turn key (n + 1) := by
  have := or_rot (rot (n % 64) (BitVec.ofNat 64 key.toNat)) 1 (by omega)
  rw [rot_step _ _ (Nat.mod_lt _ (by omega))] at this
  unfold turn
  rw [show (n + 1) % 64 = (n % 64 + 1) % 64 by omega]
  exact this
theorem and_mod (w : Int) (k : Nat) (hk : k < 64) (h0 : 0 ≤ w) (h1 : w < 18446744073709551616) : Go.bits .and .u64 w (((2 ^ k - 1 : Nat)) : Int) = w % ((2 ^ k : Nat) : Int) := by
  have hp : 2 ^ k - 1 < 18446744073709551616 := by
    have : 2 ^ k < 2 ^ 64 := Nat.pow_lt_pow_right (by omega) hk
    omega
  rw [u64_and w _ h0 h1 (by omega) (by omega)]
  obtain ⟨n, rfl⟩ : ∃ m : Nat, w = m := ⟨w.toNat, by omega⟩
  rw [Int.toNat_natCast, Int.toNat_natCast, Nat.and_two_pow_sub_one_eq_mod]
  rfl
theorem aRot (key : Int) (n : Nat) (h0 : 0 ≤ key) (h1 : key < 18446744073709551616) (hn : n < 18446744073709551616) : bits_RotateLeft64.f key (n : Int) = some (turn key n) := by
  unfold bits_RotateLeft64.f
  have e1 : Go.bits .and .u64 (IntKind.u64.wrap (n : Int)) 63 = ((n % 64 : Nat) : Int) := by
    rw [wrapu_id (by omega) (by omega)]
    have := and_mod (n : Int) 6 (by omega) (by omega) (by omega)
    exact this
  have hm : n % 64 < 64 := Nat.mod_lt _ (by omega)
  rw [e1, wrapu_id (x := 64 - ((n % 64 : Nat) : Int)) (by omega) (by omega), if_pos (by omega), if_pos (by omega)]
  congr 1
  have hs := or_rot (BitVec.ofNat 64 key.toNat) (n % 64) hm
  have ek : ((BitVec.ofNat 64 key.toNat).toNat : Int) = key := by
    rw [BitVec.toNat_ofNat, Nat.mod_eq_of_lt (by omega)]; omega
  rw [ek] at hs
  unfold turn
  rw [← hs]
  unfold shl shr
  have b1 : min ((n % 64 : Nat) : Int).toNat (IntKind.u64).bits = n % 64 := by
    rw [Int.toNat_natCast]; exact Nat.min_eq_left (by show n % 64 ≤ 64; omega)
  have b2 : min (64 - ((n % 64 : Nat) : Int)).toNat (IntKind.u64).bits = 64 - n % 64 := by
    rw [show (64 - ((n % 64 : Nat) : Int)).toNat = 64 - n % 64 by omega]; exact Nat.min_eq_left (by show 64 - n % 64 ≤ 64; omega)
  rw [b1, b2]
/-- The key at an object. -/
def T (key at_ : Int) : Int := (turn key (5 * at_).toNat + at_ * 2654435769) % 18446744073709551616
theorem T_nonneg (key a : Int) : 0 ≤ T key a := Int.emod_nonneg _ (by omega)
theorem T_lt (key a : Int) : T key a < 18446744073709551616 := Int.emod_lt_of_pos _ (by omega)
theorem aTurned {key a : Int} (h0 : 0 ≤ key) (h1 : key < 18446744073709551616) (g0 : 0 ≤ a) (g1 : a < 16) : link_turned.f key a = some (T key a) := by
  unfold link_turned.f
  rw [wrap64_id (by omega) (by omega)]
  have := aRot key (5 * a).toNat h0 h1 (by omega)
  rw [show (((5 * a).toNat : Nat) : Int) = 5 * a by omega] at this
  rw [this]
  simp only [Option.bind_some]
  rw [wrapu_id (x := a) (by omega) (by omega), wrapu_id (x := a * 2654435769) (by omega) (by omega), wrapu_mod]
  rfl
theorem rTurned1 (a : Int) (g0 : 0 ≤ a) (g1 : a < 16) (y : Int) : ∀ (m : Nat) (k : Nat) (i : Int), 0 ≤ i → i + m = a → m + 1 ≤ k → wainscotref16_turned.l1 k a ((y + i * 2654435769) % 18446744073709551616) i = some ((y + a * 2654435769) % 18446744073709551616) := by
  intro m
  induction m with
  | zero =>
    intro k i hi he hk
    obtain ⟨k, rfl⟩ : ∃ j, k = j + 1 := ⟨k - 1, by omega⟩
    rw [wainscotref16_turned.l1, if_neg (by omega), show i = a by omega]
  | succ m ih =>
    intro k i hi he hk
    obtain ⟨k, rfl⟩ : ∃ j, k = j + 1 := ⟨k - 1, by omega⟩
    rw [wainscotref16_turned.l1, if_pos (by omega), wrap64_id (by omega) (by omega), wrapu_mod]
    have := ih k (i + 1) (by omega) (by omega) (by omega)
    rw [← this]; congr 1; omega
theorem rTurned0 (key a : Int) (g0 : 0 ≤ a) (g1 : a < 16) : ∀ (m : Nat) (k : Nat) (i : Nat), (i + m : Nat) = (5 * a).toNat → m + a.toNat + 2 ≤ k → wainscotref16_turned.l0 k a (turn key i) i = some (T key a) := by
  intro m
  induction m with
  | zero =>
    intro k i he hk
    obtain ⟨k, rfl⟩ : ∃ j, k = j + 1 := ⟨k - 1, by omega⟩
    rw [wainscotref16_turned.l0, wrap64_id (by omega) (by omega), if_neg (by omega)]
    have := rTurned1 a g0 g1 (turn key i) a.toNat k 0 (by omega) (by omega) (by omega)
    rw [Int.zero_mul, Int.add_zero, Int.emod_eq_of_lt (turn_nonneg _ _) (turn_lt _ _)] at this
    rw [this]; unfold T; rw [show i = (5 * a).toNat by omega]
  | succ m ih =>
    intro k i he hk
    obtain ⟨k, rfl⟩ : ∃ j, k = j + 1 := ⟨k - 1, by omega⟩
    rw [wainscotref16_turned.l0, wrap64_id (x := 5 * a) (by omega) (by omega), if_pos (by omega), wrap64_id (by omega) (by omega), turn_step]
    have := ih k (i + 1) (by omega) (by omega)
    rw [← this]; rfl
theorem rTurned {key a : Int} (h0 : 0 ≤ key) (h1 : key < 18446744073709551616) (g0 : 0 ≤ a) (g1 : a < 16) (k : Nat) (hk : 100 ≤ k) : wainscotref16_turned.f k key a = some (T key a) := by
  have := rTurned0 key a g0 g1 (5 * a).toNat k 0 (by omega) (by omega)
  rw [turn_zero h0 h1] at this
  exact this

/-! ### Hide and Show -/
def obj (i : Int) : Prop := 0 ≤ i ∧ i < 16
instance (i : Int) : Decidable (obj i) := by unfold obj; infer_instance
def hideV (n key a : Int) : Int × Int := if (n = -1 ∨ obj n) ∧ obj a then (Go.bits .xor .u64 (n + 1) (T key a), 0) else (0, 2)
def showV (w key a : Int) : Int × Bool := if obj a then (if Go.bits .xor .u64 w (T key a) > 16 then (0, false) else (Go.bits .xor .u64 w (T key a) - 1, true)) else (0, false)
theorem aObj (i : Int) : link_object.f i = some (decide (obj i)) := by
  unfold link_object.f obj
  by_cases h : 0 ≤ i <;> simp [h]
theorem aHide {key : Int} (n a : Int) (h0 : 0 ≤ key) (h1 : key < 18446744073709551616) : link_Hide.f n key a = some (hideV n key a) := by
  unfold link_Hide.f hideV
  rw [aObj, aObj]
  simp only [Option.bind_some, decide_eq_true_eq]
  by_cases ha : obj a
  · rw [aTurned h0 h1 ha.1 ha.2, if_pos ha]
    simp only [Option.bind_some]
    by_cases e : n = -1
    · subst e; rw [if_pos rfl, if_pos ⟨.inl rfl, ha⟩, show IntKind.u64.wrap (wrap64 (-1 + 1)) = -1 + 1 by decide +kernel]
    · by_cases ho : obj n
      · have := ho; unfold obj at this
        rw [if_neg e, if_pos ho, if_pos ⟨.inr ho, ha⟩, wrap64_id (by omega) (by omega), wrapu_id (by omega) (by omega)]
      · rw [if_neg e, if_neg ho, if_neg (fun h => h.1.elim e ho)]
  · rw [if_neg (c := (n = -1 ∨ obj n) ∧ obj a) (fun h => ha h.2), if_neg ha]
    by_cases e : n = -1
    · rw [if_pos e]
    · rw [if_neg e]; split <;> rfl
theorem rHide {key : Int} (n a : Int) (h0 : 0 ≤ key) (h1 : key < 18446744073709551616) (k : Nat) (hk : 100 ≤ k) : wainscotref16_Hide.f k n key a = some (hideV n key a) := by
  unfold wainscotref16_Hide.f hideV
  by_cases h : (n = -1 ∨ obj n) ∧ obj a
  · rw [if_pos h]
    unfold obj at h
    rw [if_neg (by omega), if_neg (by omega), if_neg (by omega), if_neg (by omega), rTurned h0 h1 h.2.1 h.2.2 k hk, Option.bind_some, wrap64_id (by omega) (by omega), wrapu_id (by omega) (by omega)]
  · rw [if_neg h]
    unfold obj at h
    by_cases c1 : n < -1
    · rw [if_pos c1]
    by_cases c2 : n ≥ 16
    · rw [if_neg c1, if_pos c2]
    by_cases c3 : a < 0
    · rw [if_neg c1, if_neg c2, if_pos c3]
    rw [if_neg c1, if_neg c2, if_neg c3, if_pos (by omega)]
theorem xor_bounds {x y : Int} (h0 : 0 ≤ x) (h1 : x < 18446744073709551616) (g0 : 0 ≤ y) (g1 : y < 18446744073709551616) : 0 ≤ Go.bits .xor .u64 x y ∧ Go.bits .xor .u64 x y < 18446744073709551616 := by
  rw [u64_xor x y h0 h1 g0 g1]
  have : x.toNat ^^^ y.toNat < 2 ^ 64 := Nat.xor_lt_two_pow (by omega) (by omega)
  omega
theorem aShow {key w : Int} (a : Int) (w0 : 0 ≤ w) (w1 : w < 18446744073709551616) (h0 : 0 ≤ key) (h1 : key < 18446744073709551616) : link_Show.f w key a = some (showV w key a) := by
  unfold link_Show.f showV
  rw [aObj]
  simp only [Option.bind_some, decide_eq_true_eq]
  by_cases ha : obj a
  · rw [if_pos ha, if_pos ha, aTurned h0 h1 ha.1 ha.2]
    have := (xor_bounds w0 w1 (T_nonneg key a) (T_lt key a)).1
    simp only [Option.bind_some]
    by_cases c : Go.bits .xor .u64 w (T key a) > 16
    · rw [if_pos c, if_pos c]
    · rw [if_neg c, if_neg c, wrap64_id (x := Go.bits .xor .u64 w (T key a)) (by omega) (by omega), wrap64_id (by omega) (by omega)]
  · rw [if_neg ha, if_neg ha]
theorem rShow {key w : Int} (a : Int) (w0 : 0 ≤ w) (w1 : w < 18446744073709551616) (h0 : 0 ≤ key) (h1 : key < 18446744073709551616) (k : Nat) (hk : 101 ≤ k) : wainscotref16_Show.f k w key a = some (showV w key a) := by
  obtain ⟨k, rfl⟩ : ∃ j, k = j + 1 := ⟨k - 1, by omega⟩
  unfold wainscotref16_Show.f showV
  by_cases c : a < 0
  · rw [if_pos c, wainscotref16_Show.j0, if_pos rfl, if_neg (by unfold obj; omega)]
  rw [if_neg c, wainscotref16_Show.j0]
  by_cases d : a ≥ 16
  · rw [if_pos (by simp [d]), if_neg (by unfold obj; omega)]
  have ha : obj a := by unfold obj; omega
  rw [if_neg (by simp; omega), if_pos ha, rTurned h0 h1 ha.1 ha.2 k (by omega)]
  have := (xor_bounds w0 w1 (T_nonneg key a) (T_lt key a)).1
  simp only [Option.bind_some]
  by_cases c : Go.bits .xor .u64 w (T key a) > 16
  · rw [if_pos c, if_pos c]
  · rw [if_neg c, if_neg c, wrap64_id (x := Go.bits .xor .u64 w (T key a)) (by omega) (by omega), wrap64_id (by omega) (by omega)]
theorem xor_back {x y : Int} (h0 : 0 ≤ x) (h1 : x < 18446744073709551616) (g0 : 0 ≤ y) (g1 : y < 18446744073709551616) : Go.bits .xor .u64 (Go.bits .xor .u64 x y) y = x := by
  have hb := xor_bounds h0 h1 g0 g1
  rw [u64_xor _ y hb.1 hb.2 g0 g1, u64_xor x y h0 h1 g0 g1, Int.toNat_natCast, Nat.xor_assoc, Nat.xor_self, Nat.xor_zero]
  omega
/-- What was hidden is shown. -/
theorem show_hide {n key a : Int} (hn : n = -1 ∨ obj n) (ha : obj a) : showV (hideV n key a).1 key a = (n, true) := by
  unfold showV hideV
  rw [if_pos ha, if_pos (c := (n = -1 ∨ obj n) ∧ obj a) ⟨hn, ha⟩]
  unfold obj at hn
  simp only []
  rw [xor_back (by omega) (by omega) (T_nonneg _ _) (T_lt _ _), if_neg (by omega)]
  congr 1; omega
theorem hide_bounds {n key a : Int} : 0 ≤ (hideV n key a).1 ∧ (hideV n key a).1 < 18446744073709551616 := by
  unfold hideV
  split
  · next h => unfold obj at h; exact xor_bounds (by omega) (by omega) (T_nonneg _ _) (T_lt _ _)
  · simp
theorem show_range {w key a : Int} (w0 : 0 ≤ w) (w1 : w < 18446744073709551616) : -1 ≤ (showV w key a).1 ∧ (showV w key a).1 ≤ 15 := by
  unfold showV
  split
  · have := (xor_bounds w0 w1 (T_nonneg key a) (T_lt key a)).1
    split <;> constructor <;> simp <;> omega
  · simp
end Go.Proofs.Ytamdfipmbpfhbaa.Pl
