/- The laws of layer 16 in plain numbers, but for LinkOne and LinkNames. -/
import Derived.Test.YtamdfipmbpfhbaaPl3
namespace Go.Proofs.Ytamdfipmbpfhbaa.Pl
open Go.RowKit Go.Proofs.Ytamdfipmbpfhbaa.G Go.Proofs.YtamdfipmbpfhbaaW.PrintWords Go.Proofs.YtamdfipmbpfhbaaW.PrintLast Go.Proofs.YtamdfipmbpfhbaaW.PrintMore
set_option linter.unusedVariables false
def Works : Prop := wainscotlaw16_works.f = some true

theorem hides0 (W : Works) (n key a v : Int) (hn : -9223372036854775808 ≤ n ∧ n ≤ 9223372036854775807) (k0 : 0 ≤ key) (k1 : key < 18446744073709551616) (v0 : 0 ≤ v) (v1 : v < 18446744073709551616) : ∀ (d i k : Nat), i + d = 4 → d + 111 ≤ k → wainscotlaw16_LinkHides.l0 k n key a v i = some true := by
  intro d
  induction d with
  | zero =>
    intro i k he hk
    obtain ⟨k, rfl⟩ : ∃ j, k = j + 1 := ⟨k - 1, by omega⟩
    rw [wainscotlaw16_LinkHides.l0, if_neg (by omega), W]; rfl
  | succ d ih =>
    intro i k he hk
    obtain ⟨k, rfl⟩ : ∃ j, k = j + 1 := ⟨k - 1, by omega⟩
    rw [wainscotlaw16_LinkHides.l0, if_pos (by omega), Option.bind_some, if_pos (by omega), if_pos (by simp; omega)]
    have hok : wordsOk [key, IntKind.u64.wrap n, v, Go.bits .xor .u64 v 16] := by
      intro x hx
      simp only [List.mem_cons, List.not_mem_nil, or_false] at hx
      rcases hx with rfl | rfl | rfl | rfl
      · exact ⟨k0, k1⟩
      · rw [wrapu_mod]; omega
      · exact ⟨v0, v1⟩
      · exact xor_bounds v0 v1 (by omega) (by omega)
    have hr := hok _ (rd_mem (l := [key, IntKind.u64.wrap n, v, Go.bits .xor .u64 v 16]) (i := (i : Int)) (by omega) (by simp; omega))
    rw [aShow a hr.1 hr.2 k0 k1, rShow a hr.1 hr.2 k0 k1 k (by omega), Option.bind_some, Option.bind_some, if_pos rfl, bne_self_eq_false, if_neg (by simp), wrap64_id (by omega) (by omega)]
    exact ih (i + 1) k (by omega) (by omega)
theorem hides (W : Works) (n key a : Int) (hn : -9223372036854775808 ≤ n ∧ n ≤ 9223372036854775807) (k0 : 0 ≤ key) (k1 : key < 18446744073709551616) (k : Nat) (hk : 120 ≤ k) : wainscotlaw16_LinkHides.f k n key a = some true := by
  obtain ⟨k, rfl⟩ : ∃ j, k = j + 1 := ⟨k - 1, by omega⟩
  unfold wainscotlaw16_LinkHides.f
  rw [aHide n a k0 k1, rHide n a k0 k1 _ (by omega), Option.bind_some, Option.bind_some, if_pos rfl, bne_self_eq_false, wainscotlaw16_LinkHides.j0, if_neg (by simp)]
  exact hides0 W n key a _ hn k0 k1 hide_bounds.1 hide_bounds.2 4 0 k (by omega) (by omega)

theorem fresh (W : Works) (n key : Int) (k0 : 0 ≤ key) (k1 : key < 18446744073709551616) (k : Nat) (hk : 130 ≤ k) : wainscotlaw16_LinkFresh.f k n key = some true := by
  unfold wainscotlaw16_LinkFresh.f
  by_cases h : n < 1 ∨ n > 16
  · rw [aFreshNot key h, rFreshNot key h k (by omega), Option.bind_some, Option.bind_some, eqWords _ (by simp) k (by simp; omega), Option.bind_some, if_pos rfl, if_pos rfl, W]; rfl
  · obtain ⟨n, rfl⟩ : ∃ m : Nat, n = (m : Int) := ⟨n.toNat, by omega⟩
    rw [aFresh (by omega) (by omega) k0 k1 k (by omega), rFresh (by omega) (by omega) k0 k1 k (by omega), Option.bind_some, Option.bind_some]
    rw [eqWords _ (by rw [freshV_len]; omega) k (by rw [freshV_len]; omega), Option.bind_some, if_pos rfl, if_pos rfl, W]; rfl

theorem lists1 (W : Works) (l0 : List Int) (hl : l0.length < 9223372036854775807) : ∀ (d i k : Nat) (xs : List Int), i + d = xs.length → xs.length ≤ 16 → d + l0.length + 70 ≤ k → wainscotlaw16_LinkLists.l0 k l0 l0 xs true i = some true := by
  intro d
  induction d with
  | zero =>
    intro i k xs he hx hk
    obtain ⟨k, rfl⟩ : ∃ j, k = j + 1 := ⟨k - 1, by omega⟩
    rw [wainscotlaw16_LinkLists.l0, if_neg (by omega), if_pos rfl, eqWords l0 hl k (by omega), Option.bind_some, if_pos rfl, W]; rfl
  | succ d ih =>
    intro i k xs he hx hk
    obtain ⟨k, rfl⟩ : ∃ j, k = j + 1 := ⟨k - 1, by omega⟩
    rw [wainscotlaw16_LinkLists.l0, if_pos (by omega), if_pos (by omega), wrap64_id (by omega) (by omega)]
    exact ih (i + 1) k _ (by rw [List.length_set]; omega) (by rw [List.length_set]; omega) (by omega)
theorem lists (W : Works) (l : List Int) (key first : Int) (hl : l.length < 17592186044416) (hw : wordsOk l) (k0 : 0 ≤ key) (k1 : key < 18446744073709551616) (k : Nat) (hk : l.length + 600 ≤ k) : wainscotlaw16_LinkLists.f k l key first = some true := by
  obtain ⟨k, rfl⟩ : ∃ j, k = j + 1 := ⟨k - 1, by omega⟩
  unfold wainscotlaw16_LinkLists.f
  have ho := listV_out key first hw
  rw [if_pos (by simpa using hl), Option.bind_some, List.nil_append, aList first hw k0 k1 _ (by omega), Option.bind_some, rList first hw k0 k1 _ (by omega), Option.bind_some, eqInts _ (by omega) _ (by omega), Option.bind_some, if_pos rfl, beq_self_eq_true, wainscotlaw16_LinkLists.j0]
  exact lists1 W l (by omega) (listV l key first).1.length 0 k _ (by omega) ho.2 (by omega)

theorem bring {n m : Int} (hm : 0 < m) (hm' : m ≤ 17) : ∃ b, wainscotref00_Bring.f n m = some b ∧ 0 ≤ b ∧ b < m := by
  have h1 := Int.tmod_lt_of_pos n hm
  have h2 : -m < Int.tmod n m := by
    have := Int.lt_tmod_of_pos n hm
    exact this
  unfold wainscotref00_Bring.f
  rw [if_neg (by omega)]
  by_cases c : Int.tmod n m < 0
  · rw [if_pos c, wrap64_id (by omega) (by omega)]
    exact ⟨_, rfl, by omega, by omega⟩
  · rw [if_neg c]
    exact ⟨_, rfl, by omega, by omega⟩
theorem back (W : Works) (n key a : Int) (k0 : 0 ≤ key) (k1 : key < 18446744073709551616) : wainscotlaw16_LinkBack.f n key a = some true := by
  unfold wainscotlaw16_LinkBack.f
  obtain ⟨b, e1, b0, b1⟩ := bring (n := n) (m := 17) (by omega) (by omega)
  obtain ⟨c, e2, c0, c1⟩ := bring (n := a) (m := 16) (by omega) (by omega)
  have hn : b - 1 = -1 ∨ obj (b - 1) := by unfold obj; omega
  have hc : obj c := ⟨c0, c1⟩
  rw [e1, Option.bind_some, e2, Option.bind_some, wrap64_id (by omega) (by omega), aHide _ _ k0 k1, Option.bind_some, aShow _ hide_bounds.1 hide_bounds.2 k0 k1, Option.bind_some, show_hide hn hc, if_pos (by unfold hideV; rw [if_pos ⟨hn, hc⟩]), if_pos rfl, if_pos rfl, W]; rfl

theorem all0 (W : Works) (n : Nat) (hn : n ≤ 16) : ∀ (d i k : Nat), i + d = n → d + 70 ≤ k → wainscotlaw16_LinkAll.l0 k n (firsts n) i = some true := by
  intro d
  induction d with
  | zero =>
    intro i k he hk
    obtain ⟨k, rfl⟩ : ∃ j, k = j + 1 := ⟨k - 1, by omega⟩
    rw [wainscotlaw16_LinkAll.l0, if_neg (by omega), W]; rfl
  | succ d ih =>
    intro i k he hk
    obtain ⟨k, rfl⟩ : ∃ j, k = j + 1 := ⟨k - 1, by omega⟩
    rw [wainscotlaw16_LinkAll.l0, if_pos (by omega), if_pos (by omega), if_pos (by rw [firsts_len]; omega), rd_nat (by rw [firsts_len]; omega), if_pos (by unfold firsts; rw [List.getElem_map, List.getElem_range]), wrap64_id (by omega) (by omega)]
    exact ih (i + 1) k (by omega) (by omega)
theorem all (W : Works) (n key : Int) (k0 : 0 ≤ key) (k1 : key < 18446744073709551616) (k : Nat) (hk : 120 ≤ k) : wainscotlaw16_LinkAll.f k n key = some true := by
  obtain ⟨k, rfl⟩ : ∃ j, k = j + 1 := ⟨k - 1, by omega⟩
  unfold wainscotlaw16_LinkAll.f
  obtain ⟨b, e1, b0, b1⟩ := bring (n := n) (m := 16) (by omega) (by omega)
  obtain ⟨b, rfl⟩ : ∃ m : Nat, b = (m : Int) := ⟨b.toNat, by omega⟩
  rw [e1, Option.bind_some, wrap64_id (by omega) (by omega), show (1 : Int) + (b : Int) = ((b + 1 : Nat) : Int) by omega, aFresh (by omega) (by omega) k0 k1 _ (by omega), Option.bind_some]
  simp only []
  rw [aList 0 (freshV_ok _ _) k0 k1 _ (by omega), Option.bind_some, list_fresh key (by omega) (by omega), if_pos rfl, if_pos trivial, if_pos (by rw [firsts_len]), freshV_len, bne_self_eq_false, wainscotlaw16_LinkAll.j0, if_neg (by simp)]
  exact all0 W (b + 1) (by omega) (b + 1) 0 k (by omega) (by omega)
end Go.Proofs.Ytamdfipmbpfhbaa.Pl
