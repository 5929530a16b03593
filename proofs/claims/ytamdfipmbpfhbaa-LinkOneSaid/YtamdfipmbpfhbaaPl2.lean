/- What List and Fresh answer (program and document), in plain numbers. -/
import Derived.Test.YtamdfipmbpfhbaaPl1
import Derived.Test.YtamdfipmbpfhbaaG3
namespace Go.Proofs.Ytamdfipmbpfhbaa.Pl
open Go.RowKit Go.Proofs.Ytamdfipmbpfhbaa.G Go.Proofs.YtamdfipmbpfhbaaW.PrintWords Go.Proofs.YtamdfipmbpfhbaaW.PrintLast Go.Proofs.YtamdfipmbpfhbaaW.PrintMore
set_option linter.unusedVariables false

def wordsOk (l : List Int) : Prop := ∀ x ∈ l, 0 ≤ x ∧ x < 18446744073709551616
theorem rd_mem {l : List Int} {i : Int} (h0 : 0 ≤ i) (h : i < l.length) : rd l i ∈ l := by
  unfold rd
  rw [List.getD_eq_getElem?_getD, List.getElem?_eq_getElem (by omega)]
  exact List.getElem_mem _
theorem rd_nat {l : List Int} {n : Nat} (h : n < l.length) : rd l (n : Int) = l[n] := by
  unfold rd
  rw [Int.toNat_natCast, List.getD_eq_getElem?_getD, List.getElem?_eq_getElem h]; rfl

/-! ### two lists that are one -/
theorem eqInts_self (l : List Int) (hl : l.length < 9223372036854775807) : ∀ (d : Nat) (i k : Nat), i + d = l.length → d + 1 ≤ k → wainscotref00_EqInts.l0 k l l (i : Int) = some true := by
  intro d
  induction d with
  | zero =>
    intro i k he hk
    obtain ⟨k, rfl⟩ : ∃ j, k = j + 1 := ⟨k - 1, by omega⟩
    rw [wainscotref00_EqInts.l0, if_neg (by omega)]
  | succ d ih =>
    intro i k he hk
    obtain ⟨k, rfl⟩ : ∃ j, k = j + 1 := ⟨k - 1, by omega⟩
    rw [wainscotref00_EqInts.l0, if_pos (by omega), if_pos (by omega), if_pos (by omega), if_pos rfl, wrap64_id (by omega) (by omega)]
    exact ih (i + 1) k (by omega) (by omega)
theorem eqInts (l : List Int) (hl : l.length < 9223372036854775807) (k : Nat) (hk : l.length + 1 ≤ k) : wainscotref00_EqInts.f k l l = some true := by
  unfold wainscotref00_EqInts.f
  rw [if_pos rfl]
  exact eqInts_self l hl l.length 0 k (by omega) hk
theorem eqWords_self (l : List Int) (hl : l.length < 9223372036854775807) : ∀ (d : Nat) (i k : Nat), i + d = l.length → d + 1 ≤ k → wainscotref00_EqWords.l0 k l l (i : Int) = some true := by
  intro d
  induction d with
  | zero =>
    intro i k he hk
    obtain ⟨k, rfl⟩ : ∃ j, k = j + 1 := ⟨k - 1, by omega⟩
    rw [wainscotref00_EqWords.l0, if_neg (by omega)]
  | succ d ih =>
    intro i k he hk
    obtain ⟨k, rfl⟩ : ∃ j, k = j + 1 := ⟨k - 1, by omega⟩
    rw [wainscotref00_EqWords.l0, if_pos (by omega), if_pos (by omega), if_pos (by omega), if_pos rfl, wrap64_id (by omega) (by omega)]
    exact ih (i + 1) k (by omega) (by omega)
theorem eqWords (l : List Int) (hl : l.length < 9223372036854775807) (k : Nat) (hk : l.length + 1 ≤ k) : wainscotref00_EqWords.f k l l = some true := by
  unfold wainscotref00_EqWords.f
  rw [if_pos rfl]
  exact eqWords_self l hl l.length 0 k (by omega) hk

/-! ### walking links -/
theorem pig : ∀ (n : Nat) (l : List Int), l.Nodup → (∀ x ∈ l, 0 ≤ x ∧ x < (n : Int)) → l.length ≤ n
  | 0, l, _, h => by
    cases l with
    | nil => exact Nat.le_refl _
    | cons a t => have := h a List.mem_cons_self; omega
  | n + 1, l, hd, h => by
    have ih := pig n (l.erase (n : Int)) (hd.erase _) (fun x hx => by
      rw [hd.mem_erase_iff] at hx
      have := h x hx.2
      have := hx.1
      omega)
    rw [List.length_erase] at ih
    split at ih <;> omega
def go : Nat → List Int → Int → Int → List Int → List Int × Int
  | 0, _, _, _, _ => ([], 150)
  | m + 1, l, key, i, out => if i = -1 then (out, 0) else if i ∈ out then ([], 150) else if (showV (rd l i) key i).2 = true then (if (showV (rd l i) key i).1 ≥ (l.length : Int) then ([], 150) else go m l key (showV (rd l i) key i).1 (out ++ [i])) else ([], 150)
def listV (l : List Int) (key first : Int) : List Int × Int := if (l.length : Int) > 16 ∨ first < -1 ∨ first ≥ (l.length : Int) then ([], 2) else go 18 l key first []
structure OutOk (l out : List Int) : Prop where
  nd : out.Nodup
  ran : ∀ x ∈ out, 0 ≤ x ∧ x < (l.length : Int)
theorem OutOk.nil (l : List Int) : OutOk l [] := ⟨List.nodup_nil, fun x h => by cases h⟩
theorem OutOk.snoc {l out : List Int} {i : Int} (h : OutOk l out) (hi : i ∉ out) (h0 : 0 ≤ i) (h1 : i < (l.length : Int)) : OutOk l (out ++ [i]) := by
  constructor
  · rw [List.nodup_append]
    refine ⟨h.nd, by simp, ?_⟩
    intro a ha b hb e
    rw [List.mem_singleton] at hb
    subst hb; subst e; exact hi ha
  · intro x hx
    rw [List.mem_append, List.mem_singleton] at hx
    rcases hx with hx | rfl
    · exact h.ran x hx
    · exact ⟨h0, h1⟩
theorem OutOk.len {l out : List Int} (h : OutOk l out) : out.length ≤ l.length := pig l.length out h.nd h.ran
theorem aGo (l : List Int) (key : Int) (hl : l.length ≤ 16) (hw : wordsOk l) (k0 : 0 ≤ key) (k1 : key < 18446744073709551616) : ∀ (m k : Nat) (i : Int) (out : List Int), m + out.length = 18 → m ≤ k → OutOk l out → -1 ≤ i → i < (l.length : Int) → link_List.l0 k l key i out = some (go m l key i out) := by
  intro m
  induction m with
  | zero => intro k i out hm hk ho _ _; have := ho.len; omega
  | succ m ih =>
    intro k i out hm hk ho h0 h1
    obtain ⟨k, rfl⟩ : ∃ j, k = j + 1 := ⟨k - 1, by omega⟩
    rw [link_List.l0, go]
    by_cases e : i = -1
    · rw [if_pos e, if_pos e]
    rw [if_neg e, if_neg e, if_pos (by omega), if_pos (by omega)]
    by_cases hi : i ∈ out
    · rw [if_pos hi, if_pos hi]
    have hs := ho.snoc hi (by omega) h1
    have hlen := hs.len
    rw [List.length_append, List.length_singleton] at hlen
    have hr := hw _ (rd_mem (l := l) (i := i) (by omega) h1)
    rw [if_neg hi, if_neg hi, if_pos (by omega), if_pos h1, aShow i hr.1 hr.2 k0 k1, Option.bind_some]
    have hsr := show_range (key := key) (a := i) hr.1 hr.2
    split
    · split
      · rfl
      · exact ih k _ _ (by rw [List.length_append, List.length_singleton]; omega) (by omega) hs hsr.1 (by omega)
    · rfl
theorem rScan (l : List Int) (key i : Int) (out : List Int) (ho : out.length < 9223372036854775807) (R : List Int × Int) (B : Nat) (hc : i ∉ out → ∀ k, B ≤ k → wainscotref16_List.l1 k l key i out (out.length : Int) = some R) (hin : i ∈ out → R = ([], 150)) :
    ∀ (d j k : Nat), j + d = out.length → i ∉ out.take j → B + d + 1 ≤ k → wainscotref16_List.l1 k l key i out (j : Int) = some R := by
  intro d
  induction d with
  | zero =>
    intro j k he hj hk
    have e : j = out.length := by omega
    subst e
    rw [List.take_length] at hj
    exact hc hj k (by omega)
  | succ d ih =>
    intro j k he hj hk
    obtain ⟨k, rfl⟩ : ∃ j, k = j + 1 := ⟨k - 1, by omega⟩
    rw [wainscotref16_List.l1, if_pos (by omega), if_pos (by omega)]
    have hjl : j < out.length := by omega
    by_cases c : rd out (j : Int) = i
    · rw [if_pos c, hin (by rw [← c]; exact rd_mem (by omega) (by omega))]
    · rw [if_neg c, wrap64_id (by omega) (by omega)]
      refine ih (j + 1) k (by omega) ?_ (by omega)
      rw [List.take_succ_eq_append_getElem hjl, List.mem_append, List.mem_singleton]
      rw [rd_nat hjl] at c
      intro h
      rcases h with h | h
      · exact hj h
      · exact c h.symm
theorem rGo (l : List Int) (key : Int) (hl : l.length ≤ 16) (hw : wordsOk l) (k0 : 0 ≤ key) (k1 : key < 18446744073709551616) : ∀ (m k : Nat) (i : Int) (out : List Int), m + out.length = 18 → m * 20 + 110 ≤ k → OutOk l out → -1 ≤ i → i < (l.length : Int) → wainscotref16_List.l0 k l key i out = some (go m l key i out) := by
  intro m
  induction m with
  | zero => intro k i out hm hk ho _ _; have := ho.len; omega
  | succ m ih =>
    intro k i out hm hk ho h0 h1
    obtain ⟨k, rfl⟩ : ∃ j, k = j + 1 := ⟨k - 1, by omega⟩
    rw [wainscotref16_List.l0]
    by_cases e : i = -1
    · rw [if_neg (by omega), go, if_pos e]
    rw [if_pos (by omega)]
    have hol := ho.len
    refine rScan l key i out (by omega) _ (m * 20 + 111) ?_ ?_ out.length 0 k (by omega) (by simp) (by omega)
    · intro hi k hk
      obtain ⟨k, rfl⟩ : ∃ j, k = j + 1 := ⟨k - 1, by omega⟩
      have hs := ho.snoc hi (by omega) h1
      have hlen := hs.len
      rw [List.length_append, List.length_singleton] at hlen
      have hr := hw _ (rd_mem (l := l) (i := i) (by omega) h1)
      have hsr := show_range (key := key) (a := i) hr.1 hr.2
      rw [wainscotref16_List.l1, if_neg (by omega), if_pos (by omega), if_pos (by omega), if_pos h1, rShow i hr.1 hr.2 k0 k1 k (by omega), Option.bind_some, go, if_neg e, if_neg hi]
      split
      · split
        · rfl
        · exact ih k _ _ (by rw [List.length_append, List.length_singleton]; omega) (by omega) hs hsr.1 (by omega)
      · rfl
    · intro hi
      rw [go, if_neg e, if_pos hi]
theorem aList {l : List Int} {key : Int} (first : Int) (hw : wordsOk l) (k0 : 0 ≤ key) (k1 : key < 18446744073709551616) (k : Nat) (hk : 18 ≤ k) : link_List.f k l key first = some (listV l key first) := by
  unfold link_List.f listV
  by_cases c : (l.length : Int) > 16 ∨ first < -1 ∨ first ≥ (l.length : Int)
  · rw [if_pos c, if_pos c]
  · rw [if_neg c, if_neg c]
    exact aGo l key (by omega) hw k0 k1 18 k first [] (by simp) hk (.nil l) (by omega) (by omega)
theorem rList {l : List Int} {key : Int} (first : Int) (hw : wordsOk l) (k0 : 0 ≤ key) (k1 : key < 18446744073709551616) (k : Nat) (hk : 500 ≤ k) : wainscotref16_List.f k l key first = some (listV l key first) := by
  obtain ⟨k, rfl⟩ : ∃ j, k = j + 1 := ⟨k - 1, by omega⟩
  unfold wainscotref16_List.f listV
  by_cases c1 : (l.length : Int) > 16
  · rw [if_pos c1, if_pos (.inl c1), wainscotref16_List.j0, if_pos rfl]
  by_cases c2 : first < -1
  · rw [if_neg c1, if_pos c2, if_pos (.inr (.inl c2)), wainscotref16_List.j0, if_pos rfl]
  rw [if_neg c1, if_neg c2, wainscotref16_List.j0]
  by_cases c3 : first ≥ (l.length : Int)
  · rw [if_pos (by simp [c3]), if_pos (.inr (.inr c3))]
  · rw [if_neg (by simp; omega), if_neg (by omega)]
    exact rGo l key (by omega) hw k0 k1 18 k first [] (by simp) (by omega) (.nil l) (by omega) (by omega)
/-- What a walk answers: a list of objects without twins, or a refusal. -/
theorem go_out (l : List Int) (key : Int) : ∀ (m : Nat) (i : Int) (out : List Int), OutOk l out → -1 ≤ i → i < (l.length : Int) → wordsOk l → OutOk l (go m l key i out).1 ∧ ((go m l key i out).2 = 0 ∨ (go m l key i out).2 = 150) := by
  intro m
  induction m with
  | zero => intro i out ho _ _ _; exact ⟨.nil l, .inr rfl⟩
  | succ m ih =>
    intro i out ho h0 h1 hw
    rw [go]
    by_cases e : i = -1
    · rw [if_pos e]; exact ⟨ho, .inl rfl⟩
    rw [if_neg e]
    by_cases hi : i ∈ out
    · rw [if_pos hi]; exact ⟨.nil l, .inr rfl⟩
    rw [if_neg hi]
    have hr := hw _ (rd_mem (l := l) (i := i) (by omega) h1)
    have hsr := show_range (key := key) (a := i) hr.1 hr.2
    split
    · split
      · exact ⟨.nil l, .inr rfl⟩
      · exact ih _ _ (ho.snoc hi (by omega) h1) hsr.1 (by omega) hw
    · exact ⟨.nil l, .inr rfl⟩
theorem listV_out {l : List Int} (key first : Int) (hw : wordsOk l) : OutOk l (listV l key first).1 ∧ (listV l key first).1.length ≤ 16 := by
  unfold listV
  split
  · exact ⟨.nil l, by simp⟩
  · next c =>
    have := (go_out l key 18 first [] (.nil l) (by omega) (by omega) hw).1
    exact ⟨this, by have := this.len; omega⟩
end Go.Proofs.Ytamdfipmbpfhbaa.Pl
