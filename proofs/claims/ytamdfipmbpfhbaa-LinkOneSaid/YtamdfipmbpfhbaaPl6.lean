/- LinkOne in plain numbers: a list that is tied to another one, sharing none with it, is both. -/
import Derived.Test.YtamdfipmbpfhbaaPl2
namespace Go.Proofs.Ytamdfipmbpfhbaa.Pl
open Go.RowKit Go.Proofs.Ytamdfipmbpfhbaa.G Go.Proofs.YtamdfipmbpfhbaaW.PrintWords Go.Proofs.YtamdfipmbpfhbaaW.PrintLast Go.Proofs.YtamdfipmbpfhbaaW.PrintMore
set_option linter.unusedVariables false

/-- From an object on, these objects are next, to the end. -/
def Chain (l : List Int) (key : Int) : Int → List Int → Prop
  | i, [] => i = -1
  | i, x :: xs => i = x ∧ 0 ≤ x ∧ x < (l.length : Int) ∧ (showV (rd l x) key x).2 = true ∧ (showV (rd l x) key x).1 < (l.length : Int) ∧ Chain l key (showV (rd l x) key x).1 xs
theorem go_chain (l : List Int) (key : Int) (hw : wordsOk l) : ∀ (m : Nat) (i : Int) (out : List Int), -1 ≤ i → i < (l.length : Int) → (go m l key i out).2 = 0 → ∃ xs, (go m l key i out).1 = out ++ xs ∧ Chain l key i xs := by
  intro m
  induction m with
  | zero => intro i out _ _ h; exact absurd h (by show ¬ (150 : Int) = 0; omega)
  | succ m ih =>
    intro i out h0 h1 h
    rw [go] at h ⊢
    by_cases e : i = -1
    · rw [if_pos e]; exact ⟨[], (List.append_nil _).symm, e⟩
    rw [if_neg e] at h ⊢
    by_cases hi : i ∈ out
    · rw [if_pos hi] at h; exact absurd h (by show ¬ (150 : Int) = 0; omega)
    rw [if_neg hi] at h ⊢
    have hr := hw _ (rd_mem (l := l) (i := i) (by omega) h1)
    have hsr := show_range (key := key) (a := i) hr.1 hr.2
    by_cases c : (showV (rd l i) key i).2 = true
    · rw [if_pos c] at h ⊢
      by_cases d : (showV (rd l i) key i).1 ≥ (l.length : Int)
      · rw [if_pos d] at h; exact absurd h (by show ¬ (150 : Int) = 0; omega)
      · rw [if_neg d] at h ⊢
        obtain ⟨xs, e1, e2⟩ := ih _ _ hsr.1 (by omega) h
        exact ⟨i :: xs, by rw [e1, List.append_assoc]; rfl, rfl, by omega, h1, c, by omega, e2⟩
    · rw [if_neg c] at h; exact absurd h (by show ¬ (150 : Int) = 0; omega)
theorem chain_go (l : List Int) (key : Int) : ∀ (xs : List Int) (m : Nat) (i : Int) (out : List Int), Chain l key i xs → (out ++ xs).Nodup → xs.length < m → go m l key i out = (out ++ xs, 0) := by
  intro xs
  induction xs with
  | nil =>
    intro m i out hc _ hm
    obtain ⟨m, rfl⟩ : ∃ j, m = j + 1 := ⟨m - 1, by omega⟩
    have e : i = -1 := hc
    rw [go, if_pos e, List.append_nil]
  | cons x xs ih =>
    intro m i out hc hn hm
    rw [List.length_cons] at hm
    obtain ⟨m, rfl⟩ : ∃ j, m = j + 1 := ⟨m - 1, by omega⟩
    obtain ⟨rfl, h0, h1, h2, h3, h4⟩ := hc
    have hi : i ∉ out := by
      intro hi
      rw [List.nodup_append] at hn
      exact hn.2.2 i hi i List.mem_cons_self rfl
    have e : out ++ i :: xs = (out ++ [i]) ++ xs := by rw [List.append_assoc]; rfl
    rw [go, if_neg (by omega), if_neg hi, if_pos h2, if_neg (by omega), e]
    exact ih m _ _ h4 (by rw [← e]; exact hn) (by omega)
theorem rd_set_ne {l : List Int} {j : Nat} {v x : Int} (h : x.toNat ≠ j) : rd (l.set j v) x = rd l x := by
  unfold rd
  rw [List.getD_eq_getElem?_getD, List.getD_eq_getElem?_getD, List.getElem?_set, if_neg (fun e => h e.symm)]
theorem rd_set_eq {l : List Int} {j : Nat} {v x : Int} (h : x.toNat = j) (hj : j < l.length) : rd (l.set j v) x = v := by
  unfold rd
  rw [List.getD_eq_getElem?_getD, List.getElem?_set, if_pos h.symm, if_pos hj]; rfl
theorem chain_set (l : List Int) (key : Int) (j : Nat) (v : Int) : ∀ (xs : List Int) (i : Int), (j : Int) ∉ xs → Chain l key i xs → Chain (l.set j v) key i xs := by
  intro xs
  induction xs with
  | nil => intro i _ h; exact h
  | cons x xs ih =>
    intro i hj hc
    obtain ⟨rfl, h0, h1, h2, h3, h4⟩ := hc
    have hne : i.toNat ≠ j := fun e => hj (by rw [← e, show (i.toNat : Int) = i by omega]; exact List.mem_cons_self)
    refine ⟨rfl, h0, by rw [List.length_set]; exact h1, ?_, ?_, ?_⟩
    · rw [rd_set_ne hne]; exact h2
    · rw [rd_set_ne hne, List.length_set]; exact h3
    · rw [rd_set_ne hne]; exact ih _ (fun h => hj (List.mem_cons_of_mem _ h)) h4
theorem chain_join (l : List Int) (key : Int) (j : Nat) (v h1 : Int) (b : List Int) (hj : j < l.length) (hs : showV v key (j : Int) = (h1, true)) (hh : h1 < (l.length : Int)) (hb : Chain (l.set j v) key h1 b) : ∀ (xs : List Int) (i : Int), (j : Int) ∉ xs → Chain l key i (xs ++ [(j : Int)]) → Chain (l.set j v) key i (xs ++ (j : Int) :: b) := by
  intro xs
  induction xs with
  | nil =>
    intro i _ hc
    obtain ⟨rfl, h0, h1', h2, h3, h4⟩ := hc
    have e : rd (l.set j v) (j : Int) = v := rd_set_eq (by omega) hj
    refine ⟨rfl, h0, by rw [List.length_set]; exact h1', ?_, ?_, ?_⟩
    · rw [e, hs]
    · rw [e, hs, List.length_set]; exact hh
    · rw [e, hs]; exact hb
  | cons x xs ih =>
    intro i hjx hc
    obtain ⟨rfl, h0, h1', h2, h3, h4⟩ := hc
    have hne : i.toNat ≠ j := fun e => hjx (by rw [← e, show (i.toNat : Int) = i by omega]; exact List.mem_cons_self)
    refine ⟨rfl, h0, by rw [List.length_set]; exact h1', ?_, ?_, ?_⟩
    · rw [rd_set_ne hne]; exact h2
    · rw [rd_set_ne hne, List.length_set]; exact h3
    · rw [rd_set_ne hne]; exact ih _ (fun h => hjx (List.mem_cons_of_mem _ h)) h4
/-- The answer of List at an object that there is: refused, or a chain from it. -/
theorem list_cases {l : List Int} {key h : Int} (hw : wordsOk l) (hl : l.length ≤ 16) (h0 : 0 ≤ h) (h1 : h < (l.length : Int)) : (listV l key h).2 = 150 ∨ ((listV l key h).2 = 0 ∧ OutOk l (listV l key h).1 ∧ Chain l key h (listV l key h).1 ∧ 0 < (listV l key h).1.length ∧ rd (listV l key h).1 0 = h) := by
  have e : listV l key h = go 18 l key h [] := by unfold listV; rw [if_neg (by omega)]
  rw [e]
  have ho := go_out l key 18 h [] (.nil l) (by omega) h1 hw
  rcases ho.2 with h2 | h2
  · right
    obtain ⟨xs, e1, e2⟩ := go_chain l key hw 18 h [] (by omega) h1 h2
    rw [List.nil_append] at e1
    rw [e1]
    refine ⟨h2, by rw [← e1]; exact ho.1, e2, ?_⟩
    cases xs with
    | nil => have : h = -1 := e2; omega
    | cons x xs => exact ⟨by rw [List.length_cons]; omega, e2.1.symm⟩
  · exact .inl h2
/-- The stage's theorem. -/
theorem join {l a b : List Int} {key ha hb : Int} {j : Nat} (hw : wordsOk l) (hl : l.length ≤ 16) (h0 : 0 ≤ ha) (h1 : ha < (l.length : Int)) (g0 : 0 ≤ hb) (g1 : hb < (l.length : Int))
    (oa : OutOk l a) (ob : OutOk l b) (ca : Chain l key ha a) (cb : Chain l key hb b) (hd : ∀ x ∈ a, x ∉ b) (hp : 0 < a.length) (hj : rd a ((a.length : Int) - 1) = (j : Int)) :
    listV (l.set j (hideV hb key (j : Int)).1) key ha = (a ++ b, 0) ∧ (a ++ b).Nodup := by
  have ea : a = a.dropLast ++ [(j : Int)] := by
    have hne : a ≠ [] := by intro e; rw [e] at hp; exact absurd hp (by simp)
    have e1 := List.dropLast_concat_getLast hne
    have e2 : a.getLast hne = (j : Int) := by
      rw [← hj, show (a.length : Int) - 1 = ((a.length - 1 : Nat) : Int) by omega, rd_nat (by omega), List.getLast_eq_getElem]
    rw [e2] at e1
    exact e1.symm
  have hja : (j : Int) ∈ a := by rw [ea, List.mem_append]; exact .inr (List.mem_singleton.2 rfl)
  have hjr := oa.ran _ hja
  have hjn : (j : Int) ∉ a.dropLast := by
    have hn := oa.nd
    rw [ea, List.nodup_append] at hn
    intro h
    exact hn.2.2 _ h _ (List.mem_singleton.2 rfl) rfl
  have hnd : (a ++ b).Nodup := by
    rw [List.nodup_append]
    refine ⟨oa.nd, ob.nd, ?_⟩
    rintro x hx y hy rfl
    exact hd x hx hy
  have cb' := chain_set l key j (hideV hb key (j : Int)).1 b hb (hd _ hja) cb
  have hs := show_hide (n := hb) (key := key) (a := (j : Int)) (.inr ⟨g0, by omega⟩) ⟨by omega, by omega⟩
  have cj := chain_join l key j _ hb b (by omega) hs g1 cb' a.dropLast ha hjn (by rw [← ea]; exact ca)
  have e3 : a.dropLast ++ (j : Int) :: b = a ++ b := by
    conv => rhs; rw [ea]
    rw [List.append_assoc]; rfl
  rw [e3] at cj
  refine ⟨?_, hnd⟩
  have hlen : (a ++ b).length ≤ l.length := by
    refine pig l.length (a ++ b) hnd ?_
    intro x hx
    rw [List.mem_append] at hx
    exact hx.elim (oa.ran x) (ob.ran x)
  unfold listV
  rw [List.length_set, if_neg (by omega)]
  have := chain_go _ key (a ++ b) 18 ha [] cj (by rw [List.nil_append]; exact hnd) (by omega)
  rw [List.nil_append] at this
  exact this
end Go.Proofs.Ytamdfipmbpfhbaa.Pl
