/- A layout that came in by value, opened: its seven numbers. -/
import Derived.Test.YtanolcldeeglmaaG0
import Derived.Lib.SmallJoins
import Derived.OpenShut
namespace Go.Proofs.Ytanolcldeeglmaa
open Go.RowKit Go.ChangeShapes Go.WideShapes Go.ChangeAt
section
variable {H : Type} {enc : TypeId × Value → H} {W : World} {base : Nat} {spare : Nat → Bool} {held : Bool}
theorem array7 {α : Type} {cs : Array α} (h : cs.size = 7) : ∃ c0 c1 c2 c3 c4 c5 c6, cs = #[c0, c1, c2, c3, c4, c5, c6] := by
  obtain ⟨l⟩ := cs
  match l, h with
  | [c0, c1, c2, c3, c4, c5, c6], _ => exact ⟨c0, c1, c2, c3, c4, c5, c6, rfl⟩
theorem cells23 : Try.prog.cellsOf 23 = 7 := by kernel_rfl
theorem open_lay {r : Reach} {b0 : Nat} {v : Value} {d : DataW H} {p : List MemPlace} (hv : Value.okWide Try.prog W r b0 23 v) (h : DataW.Trod enc Try.prog W base spare held 23 v d p) :
    ∃ a0 a1 a2 a3 a4 a5 a6 : Int, v = .agg #[.int .i64 a0, .int .i64 a1, .int .i64 a2, .int .i64 a3, .int .i64 a4, .int .i64 a5, .int .i64 a6] := by
  obtain ⟨cs, rfl, hsz⟩ := okWide_struct Try.underlying23 hv
  obtain ⟨c0, c1, c2, c3, c4, c5, c6, rfl⟩ := array7 (hsz.trans cells23)
  obtain ⟨fuel, hf⟩ := h
  obtain ⟨xs, n, _, _, hl, hlen, hf'⟩ := DataW.trod_struct Try.underlying23 hf
  have one : ∀ (c : Value) (o : Option (DataW H × List MemPlace)), (∃ y, o = some y) → DataW.trod enc Try.prog W base spare held n 3 [c] = o → ∃ a, c = .int .i64 a := by
    rintro c o ⟨y, rfl⟩ h
    obtain ⟨a, e, _, _⟩ := DataW.trod_int Try.underlying3 h
    simp at e
    exact ⟨a, e⟩
  have some_ : ∀ i, i < 7 → ∃ y, xs[i]? = some y := fun i hi => ⟨xs[i]'(by rw [hlen]; exact hi), List.getElem?_eq_getElem _⟩
  have h0 := hf' 0 _ rfl
  have h1 := hf' 1 _ rfl
  have h2 := hf' 2 _ rfl
  have h3 := hf' 3 _ rfl
  have h4 := hf' 4 _ rfl
  have h5 := hf' 5 _ rfl
  have h6 := hf' 6 _ rfl
  simp only [Value.cells] at h0 h1 h2 h3 h4 h5 h6
  obtain ⟨a0, rfl⟩ := one _ _ (some_ 0 (by omega)) h0
  obtain ⟨a1, rfl⟩ := one _ _ (some_ 1 (by omega)) h1
  obtain ⟨a2, rfl⟩ := one _ _ (some_ 2 (by omega)) h2
  obtain ⟨a3, rfl⟩ := one _ _ (some_ 3 (by omega)) h3
  obtain ⟨a4, rfl⟩ := one _ _ (some_ 4 (by omega)) h4
  obtain ⟨a5, rfl⟩ := one _ _ (some_ 5 (by omega)) h5
  obtain ⟨a6, rfl⟩ := one _ _ (some_ 6 (by omega)) h6
  exact ⟨a0, a1, a2, a3, a4, a5, a6, rfl⟩
end
end Go.Proofs.Ytanolcldeeglmaa
