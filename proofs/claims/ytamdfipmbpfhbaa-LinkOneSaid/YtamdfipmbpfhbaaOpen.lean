/- Two heads that came in by value, as an array, opened: its two numbers. -/
import Derived.Test.YtamdfipmbpfhbaaG0
import Derived.Lib.SmallJoins
import Derived.OpenShut
namespace Go.Proofs.Ytamdfipmbpfhbaa
open Go.RowKit Go.ChangeShapes Go.WideShapes Go.ChangeAt
section
variable {H : Type} {enc : TypeId × Value → H} {W : World} {base : Nat} {spare : Nat → Bool} {held : Bool}
theorem cells41 : Try.prog.cellsOf 41 = 2 := by kernel_rfl
theorem cells3 : Try.prog.cellsOf 3 = 1 := by kernel_rfl
theorem open_heads {r : Reach} {b0 : Nat} {v : Value} {d : DataW H} {p : List MemPlace} (hv : Value.okWide Try.prog W r b0 41 v) (h : DataW.Trod enc Try.prog W base spare held 41 v d p) :
    ∃ a0 a1 : Int, v = .agg #[.int .i64 a0, .int .i64 a1] := by
  have hu : ∃ cs, v = .agg cs ∧ cs.size = Try.prog.cellsOf 41 := by
    simp only [Value.okWide, Try.underlying41] at hv
    obtain ⟨cs, h1, h2, _⟩ := hv
    exact ⟨cs, h1, h2⟩
  obtain ⟨cs, rfl, hsz⟩ := hu
  obtain ⟨c0, c1, rfl⟩ := Go.Joins.array2 (hsz.trans cells41)
  obtain ⟨fuel, hf⟩ := h
  obtain ⟨xs, n, _, _, hl, hlen, hf'⟩ := DataW.trod_array Try.underlying41 hf
  have one : ∀ (c : Value) (o : Option (DataW H × List MemPlace)), (∃ y, o = some y) → DataW.trod enc Try.prog W base spare held n 3 [c] = o → ∃ a, c = .int .i64 a := by
    rintro c o ⟨y, rfl⟩ h
    obtain ⟨a, e, _, _⟩ := DataW.trod_int Try.underlying3 h
    simp at e
    exact ⟨a, e⟩
  have some_ : ∀ i, i < 2 → ∃ y, xs[i]? = some y := fun i hi => ⟨xs[i]'(by rw [hlen]; exact hi), List.getElem?_eq_getElem _⟩
  have h0 := hf' 0 (by omega)
  have h1 := hf' 1 (by omega)
  rw [cells3] at h0 h1
  obtain ⟨a0, rfl⟩ := one _ _ (some_ 0 (by omega)) h0
  obtain ⟨a1, rfl⟩ := one _ _ (some_ 1 (by omega)) h1
  exact ⟨a0, a1, rfl⟩
end
end Go.Proofs.Ytamdfipmbpfhbaa
