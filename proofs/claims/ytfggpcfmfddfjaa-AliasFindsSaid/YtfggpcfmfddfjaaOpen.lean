/- A slice of specs that came in, opened: the list that it reads as, its cells, and that it is no longer than memory allows. -/
import Derived.Test.YtfggpcfmfddfjaaG0
import Derived.Test.YtfggpcfmfddfjaaPlF
import Derived.SizedLaws
import Derived.Deep.Slices
import Derived.Deep.Strs
import Derived.ChangeOld
namespace Go.Proofs.Ytfggpcfmfddfjaa
open Go.RowKit Go.Proofs.YtfggpcfmfddfjaaW.PrintWords Go.Proofs.Ytfggpcfmfddfjaa.G

section
variable {H : Type} {enc : TypeId × Value → H} {W : World} {base : Nat} {spare : Nat → Bool} {held : Bool}

theorem bytes23 : Try.prog.bytesOf 23 = 24 := by kernel_rfl
theorem cells23 : Try.prog.cellsOf 23 = 3 := by kernel_rfl
theorem cells3 : Try.prog.cellsOf 3 = 1 := by kernel_rfl

theorem spec_cells {n : Nat} {cs : List Value} {x : DataW H × List MemPlace} (h : DataW.trod enc Try.prog W base spare held n 23 cs = some x) :
    ∃ s : S23, cs = [.int .i64 s.f0, .int .i64 s.f1, .int .i64 s.f2] ∧ (Lit.int .i64 s.f1).wf = true := by
  obtain ⟨y0, y1, y2, m, _, hl, h0, h1, h2⟩ := Go.Deep.trod_struct3 Try.underlying23 h
  rw [cells23] at hl
  match cs, hl with
  | [c0, c1, c2], _ =>
    simp only [cells3, List.drop_zero, List.drop_succ_cons, List.take_succ_cons, List.take_zero] at h0 h1 h2
    obtain ⟨a0, e0, _, _⟩ := DataW.trod_int Try.underlying3 h0
    obtain ⟨a1, e1, _, w1⟩ := DataW.trod_int Try.underlying3 h1
    obtain ⟨a2, e2, _, _⟩ := DataW.trod_int Try.underlying3 h2
    simp at e0 e1 e2
    subst e0 e1 e2
    exact ⟨⟨a0, a1, a2⟩, rfl, w1⟩

theorem open_specs {a : Option Addr} {len cap : Nat} {d : DataW H} {ps : List MemPlace} {ts : List TypeId} {ds : List (DataW H)} {j : Nat}
    (hsz : (DataW.weightsEach Try.prog ts ds).all (· ≤ reachBytes) = true) (ht : ts[j]? = some 29) (hd : ds[j]? = some d)
    (h : DataW.Trod enc Try.prog W base spare held 29 (.slice a len cap) d ps) :
    ∃ l : List S23, len = l.length ∧ Kd.C k23 W a l.length l ∧ l.length ≤ cap ∧ Pl.okL l ∧ l.length * 24 ≤ 140737488351232 := by
  obtain ⟨fuel, hf⟩ := h
  rcases Go.Deep.open_slice Try.underlying29 hf with ⟨hcs, _⟩ | ⟨x, l, c, m, n, D, Ps, hcs, _, hl, hm, hmm, hx, hel⟩
  · simp [Value.cells] at hcs
    obtain ⟨rfl, rfl, rfl⟩ := hcs
    exact ⟨[], rfl, ⟨rfl, by simp, fun h => by simp at h⟩, by simp, (fun x hx => by cases hx), by simp⟩
  · simp [Value.cells] at hcs
    obtain ⟨rfl, rfl, rfl⟩ := hcs
    have hlm : len ≤ m := by rw [hmm]; split <;> omega
    have each : ∀ i, i < m → ∃ s : S23, W.cell? (x.add (i * 3)) = some (.int .i64 s.f0) ∧ W.cell? (x.add (i * 3 + 1)) = some (.int .i64 s.f1) ∧ W.cell? (x.add (i * 3 + 2)) = some (.int .i64 s.f2) ∧ (Lit.int .i64 s.f1).wf = true := by
      intro i hi
      obtain ⟨cs', h1, h2⟩ := hel i hi
      rw [cells23] at h1
      obtain ⟨s, rfl, w1⟩ := spec_cells h2
      obtain ⟨_, _, hcell⟩ := World.cells?_some h1
      have e0 := hcell 0 (by omega)
      have e1 := hcell 1 (by omega)
      have e2 := hcell 2 (by omega)
      rw [Go.Deep.add_add] at e0 e1 e2
      exact ⟨s, by simpa using e0, by simpa using e1, by simpa using e2, w1⟩
    haveI : Inhabited S23 := ⟨z23⟩
    obtain ⟨q, hq⟩ := Go.Deep.choose_lt each
    refine ⟨(List.range len).map q, by simp, ?_, by simpa using hl, ?_, ?_⟩
    · refine ⟨by simp, ?_, fun _ => ⟨x, rfl, ?_⟩⟩
      · unfold maxLen at hm; simp; omega
      · intro i p hp
        have hi : i < len := by
          have := (List.getElem?_eq_some_iff.1 hp).1
          simpa using this
        have hqi := hq i (by omega)
        have hp' : p = q i := by
          rw [List.getElem?_map, List.getElem?_range hi] at hp
          simpa using hp.symm
        subst hp'
        refine ⟨[.int .i64 (q i).f0, .int .i64 (q i).f1, .int .i64 (q i).f2], rfl, k23_mk W (q i), ?_⟩
        intro t u hu
        match t, hu with
        | 0, hu => simp at hu; subst hu; exact hqi.1
        | 1, hu => simp at hu; subst hu; exact hqi.2.1
        | 2, hu => simp at hu; subst hu; exact hqi.2.2.1
        | t + 3, hu => simp at hu
    · intro y hy
      obtain ⟨i, hi, rfl⟩ := List.mem_map.1 hy
      exact (hq i (by have := List.mem_range.1 hi; omega)).2.2.2
    · obtain ⟨hx1, _⟩ := Prod.mk.inj hx
      subst hx1
      have z := sized_slice hsz ht hd Try.underlying29
      rw [bytes23] at z
      simp at z
      simp
      have hr : reachBytes = 140737488351232 := rfl
      omega
end
end Go.Proofs.Ytfggpcfmfddfjaa
