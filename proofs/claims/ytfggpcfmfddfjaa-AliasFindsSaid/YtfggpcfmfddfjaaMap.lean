/- The map of aligns that alias.aligns makes: it has just the keys 8, 16, 32, 64. -/
import Derived.Test.YtfggpcfmfddfjaaProg
import Derived.Maps.OwnSet
import Derived.WalkKit
import Derived.KernelRfl
namespace Go.Proofs.Ytfggpcfmfddfjaa
open Go.RowKit Go.Maps

theorem law3 : Keyed Try.prog 3 := int_keyed Try.underlying3
theorem zero36 (w : World) : (zeroValue 36).run Try.prog w = .ok (.agg #[]) w := by kernel_rfl

/-- The set of the four aligns, as it reads. -/
def D4 : DataW Unit := (((DataW.map [] |>.put (.int .i64 8) (.agg [])).put (.int .i64 16) (.agg [])).put (.int .i64 32) (.agg [])).put (.int .i64 64) (.agg [])

theorem key_of (x : Int) (hx : (Lit.int .i64 x).wf = true) : keyOf Try.prog 3 (.int .i64 x) = some (.int .i64 x) := keyOf_int_mk Try.underlying3 hx

theorem aligns_any (w : World) :
    Calls Try.prog 19 #[] w fun e w' => ∃ b, e = .returned (.map (some b)) ∧ w.heap.size ≤ b ∧ w'.ownsMap Try.prog 3 unitElem b 4 D4 ∧ Below w.heap.size w w' := by
  have hmm := @run_makeMap Try.prog
  have h0 := World.ownsMap_made (H := Unit) w Try.prog 3 unitElem
  obtain ⟨w1, r1, o1, g1⟩ := h0.update law3 Try.underlying38 (by unfold maxLen; omega) (key_of 8 (by decide)) unitElem_mk
  obtain ⟨w2, r2, o2, g2⟩ := o1.update law3 Try.underlying38 (by unfold maxLen; omega) (key_of 16 (by decide)) unitElem_mk
  obtain ⟨w3, r3, o3, g3⟩ := o2.update law3 Try.underlying38 (by unfold maxLen; omega) (key_of 32 (by decide)) unitElem_mk
  obtain ⟨w4, r4, o4, g4⟩ := o3.update law3 Try.underlying38 (by unfold maxLen; omega) (key_of 64 (by decide)) unitElem_mk
  have hb : Below w.heap.size w w4 := by
    have b0 : Below w.heap.size w (w.alloc (.map #[] 0)) := (Below.refl _ _).alloc (Nat.le_refl _) _
    have b1 := b0.grown g1 b0.size (fun j hj => by cases hj; exact Nat.le_refl _)
    have b2 := b1.grown g2 b1.size (fun j hj => by cases hj; exact Nat.le_refl _)
    have b3 := b2.grown g3 b2.size (fun j hj => by cases hj; exact Nat.le_refl _)
    exact b3.grown g4 b3.size (fun j hj => by cases hj; exact Nat.le_refl _)
  clear g1 g2 g3 g4 o1 o2 o3
  go_enter Try.func19, Try.ntmps19
  go_wp2
  trace_state
  go_ret
  exact ⟨_, rfl, Nat.le_refl _, o4, hb⟩

end Go.Proofs.Ytfggpcfmfddfjaa
