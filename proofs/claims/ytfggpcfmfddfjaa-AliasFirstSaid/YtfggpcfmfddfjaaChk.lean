/- alias.Check answers 0 or 2 as the chapter says, and touches nothing that was there. -/
import Derived.Test.YtfggpcfmfddfjaaMap
import Derived.Deep.DeepCutAuto
import Derived.Deep.CutBlock
import Derived.Deep.RegionWith
import Derived.Deep.QuietTactic
import Derived.BigQuiet
import Derived.Outline
import Derived.Lib.Hide
namespace Go.Proofs.Ytfggpcfmfddfjaa
open Go.RowKit Go.Maps
set_option linter.unusedSimpArgs false

/-- May an align be? -/
def isAlign (x : Int) : Bool := Maps.has D4 (.int .i64 x)
/-- What Check answers. -/
def chk (sz al fl : Int) : Int := if isAlign al = true then (if sz < 1 then 2 else if 1024 < sz then 2 else if fl < 0 then 2 else if 7 < fl then 2 else 0) else 2

set_option maxHeartbeats 1000000 in
theorem check_any (sz al fl : Int) (w : World) (hal : (Lit.int .i64 al).wf = true) :
    Calls Try.prog 9 #[.agg #[.int .i64 sz, .int .i64 al, .int .i64 fl]] w fun e w' =>
      e = .returned (.int .i64 (chk sz al fl)) ∧ Below w.heap.size w w' := by
  go_enter Try.func9, Try.ntmps9
  go_upto_region 1 with (fail)
  go_cut [4] (fun v4 wc => v4 = .bool (isAlign al) ∧ wc.cell? ⟨w.heap.size, 0, none⟩ = some (.int .i64 sz) ∧ wc.cell? ⟨w.heap.size, 1, none⟩ = some (.int .i64 al) ∧ wc.cell? ⟨w.heap.size, 2, none⟩ = some (.int .i64 fl) ∧ Below w.heap.size w wc)
  case first =>
    go_region_with ((go_at_call 19; refine (aligns_any _).mono ?_; rintro e w' ⟨b, rfl, hge, hown, hb⟩; obtain ⟨v, ps, hrun, hv⟩ := hown.look_ok law3 Try.underlying38 (zero36 _) unitElem_mk (key_of al hal); obtain ⟨rfl, _⟩ := unitElem_inv hv; clear hv; obtain ⟨v, ps, hrun2, hv⟩ := (hown.alloc (Obj.cells #[] 36)).look_ok law3 Try.underlying38 (zero36 _) unitElem_mk (key_of al hal); obtain ⟨rfl, _⟩ := unitElem_inv hv; clear hv; have hc0 := hb.cell (p := ⟨w.heap.size, 0, none⟩) (by simp <;> omega); have hc1 := hb.cell (p := ⟨w.heap.size, 1, none⟩) (by simp <;> omega); have hc2 := hb.cell (p := ⟨w.heap.size, 2, none⟩) (by simp <;> omega); have hb2 := hb.alloc hb.size (Obj.cells #[] 36); have hd1 := hb2.cell (p := ⟨w.heap.size, 1, none⟩) (by simp <;> omega); have hs := hb.size))
    all_goals
      go_wp2_with fail
      go_meet
      case rel =>
        refine ⟨rfl, ?_, ?_, ?_, ?_⟩
        · first | (rw [hb2.cell (p := ⟨w.heap.size, 0, none⟩) (by simp <;> omega)]; go_simp; done) | (rw [hc0]; go_simp; done)
        · first | (rw [hb2.cell (p := ⟨w.heap.size, 1, none⟩) (by simp <;> omega)]; go_simp; done) | (rw [hc1]; go_simp; done)
        · first | (rw [hb2.cell (p := ⟨w.heap.size, 2, none⟩) (by simp <;> omega)]; go_simp; done) | (rw [hc2]; go_simp; done)
        · first
            | exact ((Below.refl _ _).alloc (Nat.le_refl _) _).drew.trans (hb2.mono (by simp))
            | exact ((Below.refl _ _).alloc (Nat.le_refl _) _).drew.trans (hb.mono (by simp))
            | exact (((Below.refl _ _).alloc (Nat.le_refl _) _).alloc (by simp) _).drew.trans (hb2.mono (by simp; omega))
            | exact (((Below.refl _ _).alloc (Nat.le_refl _) _).alloc (by simp) _).drew.trans (hb.mono (by simp; omega))
  case rest =>
    obtain ⟨rfl, h0, h1, h2, hb⟩ := hcut
    by_cases ha : isAlign al = true
    · by_cases k0 : sz < 1
      · go_wp2
        go_ret
        exact ⟨by rw [chk, if_pos ha, if_pos (by omega)] <;> rfl, hb⟩
      · by_cases k1 : 1024 < sz
        · go_wp2
          go_ret
          exact ⟨by rw [chk, if_pos ha, if_neg (by omega), if_pos (by omega)] <;> rfl, hb⟩
        · by_cases k2 : fl < 0
          · go_wp2
            go_ret
            exact ⟨by rw [chk, if_pos ha, if_neg (by omega), if_neg (by omega), if_pos (by omega)] <;> rfl, hb⟩
          · by_cases k3 : 7 < fl
            · go_wp2
              go_ret
              exact ⟨by rw [chk, if_pos ha, if_neg (by omega), if_neg (by omega), if_neg (by omega), if_pos (by omega)] <;> rfl, hb⟩
            · go_wp2
              go_ret
              exact ⟨by rw [chk, if_pos ha, if_neg (by omega), if_neg (by omega), if_neg (by omega), if_neg (by omega)] <;> rfl, hb⟩
    · have ha' : isAlign al = false := by simpa using ha
      clear ha
      go_wp2
      go_ret
      exact ⟨by simp [chk, ha'], hb⟩

end Go.Proofs.Ytfggpcfmfddfjaa
