/- The walk of CountTurns where all its tests say yes: it answers true and touches nothing that was there. -/
import Derived.Test.YtfhjpefedlaacaaG3
import Derived.Outline
namespace Go.Proofs.Ytfhjpefedlaacaa.G
open Go.RowKit Go.Proofs.YtfhjpefedlaacaaW.PrintWords Go.Proofs.YtfhjpefedlaacaaW.PrintLast Go.Proofs.YtfhjpefedlaacaaW.PrintMore
set_option linter.unusedVariables false
set_option linter.unusedSimpArgs false

theorem put4 {w : World} {g : Nat} {a b c d i n f l : Value} (h : w.heap[g]? = some (.cells #[a, b, c, d] 24 (0, 0))) :
    ((((w.setCell ⟨g, 0, none⟩ i).setCell ⟨g, 1, none⟩ n).setCell ⟨g, 2, none⟩ f).setCell ⟨g, 3, none⟩ l).heap[g]? = some (.cells #[i, n, f, l] 24 (0, 0)) :=
  blk_put (blk_put (blk_put (blk_put h 0 i (cs' := #[i, b, c, d]) rfl) 1 n (cs' := #[i, n, c, d]) rfl) 2 f (cs' := #[i, n, f, d]) rfl) 3 l rfl
theorem far4 {w : World} {g g2 : Nat} {cs : Array Value} {i n f l : Value} (hne : g2 ≠ g) (h : w.heap[g2]? = some (.cells cs 24 (0, 0))) :
    ((((w.setCell ⟨g, 0, none⟩ i).setCell ⟨g, 1, none⟩ n).setCell ⟨g, 2, none⟩ f).setCell ⟨g, 3, none⟩ l).heap[g2]? = some (.cells cs 24 (0, 0)) :=
  blk_far (blk_far (blk_far (blk_far h hne _) hne _) hne _) hne _
theorem below4 {W w : World} {g : Nat} {i n f l : Value} (h : Below W.heap.size W w) (hg : W.heap.size ≤ g) :
    Below W.heap.size W ((((w.setCell ⟨g, 0, none⟩ i).setCell ⟨g, 1, none⟩ n).setCell ⟨g, 2, none⟩ f).setCell ⟨g, 3, none⟩ l) :=
  below_set (below_set (below_set (below_set h hg) hg) hg) hg

set_option maxHeartbeats 4000000 in
set_option maxRecDepth 100000 in
theorem turns_walk (a0 a1 p q w x y : Int) (b : Bool) (k : Nat) (W : World) (hb1 : wainscotref00_Bring.f a0 16 = some p) (hp0 : 0 ≤ p) (hp1 : p < 16) (hb2 : wainscotref00_Bring.f a1 (1 + p) = some q) (hq0 : 0 ≤ q) (hq1 : q < 16)
    (hP1 : count_Pack.f q (1 + p) b true = some (w, 0)) (hP2 : count_Pack.f (q + 1) (1 + p) b true = some (x, 0)) (hP3 : count_Pack.f q (1 + p) (!b) true = some (y, 0)) (hC : count_Counts.f x = some (q + 1, 1 + p, b, true, true)) (hW : wainscotlaw17_works.f k = some true)
    (hw0 : 0 ≤ w) (hw1 : w < 262144) (t1 : (x == w + 1) = true) (t2 : (Go.bits .xor .u64 w y != 0) = true) (t3 : (Go.bits .and .u64 (Go.bits .xor .u64 w y) (IntKind.u64.wrap (Go.bits .xor .u64 w y - 1)) == 0) = true) :
    Calls Try.prog 3 #[.int .i64 a0, .int .i64 a1, .bool b] W fun e w' => e = .returned (.bool true) ∧ Below W.heap.size W w' := by
  have B1 := Aside0.mk hb1
  have B2 := Aside0.mk hb2
  have P1 := Aside0.mk hP1
  have P2 := Aside0.mk hP2
  have P3 := Aside0.mk hP3
  have C1 := Aside0.mk hC
  have W1 := Aside0.mk hW
  have T1 := Aside0.mk t1
  have T2 := Aside0.mk t2
  have T3 := Aside0.mk t3
  clear hb1 hb2 hP1 hP2 hP3 hC hW t1 t2 t3
  have hu24 := Try.underlying24
  go_enter Try.func3, Try.ntmps3
  go_upto_region 2 with (go_at_call 8; (with_reducible refine (wainscotref00_Bring.calls a0 16 p _ B1.out).mono ?_); rintro e w1 ⟨rfl, ⟨⟨n1, rfl⟩⟩⟩)
  go_cut [7, 8] (fun v7 v8 wc => ∃ g : Nat, v7 = .int .i64 (1 + p) ∧ v8 = .pointer (some ⟨g, 0, none⟩) ∧ Aside0 (W.heap.size ≤ g) ∧ Aside0 (wc.heap[g]? = some (.cells #[.int .i64 q, .int .i64 (1 + p), .bool b, .bool true] 24 (0, 0))) ∧ Aside0 (Below W.heap.size W wc))
  case first =>
    go_wp2_with (first | (go_at_call 8; (with_reducible refine (wainscotref00_Bring.calls a1 (1 + p) q _ B2.out).mono ?_); rintro e w1 ⟨rfl, ⟨⟨n2, rfl⟩⟩⟩) | ((with_reducible refine gate_dst (N := 8) rfl ?_); refine box_event ?hg (N := 8) ?hd (cs := #[.int .i64 0, .int .i64 0, .bool false, .bool false]) (t := 24) ?hr ?_; (case hd => rfl); (case hg => rfl); (case hr => first | (go_simp; done) | (go_simp; rfl)); intro gx hg w2 hbox hb; have HGx := Aside0.mk hg; have BKx := Aside0.mk hbox; have HBx := Aside0.mk hb; clear hg hbox hb; have xc0 := (blk_cell BKx.out 0).trans rfl; have xc1 := (blk_cell BKx.out 1).trans rfl; have xc2 := (blk_cell BKx.out 2).trans rfl; have xc3 := (blk_cell BKx.out 3).trans rfl; have xf0 := blk_frozen BKx.out 0; have xf1 := blk_frozen BKx.out 1; have xf2 := blk_frozen BKx.out 2; have xf3 := blk_frozen BKx.out 3))
    go_meet
    case rel => exact ⟨gx, rfl, rfl, ⟨Nat.le_of_eq HGx.out.symm⟩, ⟨put4 BKx.out⟩, ⟨below4 (below_step (pw_below_drewN (Below.refl _ _) _) HBx.out) (Nat.le_of_eq HGx.out.symm)⟩⟩
  case rest =>
  obtain ⟨g, rfl, rfl, HG, BK, HB⟩ := hcut
  go_upto_region 3 with (fail)
  go_cut [9, 10] (fun v9 v10 wc => v9 = .int .u64 w ∧ v10 = .int .i64 0 ∧ Aside0 (wc.heap[g]? = some (.cells #[.int .i64 q, .int .i64 (1 + p), .bool b, .bool true] 24 (0, 0))) ∧ Aside0 (Below W.heap.size W wc))
  case first =>
    have c0 := (blk_cell BK.out 0).trans rfl
    have c1 := (blk_cell BK.out 1).trans rfl
    have c2 := (blk_cell BK.out 2).trans rfl
    have c3 := (blk_cell BK.out 3).trans rfl
    go_wp2_with (go_at_call 9; (with_reducible refine (count_Pack.calls q (1 + p) b true w 0 _ P1.out).mono ?_); rintro e w3 ⟨rfl, hb⟩; have HBx := Aside0.mk hb; clear hb)
    go_meet
    case rel => exact ⟨rfl, rfl, ⟨blk_below BK.out HBx.out⟩, ⟨below_step HB.out HBx.out⟩⟩
  case rest =>
  obtain ⟨rfl, rfl, BK3, HB3⟩ := hcut
  clear BK HB
  go_upto_region 4 with (fail)
  go_cut [11] (fun v11 wc => ∃ g2 : Nat, v11 = .pointer (some ⟨g2, 0, none⟩) ∧ Aside0 (W.heap.size ≤ g2) ∧ Aside0 (g ≠ g2) ∧ Aside0 (wc.heap[g]? = some (.cells #[.int .i64 q, .int .i64 (1 + p), .bool b, .bool true] 24 (0, 0))) ∧ Aside0 (wc.heap[g2]? = some (.cells #[.int .i64 q, .int .i64 (1 + p), .bool b, .bool true] 24 (0, 0))) ∧ Aside0 (Below W.heap.size W wc))
  case first =>
    have c0 := (blk_cell BK3.out 0).trans rfl
    have c1 := (blk_cell BK3.out 1).trans rfl
    have c2 := (blk_cell BK3.out 2).trans rfl
    have c3 := (blk_cell BK3.out 3).trans rfl
    go_wp2_with ((with_reducible refine gate_dst (N := 11) rfl ?_); refine box_event ?hg (N := 11) ?hd (cs := #[.int .i64 0, .int .i64 0, .bool false, .bool false]) (t := 24) ?hr ?_; (case hd => rfl); (case hg => rfl); (case hr => first | (go_simp; done) | (go_simp; rfl)); intro gx hg w2 hbox hb; have HGx := Aside0.mk hg; have BKx := Aside0.mk hbox; have HBx := Aside0.mk hb; clear hg hbox hb; have xc0 := (blk_cell BKx.out 0).trans rfl; have xc1 := (blk_cell BKx.out 1).trans rfl; have xc2 := (blk_cell BKx.out 2).trans rfl; have xc3 := (blk_cell BKx.out 3).trans rfl; have xf0 := blk_frozen BKx.out 0; have xf1 := blk_frozen BKx.out 1; have xf2 := blk_frozen BKx.out 2; have xf3 := blk_frozen BKx.out 3)
    go_meet
    case rel => exact ⟨gx, rfl, ⟨Nat.le_trans HB3.out.size (Nat.le_of_eq HGx.out.symm)⟩, ⟨Nat.ne_of_lt (HGx.out ▸ blk_lt BK3.out)⟩, ⟨far4 (Nat.ne_of_lt (HGx.out ▸ blk_lt BK3.out)) (blk_below BK3.out HBx.out)⟩, ⟨put4 BKx.out⟩, ⟨below4 (below_step HB3.out HBx.out) (Nat.le_trans HB3.out.size (Nat.le_of_eq HGx.out.symm))⟩⟩
  case rest =>
  obtain ⟨g2, rfl, HG2, HNE, BK4, BL4, HB4⟩ := hcut
  clear BK3 HB3
  go_upto_region 5 with (fail)
  go_cut [7] (fun v7 wc => v7 = .int .i64 (1 + p) ∧ Aside0 (wc.heap[g]? = some (.cells #[.int .i64 q, .int .i64 (1 + p), .bool b, .bool true] 24 (0, 0))) ∧ Aside0 (wc.heap[g2]? = some (.cells #[.int .i64 (q + 1), .int .i64 (1 + p), .bool b, .bool true] 24 (0, 0))) ∧ Aside0 (Below W.heap.size W wc))
  case first =>
    have c0 := (blk_cell BK4.out 0).trans rfl
    have c1 := (blk_cell BK4.out 1).trans rfl
    have c2 := (blk_cell BK4.out 2).trans rfl
    have c3 := (blk_cell BK4.out 3).trans rfl
    have mc0 := (blk_cell BL4.out 0).trans rfl
    have mc1 := (blk_cell BL4.out 1).trans rfl
    have mc2 := (blk_cell BL4.out 2).trans rfl
    have mc3 := (blk_cell BL4.out 3).trans rfl
    have mf0 := blk_frozen BL4.out 0
    have mf1 := blk_frozen BL4.out 1
    have mf2 := blk_frozen BL4.out 2
    have mf3 := blk_frozen BL4.out 3
    have hne := HNE.out
    go_wp2_with fail
    go_meet
    case rel => exact ⟨rfl, ⟨blk_far BK4.out HNE.out _⟩, ⟨blk_put BL4.out 0 _ rfl⟩, ⟨below_set HB4.out HG2.out⟩⟩
  case rest =>
  obtain ⟨rfl, BK5, BL5, HB5⟩ := hcut
  clear BK4 BL4 HB4
  go_upto_region 6 with (fail)
  go_cut [12, 13] (fun v12 v13 wc => v12 = .int .u64 x ∧ v13 = .int .i64 0 ∧ Aside0 (wc.heap[g]? = some (.cells #[.int .i64 q, .int .i64 (1 + p), .bool b, .bool true] 24 (0, 0))) ∧ Aside0 (Below W.heap.size W wc))
  case first =>
    have c0 := (blk_cell BL5.out 0).trans rfl
    have c1 := (blk_cell BL5.out 1).trans rfl
    have c2 := (blk_cell BL5.out 2).trans rfl
    have c3 := (blk_cell BL5.out 3).trans rfl
    go_wp2_with (go_at_call 9; (with_reducible refine (count_Pack.calls (q + 1) (1 + p) b true x 0 _ P2.out).mono ?_); rintro e w3 ⟨rfl, hb⟩; have HBx := Aside0.mk hb; clear hb)
    go_meet
    case rel => exact ⟨rfl, rfl, ⟨blk_below BK5.out HBx.out⟩, ⟨below_step HB5.out HBx.out⟩⟩
  case rest =>
  obtain ⟨rfl, rfl, BK6, HB6⟩ := hcut
  clear BK5 BL5 HB5
  go_upto_region 7 with (fail)
  go_cut [14] (fun v14 wc => ∃ g3 : Nat, v14 = .pointer (some ⟨g3, 0, none⟩) ∧ Aside0 (W.heap.size ≤ g3) ∧ Aside0 (wc.heap[g3]? = some (.cells #[.int .i64 q, .int .i64 (1 + p), .bool b, .bool true] 24 (0, 0))) ∧ Aside0 (Below W.heap.size W wc))
  case first =>
    have c0 := (blk_cell BK6.out 0).trans rfl
    have c1 := (blk_cell BK6.out 1).trans rfl
    have c2 := (blk_cell BK6.out 2).trans rfl
    have c3 := (blk_cell BK6.out 3).trans rfl
    go_wp2_with ((with_reducible refine gate_dst (N := 14) rfl ?_); refine box_event ?hg (N := 14) ?hd (cs := #[.int .i64 0, .int .i64 0, .bool false, .bool false]) (t := 24) ?hr ?_; (case hd => rfl); (case hg => rfl); (case hr => first | (go_simp; done) | (go_simp; rfl)); intro gx hg w2 hbox hb; have HGx := Aside0.mk hg; have BKx := Aside0.mk hbox; have HBx := Aside0.mk hb; clear hg hbox hb; have xc0 := (blk_cell BKx.out 0).trans rfl; have xc1 := (blk_cell BKx.out 1).trans rfl; have xc2 := (blk_cell BKx.out 2).trans rfl; have xc3 := (blk_cell BKx.out 3).trans rfl; have xf0 := blk_frozen BKx.out 0; have xf1 := blk_frozen BKx.out 1; have xf2 := blk_frozen BKx.out 2; have xf3 := blk_frozen BKx.out 3)
    go_meet
    case rel => exact ⟨gx, rfl, ⟨Nat.le_trans HB6.out.size (Nat.le_of_eq HGx.out.symm)⟩, ⟨put4 BKx.out⟩, ⟨below4 (below_step HB6.out HBx.out) (Nat.le_trans HB6.out.size (Nat.le_of_eq HGx.out.symm))⟩⟩
  case rest =>
  obtain ⟨g3, rfl, HG3, BK7, HB7⟩ := hcut
  clear BK6 HB6
  go_upto_region 8 with (fail)
  go_cut [7] (fun v7 wc => v7 = .int .i64 (1 + p) ∧ Aside0 (wc.heap[g3]? = some (.cells #[.int .i64 q, .int .i64 (1 + p), .bool (!b), .bool true] 24 (0, 0))) ∧ Aside0 (Below W.heap.size W wc))
  case first =>
    have c0 := (blk_cell BK7.out 0).trans rfl
    have c1 := (blk_cell BK7.out 1).trans rfl
    have c2 := (blk_cell BK7.out 2).trans rfl
    have c3 := (blk_cell BK7.out 3).trans rfl
    have f0 := blk_frozen BK7.out 0
    have f1 := blk_frozen BK7.out 1
    have f2 := blk_frozen BK7.out 2
    have f3 := blk_frozen BK7.out 3
    go_wp2_with fail
    go_meet
    case rel => exact ⟨rfl, ⟨blk_put BK7.out 2 _ rfl⟩, ⟨below_set HB7.out HG3.out⟩⟩
  case rest =>
  obtain ⟨rfl, BK8, HB8⟩ := hcut
  clear BK7 HB7
  go_upto_region 9 with (fail)
  go_cut [15, 16] (fun v15 v16 wc => v15 = .int .u64 y ∧ v16 = .int .i64 0 ∧ Aside0 (Below W.heap.size W wc))
  case first =>
    have c0 := (blk_cell BK8.out 0).trans rfl
    have c1 := (blk_cell BK8.out 1).trans rfl
    have c2 := (blk_cell BK8.out 2).trans rfl
    have c3 := (blk_cell BK8.out 3).trans rfl
    go_wp2_with (go_at_call 9; (with_reducible refine (count_Pack.calls q (1 + p) (!b) true y 0 _ P3.out).mono ?_); rintro e w3 ⟨rfl, hb⟩; have HBx := Aside0.mk hb; clear hb)
    go_meet
    case rel => exact ⟨rfl, rfl, ⟨below_step HB8.out HBx.out⟩⟩
  case rest =>
  obtain ⟨rfl, rfl, HB9⟩ := hcut
  clear BK8 HB8
  go_upto_region 10 with (fail)
  go_cut [17, 18] (fun v17 v18 wc => ∃ g4 : Nat, v17 = .pointer (some ⟨g4, 0, none⟩) ∧ v18 = .bool true ∧ Aside0 (W.heap.size ≤ g4) ∧ Aside0 (wc.heap[g4]? = some (.cells #[.int .i64 (q + 1), .int .i64 (1 + p), .bool b, .bool true] 24 (0, 0))) ∧ Aside0 (Below W.heap.size W wc))
  case first =>
    go_wp2_with (first | (go_at_call 10; (with_reducible refine (count_Counts.calls x (q + 1) (1 + p) b true true _ C1.out).mono ?_); rintro e w3 ⟨rfl, hb⟩; have HBc := Aside0.mk hb; clear hb) | ((with_reducible refine gate_dst (N := 17) rfl ?_); refine box_event ?hg (N := 17) ?hd (cs := #[.int .i64 0, .int .i64 0, .bool false, .bool false]) (t := 24) ?hr ?_; (case hd => rfl); (case hg => rfl); (case hr => first | (go_simp; done) | (go_simp; rfl)); intro gx hg w2 hbox hb; have HGx := Aside0.mk hg; have BKx := Aside0.mk hbox; have HBx := Aside0.mk hb; clear hg hbox hb; have xc0 := (blk_cell BKx.out 0).trans rfl; have xc1 := (blk_cell BKx.out 1).trans rfl; have xc2 := (blk_cell BKx.out 2).trans rfl; have xc3 := (blk_cell BKx.out 3).trans rfl; have xf0 := blk_frozen BKx.out 0; have xf1 := blk_frozen BKx.out 1; have xf2 := blk_frozen BKx.out 2; have xf3 := blk_frozen BKx.out 3))
    go_meet
    case rel => exact ⟨gx, rfl, rfl, ⟨Nat.le_trans (below_step HB9.out HBc.out).size (Nat.le_of_eq HGx.out.symm)⟩, ⟨put4 BKx.out⟩, ⟨below4 (below_step (below_step HB9.out HBc.out) HBx.out) (Nat.le_trans (below_step HB9.out HBc.out).size (Nat.le_of_eq HGx.out.symm))⟩⟩
  case rest =>
  obtain ⟨g4, rfl, rfl, HG4, BK10, HB10⟩ := hcut
  clear HB9
  go_upto_region 11 with (fail)
  go_cut [7] (fun v7 wc => v7 = .int .i64 (1 + p) ∧ Aside0 (wc.heap[g4]? = some (.cells #[.int .i64 q, .int .i64 (1 + p), .bool b, .bool true] 24 (0, 0))) ∧ Aside0 (Below W.heap.size W wc))
  case first =>
    have c0 := (blk_cell BK10.out 0).trans rfl
    have c1 := (blk_cell BK10.out 1).trans rfl
    have c2 := (blk_cell BK10.out 2).trans rfl
    have c3 := (blk_cell BK10.out 3).trans rfl
    have f0 := blk_frozen BK10.out 0
    have f1 := blk_frozen BK10.out 1
    have f2 := blk_frozen BK10.out 2
    have f3 := blk_frozen BK10.out 3
    go_wp2_with fail
    go_meet
    case rel => exact ⟨rfl, ⟨by first | exact blk_put BK10.out 0 _ rfl | exact blk_put BK10.out 0 _ (by rw [show q + 1 - 1 = q by omega]; rfl)⟩, ⟨below_set HB10.out HG4.out⟩⟩
  case rest =>
  obtain ⟨rfl, BK11, HB11⟩ := hcut
  clear BK10 HB10
  go_upto_region 12 with (fail)
  go_cut [19, 20] (fun v19 v20 wc => v19 = .int .u64 w ∧ v20 = .int .i64 0 ∧ Aside0 (Below W.heap.size W wc))
  case first =>
    have c0 := (blk_cell BK11.out 0).trans rfl
    have c1 := (blk_cell BK11.out 1).trans rfl
    have c2 := (blk_cell BK11.out 2).trans rfl
    have c3 := (blk_cell BK11.out 3).trans rfl
    go_wp2_with (go_at_call 9; (with_reducible refine (count_Pack.calls q (1 + p) b true w 0 _ P1.out).mono ?_); rintro e w3 ⟨rfl, hb⟩; have HBx := Aside0.mk hb; clear hb)
    go_meet
    case rel => exact ⟨rfl, rfl, ⟨below_step HB11.out HBx.out⟩⟩
  case rest =>
  obtain ⟨rfl, rfl, HB12⟩ := hcut
  clear BK11 HB11
  have t1 := T1.out
  have t2 := T2.out
  have t3 := T3.out
  go_wp2_with (go_at_call 11; (with_reducible refine (wainscotlaw17_works.calls k true _ W1.out).mono ?_); rintro e w3 ⟨rfl, hb⟩; have HBx := Aside0.mk hb; clear hb)
  go_ret
  exact ⟨rfl, below_step HB12.out HBx.out⟩
end Go.Proofs.Ytfhjpefedlaacaa.G
