/- LinkOne: its walk. -/
import Derived.Test.YtamdfipmbpfhbaaO0
import Derived.Test.YtamdfipmbpfhbaaPl4
import Derived.Test.YtamdfipmbpfhbaaPl6
namespace Go.Proofs.Ytamdfipmbpfhbaa.G
open Go.RowKit Go.Proofs.YtamdfipmbpfhbaaW.PrintWords Go.Proofs.YtamdfipmbpfhbaaW.PrintLast Go.Proofs.YtamdfipmbpfhbaaW.PrintMore
attribute [local go_sem] max2_int min2_int max_two min_two max_three min_three max_four min_four   -- for this text's walks alone
set_option linter.unusedVariables false
set_option linter.unusedSimpArgs false

/-- How often each object has been met: a block of sixteen ints. -/
def cntC (xs : List Int) : Array Value := ((List.range 16).map fun (j : Nat) => Value.int .i64 (if (j : Int) ∈ xs then 1 else 0)).toArray
theorem cntC_get (xs : List Int) (i : Int) (h0 : 0 ≤ i) (h1 : i < 16) : (cntC xs)[i.toNat]? = some (.int .i64 (if i ∈ xs then 1 else 0)) := by
  unfold cntC
  have hi : i.toNat < 16 := by omega
  simp only [List.getElem?_toArray, List.getElem?_map, List.getElem?_range hi, Option.map_some]
  rw [show ((i.toNat : Nat) : Int) = i by omega]
theorem cntC_set (xs : List Int) (i : Int) (h0 : 0 ≤ i) (h1 : i < 16) : (cntC xs).setIfInBounds i.toNat (.int .i64 1) = cntC (xs ++ [i]) := by
  unfold cntC
  apply Array.ext'
  rw [Array.toList_setIfInBounds]
  apply List.ext_getElem?
  intro j
  rw [List.getElem?_set]
  by_cases hj : i.toNat = j
  · subst hj
    have hi : i.toNat < 16 := by omega
    simp [hi]
    intro _
    omega
  · rw [if_neg hj]
    by_cases h16 : j < 16
    · simp only [List.getElem?_map, List.getElem?_range h16, Option.map_some]
      have : ((j : Int) ∈ xs) = ((j : Int) ∈ xs ++ [i]) := by
        rw [List.mem_append, List.mem_singleton, eq_iff_iff]
        exact ⟨.inl, fun h => h.elim id (fun h => absurd h (by omega))⟩
      simp only [this]
    · have : (List.range 16)[j]? = none := List.getElem?_eq_none (by simp; omega)
      simp [this]
theorem cntC_nil : cntC [] = #[.int .i64 0, .int .i64 0, .int .i64 0, .int .i64 0, .int .i64 0, .int .i64 0, .int .i64 0, .int .i64 0, .int .i64 0, .int .i64 0, .int .i64 0, .int .i64 0, .int .i64 0, .int .i64 0, .int .i64 0, .int .i64 0] := by rfl
theorem take_next {a : List Int} {i : Nat} (h : i < a.length) : a.take (i + 1) = a.take i ++ [rd a (i : Int)] := by
  rw [List.take_succ_eq_append_getElem h, Pl.rd_nat h]
theorem fresh_next {a : List Int} {i : Nat} (hn : a.Nodup) (h : i < a.length) : rd a (i : Int) ∉ a.take i := by
  intro hm
  have h2 : (a.take (i + 1)).Nodup := hn.sublist (List.take_sublist _ _)
  rw [take_next h, List.nodup_append] at h2
  exact h2.2.2 _ hm _ (List.mem_singleton.2 rfl) rfl

set_option maxHeartbeats 1000000 in
set_option maxRecDepth 100000 in
theorem LinkOne.walk (A0 : Option Addr) (c0 : Nat) (l0 : List Int) (key h0 h1 : Int) (w : World) (hr0 : Kd.C (Kd.int .u64) w A0 l0.length l0) (hc0 : l0.length ≤ c0) (hm0 : l0.length ≤ 17592186044416) (hw0 : Pl.wordsOk l0) (k0 : 0 ≤ key) (k1 : key < 18446744073709551616) :
    Calls Try.prog 7 #[.slice A0 l0.length c0, .int .u64 key, .agg #[.int .i64 h0, .int .i64 h1]] w fun e w' => e = .returned (.bool true) ∧ Below w.heap.size w w' := by
  have HR0 := Aside0.mk hr0
  have HB := Aside0.mk (Below.refl w.heap.size w)
  have HW0 := Aside0.mk hw0
  clear hr0 hw0
  obtain ⟨i22, hi22, hz22⟩ := Option.map_eq_some_iff.1 info22
  have hs22 : i22.size = 1 := by simp only [Prod.mk.injEq] at hz22; exact hz22.2.1
  clear hz22
  obtain ⟨l, hl⟩ : ∃ l, l = l0.take 16 := ⟨_, rfl⟩
  have hl16 : l.length ≤ 16 := by rw [hl, List.length_take]; omega
  have hlc : l.length ≤ c0 := by rw [hl, List.length_take]; omega
  have HC := Aside0.mk (show Kd.C (Kd.int .u64) w A0 l.length l by
    by_cases q : l0.length ≤ 16
    · have e : l = l0 := by rw [hl]; exact List.take_of_length_le q
      rw [e]; exact HR0.out
    · rw [hl]; exact Kd.C_take HR0.out (by omega))
  have HW := Aside0.mk (show Pl.wordsOk l by rw [hl]; exact fun x hx => HW0.out x (List.mem_of_mem_take hx))
  have HL := Aside0.mk hl
  have HI := Aside0.mk hi22
  clear hl hi22
  go_enter Try.func7, Try.ntmps7
  go_upto_region 1 with ((with_reducible refine gate_dst (N := 5) rfl ?_); refine box_event ?hg (N := 5) ?hd (cs := #[.int .i64 h0, .int .i64 h1]) (t := 41) ?hr ?_; (case hd => rfl); (case hg => rfl); (case hr => first | (go_simp; done) | (go_simp; rfl)); intro gh hg wgh hbox hb; have HGgh := Aside0.mk hg; have BKgh := Aside0.mk hbox; have HBgh := Aside0.mk hb; clear hg hbox hb)
  go_cut [0] (fun v0 wc => v0 = .slice A0 l.length c0 ∧ Aside0 (w.heap.size ≤ gh) ∧ Aside0 (wc.heap[gh]? = some (.cells #[.int .i64 h0, .int .i64 h1] 41 (0, 0))) ∧ Aside0 (Below w.heap.size w wc))
  case first =>
    by_cases q : (16 : Int) < (l0.length : Int)
    · have ht := (print_take_int (P := Try.prog) (k := .u64) 26 22 Try.underlying26 HI.out hs22 A0 c0 l0 16 (by omega) (by omega) hc0).1
      have e : (l0.take (16 : Int).toNat).length = l.length := by rw [HL.out]; rfl
      rw [e] at ht
      have b1 : decide ((16 : Int) < (l0.length : Int)) = true := decide_eq_true q
      go_wp2
      go_meet
      case rel => exact ⟨rfl, ⟨Nat.le_of_eq HGgh.out.symm⟩, BKgh, HBgh⟩
    · have ht := (print_take_int (P := Try.prog) (k := .u64) 26 22 Try.underlying26 HI.out hs22 A0 c0 l0 (l0.length : Int) (by omega) (by omega) hc0).1
      have e : (l0.take (l0.length : Int).toNat).length = l.length := by rw [HL.out, List.length_take, List.length_take]; omega
      rw [e] at ht
      have b1 : decide ((16 : Int) < (l0.length : Int)) = false := decide_eq_false q
      go_wp2
      go_meet
      case rel => exact ⟨rfl, ⟨Nat.le_of_eq HGgh.out.symm⟩, BKgh, HBgh⟩
  case rest =>
  obtain ⟨rfl, GH, BK, HBc⟩ := hcut
  clear HB BKgh HBgh HGgh
  by_cases hn : l.length = 0
  · have b1 : ((l.length : Int) == 0) = true := beq_iff_eq.mpr (by omega)
    go_wp2_with (go_at_call 14; (with_reducible refine (wainscotlaw16_works.calls true _ rfl).mono ?_); rintro e w' ⟨rfl, hb⟩; have HBz := Aside0.mk (below_step (by first | exact HBc.out | exact pw_below_drewN HBc.out _) hb); clear hb)
    go_ret
    exact ⟨rfl, HBz.out⟩
  have hn1 : 1 ≤ l.length := by omega
  have b1 : ((l.length : Int) == 0) = false := beq_eq_false_iff_ne.mpr (by omega)
  obtain ⟨x0, e0, x00, x01⟩ := Pl.bring (n := h0) (m := (l.length : Int)) (by omega) (by omega)
  obtain ⟨x1, e1, x10, x11⟩ := Pl.bring (n := h1) (m := (l.length : Int)) (by omega) (by omega)
  have F0 := Pl.list_cases (key := key) HW.out hl16 x00 x01
  have F1 := Pl.list_cases (key := key) HW.out hl16 x10 x11
  have L0 := Pl.aList (l := l) x0 HW.out k0 k1 18 (Nat.le_refl _)
  have L1 := Pl.aList (l := l) x1 HW.out k0 k1 18 (Nat.le_refl _)
  obtain ⟨⟨a, ea⟩, hva⟩ : ∃ p, p = Pl.listV l key x0 := ⟨_, rfl⟩
  obtain ⟨⟨b, eb⟩, hvb⟩ : ∃ p, p = Pl.listV l key x1 := ⟨_, rfl⟩
  rw [← hva] at F0 L0
  rw [← hvb] at F1 L1
  simp only at F0 F1
  have E0 := Aside0.mk e0
  have E1 := Aside0.mk e1
  have LA := Aside0.mk L0
  have LB := Aside0.mk L1
  have FA := Aside0.mk F0
  have FB := Aside0.mk F1
  clear e0 e1 L0 L1 F0 F1 hva hvb hn
  go_upto_region 4 with (fail)
  go_cut [7, 8] (fun v7 v8 wc => ∃ (Aa : Option Addr) (ca : Nat), v7 = .slice Aa a.length ca ∧ v8 = .int .i64 ea ∧ Aside0 (a.length ≤ ca) ∧ Aside0 (Kd.C (Kd.int .i64) wc Aa a.length a) ∧ Aside0 (wc.heap[gh]? = some (.cells #[.int .i64 h0, .int .i64 h1] 41 (0, 0))) ∧ Aside0 (Below w.heap.size w wc))
  case first =>
    have hz0 := (blk_cell BK.out 0).trans rfl
    go_wp2_with (first | (go_at_call 21; (with_reducible refine (wainscotref00_Bring.calls h0 (l.length : Int) x0 _ E0.out).mono ?_); rintro e w' ⟨rfl, ⟨nd, rfl⟩⟩) | (go_at_call 15; (with_reducible refine (link_List.calls 18 A0 c0 l key x0 a ea _ (Kd.C_below HC.out (by first | exact HBc.out | exact pw_below_drewN HBc.out _)) hlc LA.out).mono ?_); rintro e w2 ⟨v7, rfl, ho, hb⟩; obtain ⟨Aa, ca, rfl, hca, hcA⟩ := Kd.R_reads ho; have HCa := Aside0.mk hca; have HCA := Aside0.mk hcA; have BK2 := Aside0.mk (blk_below (by first | exact BK.out | exact blk_drewN BK.out _) hb); have HB2 := Aside0.mk (below_step (by first | exact HBc.out | exact pw_below_drewN HBc.out _) hb); clear ho hb hca hcA))
    go_meet
    case rel => exact ⟨Aa, ca, rfl, rfl, HCa, HCA, BK2, HB2⟩
  case rest =>
  clear BK HBc
  obtain ⟨Aa, ca, rfl, rfl, HCa, HCA, BK, HBc⟩ := hcut
  go_upto_region 5 with (fail)
  go_cut [9, 10] (fun v9 v10 wd => ∃ (Ab : Option Addr) (cb : Nat), v9 = .slice Ab b.length cb ∧ v10 = .int .i64 eb ∧ Aside0 (b.length ≤ cb) ∧ Aside0 (Kd.C (Kd.int .i64) wd Aa a.length a) ∧ Aside0 (Kd.C (Kd.int .i64) wd Ab b.length b) ∧ Aside0 (Below w.heap.size w wd))
  case first =>
    have hz1 := (blk_cell BK.out 1).trans rfl
    go_wp2_with (first | (go_at_call 21; (with_reducible refine (wainscotref00_Bring.calls h1 (l.length : Int) x1 _ E1.out).mono ?_); rintro e w' ⟨rfl, ⟨nd, rfl⟩⟩) | (go_at_call 15; (with_reducible refine (link_List.calls 18 A0 c0 l key x1 b eb _ (Kd.C_below HC.out (by first | exact HBc.out | exact pw_below_drewN HBc.out _)) hlc LB.out).mono ?_); rintro e w2 ⟨v9, rfl, ho, hb⟩; obtain ⟨Ab, cb, rfl, hcb, hcB⟩ := Kd.R_reads ho; have HCb := Aside0.mk hcb; have HCB := Aside0.mk hcB; have HCA2 := Aside0.mk (Kd.C_below (by first | exact HCA.out | exact Kd.C_drewN HCA.out _) hb); have HB2 := Aside0.mk (below_step (by first | exact HBc.out | exact pw_below_drewN HBc.out _) hb); clear ho hb hcb hcB))
    go_meet
    case rel => exact ⟨Ab, cb, rfl, rfl, HCb, HCA2, HCB, HB2⟩
  case rest =>
  clear BK HBc HCA GH
  obtain ⟨Ab, cb, rfl, rfl, HCb, HCA, HCB, HBc⟩ := hcut
  clear b1 E0 E1 LA LB
  rcases FA.out with rfl | ⟨rfl, oa, ca0, la, ra⟩
  · go_wp2_with (go_at_call 14; (with_reducible refine (wainscotlaw16_works.calls true _ rfl).mono ?_); rintro e w' ⟨rfl, hb⟩; have HBz := Aside0.mk (below_step (by first | exact HBc.out | exact pw_below_drewN HBc.out _) hb); clear hb)
    go_ret
    exact ⟨rfl, HBz.out⟩
  have OA := Aside0.mk oa
  have CA := Aside0.mk ca0
  have RA := Aside0.mk ra
  clear FA oa ca0 ra
  rcases FB.out with rfl | ⟨rfl, ob, cb0, lb, rb⟩
  · go_wp2_with (go_at_call 14; (with_reducible refine (wainscotlaw16_works.calls true _ rfl).mono ?_); rintro e w' ⟨rfl, hb⟩; have HBz := Aside0.mk (below_step (by first | exact HBc.out | exact pw_below_drewN HBc.out _) hb); clear hb)
    go_ret
    exact ⟨rfl, HBz.out⟩
  have OB := Aside0.mk ob
  have CB := Aside0.mk cb0
  have RB := Aside0.mk rb
  clear FB ob cb0 rb
  have b1 : ((a.length : Int) == 0) = false := beq_eq_false_iff_ne.mpr (by omega)
  have b2 : ((b.length : Int) == 0) = false := beq_eq_false_iff_ne.mpr (by omega)
  go_upto_region 8 with (fail)
  go_wp2
  go_loopg [12] a.length (fun kq v12 wd => ∃ i : Nat, v12 = .int .i64 (i : Int) ∧ Aside0 (i + kq = a.length) ∧ Aside0 (wd.heap[wc.heap.size]? = some (.cells (cntC (a.take i)) 42 (0, 0))) ∧ Aside0 (Below wc.heap.size wc wd))
  case atStart => exact ⟨0, rfl, ⟨Nat.zero_add _⟩, ⟨by rw [List.take_zero, cntC_nil]; exact blk_new wc _⟩, ⟨below_alloc (Below.refl wc.heap.size wc) _⟩⟩
  case round =>
    obtain ⟨i, rfl, HI1, HH, HBd⟩ := hrel
    cases gk with
    | succ kk =>
      have hik := HI1.out
      have hi : i < a.length := by omega
      have hal := OA.out.len
      have b3 : decide ((i : Int) < (a.length : Int)) = true := decide_eq_true (by omega)
      obtain ⟨ad, ead, hx⟩ := Kd.at_int (Kd.C_below HCA.out HBd.out) (i : Int) (by omega) (by omega)
      rw [Int.toNat_natCast] at hx
      cases ead
      have hmem := OA.out.ran _ (Pl.rd_mem (l := a) (i := (i : Int)) (by omega) (by omega))
      have hfr := fresh_next OA.out.nd hi
      have hnx := take_next hi
      obtain ⟨x, ex⟩ : ∃ x, x = rd a (i : Int) := ⟨_, rfl⟩
      rw [← ex] at hx hmem hfr hnx
      have hx0 : 0 ≤ x := hmem.1
      have hx16 : x < 16 := by omega
      have b4 : decide (x < 0) = false := decide_eq_false (by omega)
      have b5 : decide ((l.length : Int) ≤ x) = false := decide_eq_false (by omega)
      have HNX := Aside0.mk hnx
      have HFR := Aside0.mk hfr
      clear hnx hfr hmem ex
      go_upto_region 14 with (fail)
      have hcell : wr.cell? ⟨wc.heap.size, x.toNat, none⟩ = some (.int .i64 0) := (blk_cell HH.out x.toNat).trans ((cntC_get (a.take i) x hx0 hx16).trans (by rw [if_neg HFR.out]))
      have hfz : wr.frozen? ⟨wc.heap.size, x.toNat, none⟩ = false := blk_frozen HH.out x.toNat
      have HH2 : Aside0 ((wr.setCell ⟨wc.heap.size, x.toNat, none⟩ (.int .i64 1)).heap[wc.heap.size]? = some (.cells (cntC (a.take (i + 1))) 42 (0, 0))) := ⟨by rw [HNX.out]; exact blk_put HH.out x.toNat _ (cntC_set (a.take i) x hx0 hx16)⟩
      have HB2 : Aside0 (Below wc.heap.size wc (wr.setCell ⟨wc.heap.size, x.toNat, none⟩ (.int .i64 1))) := ⟨below_set HBd.out (Nat.le_refl _)⟩
      clear HH HBd HI1
      go_region_with (fail)
      all_goals go_wp2
      all_goals (go_roundg kk; (case measure => omega); (case rel => exact ⟨i + 1, by first | rfl | (rw [Pl.wrap64_id (by omega) (by omega)]; rfl), ⟨by omega⟩, HH2, by first | exact HB2 | exact ⟨below_drew HB2.out⟩⟩))
    | zero =>
      have hik := HI1.out
      obtain rfl : i = a.length := by omega
      have HH2 := Aside0.mk (show wr.heap[wc.heap.size]? = some (.cells (cntC a) 42 (0, 0)) by have := HH.out; rwa [List.take_length] at this)
      have b3 : decide ((a.length : Int) < (a.length : Int)) = false := decide_eq_false (by omega)
      clear HH HI1 hik
      go_wp2
      go_loopg [13, 14] b.length (fun kq v13 v14 wd => ∃ (i : Nat) (sh : Bool), v13 = .bool sh ∧ v14 = .int .i64 (i : Int) ∧ Aside0 (sh = (b.take i).any (fun x => decide (x ∈ a))) ∧ Aside0 (i + kq = b.length) ∧ Aside0 (wd.heap[wc.heap.size]? = some (.cells (cntC a) 42 (0, 0))) ∧ Aside0 (Below wc.heap.size wc wd))
      case atStart => exact ⟨0, false, rfl, rfl, ⟨by rw [List.take_zero]; rfl⟩, ⟨Nat.zero_add _⟩, HH2, HBd⟩
      case round =>
        clear HH2 HBd b3
        obtain ⟨i, sh, rfl, rfl, HS, HI1, HH, HBd⟩ := hrel
        cases gk with
        | succ kk =>
          have hik := HI1.out
          have hi : i < b.length := by omega
          have hal := OA.out.len
          have hbl := OB.out.len
          have b3 : decide ((i : Int) < (b.length : Int)) = true := decide_eq_true (by omega)
          obtain ⟨ad, ead, hx⟩ := Kd.at_int (Kd.C_below HCB.out HBd.out) (i : Int) (by omega) (by omega)
          rw [Int.toNat_natCast] at hx
          cases ead
          have hmem := OB.out.ran _ (Pl.rd_mem (l := b) (i := (i : Int)) (by omega) (by omega))
          have hnx := take_next hi
          obtain ⟨x, ex⟩ : ∃ x, x = rd b (i : Int) := ⟨_, rfl⟩
          rw [← ex] at hx hmem hnx
          have hx0 : 0 ≤ x := hmem.1
          have hx16 : x < 16 := by omega
          have b4 : decide (x < 0) = false := decide_eq_false (by omega)
          have b5 : decide ((l.length : Int) ≤ x) = false := decide_eq_false (by omega)
          have HNX := Aside0.mk (show (b.take (i + 1)).any (fun x => decide (x ∈ a)) = (sh || decide (x ∈ a)) by rw [hnx, List.any_append, ← HS.out]; simp)
          clear hnx hmem ex HS
          have hcell : wr.cell? ⟨wc.heap.size, x.toNat, none⟩ = some (.int .i64 (if x ∈ a then 1 else 0)) := (blk_cell HH.out x.toNat).trans (cntC_get a x hx0 hx16)
          cases sh with
          | true =>
            go_wp2
            go_roundg kk
            case measure => omega
            case rel => exact ⟨i + 1, true, rfl, by first | rfl | (rw [Pl.wrap64_id (by omega) (by omega)]; rfl), ⟨by rw [HNX.out]; rfl⟩, ⟨by omega⟩, HH, HBd⟩
          | false =>
            by_cases q : x ∈ a
            · rw [if_pos q] at hcell
              have HQ := Aside0.mk q
              clear q
              go_wp2
              go_roundg kk
              case measure => omega
              case rel => exact ⟨i + 1, true, rfl, by first | rfl | (rw [Pl.wrap64_id (by omega) (by omega)]; rfl), ⟨by rw [HNX.out, decide_eq_true HQ.out]; rfl⟩, ⟨by omega⟩, HH, HBd⟩
            · rw [if_neg q] at hcell
              have HQ := Aside0.mk q
              clear q
              go_wp2
              go_roundg kk
              case measure => omega
              case rel => exact ⟨i + 1, false, rfl, by first | rfl | (rw [Pl.wrap64_id (by omega) (by omega)]; rfl), ⟨by rw [HNX.out, decide_eq_false HQ.out]; rfl⟩, ⟨by omega⟩, HH, HBd⟩
        | zero =>
          have hik := HI1.out
          obtain rfl : i = b.length := by omega
          have HS2 := Aside0.mk (show sh = b.any (fun x => decide (x ∈ a)) by have := HS.out; rwa [List.take_length] at this)
          have b3 : decide ((b.length : Int) < (b.length : Int)) = false := decide_eq_false (by omega)
          clear HS HI1 hik
          go_wp2
          go_loopg [15] 16 (fun kq v15 wd => ∃ i : Nat, v15 = .int .i64 (i : Int) ∧ Aside0 (i + kq = 16) ∧ Aside0 (wd.heap[wc.heap.size]? = some (.cells (cntC a) 42 (0, 0))) ∧ Aside0 (Below wc.heap.size wc wd))
          case atStart => exact ⟨0, rfl, ⟨rfl⟩, HH, HBd⟩
          case round =>
            clear HH HBd b3
            obtain ⟨i, rfl, HI1, HH, HBd⟩ := hrel
            cases gk with
            | succ kk =>
              have hik := HI1.out
              have b3 : decide ((i : Int) < 16) = true := decide_eq_true (by omega)
              have hcell := (blk_cell HH.out ((i : Int).toNat)).trans (cntC_get a (i : Int) (by omega) (by omega))
              rw [Int.toNat_natCast] at hcell
              by_cases q : (i : Int) ∈ a
              · rw [if_pos q] at hcell
                clear q
                go_wp2
                go_roundg kk
                case measure => omega
                case rel => exact ⟨i + 1, by first | rfl | (rw [Pl.wrap64_id (by omega) (by omega)]; rfl), ⟨by omega⟩, HH, HBd⟩
              · rw [if_neg q] at hcell
                clear q
                go_wp2
                go_roundg kk
                case measure => omega
                case rel => exact ⟨i + 1, by first | rfl | (rw [Pl.wrap64_id (by omega) (by omega)]; rfl), ⟨by omega⟩, HH, HBd⟩
            | zero =>
              have hik := HI1.out
              obtain rfl : i = 16 := by omega
              clear HI1 hik HH
              have HBw := Aside0.mk (below_step HBc.out HBd.out)
              cases sh with
              | true =>
                go_wp2_with (go_at_call 14; (with_reducible refine (wainscotlaw16_works.calls true _ rfl).mono ?_); rintro e w' ⟨rfl, hb⟩; have HBz := Aside0.mk (below_step (by first | exact HBw.out | exact pw_below_drewN HBw.out _) hb); clear hb)
                go_ret
                exact ⟨rfl, HBz.out⟩
              | false =>
                have hd : ∀ x ∈ a, x ∉ b := by
                  intro x hxa hxb
                  have h := HS2.out
                  have h2 : b.any (fun x => decide (x ∈ a)) = true := List.any_eq_true.2 ⟨x, hxb, decide_eq_true hxa⟩
                  rw [h2] at h
                  cases h
                have hmem := OA.out.ran _ (Pl.rd_mem (l := a) (i := (a.length : Int) - 1) (by omega) (by omega))
                obtain ⟨j, hj⟩ : ∃ j : Nat, rd a ((a.length : Int) - 1) = (j : Int) := ⟨(rd a ((a.length : Int) - 1)).toNat, by omega⟩
                have hjl : j < l.length := by omega
                have J := Pl.join HW.out hl16 x00 x01 x10 x11 OA.out OB.out CA.out CB.out hd la hj
                have hbd := Pl.hide_bounds (n := x1) (key := key) (a := (j : Int))
                have hhd : link_Hide.f x1 key (j : Int) = some ((Pl.hideV x1 key (j : Int)).1, 0) := by
                  rw [Pl.aHide x1 (j : Int) k0 k1]
                  unfold Pl.hideV
                  rw [if_pos ⟨.inr ⟨x10, by omega⟩, ⟨by omega, by omega⟩⟩]
                obtain ⟨v, hv⟩ : ∃ v, v = (Pl.hideV x1 key (j : Int)).1 := ⟨_, rfl⟩
                rw [← hv] at hhd J hbd
                have hok : Pl.wordsOk (l.set j v) := by
                  intro x hx
                  rcases List.mem_or_eq_of_mem_set hx with hx | rfl
                  · exact HW.out x hx
                  · exact hbd
                obtain ⟨ab, hab⟩ : ∃ ab, ab = a ++ b := ⟨_, rfl⟩
                rw [← hab] at J
                have HABE := Aside0.mk hab
                have ABL := Aside0.mk (show ab.length = a.length + b.length by rw [hab, List.length_append])
                clear hab
                have LC := Aside0.mk ((Pl.aList (l := l.set j v) x0 hok k0 k1 18 (Nat.le_refl _)).trans (congrArg some J.1))
                have HHD := Aside0.mk hhd
                have HAB := Aside0.mk (Pl.OutOk.len OA.out)
                clear hd J hhd hok hv hbd HS2 hmem
                obtain ⟨ad, ead, hx⟩ := Kd.at_int (Kd.C_below HCA.out HBd.out) ((a.length : Int) - 1) (by omega) (by omega)
                rw [hj, show ((a.length : Int) - 1).toNat = a.length - 1 by omega] at hx
                cases ead
                have la1 : 1 ≤ a.length := la
                have la16 : a.length ≤ 16 := by have := HAB.out; omega
                obtain ⟨bd, ebd, hy⟩ := Kd.at_int (Kd.C_below HCB.out HBd.out) 0 (by omega) (by omega)
                rw [RB.out, show bd.add (Int.toNat 0) = bd from by unfold Addr.add; rfl] at hy
                cases ebd
                clear hj
                go_upto_region 29 with (fail)
                go_cut [16] (fun v16 wd => v16 = .int .i64 (j : Int) ∧ wd = wr)
                case first =>
                  go_wp2
                  go_meet
                  case rel => exact ⟨rfl, rfl⟩
                case rest =>
                obtain ⟨rfl, rfl⟩ := hcut
                clear hx
                go_upto_region 30 with (fail)
                obtain ⟨W6, rfl⟩ : ∃ W, W = wc := ⟨_, rfl⟩
                have HA2 := Aside0.mk (Kd.C_below HCA.out HBd.out)
                have HB2 := Aside0.mk (Kd.C_below HCB.out HBd.out)
                have HL2 := Aside0.mk (Kd.C_below HC.out HBw.out)
                clear HCA HCB HBd
                go_upto_region 34 with (go_at_call 10; (with_reducible refine (link_Hide.calls x1 key (j : Int) v 0 _ HHD.out).mono ?_); rintro e w' ⟨rfl, ⟨nd, rfl⟩⟩)
                go_cut [19] (fun v19 wd => Aside0 (Kd.R (Kd.int .u64) 22 wd W6.heap.size (fun _ => True) v19 l) ∧ Aside0 (Below W6.heap.size W6 wd))
                case first =>
                  go_wp2_with ((with_reducible refine gate_builtin (b := .append) (xs := #[.tmp 167, .tmp 168]) rfl ?_); at_builtin; refine Kd.R_append_rows (Kd.int .u64) (w0 := W6) W6.heap.size rfl (.tmp 167) (.tmp 168) 26 22 (.int .u64 0) 8 rfl Try.underlying26 info22 rfl (by decide) (by omega) (.slice none 0 0) ([] : List Int) l _ _ _ (fun _ => True) (fun _ => False) rfl rfl ?aO ?aR (fun _ _ h => h) (fun _ h => h.elim) ?aF ?aB ?aS ?aL ?_; (case aR => first | exact HL2.out | exact Kd.C_drewN HL2.out _); (case aB => first | exact Below.refl _ _ | exact pw_below_drewN (Below.refl _ _) _); (case aF => exact (fun _ _ => trivial)); (case aO => exact (Kd.R_nil _ _ _ _ (fun _ => True))); (case aS => exact Nat.le_refl _); (case aL => rw [List.length_nil]; omega); intro v19 w7 ho hb hg hat; rw [List.nil_append] at ho; have HO7 := Aside0.mk ho; have HB7 := Aside0.mk hb; clear ho hb hg hat)
                  go_meet
                  case rel => exact ⟨HO7, HB7⟩
                case rest =>
                obtain ⟨HO7, HB7⟩ := hcut
                go_upto_region 35 with (fail)
                obtain ⟨g, cg, eg, gb, gl, cl, hgc⟩ := Kd.R_form HO7.out (by omega)
                cases eg
                obtain ⟨hc, hf⟩ := Kd.R_celln 0 HO7.out (j : Int) (by omega) (by omega)
                have hp := (Kd.R_putg HO7.out (j : Int) v).1
                rw [Int.toNat_natCast] at hc hf hp
                have HP := Aside0.mk hp
                have HB8 : Aside0 (Below W6.heap.size W6 (wc.setCell ⟨g, j, none⟩ (.int .u64 v))) := ⟨below_set HB7.out gb⟩
                have hcg := Aside0.mk (Kd.R_reads' HO7.out).2.1
                clear hp gb gl hgc HO7 HB7
                go_upto_region 36 with (fail)
                clear hc hf hy
                generalize (wc.setCell ⟨g, j, none⟩ (.int .u64 v)) = W7 at HP HB8 ⊢
                obtain ⟨ad', ead', hx⟩ := Kd.at_int (Kd.C_below HA2.out HB8.out) 0 (by omega) (by omega)
                cases ead'
                rw [RA.out, show ad.add (Int.toNat 0) = ad from by unfold Addr.add; rfl] at hx
                have LCALL : ∀ W : World, Kd.C (Kd.int .u64) W (some ⟨g, 0, none⟩) l.length (l.set j v) → Calls Try.prog 15 #[.slice (some ⟨g, 0, none⟩) l.length cg, .int .u64 key, .int .i64 x0] W fun e w' => ∃ v0_ : Value, e = .returned (.tuple #[v0_, .int .i64 0]) ∧ Kd.R (Kd.int .i64) 3 w' W.heap.size (fun _ => True) v0_ ab ∧ Below W.heap.size W w' := by
                  intro W hC
                  have hle := hcg.out
                  have h := link_List.calls 18 (some ⟨g, 0, none⟩) cg (l.set j v) key x0 ab 0 W (by rw [List.length_set]; exact hC) (by rw [List.length_set]; exact hle) LC.out
                  rw [List.length_set] at h
                  exact h
                have LCA := Aside0.mk LCALL
                have HCV := Aside0.mk (show Kd.C (Kd.int .u64) W7 (some ⟨g, 0, none⟩) l.length (l.set j v) by have h := (Kd.R_reads' HP.out).2.2; rwa [List.length_set] at h)
                clear LCALL HP
                go_cut [20, 21] (fun v20 v21 wd => ∃ (Ac : Option Addr) (cc : Nat), v20 = .slice Ac ab.length cc ∧ v21 = .int .i64 0 ∧ Aside0 (ab.length ≤ cc) ∧ Aside0 (Kd.C (Kd.int .i64) wd Ac ab.length ab) ∧ Aside0 (Below W6.heap.size W6 wd))
                case first =>
                  go_wp2_with (go_at_call 15; (with_reducible refine (LCA.out _ (by first | exact HCV.out | exact Kd.C_drewN HCV.out _)).mono ?_); rintro e w8 ⟨v8, rfl, ho, hb⟩; obtain ⟨Ac, cc, rfl, hcc, hcC⟩ := Kd.R_reads ho; have HCc := Aside0.mk hcc; have HCC := Aside0.mk hcC; have HB9 := Aside0.mk (below_step (by first | exact HB8.out | exact pw_below_drewN HB8.out _) hb); clear ho hb hcc hcC)
                  go_meet
                  case rel => exact ⟨Ac, cc, rfl, rfl, HCc, HCC, HB9⟩
                case rest =>
                obtain ⟨Ac, cc, rfl, rfl, HCc, HCC, HB9⟩ := hcut
                obtain ⟨W8, rfl⟩ : ∃ W, W = wc := ⟨_, rfl⟩
                have HA8 := Aside0.mk (Kd.C_below HA2.out HB9.out)
                have HB8' := Aside0.mk (Kd.C_below HB2.out HB9.out)
                have HW8 := Aside0.mk (below_step HBw.out HB9.out)
                have hb16 := OB.out.len
                have abl := ABL.out
                have hcp : wainscotref00_CopyInts.f a = some a := by unfold wainscotref00_CopyInts.f; rw [if_pos (by rw [List.length_nil]; omega)]; rfl
                have HCP := Aside0.mk hcp
                have HEQ := Aside0.mk (Pl.eqInts ab (by omega) 40 (by omega))
                clear hcp hx HB9 HA2 HB2 HB8 LCA HCV abl
                go_upto_region 37 with (fail)
                go_wp2_with (first
                  | (go_at_call 22; (with_reducible refine (wainscotref00_CopyInts.calls (some ad) ca a a _ (by first | exact HA8.out | exact Kd.C_drewN HA8.out _) HCa.out HCP.out).mono ?_); rintro e w9 ⟨v9, rfl, ho, hb⟩; have HO9 : Aside0 (Kd.R (Kd.int .i64) 3 w9 W8.heap.size (fun _ => True) v9 a) := ⟨ho⟩; have HB9 : Aside0 (Below W8.heap.size W8 w9) := ⟨below_step (w := W8) (by first | exact Below.refl _ _ | exact pw_below_drewN (Below.refl _ _) _) hb⟩; clear ho hb)
                  | ((with_reducible refine gate_builtin (b := .append) (xs := #[.tmp 188, .tmp 189]) rfl ?_); (try (refine gate_guard (by rfl) ?_; dsimp only)); at_builtin; refine Kd.R_append_rows (Kd.int .i64) (w0 := W8) W8.heap.size rfl (.tmp 188) (.tmp 189) 31 3 (.int .i64 0) 8 rfl Try.underlying31 info3 rfl (by decide) (by omega) v9 a b _ _ _ (fun _ => True) (fun _ => False) rfl rfl ?aO ?aR (fun _ _ h => h) (fun _ h => h.elim) ?aF ?aB ?aS ?aL ?_; (case aR => first | exact Kd.C_below HB8'.out HB9.out | exact Kd.C_drewN (Kd.C_below HB8'.out HB9.out) _); (case aB => first | exact HB9.out | exact pw_below_drewN HB9.out _); (case aF => exact (fun _ _ => trivial)); (case aO => first | exact HO9.out | exact Kd.R_drewN HO9.out _); (case aS => exact HB9.out.size); (case aL => omega); intro v10 w10 ho hb hg hat; rw [← HABE.out] at ho; obtain ⟨Ad, cd, rfl, hcd, hcD⟩ := Kd.R_reads ho; have HCd := Aside0.mk hcd; have HCD := Aside0.mk hcD; have HB10 := Aside0.mk hb; clear ho hb hg hat hcd hcD)
                  | (go_at_call 17; (with_reducible refine (wainscotref00_EqInts.calls 40 Ac cc ab Ad cd ab true _ (by first | exact Kd.C_below HCC.out HB10.out | exact Kd.C_drewN (Kd.C_below HCC.out HB10.out) _) HCc.out (by first | exact HCD.out | exact Kd.C_drewN HCD.out _) HCd.out HEQ.out).mono ?_); rintro e w' ⟨rfl, ⟨nd, rfl⟩⟩)
                  | (go_at_call 14; (with_reducible refine (wainscotlaw16_works.calls true _ rfl).mono ?_); rintro e w' ⟨rfl, hb⟩; have HBz := Aside0.mk (below_step (w := w) (below_step (w := w) HW8.out (by first | exact HB10.out | exact pw_below_drewN HB10.out _)) hb); clear hb))
                go_ret
                exact ⟨rfl, HBz.out⟩
end Go.Proofs.Ytamdfipmbpfhbaa.G
