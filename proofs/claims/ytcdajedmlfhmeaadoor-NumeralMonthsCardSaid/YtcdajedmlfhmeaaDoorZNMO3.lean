import Derived.Test.YtcdajedmlfhmeaaDoorZNMO0
import Derived.Test.YtcdajedmlfhmeaaDoorZNMO1
import Derived.Test.YtcdajedmlfhmeaaDoorZNMO2
namespace Go.Proofs.YtcdajedmlfhmeaaDoor.XN
open Go.RowKit Go.Proofs.YtcdajedmlfhmeaaDoorW.PrintWords Go.Proofs.YtcdajedmlfhmeaaDoorW.PrintLast Go.Proofs.YtcdajedmlfhmeaaDoorW.PrintMore
attribute [local go_sem] max2_int min2_int max_two min_two max_three min_three max_four min_four
set_option linter.unusedVariables false
set_option linter.unusedSimpArgs false

/-! ### numeral_signed: function 33 -/
def numeral_signed.f (k : Nat) (a0 : ByteArray) : Option (Bool × ByteArray × ByteArray × Int) := (numeral_blanks.f k a0).bind fun t115 => (if t115 < (a0.size : Int) then (if 0 ≤ t115 then (if (bt a0 t115) = 45 then ((numeral_plain.f a0 (wrap64 (t115 + 1))).bind fun bt116 => (some (decide (bt116.2.2.2 > 0), bt116.2.1, bt116.2.2.1, bt116.2.2.2))) else ((numeral_plain.f a0 t115).bind fun bt121 => (some (false, bt121.2.1, bt121.2.2.1, bt121.2.2.2)))) else (none)) else ((numeral_plain.f a0 t115).bind fun bt126 => (some (false, bt126.2.1, bt126.2.2.1, bt126.2.2.2))))
set_option maxHeartbeats 8000000 in
set_option maxRecDepth 100000 in
theorem numeral_signed.calls (k : Nat) (a0 : ByteArray) (r1 : Bool) (r2 : ByteArray) (r3 : ByteArray) (r4 : Int) (w : World) (h : numeral_signed.f k a0 = some (r1, r2, r3, r4)) :
  Calls Tryd.prog 33 #[.string a0] w fun e w' => e = .returned (.agg #[.bool r1, .string r2, .string r3, .int .i64 r4]) ∧ Below w.heap.size w w' := by
 have hu55 := Tryd.underlying55
 have HB := Aside0.mk (Below.refl w.heap.size w)
 have H : ((numeral_blanks.f k a0).bind fun t115 => (if t115 < (a0.size : Int) then (if 0 ≤ t115 then (if (bt a0 t115) = 45 then ((numeral_plain.f a0 (wrap64 (t115 + 1))).bind fun bt116 => (some (decide (bt116.2.2.2 > 0), bt116.2.1, bt116.2.2.1, bt116.2.2.2))) else ((numeral_plain.f a0 t115).bind fun bt121 => (some (false, bt121.2.1, bt121.2.2.1, bt121.2.2.2)))) else (none)) else ((numeral_plain.f a0 t115).bind fun bt126 => (some (false, bt126.2.1, bt126.2.2.1, bt126.2.2.2))))) = some (r1, r2, r3, r4) := h
 clear h
 replace H := Option.bind_eq_some_iff.mp H
 obtain ⟨t115, A20, H⟩ := H
 replace H : (if t115 < (a0.size : Int) then (if 0 ≤ t115 then (if (bt a0 t115) = 45 then ((numeral_plain.f a0 (wrap64 (t115 + 1))).bind fun bt116 => (some (decide (bt116.2.2.2 > 0), bt116.2.1, bt116.2.2.1, bt116.2.2.2))) else ((numeral_plain.f a0 t115).bind fun bt121 => (some (false, bt121.2.1, bt121.2.2.1, bt121.2.2.2)))) else (none)) else ((numeral_plain.f a0 t115).bind fun bt126 => (some (false, bt126.2.1, bt126.2.2.1, bt126.2.2.2)))) = some (r1, r2, r3, r4) := H
 have A2 := Aside0.mk A20
 clear A20
 by_cases c3 : t115 < (a0.size : Int)
 ·
  rw [if_pos c3] at H
  have c3b0 : decide (t115 < (a0.size : Int)) = true := decide_eq_true c3
  clear c3
  by_cases c4 : 0 ≤ t115
  ·
   rw [if_pos c4] at H
   have c4b0 : decide (0 ≤ t115) = true := decide_eq_true c4
   clear c4
   by_cases c6 : (bt a0 t115) = 45
   ·
    rw [if_pos c6] at H
    have c6b0 : ((bt a0 t115) == 45) = true := beq_iff_eq.mpr c6
    have c6b1 : ((bt a0 t115) != 45) = false := bne_eq_false_iff_eq.mpr c6
    clear c6
    replace H := Option.bind_eq_some_iff.mp H
    obtain ⟨⟨t116, t117, t118, t119⟩, A70, H⟩ := H
    replace H : (some (decide (t119 > 0), t117, t118, t119)) = some (r1, r2, r3, r4) := H
    have A7 := Aside0.mk A70
    clear A70
    simp only [Option.some.injEq, Prod.mk.injEq] at H
    obtain ⟨rfl, rfl, rfl, rfl⟩ := H
    go_enter Tryd.func33, Tryd.ntmps33
    have tk15 : True := trivial; have tk16 : True := trivial; have tk17 : True := trivial; have tk18 : True := trivial
    go_wp2_with (first | (have ztk15 := tk15; clear tk15 ztk15; (with_reducible refine gate_dst (N := 2) rfl ?_); refine box_event ?hg (N := 2) ?hd (cs := #[.bool false, .string (⟨#[]⟩ : ByteArray), .string (⟨#[]⟩ : ByteArray), .int .i64 0]) (t := 55) ?hr ?_; (case hd => rfl); (case hg => rfl); (case hr => first | (go_simp; done) | (go_simp; rfl)); intro gb114 hg w8 hbox hb; have n0_ := Aside0.mk (below_step qnmo1_ hb); have n1_ := Aside0.mk (hbox); have n2_ := Aside0.mk ((by rw [hg]; exact (below_size qnmo1_) : w.heap.size ≤ gb114)); have n3_ := Aside0.mk ((by rw [hg]; exact (below_size qnmo1_) : w.heap.size ≤ gb114)); clear HB; have HB := n0_; have BK114 := n1_; have GW114 := n2_; have GE114 := n3_; clear n0_ n1_ n2_ n3_; clear hb hbox hg) | (have ztk16 := tk16; clear tk16 ztk16; (with_reducible refine gate_callee (f := 34) rfl ?_); refine goesL_ (some 7) rfl rfl Tryd.func34 (by kernel_rfl) rfl #[.string a0] rfl qnmo0_ ?_; (with_reducible refine (numeral_blanks.calls k a0 t115 _ A2.out).mono ?_); rintro e w' ⟨rfl, ⟨nd, rfl⟩⟩; refine ⟨_, rfl, ?_⟩; (try (rw [drewN_self w8]; generalize hq_ : World.drewN w8 _ = w8; have n0_ : Aside0 (w8.heap[gb114]? = some (.cells #[.bool false, .string (⟨#[]⟩ : ByteArray), .string (⟨#[]⟩ : ByteArray), .int .i64 0] 55 (0, 0))) := ⟨by rw [← hq_]; exact qnmo17_⟩; have n1_ : Aside0 (Below w.heap.size w w8) := ⟨by rw [← hq_]; exact qnmo14_⟩; clear BK114 HB hq_; have BK114 := n0_; have HB := n1_; clear n0_ n1_)); (try (have hcu9_0 : w8.cell? ⟨gb114, 0, none⟩ = some (.bool false) := (blk_cell BK114.out 0).trans rfl; have hfu9_0 := blk_frozen BK114.out 0; have hcu9_1 : w8.cell? ⟨gb114, 1, none⟩ = some (.string (⟨#[]⟩ : ByteArray)) := (blk_cell BK114.out 1).trans rfl; have hfu9_1 := blk_frozen BK114.out 1; have hcu9_2 : w8.cell? ⟨gb114, 2, none⟩ = some (.string (⟨#[]⟩ : ByteArray)) := (blk_cell BK114.out 2).trans rfl; have hfu9_2 := blk_frozen BK114.out 2; have hcu9_3 : w8.cell? ⟨gb114, 3, none⟩ = some (.int .i64 0) := (blk_cell BK114.out 3).trans rfl; have hfu9_3 := blk_frozen BK114.out 3)); have p5 : 0 ≤ (t115 : Int) := of_decide_eq_true qnmo5_; have q5 : t115 < (a0.size : Int) := of_decide_eq_true qnmo5_; have hx5 := bt_at a0 t115; replace p5 := eq_true p5; replace q5 := eq_true q5) | (have ztk17 := tk17; clear tk17 ztk17; (with_reducible refine gate_callee (f := 36) rfl ?_); refine goesL_ (some 23) rfl rfl Tryd.func36 (by kernel_rfl) rfl #[.string a0, .int .i64 (wrap64 (t115 + 1))] rfl qnmo0_ ?_; (with_reducible refine (numeral_plain.calls a0 (wrap64 (t115 + 1)) t116 t117 t118 t119 _ A7.out).mono ?_); rintro e w10 ⟨rfl, hb⟩; refine ⟨_, rfl, ?_⟩; have n0_ := Aside0.mk (blk_below (g := gb114) (o := .cells #[.bool false, .string (⟨#[]⟩ : ByteArray), .string (⟨#[]⟩ : ByteArray), .int .i64 0] 55 (0, 0)) qnmo17_ hb); have n1_ := Aside0.mk (below_step qnmo14_ hb); clear BK114; clear HB; have BK114 := n0_; have HB := n1_; clear n0_ n1_; (try clear hb); (try clear hb2); (try clear hk); (try clear hi)) | (have ztk18 := tk18; clear tk18 ztk18; (with_reducible refine gate_dst (N := 5) rfl ?_); refine box_event ?hg (N := 5) ?hd (cs := #[.bool false, .string (⟨#[]⟩ : ByteArray), .string (⟨#[]⟩ : ByteArray), .int .i64 0]) (t := 55) ?hr ?_; (case hd => rfl); (case hg => rfl); (case hr => first | (go_simp; done) | (go_simp; rfl)); intro gb120 hg w11 hbox hb; have n0_ := Aside0.mk (blk_below (g := gb114) (o := .cells #[.bool false, .string (⟨#[]⟩ : ByteArray), .string (⟨#[]⟩ : ByteArray), .int .i64 0] 55 (0, 0)) qnmo17_ hb); have n1_ := Aside0.mk (below_step qnmo14_ hb); have n2_ := Aside0.mk (hbox); have n3_ := Aside0.mk ((by rw [hg]; exact (below_size qnmo14_) : w.heap.size ≤ gb120)); have n4_ := Aside0.mk ((by rw [hg]; exact (below_size qnmo14_) : w.heap.size ≤ gb120)); have n5_ := Aside0.mk ((by rw [hg]; exact Nat.ne_of_lt (blk_lt (g := gb114) (o := .cells #[.bool false, .string (⟨#[]⟩ : ByteArray), .string (⟨#[]⟩ : ByteArray), .int .i64 0] 55 (0, 0)) qnmo17_) : gb114 ≠ gb120)); have n6_ := Aside0.mk ((by rw [hg]; exact Nat.ne_of_gt (blk_lt (g := gb114) (o := .cells #[.bool false, .string (⟨#[]⟩ : ByteArray), .string (⟨#[]⟩ : ByteArray), .int .i64 0] 55 (0, 0)) qnmo17_) : gb120 ≠ gb114)); clear BK114; clear HB; have BK114 := n0_; have HB := n1_; have BK120 := n2_; have GW120 := n3_; have GE120 := n4_; have NB114_120 := n5_; have NB120_114 := n6_; clear n0_ n1_ n2_ n3_ n4_ n5_ n6_; clear hb hbox hg; have hnb12 := NB120_114.out; have hnc12 := NB114_120.out; have hcz13_0 : w11.cell? ⟨gb120, 0, none⟩ = some (.bool false) := (blk_cell BK120.out 0).trans rfl; have hcz13_1 : w11.cell? ⟨gb120, 1, none⟩ = some (.string (⟨#[]⟩ : ByteArray)) := (blk_cell BK120.out 1).trans rfl; have hcz13_2 : w11.cell? ⟨gb120, 2, none⟩ = some (.string (⟨#[]⟩ : ByteArray)) := (blk_cell BK120.out 2).trans rfl; have hcz13_3 : w11.cell? ⟨gb120, 3, none⟩ = some (.int .i64 0) := (blk_cell BK120.out 3).trans rfl; have hfz13_0 := blk_frozen BK120.out 0; have hfz13_1 := blk_frozen BK120.out 1; have hfz13_2 := blk_frozen BK120.out 2; have hfz13_3 := blk_frozen BK120.out 3; have hcz14_0 : w11.cell? ⟨gb114, 0, none⟩ = some (.bool false) := (blk_cell BK114.out 0).trans rfl; have hcz14_1 : w11.cell? ⟨gb114, 1, none⟩ = some (.string (⟨#[]⟩ : ByteArray)) := (blk_cell BK114.out 1).trans rfl; have hcz14_2 : w11.cell? ⟨gb114, 2, none⟩ = some (.string (⟨#[]⟩ : ByteArray)) := (blk_cell BK114.out 2).trans rfl; have hcz14_3 : w11.cell? ⟨gb114, 3, none⟩ = some (.int .i64 0) := (blk_cell BK114.out 3).trans rfl; have hfz14_0 := blk_frozen BK114.out 0; have hfz14_1 := blk_frozen BK114.out 1; have hfz14_2 := blk_frozen BK114.out 2; have hfz14_3 := blk_frozen BK114.out 3))
    refine bodyPost_ret (results_cell_row rfl _ _ gb114 55 #[.bool (decide (t119 > 0)), .string t117, .string t118, .int .i64 t119] (0, 0) _ rfl (by (with_reducible repeat (first | refine blk_drewN ?_ _ | refine blk_drew ?_ | refine blk_alloc ?_ _)); refine blk_put (cs := #[.bool (decide (t119 > 0)), .string t117, .string t118, .int .i64 0]) ?_ 3 _ rfl; (with_reducible repeat (first | refine blk_drewN ?_ _ | refine blk_drew ?_ | refine blk_alloc ?_ _)); refine blk_put (cs := #[.bool (decide (t119 > 0)), .string t117, .string (⟨#[]⟩ : ByteArray), .int .i64 0]) ?_ 2 _ rfl; (with_reducible repeat (first | refine blk_drewN ?_ _ | refine blk_drew ?_ | refine blk_alloc ?_ _)); refine blk_put (cs := #[.bool (decide (t119 > 0)), .string (⟨#[]⟩ : ByteArray), .string (⟨#[]⟩ : ByteArray), .int .i64 0]) ?_ 1 _ rfl; (with_reducible repeat (first | refine blk_drewN ?_ _ | refine blk_drew ?_ | refine blk_alloc ?_ _)); refine blk_put (cs := #[.bool false, .string (⟨#[]⟩ : ByteArray), .string (⟨#[]⟩ : ByteArray), .int .i64 0]) ?_ 0 _ rfl; (with_reducible repeat (first | refine blk_drewN ?_ _ | refine blk_drew ?_ | refine blk_alloc ?_ _)); refine blk_far ?_ NB114_120.out _; (with_reducible repeat (first | refine blk_drewN ?_ _ | refine blk_drew ?_ | refine blk_alloc ?_ _)); refine blk_far ?_ NB114_120.out _; (with_reducible repeat (first | refine blk_drewN ?_ _ | refine blk_drew ?_ | refine blk_alloc ?_ _)); refine blk_far ?_ NB114_120.out _; (with_reducible repeat (first | refine blk_drewN ?_ _ | refine blk_drew ?_ | refine blk_alloc ?_ _)); refine blk_far ?_ NB114_120.out _; (with_reducible repeat (first | refine blk_drewN ?_ _ | refine blk_drew ?_ | refine blk_alloc ?_ _)); refine blk_far ?_ NB114_120.out _; (with_reducible repeat (first | refine blk_drewN ?_ _ | refine blk_drew ?_ | refine blk_alloc ?_ _)); exact BK114.out) Tryd.underlying55 rfl (by kernel_rfl)) rfl ?_
    exact ⟨qnmo10_, by repeat (first | (with_reducible first | exact HB.out | apply below_alloc | apply pw_below_drewN | apply below_drew1 | refine below_set ?_ GE114.out | refine below_set ?_ GE120.out) | exact HB.out)⟩
   ·
    rw [if_neg c6] at H
    have c6b0 : ((bt a0 t115) == 45) = false := beq_eq_false_iff_ne.mpr c6
    have c6b1 : ((bt a0 t115) != 45) = true := bne_iff_ne.mpr c6
    replace H := Option.bind_eq_some_iff.mp H
    obtain ⟨⟨t121, t122, t123, t124⟩, A190, H⟩ := H
    replace H : (some (false, t122, t123, t124)) = some (r1, r2, r3, r4) := H
    have A19 := Aside0.mk A190
    clear A190
    simp only [Option.some.injEq, Prod.mk.injEq] at H
    obtain ⟨rfl, rfl, rfl, rfl⟩ := H
    go_enter Tryd.func33, Tryd.ntmps33
    have tk27 : True := trivial; have tk28 : True := trivial; have tk29 : True := trivial; have tk30 : True := trivial
    go_wp2_with (first | (have ztk27 := tk27; clear tk27 ztk27; (with_reducible refine gate_dst (N := 2) rfl ?_); refine box_event ?hg (N := 2) ?hd (cs := #[.bool false, .string (⟨#[]⟩ : ByteArray), .string (⟨#[]⟩ : ByteArray), .int .i64 0]) (t := 55) ?hr ?_; (case hd => rfl); (case hg => rfl); (case hr => first | (go_simp; done) | (go_simp; rfl)); intro gb114 hg w20 hbox hb; have n0_ := Aside0.mk (below_step qnmo1_ hb); have n1_ := Aside0.mk (hbox); have n2_ := Aside0.mk ((by rw [hg]; exact (below_size qnmo1_) : w.heap.size ≤ gb114)); have n3_ := Aside0.mk ((by rw [hg]; exact (below_size qnmo1_) : w.heap.size ≤ gb114)); clear HB; have HB := n0_; have BK114 := n1_; have GW114 := n2_; have GE114 := n3_; clear n0_ n1_ n2_ n3_; clear hb hbox hg) | (have ztk28 := tk28; clear tk28 ztk28; (with_reducible refine gate_callee (f := 34) rfl ?_); refine goesL_ (some 7) rfl rfl Tryd.func34 (by kernel_rfl) rfl #[.string a0] rfl qnmo0_ ?_; (with_reducible refine (numeral_blanks.calls k a0 t115 _ A2.out).mono ?_); rintro e w' ⟨rfl, ⟨nd, rfl⟩⟩; refine ⟨_, rfl, ?_⟩; (try (rw [drewN_self w20]; generalize hq_ : World.drewN w20 _ = w20; have n0_ : Aside0 (w20.heap[gb114]? = some (.cells #[.bool false, .string (⟨#[]⟩ : ByteArray), .string (⟨#[]⟩ : ByteArray), .int .i64 0] 55 (0, 0))) := ⟨by rw [← hq_]; exact qnmo17_⟩; have n1_ : Aside0 (Below w.heap.size w w20) := ⟨by rw [← hq_]; exact qnmo14_⟩; clear BK114 HB hq_; have BK114 := n0_; have HB := n1_; clear n0_ n1_)); (try (have hcu21_0 : w20.cell? ⟨gb114, 0, none⟩ = some (.bool false) := (blk_cell BK114.out 0).trans rfl; have hfu21_0 := blk_frozen BK114.out 0; have hcu21_1 : w20.cell? ⟨gb114, 1, none⟩ = some (.string (⟨#[]⟩ : ByteArray)) := (blk_cell BK114.out 1).trans rfl; have hfu21_1 := blk_frozen BK114.out 1; have hcu21_2 : w20.cell? ⟨gb114, 2, none⟩ = some (.string (⟨#[]⟩ : ByteArray)) := (blk_cell BK114.out 2).trans rfl; have hfu21_2 := blk_frozen BK114.out 2; have hcu21_3 : w20.cell? ⟨gb114, 3, none⟩ = some (.int .i64 0) := (blk_cell BK114.out 3).trans rfl; have hfu21_3 := blk_frozen BK114.out 3)); have p5 : 0 ≤ (t115 : Int) := of_decide_eq_true qnmo5_; have q5 : t115 < (a0.size : Int) := of_decide_eq_true qnmo5_; have hx5 := bt_at a0 t115; replace p5 := eq_true p5; replace q5 := eq_true q5) | (have ztk29 := tk29; clear tk29 ztk29; (with_reducible refine gate_callee (f := 36) rfl ?_); refine goesL_ (some 23) rfl rfl Tryd.func36 (by kernel_rfl) rfl #[.string a0, .int .i64 t115] rfl qnmo0_ ?_; (with_reducible refine (numeral_plain.calls a0 t115 t121 t122 t123 t124 _ A19.out).mono ?_); rintro e w22 ⟨rfl, hb⟩; refine ⟨_, rfl, ?_⟩; have n0_ := Aside0.mk (blk_below (g := gb114) (o := .cells #[.bool false, .string (⟨#[]⟩ : ByteArray), .string (⟨#[]⟩ : ByteArray), .int .i64 0] 55 (0, 0)) qnmo17_ hb); have n1_ := Aside0.mk (below_step qnmo14_ hb); clear BK114; clear HB; have BK114 := n0_; have HB := n1_; clear n0_ n1_; (try clear hb); (try clear hb2); (try clear hk); (try clear hi)) | (have ztk30 := tk30; clear tk30 ztk30; (with_reducible refine gate_dst (N := 5) rfl ?_); refine box_event ?hg (N := 5) ?hd (cs := #[.bool false, .string (⟨#[]⟩ : ByteArray), .string (⟨#[]⟩ : ByteArray), .int .i64 0]) (t := 55) ?hr ?_; (case hd => rfl); (case hg => rfl); (case hr => first | (go_simp; done) | (go_simp; rfl)); intro gb125 hg w23 hbox hb; have n0_ := Aside0.mk (blk_below (g := gb114) (o := .cells #[.bool false, .string (⟨#[]⟩ : ByteArray), .string (⟨#[]⟩ : ByteArray), .int .i64 0] 55 (0, 0)) qnmo17_ hb); have n1_ := Aside0.mk (below_step qnmo14_ hb); have n2_ := Aside0.mk (hbox); have n3_ := Aside0.mk ((by rw [hg]; exact (below_size qnmo14_) : w.heap.size ≤ gb125)); have n4_ := Aside0.mk ((by rw [hg]; exact (below_size qnmo14_) : w.heap.size ≤ gb125)); have n5_ := Aside0.mk ((by rw [hg]; exact Nat.ne_of_lt (blk_lt (g := gb114) (o := .cells #[.bool false, .string (⟨#[]⟩ : ByteArray), .string (⟨#[]⟩ : ByteArray), .int .i64 0] 55 (0, 0)) qnmo17_) : gb114 ≠ gb125)); have n6_ := Aside0.mk ((by rw [hg]; exact Nat.ne_of_gt (blk_lt (g := gb114) (o := .cells #[.bool false, .string (⟨#[]⟩ : ByteArray), .string (⟨#[]⟩ : ByteArray), .int .i64 0] 55 (0, 0)) qnmo17_) : gb125 ≠ gb114)); clear BK114; clear HB; have BK114 := n0_; have HB := n1_; have BK125 := n2_; have GW125 := n3_; have GE125 := n4_; have NB114_125 := n5_; have NB125_114 := n6_; clear n0_ n1_ n2_ n3_ n4_ n5_ n6_; clear hb hbox hg; have hnb24 := NB125_114.out; have hnc24 := NB114_125.out; have hcz25_0 : w23.cell? ⟨gb125, 0, none⟩ = some (.bool false) := (blk_cell BK125.out 0).trans rfl; have hcz25_1 : w23.cell? ⟨gb125, 1, none⟩ = some (.string (⟨#[]⟩ : ByteArray)) := (blk_cell BK125.out 1).trans rfl; have hcz25_2 : w23.cell? ⟨gb125, 2, none⟩ = some (.string (⟨#[]⟩ : ByteArray)) := (blk_cell BK125.out 2).trans rfl; have hcz25_3 : w23.cell? ⟨gb125, 3, none⟩ = some (.int .i64 0) := (blk_cell BK125.out 3).trans rfl; have hfz25_0 := blk_frozen BK125.out 0; have hfz25_1 := blk_frozen BK125.out 1; have hfz25_2 := blk_frozen BK125.out 2; have hfz25_3 := blk_frozen BK125.out 3; have hcz26_0 : w23.cell? ⟨gb114, 0, none⟩ = some (.bool false) := (blk_cell BK114.out 0).trans rfl; have hcz26_1 : w23.cell? ⟨gb114, 1, none⟩ = some (.string (⟨#[]⟩ : ByteArray)) := (blk_cell BK114.out 1).trans rfl; have hcz26_2 : w23.cell? ⟨gb114, 2, none⟩ = some (.string (⟨#[]⟩ : ByteArray)) := (blk_cell BK114.out 2).trans rfl; have hcz26_3 : w23.cell? ⟨gb114, 3, none⟩ = some (.int .i64 0) := (blk_cell BK114.out 3).trans rfl; have hfz26_0 := blk_frozen BK114.out 0; have hfz26_1 := blk_frozen BK114.out 1; have hfz26_2 := blk_frozen BK114.out 2; have hfz26_3 := blk_frozen BK114.out 3))
    refine bodyPost_ret (results_cell_row rfl _ _ gb114 55 #[.bool false, .string t122, .string t123, .int .i64 t124] (0, 0) _ rfl (by (with_reducible repeat (first | refine blk_drewN ?_ _ | refine blk_drew ?_ | refine blk_alloc ?_ _)); refine blk_put (cs := #[.bool false, .string t122, .string t123, .int .i64 0]) ?_ 3 _ rfl; (with_reducible repeat (first | refine blk_drewN ?_ _ | refine blk_drew ?_ | refine blk_alloc ?_ _)); refine blk_put (cs := #[.bool false, .string t122, .string (⟨#[]⟩ : ByteArray), .int .i64 0]) ?_ 2 _ rfl; (with_reducible repeat (first | refine blk_drewN ?_ _ | refine blk_drew ?_ | refine blk_alloc ?_ _)); refine blk_put (cs := #[.bool false, .string (⟨#[]⟩ : ByteArray), .string (⟨#[]⟩ : ByteArray), .int .i64 0]) ?_ 1 _ rfl; (with_reducible repeat (first | refine blk_drewN ?_ _ | refine blk_drew ?_ | refine blk_alloc ?_ _)); refine blk_put (cs := #[.bool false, .string (⟨#[]⟩ : ByteArray), .string (⟨#[]⟩ : ByteArray), .int .i64 0]) ?_ 0 _ rfl; (with_reducible repeat (first | refine blk_drewN ?_ _ | refine blk_drew ?_ | refine blk_alloc ?_ _)); refine blk_far ?_ NB114_125.out _; (with_reducible repeat (first | refine blk_drewN ?_ _ | refine blk_drew ?_ | refine blk_alloc ?_ _)); refine blk_far ?_ NB114_125.out _; (with_reducible repeat (first | refine blk_drewN ?_ _ | refine blk_drew ?_ | refine blk_alloc ?_ _)); refine blk_far ?_ NB114_125.out _; (with_reducible repeat (first | refine blk_drewN ?_ _ | refine blk_drew ?_ | refine blk_alloc ?_ _)); refine blk_far ?_ NB114_125.out _; (with_reducible repeat (first | refine blk_drewN ?_ _ | refine blk_drew ?_ | refine blk_alloc ?_ _)); refine blk_far ?_ NB114_125.out _; (with_reducible repeat (first | refine blk_drewN ?_ _ | refine blk_drew ?_ | refine blk_alloc ?_ _)); exact BK114.out) Tryd.underlying55 rfl (by kernel_rfl)) rfl ?_
    exact ⟨qnmo10_, by repeat (first | (with_reducible first | exact HB.out | apply below_alloc | apply pw_below_drewN | apply below_drew1 | refine below_set ?_ GE114.out | refine below_set ?_ GE125.out) | exact HB.out)⟩
  ·
   rw [if_neg c4] at H
   exact absurd H (by simp)
 ·
  rw [if_neg c3] at H
  have c3b0 : decide (t115 < (a0.size : Int)) = false := decide_eq_false c3
  clear c3
  replace H := Option.bind_eq_some_iff.mp H
  obtain ⟨⟨t126, t127, t128, t129⟩, A310, H⟩ := H
  replace H : (some (false, t127, t128, t129)) = some (r1, r2, r3, r4) := H
  have A31 := Aside0.mk A310
  clear A310
  simp only [Option.some.injEq, Prod.mk.injEq] at H
  obtain ⟨rfl, rfl, rfl, rfl⟩ := H
  go_enter Tryd.func33, Tryd.ntmps33
  have tk39 : True := trivial; have tk40 : True := trivial; have tk41 : True := trivial; have tk42 : True := trivial
  go_wp2_with (first | (have ztk39 := tk39; clear tk39 ztk39; (with_reducible refine gate_dst (N := 2) rfl ?_); refine box_event ?hg (N := 2) ?hd (cs := #[.bool false, .string (⟨#[]⟩ : ByteArray), .string (⟨#[]⟩ : ByteArray), .int .i64 0]) (t := 55) ?hr ?_; (case hd => rfl); (case hg => rfl); (case hr => first | (go_simp; done) | (go_simp; rfl)); intro gb114 hg w32 hbox hb; have n0_ := Aside0.mk (below_step qnmo1_ hb); have n1_ := Aside0.mk (hbox); have n2_ := Aside0.mk ((by rw [hg]; exact (below_size qnmo1_) : w.heap.size ≤ gb114)); have n3_ := Aside0.mk ((by rw [hg]; exact (below_size qnmo1_) : w.heap.size ≤ gb114)); clear HB; have HB := n0_; have BK114 := n1_; have GW114 := n2_; have GE114 := n3_; clear n0_ n1_ n2_ n3_; clear hb hbox hg) | (have ztk40 := tk40; clear tk40 ztk40; (with_reducible refine gate_callee (f := 34) rfl ?_); refine goesL_ (some 7) rfl rfl Tryd.func34 (by kernel_rfl) rfl #[.string a0] rfl qnmo0_ ?_; (with_reducible refine (numeral_blanks.calls k a0 t115 _ A2.out).mono ?_); rintro e w' ⟨rfl, ⟨nd, rfl⟩⟩; refine ⟨_, rfl, ?_⟩; (try (rw [drewN_self w32]; generalize hq_ : World.drewN w32 _ = w32; have n0_ : Aside0 (w32.heap[gb114]? = some (.cells #[.bool false, .string (⟨#[]⟩ : ByteArray), .string (⟨#[]⟩ : ByteArray), .int .i64 0] 55 (0, 0))) := ⟨by rw [← hq_]; exact qnmo17_⟩; have n1_ : Aside0 (Below w.heap.size w w32) := ⟨by rw [← hq_]; exact qnmo14_⟩; clear BK114 HB hq_; have BK114 := n0_; have HB := n1_; clear n0_ n1_)); (try (have hcu33_0 : w32.cell? ⟨gb114, 0, none⟩ = some (.bool false) := (blk_cell BK114.out 0).trans rfl; have hfu33_0 := blk_frozen BK114.out 0; have hcu33_1 : w32.cell? ⟨gb114, 1, none⟩ = some (.string (⟨#[]⟩ : ByteArray)) := (blk_cell BK114.out 1).trans rfl; have hfu33_1 := blk_frozen BK114.out 1; have hcu33_2 : w32.cell? ⟨gb114, 2, none⟩ = some (.string (⟨#[]⟩ : ByteArray)) := (blk_cell BK114.out 2).trans rfl; have hfu33_2 := blk_frozen BK114.out 2; have hcu33_3 : w32.cell? ⟨gb114, 3, none⟩ = some (.int .i64 0) := (blk_cell BK114.out 3).trans rfl; have hfu33_3 := blk_frozen BK114.out 3))) | (have ztk41 := tk41; clear tk41 ztk41; (with_reducible refine gate_callee (f := 36) rfl ?_); refine goesL_ (some 23) rfl rfl Tryd.func36 (by kernel_rfl) rfl #[.string a0, .int .i64 t115] rfl qnmo0_ ?_; (with_reducible refine (numeral_plain.calls a0 t115 t126 t127 t128 t129 _ A31.out).mono ?_); rintro e w34 ⟨rfl, hb⟩; refine ⟨_, rfl, ?_⟩; have n0_ := Aside0.mk (blk_below (g := gb114) (o := .cells #[.bool false, .string (⟨#[]⟩ : ByteArray), .string (⟨#[]⟩ : ByteArray), .int .i64 0] 55 (0, 0)) qnmo17_ hb); have n1_ := Aside0.mk (below_step qnmo14_ hb); clear BK114; clear HB; have BK114 := n0_; have HB := n1_; clear n0_ n1_; (try clear hb); (try clear hb2); (try clear hk); (try clear hi)) | (have ztk42 := tk42; clear tk42 ztk42; (with_reducible refine gate_dst (N := 5) rfl ?_); refine box_event ?hg (N := 5) ?hd (cs := #[.bool false, .string (⟨#[]⟩ : ByteArray), .string (⟨#[]⟩ : ByteArray), .int .i64 0]) (t := 55) ?hr ?_; (case hd => rfl); (case hg => rfl); (case hr => first | (go_simp; done) | (go_simp; rfl)); intro gb130 hg w35 hbox hb; have n0_ := Aside0.mk (blk_below (g := gb114) (o := .cells #[.bool false, .string (⟨#[]⟩ : ByteArray), .string (⟨#[]⟩ : ByteArray), .int .i64 0] 55 (0, 0)) qnmo17_ hb); have n1_ := Aside0.mk (below_step qnmo14_ hb); have n2_ := Aside0.mk (hbox); have n3_ := Aside0.mk ((by rw [hg]; exact (below_size qnmo14_) : w.heap.size ≤ gb130)); have n4_ := Aside0.mk ((by rw [hg]; exact (below_size qnmo14_) : w.heap.size ≤ gb130)); have n5_ := Aside0.mk ((by rw [hg]; exact Nat.ne_of_lt (blk_lt (g := gb114) (o := .cells #[.bool false, .string (⟨#[]⟩ : ByteArray), .string (⟨#[]⟩ : ByteArray), .int .i64 0] 55 (0, 0)) qnmo17_) : gb114 ≠ gb130)); have n6_ := Aside0.mk ((by rw [hg]; exact Nat.ne_of_gt (blk_lt (g := gb114) (o := .cells #[.bool false, .string (⟨#[]⟩ : ByteArray), .string (⟨#[]⟩ : ByteArray), .int .i64 0] 55 (0, 0)) qnmo17_) : gb130 ≠ gb114)); clear BK114; clear HB; have BK114 := n0_; have HB := n1_; have BK130 := n2_; have GW130 := n3_; have GE130 := n4_; have NB114_130 := n5_; have NB130_114 := n6_; clear n0_ n1_ n2_ n3_ n4_ n5_ n6_; clear hb hbox hg; have hnb36 := NB130_114.out; have hnc36 := NB114_130.out; have hcz37_0 : w35.cell? ⟨gb130, 0, none⟩ = some (.bool false) := (blk_cell BK130.out 0).trans rfl; have hcz37_1 : w35.cell? ⟨gb130, 1, none⟩ = some (.string (⟨#[]⟩ : ByteArray)) := (blk_cell BK130.out 1).trans rfl; have hcz37_2 : w35.cell? ⟨gb130, 2, none⟩ = some (.string (⟨#[]⟩ : ByteArray)) := (blk_cell BK130.out 2).trans rfl; have hcz37_3 : w35.cell? ⟨gb130, 3, none⟩ = some (.int .i64 0) := (blk_cell BK130.out 3).trans rfl; have hfz37_0 := blk_frozen BK130.out 0; have hfz37_1 := blk_frozen BK130.out 1; have hfz37_2 := blk_frozen BK130.out 2; have hfz37_3 := blk_frozen BK130.out 3; have hcz38_0 : w35.cell? ⟨gb114, 0, none⟩ = some (.bool false) := (blk_cell BK114.out 0).trans rfl; have hcz38_1 : w35.cell? ⟨gb114, 1, none⟩ = some (.string (⟨#[]⟩ : ByteArray)) := (blk_cell BK114.out 1).trans rfl; have hcz38_2 : w35.cell? ⟨gb114, 2, none⟩ = some (.string (⟨#[]⟩ : ByteArray)) := (blk_cell BK114.out 2).trans rfl; have hcz38_3 : w35.cell? ⟨gb114, 3, none⟩ = some (.int .i64 0) := (blk_cell BK114.out 3).trans rfl; have hfz38_0 := blk_frozen BK114.out 0; have hfz38_1 := blk_frozen BK114.out 1; have hfz38_2 := blk_frozen BK114.out 2; have hfz38_3 := blk_frozen BK114.out 3))
  refine bodyPost_ret (results_cell_row rfl _ _ gb114 55 #[.bool false, .string t127, .string t128, .int .i64 t129] (0, 0) _ rfl (by (with_reducible repeat (first | refine blk_drewN ?_ _ | refine blk_drew ?_ | refine blk_alloc ?_ _)); refine blk_put (cs := #[.bool false, .string t127, .string t128, .int .i64 0]) ?_ 3 _ rfl; (with_reducible repeat (first | refine blk_drewN ?_ _ | refine blk_drew ?_ | refine blk_alloc ?_ _)); refine blk_put (cs := #[.bool false, .string t127, .string (⟨#[]⟩ : ByteArray), .int .i64 0]) ?_ 2 _ rfl; (with_reducible repeat (first | refine blk_drewN ?_ _ | refine blk_drew ?_ | refine blk_alloc ?_ _)); refine blk_put (cs := #[.bool false, .string (⟨#[]⟩ : ByteArray), .string (⟨#[]⟩ : ByteArray), .int .i64 0]) ?_ 1 _ rfl; (with_reducible repeat (first | refine blk_drewN ?_ _ | refine blk_drew ?_ | refine blk_alloc ?_ _)); refine blk_put (cs := #[.bool false, .string (⟨#[]⟩ : ByteArray), .string (⟨#[]⟩ : ByteArray), .int .i64 0]) ?_ 0 _ rfl; (with_reducible repeat (first | refine blk_drewN ?_ _ | refine blk_drew ?_ | refine blk_alloc ?_ _)); refine blk_far ?_ NB114_130.out _; (with_reducible repeat (first | refine blk_drewN ?_ _ | refine blk_drew ?_ | refine blk_alloc ?_ _)); refine blk_far ?_ NB114_130.out _; (with_reducible repeat (first | refine blk_drewN ?_ _ | refine blk_drew ?_ | refine blk_alloc ?_ _)); refine blk_far ?_ NB114_130.out _; (with_reducible repeat (first | refine blk_drewN ?_ _ | refine blk_drew ?_ | refine blk_alloc ?_ _)); refine blk_far ?_ NB114_130.out _; (with_reducible repeat (first | refine blk_drewN ?_ _ | refine blk_drew ?_ | refine blk_alloc ?_ _)); refine blk_far ?_ NB114_130.out _; (with_reducible repeat (first | refine blk_drewN ?_ _ | refine blk_drew ?_ | refine blk_alloc ?_ _)); exact BK114.out) Tryd.underlying55 rfl (by kernel_rfl)) rfl ?_
  exact ⟨qnmo10_, by repeat (first | (with_reducible first | exact HB.out | apply below_alloc | apply pw_below_drewN | apply below_drew1 | refine below_set ?_ GE114.out | refine below_set ?_ GE130.out) | exact HB.out)⟩


/-! ### numeral_Decimal: function 16 -/
def numeral_Decimal.f (k : Nat) (a0 : ByteArray) : Option (Bool × ByteArray × ByteArray × Int) := (numeral_signed.f k a0).bind fun bt132 => ((numeral_decimal.f k bt132.1 bt132.2.1 bt132.2.2.1 bt132.2.2.2).bind fun bt136 => (some (bt136.1, bt136.2.1, bt136.2.2.1, bt136.2.2.2)))
set_option maxHeartbeats 8000000 in
set_option maxRecDepth 100000 in
theorem numeral_Decimal.calls (k : Nat) (a0 : ByteArray) (r1 : Bool) (r2 : ByteArray) (r3 : ByteArray) (r4 : Int) (w : World) (h : numeral_Decimal.f k a0 = some (r1, r2, r3, r4)) :
  Calls Tryd.prog 16 #[.string a0] w fun e w' => e = .returned (.agg #[.bool r1, .string r2, .string r3, .int .i64 r4]) ∧ Below w.heap.size w w' := by
 have hu25 := Tryd.underlying25
 have HB := Aside0.mk (Below.refl w.heap.size w)
 have H : ((numeral_signed.f k a0).bind fun bt132 => ((numeral_decimal.f k bt132.1 bt132.2.1 bt132.2.2.1 bt132.2.2.2).bind fun bt136 => (some (bt136.1, bt136.2.1, bt136.2.2.1, bt136.2.2.2)))) = some (r1, r2, r3, r4) := h
 clear h
 replace H := Option.bind_eq_some_iff.mp H
 obtain ⟨⟨t132, t133, t134, t135⟩, A20, H⟩ := H
 replace H : ((numeral_decimal.f k t132 t133 t134 t135).bind fun bt136 => (some (bt136.1, bt136.2.1, bt136.2.2.1, bt136.2.2.2))) = some (r1, r2, r3, r4) := H
 have A2 := Aside0.mk A20
 clear A20
 replace H := Option.bind_eq_some_iff.mp H
 obtain ⟨⟨t136, t137, t138, t139⟩, A30, H⟩ := H
 replace H : (some (t136, t137, t138, t139)) = some (r1, r2, r3, r4) := H
 have A3 := Aside0.mk A30
 clear A30
 simp only [Option.some.injEq, Prod.mk.injEq] at H
 obtain ⟨rfl, rfl, rfl, rfl⟩ := H
 go_enter Tryd.func16, Tryd.ntmps16
 have tk8 : True := trivial; have tk9 : True := trivial; have tk10 : True := trivial
 go_wp2_with (first | (have ztk8 := tk8; clear tk8 ztk8; (with_reducible refine gate_dst (N := 2) rfl ?_); refine box_event ?hg (N := 2) ?hd (cs := #[.bool false, .string (⟨#[]⟩ : ByteArray), .string (⟨#[]⟩ : ByteArray), .int .i64 0]) (t := 25) ?hr ?_; (case hd => rfl); (case hg => rfl); (case hr => first | (go_simp; done) | (go_simp; rfl)); intro gb131 hg w4 hbox hb; have n0_ := Aside0.mk (below_step qnmo1_ hb); have n1_ := Aside0.mk (hbox); have n2_ := Aside0.mk ((by rw [hg]; exact (below_size qnmo1_) : w.heap.size ≤ gb131)); have n3_ := Aside0.mk ((by rw [hg]; exact (below_size qnmo1_) : w.heap.size ≤ gb131)); clear HB; have HB := n0_; have BK131 := n1_; have GW131 := n2_; have GE131 := n3_; clear n0_ n1_ n2_ n3_; clear hb hbox hg) | (have ztk9 := tk9; clear tk9 ztk9; (with_reducible refine gate_callee (f := 33) rfl ?_); refine goesL_ (some 4) rfl rfl Tryd.func33 (by kernel_rfl) rfl #[.string a0] rfl qnmo0_ ?_; (with_reducible refine (numeral_signed.calls k a0 t132 t133 t134 t135 _ A2.out).mono ?_); rintro e w5 ⟨rfl, hb⟩; refine ⟨_, rfl, ?_⟩; have n0_ := Aside0.mk (blk_below (g := gb131) (o := .cells #[.bool false, .string (⟨#[]⟩ : ByteArray), .string (⟨#[]⟩ : ByteArray), .int .i64 0] 25 (0, 0)) (by (with_reducible repeat (first | refine blk_drewN ?_ _ | refine blk_drew ?_ | refine blk_alloc ?_ _)); exact BK131.out) hb); have n1_ := Aside0.mk (below_step qnmo45_ hb); clear BK131; clear HB; have BK131 := n0_; have HB := n1_; clear n0_ n1_; (try clear hb); (try clear hb2); (try clear hk); (try clear hi)) | (have ztk10 := tk10; clear tk10 ztk10; (with_reducible refine gate_callee (f := 32) rfl ?_); refine goesL_ (some 5) rfl rfl Tryd.func32 (by kernel_rfl) rfl #[.agg #[.bool t132, .string t133, .string t134, .int .i64 t135]] rfl qnmo0_ ?_; (with_reducible refine (numeral_decimal.calls k t132 t133 t134 t135 t136 t137 t138 t139 _ A3.out).mono ?_); rintro e w6 ⟨rfl, hb⟩; refine ⟨_, rfl, ?_⟩; have n0_ := Aside0.mk (blk_below (g := gb131) (o := .cells #[.bool false, .string (⟨#[]⟩ : ByteArray), .string (⟨#[]⟩ : ByteArray), .int .i64 0] 25 (0, 0)) (by (with_reducible repeat (first | refine blk_drewN ?_ _ | refine blk_drew ?_ | refine blk_alloc ?_ _)); exact BK131.out) hb); have n1_ := Aside0.mk (below_step qnmo45_ hb); clear BK131; clear HB; have BK131 := n0_; have HB := n1_; clear n0_ n1_; (try clear hb); (try clear hb2); (try clear hk); (try clear hi); have hcz7_0 : w6.cell? ⟨gb131, 0, none⟩ = some (.bool false) := (blk_cell BK131.out 0).trans rfl; have hcz7_1 : w6.cell? ⟨gb131, 1, none⟩ = some (.string (⟨#[]⟩ : ByteArray)) := (blk_cell BK131.out 1).trans rfl; have hcz7_2 : w6.cell? ⟨gb131, 2, none⟩ = some (.string (⟨#[]⟩ : ByteArray)) := (blk_cell BK131.out 2).trans rfl; have hcz7_3 : w6.cell? ⟨gb131, 3, none⟩ = some (.int .i64 0) := (blk_cell BK131.out 3).trans rfl; have hfz7_0 := blk_frozen BK131.out 0; have hfz7_1 := blk_frozen BK131.out 1; have hfz7_2 := blk_frozen BK131.out 2; have hfz7_3 := blk_frozen BK131.out 3))
 refine bodyPost_ret (results_cell_row rfl _ _ gb131 25 #[.bool t136, .string t137, .string t138, .int .i64 t139] (0, 0) _ rfl (by (with_reducible repeat (first | refine blk_drewN ?_ _ | refine blk_drew ?_ | refine blk_alloc ?_ _)); refine blk_put (cs := #[.bool t136, .string t137, .string t138, .int .i64 0]) ?_ 3 _ rfl; (with_reducible repeat (first | refine blk_drewN ?_ _ | refine blk_drew ?_ | refine blk_alloc ?_ _)); refine blk_put (cs := #[.bool t136, .string t137, .string (⟨#[]⟩ : ByteArray), .int .i64 0]) ?_ 2 _ rfl; (with_reducible repeat (first | refine blk_drewN ?_ _ | refine blk_drew ?_ | refine blk_alloc ?_ _)); refine blk_put (cs := #[.bool t136, .string (⟨#[]⟩ : ByteArray), .string (⟨#[]⟩ : ByteArray), .int .i64 0]) ?_ 1 _ rfl; (with_reducible repeat (first | refine blk_drewN ?_ _ | refine blk_drew ?_ | refine blk_alloc ?_ _)); refine blk_put (cs := #[.bool false, .string (⟨#[]⟩ : ByteArray), .string (⟨#[]⟩ : ByteArray), .int .i64 0]) ?_ 0 _ rfl; (with_reducible repeat (first | refine blk_drewN ?_ _ | refine blk_drew ?_ | refine blk_alloc ?_ _)); exact BK131.out) Tryd.underlying25 rfl (by kernel_rfl)) rfl ?_
 exact ⟨qnmo10_, qnmo45_⟩


/-! ### stringslite_IndexByte: function 69 (by hand) -/
def stringslite_IndexByte.f (a0 : ByteArray) (a1 : Int) : Option (Int) := some (Lib.indexByte a0.data.toList a1.toNat.toUInt8)
set_option maxHeartbeats 1000000 in
set_option maxRecDepth 100000 in
theorem stringslite_IndexByte.calls (a0 : ByteArray) (a1 : Int) (r : Int) (w : World) (h : stringslite_IndexByte.f a0 a1 = some r) :
    Calls Tryd.prog 69 #[.string a0, .int .u8 a1] w fun e w' => e = .returned (.int .i64 r) ∧ Drawn0 w w' := by
  obtain rfl := Option.some.inj h
  clear h
  go_enter Tryd.func69, Tryd.ntmps69
  go_wp2
  rw [run_callFunc_extern Tryd.func95 (by kernel_rfl) (by kernel_rfl) (by kernel_rfl) (e := Extern.BytealgIndexByte.indexByte) (by kernel_rfl), Lib.run_indexByteString]
  simp only [Result.andThen]
  rw [Oper.upon_value]
  go_wp2
  go_ret
  exact ⟨rfl, Drawn0.refl _⟩


/-! ### strings_IndexByte: function 39 -/
def strings_IndexByte.f (a0 : ByteArray) (a1 : Int) : Option (Int) := (stringslite_IndexByte.f a0 a1).bind fun t186 => (some t186)
set_option maxHeartbeats 8000000 in
set_option maxRecDepth 100000 in
theorem strings_IndexByte.calls (a0 : ByteArray) (a1 : Int) (r : Int) (w : World) (h : strings_IndexByte.f a0 a1 = some r) :
  Calls Tryd.prog 39 #[.string a0, .int .u8 a1] w fun e w' => e = .returned (.int .i64 r) ∧ Drawn0 w w' := by
 have H : ((stringslite_IndexByte.f a0 a1).bind fun t186 => (some t186)) = some r := h
 clear h
 replace H := Option.bind_eq_some_iff.mp H
 obtain ⟨t186, A30, H⟩ := H
 replace H : (some t186) = some r := H
 have A3 := Aside0.mk A30
 clear A30
 obtain rfl := Option.some.inj H
 go_enter Tryd.func39, Tryd.ntmps39
 go_wp2_with (first | ((with_reducible refine gate_callee (f := 69) rfl ?_); refine goesL_ (some 7) rfl rfl Tryd.func69 (by kernel_rfl) rfl #[.string a0, .int .u8 a1] rfl qnmo0_ ?_; (with_reducible refine (stringslite_IndexByte.calls a0 a1 t186 _ A3.out).mono ?_); rintro e w' ⟨rfl, ⟨nd, rfl⟩⟩; refine ⟨_, rfl, ?_⟩))
 go_ret
 exact ⟨qnmo2_, qnmo11_⟩


/-! ### numeral_Human: function 20 -/
mutual
def numeral_Human.j0 : Nat → ByteArray → Bool → Bool → ByteArray → ByteArray → Int → Option (Bool × ByteArray × ByteArray × Int × Int)
 | 0, _, _, _, _, _, _ => none
 | k + 1, x0, x18, x193000, x193001, x193002, x193003 => if x18 = true then (some (x193000, x193001, x193002, x193003, 0)) else (if 0 ≤ x193003 then (if x193003 < (x0.size : Int) then (if (bt x0 x193003) = 107 then (numeral_Human.j1 k 75 x193000 x193001 x193002 x193003) else (numeral_Human.j1 k (bt x0 x193003) x193000 x193001 x193002 x193003)) else (none)) else (none))
def numeral_Human.j1 : Nat → Int → Bool → ByteArray → ByteArray → Int → Option (Bool × ByteArray × ByteArray × Int × Int)
 | 0, _, _, _, _, _ => none
 | k + 1, x5, x193000, x193001, x193002, x193003 => (strings_IndexByte.f (⟨#[75, 77, 71, 84, 80, 69, 90, 89, 82, 81]⟩ : ByteArray) x5).bind fun t193 => (if (wrap64 (t193 + 1)) > 0 then (if x193001.toList = ([] : List UInt8) then (if x193002.toList = ([] : List UInt8) then (some (x193000, x193001, x193002, wrap64 (x193003 + 1), 0)) else (some (x193000, x193001, x193002, wrap64 (x193003 + 1), wrap64 (t193 + 1)))) else (some (x193000, x193001, x193002, wrap64 (x193003 + 1), wrap64 (t193 + 1)))) else (if x193001.toList = ([] : List UInt8) then (if x193002.toList = ([] : List UInt8) then (some (x193000, x193001, x193002, x193003, 0)) else (some (x193000, x193001, x193002, x193003, wrap64 (t193 + 1)))) else (some (x193000, x193001, x193002, x193003, wrap64 (t193 + 1)))))
end
def numeral_Human.f (k : Nat) (a0 : ByteArray) : Option (Bool × ByteArray × ByteArray × Int × Int) := (numeral_Decimal.f k a0).bind fun bt188 => (if bt188.2.2.2 = 0 then (numeral_Human.j0 k a0 true bt188.1 bt188.2.1 bt188.2.2.1 bt188.2.2.2) else (numeral_Human.j0 k a0 (bt188.2.2.2 == (a0.size : Int)) bt188.1 bt188.2.1 bt188.2.2.1 bt188.2.2.2))
set_option maxHeartbeats 8000000 in
set_option maxRecDepth 100000 in
theorem numeral_Human.calls (k : Nat) (a0 : ByteArray) (r1 : Bool) (r2 : ByteArray) (r3 : ByteArray) (r4 : Int) (r5 : Int) (w : World) (h : numeral_Human.f k a0 = some (r1, r2, r3, r4, r5)) :
  Calls Tryd.prog 20 #[.string a0] w fun e w' => e = .returned (.tuple #[.agg #[.bool r1, .string r2, .string r3, .int .i64 r4], .int .i64 r5]) ∧ Below w.heap.size w w' := by
 have hu25 := Tryd.underlying25
 have HB := Aside0.mk (Below.refl w.heap.size w)
 have H : ((numeral_Decimal.f k a0).bind fun bt188 => (if bt188.2.2.2 = 0 then (numeral_Human.j0 k a0 true bt188.1 bt188.2.1 bt188.2.2.1 bt188.2.2.2) else (numeral_Human.j0 k a0 (bt188.2.2.2 == (a0.size : Int)) bt188.1 bt188.2.1 bt188.2.2.1 bt188.2.2.2))) = some (r1, r2, r3, r4, r5) := h
 clear h
 replace H := Option.bind_eq_some_iff.mp H
 obtain ⟨⟨t188, t189, t190, t191⟩, A20, H⟩ := H
 replace H : (if t191 = 0 then (numeral_Human.j0 k a0 true t188 t189 t190 t191) else (numeral_Human.j0 k a0 (t191 == (a0.size : Int)) t188 t189 t190 t191)) = some (r1, r2, r3, r4, r5) := H
 have A2 := Aside0.mk A20
 clear A20
 have HC3 := Aside0.mk H
 clear H
 go_enter Tryd.func20, Tryd.ntmps20
 have tk9 : True := trivial; have tk10 : True := trivial; have tk11 : True := trivial
 go_upto_region 2 with (first | (have ztk9 := tk9; clear tk9 ztk9; (with_reducible refine gate_dst (N := 2) rfl ?_); (try (refine gate_guard (by rfl) ?_; dsimp only)); refine box_event ?hg (N := 2) ?hd (cs := #[.bool false, .string (⟨#[]⟩ : ByteArray), .string (⟨#[]⟩ : ByteArray), .int .i64 0]) (t := 25) ?hr ?_; (case hd => rfl); (case hg => rfl); (case hr => first | (go_simp; done) | (go_simp; rfl)); intro gb187 hg w4 hbox hb; have n0_ := Aside0.mk (below_step qnmo1_ hb); have n1_ := Aside0.mk (hbox); have n2_ := Aside0.mk ((by rw [hg]; exact (below_size qnmo1_) : w.heap.size ≤ gb187)); have n3_ := Aside0.mk ((by rw [hg]; exact (below_size qnmo1_) : w.heap.size ≤ gb187)); clear HB; have HB := n0_; have BK187 := n1_; have GW187 := n2_; have GE187 := n3_; clear n0_ n1_ n2_ n3_; clear hb hbox hg) | (have ztk10 := tk10; clear tk10 ztk10; (with_reducible refine gate_callee (f := 16) rfl ?_); refine goesL_ (some 8) rfl rfl Tryd.func16 (by kernel_rfl) rfl #[.string a0] rfl qnmo0_ ?_; (with_reducible refine (numeral_Decimal.calls k a0 t188 t189 t190 t191 _ A2.out).mono ?_); rintro e w5 ⟨rfl, hb⟩; refine ⟨_, rfl, ?_⟩; have n0_ := Aside0.mk (blk_below (g := gb187) (o := .cells #[.bool false, .string (⟨#[]⟩ : ByteArray), .string (⟨#[]⟩ : ByteArray), .int .i64 0] 25 (0, 0)) qnmo21_ hb); have n1_ := Aside0.mk (below_step qnmo37_ hb); clear BK187; clear HB; have BK187 := n0_; have HB := n1_; clear n0_ n1_; (try clear hb); (try clear hb2); (try clear hk); (try clear hi)) | (have ztk11 := tk11; clear tk11 ztk11; (with_reducible refine gate_dst (N := 4) rfl ?_); (try (refine gate_guard (by rfl) ?_; dsimp only)); refine box_event ?hg (N := 4) ?hd (cs := #[.bool false, .string (⟨#[]⟩ : ByteArray), .string (⟨#[]⟩ : ByteArray), .int .i64 0]) (t := 25) ?hr ?_; (case hd => rfl); (case hg => rfl); (case hr => first | (go_simp; done) | (go_simp; rfl)); intro gb192 hg w6 hbox hb; have n0_ := Aside0.mk (blk_below (g := gb187) (o := .cells #[.bool false, .string (⟨#[]⟩ : ByteArray), .string (⟨#[]⟩ : ByteArray), .int .i64 0] 25 (0, 0)) qnmo21_ hb); have n1_ := Aside0.mk (below_step qnmo37_ hb); have n2_ := Aside0.mk (hbox); have n3_ := Aside0.mk ((by rw [hg]; exact (below_size qnmo37_) : w.heap.size ≤ gb192)); have n4_ := Aside0.mk ((by rw [hg]; exact (below_size qnmo37_) : w.heap.size ≤ gb192)); have n5_ := Aside0.mk ((by rw [hg]; exact Nat.ne_of_lt (blk_lt (g := gb187) (o := .cells #[.bool false, .string (⟨#[]⟩ : ByteArray), .string (⟨#[]⟩ : ByteArray), .int .i64 0] 25 (0, 0)) qnmo21_) : gb187 ≠ gb192)); have n6_ := Aside0.mk ((by rw [hg]; exact Nat.ne_of_gt (blk_lt (g := gb187) (o := .cells #[.bool false, .string (⟨#[]⟩ : ByteArray), .string (⟨#[]⟩ : ByteArray), .int .i64 0] 25 (0, 0)) qnmo21_) : gb192 ≠ gb187)); clear BK187; clear HB; have BK187 := n0_; have HB := n1_; have BK192 := n2_; have GW192 := n3_; have GE192 := n4_; have NB187_192 := n5_; have NB192_187 := n6_; clear n0_ n1_ n2_ n3_ n4_ n5_ n6_; clear hb hbox hg; have hnb7 := NB192_187.out; have hnc7 := NB187_192.out; have hcz8_0 : w6.cell? ⟨gb192, 0, none⟩ = some (.bool false) := (blk_cell BK192.out 0).trans rfl; have hcz8_1 : w6.cell? ⟨gb192, 1, none⟩ = some (.string (⟨#[]⟩ : ByteArray)) := (blk_cell BK192.out 1).trans rfl; have hcz8_2 : w6.cell? ⟨gb192, 2, none⟩ = some (.string (⟨#[]⟩ : ByteArray)) := (blk_cell BK192.out 2).trans rfl; have hcz8_3 : w6.cell? ⟨gb192, 3, none⟩ = some (.int .i64 0) := (blk_cell BK192.out 3).trans rfl; have hfz8_0 := blk_frozen BK192.out 0; have hfz8_1 := blk_frozen BK192.out 1; have hfz8_2 := blk_frozen BK192.out 2; have hfz8_3 := blk_frozen BK192.out 3))
 (try simp only [Act.put, List.setIfInBounds_toArray, List.set_cons_zero, List.set_cons_succ])
 go_cut [18] (fun v18 wc => ∃ (kq : Nat) (x18_2 : Bool), v18 = .bool x18_2 ∧ Aside0 (numeral_Human.j0 kq a0 x18_2 t188 t189 t190 t191 = some (r1, r2, r3, r4, r5)) ∧ Aside0 (kq ≤ k) ∧ Aside0 (wc.heap[gb187]? = some (.cells #[.bool false, .string (⟨#[]⟩ : ByteArray), .string (⟨#[]⟩ : ByteArray), .int .i64 0] 25 (0, 0))) ∧ Aside0 (wc.heap[gb192]? = some (.cells #[.bool t188, .string t189, .string t190, .int .i64 t191] 25 (0, 0))) ∧ Aside0 (Below w.heap.size w wc))
 case first =>
  have H := HC3.out
  clear HC3
  by_cases c12 : t191 = 0
  ·
   rw [if_pos c12] at H
   have c12b0 : (t191 == 0) = true := beq_iff_eq.mpr c12
   have c12b1 : (t191 != 0) = false := bne_eq_false_iff_eq.mpr c12
   clear c12
   (first | rw [c12b0] | (simp only [i64_w, i32_w]; rw [c12b0]) | skip)
   have H' := Aside0.mk H
   clear H
   have hnb13 := NB192_187.out
   have hnc13 := NB187_192.out
   have hcz14_0 : w6.cell? ⟨gb192, 0, none⟩ = some (.bool false) := (blk_cell BK192.out 0).trans rfl
   have hcz14_1 : w6.cell? ⟨gb192, 1, none⟩ = some (.string (⟨#[]⟩ : ByteArray)) := (blk_cell BK192.out 1).trans rfl
   have hcz14_2 : w6.cell? ⟨gb192, 2, none⟩ = some (.string (⟨#[]⟩ : ByteArray)) := (blk_cell BK192.out 2).trans rfl
   have hcz14_3 : w6.cell? ⟨gb192, 3, none⟩ = some (.int .i64 0) := (blk_cell BK192.out 3).trans rfl
   have hfz14_0 := blk_frozen BK192.out 0
   have hfz14_1 := blk_frozen BK192.out 1
   have hfz14_2 := blk_frozen BK192.out 2
   have hfz14_3 := blk_frozen BK192.out 3
   go_wp2
   go_meet
   case rel => exact ⟨_, (true), qnmo2_, H', ⟨by first | omega | exact Nat.le_refl _⟩, ⟨by (with_reducible repeat (first | refine blk_drewN ?_ _ | refine blk_drew ?_ | refine blk_alloc ?_ _)); refine blk_far ?_ NB187_192.out _; (with_reducible repeat (first | refine blk_drewN ?_ _ | refine blk_drew ?_ | refine blk_alloc ?_ _)); refine blk_far ?_ NB187_192.out _; (with_reducible repeat (first | refine blk_drewN ?_ _ | refine blk_drew ?_ | refine blk_alloc ?_ _)); refine blk_far ?_ NB187_192.out _; (with_reducible repeat (first | refine blk_drewN ?_ _ | refine blk_drew ?_ | refine blk_alloc ?_ _)); refine blk_far ?_ NB187_192.out _; (with_reducible repeat (first | refine blk_drewN ?_ _ | refine blk_drew ?_ | refine blk_alloc ?_ _)); exact BK187.out⟩, ⟨by (with_reducible repeat (first | refine blk_drewN ?_ _ | refine blk_drew ?_ | refine blk_alloc ?_ _)); refine blk_put (cs := #[.bool t188, .string t189, .string t190, .int .i64 0]) ?_ 3 _ rfl; (with_reducible repeat (first | refine blk_drewN ?_ _ | refine blk_drew ?_ | refine blk_alloc ?_ _)); refine blk_put (cs := #[.bool t188, .string t189, .string (⟨#[]⟩ : ByteArray), .int .i64 0]) ?_ 2 _ rfl; (with_reducible repeat (first | refine blk_drewN ?_ _ | refine blk_drew ?_ | refine blk_alloc ?_ _)); refine blk_put (cs := #[.bool t188, .string (⟨#[]⟩ : ByteArray), .string (⟨#[]⟩ : ByteArray), .int .i64 0]) ?_ 1 _ rfl; (with_reducible repeat (first | refine blk_drewN ?_ _ | refine blk_drew ?_ | refine blk_alloc ?_ _)); refine blk_put (cs := #[.bool false, .string (⟨#[]⟩ : ByteArray), .string (⟨#[]⟩ : ByteArray), .int .i64 0]) ?_ 0 _ rfl; (with_reducible repeat (first | refine blk_drewN ?_ _ | refine blk_drew ?_ | refine blk_alloc ?_ _)); exact BK192.out⟩, ⟨qnmo12_⟩⟩
  ·
   rw [if_neg c12] at H
   have c12b0 : (t191 == 0) = false := beq_eq_false_iff_ne.mpr c12
   have c12b1 : (t191 != 0) = true := bne_iff_ne.mpr c12
   (first | rw [c12b0] | (simp only [i64_w, i32_w]; rw [c12b0]) | skip)
   have H' := Aside0.mk H
   clear H
   have hnb15 := NB192_187.out
   have hnc15 := NB187_192.out
   have hcz16_0 : w6.cell? ⟨gb192, 0, none⟩ = some (.bool false) := (blk_cell BK192.out 0).trans rfl
   have hcz16_1 : w6.cell? ⟨gb192, 1, none⟩ = some (.string (⟨#[]⟩ : ByteArray)) := (blk_cell BK192.out 1).trans rfl
   have hcz16_2 : w6.cell? ⟨gb192, 2, none⟩ = some (.string (⟨#[]⟩ : ByteArray)) := (blk_cell BK192.out 2).trans rfl
   have hcz16_3 : w6.cell? ⟨gb192, 3, none⟩ = some (.int .i64 0) := (blk_cell BK192.out 3).trans rfl
   have hfz16_0 := blk_frozen BK192.out 0
   have hfz16_1 := blk_frozen BK192.out 1
   have hfz16_2 := blk_frozen BK192.out 2
   have hfz16_3 := blk_frozen BK192.out 3
   go_wp2
   go_meet
   case rel => exact ⟨_, ((t191 == (a0.size : Int))), qnmo2_, H', ⟨by first | omega | exact Nat.le_refl _⟩, ⟨by (with_reducible repeat (first | refine blk_drewN ?_ _ | refine blk_drew ?_ | refine blk_alloc ?_ _)); refine blk_far ?_ NB187_192.out _; (with_reducible repeat (first | refine blk_drewN ?_ _ | refine blk_drew ?_ | refine blk_alloc ?_ _)); refine blk_far ?_ NB187_192.out _; (with_reducible repeat (first | refine blk_drewN ?_ _ | refine blk_drew ?_ | refine blk_alloc ?_ _)); refine blk_far ?_ NB187_192.out _; (with_reducible repeat (first | refine blk_drewN ?_ _ | refine blk_drew ?_ | refine blk_alloc ?_ _)); refine blk_far ?_ NB187_192.out _; (with_reducible repeat (first | refine blk_drewN ?_ _ | refine blk_drew ?_ | refine blk_alloc ?_ _)); exact BK187.out⟩, ⟨by (with_reducible repeat (first | refine blk_drewN ?_ _ | refine blk_drew ?_ | refine blk_alloc ?_ _)); refine blk_put (cs := #[.bool t188, .string t189, .string t190, .int .i64 0]) ?_ 3 _ rfl; (with_reducible repeat (first | refine blk_drewN ?_ _ | refine blk_drew ?_ | refine blk_alloc ?_ _)); refine blk_put (cs := #[.bool t188, .string t189, .string (⟨#[]⟩ : ByteArray), .int .i64 0]) ?_ 2 _ rfl; (with_reducible repeat (first | refine blk_drewN ?_ _ | refine blk_drew ?_ | refine blk_alloc ?_ _)); refine blk_put (cs := #[.bool t188, .string (⟨#[]⟩ : ByteArray), .string (⟨#[]⟩ : ByteArray), .int .i64 0]) ?_ 1 _ rfl; (with_reducible repeat (first | refine blk_drewN ?_ _ | refine blk_drew ?_ | refine blk_alloc ?_ _)); refine blk_put (cs := #[.bool false, .string (⟨#[]⟩ : ByteArray), .string (⟨#[]⟩ : ByteArray), .int .i64 0]) ?_ 0 _ rfl; (with_reducible repeat (first | refine blk_drewN ?_ _ | refine blk_drew ?_ | refine blk_alloc ?_ _)); exact BK192.out⟩, ⟨qnmo12_⟩⟩
 case rest =>
  clear HC3
  (try clear c1); (try clear c2); (try clear p2); (try clear c7); (try clear c12); (try clear c12b0); (try clear c12b1); (try clear c13); (try clear c15); (try clear c16); (try clear hcz14_0); (try clear hcz14_1); (try clear hcz14_2); (try clear hcz14_3); (try clear hcz16_0); (try clear hcz16_1); (try clear hcz16_2); (try clear hcz16_3); (try clear hcz8_0); (try clear hcz8_1); (try clear hcz8_2); (try clear hcz8_3)
  (try clear hfz14_0); (try clear hfz14_1); (try clear hfz14_2); (try clear hfz14_3); (try clear hfz16_0); (try clear hfz16_1); (try clear hfz16_2); (try clear hfz16_3); (try clear hfz8_0); (try clear hfz8_1); (try clear hfz8_2); (try clear hfz8_3)
  obtain ⟨kq, x18_2, rfl, HA, HJ2, BK187, BK192, HB⟩ := hcut
  cases kq with
  | zero => exact absurd HA.out (by simp [numeral_Human.j0])
  | succ kj2 =>
   have H := HA.out
   clear HA
   simp only [numeral_Human.j0] at H
   by_cases c17 : x18_2 = true
   ·
    subst c17
    have H1 : (some (t188, t189, t190, t191, 0)) = some (r1, r2, r3, r4, r5) := by rw [if_pos rfl] at H; exact H
    clear H
    have H := H1
    clear H1
    simp only [Option.some.injEq, Prod.mk.injEq] at H
    obtain ⟨rfl, rfl, rfl, rfl, rfl⟩ := H
    have hnb18 := NB192_187.out
    have hnc18 := NB187_192.out
    have hcz19_0 : wc.cell? ⟨gb192, 0, none⟩ = some (.bool t188) := (blk_cell BK192.out 0).trans rfl
    have hcz19_1 : wc.cell? ⟨gb192, 1, none⟩ = some (.string t189) := (blk_cell BK192.out 1).trans rfl
    have hcz19_2 : wc.cell? ⟨gb192, 2, none⟩ = some (.string t190) := (blk_cell BK192.out 2).trans rfl
    have hcz19_3 : wc.cell? ⟨gb192, 3, none⟩ = some (.int .i64 t191) := (blk_cell BK192.out 3).trans rfl
    have hfz19_0 := blk_frozen BK192.out 0
    have hfz19_1 := blk_frozen BK192.out 1
    have hfz19_2 := blk_frozen BK192.out 2
    have hfz19_3 := blk_frozen BK192.out 3
    have hcz20_0 : wc.cell? ⟨gb187, 0, none⟩ = some (.bool false) := (blk_cell BK187.out 0).trans rfl
    have hcz20_1 : wc.cell? ⟨gb187, 1, none⟩ = some (.string (⟨#[]⟩ : ByteArray)) := (blk_cell BK187.out 1).trans rfl
    have hcz20_2 : wc.cell? ⟨gb187, 2, none⟩ = some (.string (⟨#[]⟩ : ByteArray)) := (blk_cell BK187.out 2).trans rfl
    have hcz20_3 : wc.cell? ⟨gb187, 3, none⟩ = some (.int .i64 0) := (blk_cell BK187.out 3).trans rfl
    have hfz20_0 := blk_frozen BK187.out 0
    have hfz20_1 := blk_frozen BK187.out 1
    have hfz20_2 := blk_frozen BK187.out 2
    have hfz20_3 := blk_frozen BK187.out 3
    go_wp2
    refine bodyPost_ret (results_ct rfl _ _ gb187 25 #[.bool t188, .string t189, .string t190, .int .i64 t191] (0, 0) _ rfl qnmo13_ Tryd.underlying25 rfl (by kernel_rfl)) rfl ?_
    exact ⟨qnmo10_, qnmo12_⟩
   ·
    replace c17 := Bool.eq_false_iff.mpr c17
    subst c17
    have H1 : (if 0 ≤ t191 then (if t191 < (a0.size : Int) then (if (bt a0 t191) = 107 then (numeral_Human.j1 kj2 75 t188 t189 t190 t191) else (numeral_Human.j1 kj2 (bt a0 t191) t188 t189 t190 t191)) else (none)) else (none)) = some (r1, r2, r3, r4, r5) := by rw [if_neg (show ¬ (false = true) by decide)] at H; exact H
    clear H
    have H := H1
    clear H1
    by_cases c21 : 0 ≤ t191
    ·
     rw [if_pos c21] at H
     have c21b0 : decide (0 ≤ t191) = true := decide_eq_true c21
     clear c21
     by_cases c22 : t191 < (a0.size : Int)
     ·
      rw [if_pos c22] at H
      have c22b0 : decide (t191 < (a0.size : Int)) = true := decide_eq_true c22
      clear c22
      have HC24 := Aside0.mk H
      clear H
      have hnb25 := NB192_187.out
      have hnc25 := NB187_192.out
      have hcz26_0 : wc.cell? ⟨gb192, 0, none⟩ = some (.bool t188) := (blk_cell BK192.out 0).trans rfl
      have hcz26_1 : wc.cell? ⟨gb192, 1, none⟩ = some (.string t189) := (blk_cell BK192.out 1).trans rfl
      have hcz26_2 : wc.cell? ⟨gb192, 2, none⟩ = some (.string t190) := (blk_cell BK192.out 2).trans rfl
      have hcz26_3 : wc.cell? ⟨gb192, 3, none⟩ = some (.int .i64 t191) := (blk_cell BK192.out 3).trans rfl
      have hfz26_0 := blk_frozen BK192.out 0
      have hfz26_1 := blk_frozen BK192.out 1
      have hfz26_2 := blk_frozen BK192.out 2
      have hfz26_3 := blk_frozen BK192.out 3
      have p23 : 0 ≤ (t191 : Int) := of_decide_eq_true qnmo5_
      have q23 : t191 < (a0.size : Int) := of_decide_eq_true qnmo5_
      have hx23 := bt_at a0 t191
      replace p23 := eq_true p23
      replace q23 := eq_true q23
      go_upto_if 25 with (fail)
      go_cut [5] (fun v5 wc => ∃ (kq : Nat) (x5_23 : Int), v5 = .int .u8 x5_23 ∧ Aside0 (numeral_Human.j1 kq x5_23 t188 t189 t190 t191 = some (r1, r2, r3, r4, r5)) ∧ Aside0 (kq ≤ kj2) ∧ Aside0 (wc.heap[gb187]? = some (.cells #[.bool false, .string (⟨#[]⟩ : ByteArray), .string (⟨#[]⟩ : ByteArray), .int .i64 0] 25 (0, 0))) ∧ Aside0 (wc.heap[gb192]? = some (.cells #[.bool t188, .string t189, .string t190, .int .i64 t191] 25 (0, 0))) ∧ Aside0 (Below w.heap.size w wc))
      case first =>
       have H := HC24.out
       clear HC24
       by_cases c27 : (bt a0 t191) = 107
       ·
        rw [if_pos c27] at H
        have c27b0 : ((bt a0 t191) == 107) = true := beq_iff_eq.mpr c27
        have c27b1 : ((bt a0 t191) != 107) = false := bne_eq_false_iff_eq.mpr c27
        clear c27
        (first | rw [c27b0] | (simp only [i64_w, i32_w]; rw [c27b0]) | skip)
        have H' := Aside0.mk H
        clear H
        go_wp2
        go_meet
        case rel => exact ⟨_, (75), qnmo2_, H', ⟨by have := HJ2.out; first | omega | exact Nat.le_refl _⟩, ⟨qnmo21_⟩, ⟨qnmo32_⟩, ⟨qnmo12_⟩⟩
       ·
        rw [if_neg c27] at H
        have c27b0 : ((bt a0 t191) == 107) = false := beq_eq_false_iff_ne.mpr c27
        have c27b1 : ((bt a0 t191) != 107) = true := bne_iff_ne.mpr c27
        (first | rw [c27b0] | (simp only [i64_w, i32_w]; rw [c27b0]) | skip)
        have H' := Aside0.mk H
        clear H
        go_wp2
        go_meet
        case rel => exact ⟨_, (bt a0 t191), qnmo2_, H', ⟨by have := HJ2.out; first | omega | exact Nat.le_refl _⟩, ⟨qnmo21_⟩, ⟨qnmo32_⟩, ⟨qnmo12_⟩⟩
      case rest =>
       clear HC24
       (try clear c1); (try clear c2); (try clear p2); (try clear q2); (try clear hx2); (try clear c7); (try clear c12); (try clear c12b0); (try clear c12b1); (try clear c13); (try clear c15); (try clear c16); (try clear c17); (try clear c18); (try clear c20); (try clear c21); (try clear c21b0); (try clear c22); (try clear c22b0); (try clear p23); (try clear q23); (try clear hx23); (try clear c25)
       (try clear c27); (try clear c27b0); (try clear c27b1); (try clear hcz14_0); (try clear hcz14_1); (try clear hcz14_2); (try clear hcz14_3); (try clear hcz16_0); (try clear hcz16_1); (try clear hcz16_2); (try clear hcz16_3); (try clear hcz19_0); (try clear hcz19_1); (try clear hcz19_2); (try clear hcz19_3); (try clear hcz20_0); (try clear hcz20_1); (try clear hcz20_2); (try clear hcz20_3); (try clear hcz26_0)
       (try clear hcz26_1); (try clear hcz26_2); (try clear hcz26_3); (try clear hcz8_0); (try clear hcz8_1); (try clear hcz8_2); (try clear hcz8_3); (try clear hfz14_0); (try clear hfz14_1); (try clear hfz14_2); (try clear hfz14_3); (try clear hfz16_0); (try clear hfz16_1); (try clear hfz16_2); (try clear hfz16_3); (try clear hfz19_0); (try clear hfz19_1); (try clear hfz19_2); (try clear hfz19_3)
       (try clear hfz20_0); (try clear hfz20_1); (try clear hfz20_2); (try clear hfz20_3); (try clear hfz26_0); (try clear hfz26_1); (try clear hfz26_2); (try clear hfz26_3); (try clear hfz8_0); (try clear hfz8_1); (try clear hfz8_2); (try clear hfz8_3); (try clear p2); (try clear p23); (try clear q23)
       obtain ⟨kq, x5_23, rfl, HA, HJ23, BK187, BK192, HB⟩ := hcut
       cases kq with
       | zero => exact absurd HA.out (by simp [numeral_Human.j1])
       | succ kj23 =>
        have H := HA.out
        clear HA
        simp only [numeral_Human.j1] at H
        replace H := Option.bind_eq_some_iff.mp H
        obtain ⟨t193, A280, H⟩ := H
        replace H : (if (wrap64 (t193 + 1)) > 0 then (if t189.toList = ([] : List UInt8) then (if t190.toList = ([] : List UInt8) then (some (t188, t189, t190, wrap64 (t191 + 1), 0)) else (some (t188, t189, t190, wrap64 (t191 + 1), wrap64 (t193 + 1)))) else (some (t188, t189, t190, wrap64 (t191 + 1), wrap64 (t193 + 1)))) else (if t189.toList = ([] : List UInt8) then (if t190.toList = ([] : List UInt8) then (some (t188, t189, t190, t191, 0)) else (some (t188, t189, t190, t191, wrap64 (t193 + 1)))) else (some (t188, t189, t190, t191, wrap64 (t193 + 1))))) = some (r1, r2, r3, r4, r5) := H
        have A28 := Aside0.mk A280
        clear A280
        by_cases c29 : (wrap64 (t193 + 1)) > 0
        ·
         rw [if_pos c29] at H
         have c29b0 : decide (0 < (wrap64 (t193 + 1))) = true := decide_eq_true c29
         clear c29
         by_cases c30 : t189.toList = ([] : List UInt8)
         ·
          rw [if_pos c30] at H
          have c30b0 : (t189.toList == ([] : List UInt8)) = true := beq_iff_eq.mpr c30
          have c30b1 : (t189.toList != ([] : List UInt8)) = false := bne_eq_false_iff_eq.mpr c30
          clear c30
          by_cases c31 : t190.toList = ([] : List UInt8)
          ·
           rw [if_pos c31] at H
           have c31b0 : (t190.toList == ([] : List UInt8)) = true := beq_iff_eq.mpr c31
           have c31b1 : (t190.toList != ([] : List UInt8)) = false := bne_eq_false_iff_eq.mpr c31
           clear c31
           simp only [Option.some.injEq, Prod.mk.injEq] at H
           obtain ⟨rfl, rfl, rfl, rfl, rfl⟩ := H
           go_wp2_with (first | ((with_reducible refine gate_callee (f := 39) rfl ?_); refine goesL_ (some 27) rfl rfl Tryd.func39 (by kernel_rfl) rfl #[.string (⟨#[75, 77, 71, 84, 80, 69, 90, 89, 82, 81]⟩ : ByteArray), .int .u8 x5_23] rfl qnmo0_ ?_; (with_reducible refine (strings_IndexByte.calls (⟨#[75, 77, 71, 84, 80, 69, 90, 89, 82, 81]⟩ : ByteArray) x5_23 t193 _ A28.out).mono ?_); rintro e w' ⟨rfl, ⟨nd, rfl⟩⟩; refine ⟨_, rfl, ?_⟩; (try (rw [drewN_self wc]; generalize hq_ : World.drewN wc _ = wc; have n0_ : Aside0 (wc.heap[gb187]? = some (.cells #[.bool false, .string (⟨#[]⟩ : ByteArray), .string (⟨#[]⟩ : ByteArray), .int .i64 0] 25 (0, 0))) := ⟨by rw [← hq_]; exact qnmo21_⟩; have n1_ : Aside0 (wc.heap[gb192]? = some (.cells #[.bool t188, .string t189, .string t190, .int .i64 t191] 25 (0, 0))) := ⟨by rw [← hq_]; exact qnmo32_⟩; have n2_ : Aside0 (Below w.heap.size w wc) := ⟨by rw [← hq_]; exact qnmo12_⟩; clear BK187 BK192 HB hq_; have BK187 := n0_; have BK192 := n1_; have HB := n2_; clear n0_ n1_ n2_)); (try (have hcu32_0 : wc.cell? ⟨gb187, 0, none⟩ = some (.bool false) := (blk_cell BK187.out 0).trans rfl; have hfu32_0 := blk_frozen BK187.out 0; have hcu32_1 : wc.cell? ⟨gb187, 1, none⟩ = some (.string (⟨#[]⟩ : ByteArray)) := (blk_cell BK187.out 1).trans rfl; have hfu32_1 := blk_frozen BK187.out 1; have hcu32_2 : wc.cell? ⟨gb187, 2, none⟩ = some (.string (⟨#[]⟩ : ByteArray)) := (blk_cell BK187.out 2).trans rfl; have hfu32_2 := blk_frozen BK187.out 2; have hcu32_3 : wc.cell? ⟨gb187, 3, none⟩ = some (.int .i64 0) := (blk_cell BK187.out 3).trans rfl; have hfu32_3 := blk_frozen BK187.out 3)); (try (have hcu33_0 : wc.cell? ⟨gb192, 0, none⟩ = some (.bool t188) := (blk_cell BK192.out 0).trans rfl; have hfu33_0 := blk_frozen BK192.out 0; have hcu33_1 : wc.cell? ⟨gb192, 1, none⟩ = some (.string t189) := (blk_cell BK192.out 1).trans rfl; have hfu33_1 := blk_frozen BK192.out 1; have hcu33_2 : wc.cell? ⟨gb192, 2, none⟩ = some (.string t190) := (blk_cell BK192.out 2).trans rfl; have hfu33_2 := blk_frozen BK192.out 2; have hcu33_3 : wc.cell? ⟨gb192, 3, none⟩ = some (.int .i64 t191) := (blk_cell BK192.out 3).trans rfl; have hfu33_3 := blk_frozen BK192.out 3)); have hnb34 := NB192_187.out; have hnc34 := NB187_192.out; have hcz35_0 : wc.cell? ⟨gb192, 0, none⟩ = some (.bool t188) := (blk_cell BK192.out 0).trans rfl; have hcz35_1 : wc.cell? ⟨gb192, 1, none⟩ = some (.string t189) := (blk_cell BK192.out 1).trans rfl; have hcz35_2 : wc.cell? ⟨gb192, 2, none⟩ = some (.string t190) := (blk_cell BK192.out 2).trans rfl; have hcz35_3 : wc.cell? ⟨gb192, 3, none⟩ = some (.int .i64 t191) := (blk_cell BK192.out 3).trans rfl; have hfz35_0 := blk_frozen BK192.out 0; have hfz35_1 := blk_frozen BK192.out 1; have hfz35_2 := blk_frozen BK192.out 2; have hfz35_3 := blk_frozen BK192.out 3; have hcz36_0 : wc.cell? ⟨gb187, 0, none⟩ = some (.bool false) := (blk_cell BK187.out 0).trans rfl; have hcz36_1 : wc.cell? ⟨gb187, 1, none⟩ = some (.string (⟨#[]⟩ : ByteArray)) := (blk_cell BK187.out 1).trans rfl; have hcz36_2 : wc.cell? ⟨gb187, 2, none⟩ = some (.string (⟨#[]⟩ : ByteArray)) := (blk_cell BK187.out 2).trans rfl; have hcz36_3 : wc.cell? ⟨gb187, 3, none⟩ = some (.int .i64 0) := (blk_cell BK187.out 3).trans rfl; have hfz36_0 := blk_frozen BK187.out 0; have hfz36_1 := blk_frozen BK187.out 1; have hfz36_2 := blk_frozen BK187.out 2; have hfz36_3 := blk_frozen BK187.out 3))
           refine bodyPost_ret (results_ct rfl _ _ gb187 25 #[.bool t188, .string t189, .string t190, .int .i64 (wrap64 (t191 + 1))] (0, 0) _ rfl qnmo15_ Tryd.underlying25 rfl (by kernel_rfl)) rfl ?_
           exact ⟨qnmo10_, qnmo12_⟩
          ·
           rw [if_neg c31] at H
           have c31b0 : (t190.toList == ([] : List UInt8)) = false := beq_eq_false_iff_ne.mpr c31
           have c31b1 : (t190.toList != ([] : List UInt8)) = true := bne_iff_ne.mpr c31
           simp only [Option.some.injEq, Prod.mk.injEq] at H
           obtain ⟨rfl, rfl, rfl, rfl, rfl⟩ := H
           go_wp2_with (first | ((with_reducible refine gate_callee (f := 39) rfl ?_); refine goesL_ (some 27) rfl rfl Tryd.func39 (by kernel_rfl) rfl #[.string (⟨#[75, 77, 71, 84, 80, 69, 90, 89, 82, 81]⟩ : ByteArray), .int .u8 x5_23] rfl qnmo0_ ?_; (with_reducible refine (strings_IndexByte.calls (⟨#[75, 77, 71, 84, 80, 69, 90, 89, 82, 81]⟩ : ByteArray) x5_23 t193 _ A28.out).mono ?_); rintro e w' ⟨rfl, ⟨nd, rfl⟩⟩; refine ⟨_, rfl, ?_⟩; (try (rw [drewN_self wc]; generalize hq_ : World.drewN wc _ = wc; have n0_ : Aside0 (wc.heap[gb187]? = some (.cells #[.bool false, .string (⟨#[]⟩ : ByteArray), .string (⟨#[]⟩ : ByteArray), .int .i64 0] 25 (0, 0))) := ⟨by rw [← hq_]; exact qnmo21_⟩; have n1_ : Aside0 (wc.heap[gb192]? = some (.cells #[.bool t188, .string t189, .string t190, .int .i64 t191] 25 (0, 0))) := ⟨by rw [← hq_]; exact qnmo32_⟩; have n2_ : Aside0 (Below w.heap.size w wc) := ⟨by rw [← hq_]; exact qnmo12_⟩; clear BK187 BK192 HB hq_; have BK187 := n0_; have BK192 := n1_; have HB := n2_; clear n0_ n1_ n2_)); (try (have hcu37_0 : wc.cell? ⟨gb187, 0, none⟩ = some (.bool false) := (blk_cell BK187.out 0).trans rfl; have hfu37_0 := blk_frozen BK187.out 0; have hcu37_1 : wc.cell? ⟨gb187, 1, none⟩ = some (.string (⟨#[]⟩ : ByteArray)) := (blk_cell BK187.out 1).trans rfl; have hfu37_1 := blk_frozen BK187.out 1; have hcu37_2 : wc.cell? ⟨gb187, 2, none⟩ = some (.string (⟨#[]⟩ : ByteArray)) := (blk_cell BK187.out 2).trans rfl; have hfu37_2 := blk_frozen BK187.out 2; have hcu37_3 : wc.cell? ⟨gb187, 3, none⟩ = some (.int .i64 0) := (blk_cell BK187.out 3).trans rfl; have hfu37_3 := blk_frozen BK187.out 3)); (try (have hcu38_0 : wc.cell? ⟨gb192, 0, none⟩ = some (.bool t188) := (blk_cell BK192.out 0).trans rfl; have hfu38_0 := blk_frozen BK192.out 0; have hcu38_1 : wc.cell? ⟨gb192, 1, none⟩ = some (.string t189) := (blk_cell BK192.out 1).trans rfl; have hfu38_1 := blk_frozen BK192.out 1; have hcu38_2 : wc.cell? ⟨gb192, 2, none⟩ = some (.string t190) := (blk_cell BK192.out 2).trans rfl; have hfu38_2 := blk_frozen BK192.out 2; have hcu38_3 : wc.cell? ⟨gb192, 3, none⟩ = some (.int .i64 t191) := (blk_cell BK192.out 3).trans rfl; have hfu38_3 := blk_frozen BK192.out 3)); have hnb39 := NB192_187.out; have hnc39 := NB187_192.out; have hcz40_0 : wc.cell? ⟨gb192, 0, none⟩ = some (.bool t188) := (blk_cell BK192.out 0).trans rfl; have hcz40_1 : wc.cell? ⟨gb192, 1, none⟩ = some (.string t189) := (blk_cell BK192.out 1).trans rfl; have hcz40_2 : wc.cell? ⟨gb192, 2, none⟩ = some (.string t190) := (blk_cell BK192.out 2).trans rfl; have hcz40_3 : wc.cell? ⟨gb192, 3, none⟩ = some (.int .i64 t191) := (blk_cell BK192.out 3).trans rfl; have hfz40_0 := blk_frozen BK192.out 0; have hfz40_1 := blk_frozen BK192.out 1; have hfz40_2 := blk_frozen BK192.out 2; have hfz40_3 := blk_frozen BK192.out 3; have hcz41_0 : wc.cell? ⟨gb187, 0, none⟩ = some (.bool false) := (blk_cell BK187.out 0).trans rfl; have hcz41_1 : wc.cell? ⟨gb187, 1, none⟩ = some (.string (⟨#[]⟩ : ByteArray)) := (blk_cell BK187.out 1).trans rfl; have hcz41_2 : wc.cell? ⟨gb187, 2, none⟩ = some (.string (⟨#[]⟩ : ByteArray)) := (blk_cell BK187.out 2).trans rfl; have hcz41_3 : wc.cell? ⟨gb187, 3, none⟩ = some (.int .i64 0) := (blk_cell BK187.out 3).trans rfl; have hfz41_0 := blk_frozen BK187.out 0; have hfz41_1 := blk_frozen BK187.out 1; have hfz41_2 := blk_frozen BK187.out 2; have hfz41_3 := blk_frozen BK187.out 3))
           refine bodyPost_ret (results_ct rfl _ _ gb187 25 #[.bool t188, .string t189, .string t190, .int .i64 (wrap64 (t191 + 1))] (0, 0) _ rfl qnmo15_ Tryd.underlying25 rfl (by kernel_rfl)) rfl ?_
           exact ⟨qnmo10_, qnmo12_⟩
         ·
          rw [if_neg c30] at H
          have c30b0 : (t189.toList == ([] : List UInt8)) = false := beq_eq_false_iff_ne.mpr c30
          have c30b1 : (t189.toList != ([] : List UInt8)) = true := bne_iff_ne.mpr c30
          simp only [Option.some.injEq, Prod.mk.injEq] at H
          obtain ⟨rfl, rfl, rfl, rfl, rfl⟩ := H
          go_wp2_with (first | ((with_reducible refine gate_callee (f := 39) rfl ?_); refine goesL_ (some 27) rfl rfl Tryd.func39 (by kernel_rfl) rfl #[.string (⟨#[75, 77, 71, 84, 80, 69, 90, 89, 82, 81]⟩ : ByteArray), .int .u8 x5_23] rfl qnmo0_ ?_; (with_reducible refine (strings_IndexByte.calls (⟨#[75, 77, 71, 84, 80, 69, 90, 89, 82, 81]⟩ : ByteArray) x5_23 t193 _ A28.out).mono ?_); rintro e w' ⟨rfl, ⟨nd, rfl⟩⟩; refine ⟨_, rfl, ?_⟩; (try (rw [drewN_self wc]; generalize hq_ : World.drewN wc _ = wc; have n0_ : Aside0 (wc.heap[gb187]? = some (.cells #[.bool false, .string (⟨#[]⟩ : ByteArray), .string (⟨#[]⟩ : ByteArray), .int .i64 0] 25 (0, 0))) := ⟨by rw [← hq_]; exact qnmo21_⟩; have n1_ : Aside0 (wc.heap[gb192]? = some (.cells #[.bool t188, .string t189, .string t190, .int .i64 t191] 25 (0, 0))) := ⟨by rw [← hq_]; exact qnmo32_⟩; have n2_ : Aside0 (Below w.heap.size w wc) := ⟨by rw [← hq_]; exact qnmo12_⟩; clear BK187 BK192 HB hq_; have BK187 := n0_; have BK192 := n1_; have HB := n2_; clear n0_ n1_ n2_)); (try (have hcu42_0 : wc.cell? ⟨gb187, 0, none⟩ = some (.bool false) := (blk_cell BK187.out 0).trans rfl; have hfu42_0 := blk_frozen BK187.out 0; have hcu42_1 : wc.cell? ⟨gb187, 1, none⟩ = some (.string (⟨#[]⟩ : ByteArray)) := (blk_cell BK187.out 1).trans rfl; have hfu42_1 := blk_frozen BK187.out 1; have hcu42_2 : wc.cell? ⟨gb187, 2, none⟩ = some (.string (⟨#[]⟩ : ByteArray)) := (blk_cell BK187.out 2).trans rfl; have hfu42_2 := blk_frozen BK187.out 2; have hcu42_3 : wc.cell? ⟨gb187, 3, none⟩ = some (.int .i64 0) := (blk_cell BK187.out 3).trans rfl; have hfu42_3 := blk_frozen BK187.out 3)); (try (have hcu43_0 : wc.cell? ⟨gb192, 0, none⟩ = some (.bool t188) := (blk_cell BK192.out 0).trans rfl; have hfu43_0 := blk_frozen BK192.out 0; have hcu43_1 : wc.cell? ⟨gb192, 1, none⟩ = some (.string t189) := (blk_cell BK192.out 1).trans rfl; have hfu43_1 := blk_frozen BK192.out 1; have hcu43_2 : wc.cell? ⟨gb192, 2, none⟩ = some (.string t190) := (blk_cell BK192.out 2).trans rfl; have hfu43_2 := blk_frozen BK192.out 2; have hcu43_3 : wc.cell? ⟨gb192, 3, none⟩ = some (.int .i64 t191) := (blk_cell BK192.out 3).trans rfl; have hfu43_3 := blk_frozen BK192.out 3)); have hnb44 := NB192_187.out; have hnc44 := NB187_192.out; have hcz45_0 : wc.cell? ⟨gb192, 0, none⟩ = some (.bool t188) := (blk_cell BK192.out 0).trans rfl; have hcz45_1 : wc.cell? ⟨gb192, 1, none⟩ = some (.string t189) := (blk_cell BK192.out 1).trans rfl; have hcz45_2 : wc.cell? ⟨gb192, 2, none⟩ = some (.string t190) := (blk_cell BK192.out 2).trans rfl; have hcz45_3 : wc.cell? ⟨gb192, 3, none⟩ = some (.int .i64 t191) := (blk_cell BK192.out 3).trans rfl; have hfz45_0 := blk_frozen BK192.out 0; have hfz45_1 := blk_frozen BK192.out 1; have hfz45_2 := blk_frozen BK192.out 2; have hfz45_3 := blk_frozen BK192.out 3; have hcz46_0 : wc.cell? ⟨gb187, 0, none⟩ = some (.bool false) := (blk_cell BK187.out 0).trans rfl; have hcz46_1 : wc.cell? ⟨gb187, 1, none⟩ = some (.string (⟨#[]⟩ : ByteArray)) := (blk_cell BK187.out 1).trans rfl; have hcz46_2 : wc.cell? ⟨gb187, 2, none⟩ = some (.string (⟨#[]⟩ : ByteArray)) := (blk_cell BK187.out 2).trans rfl; have hcz46_3 : wc.cell? ⟨gb187, 3, none⟩ = some (.int .i64 0) := (blk_cell BK187.out 3).trans rfl; have hfz46_0 := blk_frozen BK187.out 0; have hfz46_1 := blk_frozen BK187.out 1; have hfz46_2 := blk_frozen BK187.out 2; have hfz46_3 := blk_frozen BK187.out 3))
          refine bodyPost_ret (results_ct rfl _ _ gb187 25 #[.bool t188, .string t189, .string t190, .int .i64 (wrap64 (t191 + 1))] (0, 0) _ rfl qnmo15_ Tryd.underlying25 rfl (by kernel_rfl)) rfl ?_
          exact ⟨qnmo10_, qnmo12_⟩
        ·
         rw [if_neg c29] at H
         have c29b0 : decide (0 < (wrap64 (t193 + 1))) = false := decide_eq_false c29
         clear c29
         by_cases c47 : t189.toList = ([] : List UInt8)
         ·
          rw [if_pos c47] at H
          have c47b0 : (t189.toList == ([] : List UInt8)) = true := beq_iff_eq.mpr c47
          have c47b1 : (t189.toList != ([] : List UInt8)) = false := bne_eq_false_iff_eq.mpr c47
          clear c47
          by_cases c48 : t190.toList = ([] : List UInt8)
          ·
           rw [if_pos c48] at H
           have c48b0 : (t190.toList == ([] : List UInt8)) = true := beq_iff_eq.mpr c48
           have c48b1 : (t190.toList != ([] : List UInt8)) = false := bne_eq_false_iff_eq.mpr c48
           clear c48
           simp only [Option.some.injEq, Prod.mk.injEq] at H
           obtain ⟨rfl, rfl, rfl, rfl, rfl⟩ := H
           go_wp2_with (first | ((with_reducible refine gate_callee (f := 39) rfl ?_); refine goesL_ (some 27) rfl rfl Tryd.func39 (by kernel_rfl) rfl #[.string (⟨#[75, 77, 71, 84, 80, 69, 90, 89, 82, 81]⟩ : ByteArray), .int .u8 x5_23] rfl qnmo0_ ?_; (with_reducible refine (strings_IndexByte.calls (⟨#[75, 77, 71, 84, 80, 69, 90, 89, 82, 81]⟩ : ByteArray) x5_23 t193 _ A28.out).mono ?_); rintro e w' ⟨rfl, ⟨nd, rfl⟩⟩; refine ⟨_, rfl, ?_⟩; (try (rw [drewN_self wc]; generalize hq_ : World.drewN wc _ = wc; have n0_ : Aside0 (wc.heap[gb187]? = some (.cells #[.bool false, .string (⟨#[]⟩ : ByteArray), .string (⟨#[]⟩ : ByteArray), .int .i64 0] 25 (0, 0))) := ⟨by rw [← hq_]; exact qnmo21_⟩; have n1_ : Aside0 (wc.heap[gb192]? = some (.cells #[.bool t188, .string t189, .string t190, .int .i64 t191] 25 (0, 0))) := ⟨by rw [← hq_]; exact qnmo32_⟩; have n2_ : Aside0 (Below w.heap.size w wc) := ⟨by rw [← hq_]; exact qnmo12_⟩; clear BK187 BK192 HB hq_; have BK187 := n0_; have BK192 := n1_; have HB := n2_; clear n0_ n1_ n2_)); (try (have hcu49_0 : wc.cell? ⟨gb187, 0, none⟩ = some (.bool false) := (blk_cell BK187.out 0).trans rfl; have hfu49_0 := blk_frozen BK187.out 0; have hcu49_1 : wc.cell? ⟨gb187, 1, none⟩ = some (.string (⟨#[]⟩ : ByteArray)) := (blk_cell BK187.out 1).trans rfl; have hfu49_1 := blk_frozen BK187.out 1; have hcu49_2 : wc.cell? ⟨gb187, 2, none⟩ = some (.string (⟨#[]⟩ : ByteArray)) := (blk_cell BK187.out 2).trans rfl; have hfu49_2 := blk_frozen BK187.out 2; have hcu49_3 : wc.cell? ⟨gb187, 3, none⟩ = some (.int .i64 0) := (blk_cell BK187.out 3).trans rfl; have hfu49_3 := blk_frozen BK187.out 3)); (try (have hcu50_0 : wc.cell? ⟨gb192, 0, none⟩ = some (.bool t188) := (blk_cell BK192.out 0).trans rfl; have hfu50_0 := blk_frozen BK192.out 0; have hcu50_1 : wc.cell? ⟨gb192, 1, none⟩ = some (.string t189) := (blk_cell BK192.out 1).trans rfl; have hfu50_1 := blk_frozen BK192.out 1; have hcu50_2 : wc.cell? ⟨gb192, 2, none⟩ = some (.string t190) := (blk_cell BK192.out 2).trans rfl; have hfu50_2 := blk_frozen BK192.out 2; have hcu50_3 : wc.cell? ⟨gb192, 3, none⟩ = some (.int .i64 t191) := (blk_cell BK192.out 3).trans rfl; have hfu50_3 := blk_frozen BK192.out 3)); have hnb51 := NB192_187.out; have hnc51 := NB187_192.out; have hcz52_0 : wc.cell? ⟨gb192, 0, none⟩ = some (.bool t188) := (blk_cell BK192.out 0).trans rfl; have hcz52_1 : wc.cell? ⟨gb192, 1, none⟩ = some (.string t189) := (blk_cell BK192.out 1).trans rfl; have hcz52_2 : wc.cell? ⟨gb192, 2, none⟩ = some (.string t190) := (blk_cell BK192.out 2).trans rfl; have hcz52_3 : wc.cell? ⟨gb192, 3, none⟩ = some (.int .i64 t191) := (blk_cell BK192.out 3).trans rfl; have hfz52_0 := blk_frozen BK192.out 0; have hfz52_1 := blk_frozen BK192.out 1; have hfz52_2 := blk_frozen BK192.out 2; have hfz52_3 := blk_frozen BK192.out 3; have hcz53_0 : wc.cell? ⟨gb187, 0, none⟩ = some (.bool false) := (blk_cell BK187.out 0).trans rfl; have hcz53_1 : wc.cell? ⟨gb187, 1, none⟩ = some (.string (⟨#[]⟩ : ByteArray)) := (blk_cell BK187.out 1).trans rfl; have hcz53_2 : wc.cell? ⟨gb187, 2, none⟩ = some (.string (⟨#[]⟩ : ByteArray)) := (blk_cell BK187.out 2).trans rfl; have hcz53_3 : wc.cell? ⟨gb187, 3, none⟩ = some (.int .i64 0) := (blk_cell BK187.out 3).trans rfl; have hfz53_0 := blk_frozen BK187.out 0; have hfz53_1 := blk_frozen BK187.out 1; have hfz53_2 := blk_frozen BK187.out 2; have hfz53_3 := blk_frozen BK187.out 3))
           refine bodyPost_ret (results_ct rfl _ _ gb187 25 #[.bool t188, .string t189, .string t190, .int .i64 t191] (0, 0) _ rfl qnmo13_ Tryd.underlying25 rfl (by kernel_rfl)) rfl ?_
           exact ⟨qnmo10_, qnmo12_⟩
          ·
           rw [if_neg c48] at H
           have c48b0 : (t190.toList == ([] : List UInt8)) = false := beq_eq_false_iff_ne.mpr c48
           have c48b1 : (t190.toList != ([] : List UInt8)) = true := bne_iff_ne.mpr c48
           simp only [Option.some.injEq, Prod.mk.injEq] at H
           obtain ⟨rfl, rfl, rfl, rfl, rfl⟩ := H
           go_wp2_with (first | ((with_reducible refine gate_callee (f := 39) rfl ?_); refine goesL_ (some 27) rfl rfl Tryd.func39 (by kernel_rfl) rfl #[.string (⟨#[75, 77, 71, 84, 80, 69, 90, 89, 82, 81]⟩ : ByteArray), .int .u8 x5_23] rfl qnmo0_ ?_; (with_reducible refine (strings_IndexByte.calls (⟨#[75, 77, 71, 84, 80, 69, 90, 89, 82, 81]⟩ : ByteArray) x5_23 t193 _ A28.out).mono ?_); rintro e w' ⟨rfl, ⟨nd, rfl⟩⟩; refine ⟨_, rfl, ?_⟩; (try (rw [drewN_self wc]; generalize hq_ : World.drewN wc _ = wc; have n0_ : Aside0 (wc.heap[gb187]? = some (.cells #[.bool false, .string (⟨#[]⟩ : ByteArray), .string (⟨#[]⟩ : ByteArray), .int .i64 0] 25 (0, 0))) := ⟨by rw [← hq_]; exact qnmo21_⟩; have n1_ : Aside0 (wc.heap[gb192]? = some (.cells #[.bool t188, .string t189, .string t190, .int .i64 t191] 25 (0, 0))) := ⟨by rw [← hq_]; exact qnmo32_⟩; have n2_ : Aside0 (Below w.heap.size w wc) := ⟨by rw [← hq_]; exact qnmo12_⟩; clear BK187 BK192 HB hq_; have BK187 := n0_; have BK192 := n1_; have HB := n2_; clear n0_ n1_ n2_)); (try (have hcu54_0 : wc.cell? ⟨gb187, 0, none⟩ = some (.bool false) := (blk_cell BK187.out 0).trans rfl; have hfu54_0 := blk_frozen BK187.out 0; have hcu54_1 : wc.cell? ⟨gb187, 1, none⟩ = some (.string (⟨#[]⟩ : ByteArray)) := (blk_cell BK187.out 1).trans rfl; have hfu54_1 := blk_frozen BK187.out 1; have hcu54_2 : wc.cell? ⟨gb187, 2, none⟩ = some (.string (⟨#[]⟩ : ByteArray)) := (blk_cell BK187.out 2).trans rfl; have hfu54_2 := blk_frozen BK187.out 2; have hcu54_3 : wc.cell? ⟨gb187, 3, none⟩ = some (.int .i64 0) := (blk_cell BK187.out 3).trans rfl; have hfu54_3 := blk_frozen BK187.out 3)); (try (have hcu55_0 : wc.cell? ⟨gb192, 0, none⟩ = some (.bool t188) := (blk_cell BK192.out 0).trans rfl; have hfu55_0 := blk_frozen BK192.out 0; have hcu55_1 : wc.cell? ⟨gb192, 1, none⟩ = some (.string t189) := (blk_cell BK192.out 1).trans rfl; have hfu55_1 := blk_frozen BK192.out 1; have hcu55_2 : wc.cell? ⟨gb192, 2, none⟩ = some (.string t190) := (blk_cell BK192.out 2).trans rfl; have hfu55_2 := blk_frozen BK192.out 2; have hcu55_3 : wc.cell? ⟨gb192, 3, none⟩ = some (.int .i64 t191) := (blk_cell BK192.out 3).trans rfl; have hfu55_3 := blk_frozen BK192.out 3)); have hnb56 := NB192_187.out; have hnc56 := NB187_192.out; have hcz57_0 : wc.cell? ⟨gb192, 0, none⟩ = some (.bool t188) := (blk_cell BK192.out 0).trans rfl; have hcz57_1 : wc.cell? ⟨gb192, 1, none⟩ = some (.string t189) := (blk_cell BK192.out 1).trans rfl; have hcz57_2 : wc.cell? ⟨gb192, 2, none⟩ = some (.string t190) := (blk_cell BK192.out 2).trans rfl; have hcz57_3 : wc.cell? ⟨gb192, 3, none⟩ = some (.int .i64 t191) := (blk_cell BK192.out 3).trans rfl; have hfz57_0 := blk_frozen BK192.out 0; have hfz57_1 := blk_frozen BK192.out 1; have hfz57_2 := blk_frozen BK192.out 2; have hfz57_3 := blk_frozen BK192.out 3; have hcz58_0 : wc.cell? ⟨gb187, 0, none⟩ = some (.bool false) := (blk_cell BK187.out 0).trans rfl; have hcz58_1 : wc.cell? ⟨gb187, 1, none⟩ = some (.string (⟨#[]⟩ : ByteArray)) := (blk_cell BK187.out 1).trans rfl; have hcz58_2 : wc.cell? ⟨gb187, 2, none⟩ = some (.string (⟨#[]⟩ : ByteArray)) := (blk_cell BK187.out 2).trans rfl; have hcz58_3 : wc.cell? ⟨gb187, 3, none⟩ = some (.int .i64 0) := (blk_cell BK187.out 3).trans rfl; have hfz58_0 := blk_frozen BK187.out 0; have hfz58_1 := blk_frozen BK187.out 1; have hfz58_2 := blk_frozen BK187.out 2; have hfz58_3 := blk_frozen BK187.out 3))
           refine bodyPost_ret (results_ct rfl _ _ gb187 25 #[.bool t188, .string t189, .string t190, .int .i64 t191] (0, 0) _ rfl qnmo13_ Tryd.underlying25 rfl (by kernel_rfl)) rfl ?_
           exact ⟨qnmo10_, qnmo12_⟩
         ·
          rw [if_neg c47] at H
          have c47b0 : (t189.toList == ([] : List UInt8)) = false := beq_eq_false_iff_ne.mpr c47
          have c47b1 : (t189.toList != ([] : List UInt8)) = true := bne_iff_ne.mpr c47
          simp only [Option.some.injEq, Prod.mk.injEq] at H
          obtain ⟨rfl, rfl, rfl, rfl, rfl⟩ := H
          go_wp2_with (first | ((with_reducible refine gate_callee (f := 39) rfl ?_); refine goesL_ (some 27) rfl rfl Tryd.func39 (by kernel_rfl) rfl #[.string (⟨#[75, 77, 71, 84, 80, 69, 90, 89, 82, 81]⟩ : ByteArray), .int .u8 x5_23] rfl qnmo0_ ?_; (with_reducible refine (strings_IndexByte.calls (⟨#[75, 77, 71, 84, 80, 69, 90, 89, 82, 81]⟩ : ByteArray) x5_23 t193 _ A28.out).mono ?_); rintro e w' ⟨rfl, ⟨nd, rfl⟩⟩; refine ⟨_, rfl, ?_⟩; (try (rw [drewN_self wc]; generalize hq_ : World.drewN wc _ = wc; have n0_ : Aside0 (wc.heap[gb187]? = some (.cells #[.bool false, .string (⟨#[]⟩ : ByteArray), .string (⟨#[]⟩ : ByteArray), .int .i64 0] 25 (0, 0))) := ⟨by rw [← hq_]; exact qnmo21_⟩; have n1_ : Aside0 (wc.heap[gb192]? = some (.cells #[.bool t188, .string t189, .string t190, .int .i64 t191] 25 (0, 0))) := ⟨by rw [← hq_]; exact qnmo32_⟩; have n2_ : Aside0 (Below w.heap.size w wc) := ⟨by rw [← hq_]; exact qnmo12_⟩; clear BK187 BK192 HB hq_; have BK187 := n0_; have BK192 := n1_; have HB := n2_; clear n0_ n1_ n2_)); (try (have hcu59_0 : wc.cell? ⟨gb187, 0, none⟩ = some (.bool false) := (blk_cell BK187.out 0).trans rfl; have hfu59_0 := blk_frozen BK187.out 0; have hcu59_1 : wc.cell? ⟨gb187, 1, none⟩ = some (.string (⟨#[]⟩ : ByteArray)) := (blk_cell BK187.out 1).trans rfl; have hfu59_1 := blk_frozen BK187.out 1; have hcu59_2 : wc.cell? ⟨gb187, 2, none⟩ = some (.string (⟨#[]⟩ : ByteArray)) := (blk_cell BK187.out 2).trans rfl; have hfu59_2 := blk_frozen BK187.out 2; have hcu59_3 : wc.cell? ⟨gb187, 3, none⟩ = some (.int .i64 0) := (blk_cell BK187.out 3).trans rfl; have hfu59_3 := blk_frozen BK187.out 3)); (try (have hcu60_0 : wc.cell? ⟨gb192, 0, none⟩ = some (.bool t188) := (blk_cell BK192.out 0).trans rfl; have hfu60_0 := blk_frozen BK192.out 0; have hcu60_1 : wc.cell? ⟨gb192, 1, none⟩ = some (.string t189) := (blk_cell BK192.out 1).trans rfl; have hfu60_1 := blk_frozen BK192.out 1; have hcu60_2 : wc.cell? ⟨gb192, 2, none⟩ = some (.string t190) := (blk_cell BK192.out 2).trans rfl; have hfu60_2 := blk_frozen BK192.out 2; have hcu60_3 : wc.cell? ⟨gb192, 3, none⟩ = some (.int .i64 t191) := (blk_cell BK192.out 3).trans rfl; have hfu60_3 := blk_frozen BK192.out 3)); have hnb61 := NB192_187.out; have hnc61 := NB187_192.out; have hcz62_0 : wc.cell? ⟨gb192, 0, none⟩ = some (.bool t188) := (blk_cell BK192.out 0).trans rfl; have hcz62_1 : wc.cell? ⟨gb192, 1, none⟩ = some (.string t189) := (blk_cell BK192.out 1).trans rfl; have hcz62_2 : wc.cell? ⟨gb192, 2, none⟩ = some (.string t190) := (blk_cell BK192.out 2).trans rfl; have hcz62_3 : wc.cell? ⟨gb192, 3, none⟩ = some (.int .i64 t191) := (blk_cell BK192.out 3).trans rfl; have hfz62_0 := blk_frozen BK192.out 0; have hfz62_1 := blk_frozen BK192.out 1; have hfz62_2 := blk_frozen BK192.out 2; have hfz62_3 := blk_frozen BK192.out 3; have hcz63_0 : wc.cell? ⟨gb187, 0, none⟩ = some (.bool false) := (blk_cell BK187.out 0).trans rfl; have hcz63_1 : wc.cell? ⟨gb187, 1, none⟩ = some (.string (⟨#[]⟩ : ByteArray)) := (blk_cell BK187.out 1).trans rfl; have hcz63_2 : wc.cell? ⟨gb187, 2, none⟩ = some (.string (⟨#[]⟩ : ByteArray)) := (blk_cell BK187.out 2).trans rfl; have hcz63_3 : wc.cell? ⟨gb187, 3, none⟩ = some (.int .i64 0) := (blk_cell BK187.out 3).trans rfl; have hfz63_0 := blk_frozen BK187.out 0; have hfz63_1 := blk_frozen BK187.out 1; have hfz63_2 := blk_frozen BK187.out 2; have hfz63_3 := blk_frozen BK187.out 3))
          refine bodyPost_ret (results_ct rfl _ _ gb187 25 #[.bool t188, .string t189, .string t190, .int .i64 t191] (0, 0) _ rfl qnmo13_ Tryd.underlying25 rfl (by kernel_rfl)) rfl ?_
          exact ⟨qnmo10_, qnmo12_⟩
     ·
      rw [if_neg c22] at H
      exact absurd H (by simp)
    ·
     rw [if_neg c21] at H
     exact absurd H (by simp)


/-! ### millref3_signed: function 41 -/
def millref3_signed.j0 : Nat → ByteArray → Int → Bool → Bool → Option (Bool × ByteArray × Int × Int × Int)
 | 0, _, _, _, _ => none
 | k + 1, x0, x4, x5, x20 => if x20 = true then ((millref3_Plain.f k x0 (wrap64 (x4 + 1))).bind fun bt199 => (if bt199.2.2 < 0 then (some (false, (⟨#[]⟩ : ByteArray), 0, 0, 0)) else (some (true, bt199.1, bt199.2.1, 0, bt199.2.2)))) else ((millref3_Plain.f k x0 x4).bind fun bt202 => (if bt202.2.2 < 0 then (some (false, (⟨#[]⟩ : ByteArray), 0, 0, 0)) else (some (x5, bt202.1, bt202.2.1, 0, bt202.2.2))))
def millref3_signed.f (k : Nat) (a0 : ByteArray) : Option (Bool × ByteArray × Int × Int × Int) := (millref3_start.f k a0).bind fun t198 => (if t198 < (a0.size : Int) then (if 0 ≤ t198 then (millref3_signed.j0 k a0 t198 false ((bt a0 t198) == 45)) else (none)) else (millref3_signed.j0 k a0 t198 false false))

/-! ### millref3_zeros: function 42 -/
def millref3_zeros.l0 : Nat → ByteArray → Int → Option (Int)
 | 0, _, _ => none
 | k + 1, x0, x3 => if x3 < (x0.size : Int) then (if 0 ≤ x3 then (if (bt x0 x3) = 48 then (millref3_zeros.l0 k x0 (wrap64 (x3 + 1))) else (some x3)) else (none)) else (some x3)
def millref3_zeros.f (k : Nat) (a0 : ByteArray) : Option (Int) := millref3_zeros.l0 k a0 0

/-! ### millref3_trimmed: function 43 -/
def millref3_trimmed.l0 : Nat → ByteArray → Int → Option (ByteArray)
 | 0, _, _ => none
 | k + 1, x0, x3 => if x3 > 0 then (if 0 ≤ (wrap64 (x3 - 1)) then (if (wrap64 (x3 - 1)) < (x0.size : Int) then (if (bt x0 (wrap64 (x3 - 1))) = 48 then (millref3_trimmed.l0 k x0 (wrap64 (x3 - 1))) else (if 0 ≤ x3 then (if x3 ≤ (x0.size : Int) then (some (x0.extract 0 (x3 : Int).toNat)) else (none)) else (none))) else (none)) else (none)) else (if 0 ≤ x3 then (if x3 ≤ (x0.size : Int) then (some (x0.extract 0 (x3 : Int).toNat)) else (none)) else (none))
def millref3_trimmed.f (k : Nat) (a0 : ByteArray) : Option (ByteArray) := millref3_trimmed.l0 k a0 (a0.size : Int)

/-! ### millref3_Decimal: function 22 -/
def millref3_Decimal.f (k : Nat) (a0 : ByteArray) : Option (Bool × ByteArray × ByteArray × Int) := (millref3_signed.f k a0).bind fun bt206 => (if bt206.2.2.2.2 = 0 then (some (false, (⟨#[]⟩ : ByteArray), (⟨#[]⟩ : ByteArray), 0)) else (if 0 ≤ bt206.2.2.1 then (if bt206.2.2.1 ≤ (bt206.2.1.size : Int) then ((millref3_zeros.f k (bt206.2.1.extract 0 (bt206.2.2.1 : Int).toNat)).bind fun t212 => (if 0 ≤ t212 then (if t212 ≤ ((bt206.2.2.1.toNat : Nat) : Int) then ((millref3_trimmed.f k (bt206.2.1.extract (bt206.2.2.1 : Int).toNat bt206.2.1.size)).bind fun t213 => (if bt206.1 = true then (if (bt206.2.2.1.toNat - t212.toNat) + t213.size ≤ 9223372036854775807 then (some ((!((((bt206.2.1.extract 0 (bt206.2.2.1 : Int).toNat).extract (t212 : Int).toNat bt206.2.2.1.toNat) ++ t213).toList).isEmpty), (bt206.2.1.extract 0 (bt206.2.2.1 : Int).toNat).extract (t212 : Int).toNat bt206.2.2.1.toNat, t213, bt206.2.2.2.2)) else (none)) else (some (false, (bt206.2.1.extract 0 (bt206.2.2.1 : Int).toNat).extract (t212 : Int).toNat bt206.2.2.1.toNat, t213, bt206.2.2.2.2)))) else (none)) else (none))) else (none)) else (none)))
def millref3_Decimal.T5 : Bool × List (List Nat × List Nat) := (true, [([], []), ([], []), ([1], [1]), ([0, 2], [0, 2]), ([], []), ([4], [4]), ([], []), ([6], [6]), ([5, 7], [5, 7]), ([8, 2], [8]), ([], []), ([3, 9, 10], [3, 9, 10]), ([], []), ([12, 11, 9, 0, 1, 2, 3, 4, 5, 6, 7, 8, 9, 10, 11, 12], [11, 12])])
def millref3_Decimal.B5 : List Nat := [0, 0, 2, 7, 0, 16, 0, 64, 240, 502, 0, 2047, 0, 8191]

/-! ### millref3_letter: function 40 -/
def millref3_letter.l0 : Nat → Int → Int → Option (Int)
 | 0, _, _ => none
 | k + 1, x0, x3 => if x3 < 10 then (if 0 ≤ x3 then (if (bt (⟨#[75, 77, 71, 84, 80, 69, 90, 89, 82, 81]⟩ : ByteArray) x3) = x0 then (some (wrap64 (x3 + 1))) else (millref3_letter.l0 k x0 (wrap64 (x3 + 1)))) else (none)) else (some 0)
def millref3_letter.f (k : Nat) (a0 : Int) : Option (Int) := if a0 = 107 then (some 1) else (millref3_letter.l0 k a0 0)

/-! ### millref3_Human: function 21 -/
mutual
def millref3_Human.j0 : Nat → ByteArray → Int → Bool → Bool → ByteArray → ByteArray → Int → Option (Bool × ByteArray × ByteArray × Int × Int)
 | 0, _, _, _, _, _, _, _ => none
 | k + 1, x0, x5, x17, x221000, x221001, x221002, x221003 => if x17 = true then (if 0 ≤ x221003 then (if x221003 < (x0.size : Int) then ((millref3_letter.f k (bt x0 x221003)).bind fun t221 => (millref3_Human.j1 k t221 x221000 x221001 x221002 x221003)) else (none)) else (none)) else (millref3_Human.j1 k x5 x221000 x221001 x221002 x221003)
def millref3_Human.j1 : Nat → Int → Bool → ByteArray → ByteArray → Int → Option (Bool × ByteArray × ByteArray × Int × Int)
 | 0, _, _, _, _, _ => none
 | k + 1, x5, x221000, x221001, x221002, x221003 => if x5 > 0 then (if x221001.size + x221002.size ≤ 9223372036854775807 then (if (x221001 ++ x221002).toList = ([] : List UInt8) then (some (x221000, x221001, x221002, wrap64 (x221003 + 1), 0)) else (some (x221000, x221001, x221002, wrap64 (x221003 + 1), x5))) else (none)) else (if x221001.size + x221002.size ≤ 9223372036854775807 then (if (x221001 ++ x221002).toList = ([] : List UInt8) then (some (x221000, x221001, x221002, x221003, 0)) else (some (x221000, x221001, x221002, x221003, x5))) else (none))
end
def millref3_Human.f (k : Nat) (a0 : ByteArray) : Option (Bool × ByteArray × ByteArray × Int × Int) := (millref3_Decimal.f k a0).bind fun bt216 => (if bt216.2.2.2 > 0 then (millref3_Human.j0 k a0 0 (decide (bt216.2.2.2 < (a0.size : Int))) bt216.1 bt216.2.1 bt216.2.2.1 bt216.2.2.2) else (millref3_Human.j0 k a0 0 false bt216.1 bt216.2.1 bt216.2.2.1 bt216.2.2.2))
end Go.Proofs.YtcdajedmlfhmeaaDoor.XN

section
/- Decimal and Human: both sides compute the same. (by this session) -/
-- NEEDS strings_TrimLeft strings_TrimRight numeral_decimal numeral_signed numeral_Decimal strings_IndexByte numeral_Human millref3_zeros millref3_trimmed millref3_signed millref3_Decimal millref3_letter millref3_Human
set_option linter.unusedVariables false
set_option linter.unusedSimpArgs false
namespace Go.Proofs.YtcdajedmlfhmeaaDoor.XN
open Go.RowKit Go.Proofs.YtcdajedmlfhmeaaDoorW.PrintWords Go.Proofs.YtcdajedmlfhmeaaDoorW.PrintMore

def tl (l : List UInt8) : List UInt8 := l.dropWhile is0
def tr (l : List UInt8) : List UInt8 := (l.reverse.dropWhile is0).reverse
def negAt : List UInt8 → Bool
  | [] => false
  | c :: _ => decide ((c.toNat : Int) = 45)
/-- The place behind the blanks and the sign. -/
def sgN (l : List UInt8) : Nat := blkN l + if negAt (l.drop (blkN l)) = true then 1 else 0
def sgNeg (l : List UInt8) : Bool := negAt (l.drop (blkN l))
def sgS (l : List UInt8) : Bool × ByteArray × ByteArray × Int :=
  if noneAt (l.drop (sgN l)) = true then (false, mkB [], mkB [], 0) else (sgNeg l, mkB (plS (l.drop (sgN l))).1, mkB (plS (l.drop (sgN l))).2.1, ((sgN l + (plS (l.drop (sgN l))).2.2 : Nat) : Int))
/-- P3.1's number: is it below 0, the whole digits, the digits behind the point, the place behind. -/
def decS (l : List UInt8) : Bool × List UInt8 × List UInt8 × Nat :=
  if noneAt (l.drop (sgN l)) = true then (false, [], [], 0) else
    (sgNeg l && !((tl (plS (l.drop (sgN l))).1).isEmpty && (tr (plS (l.drop (sgN l))).2.1).isEmpty), tl (plS (l.drop (sgN l))).1, tr (plS (l.drop (sgN l))).2.1, sgN l + (plS (l.drop (sgN l))).2.2)
def decV (l : List UInt8) : Bool × ByteArray × ByteArray × Int := ((decS l).1, mkB (decS l).2.1, mkB (decS l).2.2.1, ((decS l).2.2.2 : Int))
end Go.Proofs.YtcdajedmlfhmeaaDoor.XN
end

namespace Go.Proofs.YtcdajedmlfhmeaaDoor.XN
open Go.RowKit Go.Proofs.YtcdajedmlfhmeaaDoorW.PrintWords Go.Proofs.YtcdajedmlfhmeaaDoorW.PrintLast Go.Proofs.YtcdajedmlfhmeaaDoorW.PrintMore
attribute [local go_sem] max2_int min2_int max_two min_two max_three min_three max_four min_four
set_option linter.unusedVariables false
set_option linter.unusedSimpArgs false

/-! ### numeral_begins: function 35 -/
def numeral_begins.l0 : Nat → ByteArray → Int → ByteArray → Int → Int → Option (Bool)
 | 0, _, _, _, _, _ => none
 | k + 1, x0, x1, x2, x16, x17 => if x17 < x16 then (if 0 ≤ (wrap64 (x1 + x17)) then (if (wrap64 (x1 + x17)) < (x0.size : Int) then (if 0 ≤ x17 then (if x17 < (x2.size : Int) then (if (Go.bits .or .u8 (bt x0 (wrap64 (x1 + x17))) 32) = (bt x2 x17) then (if (bt x0 (wrap64 (x1 + x17))) < 65 then (some false) else (numeral_begins.l0 k x0 x1 x2 x16 (wrap64 (x17 + 1)))) else (some false)) else (none)) else (none)) else (none)) else (none)) else (some true)
def numeral_begins.f (k : Nat) (a0 : ByteArray) (a1 : Int) (a2 : ByteArray) : Option (Bool) := if (wrap64 ((a0.size : Int) - a1)) < (a2.size : Int) then (some false) else (numeral_begins.l0 k a0 a1 a2 (a2.size : Int) 0)
set_option maxHeartbeats 8000000 in
set_option maxRecDepth 100000 in
theorem numeral_begins.calls (k : Nat) (a0 : ByteArray) (a1 : Int) (a2 : ByteArray) (r : Bool) (w : World) (h : numeral_begins.f k a0 a1 a2 = some r) :
  Calls Tryd.prog 35 #[.string a0, .int .i64 a1, .string a2] w fun e w' => e = .returned (.bool r) ∧ Drawn0 w w' := by
 have H : (if (wrap64 ((a0.size : Int) - a1)) < (a2.size : Int) then (some false) else (numeral_begins.l0 k a0 a1 a2 (a2.size : Int) 0)) = some r := h
 clear h
 by_cases c4 : (wrap64 ((a0.size : Int) - a1)) < (a2.size : Int)
 ·
  rw [if_pos c4] at H
  have c4b0 : decide ((wrap64 ((a0.size : Int) - a1)) < (a2.size : Int)) = true := decide_eq_true c4
  clear c4
  obtain rfl := Option.some.inj H
  go_enter Tryd.func35, Tryd.ntmps35
  go_wp2
  repeat (go_quiet (fail); try go_wp2)
  go_ret
  exact ⟨qnmo2_, qnmo11_⟩
 ·
  rw [if_neg c4] at H
  have c4b0 : decide ((wrap64 ((a0.size : Int) - a1)) < (a2.size : Int)) = false := decide_eq_false c4
  clear c4
  have H' := Aside0.mk H
  clear H
  go_enter Tryd.func35, Tryd.ntmps35
  go_wp2
  repeat (go_quiet (fail); try go_wp2)
  go_loopg [17] k (fun kq v17 w' => ∃ (x17_1 : Int), v17 = .int .i64 x17_1 ∧ Aside0 (numeral_begins.l0 kq a0 a1 a2 (a2.size : Int) x17_1 = some r) ∧ Aside0 (kq ≤ k) ∧ Drawn0 w w')
  case atStart => exact ⟨(0), qnmo2_, H', ⟨Nat.le_refl _⟩, qnmo11_⟩
  case round =>
   clear H'
   (try clear p2); (try clear c3); (try clear c4); (try clear c4b0)
   obtain ⟨x17_1, rfl, HA, HK1, ⟨m1, rfl⟩⟩ := hrel
   cases gk with
   | zero => exact absurd HA.out (by simp [numeral_begins.l0])
   | succ k1 =>
    have H := HA.out
    clear HA
    simp only [numeral_begins.l0] at H
    by_cases c5 : x17_1 < (a2.size : Int)
    ·
     rw [if_pos c5] at H
     have c5b0 : decide (x17_1 < (a2.size : Int)) = true := decide_eq_true c5
     clear c5
     obtain ⟨ji6, hji6⟩ : ∃ j_ : Int, (wrap64 (a1 + x17_1)) = j_ := ⟨_, rfl⟩
     replace H : (if 0 ≤ (ji6) then (if (ji6) < (a0.size : Int) then (if 0 ≤ x17_1 then (if x17_1 < (a2.size : Int) then (if (Go.bits .or .u8 (bt a0 (ji6)) 32) = (bt a2 x17_1) then (if (bt a0 (ji6)) < 65 then (some false) else (numeral_begins.l0 k1 a0 a1 a2 (a2.size : Int) (wrap64 (x17_1 + 1)))) else (some false)) else (none)) else (none)) else (none)) else (none)) = some r := by first | (rw [hji6] at H; exact H) | (simp only [hji6] at H ⊢; exact H)
     have hji6w : (IntKind.i64.wrap (a1 + x17_1)) = ji6 := (i64_w _).trans hji6
     by_cases c7 : 0 ≤ (ji6)
     ·
      rw [if_pos c7] at H
      have c7b0 : decide (0 ≤ (ji6)) = true := decide_eq_true c7
      clear c7
      by_cases c8 : (ji6) < (a0.size : Int)
      ·
       rw [if_pos c8] at H
       have c8b0 : decide ((ji6) < (a0.size : Int)) = true := decide_eq_true c8
       clear c8
       by_cases c10 : 0 ≤ x17_1
       ·
        rw [if_pos c10] at H
        have c10b0 : decide (0 ≤ x17_1) = true := decide_eq_true c10
        clear c10
        by_cases c11 : x17_1 < (a2.size : Int)
        ·
         rw [if_pos c11] at H
         have c11b0 : decide (x17_1 < (a2.size : Int)) = true := decide_eq_true c11
         clear c11
         by_cases c13 : (Go.bits .or .u8 (bt a0 (ji6)) 32) = (bt a2 x17_1)
         ·
          rw [if_pos c13] at H
          have c13b0 : ((Go.bits .or .u8 (bt a0 (ji6)) 32) == (bt a2 x17_1)) = true := beq_iff_eq.mpr c13
          have c13b1 : ((Go.bits .or .u8 (bt a0 (ji6)) 32) != (bt a2 x17_1)) = false := bne_eq_false_iff_eq.mpr c13
          clear c13
          by_cases c15 : (bt a0 (ji6)) < 65
          ·
           rw [if_pos c15] at H
           have c15b0 : decide ((bt a0 (ji6)) < 65) = true := decide_eq_true c15
           clear c15
           obtain rfl := Option.some.inj H
           have p9 : 0 ≤ ((ji6) : Int) := of_decide_eq_true qnmo5_
           have q9 : (ji6) < (a0.size : Int) := of_decide_eq_true qnmo5_
           have hx9 := bt_at a0 (ji6)
           replace p9 := eq_true p9
           replace q9 := eq_true q9
           have p12 : 0 ≤ (x17_1 : Int) := of_decide_eq_true qnmo5_
           have q12 : x17_1 < (a2.size : Int) := of_decide_eq_true qnmo5_
           have hx12 := bt_at a2 x17_1
           replace p12 := eq_true p12
           replace q12 := eq_true q12
           have p14 : 0 ≤ ((ji6) : Int) := of_decide_eq_true qnmo5_
           have q14 : (ji6) < (a0.size : Int) := of_decide_eq_true qnmo5_
           have hx14 := bt_at a0 (ji6)
           replace p14 := eq_true p14
           replace q14 := eq_true q14
           go_wp2
           repeat (go_quiet (fail); try go_wp2)
           go_ret
           exact ⟨by first | rfl | (simp; done) | (simp only [← hji6] <;> (first | rfl | simp); done) | (simp [*]; done) | (simp; simp only [eq_iff_iff, iff_true] at *; omega) | (exfalso; simp_all; done), qnmo11_⟩
          ·
           rw [if_neg c15] at H
           have c15b0 : decide ((bt a0 (ji6)) < 65) = false := decide_eq_false c15
           clear c15
           have H' := Aside0.mk H
           clear H
           have p9 : 0 ≤ ((ji6) : Int) := of_decide_eq_true qnmo5_
           have q9 : (ji6) < (a0.size : Int) := of_decide_eq_true qnmo5_
           have hx9 := bt_at a0 (ji6)
           replace p9 := eq_true p9
           replace q9 := eq_true q9
           have p12 : 0 ≤ (x17_1 : Int) := of_decide_eq_true qnmo5_
           have q12 : x17_1 < (a2.size : Int) := of_decide_eq_true qnmo5_
           have hx12 := bt_at a2 x17_1
           replace p12 := eq_true p12
           replace q12 := eq_true q12
           have p14 : 0 ≤ ((ji6) : Int) := of_decide_eq_true qnmo5_
           have q14 : (ji6) < (a0.size : Int) := of_decide_eq_true qnmo5_
           have hx14 := bt_at a0 (ji6)
           replace p14 := eq_true p14
           replace q14 := eq_true q14
           go_wp2
           repeat (go_quiet (fail); try go_wp2)
           go_roundg k1
           case measure => have := HK1.out; omega
           case rel => exact ⟨(wrap64 (x17_1 + 1)), qnmo2_, H', ⟨by have := HK1.out; omega⟩, qnmo11_⟩
         ·
          rw [if_neg c13] at H
          have c13b0 : ((Go.bits .or .u8 (bt a0 (ji6)) 32) == (bt a2 x17_1)) = false := beq_eq_false_iff_ne.mpr c13
          have c13b1 : ((Go.bits .or .u8 (bt a0 (ji6)) 32) != (bt a2 x17_1)) = true := bne_iff_ne.mpr c13
          obtain rfl := Option.some.inj H
          have p9 : 0 ≤ ((ji6) : Int) := of_decide_eq_true qnmo5_
          have q9 : (ji6) < (a0.size : Int) := of_decide_eq_true qnmo5_
          have hx9 := bt_at a0 (ji6)
          replace p9 := eq_true p9
          replace q9 := eq_true q9
          have p12 : 0 ≤ (x17_1 : Int) := of_decide_eq_true qnmo5_
          have q12 : x17_1 < (a2.size : Int) := of_decide_eq_true qnmo5_
          have hx12 := bt_at a2 x17_1
          replace p12 := eq_true p12
          replace q12 := eq_true q12
          go_wp2
          repeat (go_quiet (fail); try go_wp2)
          go_ret
          exact ⟨by first | rfl | (simp; done) | (simp only [← hji6] <;> (first | rfl | simp); done) | (simp [*]; done) | (simp; simp only [eq_iff_iff, iff_true] at *; omega) | (exfalso; simp_all; done), qnmo11_⟩
        ·
         rw [if_neg c11] at H
         exact absurd H (by simp)
       ·
        rw [if_neg c10] at H
        exact absurd H (by simp)
      ·
       rw [if_neg c8] at H
       exact absurd H (by simp)
     ·
      rw [if_neg c7] at H
      exact absurd H (by simp)
    ·
     rw [if_neg c5] at H
     have c5b0 : decide (x17_1 < (a2.size : Int)) = false := decide_eq_false c5
     clear c5
     obtain rfl := Option.some.inj H
     go_wp2
     repeat (go_quiet (fail); try go_wp2)
     go_ret
     exact ⟨qnmo2_, qnmo11_⟩


/-! ### numeral_Month: function 23 -/
def numeral_Month.l0 : Nat → ByteArray → Int → Int → Option (Int)
 | 0, _, _, _ => none
 | k + 1, x0, x3, x7 => if x7 < 12 then (if 0 ≤ x7 then ((numeral_begins.f k x0 x3 (rdOf ByteArray.empty G_months x7)).bind fun t224 => (if t224 = true then (some (wrap64 (x7 + 1))) else (numeral_Month.l0 k x0 x3 (wrap64 (x7 + 1))))) else (none)) else (some 0)
def numeral_Month.f (k : Nat) (a0 : ByteArray) : Option (Int) := (numeral_blanks.f k a0).bind fun t222 => (numeral_Month.l0 k a0 t222 0)
set_option maxHeartbeats 8000000 in
set_option maxRecDepth 100000 in
theorem numeral_Month.calls (k : Nat) (a0 : ByteArray) (r : Int) (w : World) (hGL : GOK w) (h : numeral_Month.f k a0 = some r) :
  Calls Tryd.prog 23 #[.string a0] w fun e w' => e = .returned (.int .i64 r) ∧ Drawn0 w w' := by
 have HRg0 := Aside0.mk hGL.g0
 have HGL := Aside0.mk hGL
 clear hGL
 have H : ((numeral_blanks.f k a0).bind fun t222 => (numeral_Month.l0 k a0 t222 0)) = some r := h
 clear h
 replace H := Option.bind_eq_some_iff.mp H
 obtain ⟨t222, A20, H⟩ := H
 replace H : (numeral_Month.l0 k a0 t222 0) = some r := H
 have A2 := Aside0.mk A20
 clear A20
 have H' := Aside0.mk H
 clear H
 go_enter Tryd.func23, Tryd.ntmps23
 go_wp2_with (first | ((with_reducible refine gate_callee (f := 34) rfl ?_); refine goesL_ (some 6) rfl rfl Tryd.func34 (by kernel_rfl) rfl #[.string a0] rfl qnmo0_ ?_; (with_reducible refine (numeral_blanks.calls k a0 t222 _ A2.out).mono ?_); rintro e w' ⟨rfl, ⟨nd, rfl⟩⟩; refine ⟨_, rfl, ?_⟩))
 go_loopg [7] k (fun kq v7 w' => ∃ (x7_1 : Int), v7 = .int .i64 x7_1 ∧ Aside0 (numeral_Month.l0 kq a0 t222 x7_1 = some r) ∧ Aside0 (kq ≤ k) ∧ Drawn0 w w')
 case atStart => exact ⟨(0), qnmo2_, H', ⟨Nat.le_refl _⟩, qnmo11_⟩
 case round =>
  clear H'
  (try clear c2); (try clear p2)
  obtain ⟨x7_1, rfl, HA, HK1, ⟨m1, rfl⟩⟩ := hrel
  cases gk with
  | zero => exact absurd HA.out (by simp [numeral_Month.l0])
  | succ k1 =>
   have H := HA.out
   clear HA
   simp only [numeral_Month.l0] at H
   by_cases c3 : x7_1 < 12
   ·
    rw [if_pos c3] at H
    have c3b0 : decide (x7_1 < 12) = true := decide_eq_true c3
    clear c3
    by_cases c4 : 0 ≤ x7_1
    ·
     rw [if_pos c4] at H
     have c4b0 : decide (0 ≤ x7_1) = true := decide_eq_true c4
     clear c4
     replace H := Option.bind_eq_some_iff.mp H
     obtain ⟨t224, A50, H⟩ := H
     replace H : (if t224 = true then (some (wrap64 (x7_1 + 1))) else (numeral_Month.l0 k1 a0 t222 (wrap64 (x7_1 + 1)))) = some r := H
     have A5 := Aside0.mk A50
     clear A50
     by_cases c6 : t224 = true
     ·
      subst c6
      have H1 : (some (wrap64 (x7_1 + 1))) = some r := by rw [if_pos rfl] at H; exact H
      clear H
      have H := H1
      clear H1
      obtain rfl := Option.some.inj H
      have p223 : 0 ≤ (x7_1 : Int) := of_decide_eq_true qnmo5_
      have q223 : x7_1 < (G_months.length : Int) := (show (x7_1 : Int) < 12 from of_decide_eq_true qnmo5_)
      have qg223 : ((x7_1 : Int) < 12) = True := eq_true q223
      obtain ⟨ad223, e223, hx223_0⟩ := Kd.at_string HRg0.out x7_1 p223 q223
      obtain rfl : (⟨0, 0, none⟩ : Addr) = ad223 := (by injection e223)
      (first | simp only [add_plain] at hx223_0 | simp only [add_at] at hx223_0 | simp only [Addr.add, Nat.zero_add] at hx223_0 | skip)
      replace p223 := eq_true p223
      replace q223 := eq_true q223
      go_wp2_with (first | ((with_reducible refine gate_callee (f := 35) rfl ?_); refine goesL_ (some 15) rfl rfl Tryd.func35 (by kernel_rfl) rfl #[.string a0, .int .i64 t222, .string (rdOf ByteArray.empty G_months x7_1)] rfl qnmo0_ ?_; (with_reducible refine (numeral_begins.calls k1 a0 t222 (rdOf ByteArray.empty G_months x7_1) true _ A5.out).mono ?_); rintro e w' ⟨rfl, ⟨nd, rfl⟩⟩; refine ⟨_, rfl, ?_⟩))
      go_ret
      exact ⟨qnmo2_, qnmo11_⟩
     ·
      replace c6 := Bool.eq_false_iff.mpr c6
      subst c6
      have H1 : (numeral_Month.l0 k1 a0 t222 (wrap64 (x7_1 + 1))) = some r := by rw [if_neg (show ¬ (false = true) by decide)] at H; exact H
      clear H
      have H := H1
      clear H1
      have H' := Aside0.mk H
      clear H
      have p223 : 0 ≤ (x7_1 : Int) := of_decide_eq_true qnmo5_
      have q223 : x7_1 < (G_months.length : Int) := (show (x7_1 : Int) < 12 from of_decide_eq_true qnmo5_)
      have qg223 : ((x7_1 : Int) < 12) = True := eq_true q223
      obtain ⟨ad223, e223, hx223_0⟩ := Kd.at_string HRg0.out x7_1 p223 q223
      obtain rfl : (⟨0, 0, none⟩ : Addr) = ad223 := (by injection e223)
      (first | simp only [add_plain] at hx223_0 | simp only [add_at] at hx223_0 | simp only [Addr.add, Nat.zero_add] at hx223_0 | skip)
      replace p223 := eq_true p223
      replace q223 := eq_true q223
      go_wp2_with (first | ((with_reducible refine gate_callee (f := 35) rfl ?_); refine goesL_ (some 15) rfl rfl Tryd.func35 (by kernel_rfl) rfl #[.string a0, .int .i64 t222, .string (rdOf ByteArray.empty G_months x7_1)] rfl qnmo0_ ?_; (with_reducible refine (numeral_begins.calls k1 a0 t222 (rdOf ByteArray.empty G_months x7_1) false _ A5.out).mono ?_); rintro e w' ⟨rfl, ⟨nd, rfl⟩⟩; refine ⟨_, rfl, ?_⟩))
      go_roundg k1
      case measure => have := HK1.out; omega
      case rel => exact ⟨(wrap64 (x7_1 + 1)), qnmo2_, H', ⟨by have := HK1.out; omega⟩, qnmo11_⟩
    ·
     rw [if_neg c4] at H
     exact absurd H (by simp)
   ·
    rw [if_neg c3] at H
    have c3b0 : decide (x7_1 < 12) = false := decide_eq_false c3
    clear c3
    obtain rfl := Option.some.inj H
    go_wp2
    go_ret
    exact ⟨qnmo2_, qnmo11_⟩


/-! ### millref3_low: function 70 -/
def millref3_low.f (a0 : Int) : Option (Int) := if a0 ≥ 65 then (if a0 ≤ 90 then (some ((a0 + 32) % 256)) else (some a0)) else (some a0)

/-! ### millref3_at: function 45 -/
def millref3_at.l0 : Nat → ByteArray → Int → ByteArray → Int → Option (Bool)
 | 0, _, _, _, _ => none
 | k + 1, x0, x1, x2, x7 => if x7 < (x2.size : Int) then (if 0 ≤ (wrap64 (x1 + x7)) then (if (wrap64 (x1 + x7)) < (x0.size : Int) then ((millref3_low.f (bt x0 (wrap64 (x1 + x7)))).bind fun t225 => (if 0 ≤ x7 then (if t225 = (bt x2 x7) then (millref3_at.l0 k x0 x1 x2 (wrap64 (x7 + 1))) else (some false)) else (none))) else (none)) else (none)) else (some true)
def millref3_at.f (k : Nat) (a0 : ByteArray) (a1 : Int) (a2 : ByteArray) : Option (Bool) := if (wrap64 (a1 + (a2.size : Int))) > (a0.size : Int) then (some false) else (millref3_at.l0 k a0 a1 a2 0)

/-! ### millref3_Month: function 24 -/
def millref3_Month.l0 : Nat → ByteArray → Int → Int → Option (Int)
 | 0, _, _, _ => none
 | k + 1, x0, x3, x4 => if x4 < 12 then (if 0 ≤ (wrap64 (3 * x4)) then (if (wrap64 (3 * x4)) ≤ (wrap64 ((wrap64 (3 * x4)) + 3)) then (if (wrap64 ((wrap64 (3 * x4)) + 3)) ≤ 36 then ((millref3_at.f k x0 x3 ((⟨#[106, 97, 110, 102, 101, 98, 109, 97, 114, 97, 112, 114, 109, 97, 121, 106, 117, 110, 106, 117, 108, 97, 117, 103, 115, 101, 112, 111, 99, 116, 110, 111, 118, 100, 101, 99]⟩ : ByteArray).extract ((wrap64 (3 * x4)) : Int).toNat ((wrap64 ((wrap64 (3 * x4)) + 3)) : Int).toNat)).bind fun t227 => (if t227 = true then (some (wrap64 (x4 + 1))) else (millref3_Month.l0 k x0 x3 (wrap64 (x4 + 1))))) else (none)) else (none)) else (none)) else (some 0)
def millref3_Month.f (k : Nat) (a0 : ByteArray) : Option (Int) := (millref3_start.f k a0).bind fun t226 => (millref3_Month.l0 k a0 t226 0)
end Go.Proofs.YtcdajedmlfhmeaaDoor.XN
