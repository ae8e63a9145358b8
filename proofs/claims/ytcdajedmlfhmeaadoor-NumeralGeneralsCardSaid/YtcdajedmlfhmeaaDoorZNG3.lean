import Derived.Test.YtcdajedmlfhmeaaDoorZNG0
import Derived.Test.YtcdajedmlfhmeaaDoorZNG1
import Derived.Test.YtcdajedmlfhmeaaDoorZNG2
import Derived.Lib.Strings
import Derived.Lib.LazyBuf
import Derived.IntWalk
namespace Go.Proofs.YtcdajedmlfhmeaaDoor.XN
open Go.RowKit Go.Proofs.YtcdajedmlfhmeaaDoorW.PrintWords Go.Proofs.YtcdajedmlfhmeaaDoorW.PrintLast Go.Proofs.YtcdajedmlfhmeaaDoorW.PrintMore
attribute [local go_sem] max2_int min2_int max_two min_two max_three min_three max_four min_four
set_option linter.unusedVariables false
set_option linter.unusedSimpArgs false

/-! ### milllaw3_alive: function 25 -/
def milllaw3_alive.f (k : Nat)  : Option (Bool) := (numeral_Decimal.f k (⟨#[45, 49, 50, 46, 53, 120]⟩ : ByteArray)).bind fun bt330 => (if bt330.1 = true then (if bt330.2.1.toList = ([49, 50] : List UInt8) then (if bt330.2.2.1.toList = ([53] : List UInt8) then (if bt330.2.2.2 = 5 then ((numeral_Compare.f k 16 (⟨#[57]⟩ : ByteArray) (⟨#[49, 48]⟩ : ByteArray)).bind fun t335 => (if t335 = (-1) then ((numeral_Compare.f k 256 (⟨#[98]⟩ : ByteArray) (⟨#[97]⟩ : ByteArray)).bind fun t336 => (some (t336 == 1))) else (some false))) else (some false)) else (some false)) else (some false)) else (some false))
set_option maxHeartbeats 8000000 in
set_option maxRecDepth 100000 in
theorem milllaw3_alive.calls (k : Nat)  (r : Bool) (w : World) (hGL : GOK w) (h : milllaw3_alive.f k  = some r) :
  Calls Tryd.prog 25 #[] w fun e w' => e = .returned (.bool r) ∧ Below w.heap.size w w' := by
 have hu25 := Tryd.underlying25
 have HGL := Aside0.mk hGL
 clear hGL
 have HB := Aside0.mk (Below.refl w.heap.size w)
 have H : ((numeral_Decimal.f k (⟨#[45, 49, 50, 46, 53, 120]⟩ : ByteArray)).bind fun bt330 => (if bt330.1 = true then (if bt330.2.1.toList = ([49, 50] : List UInt8) then (if bt330.2.2.1.toList = ([53] : List UInt8) then (if bt330.2.2.2 = 5 then ((numeral_Compare.f k 16 (⟨#[57]⟩ : ByteArray) (⟨#[49, 48]⟩ : ByteArray)).bind fun t335 => (if t335 = (-1) then ((numeral_Compare.f k 256 (⟨#[98]⟩ : ByteArray) (⟨#[97]⟩ : ByteArray)).bind fun t336 => (some (t336 == 1))) else (some false))) else (some false)) else (some false)) else (some false)) else (some false))) = some r := h
 clear h
 replace H := Option.bind_eq_some_iff.mp H
 obtain ⟨⟨t330, t331, t332, t333⟩, A10, H⟩ := H
 replace H : (if t330 = true then (if t331.toList = ([49, 50] : List UInt8) then (if t332.toList = ([53] : List UInt8) then (if t333 = 5 then ((numeral_Compare.f k 16 (⟨#[57]⟩ : ByteArray) (⟨#[49, 48]⟩ : ByteArray)).bind fun t335 => (if t335 = (-1) then ((numeral_Compare.f k 256 (⟨#[98]⟩ : ByteArray) (⟨#[97]⟩ : ByteArray)).bind fun t336 => (some (t336 == 1))) else (some false))) else (some false)) else (some false)) else (some false)) else (some false)) = some r := H
 have A1 := Aside0.mk A10
 clear A10
 by_cases c2 : t330 = true
 ·
  subst c2
  have H1 : (if t331.toList = ([49, 50] : List UInt8) then (if t332.toList = ([53] : List UInt8) then (if t333 = 5 then ((numeral_Compare.f k 16 (⟨#[57]⟩ : ByteArray) (⟨#[49, 48]⟩ : ByteArray)).bind fun t335 => (if t335 = (-1) then ((numeral_Compare.f k 256 (⟨#[98]⟩ : ByteArray) (⟨#[97]⟩ : ByteArray)).bind fun t336 => (some (t336 == 1))) else (some false))) else (some false)) else (some false)) else (some false)) = some r := by rw [if_pos rfl] at H; exact H
  clear H
  have H := H1
  clear H1
  by_cases c3 : t331.toList = ([49, 50] : List UInt8)
  ·
   rw [if_pos c3] at H
   have c3b0 : (t331.toList == ([49, 50] : List UInt8)) = true := beq_iff_eq.mpr c3
   have c3b1 : (t331.toList != ([49, 50] : List UInt8)) = false := bne_eq_false_iff_eq.mpr c3
   clear c3
   by_cases c4 : t332.toList = ([53] : List UInt8)
   ·
    rw [if_pos c4] at H
    have c4b0 : (t332.toList == ([53] : List UInt8)) = true := beq_iff_eq.mpr c4
    have c4b1 : (t332.toList != ([53] : List UInt8)) = false := bne_eq_false_iff_eq.mpr c4
    clear c4
    by_cases c5 : t333 = 5
    ·
     rw [if_pos c5] at H
     have c5b0 : (t333 == 5) = true := beq_iff_eq.mpr c5
     have c5b1 : (t333 != 5) = false := bne_eq_false_iff_eq.mpr c5
     clear c5
     replace H := Option.bind_eq_some_iff.mp H
     obtain ⟨t335, A60, H⟩ := H
     replace H : (if t335 = (-1) then ((numeral_Compare.f k 256 (⟨#[98]⟩ : ByteArray) (⟨#[97]⟩ : ByteArray)).bind fun t336 => (some (t336 == 1))) else (some false)) = some r := H
     have A6 := Aside0.mk A60
     clear A60
     by_cases c7 : t335 = (-1)
     ·
      rw [if_pos c7] at H
      have c7b0 : (t335 == (-1)) = true := beq_iff_eq.mpr c7
      have c7b1 : (t335 != (-1)) = false := bne_eq_false_iff_eq.mpr c7
      clear c7
      replace H := Option.bind_eq_some_iff.mp H
      obtain ⟨t336, A80, H⟩ := H
      replace H : (some (t336 == 1)) = some r := H
      have A8 := Aside0.mk A80
      clear A80
      obtain rfl := Option.some.inj H
      go_enter Tryd.func25, Tryd.ntmps25
      have tk14 : True := trivial; have tk15 : True := trivial; have tk16 : True := trivial; have tk17 : True := trivial
      go_wp2_with (first | (have ztk14 := tk14; clear tk14 ztk14; (with_reducible refine gate_callee (f := 16) rfl ?_); refine goesL_ (some 2) rfl rfl Tryd.func16 (by kernel_rfl) rfl #[.string (⟨#[45, 49, 50, 46, 53, 120]⟩ : ByteArray)] rfl qng0_ ?_; (with_reducible refine (numeral_Decimal.calls k (⟨#[45, 49, 50, 46, 53, 120]⟩ : ByteArray) true t331 t332 t333 _ A1.out).mono ?_); rintro e w9 ⟨rfl, hb⟩; refine ⟨_, rfl, ?_⟩; have n0_ := Aside0.mk (below_step qng1_ hb); clear HB; have HB := n0_; clear n0_; (try clear hb); (try clear hb2); (try clear hk); (try clear hi)) | (have ztk15 := tk15; clear tk15 ztk15; (with_reducible refine gate_dst (N := 1) rfl ?_); refine box_event ?hg (N := 1) ?hd (cs := #[.bool false, .string (⟨#[]⟩ : ByteArray), .string (⟨#[]⟩ : ByteArray), .int .i64 0]) (t := 25) ?hr ?_; (case hd => rfl); (case hg => rfl); (case hr => first | (go_simp; done) | (go_simp; rfl)); intro gb334 hg w10 hbox hb; have n0_ := Aside0.mk (below_step qng1_ hb); have n1_ := Aside0.mk (hbox); have n2_ := Aside0.mk ((by rw [hg]; exact (below_size qng1_) : w.heap.size ≤ gb334)); have n3_ := Aside0.mk ((by rw [hg]; exact (below_size qng1_) : w.heap.size ≤ gb334)); clear HB; have HB := n0_; have BK334 := n1_; have GW334 := n2_; have GE334 := n3_; clear n0_ n1_ n2_ n3_; clear hb hbox hg; have hcz11_0 : w10.cell? ⟨gb334, 0, none⟩ = some (.bool false) := (blk_cell BK334.out 0).trans rfl; have hcz11_1 : w10.cell? ⟨gb334, 1, none⟩ = some (.string (⟨#[]⟩ : ByteArray)) := (blk_cell BK334.out 1).trans rfl; have hcz11_2 : w10.cell? ⟨gb334, 2, none⟩ = some (.string (⟨#[]⟩ : ByteArray)) := (blk_cell BK334.out 2).trans rfl; have hcz11_3 : w10.cell? ⟨gb334, 3, none⟩ = some (.int .i64 0) := (blk_cell BK334.out 3).trans rfl; have hfz11_0 := blk_frozen BK334.out 0; have hfz11_1 := blk_frozen BK334.out 1; have hfz11_2 := blk_frozen BK334.out 2; have hfz11_3 := blk_frozen BK334.out 3) | (have ztk16 := tk16; clear tk16 ztk16; go_at_call 27; (with_reducible refine (numeral_Compare.calls k 16 (⟨#[57]⟩ : ByteArray) (⟨#[49, 48]⟩ : ByteArray) t335 _ ?side1 A6.out).mono ?_); (case side1 => exact GOK.below HGL.out qng24_); rintro e w12 ⟨rfl, hb⟩; have n0_ := Aside0.mk (blk_below (g := gb334) (o := .cells #[.bool true, .string t331, .string t332, .int .i64 t333] 25 (0, 0)) (by (with_reducible repeat (first | refine blk_drewN ?_ _ | refine blk_drew ?_ | refine blk_alloc ?_ _)); refine blk_put (cs := #[.bool true, .string t331, .string t332, .int .i64 0]) ?_ 3 _ rfl; (with_reducible repeat (first | refine blk_drewN ?_ _ | refine blk_drew ?_ | refine blk_alloc ?_ _)); refine blk_put (cs := #[.bool true, .string t331, .string (⟨#[]⟩ : ByteArray), .int .i64 0]) ?_ 2 _ rfl; (with_reducible repeat (first | refine blk_drewN ?_ _ | refine blk_drew ?_ | refine blk_alloc ?_ _)); refine blk_put (cs := #[.bool true, .string (⟨#[]⟩ : ByteArray), .string (⟨#[]⟩ : ByteArray), .int .i64 0]) ?_ 1 _ rfl; (with_reducible repeat (first | refine blk_drewN ?_ _ | refine blk_drew ?_ | refine blk_alloc ?_ _)); refine blk_put (cs := #[.bool false, .string (⟨#[]⟩ : ByteArray), .string (⟨#[]⟩ : ByteArray), .int .i64 0]) ?_ 0 _ rfl; (with_reducible repeat (first | refine blk_drewN ?_ _ | refine blk_drew ?_ | refine blk_alloc ?_ _)); exact BK334.out) hb); have n1_ := Aside0.mk (below_step qng24_ hb); clear BK334; clear HB; have BK334 := n0_; have HB := n1_; clear n0_ n1_; (try clear hb); (try clear hb2); (try clear hk); (try clear hi)) | (have ztk17 := tk17; clear tk17 ztk17; go_at_call 27; (with_reducible refine (numeral_Compare.calls k 256 (⟨#[98]⟩ : ByteArray) (⟨#[97]⟩ : ByteArray) t336 _ ?side1 A8.out).mono ?_); (case side1 => exact GOK.below HGL.out qng24_); rintro e w13 ⟨rfl, hb⟩; have n0_ := Aside0.mk (blk_below (g := gb334) (o := .cells #[.bool true, .string t331, .string t332, .int .i64 t333] 25 (0, 0)) (by (with_reducible repeat (first | refine blk_drewN ?_ _ | refine blk_drew ?_ | refine blk_alloc ?_ _)); exact BK334.out) hb); have n1_ := Aside0.mk (below_step qng24_ hb); clear BK334; clear HB; have BK334 := n0_; have HB := n1_; clear n0_ n1_; (try clear hb); (try clear hb2); (try clear hk); (try clear hi)))
      go_ret
      exact ⟨qng6_, qng24_⟩
     ·
      rw [if_neg c7] at H
      have c7b0 : (t335 == (-1)) = false := beq_eq_false_iff_ne.mpr c7
      have c7b1 : (t335 != (-1)) = true := bne_iff_ne.mpr c7
      obtain rfl := Option.some.inj H
      go_enter Tryd.func25, Tryd.ntmps25
      have tk22 : True := trivial; have tk23 : True := trivial; have tk24 : True := trivial
      go_wp2_with (first | (have ztk22 := tk22; clear tk22 ztk22; (with_reducible refine gate_callee (f := 16) rfl ?_); refine goesL_ (some 2) rfl rfl Tryd.func16 (by kernel_rfl) rfl #[.string (⟨#[45, 49, 50, 46, 53, 120]⟩ : ByteArray)] rfl qng0_ ?_; (with_reducible refine (numeral_Decimal.calls k (⟨#[45, 49, 50, 46, 53, 120]⟩ : ByteArray) true t331 t332 t333 _ A1.out).mono ?_); rintro e w18 ⟨rfl, hb⟩; refine ⟨_, rfl, ?_⟩; have n0_ := Aside0.mk (below_step qng1_ hb); clear HB; have HB := n0_; clear n0_; (try clear hb); (try clear hb2); (try clear hk); (try clear hi)) | (have ztk23 := tk23; clear tk23 ztk23; (with_reducible refine gate_dst (N := 1) rfl ?_); refine box_event ?hg (N := 1) ?hd (cs := #[.bool false, .string (⟨#[]⟩ : ByteArray), .string (⟨#[]⟩ : ByteArray), .int .i64 0]) (t := 25) ?hr ?_; (case hd => rfl); (case hg => rfl); (case hr => first | (go_simp; done) | (go_simp; rfl)); intro gb334 hg w19 hbox hb; have n0_ := Aside0.mk (below_step qng1_ hb); have n1_ := Aside0.mk (hbox); have n2_ := Aside0.mk ((by rw [hg]; exact (below_size qng1_) : w.heap.size ≤ gb334)); have n3_ := Aside0.mk ((by rw [hg]; exact (below_size qng1_) : w.heap.size ≤ gb334)); clear HB; have HB := n0_; have BK334 := n1_; have GW334 := n2_; have GE334 := n3_; clear n0_ n1_ n2_ n3_; clear hb hbox hg; have hcz20_0 : w19.cell? ⟨gb334, 0, none⟩ = some (.bool false) := (blk_cell BK334.out 0).trans rfl; have hcz20_1 : w19.cell? ⟨gb334, 1, none⟩ = some (.string (⟨#[]⟩ : ByteArray)) := (blk_cell BK334.out 1).trans rfl; have hcz20_2 : w19.cell? ⟨gb334, 2, none⟩ = some (.string (⟨#[]⟩ : ByteArray)) := (blk_cell BK334.out 2).trans rfl; have hcz20_3 : w19.cell? ⟨gb334, 3, none⟩ = some (.int .i64 0) := (blk_cell BK334.out 3).trans rfl; have hfz20_0 := blk_frozen BK334.out 0; have hfz20_1 := blk_frozen BK334.out 1; have hfz20_2 := blk_frozen BK334.out 2; have hfz20_3 := blk_frozen BK334.out 3) | (have ztk24 := tk24; clear tk24 ztk24; go_at_call 27; (with_reducible refine (numeral_Compare.calls k 16 (⟨#[57]⟩ : ByteArray) (⟨#[49, 48]⟩ : ByteArray) t335 _ ?side1 A6.out).mono ?_); (case side1 => exact GOK.below HGL.out qng24_); rintro e w21 ⟨rfl, hb⟩; have n0_ := Aside0.mk (blk_below (g := gb334) (o := .cells #[.bool true, .string t331, .string t332, .int .i64 t333] 25 (0, 0)) (by (with_reducible repeat (first | refine blk_drewN ?_ _ | refine blk_drew ?_ | refine blk_alloc ?_ _)); refine blk_put (cs := #[.bool true, .string t331, .string t332, .int .i64 0]) ?_ 3 _ rfl; (with_reducible repeat (first | refine blk_drewN ?_ _ | refine blk_drew ?_ | refine blk_alloc ?_ _)); refine blk_put (cs := #[.bool true, .string t331, .string (⟨#[]⟩ : ByteArray), .int .i64 0]) ?_ 2 _ rfl; (with_reducible repeat (first | refine blk_drewN ?_ _ | refine blk_drew ?_ | refine blk_alloc ?_ _)); refine blk_put (cs := #[.bool true, .string (⟨#[]⟩ : ByteArray), .string (⟨#[]⟩ : ByteArray), .int .i64 0]) ?_ 1 _ rfl; (with_reducible repeat (first | refine blk_drewN ?_ _ | refine blk_drew ?_ | refine blk_alloc ?_ _)); refine blk_put (cs := #[.bool false, .string (⟨#[]⟩ : ByteArray), .string (⟨#[]⟩ : ByteArray), .int .i64 0]) ?_ 0 _ rfl; (with_reducible repeat (first | refine blk_drewN ?_ _ | refine blk_drew ?_ | refine blk_alloc ?_ _)); exact BK334.out) hb); have n1_ := Aside0.mk (below_step qng24_ hb); clear BK334; clear HB; have BK334 := n0_; have HB := n1_; clear n0_ n1_; (try clear hb); (try clear hb2); (try clear hk); (try clear hi)))
      go_ret
      exact ⟨qng6_, qng24_⟩
    ·
     rw [if_neg c5] at H
     have c5b0 : (t333 == 5) = false := beq_eq_false_iff_ne.mpr c5
     have c5b1 : (t333 != 5) = true := bne_iff_ne.mpr c5
     obtain rfl := Option.some.inj H
     go_enter Tryd.func25, Tryd.ntmps25
     have tk28 : True := trivial; have tk29 : True := trivial
     go_wp2_with (first | (have ztk28 := tk28; clear tk28 ztk28; (with_reducible refine gate_callee (f := 16) rfl ?_); refine goesL_ (some 2) rfl rfl Tryd.func16 (by kernel_rfl) rfl #[.string (⟨#[45, 49, 50, 46, 53, 120]⟩ : ByteArray)] rfl qng0_ ?_; (with_reducible refine (numeral_Decimal.calls k (⟨#[45, 49, 50, 46, 53, 120]⟩ : ByteArray) true t331 t332 t333 _ A1.out).mono ?_); rintro e w25 ⟨rfl, hb⟩; refine ⟨_, rfl, ?_⟩; have n0_ := Aside0.mk (below_step qng1_ hb); clear HB; have HB := n0_; clear n0_; (try clear hb); (try clear hb2); (try clear hk); (try clear hi)) | (have ztk29 := tk29; clear tk29 ztk29; (with_reducible refine gate_dst (N := 1) rfl ?_); refine box_event ?hg (N := 1) ?hd (cs := #[.bool false, .string (⟨#[]⟩ : ByteArray), .string (⟨#[]⟩ : ByteArray), .int .i64 0]) (t := 25) ?hr ?_; (case hd => rfl); (case hg => rfl); (case hr => first | (go_simp; done) | (go_simp; rfl)); intro gb334 hg w26 hbox hb; have n0_ := Aside0.mk (below_step qng1_ hb); have n1_ := Aside0.mk (hbox); have n2_ := Aside0.mk ((by rw [hg]; exact (below_size qng1_) : w.heap.size ≤ gb334)); have n3_ := Aside0.mk ((by rw [hg]; exact (below_size qng1_) : w.heap.size ≤ gb334)); clear HB; have HB := n0_; have BK334 := n1_; have GW334 := n2_; have GE334 := n3_; clear n0_ n1_ n2_ n3_; clear hb hbox hg; have hcz27_0 : w26.cell? ⟨gb334, 0, none⟩ = some (.bool false) := (blk_cell BK334.out 0).trans rfl; have hcz27_1 : w26.cell? ⟨gb334, 1, none⟩ = some (.string (⟨#[]⟩ : ByteArray)) := (blk_cell BK334.out 1).trans rfl; have hcz27_2 : w26.cell? ⟨gb334, 2, none⟩ = some (.string (⟨#[]⟩ : ByteArray)) := (blk_cell BK334.out 2).trans rfl; have hcz27_3 : w26.cell? ⟨gb334, 3, none⟩ = some (.int .i64 0) := (blk_cell BK334.out 3).trans rfl; have hfz27_0 := blk_frozen BK334.out 0; have hfz27_1 := blk_frozen BK334.out 1; have hfz27_2 := blk_frozen BK334.out 2; have hfz27_3 := blk_frozen BK334.out 3))
     go_ret
     exact ⟨qng6_, qng24_⟩
   ·
    rw [if_neg c4] at H
    have c4b0 : (t332.toList == ([53] : List UInt8)) = false := beq_eq_false_iff_ne.mpr c4
    have c4b1 : (t332.toList != ([53] : List UInt8)) = true := bne_iff_ne.mpr c4
    obtain rfl := Option.some.inj H
    go_enter Tryd.func25, Tryd.ntmps25
    have tk33 : True := trivial; have tk34 : True := trivial
    go_wp2_with (first | (have ztk33 := tk33; clear tk33 ztk33; (with_reducible refine gate_callee (f := 16) rfl ?_); refine goesL_ (some 2) rfl rfl Tryd.func16 (by kernel_rfl) rfl #[.string (⟨#[45, 49, 50, 46, 53, 120]⟩ : ByteArray)] rfl qng0_ ?_; (with_reducible refine (numeral_Decimal.calls k (⟨#[45, 49, 50, 46, 53, 120]⟩ : ByteArray) true t331 t332 t333 _ A1.out).mono ?_); rintro e w30 ⟨rfl, hb⟩; refine ⟨_, rfl, ?_⟩; have n0_ := Aside0.mk (below_step qng1_ hb); clear HB; have HB := n0_; clear n0_; (try clear hb); (try clear hb2); (try clear hk); (try clear hi)) | (have ztk34 := tk34; clear tk34 ztk34; (with_reducible refine gate_dst (N := 1) rfl ?_); refine box_event ?hg (N := 1) ?hd (cs := #[.bool false, .string (⟨#[]⟩ : ByteArray), .string (⟨#[]⟩ : ByteArray), .int .i64 0]) (t := 25) ?hr ?_; (case hd => rfl); (case hg => rfl); (case hr => first | (go_simp; done) | (go_simp; rfl)); intro gb334 hg w31 hbox hb; have n0_ := Aside0.mk (below_step qng1_ hb); have n1_ := Aside0.mk (hbox); have n2_ := Aside0.mk ((by rw [hg]; exact (below_size qng1_) : w.heap.size ≤ gb334)); have n3_ := Aside0.mk ((by rw [hg]; exact (below_size qng1_) : w.heap.size ≤ gb334)); clear HB; have HB := n0_; have BK334 := n1_; have GW334 := n2_; have GE334 := n3_; clear n0_ n1_ n2_ n3_; clear hb hbox hg; have hcz32_0 : w31.cell? ⟨gb334, 0, none⟩ = some (.bool false) := (blk_cell BK334.out 0).trans rfl; have hcz32_1 : w31.cell? ⟨gb334, 1, none⟩ = some (.string (⟨#[]⟩ : ByteArray)) := (blk_cell BK334.out 1).trans rfl; have hcz32_2 : w31.cell? ⟨gb334, 2, none⟩ = some (.string (⟨#[]⟩ : ByteArray)) := (blk_cell BK334.out 2).trans rfl; have hcz32_3 : w31.cell? ⟨gb334, 3, none⟩ = some (.int .i64 0) := (blk_cell BK334.out 3).trans rfl; have hfz32_0 := blk_frozen BK334.out 0; have hfz32_1 := blk_frozen BK334.out 1; have hfz32_2 := blk_frozen BK334.out 2; have hfz32_3 := blk_frozen BK334.out 3))
    go_ret
    exact ⟨qng6_, qng24_⟩
  ·
   rw [if_neg c3] at H
   have c3b0 : (t331.toList == ([49, 50] : List UInt8)) = false := beq_eq_false_iff_ne.mpr c3
   have c3b1 : (t331.toList != ([49, 50] : List UInt8)) = true := bne_iff_ne.mpr c3
   obtain rfl := Option.some.inj H
   go_enter Tryd.func25, Tryd.ntmps25
   have tk38 : True := trivial; have tk39 : True := trivial
   go_wp2_with (first | (have ztk38 := tk38; clear tk38 ztk38; (with_reducible refine gate_callee (f := 16) rfl ?_); refine goesL_ (some 2) rfl rfl Tryd.func16 (by kernel_rfl) rfl #[.string (⟨#[45, 49, 50, 46, 53, 120]⟩ : ByteArray)] rfl qng0_ ?_; (with_reducible refine (numeral_Decimal.calls k (⟨#[45, 49, 50, 46, 53, 120]⟩ : ByteArray) true t331 t332 t333 _ A1.out).mono ?_); rintro e w35 ⟨rfl, hb⟩; refine ⟨_, rfl, ?_⟩; have n0_ := Aside0.mk (below_step qng1_ hb); clear HB; have HB := n0_; clear n0_; (try clear hb); (try clear hb2); (try clear hk); (try clear hi)) | (have ztk39 := tk39; clear tk39 ztk39; (with_reducible refine gate_dst (N := 1) rfl ?_); refine box_event ?hg (N := 1) ?hd (cs := #[.bool false, .string (⟨#[]⟩ : ByteArray), .string (⟨#[]⟩ : ByteArray), .int .i64 0]) (t := 25) ?hr ?_; (case hd => rfl); (case hg => rfl); (case hr => first | (go_simp; done) | (go_simp; rfl)); intro gb334 hg w36 hbox hb; have n0_ := Aside0.mk (below_step qng1_ hb); have n1_ := Aside0.mk (hbox); have n2_ := Aside0.mk ((by rw [hg]; exact (below_size qng1_) : w.heap.size ≤ gb334)); have n3_ := Aside0.mk ((by rw [hg]; exact (below_size qng1_) : w.heap.size ≤ gb334)); clear HB; have HB := n0_; have BK334 := n1_; have GW334 := n2_; have GE334 := n3_; clear n0_ n1_ n2_ n3_; clear hb hbox hg; have hcz37_0 : w36.cell? ⟨gb334, 0, none⟩ = some (.bool false) := (blk_cell BK334.out 0).trans rfl; have hcz37_1 : w36.cell? ⟨gb334, 1, none⟩ = some (.string (⟨#[]⟩ : ByteArray)) := (blk_cell BK334.out 1).trans rfl; have hcz37_2 : w36.cell? ⟨gb334, 2, none⟩ = some (.string (⟨#[]⟩ : ByteArray)) := (blk_cell BK334.out 2).trans rfl; have hcz37_3 : w36.cell? ⟨gb334, 3, none⟩ = some (.int .i64 0) := (blk_cell BK334.out 3).trans rfl; have hfz37_0 := blk_frozen BK334.out 0; have hfz37_1 := blk_frozen BK334.out 1; have hfz37_2 := blk_frozen BK334.out 2; have hfz37_3 := blk_frozen BK334.out 3))
   go_ret
   exact ⟨qng6_, qng24_⟩
 ·
  replace c2 := Bool.eq_false_iff.mpr c2
  subst c2
  have H1 : (some false) = some r := by rw [if_neg (show ¬ (false = true) by decide)] at H; exact H
  clear H
  have H := H1
  clear H1
  obtain rfl := Option.some.inj H
  go_enter Tryd.func25, Tryd.ntmps25
  have tk43 : True := trivial; have tk44 : True := trivial
  go_wp2_with (first | (have ztk43 := tk43; clear tk43 ztk43; (with_reducible refine gate_callee (f := 16) rfl ?_); refine goesL_ (some 2) rfl rfl Tryd.func16 (by kernel_rfl) rfl #[.string (⟨#[45, 49, 50, 46, 53, 120]⟩ : ByteArray)] rfl qng0_ ?_; (with_reducible refine (numeral_Decimal.calls k (⟨#[45, 49, 50, 46, 53, 120]⟩ : ByteArray) false t331 t332 t333 _ A1.out).mono ?_); rintro e w40 ⟨rfl, hb⟩; refine ⟨_, rfl, ?_⟩; have n0_ := Aside0.mk (below_step qng1_ hb); clear HB; have HB := n0_; clear n0_; (try clear hb); (try clear hb2); (try clear hk); (try clear hi)) | (have ztk44 := tk44; clear tk44 ztk44; (with_reducible refine gate_dst (N := 1) rfl ?_); refine box_event ?hg (N := 1) ?hd (cs := #[.bool false, .string (⟨#[]⟩ : ByteArray), .string (⟨#[]⟩ : ByteArray), .int .i64 0]) (t := 25) ?hr ?_; (case hd => rfl); (case hg => rfl); (case hr => first | (go_simp; done) | (go_simp; rfl)); intro gb334 hg w41 hbox hb; have n0_ := Aside0.mk (below_step qng1_ hb); have n1_ := Aside0.mk (hbox); have n2_ := Aside0.mk ((by rw [hg]; exact (below_size qng1_) : w.heap.size ≤ gb334)); have n3_ := Aside0.mk ((by rw [hg]; exact (below_size qng1_) : w.heap.size ≤ gb334)); clear HB; have HB := n0_; have BK334 := n1_; have GW334 := n2_; have GE334 := n3_; clear n0_ n1_ n2_ n3_; clear hb hbox hg; have hcz42_0 : w41.cell? ⟨gb334, 0, none⟩ = some (.bool false) := (blk_cell BK334.out 0).trans rfl; have hcz42_1 : w41.cell? ⟨gb334, 1, none⟩ = some (.string (⟨#[]⟩ : ByteArray)) := (blk_cell BK334.out 1).trans rfl; have hcz42_2 : w41.cell? ⟨gb334, 2, none⟩ = some (.string (⟨#[]⟩ : ByteArray)) := (blk_cell BK334.out 2).trans rfl; have hcz42_3 : w41.cell? ⟨gb334, 3, none⟩ = some (.int .i64 0) := (blk_cell BK334.out 3).trans rfl; have hfz42_0 := blk_frozen BK334.out 0; have hfz42_1 := blk_frozen BK334.out 1; have hfz42_2 := blk_frozen BK334.out 2; have hfz42_3 := blk_frozen BK334.out 3))
  go_ret
  exact ⟨qng6_, qng24_⟩


/-! ### millref3_start: function 44 -/
def millref3_start.l0 : Nat → ByteArray → Int → Option (Int)
 | 0, _, _ => none
 | k + 1, x0, x3 => if x3 < (x0.size : Int) then (if 0 ≤ x3 then (if (bt x0 x3) = 32 then (millref3_start.l0 k x0 (wrap64 (x3 + 1))) else (if (bt x0 x3) = 9 then (millref3_start.l0 k x0 (wrap64 (x3 + 1))) else (some x3))) else (none)) else (some x3)
def millref3_start.f (k : Nat) (a0 : ByteArray) : Option (Int) := millref3_start.l0 k a0 0
set_option maxHeartbeats 8000000 in
set_option maxRecDepth 100000 in
theorem millref3_start.calls (k : Nat) (a0 : ByteArray) (r : Int) (w : World) (h : millref3_start.f k a0 = some r) :
  Calls Tryd.prog 44 #[.string a0] w fun e w' => e = .returned (.int .i64 r) ∧ Drawn0 w w' := by
 have H : (millref3_start.l0 k a0 0) = some r := h
 clear h
 have H' := Aside0.mk H
 clear H
 go_enter Tryd.func44, Tryd.ntmps44
 go_wp2
 go_loopg [3] k (fun kq v3 w' => ∃ (x3_1 : Int), v3 = .int .i64 x3_1 ∧ Aside0 (millref3_start.l0 kq a0 x3_1 = some r) ∧ Aside0 (kq ≤ k) ∧ Drawn0 w w')
 case atStart => exact ⟨(0), qng2_, H', ⟨Nat.le_refl _⟩, qng4_⟩
 case round =>
  clear H'
  obtain ⟨x3_1, rfl, HA, HK1, ⟨m1, rfl⟩⟩ := hrel
  cases gk with
  | zero => exact absurd HA.out (by simp [millref3_start.l0])
  | succ k1 =>
   have H := HA.out
   clear HA
   simp only [millref3_start.l0] at H
   by_cases c2 : x3_1 < (a0.size : Int)
   ·
    rw [if_pos c2] at H
    have c2b0 : decide (x3_1 < (a0.size : Int)) = true := decide_eq_true c2
    clear c2
    by_cases c3 : 0 ≤ x3_1
    ·
     rw [if_pos c3] at H
     have c3b0 : decide (0 ≤ x3_1) = true := decide_eq_true c3
     clear c3
     by_cases c5 : (bt a0 x3_1) = 32
     ·
      rw [if_pos c5] at H
      have c5b0 : ((bt a0 x3_1) == 32) = true := beq_iff_eq.mpr c5
      have c5b1 : ((bt a0 x3_1) != 32) = false := bne_eq_false_iff_eq.mpr c5
      clear c5
      have H' := Aside0.mk H
      clear H
      have p4 : 0 ≤ (x3_1 : Int) := of_decide_eq_true qng3_
      have q4 : x3_1 < (a0.size : Int) := of_decide_eq_true qng3_
      have hx4 := bt_at a0 x3_1
      replace p4 := eq_true p4
      replace q4 := eq_true q4
      go_wp2
      go_roundg k1
      case measure => have := HK1.out; omega
      case rel => exact ⟨(wrap64 (x3_1 + 1)), qng2_, H', ⟨by have := HK1.out; omega⟩, qng4_⟩
     ·
      rw [if_neg c5] at H
      have c5b0 : ((bt a0 x3_1) == 32) = false := beq_eq_false_iff_ne.mpr c5
      have c5b1 : ((bt a0 x3_1) != 32) = true := bne_iff_ne.mpr c5
      by_cases c7 : (bt a0 x3_1) = 9
      ·
       rw [if_pos c7] at H
       have c7b0 : ((bt a0 x3_1) == 9) = true := beq_iff_eq.mpr c7
       have c7b1 : ((bt a0 x3_1) != 9) = false := bne_eq_false_iff_eq.mpr c7
       clear c7
       have H' := Aside0.mk H
       clear H
       have p4 : 0 ≤ (x3_1 : Int) := of_decide_eq_true qng3_
       have q4 : x3_1 < (a0.size : Int) := of_decide_eq_true qng3_
       have hx4 := bt_at a0 x3_1
       replace p4 := eq_true p4
       replace q4 := eq_true q4
       have p6 : 0 ≤ (x3_1 : Int) := of_decide_eq_true qng3_
       have q6 : x3_1 < (a0.size : Int) := of_decide_eq_true qng3_
       have hx6 := bt_at a0 x3_1
       replace p6 := eq_true p6
       replace q6 := eq_true q6
       go_wp2
       go_roundg k1
       case measure => have := HK1.out; omega
       case rel => exact ⟨(wrap64 (x3_1 + 1)), qng2_, H', ⟨by have := HK1.out; omega⟩, qng4_⟩
      ·
       rw [if_neg c7] at H
       have c7b0 : ((bt a0 x3_1) == 9) = false := beq_eq_false_iff_ne.mpr c7
       have c7b1 : ((bt a0 x3_1) != 9) = true := bne_iff_ne.mpr c7
       obtain rfl := Option.some.inj H
       have p4 : 0 ≤ (x3_1 : Int) := of_decide_eq_true qng3_
       have q4 : x3_1 < (a0.size : Int) := of_decide_eq_true qng3_
       have hx4 := bt_at a0 x3_1
       replace p4 := eq_true p4
       replace q4 := eq_true q4
       have p6 : 0 ≤ (x3_1 : Int) := of_decide_eq_true qng3_
       have q6 : x3_1 < (a0.size : Int) := of_decide_eq_true qng3_
       have hx6 := bt_at a0 x3_1
       replace p6 := eq_true p6
       replace q6 := eq_true q6
       go_wp2
       go_ret
       exact ⟨qng2_, qng4_⟩
    ·
     rw [if_neg c3] at H
     exact absurd H (by simp)
   ·
    rw [if_neg c2] at H
    have c2b0 : decide (x3_1 < (a0.size : Int)) = false := decide_eq_false c2
    clear c2
    obtain rfl := Option.some.inj H
    go_wp2
    go_ret
    exact ⟨qng2_, qng4_⟩


/-! ### millref3_isDigit: function 96 -/
def millref3_isDigit.f (a0 : Int) : Option (Bool) := if a0 ≥ 48 then (some (decide (a0 ≤ 57))) else (some false)
set_option maxHeartbeats 8000000 in
set_option maxRecDepth 100000 in
theorem millref3_isDigit.calls (a0 : Int) (r : Bool) (w : World) (h : millref3_isDigit.f a0 = some r) :
  Calls Tryd.prog 96 #[.int .u8 a0] w fun e w' => e = .returned (.bool r) ∧ Drawn0 w w' := by
 have H : (if a0 ≥ 48 then (some (decide (a0 ≤ 57))) else (some false)) = some r := h
 clear h
 by_cases c2 : a0 ≥ 48
 ·
  rw [if_pos c2] at H
  have c2b0 : decide (48 ≤ a0) = true := decide_eq_true c2
  clear c2
  obtain rfl := Option.some.inj H
  go_enter Tryd.func96, Tryd.ntmps96
  go_wp2
  go_ret
  exact ⟨qng2_, qng4_⟩
 ·
  rw [if_neg c2] at H
  have c2b0 : decide (48 ≤ a0) = false := decide_eq_false c2
  clear c2
  obtain rfl := Option.some.inj H
  go_enter Tryd.func96, Tryd.ntmps96
  go_wp2
  go_ret
  exact ⟨qng2_, qng4_⟩


/-! ### millref3_run: function 71 -/
def millref3_run.l0 : Nat → ByteArray → Int → Option (Int)
 | 0, _, _ => none
 | k + 1, x0, x1 => if x1 < (x0.size : Int) then (if 0 ≤ x1 then ((millref3_isDigit.f (bt x0 x1)).bind fun t194 => (if t194 = true then (millref3_run.l0 k x0 (wrap64 (x1 + 1))) else (some x1))) else (none)) else (some x1)
def millref3_run.f (k : Nat) (a0 : ByteArray) (a1 : Int) : Option (Int) := millref3_run.l0 k a0 a1
set_option maxHeartbeats 8000000 in
set_option maxRecDepth 100000 in
theorem millref3_run.calls (k : Nat) (a0 : ByteArray) (a1 : Int) (r : Int) (w : World) (h : millref3_run.f k a0 a1 = some r) :
  Calls Tryd.prog 71 #[.string a0, .int .i64 a1] w fun e w' => e = .returned (.int .i64 r) ∧ Drawn0 w w' := by
 have H : (millref3_run.l0 k a0 a1) = some r := h
 clear h
 have H' := Aside0.mk H
 clear H
 go_enter Tryd.func71, Tryd.ntmps71
 go_wp2
 go_loopg [1] k (fun kq v1 w' => ∃ (x1_1 : Int), v1 = .int .i64 x1_1 ∧ Aside0 (millref3_run.l0 kq a0 x1_1 = some r) ∧ Aside0 (kq ≤ k) ∧ Drawn0 w w')
 case atStart => exact ⟨(a1), qng2_, H', ⟨Nat.le_refl _⟩, qng4_⟩
 case round =>
  clear H'
  (try clear p2)
  obtain ⟨x1_1, rfl, HA, HK1, ⟨m1, rfl⟩⟩ := hrel
  cases gk with
  | zero => exact absurd HA.out (by simp [millref3_run.l0])
  | succ k1 =>
   have H := HA.out
   clear HA
   simp only [millref3_run.l0] at H
   by_cases c3 : x1_1 < (a0.size : Int)
   ·
    rw [if_pos c3] at H
    have c3b0 : decide (x1_1 < (a0.size : Int)) = true := decide_eq_true c3
    clear c3
    by_cases c4 : 0 ≤ x1_1
    ·
     rw [if_pos c4] at H
     have c4b0 : decide (0 ≤ x1_1) = true := decide_eq_true c4
     clear c4
     replace H := Option.bind_eq_some_iff.mp H
     obtain ⟨t194, A60, H⟩ := H
     replace H : (if t194 = true then (millref3_run.l0 k1 a0 (wrap64 (x1_1 + 1))) else (some x1_1)) = some r := H
     have A6 := Aside0.mk A60
     clear A60
     by_cases c7 : t194 = true
     ·
      subst c7
      have H1 : (millref3_run.l0 k1 a0 (wrap64 (x1_1 + 1))) = some r := by rw [if_pos rfl] at H; exact H
      clear H
      have H := H1
      clear H1
      have H' := Aside0.mk H
      clear H
      have p5 : 0 ≤ (x1_1 : Int) := of_decide_eq_true qng3_
      have q5 : x1_1 < (a0.size : Int) := of_decide_eq_true qng3_
      have hx5 := bt_at a0 x1_1
      replace p5 := eq_true p5
      replace q5 := eq_true q5
      go_wp2_with (first | (go_at_call 96; (with_reducible refine (millref3_isDigit.calls (bt a0 x1_1) true _ A6.out).mono ?_); rintro e w' ⟨rfl, ⟨nd, rfl⟩⟩))
      go_roundg k1
      case measure => have := HK1.out; omega
      case rel => exact ⟨(wrap64 (x1_1 + 1)), qng2_, H', ⟨by have := HK1.out; omega⟩, qng4_⟩
     ·
      replace c7 := Bool.eq_false_iff.mpr c7
      subst c7
      have H1 : (some x1_1) = some r := by rw [if_neg (show ¬ (false = true) by decide)] at H; exact H
      clear H
      have H := H1
      clear H1
      obtain rfl := Option.some.inj H
      have p5 : 0 ≤ (x1_1 : Int) := of_decide_eq_true qng3_
      have q5 : x1_1 < (a0.size : Int) := of_decide_eq_true qng3_
      have hx5 := bt_at a0 x1_1
      replace p5 := eq_true p5
      replace q5 := eq_true q5
      go_wp2_with (first | (go_at_call 96; (with_reducible refine (millref3_isDigit.calls (bt a0 x1_1) false _ A6.out).mono ?_); rintro e w' ⟨rfl, ⟨nd, rfl⟩⟩))
      go_ret
      exact ⟨qng2_, qng4_⟩
    ·
     rw [if_neg c4] at H
     exact absurd H (by simp)
   ·
    rw [if_neg c3] at H
    have c3b0 : decide (x1_1 < (a0.size : Int)) = false := decide_eq_false c3
    clear c3
    obtain rfl := Option.some.inj H
    go_wp2
    go_ret
    exact ⟨qng2_, qng4_⟩


/-! ### millref3_Plain: function 46 -/
def millref3_Plain.f (k : Nat) (a0 : ByteArray) (a1 : Int) : Option (ByteArray × Int × Int) := (millref3_run.f k a0 a1).bind fun t195 => (if 0 ≤ a1 then (if a1 ≤ t195 then (if t195 ≤ (a0.size : Int) then (if t195 < (a0.size : Int) then (if 0 ≤ t195 then (if (bt a0 t195) = 46 then ((millref3_run.f k a0 (wrap64 (t195 + 1))).bind fun t196 => (if 0 ≤ (wrap64 (t195 + 1)) then (if (wrap64 (t195 + 1)) ≤ t196 then (if t196 ≤ (a0.size : Int) then (if (t195.toNat - a1.toNat) + (t196.toNat - ((wrap64 (t195 + 1)) : Int).toNat) ≤ 9223372036854775807 then (if ((a0.extract (a1 : Int).toNat (t195 : Int).toNat) ++ (a0.extract ((wrap64 (t195 + 1)) : Int).toNat (t196 : Int).toNat)).toList = ([] : List UInt8) then (some ((⟨#[]⟩ : ByteArray), 0, (-1))) else (some ((a0.extract (a1 : Int).toNat (t195 : Int).toNat) ++ (a0.extract ((wrap64 (t195 + 1)) : Int).toNat (t196 : Int).toNat), ((t195.toNat - a1.toNat : Nat) : Int), t196))) else (none)) else (none)) else (none)) else (none))) else (if (a0.extract (a1 : Int).toNat (t195 : Int).toNat).toList = ([] : List UInt8) then (some ((⟨#[]⟩ : ByteArray), 0, (-1))) else (some (a0.extract (a1 : Int).toNat (t195 : Int).toNat, ((t195.toNat - a1.toNat : Nat) : Int), t195)))) else (none)) else (if (a0.extract (a1 : Int).toNat (t195 : Int).toNat).toList = ([] : List UInt8) then (some ((⟨#[]⟩ : ByteArray), 0, (-1))) else (some (a0.extract (a1 : Int).toNat (t195 : Int).toNat, ((t195.toNat - a1.toNat : Nat) : Int), t195)))) else (none)) else (none)) else (none))
set_option maxHeartbeats 8000000 in
set_option maxRecDepth 100000 in
theorem millref3_Plain.calls (k : Nat) (a0 : ByteArray) (a1 : Int) (r1 : ByteArray) (r2 : Int) (r3 : Int) (w : World) (h : millref3_Plain.f k a0 a1 = some (r1, r2, r3)) :
  Calls Tryd.prog 46 #[.string a0, .int .i64 a1] w fun e w' => e = .returned (.tuple #[.string r1, .int .i64 r2, .int .i64 r3]) ∧ Drawn0 w w' := by
 have H : ((millref3_run.f k a0 a1).bind fun t195 => (if 0 ≤ a1 then (if a1 ≤ t195 then (if t195 ≤ (a0.size : Int) then (if t195 < (a0.size : Int) then (if 0 ≤ t195 then (if (bt a0 t195) = 46 then ((millref3_run.f k a0 (wrap64 (t195 + 1))).bind fun t196 => (if 0 ≤ (wrap64 (t195 + 1)) then (if (wrap64 (t195 + 1)) ≤ t196 then (if t196 ≤ (a0.size : Int) then (if (t195.toNat - a1.toNat) + (t196.toNat - ((wrap64 (t195 + 1)) : Int).toNat) ≤ 9223372036854775807 then (if ((a0.extract (a1 : Int).toNat (t195 : Int).toNat) ++ (a0.extract ((wrap64 (t195 + 1)) : Int).toNat (t196 : Int).toNat)).toList = ([] : List UInt8) then (some ((⟨#[]⟩ : ByteArray), 0, (-1))) else (some ((a0.extract (a1 : Int).toNat (t195 : Int).toNat) ++ (a0.extract ((wrap64 (t195 + 1)) : Int).toNat (t196 : Int).toNat), ((t195.toNat - a1.toNat : Nat) : Int), t196))) else (none)) else (none)) else (none)) else (none))) else (if (a0.extract (a1 : Int).toNat (t195 : Int).toNat).toList = ([] : List UInt8) then (some ((⟨#[]⟩ : ByteArray), 0, (-1))) else (some (a0.extract (a1 : Int).toNat (t195 : Int).toNat, ((t195.toNat - a1.toNat : Nat) : Int), t195)))) else (none)) else (if (a0.extract (a1 : Int).toNat (t195 : Int).toNat).toList = ([] : List UInt8) then (some ((⟨#[]⟩ : ByteArray), 0, (-1))) else (some (a0.extract (a1 : Int).toNat (t195 : Int).toNat, ((t195.toNat - a1.toNat : Nat) : Int), t195)))) else (none)) else (none)) else (none))) = some (r1, r2, r3) := h
 clear h
 replace H := Option.bind_eq_some_iff.mp H
 obtain ⟨t195, A30, H⟩ := H
 replace H : (if 0 ≤ a1 then (if a1 ≤ t195 then (if t195 ≤ (a0.size : Int) then (if t195 < (a0.size : Int) then (if 0 ≤ t195 then (if (bt a0 t195) = 46 then ((millref3_run.f k a0 (wrap64 (t195 + 1))).bind fun t196 => (if 0 ≤ (wrap64 (t195 + 1)) then (if (wrap64 (t195 + 1)) ≤ t196 then (if t196 ≤ (a0.size : Int) then (if (t195.toNat - a1.toNat) + (t196.toNat - ((wrap64 (t195 + 1)) : Int).toNat) ≤ 9223372036854775807 then (if ((a0.extract (a1 : Int).toNat (t195 : Int).toNat) ++ (a0.extract ((wrap64 (t195 + 1)) : Int).toNat (t196 : Int).toNat)).toList = ([] : List UInt8) then (some ((⟨#[]⟩ : ByteArray), 0, (-1))) else (some ((a0.extract (a1 : Int).toNat (t195 : Int).toNat) ++ (a0.extract ((wrap64 (t195 + 1)) : Int).toNat (t196 : Int).toNat), ((t195.toNat - a1.toNat : Nat) : Int), t196))) else (none)) else (none)) else (none)) else (none))) else (if (a0.extract (a1 : Int).toNat (t195 : Int).toNat).toList = ([] : List UInt8) then (some ((⟨#[]⟩ : ByteArray), 0, (-1))) else (some (a0.extract (a1 : Int).toNat (t195 : Int).toNat, ((t195.toNat - a1.toNat : Nat) : Int), t195)))) else (none)) else (if (a0.extract (a1 : Int).toNat (t195 : Int).toNat).toList = ([] : List UInt8) then (some ((⟨#[]⟩ : ByteArray), 0, (-1))) else (some (a0.extract (a1 : Int).toNat (t195 : Int).toNat, ((t195.toNat - a1.toNat : Nat) : Int), t195)))) else (none)) else (none)) else (none)) = some (r1, r2, r3) := H
 have A3 := Aside0.mk A30
 clear A30
 by_cases c4 : 0 ≤ a1
 ·
  rw [if_pos c4] at H
  have c4b0 := eq_true c4
  have c4b1 : decide (0 ≤ a1) = true := decide_eq_true c4
  clear c4
  by_cases c5 : a1 ≤ t195
  ·
   rw [if_pos c5] at H
   have c5b0 := eq_true c5
   have c5b1 : decide (a1 ≤ t195) = true := decide_eq_true c5
   clear c5
   by_cases c6 : t195 ≤ (a0.size : Int)
   ·
    rw [if_pos c6] at H
    have c6b0 := eq_true c6
    have c6b1 : decide (t195 ≤ (a0.size : Int)) = true := decide_eq_true c6
    clear c6
    by_cases c7 : t195 < (a0.size : Int)
    ·
     rw [if_pos c7] at H
     have c7b0 : decide (t195 < (a0.size : Int)) = true := decide_eq_true c7
     clear c7
     by_cases c8 : 0 ≤ t195
     ·
      rw [if_pos c8] at H
      have c8b0 : decide (0 ≤ t195) = true := decide_eq_true c8
      clear c8
      by_cases c10 : (bt a0 t195) = 46
      ·
       rw [if_pos c10] at H
       have c10b0 : ((bt a0 t195) == 46) = true := beq_iff_eq.mpr c10
       have c10b1 : ((bt a0 t195) != 46) = false := bne_eq_false_iff_eq.mpr c10
       clear c10
       replace H := Option.bind_eq_some_iff.mp H
       obtain ⟨t196, A110, H⟩ := H
       replace H : (if 0 ≤ (wrap64 (t195 + 1)) then (if (wrap64 (t195 + 1)) ≤ t196 then (if t196 ≤ (a0.size : Int) then (if (t195.toNat - a1.toNat) + (t196.toNat - ((wrap64 (t195 + 1)) : Int).toNat) ≤ 9223372036854775807 then (if ((a0.extract (a1 : Int).toNat (t195 : Int).toNat) ++ (a0.extract ((wrap64 (t195 + 1)) : Int).toNat (t196 : Int).toNat)).toList = ([] : List UInt8) then (some ((⟨#[]⟩ : ByteArray), 0, (-1))) else (some ((a0.extract (a1 : Int).toNat (t195 : Int).toNat) ++ (a0.extract ((wrap64 (t195 + 1)) : Int).toNat (t196 : Int).toNat), ((t195.toNat - a1.toNat : Nat) : Int), t196))) else (none)) else (none)) else (none)) else (none)) = some (r1, r2, r3) := H
       have A11 := Aside0.mk A110
       clear A110
       obtain ⟨ji12, hji12⟩ : ∃ j_ : Int, (wrap64 (t195 + 1)) = j_ := ⟨_, rfl⟩
       replace H : (if 0 ≤ (ji12) then (if (ji12) ≤ t196 then (if t196 ≤ (a0.size : Int) then (if (t195.toNat - a1.toNat) + (t196.toNat - ((ji12) : Int).toNat) ≤ 9223372036854775807 then (if ((a0.extract (a1 : Int).toNat (t195 : Int).toNat) ++ (a0.extract ((ji12) : Int).toNat (t196 : Int).toNat)).toList = ([] : List UInt8) then (some ((⟨#[]⟩ : ByteArray), 0, (-1))) else (some ((a0.extract (a1 : Int).toNat (t195 : Int).toNat) ++ (a0.extract ((ji12) : Int).toNat (t196 : Int).toNat), ((t195.toNat - a1.toNat : Nat) : Int), t196))) else (none)) else (none)) else (none)) else (none)) = some (r1, r2, r3) := by first | (rw [hji12] at H; exact H) | (simp only [hji12] at H ⊢; exact H)
       (try rw [hji12] at A3)
       (try rw [hji12] at A11)
       have hji12w : (IntKind.i64.wrap (t195 + 1)) = ji12 := (i64_w _).trans hji12
       by_cases c13 : 0 ≤ (ji12)
       ·
        rw [if_pos c13] at H
        have c13b0 := eq_true c13
        have c13b1 : decide (0 ≤ (ji12)) = true := decide_eq_true c13
        clear c13
        by_cases c14 : (ji12) ≤ t196
        ·
         rw [if_pos c14] at H
         have c14b0 := eq_true c14
         have c14b1 : decide ((ji12) ≤ t196) = true := decide_eq_true c14
         clear c14
         by_cases c15 : t196 ≤ (a0.size : Int)
         ·
          rw [if_pos c15] at H
          have c15b0 := eq_true c15
          have c15b1 : decide (t196 ≤ (a0.size : Int)) = true := decide_eq_true c15
          clear c15
          by_cases c16 : (t195.toNat - a1.toNat) + (t196.toNat - ((ji12) : Int).toNat) ≤ 9223372036854775807
          ·
           rw [if_pos c16] at H
           have c16b0 := eq_true c16
           have c16b1 : decide ((t195.toNat - a1.toNat) + (t196.toNat - ((ji12) : Int).toNat) ≤ 9223372036854775807) = true := decide_eq_true c16
           try have c16b2 : (9223372036854775807 < (t195.toNat - a1.toNat) + (t196.toNat - ((ji12) : Int).toNat)) = False := eq_false (Nat.not_lt.2 c16)
           by_cases c17 : ((a0.extract (a1 : Int).toNat (t195 : Int).toNat) ++ (a0.extract ((ji12) : Int).toNat (t196 : Int).toNat)).toList = ([] : List UInt8)
           ·
            rw [if_pos c17] at H
            have c17b0 : (((a0.extract (a1 : Int).toNat (t195 : Int).toNat) ++ (a0.extract ((ji12) : Int).toNat (t196 : Int).toNat)).toList == ([] : List UInt8)) = true := beq_iff_eq.mpr c17
            have c17b1 : (((a0.extract (a1 : Int).toNat (t195 : Int).toNat) ++ (a0.extract ((ji12) : Int).toNat (t196 : Int).toNat)).toList != ([] : List UInt8)) = false := bne_eq_false_iff_eq.mpr c17
            clear c17
            simp only [Option.some.injEq, Prod.mk.injEq] at H
            obtain ⟨rfl, rfl, rfl⟩ := H
            go_enter Tryd.func46, Tryd.ntmps46
            have tk18 : True := trivial; have tk19 : True := trivial
            go_wp2_with (first | (have ztk18 := tk18; clear tk18 ztk18; (with_reducible refine gate_callee (f := 71) rfl ?_); refine goesL_ (some 13) rfl rfl Tryd.func71 (by kernel_rfl) rfl #[.string a0, .int .i64 a1] rfl qng0_ ?_; (with_reducible refine (millref3_run.calls k a0 a1 t195 _ A3.out).mono ?_); rintro e w' ⟨rfl, ⟨nd, rfl⟩⟩; refine ⟨_, rfl, ?_⟩; have p9 : 0 ≤ (t195 : Int) := of_decide_eq_true qng3_; have q9 : t195 < (a0.size : Int) := of_decide_eq_true qng3_; have hx9 := bt_at a0 t195; replace p9 := eq_true p9; replace q9 := eq_true q9) | (have ztk19 := tk19; clear tk19 ztk19; (with_reducible refine gate_callee (f := 71) rfl ?_); refine goesL_ (some 33) rfl rfl Tryd.func71 (by kernel_rfl) rfl #[.string a0, .int .i64 ji12] rfl (by (try simp only [List.map_toArray, List.map_cons, List.map_nil]); first | done | (simp only [hji12]; rfl) | rfl | (simp only [List.length_drop, List.length_take]; rfl) | (simp; done) | (simp; omega)) ?_; (with_reducible refine (millref3_run.calls k a0 ji12 t196 _ A11.out).mono ?_); rintro e w' ⟨rfl, ⟨nd, rfl⟩⟩; refine ⟨_, rfl, ?_⟩))
            go_ret3
            exact ⟨by first | rfl | (simp; done) | (simp only [← hji12] <;> (first | rfl | simp); done) | (simp [*]; done) | (simp; simp only [eq_iff_iff, iff_true] at *; omega) | (exfalso; simp_all; done), qng4_⟩
           ·
            rw [if_neg c17] at H
            have c17b0 : (((a0.extract (a1 : Int).toNat (t195 : Int).toNat) ++ (a0.extract ((ji12) : Int).toNat (t196 : Int).toNat)).toList == ([] : List UInt8)) = false := beq_eq_false_iff_ne.mpr c17
            have c17b1 : (((a0.extract (a1 : Int).toNat (t195 : Int).toNat) ++ (a0.extract ((ji12) : Int).toNat (t196 : Int).toNat)).toList != ([] : List UInt8)) = true := bne_iff_ne.mpr c17
            simp only [Option.some.injEq, Prod.mk.injEq] at H
            obtain ⟨rfl, rfl, rfl⟩ := H
            go_enter Tryd.func46, Tryd.ntmps46
            have tk20 : True := trivial; have tk21 : True := trivial
            go_wp2_with (first | (have ztk20 := tk20; clear tk20 ztk20; (with_reducible refine gate_callee (f := 71) rfl ?_); refine goesL_ (some 13) rfl rfl Tryd.func71 (by kernel_rfl) rfl #[.string a0, .int .i64 a1] rfl qng0_ ?_; (with_reducible refine (millref3_run.calls k a0 a1 t195 _ A3.out).mono ?_); rintro e w' ⟨rfl, ⟨nd, rfl⟩⟩; refine ⟨_, rfl, ?_⟩; have p9 : 0 ≤ (t195 : Int) := of_decide_eq_true qng3_; have q9 : t195 < (a0.size : Int) := of_decide_eq_true qng3_; have hx9 := bt_at a0 t195; replace p9 := eq_true p9; replace q9 := eq_true q9) | (have ztk21 := tk21; clear tk21 ztk21; (with_reducible refine gate_callee (f := 71) rfl ?_); refine goesL_ (some 33) rfl rfl Tryd.func71 (by kernel_rfl) rfl #[.string a0, .int .i64 ji12] rfl (by (try simp only [List.map_toArray, List.map_cons, List.map_nil]); first | done | (simp only [hji12]; rfl) | rfl | (simp only [List.length_drop, List.length_take]; rfl) | (simp; done) | (simp; omega)) ?_; (with_reducible refine (millref3_run.calls k a0 ji12 t196 _ A11.out).mono ?_); rintro e w' ⟨rfl, ⟨nd, rfl⟩⟩; refine ⟨_, rfl, ?_⟩))
            go_ret3
            exact ⟨by first | rfl | (simp; done) | (simp only [← hji12] <;> (first | rfl | simp); done) | (simp [*]; done) | (simp; simp only [eq_iff_iff, iff_true] at *; omega) | (exfalso; simp_all; done), qng4_⟩
          ·
           rw [if_neg c16] at H
           exact absurd H (by simp)
         ·
          rw [if_neg c15] at H
          exact absurd H (by simp)
        ·
         rw [if_neg c14] at H
         exact absurd H (by simp)
       ·
        rw [if_neg c13] at H
        exact absurd H (by simp)
      ·
       rw [if_neg c10] at H
       have c10b0 : ((bt a0 t195) == 46) = false := beq_eq_false_iff_ne.mpr c10
       have c10b1 : ((bt a0 t195) != 46) = true := bne_iff_ne.mpr c10
       by_cases c22 : (a0.extract (a1 : Int).toNat (t195 : Int).toNat).toList = ([] : List UInt8)
       ·
        rw [if_pos c22] at H
        have c22b0 : ((a0.extract (a1 : Int).toNat (t195 : Int).toNat).toList == ([] : List UInt8)) = true := beq_iff_eq.mpr c22
        have c22b1 : ((a0.extract (a1 : Int).toNat (t195 : Int).toNat).toList != ([] : List UInt8)) = false := bne_eq_false_iff_eq.mpr c22
        clear c22
        simp only [Option.some.injEq, Prod.mk.injEq] at H
        obtain ⟨rfl, rfl, rfl⟩ := H
        go_enter Tryd.func46, Tryd.ntmps46
        go_wp2_with (first | ((with_reducible refine gate_callee (f := 71) rfl ?_); refine goesL_ (some 13) rfl rfl Tryd.func71 (by kernel_rfl) rfl #[.string a0, .int .i64 a1] rfl qng0_ ?_; (with_reducible refine (millref3_run.calls k a0 a1 t195 _ A3.out).mono ?_); rintro e w' ⟨rfl, ⟨nd, rfl⟩⟩; refine ⟨_, rfl, ?_⟩; have p9 : 0 ≤ (t195 : Int) := of_decide_eq_true qng3_; have q9 : t195 < (a0.size : Int) := of_decide_eq_true qng3_; have hx9 := bt_at a0 t195; replace p9 := eq_true p9; replace q9 := eq_true q9))
        go_ret3
        exact ⟨qng2_, qng4_⟩
       ·
        rw [if_neg c22] at H
        have c22b0 : ((a0.extract (a1 : Int).toNat (t195 : Int).toNat).toList == ([] : List UInt8)) = false := beq_eq_false_iff_ne.mpr c22
        have c22b1 : ((a0.extract (a1 : Int).toNat (t195 : Int).toNat).toList != ([] : List UInt8)) = true := bne_iff_ne.mpr c22
        simp only [Option.some.injEq, Prod.mk.injEq] at H
        obtain ⟨rfl, rfl, rfl⟩ := H
        go_enter Tryd.func46, Tryd.ntmps46
        go_wp2_with (first | ((with_reducible refine gate_callee (f := 71) rfl ?_); refine goesL_ (some 13) rfl rfl Tryd.func71 (by kernel_rfl) rfl #[.string a0, .int .i64 a1] rfl qng0_ ?_; (with_reducible refine (millref3_run.calls k a0 a1 t195 _ A3.out).mono ?_); rintro e w' ⟨rfl, ⟨nd, rfl⟩⟩; refine ⟨_, rfl, ?_⟩; have p9 : 0 ≤ (t195 : Int) := of_decide_eq_true qng3_; have q9 : t195 < (a0.size : Int) := of_decide_eq_true qng3_; have hx9 := bt_at a0 t195; replace p9 := eq_true p9; replace q9 := eq_true q9))
        go_ret3
        exact ⟨qng2_, qng4_⟩
     ·
      rw [if_neg c8] at H
      exact absurd H (by simp)
    ·
     rw [if_neg c7] at H
     have c7b0 : decide (t195 < (a0.size : Int)) = false := decide_eq_false c7
     clear c7
     by_cases c23 : (a0.extract (a1 : Int).toNat (t195 : Int).toNat).toList = ([] : List UInt8)
     ·
      rw [if_pos c23] at H
      have c23b0 : ((a0.extract (a1 : Int).toNat (t195 : Int).toNat).toList == ([] : List UInt8)) = true := beq_iff_eq.mpr c23
      have c23b1 : ((a0.extract (a1 : Int).toNat (t195 : Int).toNat).toList != ([] : List UInt8)) = false := bne_eq_false_iff_eq.mpr c23
      clear c23
      simp only [Option.some.injEq, Prod.mk.injEq] at H
      obtain ⟨rfl, rfl, rfl⟩ := H
      go_enter Tryd.func46, Tryd.ntmps46
      go_wp2_with (first | ((with_reducible refine gate_callee (f := 71) rfl ?_); refine goesL_ (some 13) rfl rfl Tryd.func71 (by kernel_rfl) rfl #[.string a0, .int .i64 a1] rfl qng0_ ?_; (with_reducible refine (millref3_run.calls k a0 a1 t195 _ A3.out).mono ?_); rintro e w' ⟨rfl, ⟨nd, rfl⟩⟩; refine ⟨_, rfl, ?_⟩))
      go_ret3
      exact ⟨qng2_, qng4_⟩
     ·
      rw [if_neg c23] at H
      have c23b0 : ((a0.extract (a1 : Int).toNat (t195 : Int).toNat).toList == ([] : List UInt8)) = false := beq_eq_false_iff_ne.mpr c23
      have c23b1 : ((a0.extract (a1 : Int).toNat (t195 : Int).toNat).toList != ([] : List UInt8)) = true := bne_iff_ne.mpr c23
      simp only [Option.some.injEq, Prod.mk.injEq] at H
      obtain ⟨rfl, rfl, rfl⟩ := H
      go_enter Tryd.func46, Tryd.ntmps46
      go_wp2_with (first | ((with_reducible refine gate_callee (f := 71) rfl ?_); refine goesL_ (some 13) rfl rfl Tryd.func71 (by kernel_rfl) rfl #[.string a0, .int .i64 a1] rfl qng0_ ?_; (with_reducible refine (millref3_run.calls k a0 a1 t195 _ A3.out).mono ?_); rintro e w' ⟨rfl, ⟨nd, rfl⟩⟩; refine ⟨_, rfl, ?_⟩))
      go_ret3
      exact ⟨qng2_, qng4_⟩
   ·
    rw [if_neg c6] at H
    exact absurd H (by simp)
  ·
   rw [if_neg c5] at H
   exact absurd H (by simp)
 ·
  rw [if_neg c4] at H
  exact absurd H (by simp)


/-! ### millref3_low: function 70 -/
def millref3_low.f (a0 : Int) : Option (Int) := if a0 ≥ 65 then (if a0 ≤ 90 then (some ((a0 + 32) % 256)) else (some a0)) else (some a0)
set_option maxHeartbeats 8000000 in
set_option maxRecDepth 100000 in
theorem millref3_low.calls (a0 : Int) (r : Int) (w : World) (h : millref3_low.f a0 = some r) :
  Calls Tryd.prog 70 #[.int .u8 a0] w fun e w' => e = .returned (.int .u8 r) ∧ Drawn0 w w' := by
 have H : (if a0 ≥ 65 then (if a0 ≤ 90 then (some ((a0 + 32) % 256)) else (some a0)) else (some a0)) = some r := h
 clear h
 by_cases c2 : a0 ≥ 65
 ·
  rw [if_pos c2] at H
  have c2b0 : decide (65 ≤ a0) = true := decide_eq_true c2
  clear c2
  by_cases c3 : a0 ≤ 90
  ·
   rw [if_pos c3] at H
   have c3b0 : decide (a0 ≤ 90) = true := decide_eq_true c3
   clear c3
   obtain rfl := Option.some.inj H
   go_enter Tryd.func70, Tryd.ntmps70
   go_wp2
   go_ret
   exact ⟨qng2_, qng4_⟩
  ·
   rw [if_neg c3] at H
   have c3b0 : decide (a0 ≤ 90) = false := decide_eq_false c3
   clear c3
   obtain rfl := Option.some.inj H
   go_enter Tryd.func70, Tryd.ntmps70
   go_wp2
   go_ret
   exact ⟨qng2_, qng4_⟩
 ·
  rw [if_neg c2] at H
  have c2b0 : decide (65 ≤ a0) = false := decide_eq_false c2
  clear c2
  obtain rfl := Option.some.inj H
  go_enter Tryd.func70, Tryd.ntmps70
  go_wp2
  go_ret
  exact ⟨qng2_, qng4_⟩


/-! ### millref3_at: function 45 -/
def millref3_at.l0 : Nat → ByteArray → Int → ByteArray → Int → Option (Bool)
 | 0, _, _, _, _ => none
 | k + 1, x0, x1, x2, x7 => if x7 < (x2.size : Int) then (if 0 ≤ (wrap64 (x1 + x7)) then (if (wrap64 (x1 + x7)) < (x0.size : Int) then ((millref3_low.f (bt x0 (wrap64 (x1 + x7)))).bind fun t225 => (if 0 ≤ x7 then (if t225 = (bt x2 x7) then (millref3_at.l0 k x0 x1 x2 (wrap64 (x7 + 1))) else (some false)) else (none))) else (none)) else (none)) else (some true)
def millref3_at.f (k : Nat) (a0 : ByteArray) (a1 : Int) (a2 : ByteArray) : Option (Bool) := if (wrap64 (a1 + (a2.size : Int))) > (a0.size : Int) then (some false) else (millref3_at.l0 k a0 a1 a2 0)
set_option maxHeartbeats 8000000 in
set_option maxRecDepth 100000 in
theorem millref3_at.calls (k : Nat) (a0 : ByteArray) (a1 : Int) (a2 : ByteArray) (r : Bool) (w : World) (h : millref3_at.f k a0 a1 a2 = some r) :
  Calls Tryd.prog 45 #[.string a0, .int .i64 a1, .string a2] w fun e w' => e = .returned (.bool r) ∧ Drawn0 w w' := by
 have H : (if (wrap64 (a1 + (a2.size : Int))) > (a0.size : Int) then (some false) else (millref3_at.l0 k a0 a1 a2 0)) = some r := h
 clear h
 by_cases c4 : (wrap64 (a1 + (a2.size : Int))) > (a0.size : Int)
 ·
  rw [if_pos c4] at H
  have c4b0 : decide ((a0.size : Int) < (wrap64 (a1 + (a2.size : Int)))) = true := decide_eq_true c4
  clear c4
  obtain rfl := Option.some.inj H
  go_enter Tryd.func45, Tryd.ntmps45
  go_wp2
  repeat (go_quiet (fail); try go_wp2)
  go_ret
  exact ⟨qng2_, qng4_⟩
 ·
  rw [if_neg c4] at H
  have c4b0 : decide ((a0.size : Int) < (wrap64 (a1 + (a2.size : Int)))) = false := decide_eq_false c4
  clear c4
  have H' := Aside0.mk H
  clear H
  go_enter Tryd.func45, Tryd.ntmps45
  go_wp2
  repeat (go_quiet (fail); try go_wp2)
  go_loopg [7] k (fun kq v7 w' => ∃ (x7_1 : Int), v7 = .int .i64 x7_1 ∧ Aside0 (millref3_at.l0 kq a0 a1 a2 x7_1 = some r) ∧ Aside0 (kq ≤ k) ∧ Drawn0 w w')
  case atStart => exact ⟨(0), qng2_, H', ⟨Nat.le_refl _⟩, qng4_⟩
  case round =>
   clear H'
   (try clear p2); (try clear c4); (try clear c4b0)
   obtain ⟨x7_1, rfl, HA, HK1, ⟨m1, rfl⟩⟩ := hrel
   cases gk with
   | zero => exact absurd HA.out (by simp [millref3_at.l0])
   | succ k1 =>
    have H := HA.out
    clear HA
    simp only [millref3_at.l0] at H
    by_cases c5 : x7_1 < (a2.size : Int)
    ·
     rw [if_pos c5] at H
     have c5b0 : decide (x7_1 < (a2.size : Int)) = true := decide_eq_true c5
     clear c5
     obtain ⟨ji6, hji6⟩ : ∃ j_ : Int, (wrap64 (a1 + x7_1)) = j_ := ⟨_, rfl⟩
     replace H : (if 0 ≤ (ji6) then (if (ji6) < (a0.size : Int) then ((millref3_low.f (bt a0 (ji6))).bind fun t225 => (if 0 ≤ x7_1 then (if t225 = (bt a2 x7_1) then (millref3_at.l0 k1 a0 a1 a2 (wrap64 (x7_1 + 1))) else (some false)) else (none))) else (none)) else (none)) = some r := by first | (rw [hji6] at H; exact H) | (simp only [hji6] at H ⊢; exact H)
     have hji6w : (IntKind.i64.wrap (a1 + x7_1)) = ji6 := (i64_w _).trans hji6
     by_cases c7 : 0 ≤ (ji6)
     ·
      rw [if_pos c7] at H
      have c7b0 : decide (0 ≤ (ji6)) = true := decide_eq_true c7
      clear c7
      by_cases c8 : (ji6) < (a0.size : Int)
      ·
       rw [if_pos c8] at H
       have c8b0 : decide ((ji6) < (a0.size : Int)) = true := decide_eq_true c8
       clear c8
       replace H := Option.bind_eq_some_iff.mp H
       obtain ⟨t225, A100, H⟩ := H
       replace H : (if 0 ≤ x7_1 then (if t225 = (bt a2 x7_1) then (millref3_at.l0 k1 a0 a1 a2 (wrap64 (x7_1 + 1))) else (some false)) else (none)) = some r := H
       have A10 := Aside0.mk A100
       clear A100
       by_cases c11 : 0 ≤ x7_1
       ·
        rw [if_pos c11] at H
        have c11b0 : decide (0 ≤ x7_1) = true := decide_eq_true c11
        clear c11
        by_cases c13 : t225 = (bt a2 x7_1)
        ·
         rw [if_pos c13] at H
         have c13b0 : (t225 == (bt a2 x7_1)) = true := beq_iff_eq.mpr c13
         have c13b1 : (t225 != (bt a2 x7_1)) = false := bne_eq_false_iff_eq.mpr c13
         clear c13
         have H' := Aside0.mk H
         clear H
         have p9 : 0 ≤ ((ji6) : Int) := of_decide_eq_true qng3_
         have q9 : (ji6) < (a0.size : Int) := of_decide_eq_true qng3_
         have hx9 := bt_at a0 (ji6)
         replace p9 := eq_true p9
         replace q9 := eq_true q9
         have p12 : 0 ≤ (x7_1 : Int) := of_decide_eq_true qng3_
         have q12 : x7_1 < (a2.size : Int) := of_decide_eq_true qng3_
         have hx12 := bt_at a2 x7_1
         replace p12 := eq_true p12
         replace q12 := eq_true q12
         go_wp2_with (first | (go_at_call 70; (with_reducible refine (millref3_low.calls (bt a0 (ji6)) t225 _ A10.out).mono ?_); rintro e w' ⟨rfl, ⟨nd, rfl⟩⟩; (try first | exact ⟨rfl, _, World.drewN_drewN _ _ _⟩ | exact ⟨rfl, _, Eq.trans (World.drewN_drewN _ _ _) (congrArg (World.drewN _) (Nat.add_assoc _ _ _))⟩)))
         repeat (go_quiet (first | (go_at_call 70; (with_reducible refine (millref3_low.calls (bt a0 (ji6)) t225 _ A10.out).mono ?_); rintro e w' ⟨rfl, ⟨nd, rfl⟩⟩; (try first | exact ⟨rfl, _, World.drewN_drewN _ _ _⟩ | exact ⟨rfl, _, Eq.trans (World.drewN_drewN _ _ _) (congrArg (World.drewN _) (Nat.add_assoc _ _ _))⟩))); try go_wp2_with (first | (go_at_call 70; (with_reducible refine (millref3_low.calls (bt a0 (ji6)) t225 _ A10.out).mono ?_); rintro e w' ⟨rfl, ⟨nd, rfl⟩⟩; (try first | exact ⟨rfl, _, World.drewN_drewN _ _ _⟩ | exact ⟨rfl, _, Eq.trans (World.drewN_drewN _ _ _) (congrArg (World.drewN _) (Nat.add_assoc _ _ _))⟩))))
         go_roundg k1
         case measure => have := HK1.out; omega
         case rel => exact ⟨(wrap64 (x7_1 + 1)), qng2_, H', ⟨by have := HK1.out; omega⟩, qng4_⟩
        ·
         rw [if_neg c13] at H
         have c13b0 : (t225 == (bt a2 x7_1)) = false := beq_eq_false_iff_ne.mpr c13
         have c13b1 : (t225 != (bt a2 x7_1)) = true := bne_iff_ne.mpr c13
         obtain rfl := Option.some.inj H
         have p9 : 0 ≤ ((ji6) : Int) := of_decide_eq_true qng3_
         have q9 : (ji6) < (a0.size : Int) := of_decide_eq_true qng3_
         have hx9 := bt_at a0 (ji6)
         replace p9 := eq_true p9
         replace q9 := eq_true q9
         have p12 : 0 ≤ (x7_1 : Int) := of_decide_eq_true qng3_
         have q12 : x7_1 < (a2.size : Int) := of_decide_eq_true qng3_
         have hx12 := bt_at a2 x7_1
         replace p12 := eq_true p12
         replace q12 := eq_true q12
         go_wp2_with (first | (go_at_call 70; (with_reducible refine (millref3_low.calls (bt a0 (ji6)) t225 _ A10.out).mono ?_); rintro e w' ⟨rfl, ⟨nd, rfl⟩⟩; (try first | exact ⟨rfl, _, World.drewN_drewN _ _ _⟩ | exact ⟨rfl, _, Eq.trans (World.drewN_drewN _ _ _) (congrArg (World.drewN _) (Nat.add_assoc _ _ _))⟩)))
         repeat (go_quiet (first | (go_at_call 70; (with_reducible refine (millref3_low.calls (bt a0 (ji6)) t225 _ A10.out).mono ?_); rintro e w' ⟨rfl, ⟨nd, rfl⟩⟩; (try first | exact ⟨rfl, _, World.drewN_drewN _ _ _⟩ | exact ⟨rfl, _, Eq.trans (World.drewN_drewN _ _ _) (congrArg (World.drewN _) (Nat.add_assoc _ _ _))⟩))); try go_wp2_with (first | (go_at_call 70; (with_reducible refine (millref3_low.calls (bt a0 (ji6)) t225 _ A10.out).mono ?_); rintro e w' ⟨rfl, ⟨nd, rfl⟩⟩; (try first | exact ⟨rfl, _, World.drewN_drewN _ _ _⟩ | exact ⟨rfl, _, Eq.trans (World.drewN_drewN _ _ _) (congrArg (World.drewN _) (Nat.add_assoc _ _ _))⟩))))
         go_ret
         exact ⟨qng66_, qng4_⟩
       ·
        rw [if_neg c11] at H
        exact absurd H (by simp)
      ·
       rw [if_neg c8] at H
       exact absurd H (by simp)
     ·
      rw [if_neg c7] at H
      exact absurd H (by simp)
    ·
     rw [if_neg c5] at H
     have c5b0 : decide (x7_1 < (a2.size : Int)) = false := decide_eq_false c5
     clear c5
     obtain rfl := Option.some.inj H
     go_wp2
     repeat (go_quiet (fail); try go_wp2)
     go_ret
     exact ⟨qng2_, qng4_⟩


/-! ### millref3_zeros: function 42 -/
def millref3_zeros.l0 : Nat → ByteArray → Int → Option (Int)
 | 0, _, _ => none
 | k + 1, x0, x3 => if x3 < (x0.size : Int) then (if 0 ≤ x3 then (if (bt x0 x3) = 48 then (millref3_zeros.l0 k x0 (wrap64 (x3 + 1))) else (some x3)) else (none)) else (some x3)
def millref3_zeros.f (k : Nat) (a0 : ByteArray) : Option (Int) := millref3_zeros.l0 k a0 0
set_option maxHeartbeats 8000000 in
set_option maxRecDepth 100000 in
theorem millref3_zeros.calls (k : Nat) (a0 : ByteArray) (r : Int) (w : World) (h : millref3_zeros.f k a0 = some r) :
  Calls Tryd.prog 42 #[.string a0] w fun e w' => e = .returned (.int .i64 r) ∧ Drawn0 w w' := by
 have H : (millref3_zeros.l0 k a0 0) = some r := h
 clear h
 have H' := Aside0.mk H
 clear H
 go_enter Tryd.func42, Tryd.ntmps42
 go_wp2
 go_loopg [3] k (fun kq v3 w' => ∃ (x3_1 : Int), v3 = .int .i64 x3_1 ∧ Aside0 (millref3_zeros.l0 kq a0 x3_1 = some r) ∧ Aside0 (kq ≤ k) ∧ Drawn0 w w')
 case atStart => exact ⟨(0), qng2_, H', ⟨Nat.le_refl _⟩, qng4_⟩
 case round =>
  clear H'
  obtain ⟨x3_1, rfl, HA, HK1, ⟨m1, rfl⟩⟩ := hrel
  cases gk with
  | zero => exact absurd HA.out (by simp [millref3_zeros.l0])
  | succ k1 =>
   have H := HA.out
   clear HA
   simp only [millref3_zeros.l0] at H
   by_cases c2 : x3_1 < (a0.size : Int)
   ·
    rw [if_pos c2] at H
    have c2b0 : decide (x3_1 < (a0.size : Int)) = true := decide_eq_true c2
    clear c2
    by_cases c3 : 0 ≤ x3_1
    ·
     rw [if_pos c3] at H
     have c3b0 : decide (0 ≤ x3_1) = true := decide_eq_true c3
     clear c3
     by_cases c5 : (bt a0 x3_1) = 48
     ·
      rw [if_pos c5] at H
      have c5b0 : ((bt a0 x3_1) == 48) = true := beq_iff_eq.mpr c5
      have c5b1 : ((bt a0 x3_1) != 48) = false := bne_eq_false_iff_eq.mpr c5
      clear c5
      have H' := Aside0.mk H
      clear H
      have p4 : 0 ≤ (x3_1 : Int) := of_decide_eq_true qng3_
      have q4 : x3_1 < (a0.size : Int) := of_decide_eq_true qng3_
      have hx4 := bt_at a0 x3_1
      replace p4 := eq_true p4
      replace q4 := eq_true q4
      go_wp2
      go_roundg k1
      case measure => have := HK1.out; omega
      case rel => exact ⟨(wrap64 (x3_1 + 1)), qng2_, H', ⟨by have := HK1.out; omega⟩, qng4_⟩
     ·
      rw [if_neg c5] at H
      have c5b0 : ((bt a0 x3_1) == 48) = false := beq_eq_false_iff_ne.mpr c5
      have c5b1 : ((bt a0 x3_1) != 48) = true := bne_iff_ne.mpr c5
      obtain rfl := Option.some.inj H
      have p4 : 0 ≤ (x3_1 : Int) := of_decide_eq_true qng3_
      have q4 : x3_1 < (a0.size : Int) := of_decide_eq_true qng3_
      have hx4 := bt_at a0 x3_1
      replace p4 := eq_true p4
      replace q4 := eq_true q4
      go_wp2
      go_ret
      exact ⟨qng2_, qng4_⟩
    ·
     rw [if_neg c3] at H
     exact absurd H (by simp)
   ·
    rw [if_neg c2] at H
    have c2b0 : decide (x3_1 < (a0.size : Int)) = false := decide_eq_false c2
    clear c2
    obtain rfl := Option.some.inj H
    go_wp2
    go_ret
    exact ⟨qng2_, qng4_⟩


/-! ### millref3_exponent: function 47 -/
def millref3_exponent.l0 : Nat → Bool → Int → ByteArray → Int → Int → Option (Int × Int)
 | 0, _, _, _, _, _ => none
 | k + 1, x7, x8, x9, x10, x11 => if x11 < (x9.size : Int) then (if x11 < 14 then (if 0 ≤ x11 then (millref3_exponent.l0 k x7 x8 x9 (wrap64 ((wrap64 (10 * x10)) + (((bt x9 x11) - 48) % 256))) (wrap64 (x11 + 1))) else (none)) else (if x10 > 1099511627776 then (if x7 = true then (some (-1099511627776, x8)) else (some (1099511627776, x8))) else (if (x9.size : Int) > 14 then (if x7 = true then (some (-1099511627776, x8)) else (some (1099511627776, x8))) else (if x7 = true then (some (wrap64 (-x10), x8)) else (some (x10, x8)))))) else (if x10 > 1099511627776 then (if x7 = true then (some (-1099511627776, x8)) else (some (1099511627776, x8))) else (if (x9.size : Int) > 14 then (if x7 = true then (some (-1099511627776, x8)) else (some (1099511627776, x8))) else (if x7 = true then (some (wrap64 (-x10), x8)) else (some (x10, x8)))))
def millref3_exponent.f (k : Nat) (a0 : ByteArray) (a1 : Int) : Option (Int × Int) := if a1 ≥ (a0.size : Int) then (some (0, a1)) else (if 0 ≤ a1 then (if a1 < (a0.size : Int) then ((millref3_low.f (bt a0 a1)).bind fun t360 => (if t360 = 101 then (if (wrap64 (a1 + 1)) < (a0.size : Int) then (if 0 ≤ (wrap64 (a1 + 1)) then (if (bt a0 (wrap64 (a1 + 1))) = 45 then ((millref3_run.f k a0 (wrap64 ((wrap64 (a1 + 1)) + 1))).bind fun t361 => (if t361 = (wrap64 ((wrap64 (a1 + 1)) + 1)) then (some (0, a1)) else (if 0 ≤ (wrap64 ((wrap64 (a1 + 1)) + 1)) then (if (wrap64 ((wrap64 (a1 + 1)) + 1)) ≤ t361 then (if t361 ≤ (a0.size : Int) then ((millref3_zeros.f k (a0.extract ((wrap64 ((wrap64 (a1 + 1)) + 1)) : Int).toNat (t361 : Int).toNat)).bind fun t362 => (if 0 ≤ t362 then (if t362 ≤ ((t361.toNat - ((wrap64 ((wrap64 (a1 + 1)) + 1)) : Int).toNat : Nat) : Int) then (millref3_exponent.l0 k ((bt a0 (wrap64 (a1 + 1))) == 45) t361 ((a0.extract ((wrap64 ((wrap64 (a1 + 1)) + 1)) : Int).toNat (t361 : Int).toNat).extract (t362 : Int).toNat (t361.toNat - ((wrap64 ((wrap64 (a1 + 1)) + 1)) : Int).toNat)) 0 0) else (none)) else (none))) else (none)) else (none)) else (none)))) else (if (bt a0 (wrap64 (a1 + 1))) = 43 then ((millref3_run.f k a0 (wrap64 ((wrap64 (a1 + 1)) + 1))).bind fun t363 => (if t363 = (wrap64 ((wrap64 (a1 + 1)) + 1)) then (some (0, a1)) else (if 0 ≤ (wrap64 ((wrap64 (a1 + 1)) + 1)) then (if (wrap64 ((wrap64 (a1 + 1)) + 1)) ≤ t363 then (if t363 ≤ (a0.size : Int) then ((millref3_zeros.f k (a0.extract ((wrap64 ((wrap64 (a1 + 1)) + 1)) : Int).toNat (t363 : Int).toNat)).bind fun t364 => (if 0 ≤ t364 then (if t364 ≤ ((t363.toNat - ((wrap64 ((wrap64 (a1 + 1)) + 1)) : Int).toNat : Nat) : Int) then (millref3_exponent.l0 k ((bt a0 (wrap64 (a1 + 1))) == 45) t363 ((a0.extract ((wrap64 ((wrap64 (a1 + 1)) + 1)) : Int).toNat (t363 : Int).toNat).extract (t364 : Int).toNat (t363.toNat - ((wrap64 ((wrap64 (a1 + 1)) + 1)) : Int).toNat)) 0 0) else (none)) else (none))) else (none)) else (none)) else (none)))) else ((millref3_run.f k a0 (wrap64 (a1 + 1))).bind fun t365 => (if t365 = (wrap64 (a1 + 1)) then (some (0, a1)) else (if (wrap64 (a1 + 1)) ≤ t365 then (if t365 ≤ (a0.size : Int) then ((millref3_zeros.f k (a0.extract ((wrap64 (a1 + 1)) : Int).toNat (t365 : Int).toNat)).bind fun t366 => (if 0 ≤ t366 then (if t366 ≤ ((t365.toNat - ((wrap64 (a1 + 1)) : Int).toNat : Nat) : Int) then (millref3_exponent.l0 k false t365 ((a0.extract ((wrap64 (a1 + 1)) : Int).toNat (t365 : Int).toNat).extract (t366 : Int).toNat (t365.toNat - ((wrap64 (a1 + 1)) : Int).toNat)) 0 0) else (none)) else (none))) else (none)) else (none)))))) else (none)) else ((millref3_run.f k a0 (wrap64 (a1 + 1))).bind fun t367 => (if t367 = (wrap64 (a1 + 1)) then (some (0, a1)) else (if 0 ≤ (wrap64 (a1 + 1)) then (if (wrap64 (a1 + 1)) ≤ t367 then (if t367 ≤ (a0.size : Int) then ((millref3_zeros.f k (a0.extract ((wrap64 (a1 + 1)) : Int).toNat (t367 : Int).toNat)).bind fun t368 => (if 0 ≤ t368 then (if t368 ≤ ((t367.toNat - ((wrap64 (a1 + 1)) : Int).toNat : Nat) : Int) then (millref3_exponent.l0 k false t367 ((a0.extract ((wrap64 (a1 + 1)) : Int).toNat (t367 : Int).toNat).extract (t368 : Int).toNat (t367.toNat - ((wrap64 (a1 + 1)) : Int).toNat)) 0 0) else (none)) else (none))) else (none)) else (none)) else (none))))) else (some (0, a1)))) else (none)) else (none))
set_option maxHeartbeats 8000000 in
set_option maxRecDepth 100000 in
theorem millref3_exponent.calls (k : Nat) (a0 : ByteArray) (a1 : Int) (r1 : Int) (r2 : Int) (w : World) (h : millref3_exponent.f k a0 a1 = some (r1, r2)) :
  Calls Tryd.prog 47 #[.string a0, .int .i64 a1] w fun e w' => e = .returned (.tuple #[.int .i64 r1, .int .i64 r2]) ∧ Drawn0 w w' := by
 have H : (if a1 ≥ (a0.size : Int) then (some (0, a1)) else (if 0 ≤ a1 then (if a1 < (a0.size : Int) then ((millref3_low.f (bt a0 a1)).bind fun t360 => (if t360 = 101 then (if (wrap64 (a1 + 1)) < (a0.size : Int) then (if 0 ≤ (wrap64 (a1 + 1)) then (if (bt a0 (wrap64 (a1 + 1))) = 45 then ((millref3_run.f k a0 (wrap64 ((wrap64 (a1 + 1)) + 1))).bind fun t361 => (if t361 = (wrap64 ((wrap64 (a1 + 1)) + 1)) then (some (0, a1)) else (if 0 ≤ (wrap64 ((wrap64 (a1 + 1)) + 1)) then (if (wrap64 ((wrap64 (a1 + 1)) + 1)) ≤ t361 then (if t361 ≤ (a0.size : Int) then ((millref3_zeros.f k (a0.extract ((wrap64 ((wrap64 (a1 + 1)) + 1)) : Int).toNat (t361 : Int).toNat)).bind fun t362 => (if 0 ≤ t362 then (if t362 ≤ ((t361.toNat - ((wrap64 ((wrap64 (a1 + 1)) + 1)) : Int).toNat : Nat) : Int) then (millref3_exponent.l0 k ((bt a0 (wrap64 (a1 + 1))) == 45) t361 ((a0.extract ((wrap64 ((wrap64 (a1 + 1)) + 1)) : Int).toNat (t361 : Int).toNat).extract (t362 : Int).toNat (t361.toNat - ((wrap64 ((wrap64 (a1 + 1)) + 1)) : Int).toNat)) 0 0) else (none)) else (none))) else (none)) else (none)) else (none)))) else (if (bt a0 (wrap64 (a1 + 1))) = 43 then ((millref3_run.f k a0 (wrap64 ((wrap64 (a1 + 1)) + 1))).bind fun t363 => (if t363 = (wrap64 ((wrap64 (a1 + 1)) + 1)) then (some (0, a1)) else (if 0 ≤ (wrap64 ((wrap64 (a1 + 1)) + 1)) then (if (wrap64 ((wrap64 (a1 + 1)) + 1)) ≤ t363 then (if t363 ≤ (a0.size : Int) then ((millref3_zeros.f k (a0.extract ((wrap64 ((wrap64 (a1 + 1)) + 1)) : Int).toNat (t363 : Int).toNat)).bind fun t364 => (if 0 ≤ t364 then (if t364 ≤ ((t363.toNat - ((wrap64 ((wrap64 (a1 + 1)) + 1)) : Int).toNat : Nat) : Int) then (millref3_exponent.l0 k ((bt a0 (wrap64 (a1 + 1))) == 45) t363 ((a0.extract ((wrap64 ((wrap64 (a1 + 1)) + 1)) : Int).toNat (t363 : Int).toNat).extract (t364 : Int).toNat (t363.toNat - ((wrap64 ((wrap64 (a1 + 1)) + 1)) : Int).toNat)) 0 0) else (none)) else (none))) else (none)) else (none)) else (none)))) else ((millref3_run.f k a0 (wrap64 (a1 + 1))).bind fun t365 => (if t365 = (wrap64 (a1 + 1)) then (some (0, a1)) else (if (wrap64 (a1 + 1)) ≤ t365 then (if t365 ≤ (a0.size : Int) then ((millref3_zeros.f k (a0.extract ((wrap64 (a1 + 1)) : Int).toNat (t365 : Int).toNat)).bind fun t366 => (if 0 ≤ t366 then (if t366 ≤ ((t365.toNat - ((wrap64 (a1 + 1)) : Int).toNat : Nat) : Int) then (millref3_exponent.l0 k false t365 ((a0.extract ((wrap64 (a1 + 1)) : Int).toNat (t365 : Int).toNat).extract (t366 : Int).toNat (t365.toNat - ((wrap64 (a1 + 1)) : Int).toNat)) 0 0) else (none)) else (none))) else (none)) else (none)))))) else (none)) else ((millref3_run.f k a0 (wrap64 (a1 + 1))).bind fun t367 => (if t367 = (wrap64 (a1 + 1)) then (some (0, a1)) else (if 0 ≤ (wrap64 (a1 + 1)) then (if (wrap64 (a1 + 1)) ≤ t367 then (if t367 ≤ (a0.size : Int) then ((millref3_zeros.f k (a0.extract ((wrap64 (a1 + 1)) : Int).toNat (t367 : Int).toNat)).bind fun t368 => (if 0 ≤ t368 then (if t368 ≤ ((t367.toNat - ((wrap64 (a1 + 1)) : Int).toNat : Nat) : Int) then (millref3_exponent.l0 k false t367 ((a0.extract ((wrap64 (a1 + 1)) : Int).toNat (t367 : Int).toNat).extract (t368 : Int).toNat (t367.toNat - ((wrap64 (a1 + 1)) : Int).toNat)) 0 0) else (none)) else (none))) else (none)) else (none)) else (none))))) else (some (0, a1)))) else (none)) else (none))) = some (r1, r2) := h
 clear h
 by_cases c3 : a1 ≥ (a0.size : Int)
 ·
  rw [if_pos c3] at H
  have c3b0 : decide ((a0.size : Int) ≤ a1) = true := decide_eq_true c3
  clear c3
  simp only [Option.some.injEq, Prod.mk.injEq] at H
  obtain ⟨rfl, rfl⟩ := H
  go_enter Tryd.func47, Tryd.ntmps47
  go_wp2
  go_ret2
  exact ⟨qng2_, qng4_⟩
 ·
  rw [if_neg c3] at H
  have c3b0 : decide ((a0.size : Int) ≤ a1) = false := decide_eq_false c3
  clear c3
  by_cases c4 : 0 ≤ a1
  ·
   rw [if_pos c4] at H
   have c4b0 : decide (0 ≤ a1) = true := decide_eq_true c4
   clear c4
   by_cases c5 : a1 < (a0.size : Int)
   ·
    rw [if_pos c5] at H
    have c5b0 : decide (a1 < (a0.size : Int)) = true := decide_eq_true c5
    clear c5
    replace H := Option.bind_eq_some_iff.mp H
    obtain ⟨t360, A70, H⟩ := H
    replace H : (if t360 = 101 then (if (wrap64 (a1 + 1)) < (a0.size : Int) then (if 0 ≤ (wrap64 (a1 + 1)) then (if (bt a0 (wrap64 (a1 + 1))) = 45 then ((millref3_run.f k a0 (wrap64 ((wrap64 (a1 + 1)) + 1))).bind fun t361 => (if t361 = (wrap64 ((wrap64 (a1 + 1)) + 1)) then (some (0, a1)) else (if 0 ≤ (wrap64 ((wrap64 (a1 + 1)) + 1)) then (if (wrap64 ((wrap64 (a1 + 1)) + 1)) ≤ t361 then (if t361 ≤ (a0.size : Int) then ((millref3_zeros.f k (a0.extract ((wrap64 ((wrap64 (a1 + 1)) + 1)) : Int).toNat (t361 : Int).toNat)).bind fun t362 => (if 0 ≤ t362 then (if t362 ≤ ((t361.toNat - ((wrap64 ((wrap64 (a1 + 1)) + 1)) : Int).toNat : Nat) : Int) then (millref3_exponent.l0 k ((bt a0 (wrap64 (a1 + 1))) == 45) t361 ((a0.extract ((wrap64 ((wrap64 (a1 + 1)) + 1)) : Int).toNat (t361 : Int).toNat).extract (t362 : Int).toNat (t361.toNat - ((wrap64 ((wrap64 (a1 + 1)) + 1)) : Int).toNat)) 0 0) else (none)) else (none))) else (none)) else (none)) else (none)))) else (if (bt a0 (wrap64 (a1 + 1))) = 43 then ((millref3_run.f k a0 (wrap64 ((wrap64 (a1 + 1)) + 1))).bind fun t363 => (if t363 = (wrap64 ((wrap64 (a1 + 1)) + 1)) then (some (0, a1)) else (if 0 ≤ (wrap64 ((wrap64 (a1 + 1)) + 1)) then (if (wrap64 ((wrap64 (a1 + 1)) + 1)) ≤ t363 then (if t363 ≤ (a0.size : Int) then ((millref3_zeros.f k (a0.extract ((wrap64 ((wrap64 (a1 + 1)) + 1)) : Int).toNat (t363 : Int).toNat)).bind fun t364 => (if 0 ≤ t364 then (if t364 ≤ ((t363.toNat - ((wrap64 ((wrap64 (a1 + 1)) + 1)) : Int).toNat : Nat) : Int) then (millref3_exponent.l0 k ((bt a0 (wrap64 (a1 + 1))) == 45) t363 ((a0.extract ((wrap64 ((wrap64 (a1 + 1)) + 1)) : Int).toNat (t363 : Int).toNat).extract (t364 : Int).toNat (t363.toNat - ((wrap64 ((wrap64 (a1 + 1)) + 1)) : Int).toNat)) 0 0) else (none)) else (none))) else (none)) else (none)) else (none)))) else ((millref3_run.f k a0 (wrap64 (a1 + 1))).bind fun t365 => (if t365 = (wrap64 (a1 + 1)) then (some (0, a1)) else (if (wrap64 (a1 + 1)) ≤ t365 then (if t365 ≤ (a0.size : Int) then ((millref3_zeros.f k (a0.extract ((wrap64 (a1 + 1)) : Int).toNat (t365 : Int).toNat)).bind fun t366 => (if 0 ≤ t366 then (if t366 ≤ ((t365.toNat - ((wrap64 (a1 + 1)) : Int).toNat : Nat) : Int) then (millref3_exponent.l0 k false t365 ((a0.extract ((wrap64 (a1 + 1)) : Int).toNat (t365 : Int).toNat).extract (t366 : Int).toNat (t365.toNat - ((wrap64 (a1 + 1)) : Int).toNat)) 0 0) else (none)) else (none))) else (none)) else (none)))))) else (none)) else ((millref3_run.f k a0 (wrap64 (a1 + 1))).bind fun t367 => (if t367 = (wrap64 (a1 + 1)) then (some (0, a1)) else (if 0 ≤ (wrap64 (a1 + 1)) then (if (wrap64 (a1 + 1)) ≤ t367 then (if t367 ≤ (a0.size : Int) then ((millref3_zeros.f k (a0.extract ((wrap64 (a1 + 1)) : Int).toNat (t367 : Int).toNat)).bind fun t368 => (if 0 ≤ t368 then (if t368 ≤ ((t367.toNat - ((wrap64 (a1 + 1)) : Int).toNat : Nat) : Int) then (millref3_exponent.l0 k false t367 ((a0.extract ((wrap64 (a1 + 1)) : Int).toNat (t367 : Int).toNat).extract (t368 : Int).toNat (t367.toNat - ((wrap64 (a1 + 1)) : Int).toNat)) 0 0) else (none)) else (none))) else (none)) else (none)) else (none))))) else (some (0, a1))) = some (r1, r2) := H
    have A7 := Aside0.mk A70
    clear A70
    by_cases c8 : t360 = 101
    ·
     rw [if_pos c8] at H
     have c8b0 : (t360 == 101) = true := beq_iff_eq.mpr c8
     have c8b1 : (t360 != 101) = false := bne_eq_false_iff_eq.mpr c8
     clear c8
     by_cases c9 : (wrap64 (a1 + 1)) < (a0.size : Int)
     ·
      rw [if_pos c9] at H
      have c9b0 : decide ((wrap64 (a1 + 1)) < (a0.size : Int)) = true := decide_eq_true c9
      clear c9
      obtain ⟨ji10, hji10⟩ : ∃ j_ : Int, (wrap64 (a1 + 1)) = j_ := ⟨_, rfl⟩
      replace H : (if 0 ≤ (ji10) then (if (bt a0 (ji10)) = 45 then ((millref3_run.f k a0 (wrap64 ((ji10) + 1))).bind fun t361 => (if t361 = (wrap64 ((ji10) + 1)) then (some (0, a1)) else (if 0 ≤ (wrap64 ((ji10) + 1)) then (if (wrap64 ((ji10) + 1)) ≤ t361 then (if t361 ≤ (a0.size : Int) then ((millref3_zeros.f k (a0.extract ((wrap64 ((ji10) + 1)) : Int).toNat (t361 : Int).toNat)).bind fun t362 => (if 0 ≤ t362 then (if t362 ≤ ((t361.toNat - ((wrap64 ((ji10) + 1)) : Int).toNat : Nat) : Int) then (millref3_exponent.l0 k ((bt a0 (ji10)) == 45) t361 ((a0.extract ((wrap64 ((ji10) + 1)) : Int).toNat (t361 : Int).toNat).extract (t362 : Int).toNat (t361.toNat - ((wrap64 ((ji10) + 1)) : Int).toNat)) 0 0) else (none)) else (none))) else (none)) else (none)) else (none)))) else (if (bt a0 (ji10)) = 43 then ((millref3_run.f k a0 (wrap64 ((ji10) + 1))).bind fun t363 => (if t363 = (wrap64 ((ji10) + 1)) then (some (0, a1)) else (if 0 ≤ (wrap64 ((ji10) + 1)) then (if (wrap64 ((ji10) + 1)) ≤ t363 then (if t363 ≤ (a0.size : Int) then ((millref3_zeros.f k (a0.extract ((wrap64 ((ji10) + 1)) : Int).toNat (t363 : Int).toNat)).bind fun t364 => (if 0 ≤ t364 then (if t364 ≤ ((t363.toNat - ((wrap64 ((ji10) + 1)) : Int).toNat : Nat) : Int) then (millref3_exponent.l0 k ((bt a0 (ji10)) == 45) t363 ((a0.extract ((wrap64 ((ji10) + 1)) : Int).toNat (t363 : Int).toNat).extract (t364 : Int).toNat (t363.toNat - ((wrap64 ((ji10) + 1)) : Int).toNat)) 0 0) else (none)) else (none))) else (none)) else (none)) else (none)))) else ((millref3_run.f k a0 (ji10)).bind fun t365 => (if t365 = (ji10) then (some (0, a1)) else (if (ji10) ≤ t365 then (if t365 ≤ (a0.size : Int) then ((millref3_zeros.f k (a0.extract ((ji10) : Int).toNat (t365 : Int).toNat)).bind fun t366 => (if 0 ≤ t366 then (if t366 ≤ ((t365.toNat - ((ji10) : Int).toNat : Nat) : Int) then (millref3_exponent.l0 k false t365 ((a0.extract ((ji10) : Int).toNat (t365 : Int).toNat).extract (t366 : Int).toNat (t365.toNat - ((ji10) : Int).toNat)) 0 0) else (none)) else (none))) else (none)) else (none)))))) else (none)) = some (r1, r2) := by first | (rw [hji10] at H; exact H) | (simp only [hji10] at H ⊢; exact H)
      (try rw [hji10] at c9b0)
      (try rw [hji10] at A7)
      have hji10w : (IntKind.i64.wrap (a1 + 1)) = ji10 := (i64_w _).trans hji10
      by_cases c11 : 0 ≤ (ji10)
      ·
       rw [if_pos c11] at H
       have c11b0 : decide (0 ≤ (ji10)) = true := decide_eq_true c11
       clear c11
       by_cases c13 : (bt a0 (ji10)) = 45
       ·
        rw [if_pos c13] at H
        have c13b0 : ((bt a0 (ji10)) == 45) = true := beq_iff_eq.mpr c13
        have c13b1 : ((bt a0 (ji10)) != 45) = false := bne_eq_false_iff_eq.mpr c13
        clear c13
        replace H := Option.bind_eq_some_iff.mp H
        obtain ⟨t361, A150, H⟩ := H
        replace H : (if t361 = (wrap64 ((ji10) + 1)) then (some (0, a1)) else (if 0 ≤ (wrap64 ((ji10) + 1)) then (if (wrap64 ((ji10) + 1)) ≤ t361 then (if t361 ≤ (a0.size : Int) then ((millref3_zeros.f k (a0.extract ((wrap64 ((ji10) + 1)) : Int).toNat (t361 : Int).toNat)).bind fun t362 => (if 0 ≤ t362 then (if t362 ≤ ((t361.toNat - ((wrap64 ((ji10) + 1)) : Int).toNat : Nat) : Int) then (millref3_exponent.l0 k ((bt a0 (ji10)) == 45) t361 ((a0.extract ((wrap64 ((ji10) + 1)) : Int).toNat (t361 : Int).toNat).extract (t362 : Int).toNat (t361.toNat - ((wrap64 ((ji10) + 1)) : Int).toNat)) 0 0) else (none)) else (none))) else (none)) else (none)) else (none))) = some (r1, r2) := H
        have A15 := Aside0.mk A150
        clear A150
        by_cases c16 : t361 = (wrap64 ((ji10) + 1))
        ·
         rw [if_pos c16] at H
         have c16b0 : (t361 == (wrap64 ((ji10) + 1))) = true := beq_iff_eq.mpr c16
         have c16b1 : (t361 != (wrap64 ((ji10) + 1))) = false := bne_eq_false_iff_eq.mpr c16
         clear c16
         simp only [Option.some.injEq, Prod.mk.injEq] at H
         obtain ⟨rfl, rfl⟩ := H
         have p6 : 0 ≤ (a1 : Int) := of_decide_eq_true qng3_
         have q6 : a1 < (a0.size : Int) := of_decide_eq_true qng3_
         have hx6 := bt_at a0 a1
         replace p6 := eq_true p6
         replace q6 := eq_true q6
         go_enter Tryd.func47, Tryd.ntmps47
         have tk17 : True := trivial; have tk18 : True := trivial
         go_wp2_with (first | (have ztk17 := tk17; clear tk17 ztk17; go_at_call 70; (with_reducible refine (millref3_low.calls (bt a0 a1) t360 _ A7.out).mono ?_); rintro e w' ⟨rfl, ⟨nd, rfl⟩⟩; have p12 : 0 ≤ ((ji10) : Int) := of_decide_eq_true qng3_; have q12 : (ji10) < (a0.size : Int) := of_decide_eq_true qng3_; have hx12 := bt_at a0 (ji10); replace p12 := eq_true p12; replace q12 := eq_true q12; have p14 : 0 ≤ ((ji10) : Int) := of_decide_eq_true qng3_; have q14 : (ji10) < (a0.size : Int) := of_decide_eq_true qng3_; have hx14 := bt_at a0 (ji10); replace p14 := eq_true p14; replace q14 := eq_true q14) | (have ztk18 := tk18; clear tk18 ztk18; (with_reducible refine gate_callee (f := 71) rfl ?_); refine goesL_ (some 50) rfl rfl Tryd.func71 (by kernel_rfl) rfl #[.string a0, .int .i64 (wrap64 ((ji10) + 1))] rfl qng52_ ?_; (with_reducible refine (millref3_run.calls k a0 (wrap64 ((ji10) + 1)) t361 _ A15.out).mono ?_); rintro e w' ⟨rfl, ⟨nd, rfl⟩⟩; refine ⟨_, rfl, ?_⟩))
         go_ret2
         exact ⟨qng26_, qng4_⟩
        ·
         rw [if_neg c16] at H
         have c16b0 : (t361 == (wrap64 ((ji10) + 1))) = false := beq_eq_false_iff_ne.mpr c16
         have c16b1 : (t361 != (wrap64 ((ji10) + 1))) = true := bne_iff_ne.mpr c16
         obtain ⟨ji19, hji19⟩ : ∃ j_ : Int, (wrap64 ((ji10) + 1)) = j_ := ⟨_, rfl⟩
         replace H : (if 0 ≤ (ji19) then (if (ji19) ≤ t361 then (if t361 ≤ (a0.size : Int) then ((millref3_zeros.f k (a0.extract ((ji19) : Int).toNat (t361 : Int).toNat)).bind fun t362 => (if 0 ≤ t362 then (if t362 ≤ ((t361.toNat - ((ji19) : Int).toNat : Nat) : Int) then (millref3_exponent.l0 k ((bt a0 (ji10)) == 45) t361 ((a0.extract ((ji19) : Int).toNat (t361 : Int).toNat).extract (t362 : Int).toNat (t361.toNat - ((ji19) : Int).toNat)) 0 0) else (none)) else (none))) else (none)) else (none)) else (none)) = some (r1, r2) := by first | (rw [hji19] at H; exact H) | (simp only [hji19] at H ⊢; exact H)
         (try rw [hji19] at c16b0)
         (try rw [hji19] at c16b1)
         (try rw [hji19] at A7)
         (try rw [hji19] at A15)
         have hji19w : (IntKind.i64.wrap ((ji10) + 1)) = ji19 := (i64_w _).trans hji19
         by_cases c20 : 0 ≤ (ji19)
         ·
          rw [if_pos c20] at H
          have c20b0 := eq_true c20
          have c20b1 : decide (0 ≤ (ji19)) = true := decide_eq_true c20
          clear c20
          by_cases c21 : (ji19) ≤ t361
          ·
           rw [if_pos c21] at H
           have c21b0 := eq_true c21
           have c21b1 : decide ((ji19) ≤ t361) = true := decide_eq_true c21
           clear c21
           by_cases c22 : t361 ≤ (a0.size : Int)
           ·
            rw [if_pos c22] at H
            have c22b0 := eq_true c22
            have c22b1 : decide (t361 ≤ (a0.size : Int)) = true := decide_eq_true c22
            clear c22
            replace H := Option.bind_eq_some_iff.mp H
            obtain ⟨t362, A230, H⟩ := H
            replace H : (if 0 ≤ t362 then (if t362 ≤ ((t361.toNat - ((ji19) : Int).toNat : Nat) : Int) then (millref3_exponent.l0 k ((bt a0 (ji10)) == 45) t361 ((a0.extract ((ji19) : Int).toNat (t361 : Int).toNat).extract (t362 : Int).toNat (t361.toNat - ((ji19) : Int).toNat)) 0 0) else (none)) else (none)) = some (r1, r2) := H
            have A23 := Aside0.mk A230
            clear A230
            by_cases c24 : 0 ≤ t362
            ·
             rw [if_pos c24] at H
             have c24b0 := eq_true c24
             have c24b1 : decide (0 ≤ t362) = true := decide_eq_true c24
             clear c24
             by_cases c25 : t362 ≤ ((t361.toNat - ((ji19) : Int).toNat : Nat) : Int)
             ·
              rw [if_pos c25] at H
              have c25x := c25
              (try simp [*, -c25, -H] at c25x)
              have c25b0 := eq_true c25
              have c25b1 : decide (t362 ≤ ((t361.toNat - ((ji19) : Int).toNat : Nat) : Int)) = true := decide_eq_true c25
              clear c25
              have H' := Aside0.mk H
              clear H
              have p6 : 0 ≤ (a1 : Int) := of_decide_eq_true qng3_
              have q6 : a1 < (a0.size : Int) := of_decide_eq_true qng3_
              have hx6 := bt_at a0 a1
              replace p6 := eq_true p6
              replace q6 := eq_true q6
              go_enter Tryd.func47, Tryd.ntmps47
              have tk26 : True := trivial; have tk27 : True := trivial; have tk28 : True := trivial
              go_wp2_with (first | (have ztk26 := tk26; clear tk26 ztk26; go_at_call 70; (with_reducible refine (millref3_low.calls (bt a0 a1) t360 _ A7.out).mono ?_); rintro e w' ⟨rfl, ⟨nd, rfl⟩⟩; have p12 : 0 ≤ ((ji10) : Int) := of_decide_eq_true qng3_; have q12 : (ji10) < (a0.size : Int) := of_decide_eq_true qng3_; have hx12 := bt_at a0 (ji10); replace p12 := eq_true p12; replace q12 := eq_true q12; have p14 : 0 ≤ ((ji10) : Int) := of_decide_eq_true qng3_; have q14 : (ji10) < (a0.size : Int) := of_decide_eq_true qng3_; have hx14 := bt_at a0 (ji10); replace p14 := eq_true p14; replace q14 := eq_true q14) | (have ztk27 := tk27; clear tk27 ztk27; (with_reducible refine gate_callee (f := 71) rfl ?_); refine goesL_ (some 50) rfl rfl Tryd.func71 (by kernel_rfl) rfl #[.string a0, .int .i64 ji19] rfl (by (try simp only [List.map_toArray, List.map_cons, List.map_nil]); first | done | (simp only [hji19]; rfl) | rfl | (simp only [List.length_drop, List.length_take]; rfl) | (simp; done) | (simp; omega)) ?_; (with_reducible refine (millref3_run.calls k a0 ji19 t361 _ A15.out).mono ?_); rintro e w' ⟨rfl, ⟨nd, rfl⟩⟩; refine ⟨_, rfl, ?_⟩) | (have ztk28 := tk28; clear tk28 ztk28; (with_reducible refine gate_callee (f := 42) rfl ?_); refine goesL_ (some 61) rfl rfl Tryd.func42 (by kernel_rfl) rfl #[.string (a0.extract ((ji19) : Int).toNat (t361 : Int).toNat)] rfl (by (try simp only [List.map_toArray, List.map_cons, List.map_nil]); first | done | (simp only [hji19]; rfl) | rfl | (simp only [List.length_drop, List.length_take]; rfl) | (simp; done) | (simp; omega)) ?_; (with_reducible refine (millref3_zeros.calls k (a0.extract ((ji19) : Int).toNat (t361 : Int).toNat) t362 _ A23.out).mono ?_); rintro e w' ⟨rfl, ⟨nd, rfl⟩⟩; refine ⟨_, rfl, ?_⟩))
              go_loopg [10, 11] k (fun kq v10 v11 w' => ∃ (x10_1 : Int) (x11_1 : Int), v10 = .int .i64 x10_1 ∧ v11 = .int .i64 x11_1 ∧ Aside0 (millref3_exponent.l0 kq ((bt a0 (ji10)) == 45) t361 ((a0.extract ((ji19) : Int).toNat (t361 : Int).toNat).extract (t362 : Int).toNat (t361.toNat - ((ji19) : Int).toNat)) x10_1 x11_1 = some (r1, r2)) ∧ Aside0 (kq ≤ k) ∧ Drawn0 w w')
              case atStart => exact ⟨(0), (0), qng2_, qng2_, H', ⟨Nat.le_refl _⟩, qng4_⟩
              case round =>
               clear H'
               obtain ⟨x10_1, x11_1, rfl, rfl, HA, HK1, ⟨m1, rfl⟩⟩ := hrel
               cases gk with
               | zero => exact absurd HA.out (by simp [millref3_exponent.l0])
               | succ k1 =>
                have H := HA.out
                clear HA
                simp only [millref3_exponent.l0] at H
                by_cases c29 : x11_1 < (((a0.extract ((ji19) : Int).toNat (t361 : Int).toNat).extract (t362 : Int).toNat (t361.toNat - ((ji19) : Int).toNat)).size : Int)
                ·
                 rw [if_pos c29] at H
                 have c29x := c29
                 (try simp [*, -c29, -H] at c29x)
                 have c29b0 : decide (x11_1 < (((a0.extract ((ji19) : Int).toNat (t361 : Int).toNat).extract (t362 : Int).toNat (t361.toNat - ((ji19) : Int).toNat)).size : Int)) = true := decide_eq_true c29
                 clear c29
                 by_cases c30 : x11_1 < 14
                 ·
                  rw [if_pos c30] at H
                  have c30b0 : decide (x11_1 < 14) = true := decide_eq_true c30
                  clear c30
                  by_cases c31 : 0 ≤ x11_1
                  ·
                   rw [if_pos c31] at H
                   have c31b0 : decide (0 ≤ x11_1) = true := decide_eq_true c31
                   clear c31
                   have H' := Aside0.mk H
                   clear H
                   have p32 : 0 ≤ (x11_1 : Int) := of_decide_eq_true qng3_
                   have q32 : x11_1 < (((a0.extract ((ji19) : Int).toNat (t361 : Int).toNat).extract (t362 : Int).toNat (t361.toNat - ((ji19) : Int).toNat)).size : Int) := of_decide_eq_true qng3_
                   have hx32 := bt_at ((a0.extract ((ji19) : Int).toNat (t361 : Int).toNat).extract (t362 : Int).toNat (t361.toNat - ((ji19) : Int).toNat)) x11_1
                   replace p32 := eq_true p32
                   replace q32 := eq_true q32
                   go_wp2
                   go_roundg k1
                   case measure => have := HK1.out; omega
                   case rel => exact ⟨(wrap64 ((wrap64 (10 * x10_1)) + (((bt ((a0.extract ((ji19) : Int).toNat (t361 : Int).toNat).extract (t362 : Int).toNat (t361.toNat - ((ji19) : Int).toNat)) x11_1) - 48) % 256))), (wrap64 (x11_1 + 1)), (by first | rfl | (simp; done) | (simp only [← hji19] <;> (first | rfl | simp); done) | (simp [*]; done) | (simp; simp only [eq_iff_iff, iff_true] at *; omega) | (exfalso; simp_all; done)), qng2_, H', ⟨by have := HK1.out; omega⟩, qng4_⟩
                  ·
                   rw [if_neg c31] at H
                   exact absurd H (by simp)
                 ·
                  rw [if_neg c30] at H
                  have c30b0 : decide (x11_1 < 14) = false := decide_eq_false c30
                  clear c30
                  by_cases c33 : x10_1 > 1099511627776
                  ·
                   rw [if_pos c33] at H
                   have c33b0 : decide (1099511627776 < x10_1) = true := decide_eq_true c33
                   clear c33
                   by_cases c34 : ((bt a0 (ji10)) == 45) = true
                   ·
                    rw [if_pos c34] at H
                    have c34b0 : ((bt a0 (ji10)) == 45) = true := c34
                    (try (have c34b1 : decide ((bt a0 (ji10)) = 45) = true := by simpa using c34))
                    (try (have c34b2 : ((bt a0 (ji10)) == 45) = true := by simpa using c34))
                    clear c34
                    simp only [Option.some.injEq, Prod.mk.injEq] at H
                    obtain ⟨rfl, rfl⟩ := H
                    go_wp2
                    go_ret2
                    exact ⟨qng22_, qng4_⟩
                   ·
                    rw [if_neg c34] at H
                    have c34b0 : ((bt a0 (ji10)) == 45) = false := by simpa using c34
                    (try (have c34b1 : decide ((bt a0 (ji10)) = 45) = false := by simpa using c34))
                    (try (have c34b2 : ((bt a0 (ji10)) == 45) = false := by simpa using c34))
                    (try (have c34b3 : ¬ ((bt a0 (ji10)) = 45) := by simpa using c34))
                    clear c34
                    simp only [Option.some.injEq, Prod.mk.injEq] at H
                    obtain ⟨rfl, rfl⟩ := H
                    go_wp2
                    go_ret2
                    exact ⟨qng22_, qng4_⟩
                  ·
                   rw [if_neg c33] at H
                   have c33b0 : decide (1099511627776 < x10_1) = false := decide_eq_false c33
                   clear c33
                   by_cases c35 : (((a0.extract ((ji19) : Int).toNat (t361 : Int).toNat).extract (t362 : Int).toNat (t361.toNat - ((ji19) : Int).toNat)).size : Int) > 14
                   ·
                    rw [if_pos c35] at H
                    have c35x := c35
                    (try simp [*, -c35, -H] at c35x)
                    have c35b0 : decide (14 < (((a0.extract ((ji19) : Int).toNat (t361 : Int).toNat).extract (t362 : Int).toNat (t361.toNat - ((ji19) : Int).toNat)).size : Int)) = true := decide_eq_true c35
                    have c35b1 : decide (14 < ((a0.extract ((ji19) : Int).toNat (t361 : Int).toNat).extract (t362 : Int).toNat (t361.toNat - ((ji19) : Int).toNat)).size) = true := decide_eq_true (by omega)
                    clear c35
                    by_cases c36 : ((bt a0 (ji10)) == 45) = true
                    ·
                     rw [if_pos c36] at H
                     have c36b0 : ((bt a0 (ji10)) == 45) = true := c36
                     (try (have c36b1 : decide ((bt a0 (ji10)) = 45) = true := by simpa using c36))
                     (try (have c36b2 : ((bt a0 (ji10)) == 45) = true := by simpa using c36))
                     clear c36
                     simp only [Option.some.injEq, Prod.mk.injEq] at H
                     obtain ⟨rfl, rfl⟩ := H
                     go_wp2
                     go_ret2
                     exact ⟨qng22_, qng4_⟩
                    ·
                     rw [if_neg c36] at H
                     have c36b0 : ((bt a0 (ji10)) == 45) = false := by simpa using c36
                     (try (have c36b1 : decide ((bt a0 (ji10)) = 45) = false := by simpa using c36))
                     (try (have c36b2 : ((bt a0 (ji10)) == 45) = false := by simpa using c36))
                     (try (have c36b3 : ¬ ((bt a0 (ji10)) = 45) := by simpa using c36))
                     clear c36
                     simp only [Option.some.injEq, Prod.mk.injEq] at H
                     obtain ⟨rfl, rfl⟩ := H
                     go_wp2
                     go_ret2
                     exact ⟨qng22_, qng4_⟩
                   ·
                    rw [if_neg c35] at H
                    have c35x := c35
                    (try simp [*, -c35, -H] at c35x)
                    have c35b0 : decide (14 < (((a0.extract ((ji19) : Int).toNat (t361 : Int).toNat).extract (t362 : Int).toNat (t361.toNat - ((ji19) : Int).toNat)).size : Int)) = false := decide_eq_false c35
                    have c35b1 : decide (14 < ((a0.extract ((ji19) : Int).toNat (t361 : Int).toNat).extract (t362 : Int).toNat (t361.toNat - ((ji19) : Int).toNat)).size) = false := decide_eq_false (by omega)
                    clear c35
                    by_cases c37 : ((bt a0 (ji10)) == 45) = true
                    ·
                     rw [if_pos c37] at H
                     have c37b0 : ((bt a0 (ji10)) == 45) = true := c37
                     (try (have c37b1 : decide ((bt a0 (ji10)) = 45) = true := by simpa using c37))
                     (try (have c37b2 : ((bt a0 (ji10)) == 45) = true := by simpa using c37))
                     clear c37
                     simp only [Option.some.injEq, Prod.mk.injEq] at H
                     obtain ⟨rfl, rfl⟩ := H
                     go_wp2
                     go_ret2
                     exact ⟨qng22_, qng4_⟩
                    ·
                     rw [if_neg c37] at H
                     have c37b0 : ((bt a0 (ji10)) == 45) = false := by simpa using c37
                     (try (have c37b1 : decide ((bt a0 (ji10)) = 45) = false := by simpa using c37))
                     (try (have c37b2 : ((bt a0 (ji10)) == 45) = false := by simpa using c37))
                     (try (have c37b3 : ¬ ((bt a0 (ji10)) = 45) := by simpa using c37))
                     clear c37
                     simp only [Option.some.injEq, Prod.mk.injEq] at H
                     obtain ⟨rfl, rfl⟩ := H
                     go_wp2
                     go_ret2
                     exact ⟨qng22_, qng4_⟩
                ·
                 rw [if_neg c29] at H
                 have c29x := c29
                 (try simp [*, -c29, -H] at c29x)
                 have c29b0 : decide (x11_1 < (((a0.extract ((ji19) : Int).toNat (t361 : Int).toNat).extract (t362 : Int).toNat (t361.toNat - ((ji19) : Int).toNat)).size : Int)) = false := decide_eq_false c29
                 clear c29
                 by_cases c38 : x10_1 > 1099511627776
                 ·
                  rw [if_pos c38] at H
                  have c38b0 : decide (1099511627776 < x10_1) = true := decide_eq_true c38
                  clear c38
                  by_cases c39 : ((bt a0 (ji10)) == 45) = true
                  ·
                   rw [if_pos c39] at H
                   have c39b0 : ((bt a0 (ji10)) == 45) = true := c39
                   (try (have c39b1 : decide ((bt a0 (ji10)) = 45) = true := by simpa using c39))
                   (try (have c39b2 : ((bt a0 (ji10)) == 45) = true := by simpa using c39))
                   clear c39
                   simp only [Option.some.injEq, Prod.mk.injEq] at H
                   obtain ⟨rfl, rfl⟩ := H
                   go_wp2
                   go_ret2
                   exact ⟨qng22_, qng4_⟩
                  ·
                   rw [if_neg c39] at H
                   have c39b0 : ((bt a0 (ji10)) == 45) = false := by simpa using c39
                   (try (have c39b1 : decide ((bt a0 (ji10)) = 45) = false := by simpa using c39))
                   (try (have c39b2 : ((bt a0 (ji10)) == 45) = false := by simpa using c39))
                   (try (have c39b3 : ¬ ((bt a0 (ji10)) = 45) := by simpa using c39))
                   clear c39
                   simp only [Option.some.injEq, Prod.mk.injEq] at H
                   obtain ⟨rfl, rfl⟩ := H
                   go_wp2
                   go_ret2
                   exact ⟨qng22_, qng4_⟩
                 ·
                  rw [if_neg c38] at H
                  have c38b0 : decide (1099511627776 < x10_1) = false := decide_eq_false c38
                  clear c38
                  by_cases c40 : (((a0.extract ((ji19) : Int).toNat (t361 : Int).toNat).extract (t362 : Int).toNat (t361.toNat - ((ji19) : Int).toNat)).size : Int) > 14
                  ·
                   rw [if_pos c40] at H
                   have c40x := c40
                   (try simp [*, -c40, -H] at c40x)
                   have c40b0 : decide (14 < (((a0.extract ((ji19) : Int).toNat (t361 : Int).toNat).extract (t362 : Int).toNat (t361.toNat - ((ji19) : Int).toNat)).size : Int)) = true := decide_eq_true c40
                   have c40b1 : decide (14 < ((a0.extract ((ji19) : Int).toNat (t361 : Int).toNat).extract (t362 : Int).toNat (t361.toNat - ((ji19) : Int).toNat)).size) = true := decide_eq_true (by omega)
                   clear c40
                   by_cases c41 : ((bt a0 (ji10)) == 45) = true
                   ·
                    rw [if_pos c41] at H
                    have c41b0 : ((bt a0 (ji10)) == 45) = true := c41
                    (try (have c41b1 : decide ((bt a0 (ji10)) = 45) = true := by simpa using c41))
                    (try (have c41b2 : ((bt a0 (ji10)) == 45) = true := by simpa using c41))
                    clear c41
                    simp only [Option.some.injEq, Prod.mk.injEq] at H
                    obtain ⟨rfl, rfl⟩ := H
                    go_wp2
                    go_ret2
                    exact ⟨qng22_, qng4_⟩
                   ·
                    rw [if_neg c41] at H
                    have c41b0 : ((bt a0 (ji10)) == 45) = false := by simpa using c41
                    (try (have c41b1 : decide ((bt a0 (ji10)) = 45) = false := by simpa using c41))
                    (try (have c41b2 : ((bt a0 (ji10)) == 45) = false := by simpa using c41))
                    (try (have c41b3 : ¬ ((bt a0 (ji10)) = 45) := by simpa using c41))
                    clear c41
                    simp only [Option.some.injEq, Prod.mk.injEq] at H
                    obtain ⟨rfl, rfl⟩ := H
                    go_wp2
                    go_ret2
                    exact ⟨qng22_, qng4_⟩
                  ·
                   rw [if_neg c40] at H
                   have c40x := c40
                   (try simp [*, -c40, -H] at c40x)
                   have c40b0 : decide (14 < (((a0.extract ((ji19) : Int).toNat (t361 : Int).toNat).extract (t362 : Int).toNat (t361.toNat - ((ji19) : Int).toNat)).size : Int)) = false := decide_eq_false c40
                   have c40b1 : decide (14 < ((a0.extract ((ji19) : Int).toNat (t361 : Int).toNat).extract (t362 : Int).toNat (t361.toNat - ((ji19) : Int).toNat)).size) = false := decide_eq_false (by omega)
                   clear c40
                   by_cases c42 : ((bt a0 (ji10)) == 45) = true
                   ·
                    rw [if_pos c42] at H
                    have c42b0 : ((bt a0 (ji10)) == 45) = true := c42
                    (try (have c42b1 : decide ((bt a0 (ji10)) = 45) = true := by simpa using c42))
                    (try (have c42b2 : ((bt a0 (ji10)) == 45) = true := by simpa using c42))
                    clear c42
                    simp only [Option.some.injEq, Prod.mk.injEq] at H
                    obtain ⟨rfl, rfl⟩ := H
                    go_wp2
                    go_ret2
                    exact ⟨qng22_, qng4_⟩
                   ·
                    rw [if_neg c42] at H
                    have c42b0 : ((bt a0 (ji10)) == 45) = false := by simpa using c42
                    (try (have c42b1 : decide ((bt a0 (ji10)) = 45) = false := by simpa using c42))
                    (try (have c42b2 : ((bt a0 (ji10)) == 45) = false := by simpa using c42))
                    (try (have c42b3 : ¬ ((bt a0 (ji10)) = 45) := by simpa using c42))
                    clear c42
                    simp only [Option.some.injEq, Prod.mk.injEq] at H
                    obtain ⟨rfl, rfl⟩ := H
                    go_wp2
                    go_ret2
                    exact ⟨qng22_, qng4_⟩
             ·
              rw [if_neg c25] at H
              exact absurd H (by simp)
            ·
             rw [if_neg c24] at H
             exact absurd H (by simp)
           ·
            rw [if_neg c22] at H
            exact absurd H (by simp)
          ·
           rw [if_neg c21] at H
           exact absurd H (by simp)
         ·
          rw [if_neg c20] at H
          exact absurd H (by simp)
       ·
        rw [if_neg c13] at H
        have c13b0 : ((bt a0 (ji10)) == 45) = false := beq_eq_false_iff_ne.mpr c13
        have c13b1 : ((bt a0 (ji10)) != 45) = true := bne_iff_ne.mpr c13
        by_cases c44 : (bt a0 (ji10)) = 43
        ·
         rw [if_pos c44] at H
         have c44b0 : ((bt a0 (ji10)) == 43) = true := beq_iff_eq.mpr c44
         have c44b1 : ((bt a0 (ji10)) != 43) = false := bne_eq_false_iff_eq.mpr c44
         clear c44
         replace H := Option.bind_eq_some_iff.mp H
         obtain ⟨t363, A460, H⟩ := H
         replace H : (if t363 = (wrap64 ((ji10) + 1)) then (some (0, a1)) else (if 0 ≤ (wrap64 ((ji10) + 1)) then (if (wrap64 ((ji10) + 1)) ≤ t363 then (if t363 ≤ (a0.size : Int) then ((millref3_zeros.f k (a0.extract ((wrap64 ((ji10) + 1)) : Int).toNat (t363 : Int).toNat)).bind fun t364 => (if 0 ≤ t364 then (if t364 ≤ ((t363.toNat - ((wrap64 ((ji10) + 1)) : Int).toNat : Nat) : Int) then (millref3_exponent.l0 k ((bt a0 (ji10)) == 45) t363 ((a0.extract ((wrap64 ((ji10) + 1)) : Int).toNat (t363 : Int).toNat).extract (t364 : Int).toNat (t363.toNat - ((wrap64 ((ji10) + 1)) : Int).toNat)) 0 0) else (none)) else (none))) else (none)) else (none)) else (none))) = some (r1, r2) := H
         have A46 := Aside0.mk A460
         clear A460
         by_cases c47 : t363 = (wrap64 ((ji10) + 1))
         ·
          rw [if_pos c47] at H
          have c47b0 : (t363 == (wrap64 ((ji10) + 1))) = true := beq_iff_eq.mpr c47
          have c47b1 : (t363 != (wrap64 ((ji10) + 1))) = false := bne_eq_false_iff_eq.mpr c47
          clear c47
          simp only [Option.some.injEq, Prod.mk.injEq] at H
          obtain ⟨rfl, rfl⟩ := H
          have p6 : 0 ≤ (a1 : Int) := of_decide_eq_true qng3_
          have q6 : a1 < (a0.size : Int) := of_decide_eq_true qng3_
          have hx6 := bt_at a0 a1
          replace p6 := eq_true p6
          replace q6 := eq_true q6
          go_enter Tryd.func47, Tryd.ntmps47
          have tk48 : True := trivial; have tk49 : True := trivial
          go_wp2_with (first | (have ztk48 := tk48; clear tk48 ztk48; go_at_call 70; (with_reducible refine (millref3_low.calls (bt a0 a1) t360 _ A7.out).mono ?_); rintro e w' ⟨rfl, ⟨nd, rfl⟩⟩; have p12 : 0 ≤ ((ji10) : Int) := of_decide_eq_true qng3_; have q12 : (ji10) < (a0.size : Int) := of_decide_eq_true qng3_; have hx12 := bt_at a0 (ji10); replace p12 := eq_true p12; replace q12 := eq_true q12; have p43 : 0 ≤ ((ji10) : Int) := of_decide_eq_true qng3_; have q43 : (ji10) < (a0.size : Int) := of_decide_eq_true qng3_; have hx43 := bt_at a0 (ji10); replace p43 := eq_true p43; replace q43 := eq_true q43; have p45 : 0 ≤ ((ji10) : Int) := of_decide_eq_true qng3_; have q45 : (ji10) < (a0.size : Int) := of_decide_eq_true qng3_; have hx45 := bt_at a0 (ji10); replace p45 := eq_true p45; replace q45 := eq_true q45) | (have ztk49 := tk49; clear tk49 ztk49; (with_reducible refine gate_callee (f := 71) rfl ?_); refine goesL_ (some 50) rfl rfl Tryd.func71 (by kernel_rfl) rfl #[.string a0, .int .i64 (wrap64 ((ji10) + 1))] rfl qng52_ ?_; (with_reducible refine (millref3_run.calls k a0 (wrap64 ((ji10) + 1)) t363 _ A46.out).mono ?_); rintro e w' ⟨rfl, ⟨nd, rfl⟩⟩; refine ⟨_, rfl, ?_⟩))
          go_ret2
          exact ⟨qng26_, qng4_⟩
         ·
          rw [if_neg c47] at H
          have c47b0 : (t363 == (wrap64 ((ji10) + 1))) = false := beq_eq_false_iff_ne.mpr c47
          have c47b1 : (t363 != (wrap64 ((ji10) + 1))) = true := bne_iff_ne.mpr c47
          obtain ⟨ji50, hji50⟩ : ∃ j_ : Int, (wrap64 ((ji10) + 1)) = j_ := ⟨_, rfl⟩
          replace H : (if 0 ≤ (ji50) then (if (ji50) ≤ t363 then (if t363 ≤ (a0.size : Int) then ((millref3_zeros.f k (a0.extract ((ji50) : Int).toNat (t363 : Int).toNat)).bind fun t364 => (if 0 ≤ t364 then (if t364 ≤ ((t363.toNat - ((ji50) : Int).toNat : Nat) : Int) then (millref3_exponent.l0 k ((bt a0 (ji10)) == 45) t363 ((a0.extract ((ji50) : Int).toNat (t363 : Int).toNat).extract (t364 : Int).toNat (t363.toNat - ((ji50) : Int).toNat)) 0 0) else (none)) else (none))) else (none)) else (none)) else (none)) = some (r1, r2) := by first | (rw [hji50] at H; exact H) | (simp only [hji50] at H ⊢; exact H)
          (try rw [hji50] at c47b0)
          (try rw [hji50] at c47b1)
          (try rw [hji50] at A7)
          (try rw [hji50] at A46)
          have hji50w : (IntKind.i64.wrap ((ji10) + 1)) = ji50 := (i64_w _).trans hji50
          by_cases c51 : 0 ≤ (ji50)
          ·
           rw [if_pos c51] at H
           have c51b0 := eq_true c51
           have c51b1 : decide (0 ≤ (ji50)) = true := decide_eq_true c51
           clear c51
           by_cases c52 : (ji50) ≤ t363
           ·
            rw [if_pos c52] at H
            have c52b0 := eq_true c52
            have c52b1 : decide ((ji50) ≤ t363) = true := decide_eq_true c52
            clear c52
            by_cases c53 : t363 ≤ (a0.size : Int)
            ·
             rw [if_pos c53] at H
             have c53b0 := eq_true c53
             have c53b1 : decide (t363 ≤ (a0.size : Int)) = true := decide_eq_true c53
             clear c53
             replace H := Option.bind_eq_some_iff.mp H
             obtain ⟨t364, A540, H⟩ := H
             replace H : (if 0 ≤ t364 then (if t364 ≤ ((t363.toNat - ((ji50) : Int).toNat : Nat) : Int) then (millref3_exponent.l0 k ((bt a0 (ji10)) == 45) t363 ((a0.extract ((ji50) : Int).toNat (t363 : Int).toNat).extract (t364 : Int).toNat (t363.toNat - ((ji50) : Int).toNat)) 0 0) else (none)) else (none)) = some (r1, r2) := H
             have A54 := Aside0.mk A540
             clear A540
             by_cases c55 : 0 ≤ t364
             ·
              rw [if_pos c55] at H
              have c55b0 := eq_true c55
              have c55b1 : decide (0 ≤ t364) = true := decide_eq_true c55
              clear c55
              by_cases c56 : t364 ≤ ((t363.toNat - ((ji50) : Int).toNat : Nat) : Int)
              ·
               rw [if_pos c56] at H
               have c56x := c56
               (try simp [*, -c56, -H] at c56x)
               have c56b0 := eq_true c56
               have c56b1 : decide (t364 ≤ ((t363.toNat - ((ji50) : Int).toNat : Nat) : Int)) = true := decide_eq_true c56
               clear c56
               have H' := Aside0.mk H
               clear H
               have p6 : 0 ≤ (a1 : Int) := of_decide_eq_true qng3_
               have q6 : a1 < (a0.size : Int) := of_decide_eq_true qng3_
               have hx6 := bt_at a0 a1
               replace p6 := eq_true p6
               replace q6 := eq_true q6
               go_enter Tryd.func47, Tryd.ntmps47
               have tk57 : True := trivial; have tk58 : True := trivial; have tk59 : True := trivial
               go_wp2_with (first | (have ztk57 := tk57; clear tk57 ztk57; go_at_call 70; (with_reducible refine (millref3_low.calls (bt a0 a1) t360 _ A7.out).mono ?_); rintro e w' ⟨rfl, ⟨nd, rfl⟩⟩; have p12 : 0 ≤ ((ji10) : Int) := of_decide_eq_true qng3_; have q12 : (ji10) < (a0.size : Int) := of_decide_eq_true qng3_; have hx12 := bt_at a0 (ji10); replace p12 := eq_true p12; replace q12 := eq_true q12; have p43 : 0 ≤ ((ji10) : Int) := of_decide_eq_true qng3_; have q43 : (ji10) < (a0.size : Int) := of_decide_eq_true qng3_; have hx43 := bt_at a0 (ji10); replace p43 := eq_true p43; replace q43 := eq_true q43; have p45 : 0 ≤ ((ji10) : Int) := of_decide_eq_true qng3_; have q45 : (ji10) < (a0.size : Int) := of_decide_eq_true qng3_; have hx45 := bt_at a0 (ji10); replace p45 := eq_true p45; replace q45 := eq_true q45) | (have ztk58 := tk58; clear tk58 ztk58; (with_reducible refine gate_callee (f := 71) rfl ?_); refine goesL_ (some 50) rfl rfl Tryd.func71 (by kernel_rfl) rfl #[.string a0, .int .i64 ji50] rfl (by (try simp only [List.map_toArray, List.map_cons, List.map_nil]); first | done | (simp only [hji50]; rfl) | rfl | (simp only [List.length_drop, List.length_take]; rfl) | (simp; done) | (simp; omega)) ?_; (with_reducible refine (millref3_run.calls k a0 ji50 t363 _ A46.out).mono ?_); rintro e w' ⟨rfl, ⟨nd, rfl⟩⟩; refine ⟨_, rfl, ?_⟩) | (have ztk59 := tk59; clear tk59 ztk59; (with_reducible refine gate_callee (f := 42) rfl ?_); refine goesL_ (some 61) rfl rfl Tryd.func42 (by kernel_rfl) rfl #[.string (a0.extract ((ji50) : Int).toNat (t363 : Int).toNat)] rfl (by (try simp only [List.map_toArray, List.map_cons, List.map_nil]); first | done | (simp only [hji50]; rfl) | rfl | (simp only [List.length_drop, List.length_take]; rfl) | (simp; done) | (simp; omega)) ?_; (with_reducible refine (millref3_zeros.calls k (a0.extract ((ji50) : Int).toNat (t363 : Int).toNat) t364 _ A54.out).mono ?_); rintro e w' ⟨rfl, ⟨nd, rfl⟩⟩; refine ⟨_, rfl, ?_⟩))
               go_loopg [10, 11] k (fun kq v10 v11 w' => ∃ (x10_1 : Int) (x11_1 : Int), v10 = .int .i64 x10_1 ∧ v11 = .int .i64 x11_1 ∧ Aside0 (millref3_exponent.l0 kq ((bt a0 (ji10)) == 45) t363 ((a0.extract ((ji50) : Int).toNat (t363 : Int).toNat).extract (t364 : Int).toNat (t363.toNat - ((ji50) : Int).toNat)) x10_1 x11_1 = some (r1, r2)) ∧ Aside0 (kq ≤ k) ∧ Drawn0 w w')
               case atStart => exact ⟨(0), (0), qng2_, qng2_, H', ⟨Nat.le_refl _⟩, qng4_⟩
               case round =>
                clear H'
                obtain ⟨x10_1, x11_1, rfl, rfl, HA, HK1, ⟨m1, rfl⟩⟩ := hrel
                cases gk with
                | zero => exact absurd HA.out (by simp [millref3_exponent.l0])
                | succ k1 =>
                 have H := HA.out
                 clear HA
                 simp only [millref3_exponent.l0] at H
                 by_cases c60 : x11_1 < (((a0.extract ((ji50) : Int).toNat (t363 : Int).toNat).extract (t364 : Int).toNat (t363.toNat - ((ji50) : Int).toNat)).size : Int)
                 ·
                  rw [if_pos c60] at H
                  have c60x := c60
                  (try simp [*, -c60, -H] at c60x)
                  have c60b0 : decide (x11_1 < (((a0.extract ((ji50) : Int).toNat (t363 : Int).toNat).extract (t364 : Int).toNat (t363.toNat - ((ji50) : Int).toNat)).size : Int)) = true := decide_eq_true c60
                  clear c60
                  by_cases c61 : x11_1 < 14
                  ·
                   rw [if_pos c61] at H
                   have c61b0 : decide (x11_1 < 14) = true := decide_eq_true c61
                   clear c61
                   by_cases c62 : 0 ≤ x11_1
                   ·
                    rw [if_pos c62] at H
                    have c62b0 : decide (0 ≤ x11_1) = true := decide_eq_true c62
                    clear c62
                    have H' := Aside0.mk H
                    clear H
                    have p63 : 0 ≤ (x11_1 : Int) := of_decide_eq_true qng3_
                    have q63 : x11_1 < (((a0.extract ((ji50) : Int).toNat (t363 : Int).toNat).extract (t364 : Int).toNat (t363.toNat - ((ji50) : Int).toNat)).size : Int) := of_decide_eq_true qng3_
                    have hx63 := bt_at ((a0.extract ((ji50) : Int).toNat (t363 : Int).toNat).extract (t364 : Int).toNat (t363.toNat - ((ji50) : Int).toNat)) x11_1
                    replace p63 := eq_true p63
                    replace q63 := eq_true q63
                    go_wp2
                    go_roundg k1
                    case measure => have := HK1.out; omega
                    case rel => exact ⟨(wrap64 ((wrap64 (10 * x10_1)) + (((bt ((a0.extract ((ji50) : Int).toNat (t363 : Int).toNat).extract (t364 : Int).toNat (t363.toNat - ((ji50) : Int).toNat)) x11_1) - 48) % 256))), (wrap64 (x11_1 + 1)), (by first | rfl | (simp; done) | (simp only [← hji50] <;> (first | rfl | simp); done) | (simp [*]; done) | (simp; simp only [eq_iff_iff, iff_true] at *; omega) | (exfalso; simp_all; done)), qng2_, H', ⟨by have := HK1.out; omega⟩, qng4_⟩
                   ·
                    rw [if_neg c62] at H
                    exact absurd H (by simp)
                  ·
                   rw [if_neg c61] at H
                   have c61b0 : decide (x11_1 < 14) = false := decide_eq_false c61
                   clear c61
                   by_cases c64 : x10_1 > 1099511627776
                   ·
                    rw [if_pos c64] at H
                    have c64b0 : decide (1099511627776 < x10_1) = true := decide_eq_true c64
                    clear c64
                    by_cases c65 : ((bt a0 (ji10)) == 45) = true
                    ·
                     rw [if_pos c65] at H
                     have c65b0 : ((bt a0 (ji10)) == 45) = true := c65
                     (try (have c65b1 : decide ((bt a0 (ji10)) = 45) = true := by simpa using c65))
                     (try (have c65b2 : ((bt a0 (ji10)) == 45) = true := by simpa using c65))
                     clear c65
                     simp only [Option.some.injEq, Prod.mk.injEq] at H
                     obtain ⟨rfl, rfl⟩ := H
                     go_wp2
                     go_ret2
                     exact ⟨qng21_, qng4_⟩
                    ·
                     rw [if_neg c65] at H
                     have c65b0 : ((bt a0 (ji10)) == 45) = false := by simpa using c65
                     (try (have c65b1 : decide ((bt a0 (ji10)) = 45) = false := by simpa using c65))
                     (try (have c65b2 : ((bt a0 (ji10)) == 45) = false := by simpa using c65))
                     (try (have c65b3 : ¬ ((bt a0 (ji10)) = 45) := by simpa using c65))
                     clear c65
                     simp only [Option.some.injEq, Prod.mk.injEq] at H
                     obtain ⟨rfl, rfl⟩ := H
                     go_wp2
                     go_ret2
                     exact ⟨qng21_, qng4_⟩
                   ·
                    rw [if_neg c64] at H
                    have c64b0 : decide (1099511627776 < x10_1) = false := decide_eq_false c64
                    clear c64
                    by_cases c66 : (((a0.extract ((ji50) : Int).toNat (t363 : Int).toNat).extract (t364 : Int).toNat (t363.toNat - ((ji50) : Int).toNat)).size : Int) > 14
                    ·
                     rw [if_pos c66] at H
                     have c66x := c66
                     (try simp [*, -c66, -H] at c66x)
                     have c66b0 : decide (14 < (((a0.extract ((ji50) : Int).toNat (t363 : Int).toNat).extract (t364 : Int).toNat (t363.toNat - ((ji50) : Int).toNat)).size : Int)) = true := decide_eq_true c66
                     have c66b1 : decide (14 < ((a0.extract ((ji50) : Int).toNat (t363 : Int).toNat).extract (t364 : Int).toNat (t363.toNat - ((ji50) : Int).toNat)).size) = true := decide_eq_true (by omega)
                     clear c66
                     by_cases c67 : ((bt a0 (ji10)) == 45) = true
                     ·
                      rw [if_pos c67] at H
                      have c67b0 : ((bt a0 (ji10)) == 45) = true := c67
                      (try (have c67b1 : decide ((bt a0 (ji10)) = 45) = true := by simpa using c67))
                      (try (have c67b2 : ((bt a0 (ji10)) == 45) = true := by simpa using c67))
                      clear c67
                      simp only [Option.some.injEq, Prod.mk.injEq] at H
                      obtain ⟨rfl, rfl⟩ := H
                      go_wp2
                      go_ret2
                      exact ⟨qng21_, qng4_⟩
                     ·
                      rw [if_neg c67] at H
                      have c67b0 : ((bt a0 (ji10)) == 45) = false := by simpa using c67
                      (try (have c67b1 : decide ((bt a0 (ji10)) = 45) = false := by simpa using c67))
                      (try (have c67b2 : ((bt a0 (ji10)) == 45) = false := by simpa using c67))
                      (try (have c67b3 : ¬ ((bt a0 (ji10)) = 45) := by simpa using c67))
                      clear c67
                      simp only [Option.some.injEq, Prod.mk.injEq] at H
                      obtain ⟨rfl, rfl⟩ := H
                      go_wp2
                      go_ret2
                      exact ⟨qng21_, qng4_⟩
                    ·
                     rw [if_neg c66] at H
                     have c66x := c66
                     (try simp [*, -c66, -H] at c66x)
                     have c66b0 : decide (14 < (((a0.extract ((ji50) : Int).toNat (t363 : Int).toNat).extract (t364 : Int).toNat (t363.toNat - ((ji50) : Int).toNat)).size : Int)) = false := decide_eq_false c66
                     have c66b1 : decide (14 < ((a0.extract ((ji50) : Int).toNat (t363 : Int).toNat).extract (t364 : Int).toNat (t363.toNat - ((ji50) : Int).toNat)).size) = false := decide_eq_false (by omega)
                     clear c66
                     by_cases c68 : ((bt a0 (ji10)) == 45) = true
                     ·
                      rw [if_pos c68] at H
                      have c68b0 : ((bt a0 (ji10)) == 45) = true := c68
                      (try (have c68b1 : decide ((bt a0 (ji10)) = 45) = true := by simpa using c68))
                      (try (have c68b2 : ((bt a0 (ji10)) == 45) = true := by simpa using c68))
                      clear c68
                      simp only [Option.some.injEq, Prod.mk.injEq] at H
                      obtain ⟨rfl, rfl⟩ := H
                      go_wp2
                      go_ret2
                      exact ⟨qng21_, qng4_⟩
                     ·
                      rw [if_neg c68] at H
                      have c68b0 : ((bt a0 (ji10)) == 45) = false := by simpa using c68
                      (try (have c68b1 : decide ((bt a0 (ji10)) = 45) = false := by simpa using c68))
                      (try (have c68b2 : ((bt a0 (ji10)) == 45) = false := by simpa using c68))
                      (try (have c68b3 : ¬ ((bt a0 (ji10)) = 45) := by simpa using c68))
                      clear c68
                      simp only [Option.some.injEq, Prod.mk.injEq] at H
                      obtain ⟨rfl, rfl⟩ := H
                      go_wp2
                      go_ret2
                      exact ⟨qng21_, qng4_⟩
                 ·
                  rw [if_neg c60] at H
                  have c60x := c60
                  (try simp [*, -c60, -H] at c60x)
                  have c60b0 : decide (x11_1 < (((a0.extract ((ji50) : Int).toNat (t363 : Int).toNat).extract (t364 : Int).toNat (t363.toNat - ((ji50) : Int).toNat)).size : Int)) = false := decide_eq_false c60
                  clear c60
                  by_cases c69 : x10_1 > 1099511627776
                  ·
                   rw [if_pos c69] at H
                   have c69b0 : decide (1099511627776 < x10_1) = true := decide_eq_true c69
                   clear c69
                   by_cases c70 : ((bt a0 (ji10)) == 45) = true
                   ·
                    rw [if_pos c70] at H
                    have c70b0 : ((bt a0 (ji10)) == 45) = true := c70
                    (try (have c70b1 : decide ((bt a0 (ji10)) = 45) = true := by simpa using c70))
                    (try (have c70b2 : ((bt a0 (ji10)) == 45) = true := by simpa using c70))
                    clear c70
                    simp only [Option.some.injEq, Prod.mk.injEq] at H
                    obtain ⟨rfl, rfl⟩ := H
                    go_wp2
                    go_ret2
                    exact ⟨qng21_, qng4_⟩
                   ·
                    rw [if_neg c70] at H
                    have c70b0 : ((bt a0 (ji10)) == 45) = false := by simpa using c70
                    (try (have c70b1 : decide ((bt a0 (ji10)) = 45) = false := by simpa using c70))
                    (try (have c70b2 : ((bt a0 (ji10)) == 45) = false := by simpa using c70))
                    (try (have c70b3 : ¬ ((bt a0 (ji10)) = 45) := by simpa using c70))
                    clear c70
                    simp only [Option.some.injEq, Prod.mk.injEq] at H
                    obtain ⟨rfl, rfl⟩ := H
                    go_wp2
                    go_ret2
                    exact ⟨qng21_, qng4_⟩
                  ·
                   rw [if_neg c69] at H
                   have c69b0 : decide (1099511627776 < x10_1) = false := decide_eq_false c69
                   clear c69
                   by_cases c71 : (((a0.extract ((ji50) : Int).toNat (t363 : Int).toNat).extract (t364 : Int).toNat (t363.toNat - ((ji50) : Int).toNat)).size : Int) > 14
                   ·
                    rw [if_pos c71] at H
                    have c71x := c71
                    (try simp [*, -c71, -H] at c71x)
                    have c71b0 : decide (14 < (((a0.extract ((ji50) : Int).toNat (t363 : Int).toNat).extract (t364 : Int).toNat (t363.toNat - ((ji50) : Int).toNat)).size : Int)) = true := decide_eq_true c71
                    have c71b1 : decide (14 < ((a0.extract ((ji50) : Int).toNat (t363 : Int).toNat).extract (t364 : Int).toNat (t363.toNat - ((ji50) : Int).toNat)).size) = true := decide_eq_true (by omega)
                    clear c71
                    by_cases c72 : ((bt a0 (ji10)) == 45) = true
                    ·
                     rw [if_pos c72] at H
                     have c72b0 : ((bt a0 (ji10)) == 45) = true := c72
                     (try (have c72b1 : decide ((bt a0 (ji10)) = 45) = true := by simpa using c72))
                     (try (have c72b2 : ((bt a0 (ji10)) == 45) = true := by simpa using c72))
                     clear c72
                     simp only [Option.some.injEq, Prod.mk.injEq] at H
                     obtain ⟨rfl, rfl⟩ := H
                     go_wp2
                     go_ret2
                     exact ⟨qng21_, qng4_⟩
                    ·
                     rw [if_neg c72] at H
                     have c72b0 : ((bt a0 (ji10)) == 45) = false := by simpa using c72
                     (try (have c72b1 : decide ((bt a0 (ji10)) = 45) = false := by simpa using c72))
                     (try (have c72b2 : ((bt a0 (ji10)) == 45) = false := by simpa using c72))
                     (try (have c72b3 : ¬ ((bt a0 (ji10)) = 45) := by simpa using c72))
                     clear c72
                     simp only [Option.some.injEq, Prod.mk.injEq] at H
                     obtain ⟨rfl, rfl⟩ := H
                     go_wp2
                     go_ret2
                     exact ⟨qng21_, qng4_⟩
                   ·
                    rw [if_neg c71] at H
                    have c71x := c71
                    (try simp [*, -c71, -H] at c71x)
                    have c71b0 : decide (14 < (((a0.extract ((ji50) : Int).toNat (t363 : Int).toNat).extract (t364 : Int).toNat (t363.toNat - ((ji50) : Int).toNat)).size : Int)) = false := decide_eq_false c71
                    have c71b1 : decide (14 < ((a0.extract ((ji50) : Int).toNat (t363 : Int).toNat).extract (t364 : Int).toNat (t363.toNat - ((ji50) : Int).toNat)).size) = false := decide_eq_false (by omega)
                    clear c71
                    by_cases c73 : ((bt a0 (ji10)) == 45) = true
                    ·
                     rw [if_pos c73] at H
                     have c73b0 : ((bt a0 (ji10)) == 45) = true := c73
                     (try (have c73b1 : decide ((bt a0 (ji10)) = 45) = true := by simpa using c73))
                     (try (have c73b2 : ((bt a0 (ji10)) == 45) = true := by simpa using c73))
                     clear c73
                     simp only [Option.some.injEq, Prod.mk.injEq] at H
                     obtain ⟨rfl, rfl⟩ := H
                     go_wp2
                     go_ret2
                     exact ⟨qng21_, qng4_⟩
                    ·
                     rw [if_neg c73] at H
                     have c73b0 : ((bt a0 (ji10)) == 45) = false := by simpa using c73
                     (try (have c73b1 : decide ((bt a0 (ji10)) = 45) = false := by simpa using c73))
                     (try (have c73b2 : ((bt a0 (ji10)) == 45) = false := by simpa using c73))
                     (try (have c73b3 : ¬ ((bt a0 (ji10)) = 45) := by simpa using c73))
                     clear c73
                     simp only [Option.some.injEq, Prod.mk.injEq] at H
                     obtain ⟨rfl, rfl⟩ := H
                     go_wp2
                     go_ret2
                     exact ⟨qng21_, qng4_⟩
              ·
               rw [if_neg c56] at H
               exact absurd H (by simp)
             ·
              rw [if_neg c55] at H
              exact absurd H (by simp)
            ·
             rw [if_neg c53] at H
             exact absurd H (by simp)
           ·
            rw [if_neg c52] at H
            exact absurd H (by simp)
          ·
           rw [if_neg c51] at H
           exact absurd H (by simp)
        ·
         rw [if_neg c44] at H
         have c44b0 : ((bt a0 (ji10)) == 43) = false := beq_eq_false_iff_ne.mpr c44
         have c44b1 : ((bt a0 (ji10)) != 43) = true := bne_iff_ne.mpr c44
         replace H := Option.bind_eq_some_iff.mp H
         obtain ⟨t365, A740, H⟩ := H
         replace H : (if t365 = (ji10) then (some (0, a1)) else (if (ji10) ≤ t365 then (if t365 ≤ (a0.size : Int) then ((millref3_zeros.f k (a0.extract ((ji10) : Int).toNat (t365 : Int).toNat)).bind fun t366 => (if 0 ≤ t366 then (if t366 ≤ ((t365.toNat - ((ji10) : Int).toNat : Nat) : Int) then (millref3_exponent.l0 k false t365 ((a0.extract ((ji10) : Int).toNat (t365 : Int).toNat).extract (t366 : Int).toNat (t365.toNat - ((ji10) : Int).toNat)) 0 0) else (none)) else (none))) else (none)) else (none))) = some (r1, r2) := H
         have A74 := Aside0.mk A740
         clear A740
         by_cases c75 : t365 = (ji10)
         ·
          rw [if_pos c75] at H
          have c75b0 : (t365 == (ji10)) = true := beq_iff_eq.mpr c75
          have c75b1 : (t365 != (ji10)) = false := bne_eq_false_iff_eq.mpr c75
          clear c75
          simp only [Option.some.injEq, Prod.mk.injEq] at H
          obtain ⟨rfl, rfl⟩ := H
          have p6 : 0 ≤ (a1 : Int) := of_decide_eq_true qng3_
          have q6 : a1 < (a0.size : Int) := of_decide_eq_true qng3_
          have hx6 := bt_at a0 a1
          replace p6 := eq_true p6
          replace q6 := eq_true q6
          go_enter Tryd.func47, Tryd.ntmps47
          have tk76 : True := trivial; have tk77 : True := trivial
          go_wp2_with (first | (have ztk76 := tk76; clear tk76 ztk76; go_at_call 70; (with_reducible refine (millref3_low.calls (bt a0 a1) t360 _ A7.out).mono ?_); rintro e w' ⟨rfl, ⟨nd, rfl⟩⟩; have p12 : 0 ≤ ((ji10) : Int) := of_decide_eq_true qng3_; have q12 : (ji10) < (a0.size : Int) := of_decide_eq_true qng3_; have hx12 := bt_at a0 (ji10); replace p12 := eq_true p12; replace q12 := eq_true q12; have p43 : 0 ≤ ((ji10) : Int) := of_decide_eq_true qng3_; have q43 : (ji10) < (a0.size : Int) := of_decide_eq_true qng3_; have hx43 := bt_at a0 (ji10); replace p43 := eq_true p43; replace q43 := eq_true q43) | (have ztk77 := tk77; clear tk77 ztk77; (with_reducible refine gate_callee (f := 71) rfl ?_); refine goesL_ (some 50) rfl rfl Tryd.func71 (by kernel_rfl) rfl #[.string a0, .int .i64 ji10] rfl qng52_ ?_; (with_reducible refine (millref3_run.calls k a0 ji10 t365 _ A74.out).mono ?_); rintro e w' ⟨rfl, ⟨nd, rfl⟩⟩; refine ⟨_, rfl, ?_⟩))
          go_ret2
          exact ⟨qng26_, qng4_⟩
         ·
          rw [if_neg c75] at H
          have c75b0 : (t365 == (ji10)) = false := beq_eq_false_iff_ne.mpr c75
          have c75b1 : (t365 != (ji10)) = true := bne_iff_ne.mpr c75
          have c78b0 := eq_true (of_decide_eq_true qng3_ : 0 ≤ (ji10))
          by_cases c79 : (ji10) ≤ t365
          ·
           rw [if_pos c79] at H
           have c79b0 := eq_true c79
           have c79b1 : decide ((ji10) ≤ t365) = true := decide_eq_true c79
           clear c79
           by_cases c80 : t365 ≤ (a0.size : Int)
           ·
            rw [if_pos c80] at H
            have c80b0 := eq_true c80
            have c80b1 : decide (t365 ≤ (a0.size : Int)) = true := decide_eq_true c80
            clear c80
            replace H := Option.bind_eq_some_iff.mp H
            obtain ⟨t366, A810, H⟩ := H
            replace H : (if 0 ≤ t366 then (if t366 ≤ ((t365.toNat - ((ji10) : Int).toNat : Nat) : Int) then (millref3_exponent.l0 k false t365 ((a0.extract ((ji10) : Int).toNat (t365 : Int).toNat).extract (t366 : Int).toNat (t365.toNat - ((ji10) : Int).toNat)) 0 0) else (none)) else (none)) = some (r1, r2) := H
            have A81 := Aside0.mk A810
            clear A810
            by_cases c82 : 0 ≤ t366
            ·
             rw [if_pos c82] at H
             have c82b0 := eq_true c82
             have c82b1 : decide (0 ≤ t366) = true := decide_eq_true c82
             clear c82
             by_cases c83 : t366 ≤ ((t365.toNat - ((ji10) : Int).toNat : Nat) : Int)
             ·
              rw [if_pos c83] at H
              have c83x := c83
              (try simp [*, -c83, -H] at c83x)
              have c83b0 := eq_true c83
              have c83b1 : decide (t366 ≤ ((t365.toNat - ((ji10) : Int).toNat : Nat) : Int)) = true := decide_eq_true c83
              clear c83
              have H' := Aside0.mk H
              clear H
              have p6 : 0 ≤ (a1 : Int) := of_decide_eq_true qng3_
              have q6 : a1 < (a0.size : Int) := of_decide_eq_true qng3_
              have hx6 := bt_at a0 a1
              replace p6 := eq_true p6
              replace q6 := eq_true q6
              go_enter Tryd.func47, Tryd.ntmps47
              have tk84 : True := trivial; have tk85 : True := trivial; have tk86 : True := trivial
              go_wp2_with (first | (have ztk84 := tk84; clear tk84 ztk84; go_at_call 70; (with_reducible refine (millref3_low.calls (bt a0 a1) t360 _ A7.out).mono ?_); rintro e w' ⟨rfl, ⟨nd, rfl⟩⟩; have p12 : 0 ≤ ((ji10) : Int) := of_decide_eq_true qng3_; have q12 : (ji10) < (a0.size : Int) := of_decide_eq_true qng3_; have hx12 := bt_at a0 (ji10); replace p12 := eq_true p12; replace q12 := eq_true q12; have p43 : 0 ≤ ((ji10) : Int) := of_decide_eq_true qng3_; have q43 : (ji10) < (a0.size : Int) := of_decide_eq_true qng3_; have hx43 := bt_at a0 (ji10); replace p43 := eq_true p43; replace q43 := eq_true q43) | (have ztk85 := tk85; clear tk85 ztk85; (with_reducible refine gate_callee (f := 71) rfl ?_); refine goesL_ (some 50) rfl rfl Tryd.func71 (by kernel_rfl) rfl #[.string a0, .int .i64 ji10] rfl qng52_ ?_; (with_reducible refine (millref3_run.calls k a0 ji10 t365 _ A74.out).mono ?_); rintro e w' ⟨rfl, ⟨nd, rfl⟩⟩; refine ⟨_, rfl, ?_⟩) | (have ztk86 := tk86; clear tk86 ztk86; (with_reducible refine gate_callee (f := 42) rfl ?_); refine goesL_ (some 61) rfl rfl Tryd.func42 (by kernel_rfl) rfl #[.string (a0.extract ((ji10) : Int).toNat (t365 : Int).toNat)] rfl qng52_ ?_; (with_reducible refine (millref3_zeros.calls k (a0.extract ((ji10) : Int).toNat (t365 : Int).toNat) t366 _ A81.out).mono ?_); rintro e w' ⟨rfl, ⟨nd, rfl⟩⟩; refine ⟨_, rfl, ?_⟩))
              go_loopg [10, 11] k (fun kq v10 v11 w' => ∃ (x10_1 : Int) (x11_1 : Int), v10 = .int .i64 x10_1 ∧ v11 = .int .i64 x11_1 ∧ Aside0 (millref3_exponent.l0 kq false t365 ((a0.extract ((ji10) : Int).toNat (t365 : Int).toNat).extract (t366 : Int).toNat (t365.toNat - ((ji10) : Int).toNat)) x10_1 x11_1 = some (r1, r2)) ∧ Aside0 (kq ≤ k) ∧ Drawn0 w w')
              case atStart => exact ⟨(0), (0), qng2_, qng2_, H', ⟨Nat.le_refl _⟩, qng4_⟩
              case round =>
               clear H'
               obtain ⟨x10_1, x11_1, rfl, rfl, HA, HK1, ⟨m1, rfl⟩⟩ := hrel
               cases gk with
               | zero => exact absurd HA.out (by simp [millref3_exponent.l0])
               | succ k1 =>
                have H := HA.out
                clear HA
                simp only [millref3_exponent.l0] at H
                by_cases c87 : x11_1 < (((a0.extract ((ji10) : Int).toNat (t365 : Int).toNat).extract (t366 : Int).toNat (t365.toNat - ((ji10) : Int).toNat)).size : Int)
                ·
                 rw [if_pos c87] at H
                 have c87x := c87
                 (try simp [*, -c87, -H] at c87x)
                 have c87b0 : decide (x11_1 < (((a0.extract ((ji10) : Int).toNat (t365 : Int).toNat).extract (t366 : Int).toNat (t365.toNat - ((ji10) : Int).toNat)).size : Int)) = true := decide_eq_true c87
                 clear c87
                 by_cases c88 : x11_1 < 14
                 ·
                  rw [if_pos c88] at H
                  have c88b0 : decide (x11_1 < 14) = true := decide_eq_true c88
                  clear c88
                  by_cases c89 : 0 ≤ x11_1
                  ·
                   rw [if_pos c89] at H
                   have c89b0 : decide (0 ≤ x11_1) = true := decide_eq_true c89
                   clear c89
                   have H' := Aside0.mk H
                   clear H
                   have p90 : 0 ≤ (x11_1 : Int) := of_decide_eq_true qng3_
                   have q90 : x11_1 < (((a0.extract ((ji10) : Int).toNat (t365 : Int).toNat).extract (t366 : Int).toNat (t365.toNat - ((ji10) : Int).toNat)).size : Int) := of_decide_eq_true qng3_
                   have hx90 := bt_at ((a0.extract ((ji10) : Int).toNat (t365 : Int).toNat).extract (t366 : Int).toNat (t365.toNat - ((ji10) : Int).toNat)) x11_1
                   replace p90 := eq_true p90
                   replace q90 := eq_true q90
                   go_wp2
                   go_roundg k1
                   case measure => have := HK1.out; omega
                   case rel => exact ⟨(wrap64 ((wrap64 (10 * x10_1)) + (((bt ((a0.extract ((ji10) : Int).toNat (t365 : Int).toNat).extract (t366 : Int).toNat (t365.toNat - ((ji10) : Int).toNat)) x11_1) - 48) % 256))), (wrap64 (x11_1 + 1)), qng26_, qng2_, H', ⟨by have := HK1.out; omega⟩, qng4_⟩
                  ·
                   rw [if_neg c89] at H
                   exact absurd H (by simp)
                 ·
                  rw [if_neg c88] at H
                  have c88b0 : decide (x11_1 < 14) = false := decide_eq_false c88
                  clear c88
                  by_cases c91 : x10_1 > 1099511627776
                  ·
                   rw [if_pos c91] at H
                   have c91b0 : decide (1099511627776 < x10_1) = true := decide_eq_true c91
                   clear c91
                   have H1 : (some (1099511627776, t365)) = some (r1, r2) := by rw [if_neg (show ¬ (false = true) by decide)] at H; exact H
                   clear H
                   have H := H1
                   clear H1
                   simp only [Option.some.injEq, Prod.mk.injEq] at H
                   obtain ⟨rfl, rfl⟩ := H
                   go_wp2
                   go_ret2
                   exact ⟨qng26_, qng4_⟩
                  ·
                   rw [if_neg c91] at H
                   have c91b0 : decide (1099511627776 < x10_1) = false := decide_eq_false c91
                   clear c91
                   by_cases c92 : (((a0.extract ((ji10) : Int).toNat (t365 : Int).toNat).extract (t366 : Int).toNat (t365.toNat - ((ji10) : Int).toNat)).size : Int) > 14
                   ·
                    rw [if_pos c92] at H
                    have c92x := c92
                    (try simp [*, -c92, -H] at c92x)
                    have c92b0 : decide (14 < (((a0.extract ((ji10) : Int).toNat (t365 : Int).toNat).extract (t366 : Int).toNat (t365.toNat - ((ji10) : Int).toNat)).size : Int)) = true := decide_eq_true c92
                    have c92b1 : decide (14 < ((a0.extract ((ji10) : Int).toNat (t365 : Int).toNat).extract (t366 : Int).toNat (t365.toNat - ((ji10) : Int).toNat)).size) = true := decide_eq_true (by omega)
                    clear c92
                    have H1 : (some (1099511627776, t365)) = some (r1, r2) := by rw [if_neg (show ¬ (false = true) by decide)] at H; exact H
                    clear H
                    have H := H1
                    clear H1
                    simp only [Option.some.injEq, Prod.mk.injEq] at H
                    obtain ⟨rfl, rfl⟩ := H
                    go_wp2
                    go_ret2
                    exact ⟨qng26_, qng4_⟩
                   ·
                    rw [if_neg c92] at H
                    have c92x := c92
                    (try simp [*, -c92, -H] at c92x)
                    have c92b0 : decide (14 < (((a0.extract ((ji10) : Int).toNat (t365 : Int).toNat).extract (t366 : Int).toNat (t365.toNat - ((ji10) : Int).toNat)).size : Int)) = false := decide_eq_false c92
                    have c92b1 : decide (14 < ((a0.extract ((ji10) : Int).toNat (t365 : Int).toNat).extract (t366 : Int).toNat (t365.toNat - ((ji10) : Int).toNat)).size) = false := decide_eq_false (by omega)
                    clear c92
                    have H1 : (some (x10_1, t365)) = some (r1, r2) := by rw [if_neg (show ¬ (false = true) by decide)] at H; exact H
                    clear H
                    have H := H1
                    clear H1
                    simp only [Option.some.injEq, Prod.mk.injEq] at H
                    obtain ⟨rfl, rfl⟩ := H
                    go_wp2
                    go_ret2
                    exact ⟨qng26_, qng4_⟩
                ·
                 rw [if_neg c87] at H
                 have c87x := c87
                 (try simp [*, -c87, -H] at c87x)
                 have c87b0 : decide (x11_1 < (((a0.extract ((ji10) : Int).toNat (t365 : Int).toNat).extract (t366 : Int).toNat (t365.toNat - ((ji10) : Int).toNat)).size : Int)) = false := decide_eq_false c87
                 clear c87
                 by_cases c93 : x10_1 > 1099511627776
                 ·
                  rw [if_pos c93] at H
                  have c93b0 : decide (1099511627776 < x10_1) = true := decide_eq_true c93
                  clear c93
                  have H1 : (some (1099511627776, t365)) = some (r1, r2) := by rw [if_neg (show ¬ (false = true) by decide)] at H; exact H
                  clear H
                  have H := H1
                  clear H1
                  simp only [Option.some.injEq, Prod.mk.injEq] at H
                  obtain ⟨rfl, rfl⟩ := H
                  go_wp2
                  go_ret2
                  exact ⟨qng26_, qng4_⟩
                 ·
                  rw [if_neg c93] at H
                  have c93b0 : decide (1099511627776 < x10_1) = false := decide_eq_false c93
                  clear c93
                  by_cases c94 : (((a0.extract ((ji10) : Int).toNat (t365 : Int).toNat).extract (t366 : Int).toNat (t365.toNat - ((ji10) : Int).toNat)).size : Int) > 14
                  ·
                   rw [if_pos c94] at H
                   have c94x := c94
                   (try simp [*, -c94, -H] at c94x)
                   have c94b0 : decide (14 < (((a0.extract ((ji10) : Int).toNat (t365 : Int).toNat).extract (t366 : Int).toNat (t365.toNat - ((ji10) : Int).toNat)).size : Int)) = true := decide_eq_true c94
                   have c94b1 : decide (14 < ((a0.extract ((ji10) : Int).toNat (t365 : Int).toNat).extract (t366 : Int).toNat (t365.toNat - ((ji10) : Int).toNat)).size) = true := decide_eq_true (by omega)
                   clear c94
                   have H1 : (some (1099511627776, t365)) = some (r1, r2) := by rw [if_neg (show ¬ (false = true) by decide)] at H; exact H
                   clear H
                   have H := H1
                   clear H1
                   simp only [Option.some.injEq, Prod.mk.injEq] at H
                   obtain ⟨rfl, rfl⟩ := H
                   go_wp2
                   go_ret2
                   exact ⟨qng26_, qng4_⟩
                  ·
                   rw [if_neg c94] at H
                   have c94x := c94
                   (try simp [*, -c94, -H] at c94x)
                   have c94b0 : decide (14 < (((a0.extract ((ji10) : Int).toNat (t365 : Int).toNat).extract (t366 : Int).toNat (t365.toNat - ((ji10) : Int).toNat)).size : Int)) = false := decide_eq_false c94
                   have c94b1 : decide (14 < ((a0.extract ((ji10) : Int).toNat (t365 : Int).toNat).extract (t366 : Int).toNat (t365.toNat - ((ji10) : Int).toNat)).size) = false := decide_eq_false (by omega)
                   clear c94
                   have H1 : (some (x10_1, t365)) = some (r1, r2) := by rw [if_neg (show ¬ (false = true) by decide)] at H; exact H
                   clear H
                   have H := H1
                   clear H1
                   simp only [Option.some.injEq, Prod.mk.injEq] at H
                   obtain ⟨rfl, rfl⟩ := H
                   go_wp2
                   go_ret2
                   exact ⟨qng26_, qng4_⟩
             ·
              rw [if_neg c83] at H
              exact absurd H (by simp)
            ·
             rw [if_neg c82] at H
             exact absurd H (by simp)
           ·
            rw [if_neg c80] at H
            exact absurd H (by simp)
          ·
           rw [if_neg c79] at H
           exact absurd H (by simp)
      ·
       rw [if_neg c11] at H
       exact absurd H (by simp)
     ·
      rw [if_neg c9] at H
      have c9b0 : decide ((wrap64 (a1 + 1)) < (a0.size : Int)) = false := decide_eq_false c9
      clear c9
      replace H := Option.bind_eq_some_iff.mp H
      obtain ⟨t367, A950, H⟩ := H
      replace H : (if t367 = (wrap64 (a1 + 1)) then (some (0, a1)) else (if 0 ≤ (wrap64 (a1 + 1)) then (if (wrap64 (a1 + 1)) ≤ t367 then (if t367 ≤ (a0.size : Int) then ((millref3_zeros.f k (a0.extract ((wrap64 (a1 + 1)) : Int).toNat (t367 : Int).toNat)).bind fun t368 => (if 0 ≤ t368 then (if t368 ≤ ((t367.toNat - ((wrap64 (a1 + 1)) : Int).toNat : Nat) : Int) then (millref3_exponent.l0 k false t367 ((a0.extract ((wrap64 (a1 + 1)) : Int).toNat (t367 : Int).toNat).extract (t368 : Int).toNat (t367.toNat - ((wrap64 (a1 + 1)) : Int).toNat)) 0 0) else (none)) else (none))) else (none)) else (none)) else (none))) = some (r1, r2) := H
      have A95 := Aside0.mk A950
      clear A950
      by_cases c96 : t367 = (wrap64 (a1 + 1))
      ·
       rw [if_pos c96] at H
       have c96b0 : (t367 == (wrap64 (a1 + 1))) = true := beq_iff_eq.mpr c96
       have c96b1 : (t367 != (wrap64 (a1 + 1))) = false := bne_eq_false_iff_eq.mpr c96
       clear c96
       simp only [Option.some.injEq, Prod.mk.injEq] at H
       obtain ⟨rfl, rfl⟩ := H
       have p6 : 0 ≤ (a1 : Int) := of_decide_eq_true qng3_
       have q6 : a1 < (a0.size : Int) := of_decide_eq_true qng3_
       have hx6 := bt_at a0 a1
       replace p6 := eq_true p6
       replace q6 := eq_true q6
       go_enter Tryd.func47, Tryd.ntmps47
       have tk97 : True := trivial; have tk98 : True := trivial
       go_wp2_with (first | (have ztk97 := tk97; clear tk97 ztk97; go_at_call 70; (with_reducible refine (millref3_low.calls (bt a0 a1) t360 _ A7.out).mono ?_); rintro e w' ⟨rfl, ⟨nd, rfl⟩⟩) | (have ztk98 := tk98; clear tk98 ztk98; (with_reducible refine gate_callee (f := 71) rfl ?_); refine goesL_ (some 50) rfl rfl Tryd.func71 (by kernel_rfl) rfl #[.string a0, .int .i64 (wrap64 (a1 + 1))] rfl qng0_ ?_; (with_reducible refine (millref3_run.calls k a0 (wrap64 (a1 + 1)) t367 _ A95.out).mono ?_); rintro e w' ⟨rfl, ⟨nd, rfl⟩⟩; refine ⟨_, rfl, ?_⟩))
       go_ret2
       exact ⟨qng2_, qng4_⟩
      ·
       rw [if_neg c96] at H
       have c96b0 : (t367 == (wrap64 (a1 + 1))) = false := beq_eq_false_iff_ne.mpr c96
       have c96b1 : (t367 != (wrap64 (a1 + 1))) = true := bne_iff_ne.mpr c96
       obtain ⟨ji99, hji99⟩ : ∃ j_ : Int, (wrap64 (a1 + 1)) = j_ := ⟨_, rfl⟩
       replace H : (if 0 ≤ (ji99) then (if (ji99) ≤ t367 then (if t367 ≤ (a0.size : Int) then ((millref3_zeros.f k (a0.extract ((ji99) : Int).toNat (t367 : Int).toNat)).bind fun t368 => (if 0 ≤ t368 then (if t368 ≤ ((t367.toNat - ((ji99) : Int).toNat : Nat) : Int) then (millref3_exponent.l0 k false t367 ((a0.extract ((ji99) : Int).toNat (t367 : Int).toNat).extract (t368 : Int).toNat (t367.toNat - ((ji99) : Int).toNat)) 0 0) else (none)) else (none))) else (none)) else (none)) else (none)) = some (r1, r2) := by first | (rw [hji99] at H; exact H) | (simp only [hji99] at H ⊢; exact H)
       (try rw [hji99] at c9b0)
       (try rw [hji99] at c96b0)
       (try rw [hji99] at c96b1)
       (try rw [hji99] at A7)
       (try rw [hji99] at A95)
       have hji99w : (IntKind.i64.wrap (a1 + 1)) = ji99 := (i64_w _).trans hji99
       by_cases c100 : 0 ≤ (ji99)
       ·
        rw [if_pos c100] at H
        have c100b0 := eq_true c100
        have c100b1 : decide (0 ≤ (ji99)) = true := decide_eq_true c100
        clear c100
        by_cases c101 : (ji99) ≤ t367
        ·
         rw [if_pos c101] at H
         have c101b0 := eq_true c101
         have c101b1 : decide ((ji99) ≤ t367) = true := decide_eq_true c101
         clear c101
         by_cases c102 : t367 ≤ (a0.size : Int)
         ·
          rw [if_pos c102] at H
          have c102b0 := eq_true c102
          have c102b1 : decide (t367 ≤ (a0.size : Int)) = true := decide_eq_true c102
          clear c102
          replace H := Option.bind_eq_some_iff.mp H
          obtain ⟨t368, A1030, H⟩ := H
          replace H : (if 0 ≤ t368 then (if t368 ≤ ((t367.toNat - ((ji99) : Int).toNat : Nat) : Int) then (millref3_exponent.l0 k false t367 ((a0.extract ((ji99) : Int).toNat (t367 : Int).toNat).extract (t368 : Int).toNat (t367.toNat - ((ji99) : Int).toNat)) 0 0) else (none)) else (none)) = some (r1, r2) := H
          have A103 := Aside0.mk A1030
          clear A1030
          by_cases c104 : 0 ≤ t368
          ·
           rw [if_pos c104] at H
           have c104b0 := eq_true c104
           have c104b1 : decide (0 ≤ t368) = true := decide_eq_true c104
           clear c104
           by_cases c105 : t368 ≤ ((t367.toNat - ((ji99) : Int).toNat : Nat) : Int)
           ·
            rw [if_pos c105] at H
            have c105x := c105
            (try simp [*, -c105, -H] at c105x)
            have c105b0 := eq_true c105
            have c105b1 : decide (t368 ≤ ((t367.toNat - ((ji99) : Int).toNat : Nat) : Int)) = true := decide_eq_true c105
            clear c105
            have H' := Aside0.mk H
            clear H
            have p6 : 0 ≤ (a1 : Int) := of_decide_eq_true qng3_
            have q6 : a1 < (a0.size : Int) := of_decide_eq_true qng3_
            have hx6 := bt_at a0 a1
            replace p6 := eq_true p6
            replace q6 := eq_true q6
            go_enter Tryd.func47, Tryd.ntmps47
            have tk106 : True := trivial; have tk107 : True := trivial; have tk108 : True := trivial
            go_wp2_with (first | (have ztk106 := tk106; clear tk106 ztk106; go_at_call 70; (with_reducible refine (millref3_low.calls (bt a0 a1) t360 _ A7.out).mono ?_); rintro e w' ⟨rfl, ⟨nd, rfl⟩⟩) | (have ztk107 := tk107; clear tk107 ztk107; (with_reducible refine gate_callee (f := 71) rfl ?_); refine goesL_ (some 50) rfl rfl Tryd.func71 (by kernel_rfl) rfl #[.string a0, .int .i64 ji99] rfl (by (try simp only [List.map_toArray, List.map_cons, List.map_nil]); first | done | (simp only [hji99]; rfl) | rfl | (simp only [List.length_drop, List.length_take]; rfl) | (simp; done) | (simp; omega)) ?_; (with_reducible refine (millref3_run.calls k a0 ji99 t367 _ A95.out).mono ?_); rintro e w' ⟨rfl, ⟨nd, rfl⟩⟩; refine ⟨_, rfl, ?_⟩) | (have ztk108 := tk108; clear tk108 ztk108; (with_reducible refine gate_callee (f := 42) rfl ?_); refine goesL_ (some 61) rfl rfl Tryd.func42 (by kernel_rfl) rfl #[.string (a0.extract ((ji99) : Int).toNat (t367 : Int).toNat)] rfl (by (try simp only [List.map_toArray, List.map_cons, List.map_nil]); first | done | (simp only [hji99]; rfl) | rfl | (simp only [List.length_drop, List.length_take]; rfl) | (simp; done) | (simp; omega)) ?_; (with_reducible refine (millref3_zeros.calls k (a0.extract ((ji99) : Int).toNat (t367 : Int).toNat) t368 _ A103.out).mono ?_); rintro e w' ⟨rfl, ⟨nd, rfl⟩⟩; refine ⟨_, rfl, ?_⟩))
            go_loopg [10, 11] k (fun kq v10 v11 w' => ∃ (x10_1 : Int) (x11_1 : Int), v10 = .int .i64 x10_1 ∧ v11 = .int .i64 x11_1 ∧ Aside0 (millref3_exponent.l0 kq false t367 ((a0.extract ((ji99) : Int).toNat (t367 : Int).toNat).extract (t368 : Int).toNat (t367.toNat - ((ji99) : Int).toNat)) x10_1 x11_1 = some (r1, r2)) ∧ Aside0 (kq ≤ k) ∧ Drawn0 w w')
            case atStart => exact ⟨(0), (0), qng2_, qng2_, H', ⟨Nat.le_refl _⟩, qng4_⟩
            case round =>
             clear H'
             obtain ⟨x10_1, x11_1, rfl, rfl, HA, HK1, ⟨m1, rfl⟩⟩ := hrel
             cases gk with
             | zero => exact absurd HA.out (by simp [millref3_exponent.l0])
             | succ k1 =>
              have H := HA.out
              clear HA
              simp only [millref3_exponent.l0] at H
              by_cases c109 : x11_1 < (((a0.extract ((ji99) : Int).toNat (t367 : Int).toNat).extract (t368 : Int).toNat (t367.toNat - ((ji99) : Int).toNat)).size : Int)
              ·
               rw [if_pos c109] at H
               have c109x := c109
               (try simp [*, -c109, -H] at c109x)
               have c109b0 : decide (x11_1 < (((a0.extract ((ji99) : Int).toNat (t367 : Int).toNat).extract (t368 : Int).toNat (t367.toNat - ((ji99) : Int).toNat)).size : Int)) = true := decide_eq_true c109
               clear c109
               by_cases c110 : x11_1 < 14
               ·
                rw [if_pos c110] at H
                have c110b0 : decide (x11_1 < 14) = true := decide_eq_true c110
                clear c110
                by_cases c111 : 0 ≤ x11_1
                ·
                 rw [if_pos c111] at H
                 have c111b0 : decide (0 ≤ x11_1) = true := decide_eq_true c111
                 clear c111
                 have H' := Aside0.mk H
                 clear H
                 have p112 : 0 ≤ (x11_1 : Int) := of_decide_eq_true qng3_
                 have q112 : x11_1 < (((a0.extract ((ji99) : Int).toNat (t367 : Int).toNat).extract (t368 : Int).toNat (t367.toNat - ((ji99) : Int).toNat)).size : Int) := of_decide_eq_true qng3_
                 have hx112 := bt_at ((a0.extract ((ji99) : Int).toNat (t367 : Int).toNat).extract (t368 : Int).toNat (t367.toNat - ((ji99) : Int).toNat)) x11_1
                 replace p112 := eq_true p112
                 replace q112 := eq_true q112
                 go_wp2
                 go_roundg k1
                 case measure => have := HK1.out; omega
                 case rel => exact ⟨(wrap64 ((wrap64 (10 * x10_1)) + (((bt ((a0.extract ((ji99) : Int).toNat (t367 : Int).toNat).extract (t368 : Int).toNat (t367.toNat - ((ji99) : Int).toNat)) x11_1) - 48) % 256))), (wrap64 (x11_1 + 1)), qng38_, qng2_, H', ⟨by have := HK1.out; omega⟩, qng4_⟩
                ·
                 rw [if_neg c111] at H
                 exact absurd H (by simp)
               ·
                rw [if_neg c110] at H
                have c110b0 : decide (x11_1 < 14) = false := decide_eq_false c110
                clear c110
                by_cases c113 : x10_1 > 1099511627776
                ·
                 rw [if_pos c113] at H
                 have c113b0 : decide (1099511627776 < x10_1) = true := decide_eq_true c113
                 clear c113
                 have H1 : (some (1099511627776, t367)) = some (r1, r2) := by rw [if_neg (show ¬ (false = true) by decide)] at H; exact H
                 clear H
                 have H := H1
                 clear H1
                 simp only [Option.some.injEq, Prod.mk.injEq] at H
                 obtain ⟨rfl, rfl⟩ := H
                 go_wp2
                 go_ret2
                 exact ⟨qng38_, qng4_⟩
                ·
                 rw [if_neg c113] at H
                 have c113b0 : decide (1099511627776 < x10_1) = false := decide_eq_false c113
                 clear c113
                 by_cases c114 : (((a0.extract ((ji99) : Int).toNat (t367 : Int).toNat).extract (t368 : Int).toNat (t367.toNat - ((ji99) : Int).toNat)).size : Int) > 14
                 ·
                  rw [if_pos c114] at H
                  have c114x := c114
                  (try simp [*, -c114, -H] at c114x)
                  have c114b0 : decide (14 < (((a0.extract ((ji99) : Int).toNat (t367 : Int).toNat).extract (t368 : Int).toNat (t367.toNat - ((ji99) : Int).toNat)).size : Int)) = true := decide_eq_true c114
                  have c114b1 : decide (14 < ((a0.extract ((ji99) : Int).toNat (t367 : Int).toNat).extract (t368 : Int).toNat (t367.toNat - ((ji99) : Int).toNat)).size) = true := decide_eq_true (by omega)
                  clear c114
                  have H1 : (some (1099511627776, t367)) = some (r1, r2) := by rw [if_neg (show ¬ (false = true) by decide)] at H; exact H
                  clear H
                  have H := H1
                  clear H1
                  simp only [Option.some.injEq, Prod.mk.injEq] at H
                  obtain ⟨rfl, rfl⟩ := H
                  go_wp2
                  go_ret2
                  exact ⟨qng38_, qng4_⟩
                 ·
                  rw [if_neg c114] at H
                  have c114x := c114
                  (try simp [*, -c114, -H] at c114x)
                  have c114b0 : decide (14 < (((a0.extract ((ji99) : Int).toNat (t367 : Int).toNat).extract (t368 : Int).toNat (t367.toNat - ((ji99) : Int).toNat)).size : Int)) = false := decide_eq_false c114
                  have c114b1 : decide (14 < ((a0.extract ((ji99) : Int).toNat (t367 : Int).toNat).extract (t368 : Int).toNat (t367.toNat - ((ji99) : Int).toNat)).size) = false := decide_eq_false (by omega)
                  clear c114
                  have H1 : (some (x10_1, t367)) = some (r1, r2) := by rw [if_neg (show ¬ (false = true) by decide)] at H; exact H
                  clear H
                  have H := H1
                  clear H1
                  simp only [Option.some.injEq, Prod.mk.injEq] at H
                  obtain ⟨rfl, rfl⟩ := H
                  go_wp2
                  go_ret2
                  exact ⟨qng38_, qng4_⟩
              ·
               rw [if_neg c109] at H
               have c109x := c109
               (try simp [*, -c109, -H] at c109x)
               have c109b0 : decide (x11_1 < (((a0.extract ((ji99) : Int).toNat (t367 : Int).toNat).extract (t368 : Int).toNat (t367.toNat - ((ji99) : Int).toNat)).size : Int)) = false := decide_eq_false c109
               clear c109
               by_cases c115 : x10_1 > 1099511627776
               ·
                rw [if_pos c115] at H
                have c115b0 : decide (1099511627776 < x10_1) = true := decide_eq_true c115
                clear c115
                have H1 : (some (1099511627776, t367)) = some (r1, r2) := by rw [if_neg (show ¬ (false = true) by decide)] at H; exact H
                clear H
                have H := H1
                clear H1
                simp only [Option.some.injEq, Prod.mk.injEq] at H
                obtain ⟨rfl, rfl⟩ := H
                go_wp2
                go_ret2
                exact ⟨qng38_, qng4_⟩
               ·
                rw [if_neg c115] at H
                have c115b0 : decide (1099511627776 < x10_1) = false := decide_eq_false c115
                clear c115
                by_cases c116 : (((a0.extract ((ji99) : Int).toNat (t367 : Int).toNat).extract (t368 : Int).toNat (t367.toNat - ((ji99) : Int).toNat)).size : Int) > 14
                ·
                 rw [if_pos c116] at H
                 have c116x := c116
                 (try simp [*, -c116, -H] at c116x)
                 have c116b0 : decide (14 < (((a0.extract ((ji99) : Int).toNat (t367 : Int).toNat).extract (t368 : Int).toNat (t367.toNat - ((ji99) : Int).toNat)).size : Int)) = true := decide_eq_true c116
                 have c116b1 : decide (14 < ((a0.extract ((ji99) : Int).toNat (t367 : Int).toNat).extract (t368 : Int).toNat (t367.toNat - ((ji99) : Int).toNat)).size) = true := decide_eq_true (by omega)
                 clear c116
                 have H1 : (some (1099511627776, t367)) = some (r1, r2) := by rw [if_neg (show ¬ (false = true) by decide)] at H; exact H
                 clear H
                 have H := H1
                 clear H1
                 simp only [Option.some.injEq, Prod.mk.injEq] at H
                 obtain ⟨rfl, rfl⟩ := H
                 go_wp2
                 go_ret2
                 exact ⟨qng38_, qng4_⟩
                ·
                 rw [if_neg c116] at H
                 have c116x := c116
                 (try simp [*, -c116, -H] at c116x)
                 have c116b0 : decide (14 < (((a0.extract ((ji99) : Int).toNat (t367 : Int).toNat).extract (t368 : Int).toNat (t367.toNat - ((ji99) : Int).toNat)).size : Int)) = false := decide_eq_false c116
                 have c116b1 : decide (14 < ((a0.extract ((ji99) : Int).toNat (t367 : Int).toNat).extract (t368 : Int).toNat (t367.toNat - ((ji99) : Int).toNat)).size) = false := decide_eq_false (by omega)
                 clear c116
                 have H1 : (some (x10_1, t367)) = some (r1, r2) := by rw [if_neg (show ¬ (false = true) by decide)] at H; exact H
                 clear H
                 have H := H1
                 clear H1
                 simp only [Option.some.injEq, Prod.mk.injEq] at H
                 obtain ⟨rfl, rfl⟩ := H
                 go_wp2
                 go_ret2
                 exact ⟨qng38_, qng4_⟩
           ·
            rw [if_neg c105] at H
            exact absurd H (by simp)
          ·
           rw [if_neg c104] at H
           exact absurd H (by simp)
         ·
          rw [if_neg c102] at H
          exact absurd H (by simp)
        ·
         rw [if_neg c101] at H
         exact absurd H (by simp)
       ·
        rw [if_neg c100] at H
        exact absurd H (by simp)
    ·
     rw [if_neg c8] at H
     have c8b0 : (t360 == 101) = false := beq_eq_false_iff_ne.mpr c8
     have c8b1 : (t360 != 101) = true := bne_iff_ne.mpr c8
     simp only [Option.some.injEq, Prod.mk.injEq] at H
     obtain ⟨rfl, rfl⟩ := H
     have p6 : 0 ≤ (a1 : Int) := of_decide_eq_true qng3_
     have q6 : a1 < (a0.size : Int) := of_decide_eq_true qng3_
     have hx6 := bt_at a0 a1
     replace p6 := eq_true p6
     replace q6 := eq_true q6
     go_enter Tryd.func47, Tryd.ntmps47
     go_wp2_with (first | (go_at_call 70; (with_reducible refine (millref3_low.calls (bt a0 a1) t360 _ A7.out).mono ?_); rintro e w' ⟨rfl, ⟨nd, rfl⟩⟩))
     go_ret2
     exact ⟨qng2_, qng4_⟩
   ·
    rw [if_neg c5] at H
    exact absurd H (by simp)
  ·
   rw [if_neg c4] at H
   exact absurd H (by simp)


/-! ### millref3_trimmed: function 43 -/
def millref3_trimmed.l0 : Nat → ByteArray → Int → Option (ByteArray)
 | 0, _, _ => none
 | k + 1, x0, x3 => if x3 > 0 then (if 0 ≤ (wrap64 (x3 - 1)) then (if (wrap64 (x3 - 1)) < (x0.size : Int) then (if (bt x0 (wrap64 (x3 - 1))) = 48 then (millref3_trimmed.l0 k x0 (wrap64 (x3 - 1))) else (if 0 ≤ x3 then (if x3 ≤ (x0.size : Int) then (some (x0.extract 0 (x3 : Int).toNat)) else (none)) else (none))) else (none)) else (none)) else (if 0 ≤ x3 then (if x3 ≤ (x0.size : Int) then (some (x0.extract 0 (x3 : Int).toNat)) else (none)) else (none))
def millref3_trimmed.f (k : Nat) (a0 : ByteArray) : Option (ByteArray) := millref3_trimmed.l0 k a0 (a0.size : Int)
set_option maxHeartbeats 8000000 in
set_option maxRecDepth 100000 in
theorem millref3_trimmed.calls (k : Nat) (a0 : ByteArray) (r : ByteArray) (w : World) (h : millref3_trimmed.f k a0 = some r) :
  Calls Tryd.prog 43 #[.string a0] w fun e w' => e = .returned (.string r) ∧ Drawn0 w w' := by
 have H : (millref3_trimmed.l0 k a0 (a0.size : Int)) = some r := h
 clear h
 have H' := Aside0.mk H
 clear H
 go_enter Tryd.func43, Tryd.ntmps43
 go_wp2
 go_loopg [3] k (fun kq v3 w' => ∃ (x3_1 : Int), v3 = .int .i64 x3_1 ∧ Aside0 (millref3_trimmed.l0 kq a0 x3_1 = some r) ∧ Aside0 (kq ≤ k) ∧ Drawn0 w w')
 case atStart => exact ⟨((a0.size : Int)), qng2_, H', ⟨Nat.le_refl _⟩, qng4_⟩
 case round =>
  clear H'
  obtain ⟨x3_1, rfl, HA, HK1, ⟨m1, rfl⟩⟩ := hrel
  cases gk with
  | zero => exact absurd HA.out (by simp [millref3_trimmed.l0])
  | succ k1 =>
   have H := HA.out
   clear HA
   simp only [millref3_trimmed.l0] at H
   by_cases c2 : x3_1 > 0
   ·
    rw [if_pos c2] at H
    have c2b0 : decide (0 < x3_1) = true := decide_eq_true c2
    clear c2
    obtain ⟨ji3, hji3⟩ : ∃ j_ : Int, (wrap64 (x3_1 - 1)) = j_ := ⟨_, rfl⟩
    replace H : (if 0 ≤ (ji3) then (if (ji3) < (a0.size : Int) then (if (bt a0 (ji3)) = 48 then (millref3_trimmed.l0 k1 a0 ji3) else (if 0 ≤ x3_1 then (if x3_1 ≤ (a0.size : Int) then (some (a0.extract 0 (x3_1 : Int).toNat)) else (none)) else (none))) else (none)) else (none)) = some r := by first | (rw [hji3] at H; exact H) | (simp only [hji3] at H ⊢; exact H)
    have hji3w : (IntKind.i64.wrap (x3_1 - 1)) = ji3 := (i64_w _).trans hji3
    by_cases c4 : 0 ≤ (ji3)
    ·
     rw [if_pos c4] at H
     have c4b0 : decide (0 ≤ (ji3)) = true := decide_eq_true c4
     clear c4
     by_cases c5 : (ji3) < (a0.size : Int)
     ·
      rw [if_pos c5] at H
      have c5b0 : decide ((ji3) < (a0.size : Int)) = true := decide_eq_true c5
      clear c5
      by_cases c7 : (bt a0 (ji3)) = 48
      ·
       rw [if_pos c7] at H
       have c7b0 : ((bt a0 (ji3)) == 48) = true := beq_iff_eq.mpr c7
       have c7b1 : ((bt a0 (ji3)) != 48) = false := bne_eq_false_iff_eq.mpr c7
       clear c7
       have H' := Aside0.mk H
       clear H
       have p6 : 0 ≤ ((ji3) : Int) := of_decide_eq_true qng3_
       have q6 : (ji3) < (a0.size : Int) := of_decide_eq_true qng3_
       have hx6 := bt_at a0 (ji3)
       replace p6 := eq_true p6
       replace q6 := eq_true q6
       go_wp2
       go_roundg k1
       case measure => have := HK1.out; omega
       case rel => exact ⟨(ji3), (by first | rfl | (simp; done) | (simp only [← hji3] <;> (first | rfl | simp); done) | (simp [*]; done) | (simp; simp only [eq_iff_iff, iff_true] at *; omega) | (exfalso; simp_all; done)), H', ⟨by have := HK1.out; omega⟩, qng4_⟩
      ·
       rw [if_neg c7] at H
       have c7b0 : ((bt a0 (ji3)) == 48) = false := beq_eq_false_iff_ne.mpr c7
       have c7b1 : ((bt a0 (ji3)) != 48) = true := bne_iff_ne.mpr c7
       by_cases c8 : 0 ≤ x3_1
       ·
        rw [if_pos c8] at H
        have c8b0 := eq_true c8
        have c8b1 : decide (0 ≤ x3_1) = true := decide_eq_true c8
        clear c8
        by_cases c9 : x3_1 ≤ (a0.size : Int)
        ·
         rw [if_pos c9] at H
         have c9b0 := eq_true c9
         have c9b1 : decide (x3_1 ≤ (a0.size : Int)) = true := decide_eq_true c9
         clear c9
         obtain rfl := Option.some.inj H
         have p6 : 0 ≤ ((ji3) : Int) := of_decide_eq_true qng3_
         have q6 : (ji3) < (a0.size : Int) := of_decide_eq_true qng3_
         have hx6 := bt_at a0 (ji3)
         replace p6 := eq_true p6
         replace q6 := eq_true q6
         go_wp2
         go_ret
         exact ⟨by first | rfl | (simp; done) | (simp only [← hji3] <;> (first | rfl | simp); done) | (simp [*]; done) | (simp; simp only [eq_iff_iff, iff_true] at *; omega) | (exfalso; simp_all; done), qng4_⟩
        ·
         rw [if_neg c9] at H
         exact absurd H (by simp)
       ·
        rw [if_neg c8] at H
        exact absurd H (by simp)
     ·
      rw [if_neg c5] at H
      exact absurd H (by simp)
    ·
     rw [if_neg c4] at H
     exact absurd H (by simp)
   ·
    rw [if_neg c2] at H
    have c2b0 : decide (0 < x3_1) = false := decide_eq_false c2
    clear c2
    by_cases c10 : 0 ≤ x3_1
    ·
     rw [if_pos c10] at H
     have c10b0 := eq_true c10
     have c10b1 : decide (0 ≤ x3_1) = true := decide_eq_true c10
     clear c10
     by_cases c11 : x3_1 ≤ (a0.size : Int)
     ·
      rw [if_pos c11] at H
      have c11b0 := eq_true c11
      have c11b1 : decide (x3_1 ≤ (a0.size : Int)) = true := decide_eq_true c11
      clear c11
      obtain rfl := Option.some.inj H
      go_wp2
      go_ret
      exact ⟨qng2_, qng4_⟩
     ·
      rw [if_neg c11] at H
      exact absurd H (by simp)
    ·
     rw [if_neg c10] at H
     exact absurd H (by simp)


/-! ### millref3_Norm: function 48 -/
def millref3_Norm.f (k : Nat) (a0_0 : Bool) (a0_1 : ByteArray) (a0_2 : Int) (a0_3 : Int) : Option (Bool × ByteArray × Int × Int) := (millref3_zeros.f k a0_1).bind fun t371 => (if 0 ≤ t371 then (if t371 ≤ (a0_1.size : Int) then ((millref3_trimmed.f k (a0_1.extract (t371 : Int).toNat a0_1.size)).bind fun t372 => (if t372.toList = ([] : List UInt8) then (some (false, (⟨#[]⟩ : ByteArray), 0, 0)) else (some (a0_0, t372, wrap64 (a0_2 - t371), a0_3)))) else (none)) else (none))
set_option maxHeartbeats 8000000 in
set_option maxRecDepth 100000 in
theorem millref3_Norm.calls (k : Nat) (a0_0 : Bool) (a0_1 : ByteArray) (a0_2 : Int) (a0_3 : Int) (r1 : Bool) (r2 : ByteArray) (r3 : Int) (r4 : Int) (w : World) (h : millref3_Norm.f k a0_0 a0_1 a0_2 a0_3 = some (r1, r2, r3, r4)) :
  Calls Tryd.prog 48 #[.agg #[.bool a0_0, .string a0_1, .int .i64 a0_2, .int .i64 a0_3]] w fun e w' => e = .returned (.agg #[.bool r1, .string r2, .int .i64 r3, .int .i64 r4]) ∧ Below w.heap.size w w' := by
 have hu67 := Tryd.underlying67
 have HB := Aside0.mk (Below.refl w.heap.size w)
 have H : ((millref3_zeros.f k a0_1).bind fun t371 => (if 0 ≤ t371 then (if t371 ≤ (a0_1.size : Int) then ((millref3_trimmed.f k (a0_1.extract (t371 : Int).toNat a0_1.size)).bind fun t372 => (if t372.toList = ([] : List UInt8) then (some (false, (⟨#[]⟩ : ByteArray), 0, 0)) else (some (a0_0, t372, wrap64 (a0_2 - t371), a0_3)))) else (none)) else (none))) = some (r1, r2, r3, r4) := h
 clear h
 replace H := Option.bind_eq_some_iff.mp H
 obtain ⟨t371, A20, H⟩ := H
 replace H : (if 0 ≤ t371 then (if t371 ≤ (a0_1.size : Int) then ((millref3_trimmed.f k (a0_1.extract (t371 : Int).toNat a0_1.size)).bind fun t372 => (if t372.toList = ([] : List UInt8) then (some (false, (⟨#[]⟩ : ByteArray), 0, 0)) else (some (a0_0, t372, wrap64 (a0_2 - t371), a0_3)))) else (none)) else (none)) = some (r1, r2, r3, r4) := H
 have A2 := Aside0.mk A20
 clear A20
 by_cases c3 : 0 ≤ t371
 ·
  rw [if_pos c3] at H
  have c3b0 := eq_true c3
  have c3b1 : decide (0 ≤ t371) = true := decide_eq_true c3
  clear c3
  by_cases c4 : t371 ≤ (a0_1.size : Int)
  ·
   rw [if_pos c4] at H
   have c4b0 := eq_true c4
   have c4b1 : decide (t371 ≤ (a0_1.size : Int)) = true := decide_eq_true c4
   clear c4
   replace H := Option.bind_eq_some_iff.mp H
   obtain ⟨t372, A50, H⟩ := H
   replace H : (if t372.toList = ([] : List UInt8) then (some (false, (⟨#[]⟩ : ByteArray), 0, 0)) else (some (a0_0, t372, wrap64 (a0_2 - t371), a0_3))) = some (r1, r2, r3, r4) := H
   have A5 := Aside0.mk A50
   clear A50
   by_cases c6 : t372.toList = ([] : List UInt8)
   ·
    rw [if_pos c6] at H
    have c6b0 : (t372.toList == ([] : List UInt8)) = true := beq_iff_eq.mpr c6
    have c6b1 : (t372.toList != ([] : List UInt8)) = false := bne_eq_false_iff_eq.mpr c6
    clear c6
    simp only [Option.some.injEq, Prod.mk.injEq] at H
    obtain ⟨rfl, rfl, rfl, rfl⟩ := H
    go_enter Tryd.func48, Tryd.ntmps48
    have tk16 : True := trivial; have tk17 : True := trivial; have tk18 : True := trivial; have tk19 : True := trivial
    go_wp2_with (first | (have ztk16 := tk16; clear tk16 ztk16; (with_reducible refine gate_dst (N := 1) rfl ?_); refine box_event ?hg (N := 1) ?hd (cs := #[.bool a0_0, .string a0_1, .int .i64 a0_2, .int .i64 a0_3]) (t := 67) ?hr ?_; (case hd => rfl); (case hg => rfl); (case hr => first | (go_simp; done) | (go_simp; rfl)); intro gb369 hg w7 hbox hb; have n0_ := Aside0.mk (below_step qng1_ hb); have n1_ := Aside0.mk (hbox); have n2_ := Aside0.mk ((by rw [hg]; exact (below_size qng1_) : w.heap.size ≤ gb369)); have n3_ := Aside0.mk ((by rw [hg]; exact (below_size qng1_) : w.heap.size ≤ gb369)); clear HB; have HB := n0_; have BK369 := n1_; have GW369 := n2_; have GE369 := n3_; clear n0_ n1_ n2_ n3_; clear hb hbox hg) | (have ztk17 := tk17; clear tk17 ztk17; (with_reducible refine gate_dst (N := 2) rfl ?_); refine box_event ?hg (N := 2) ?hd (cs := #[.bool false, .string (⟨#[]⟩ : ByteArray), .int .i64 0, .int .i64 0]) (t := 67) ?hr ?_; (case hd => rfl); (case hg => rfl); (case hr => first | (go_simp; done) | (go_simp; rfl)); intro gb370 hg w8 hbox hb; have n0_ := Aside0.mk (blk_below (g := gb369) (o := .cells #[.bool a0_0, .string a0_1, .int .i64 a0_2, .int .i64 a0_3] 67 (0, 0)) qng39_ hb); have n1_ := Aside0.mk (below_step qng49_ hb); have n2_ := Aside0.mk (hbox); have n3_ := Aside0.mk ((by rw [hg]; exact (below_size qng49_) : w.heap.size ≤ gb370)); have n4_ := Aside0.mk ((by rw [hg]; exact (below_size qng49_) : w.heap.size ≤ gb370)); have n5_ := Aside0.mk ((by rw [hg]; exact Nat.ne_of_lt (blk_lt (g := gb369) (o := .cells #[.bool a0_0, .string a0_1, .int .i64 a0_2, .int .i64 a0_3] 67 (0, 0)) qng39_) : gb369 ≠ gb370)); have n6_ := Aside0.mk ((by rw [hg]; exact Nat.ne_of_gt (blk_lt (g := gb369) (o := .cells #[.bool a0_0, .string a0_1, .int .i64 a0_2, .int .i64 a0_3] 67 (0, 0)) qng39_) : gb370 ≠ gb369)); clear BK369; clear HB; have BK369 := n0_; have HB := n1_; have BK370 := n2_; have GW370 := n3_; have GE370 := n4_; have NB369_370 := n5_; have NB370_369 := n6_; clear n0_ n1_ n2_ n3_ n4_ n5_ n6_; clear hb hbox hg; have hnb9 := NB369_370.out; have hnc9 := NB370_369.out; have hcz10_0 : w8.cell? ⟨gb369, 0, none⟩ = some (.bool a0_0) := (blk_cell BK369.out 0).trans rfl; have hcz10_1 : w8.cell? ⟨gb369, 1, none⟩ = some (.string a0_1) := (blk_cell BK369.out 1).trans rfl; have hcz10_2 : w8.cell? ⟨gb369, 2, none⟩ = some (.int .i64 a0_2) := (blk_cell BK369.out 2).trans rfl; have hcz10_3 : w8.cell? ⟨gb369, 3, none⟩ = some (.int .i64 a0_3) := (blk_cell BK369.out 3).trans rfl; have hfz10_0 := blk_frozen BK369.out 0; have hfz10_1 := blk_frozen BK369.out 1; have hfz10_2 := blk_frozen BK369.out 2; have hfz10_3 := blk_frozen BK369.out 3) | (have ztk18 := tk18; clear tk18 ztk18; (with_reducible refine gate_callee (f := 42) rfl ?_); refine goesL_ (some 7) rfl rfl Tryd.func42 (by kernel_rfl) rfl #[.string a0_1] rfl qng0_ ?_; (with_reducible refine (millref3_zeros.calls k a0_1 t371 _ A2.out).mono ?_); rintro e w' ⟨rfl, ⟨nd, rfl⟩⟩; refine ⟨_, rfl, ?_⟩; (try (rw [drewN_self w8]; generalize hq_ : World.drewN w8 _ = w8; have n0_ : Aside0 (w8.heap[gb369]? = some (.cells #[.bool a0_0, .string a0_1, .int .i64 a0_2, .int .i64 a0_3] 67 (0, 0))) := ⟨by rw [← hq_]; exact qng39_⟩; have n1_ : Aside0 (w8.heap[gb370]? = some (.cells #[.bool false, .string (⟨#[]⟩ : ByteArray), .int .i64 0, .int .i64 0] 67 (0, 0))) := ⟨by rw [← hq_]; exact qng68_⟩; have n2_ : Aside0 (Below w.heap.size w w8) := ⟨by rw [← hq_]; exact qng42_⟩; clear BK369 BK370 HB hq_; have BK369 := n0_; have BK370 := n1_; have HB := n2_; clear n0_ n1_ n2_)); (try (have hcu11_0 : w8.cell? ⟨gb369, 0, none⟩ = some (.bool a0_0) := (blk_cell BK369.out 0).trans rfl; have hfu11_0 := blk_frozen BK369.out 0; have hcu11_1 : w8.cell? ⟨gb369, 1, none⟩ = some (.string a0_1) := (blk_cell BK369.out 1).trans rfl; have hfu11_1 := blk_frozen BK369.out 1; have hcu11_2 : w8.cell? ⟨gb369, 2, none⟩ = some (.int .i64 a0_2) := (blk_cell BK369.out 2).trans rfl; have hfu11_2 := blk_frozen BK369.out 2; have hcu11_3 : w8.cell? ⟨gb369, 3, none⟩ = some (.int .i64 a0_3) := (blk_cell BK369.out 3).trans rfl; have hfu11_3 := blk_frozen BK369.out 3)); (try (have hcu12_0 : w8.cell? ⟨gb370, 0, none⟩ = some (.bool false) := (blk_cell BK370.out 0).trans rfl; have hfu12_0 := blk_frozen BK370.out 0; have hcu12_1 : w8.cell? ⟨gb370, 1, none⟩ = some (.string (⟨#[]⟩ : ByteArray)) := (blk_cell BK370.out 1).trans rfl; have hfu12_1 := blk_frozen BK370.out 1; have hcu12_2 : w8.cell? ⟨gb370, 2, none⟩ = some (.int .i64 0) := (blk_cell BK370.out 2).trans rfl; have hfu12_2 := blk_frozen BK370.out 2; have hcu12_3 : w8.cell? ⟨gb370, 3, none⟩ = some (.int .i64 0) := (blk_cell BK370.out 3).trans rfl; have hfu12_3 := blk_frozen BK370.out 3))) | (have ztk19 := tk19; clear tk19 ztk19; (with_reducible refine gate_callee (f := 43) rfl ?_); refine goesL_ (some 12) rfl rfl Tryd.func43 (by kernel_rfl) rfl #[.string (a0_1.extract (t371 : Int).toNat a0_1.size)] rfl qng0_ ?_; (with_reducible refine (millref3_trimmed.calls k (a0_1.extract (t371 : Int).toNat a0_1.size) t372 _ A5.out).mono ?_); rintro e w' ⟨rfl, ⟨nd, rfl⟩⟩; refine ⟨_, rfl, ?_⟩; (try (rw [drewN_self w8]; generalize hq_ : World.drewN w8 _ = w8; have n0_ : Aside0 (w8.heap[gb369]? = some (.cells #[.bool a0_0, .string a0_1, .int .i64 a0_2, .int .i64 a0_3] 67 (0, 0))) := ⟨by rw [← hq_]; exact qng39_⟩; have n1_ : Aside0 (w8.heap[gb370]? = some (.cells #[.bool false, .string (⟨#[]⟩ : ByteArray), .int .i64 0, .int .i64 0] 67 (0, 0))) := ⟨by rw [← hq_]; exact qng68_⟩; have n2_ : Aside0 (Below w.heap.size w w8) := ⟨by rw [← hq_]; exact qng42_⟩; clear BK369 BK370 HB hq_; have BK369 := n0_; have BK370 := n1_; have HB := n2_; clear n0_ n1_ n2_)); (try (have hcu13_0 : w8.cell? ⟨gb369, 0, none⟩ = some (.bool a0_0) := (blk_cell BK369.out 0).trans rfl; have hfu13_0 := blk_frozen BK369.out 0; have hcu13_1 : w8.cell? ⟨gb369, 1, none⟩ = some (.string a0_1) := (blk_cell BK369.out 1).trans rfl; have hfu13_1 := blk_frozen BK369.out 1; have hcu13_2 : w8.cell? ⟨gb369, 2, none⟩ = some (.int .i64 a0_2) := (blk_cell BK369.out 2).trans rfl; have hfu13_2 := blk_frozen BK369.out 2; have hcu13_3 : w8.cell? ⟨gb369, 3, none⟩ = some (.int .i64 a0_3) := (blk_cell BK369.out 3).trans rfl; have hfu13_3 := blk_frozen BK369.out 3)); (try (have hcu14_0 : w8.cell? ⟨gb370, 0, none⟩ = some (.bool false) := (blk_cell BK370.out 0).trans rfl; have hfu14_0 := blk_frozen BK370.out 0; have hcu14_1 : w8.cell? ⟨gb370, 1, none⟩ = some (.string (⟨#[]⟩ : ByteArray)) := (blk_cell BK370.out 1).trans rfl; have hfu14_1 := blk_frozen BK370.out 1; have hcu14_2 : w8.cell? ⟨gb370, 2, none⟩ = some (.int .i64 0) := (blk_cell BK370.out 2).trans rfl; have hfu14_2 := blk_frozen BK370.out 2; have hcu14_3 : w8.cell? ⟨gb370, 3, none⟩ = some (.int .i64 0) := (blk_cell BK370.out 3).trans rfl; have hfu14_3 := blk_frozen BK370.out 3)); have hcz15_0 : w8.cell? ⟨gb370, 0, none⟩ = some (.bool false) := (blk_cell BK370.out 0).trans rfl; have hcz15_1 : w8.cell? ⟨gb370, 1, none⟩ = some (.string (⟨#[]⟩ : ByteArray)) := (blk_cell BK370.out 1).trans rfl; have hcz15_2 : w8.cell? ⟨gb370, 2, none⟩ = some (.int .i64 0) := (blk_cell BK370.out 2).trans rfl; have hcz15_3 : w8.cell? ⟨gb370, 3, none⟩ = some (.int .i64 0) := (blk_cell BK370.out 3).trans rfl; have hfz15_0 := blk_frozen BK370.out 0; have hfz15_1 := blk_frozen BK370.out 1; have hfz15_2 := blk_frozen BK370.out 2; have hfz15_3 := blk_frozen BK370.out 3))
    refine bodyPost_ret (results_cell_row rfl _ _ gb370 67 #[.bool false, .string (⟨#[]⟩ : ByteArray), .int .i64 0, .int .i64 0] (0, 0) _ rfl (by (with_reducible repeat (first | refine blk_drewN ?_ _ | refine blk_drew ?_ | refine blk_alloc ?_ _)); refine blk_put (cs := #[.bool false, .string (⟨#[]⟩ : ByteArray), .int .i64 0, .int .i64 0]) ?_ 3 _ rfl; (with_reducible repeat (first | refine blk_drewN ?_ _ | refine blk_drew ?_ | refine blk_alloc ?_ _)); refine blk_put (cs := #[.bool false, .string (⟨#[]⟩ : ByteArray), .int .i64 0, .int .i64 0]) ?_ 2 _ rfl; (with_reducible repeat (first | refine blk_drewN ?_ _ | refine blk_drew ?_ | refine blk_alloc ?_ _)); refine blk_put (cs := #[.bool false, .string (⟨#[]⟩ : ByteArray), .int .i64 0, .int .i64 0]) ?_ 1 _ rfl; (with_reducible repeat (first | refine blk_drewN ?_ _ | refine blk_drew ?_ | refine blk_alloc ?_ _)); refine blk_put (cs := #[.bool false, .string (⟨#[]⟩ : ByteArray), .int .i64 0, .int .i64 0]) ?_ 0 _ rfl; (with_reducible repeat (first | refine blk_drewN ?_ _ | refine blk_drew ?_ | refine blk_alloc ?_ _)); exact BK370.out) Tryd.underlying67 rfl (by kernel_rfl)) rfl ?_
    exact ⟨qng6_, qng42_⟩
   ·
    rw [if_neg c6] at H
    have c6b0 : (t372.toList == ([] : List UInt8)) = false := beq_eq_false_iff_ne.mpr c6
    have c6b1 : (t372.toList != ([] : List UInt8)) = true := bne_iff_ne.mpr c6
    simp only [Option.some.injEq, Prod.mk.injEq] at H
    obtain ⟨rfl, rfl, rfl, rfl⟩ := H
    go_enter Tryd.func48, Tryd.ntmps48
    have tk29 : True := trivial; have tk30 : True := trivial; have tk31 : True := trivial; have tk32 : True := trivial
    go_wp2_with (first | (have ztk29 := tk29; clear tk29 ztk29; (with_reducible refine gate_dst (N := 1) rfl ?_); refine box_event ?hg (N := 1) ?hd (cs := #[.bool a0_0, .string a0_1, .int .i64 a0_2, .int .i64 a0_3]) (t := 67) ?hr ?_; (case hd => rfl); (case hg => rfl); (case hr => first | (go_simp; done) | (go_simp; rfl)); intro gb369 hg w20 hbox hb; have n0_ := Aside0.mk (below_step qng1_ hb); have n1_ := Aside0.mk (hbox); have n2_ := Aside0.mk ((by rw [hg]; exact (below_size qng1_) : w.heap.size ≤ gb369)); have n3_ := Aside0.mk ((by rw [hg]; exact (below_size qng1_) : w.heap.size ≤ gb369)); clear HB; have HB := n0_; have BK369 := n1_; have GW369 := n2_; have GE369 := n3_; clear n0_ n1_ n2_ n3_; clear hb hbox hg) | (have ztk30 := tk30; clear tk30 ztk30; (with_reducible refine gate_dst (N := 2) rfl ?_); refine box_event ?hg (N := 2) ?hd (cs := #[.bool false, .string (⟨#[]⟩ : ByteArray), .int .i64 0, .int .i64 0]) (t := 67) ?hr ?_; (case hd => rfl); (case hg => rfl); (case hr => first | (go_simp; done) | (go_simp; rfl)); intro gb370 hg w21 hbox hb; have n0_ := Aside0.mk (blk_below (g := gb369) (o := .cells #[.bool a0_0, .string a0_1, .int .i64 a0_2, .int .i64 a0_3] 67 (0, 0)) qng39_ hb); have n1_ := Aside0.mk (below_step qng49_ hb); have n2_ := Aside0.mk (hbox); have n3_ := Aside0.mk ((by rw [hg]; exact (below_size qng49_) : w.heap.size ≤ gb370)); have n4_ := Aside0.mk ((by rw [hg]; exact (below_size qng49_) : w.heap.size ≤ gb370)); have n5_ := Aside0.mk ((by rw [hg]; exact Nat.ne_of_lt (blk_lt (g := gb369) (o := .cells #[.bool a0_0, .string a0_1, .int .i64 a0_2, .int .i64 a0_3] 67 (0, 0)) qng39_) : gb369 ≠ gb370)); have n6_ := Aside0.mk ((by rw [hg]; exact Nat.ne_of_gt (blk_lt (g := gb369) (o := .cells #[.bool a0_0, .string a0_1, .int .i64 a0_2, .int .i64 a0_3] 67 (0, 0)) qng39_) : gb370 ≠ gb369)); clear BK369; clear HB; have BK369 := n0_; have HB := n1_; have BK370 := n2_; have GW370 := n3_; have GE370 := n4_; have NB369_370 := n5_; have NB370_369 := n6_; clear n0_ n1_ n2_ n3_ n4_ n5_ n6_; clear hb hbox hg; have hnb22 := NB369_370.out; have hnc22 := NB370_369.out; have hcz23_0 : w21.cell? ⟨gb369, 0, none⟩ = some (.bool a0_0) := (blk_cell BK369.out 0).trans rfl; have hcz23_1 : w21.cell? ⟨gb369, 1, none⟩ = some (.string a0_1) := (blk_cell BK369.out 1).trans rfl; have hcz23_2 : w21.cell? ⟨gb369, 2, none⟩ = some (.int .i64 a0_2) := (blk_cell BK369.out 2).trans rfl; have hcz23_3 : w21.cell? ⟨gb369, 3, none⟩ = some (.int .i64 a0_3) := (blk_cell BK369.out 3).trans rfl; have hfz23_0 := blk_frozen BK369.out 0; have hfz23_1 := blk_frozen BK369.out 1; have hfz23_2 := blk_frozen BK369.out 2; have hfz23_3 := blk_frozen BK369.out 3) | (have ztk31 := tk31; clear tk31 ztk31; (with_reducible refine gate_callee (f := 42) rfl ?_); refine goesL_ (some 7) rfl rfl Tryd.func42 (by kernel_rfl) rfl #[.string a0_1] rfl qng0_ ?_; (with_reducible refine (millref3_zeros.calls k a0_1 t371 _ A2.out).mono ?_); rintro e w' ⟨rfl, ⟨nd, rfl⟩⟩; refine ⟨_, rfl, ?_⟩; (try (rw [drewN_self w21]; generalize hq_ : World.drewN w21 _ = w21; have n0_ : Aside0 (w21.heap[gb369]? = some (.cells #[.bool a0_0, .string a0_1, .int .i64 a0_2, .int .i64 a0_3] 67 (0, 0))) := ⟨by rw [← hq_]; exact qng39_⟩; have n1_ : Aside0 (w21.heap[gb370]? = some (.cells #[.bool false, .string (⟨#[]⟩ : ByteArray), .int .i64 0, .int .i64 0] 67 (0, 0))) := ⟨by rw [← hq_]; exact qng68_⟩; have n2_ : Aside0 (Below w.heap.size w w21) := ⟨by rw [← hq_]; exact qng42_⟩; clear BK369 BK370 HB hq_; have BK369 := n0_; have BK370 := n1_; have HB := n2_; clear n0_ n1_ n2_)); (try (have hcu24_0 : w21.cell? ⟨gb369, 0, none⟩ = some (.bool a0_0) := (blk_cell BK369.out 0).trans rfl; have hfu24_0 := blk_frozen BK369.out 0; have hcu24_1 : w21.cell? ⟨gb369, 1, none⟩ = some (.string a0_1) := (blk_cell BK369.out 1).trans rfl; have hfu24_1 := blk_frozen BK369.out 1; have hcu24_2 : w21.cell? ⟨gb369, 2, none⟩ = some (.int .i64 a0_2) := (blk_cell BK369.out 2).trans rfl; have hfu24_2 := blk_frozen BK369.out 2; have hcu24_3 : w21.cell? ⟨gb369, 3, none⟩ = some (.int .i64 a0_3) := (blk_cell BK369.out 3).trans rfl; have hfu24_3 := blk_frozen BK369.out 3)); (try (have hcu25_0 : w21.cell? ⟨gb370, 0, none⟩ = some (.bool false) := (blk_cell BK370.out 0).trans rfl; have hfu25_0 := blk_frozen BK370.out 0; have hcu25_1 : w21.cell? ⟨gb370, 1, none⟩ = some (.string (⟨#[]⟩ : ByteArray)) := (blk_cell BK370.out 1).trans rfl; have hfu25_1 := blk_frozen BK370.out 1; have hcu25_2 : w21.cell? ⟨gb370, 2, none⟩ = some (.int .i64 0) := (blk_cell BK370.out 2).trans rfl; have hfu25_2 := blk_frozen BK370.out 2; have hcu25_3 : w21.cell? ⟨gb370, 3, none⟩ = some (.int .i64 0) := (blk_cell BK370.out 3).trans rfl; have hfu25_3 := blk_frozen BK370.out 3))) | (have ztk32 := tk32; clear tk32 ztk32; (with_reducible refine gate_callee (f := 43) rfl ?_); refine goesL_ (some 12) rfl rfl Tryd.func43 (by kernel_rfl) rfl #[.string (a0_1.extract (t371 : Int).toNat a0_1.size)] rfl qng0_ ?_; (with_reducible refine (millref3_trimmed.calls k (a0_1.extract (t371 : Int).toNat a0_1.size) t372 _ A5.out).mono ?_); rintro e w' ⟨rfl, ⟨nd, rfl⟩⟩; refine ⟨_, rfl, ?_⟩; (try (rw [drewN_self w21]; generalize hq_ : World.drewN w21 _ = w21; have n0_ : Aside0 (w21.heap[gb369]? = some (.cells #[.bool a0_0, .string a0_1, .int .i64 a0_2, .int .i64 a0_3] 67 (0, 0))) := ⟨by rw [← hq_]; exact qng39_⟩; have n1_ : Aside0 (w21.heap[gb370]? = some (.cells #[.bool false, .string (⟨#[]⟩ : ByteArray), .int .i64 0, .int .i64 0] 67 (0, 0))) := ⟨by rw [← hq_]; exact qng68_⟩; have n2_ : Aside0 (Below w.heap.size w w21) := ⟨by rw [← hq_]; exact qng42_⟩; clear BK369 BK370 HB hq_; have BK369 := n0_; have BK370 := n1_; have HB := n2_; clear n0_ n1_ n2_)); (try (have hcu26_0 : w21.cell? ⟨gb369, 0, none⟩ = some (.bool a0_0) := (blk_cell BK369.out 0).trans rfl; have hfu26_0 := blk_frozen BK369.out 0; have hcu26_1 : w21.cell? ⟨gb369, 1, none⟩ = some (.string a0_1) := (blk_cell BK369.out 1).trans rfl; have hfu26_1 := blk_frozen BK369.out 1; have hcu26_2 : w21.cell? ⟨gb369, 2, none⟩ = some (.int .i64 a0_2) := (blk_cell BK369.out 2).trans rfl; have hfu26_2 := blk_frozen BK369.out 2; have hcu26_3 : w21.cell? ⟨gb369, 3, none⟩ = some (.int .i64 a0_3) := (blk_cell BK369.out 3).trans rfl; have hfu26_3 := blk_frozen BK369.out 3)); (try (have hcu27_0 : w21.cell? ⟨gb370, 0, none⟩ = some (.bool false) := (blk_cell BK370.out 0).trans rfl; have hfu27_0 := blk_frozen BK370.out 0; have hcu27_1 : w21.cell? ⟨gb370, 1, none⟩ = some (.string (⟨#[]⟩ : ByteArray)) := (blk_cell BK370.out 1).trans rfl; have hfu27_1 := blk_frozen BK370.out 1; have hcu27_2 : w21.cell? ⟨gb370, 2, none⟩ = some (.int .i64 0) := (blk_cell BK370.out 2).trans rfl; have hfu27_2 := blk_frozen BK370.out 2; have hcu27_3 : w21.cell? ⟨gb370, 3, none⟩ = some (.int .i64 0) := (blk_cell BK370.out 3).trans rfl; have hfu27_3 := blk_frozen BK370.out 3)); have hcz28_0 : w21.cell? ⟨gb370, 0, none⟩ = some (.bool false) := (blk_cell BK370.out 0).trans rfl; have hcz28_1 : w21.cell? ⟨gb370, 1, none⟩ = some (.string (⟨#[]⟩ : ByteArray)) := (blk_cell BK370.out 1).trans rfl; have hcz28_2 : w21.cell? ⟨gb370, 2, none⟩ = some (.int .i64 0) := (blk_cell BK370.out 2).trans rfl; have hcz28_3 : w21.cell? ⟨gb370, 3, none⟩ = some (.int .i64 0) := (blk_cell BK370.out 3).trans rfl; have hfz28_0 := blk_frozen BK370.out 0; have hfz28_1 := blk_frozen BK370.out 1; have hfz28_2 := blk_frozen BK370.out 2; have hfz28_3 := blk_frozen BK370.out 3))
    refine bodyPost_ret (results_cell_row rfl _ _ gb370 67 #[.bool a0_0, .string t372, .int .i64 (wrap64 (a0_2 - t371)), .int .i64 a0_3] (0, 0) _ rfl (by (with_reducible repeat (first | refine blk_drewN ?_ _ | refine blk_drew ?_ | refine blk_alloc ?_ _)); refine blk_put (cs := #[.bool a0_0, .string t372, .int .i64 (wrap64 (a0_2 - t371)), .int .i64 0]) ?_ 3 _ rfl; (with_reducible repeat (first | refine blk_drewN ?_ _ | refine blk_drew ?_ | refine blk_alloc ?_ _)); refine blk_put (cs := #[.bool a0_0, .string t372, .int .i64 0, .int .i64 0]) ?_ 2 _ rfl; (with_reducible repeat (first | refine blk_drewN ?_ _ | refine blk_drew ?_ | refine blk_alloc ?_ _)); refine blk_put (cs := #[.bool a0_0, .string (⟨#[]⟩ : ByteArray), .int .i64 0, .int .i64 0]) ?_ 1 _ rfl; (with_reducible repeat (first | refine blk_drewN ?_ _ | refine blk_drew ?_ | refine blk_alloc ?_ _)); refine blk_put (cs := #[.bool false, .string (⟨#[]⟩ : ByteArray), .int .i64 0, .int .i64 0]) ?_ 0 _ rfl; (with_reducible repeat (first | refine blk_drewN ?_ _ | refine blk_drew ?_ | refine blk_alloc ?_ _)); refine blk_far ?_ NB370_369.out _; (with_reducible repeat (first | refine blk_drewN ?_ _ | refine blk_drew ?_ | refine blk_alloc ?_ _)); refine blk_far ?_ NB370_369.out _; (with_reducible repeat (first | refine blk_drewN ?_ _ | refine blk_drew ?_ | refine blk_alloc ?_ _)); exact BK370.out) Tryd.underlying67 rfl (by kernel_rfl)) rfl ?_
    exact ⟨qng6_, qng42_⟩
  ·
   rw [if_neg c4] at H
   exact absurd H (by simp)
 ·
  rw [if_neg c3] at H
  exact absurd H (by simp)


/-! ### millref3_General: function 26 -/
mutual
def millref3_General.j0 : Nat → ByteArray → Int → Bool → Bool → Option (Int × Bool × ByteArray × Int × Int)
 | 0, _, _, _, _ => none
 | k + 1, x0, x3, x4, x29 => if x29 = true then (if 0 ≤ x3 then (if x3 < (x0.size : Int) then (millref3_General.j1 k x0 (wrap64 (x3 + 1)) ((bt x0 x3) == 45)) else (none)) else (none)) else (millref3_General.j1 k x0 x3 x4)
def millref3_General.j1 : Nat → ByteArray → Int → Bool → Option (Int × Bool × ByteArray × Int × Int)
 | 0, _, _, _ => none
 | k + 1, x0, x3, x4 => (millref3_at.f k x0 x3 (⟨#[110, 97, 110]⟩ : ByteArray)).bind fun t375 => (if t375 = true then (some (1, false, (⟨#[]⟩ : ByteArray), 0, wrap64 (x3 + 3))) else ((millref3_at.f k x0 x3 (⟨#[105, 110, 102]⟩ : ByteArray)).bind fun t376 => (if t376 = true then (if x4 = true then (millref3_General.j2 k x0 x3 2 false (⟨#[]⟩ : ByteArray) 0 (wrap64 (x3 + 3))) else (millref3_General.j2 k x0 x3 4 false (⟨#[]⟩ : ByteArray) 0 (wrap64 (x3 + 3)))) else ((millref3_Plain.f k x0 x3).bind fun bt379 => (if bt379.2.2 < 0 then (some (0, false, (⟨#[]⟩ : ByteArray), 0, 0)) else ((millref3_exponent.f k x0 bt379.2.2).bind fun bt382 => ((millref3_Norm.f k x4 bt379.1 (wrap64 (bt379.2.1 + bt382.1)) 0).bind fun bt384 => (some (3, bt384.1, bt384.2.1, bt384.2.2.1, bt382.2)))))))))
def millref3_General.j2 : Nat → ByteArray → Int → Int → Bool → ByteArray → Int → Int → Option (Int × Bool × ByteArray × Int × Int)
 | 0, _, _, _, _, _, _, _ => none
 | k + 1, x0, x3, x378000, x378001, x378002, x378003, x378004 => (millref3_at.f k x0 x3 (⟨#[105, 110, 102, 105, 110, 105, 116, 121]⟩ : ByteArray)).bind fun t378 => (if t378 = true then (some (x378000, x378001, x378002, x378003, wrap64 (x3 + 8))) else (some (x378000, x378001, x378002, x378003, x378004)))
end
def millref3_General.f (k : Nat) (a0 : ByteArray) : Option (Int × Bool × ByteArray × Int × Int) := (millref3_start.f k a0).bind fun t374 => (if t374 < (a0.size : Int) then (if 0 ≤ t374 then (if (bt a0 t374) = 45 then (millref3_General.j0 k a0 t374 false true) else (millref3_General.j0 k a0 t374 false ((bt a0 t374) == 43))) else (none)) else (millref3_General.j0 k a0 t374 false false))
set_option maxHeartbeats 8000000 in
set_option maxRecDepth 100000 in
theorem millref3_General.calls (k : Nat) (a0 : ByteArray) (r1 : Int) (r2 : Bool) (r3 : ByteArray) (r4 : Int) (r5 : Int) (w : World) (h : millref3_General.f k a0 = some (r1, r2, r3, r4, r5)) :
  Calls Tryd.prog 26 #[.string a0] w fun e w' => e = .returned (.agg #[.int .u8 r1, .bool r2, .string r3, .int .i64 r4, .int .i64 r5]) ∧ Below w.heap.size w w' := by
 have hu29 := Tryd.underlying29
 have hu67 := Tryd.underlying67
 have HB := Aside0.mk (Below.refl w.heap.size w)
 have H : ((millref3_start.f k a0).bind fun t374 => (if t374 < (a0.size : Int) then (if 0 ≤ t374 then (if (bt a0 t374) = 45 then (millref3_General.j0 k a0 t374 false true) else (millref3_General.j0 k a0 t374 false ((bt a0 t374) == 43))) else (none)) else (millref3_General.j0 k a0 t374 false false))) = some (r1, r2, r3, r4, r5) := h
 clear h
 replace H := Option.bind_eq_some_iff.mp H
 obtain ⟨t374, A20, H⟩ := H
 replace H : (if t374 < (a0.size : Int) then (if 0 ≤ t374 then (if (bt a0 t374) = 45 then (millref3_General.j0 k a0 t374 false true) else (millref3_General.j0 k a0 t374 false ((bt a0 t374) == 43))) else (none)) else (millref3_General.j0 k a0 t374 false false)) = some (r1, r2, r3, r4, r5) := H
 have A2 := Aside0.mk A20
 clear A20
 have HC3 := Aside0.mk H
 clear H
 go_enter Tryd.func26, Tryd.ntmps26
 have tk5 : True := trivial; have tk6 : True := trivial
 go_upto_region 3 with (first | (have ztk5 := tk5; clear tk5 ztk5; (with_reducible refine gate_dst (N := 2) rfl ?_); refine box_event ?hg (N := 2) ?hd (cs := #[.int .u8 0, .bool false, .string (⟨#[]⟩ : ByteArray), .int .i64 0, .int .i64 0]) (t := 29) ?hr ?_; (case hd => rfl); (case hg => rfl); (case hr => first | (go_simp; done) | (go_simp; rfl)); intro gb373 hg w4 hbox hb; have n0_ := Aside0.mk (below_step qng1_ hb); have n1_ := Aside0.mk (hbox); have n2_ := Aside0.mk ((by rw [hg]; exact (below_size qng1_) : w.heap.size ≤ gb373)); have n3_ := Aside0.mk ((by rw [hg]; exact (below_size qng1_) : w.heap.size ≤ gb373)); clear HB; have HB := n0_; have BK373 := n1_; have GW373 := n2_; have GE373 := n3_; clear n0_ n1_ n2_ n3_; clear hb hbox hg) | (have ztk6 := tk6; clear tk6 ztk6; (with_reducible refine gate_callee (f := 44) rfl ?_); refine goesL_ (some 13) rfl rfl Tryd.func44 (by kernel_rfl) rfl #[.string a0] rfl qng0_ ?_; (with_reducible refine (millref3_start.calls k a0 t374 _ A2.out).mono ?_); rintro e w' ⟨rfl, ⟨nd, rfl⟩⟩; refine ⟨_, rfl, ?_⟩))
 (try simp only [Act.put, List.setIfInBounds_toArray, List.set_cons_zero, List.set_cons_succ])
 go_cut [29] (fun v29 wc => ∃ (kq : Nat) (x29_2 : Bool), v29 = .bool x29_2 ∧ Aside0 (millref3_General.j0 kq a0 t374 false x29_2 = some (r1, r2, r3, r4, r5)) ∧ Aside0 (kq ≤ k) ∧ Aside0 (wc.heap[gb373]? = some (.cells #[.int .u8 0, .bool false, .string (⟨#[]⟩ : ByteArray), .int .i64 0, .int .i64 0] 29 (0, 0))) ∧ Aside0 (Below w.heap.size w wc))
 case first =>
  have H := HC3.out
  clear HC3
  by_cases c7 : t374 < (a0.size : Int)
  ·
   rw [if_pos c7] at H
   have c7b0 : decide (t374 < (a0.size : Int)) = true := decide_eq_true c7
   clear c7
   (first | rw [c7b0] | (simp only [i64_w, i32_w]; rw [c7b0]) | skip)
   by_cases c8 : 0 ≤ t374
   ·
    rw [if_pos c8] at H
    have c8b0 : decide (0 ≤ t374) = true := decide_eq_true c8
    clear c8
    by_cases c10 : (bt a0 t374) = 45
    ·
     rw [if_pos c10] at H
     have c10b0 : ((bt a0 t374) == 45) = true := beq_iff_eq.mpr c10
     have c10b1 : ((bt a0 t374) != 45) = false := bne_eq_false_iff_eq.mpr c10
     clear c10
     have H' := Aside0.mk H
     clear H
     have p9 : 0 ≤ (t374 : Int) := of_decide_eq_true qng3_
     have q9 : t374 < (a0.size : Int) := of_decide_eq_true qng3_
     have hx9 := bt_at a0 t374
     replace p9 := eq_true p9
     replace q9 := eq_true q9
     go_wp2
     go_meet
     case rel => exact ⟨_, (true), qng2_, H', ⟨by first | omega | exact Nat.le_refl _⟩, ⟨qng17_⟩, ⟨qng14_⟩⟩
    ·
     rw [if_neg c10] at H
     have c10b0 : ((bt a0 t374) == 45) = false := beq_eq_false_iff_ne.mpr c10
     have c10b1 : ((bt a0 t374) != 45) = true := bne_iff_ne.mpr c10
     have H' := Aside0.mk H
     clear H
     have p9 : 0 ≤ (t374 : Int) := of_decide_eq_true qng3_
     have q9 : t374 < (a0.size : Int) := of_decide_eq_true qng3_
     have hx9 := bt_at a0 t374
     replace p9 := eq_true p9
     replace q9 := eq_true q9
     have p11 : 0 ≤ (t374 : Int) := of_decide_eq_true qng3_
     have q11 : t374 < (a0.size : Int) := of_decide_eq_true qng3_
     have hx11 := bt_at a0 t374
     replace p11 := eq_true p11
     replace q11 := eq_true q11
     go_wp2
     go_meet
     case rel => exact ⟨_, (((bt a0 t374) == 43)), qng2_, H', ⟨by first | omega | exact Nat.le_refl _⟩, ⟨qng17_⟩, ⟨qng14_⟩⟩
   ·
    rw [if_neg c8] at H
    exact absurd H (by simp)
  ·
   rw [if_neg c7] at H
   have c7b0 : decide (t374 < (a0.size : Int)) = false := decide_eq_false c7
   clear c7
   (first | rw [c7b0] | (simp only [i64_w, i32_w]; rw [c7b0]) | skip)
   have H' := Aside0.mk H
   clear H
   go_wp2
   go_meet
   case rel => exact ⟨_, (false), qng2_, H', ⟨by first | omega | exact Nat.le_refl _⟩, ⟨qng17_⟩, ⟨qng14_⟩⟩
 case rest =>
  clear HC3
  (try clear c1); (try clear p1); (try clear q1); (try clear hx1); (try clear c2); (try clear p2); (try clear c4); (try clear c7); (try clear c7b0); (try clear c8); (try clear c8b0); (try clear p9); (try clear q9); (try clear hx9); (try clear c10); (try clear c10b0); (try clear c10b1); (try clear p11); (try clear q11); (try clear hx11); (try clear p11); (try clear p9); (try clear q11); (try clear q9)
  obtain ⟨kq, x29_2, rfl, HA, HJ2, BK373, HB⟩ := hcut
  cases kq with
  | zero => exact absurd HA.out (by simp [millref3_General.j0])
  | succ kj2 =>
   have H := HA.out
   clear HA
   simp only [millref3_General.j0] at H
   have HC12 := Aside0.mk H
   clear H
   go_upto_if 29 with (fail)
   go_cut [3, 4] (fun v3 v4 wc => ∃ (kq : Nat) (x3_11 : Int) (x4_11 : Bool), v3 = .int .i64 x3_11 ∧ v4 = .bool x4_11 ∧ Aside0 (millref3_General.j1 kq a0 x3_11 x4_11 = some (r1, r2, r3, r4, r5)) ∧ Aside0 (kq ≤ kj2) ∧ Aside0 (wc.heap[gb373]? = some (.cells #[.int .u8 0, .bool false, .string (⟨#[]⟩ : ByteArray), .int .i64 0, .int .i64 0] 29 (0, 0))) ∧ Aside0 (Below w.heap.size w wc))
   case first =>
    have H := HC12.out
    clear HC12
    by_cases c13 : x29_2 = true
    ·
     subst c13
     have H1 : (if 0 ≤ t374 then (if t374 < (a0.size : Int) then (millref3_General.j1 kj2 a0 (wrap64 (t374 + 1)) ((bt a0 t374) == 45)) else (none)) else (none)) = some (r1, r2, r3, r4, r5) := by rw [if_pos rfl] at H; exact H
     clear H
     have H := H1
     clear H1
     by_cases c14 : 0 ≤ t374
     ·
      rw [if_pos c14] at H
      have c14b0 : decide (0 ≤ t374) = true := decide_eq_true c14
      clear c14
      (first | rw [c14b0] | (simp only [i64_w, i32_w]; rw [c14b0]) | skip)
      by_cases c15 : t374 < (a0.size : Int)
      ·
       rw [if_pos c15] at H
       have c15b0 : decide (t374 < (a0.size : Int)) = true := decide_eq_true c15
       clear c15
       have H' := Aside0.mk H
       clear H
       have p16 : 0 ≤ (t374 : Int) := of_decide_eq_true qng3_
       have q16 : t374 < (a0.size : Int) := of_decide_eq_true qng3_
       have hx16 := bt_at a0 t374
       replace p16 := eq_true p16
       replace q16 := eq_true q16
       go_wp2
       go_meet
       case rel => exact ⟨_, (wrap64 (t374 + 1)), (((bt a0 t374) == 45)), qng2_, qng2_, H', ⟨by have := HJ2.out; first | omega | exact Nat.le_refl _⟩, ⟨qng17_⟩, ⟨qng14_⟩⟩
      ·
       rw [if_neg c15] at H
       exact absurd H (by simp)
     ·
      rw [if_neg c14] at H
      exact absurd H (by simp)
    ·
     replace c13 := Bool.eq_false_iff.mpr c13
     subst c13
     have H1 : (millref3_General.j1 kj2 a0 t374 false) = some (r1, r2, r3, r4, r5) := by rw [if_neg (show ¬ (false = true) by decide)] at H; exact H
     clear H
     have H := H1
     clear H1
     have H' := Aside0.mk H
     clear H
     go_wp2
     go_meet
     case rel => exact ⟨_, (t374), (false), qng2_, qng2_, H', ⟨by have := HJ2.out; first | omega | exact Nat.le_refl _⟩, ⟨qng17_⟩, ⟨qng14_⟩⟩
   case rest =>
    clear HC12
    (try clear c1); (try clear p1); (try clear q1); (try clear hx1); (try clear c2); (try clear p2); (try clear c4); (try clear p6); (try clear c7); (try clear c7b0); (try clear c8); (try clear c8b0); (try clear p9); (try clear q9); (try clear hx9); (try clear c10); (try clear c10b0); (try clear c10b1); (try clear p11); (try clear q11); (try clear hx11); (try clear c13); (try clear c14); (try clear c14b0)
    (try clear c15); (try clear c15b0); (try clear p16); (try clear q16); (try clear hx16); (try clear p1); (try clear p11); (try clear p16); (try clear p2); (try clear p9); (try clear q1); (try clear q11); (try clear q16); (try clear q9)
    obtain ⟨kq, x3_11, x4_11, rfl, rfl, HA, HJ11, BK373, HB⟩ := hcut
    cases kq with
    | zero => exact absurd HA.out (by simp [millref3_General.j1])
    | succ kj11 =>
     have H := HA.out
     clear HA
     simp only [millref3_General.j1] at H
     replace H := Option.bind_eq_some_iff.mp H
     obtain ⟨t375, A170, H⟩ := H
     replace H : (if t375 = true then (some (1, false, (⟨#[]⟩ : ByteArray), 0, wrap64 (x3_11 + 3))) else ((millref3_at.f kj11 a0 x3_11 (⟨#[105, 110, 102]⟩ : ByteArray)).bind fun t376 => (if t376 = true then (if x4_11 = true then (millref3_General.j2 kj11 a0 x3_11 2 false (⟨#[]⟩ : ByteArray) 0 (wrap64 (x3_11 + 3))) else (millref3_General.j2 kj11 a0 x3_11 4 false (⟨#[]⟩ : ByteArray) 0 (wrap64 (x3_11 + 3)))) else ((millref3_Plain.f kj11 a0 x3_11).bind fun bt379 => (if bt379.2.2 < 0 then (some (0, false, (⟨#[]⟩ : ByteArray), 0, 0)) else ((millref3_exponent.f kj11 a0 bt379.2.2).bind fun bt382 => ((millref3_Norm.f kj11 x4_11 bt379.1 (wrap64 (bt379.2.1 + bt382.1)) 0).bind fun bt384 => (some (3, bt384.1, bt384.2.1, bt384.2.2.1, bt382.2))))))))) = some (r1, r2, r3, r4, r5) := H
     have A17 := Aside0.mk A170
     clear A170
     by_cases c18 : t375 = true
     ·
      subst c18
      have H1 : (some (1, false, (⟨#[]⟩ : ByteArray), 0, wrap64 (x3_11 + 3))) = some (r1, r2, r3, r4, r5) := by rw [if_pos rfl] at H; exact H
      clear H
      have H := H1
      clear H1
      simp only [Option.some.injEq, Prod.mk.injEq] at H
      obtain ⟨rfl, rfl, rfl, rfl, rfl⟩ := H
      go_wp2_with (first | ((with_reducible refine gate_callee (f := 45) rfl ?_); refine goesL_ (some 39) rfl rfl Tryd.func45 (by kernel_rfl) rfl #[.string a0, .int .i64 x3_11, .string (⟨#[110, 97, 110]⟩ : ByteArray)] rfl qng0_ ?_; (with_reducible refine (millref3_at.calls kj11 a0 x3_11 (⟨#[110, 97, 110]⟩ : ByteArray) true _ A17.out).mono ?_); rintro e w' ⟨rfl, ⟨nd, rfl⟩⟩; refine ⟨_, rfl, ?_⟩; (try (rw [drewN_self wc]; generalize hq_ : World.drewN wc _ = wc; have n0_ : Aside0 (wc.heap[gb373]? = some (.cells #[.int .u8 0, .bool false, .string (⟨#[]⟩ : ByteArray), .int .i64 0, .int .i64 0] 29 (0, 0))) := ⟨by rw [← hq_]; exact qng17_⟩; have n1_ : Aside0 (Below w.heap.size w wc) := ⟨by rw [← hq_]; exact qng14_⟩; clear BK373 HB hq_; have BK373 := n0_; have HB := n1_; clear n0_ n1_)); (try (have hcu19_0 : wc.cell? ⟨gb373, 0, none⟩ = some (.int .u8 0) := (blk_cell BK373.out 0).trans rfl; have hfu19_0 := blk_frozen BK373.out 0; have hcu19_1 : wc.cell? ⟨gb373, 1, none⟩ = some (.bool false) := (blk_cell BK373.out 1).trans rfl; have hfu19_1 := blk_frozen BK373.out 1; have hcu19_2 : wc.cell? ⟨gb373, 2, none⟩ = some (.string (⟨#[]⟩ : ByteArray)) := (blk_cell BK373.out 2).trans rfl; have hfu19_2 := blk_frozen BK373.out 2; have hcu19_3 : wc.cell? ⟨gb373, 3, none⟩ = some (.int .i64 0) := (blk_cell BK373.out 3).trans rfl; have hfu19_3 := blk_frozen BK373.out 3; have hcu19_4 : wc.cell? ⟨gb373, 4, none⟩ = some (.int .i64 0) := (blk_cell BK373.out 4).trans rfl; have hfu19_4 := blk_frozen BK373.out 4)); have hcz20_0 : wc.cell? ⟨gb373, 0, none⟩ = some (.int .u8 0) := (blk_cell BK373.out 0).trans rfl; have hcz20_1 : wc.cell? ⟨gb373, 1, none⟩ = some (.bool false) := (blk_cell BK373.out 1).trans rfl; have hcz20_2 : wc.cell? ⟨gb373, 2, none⟩ = some (.string (⟨#[]⟩ : ByteArray)) := (blk_cell BK373.out 2).trans rfl; have hcz20_3 : wc.cell? ⟨gb373, 3, none⟩ = some (.int .i64 0) := (blk_cell BK373.out 3).trans rfl; have hcz20_4 : wc.cell? ⟨gb373, 4, none⟩ = some (.int .i64 0) := (blk_cell BK373.out 4).trans rfl; have hfz20_0 := blk_frozen BK373.out 0; have hfz20_1 := blk_frozen BK373.out 1; have hfz20_2 := blk_frozen BK373.out 2; have hfz20_3 := blk_frozen BK373.out 3; have hfz20_4 := blk_frozen BK373.out 4))
      refine bodyPost_ret (results_cell_row rfl _ _ gb373 29 #[.int .u8 1, .bool false, .string (⟨#[]⟩ : ByteArray), .int .i64 0, .int .i64 (wrap64 (x3_11 + 3))] (0, 0) _ rfl (by (with_reducible repeat (first | refine blk_drewN ?_ _ | refine blk_drew ?_ | refine blk_alloc ?_ _)); refine blk_put (cs := #[.int .u8 1, .bool false, .string (⟨#[]⟩ : ByteArray), .int .i64 0, .int .i64 0]) ?_ 4 _ rfl; (with_reducible repeat (first | refine blk_drewN ?_ _ | refine blk_drew ?_ | refine blk_alloc ?_ _)); refine blk_put (cs := #[.int .u8 1, .bool false, .string (⟨#[]⟩ : ByteArray), .int .i64 0, .int .i64 0]) ?_ 3 _ rfl; (with_reducible repeat (first | refine blk_drewN ?_ _ | refine blk_drew ?_ | refine blk_alloc ?_ _)); refine blk_put (cs := #[.int .u8 1, .bool false, .string (⟨#[]⟩ : ByteArray), .int .i64 0, .int .i64 0]) ?_ 2 _ rfl; (with_reducible repeat (first | refine blk_drewN ?_ _ | refine blk_drew ?_ | refine blk_alloc ?_ _)); refine blk_put (cs := #[.int .u8 1, .bool false, .string (⟨#[]⟩ : ByteArray), .int .i64 0, .int .i64 0]) ?_ 1 _ rfl; (with_reducible repeat (first | refine blk_drewN ?_ _ | refine blk_drew ?_ | refine blk_alloc ?_ _)); refine blk_put (cs := #[.int .u8 0, .bool false, .string (⟨#[]⟩ : ByteArray), .int .i64 0, .int .i64 0]) ?_ 0 _ rfl; (with_reducible repeat (first | refine blk_drewN ?_ _ | refine blk_drew ?_ | refine blk_alloc ?_ _)); exact BK373.out) Tryd.underlying29 rfl (by kernel_rfl)) rfl ?_
      exact ⟨qng6_, qng14_⟩
     ·
      replace c18 := Bool.eq_false_iff.mpr c18
      subst c18
      have H1 : ((millref3_at.f kj11 a0 x3_11 (⟨#[105, 110, 102]⟩ : ByteArray)).bind fun t376 => (if t376 = true then (if x4_11 = true then (millref3_General.j2 kj11 a0 x3_11 2 false (⟨#[]⟩ : ByteArray) 0 (wrap64 (x3_11 + 3))) else (millref3_General.j2 kj11 a0 x3_11 4 false (⟨#[]⟩ : ByteArray) 0 (wrap64 (x3_11 + 3)))) else ((millref3_Plain.f kj11 a0 x3_11).bind fun bt379 => (if bt379.2.2 < 0 then (some (0, false, (⟨#[]⟩ : ByteArray), 0, 0)) else ((millref3_exponent.f kj11 a0 bt379.2.2).bind fun bt382 => ((millref3_Norm.f kj11 x4_11 bt379.1 (wrap64 (bt379.2.1 + bt382.1)) 0).bind fun bt384 => (some (3, bt384.1, bt384.2.1, bt384.2.2.1, bt382.2)))))))) = some (r1, r2, r3, r4, r5) := by rw [if_neg (show ¬ (false = true) by decide)] at H; exact H
      clear H
      have H := H1
      clear H1
      replace H := Option.bind_eq_some_iff.mp H
      obtain ⟨t376, A210, H⟩ := H
      replace H : (if t376 = true then (if x4_11 = true then (millref3_General.j2 kj11 a0 x3_11 2 false (⟨#[]⟩ : ByteArray) 0 (wrap64 (x3_11 + 3))) else (millref3_General.j2 kj11 a0 x3_11 4 false (⟨#[]⟩ : ByteArray) 0 (wrap64 (x3_11 + 3)))) else ((millref3_Plain.f kj11 a0 x3_11).bind fun bt379 => (if bt379.2.2 < 0 then (some (0, false, (⟨#[]⟩ : ByteArray), 0, 0)) else ((millref3_exponent.f kj11 a0 bt379.2.2).bind fun bt382 => ((millref3_Norm.f kj11 x4_11 bt379.1 (wrap64 (bt379.2.1 + bt382.1)) 0).bind fun bt384 => (some (3, bt384.1, bt384.2.1, bt384.2.2.1, bt382.2))))))) = some (r1, r2, r3, r4, r5) := H
      have A21 := Aside0.mk A210
      clear A210
      by_cases c22 : t376 = true
      ·
       subst c22
       have H1 : (if x4_11 = true then (millref3_General.j2 kj11 a0 x3_11 2 false (⟨#[]⟩ : ByteArray) 0 (wrap64 (x3_11 + 3))) else (millref3_General.j2 kj11 a0 x3_11 4 false (⟨#[]⟩ : ByteArray) 0 (wrap64 (x3_11 + 3)))) = some (r1, r2, r3, r4, r5) := by rw [if_pos rfl] at H; exact H
       clear H
       have H := H1
       clear H1
       have HC23 := Aside0.mk H
       clear H
       have tk29 : True := trivial; have tk30 : True := trivial; have tk31 : True := trivial
       go_upto_if 50 with (first | (have ztk29 := tk29; clear tk29 ztk29; (with_reducible refine gate_callee (f := 45) rfl ?_); refine goesL_ (some 39) rfl rfl Tryd.func45 (by kernel_rfl) rfl #[.string a0, .int .i64 x3_11, .string (⟨#[110, 97, 110]⟩ : ByteArray)] rfl qng0_ ?_; (with_reducible refine (millref3_at.calls kj11 a0 x3_11 (⟨#[110, 97, 110]⟩ : ByteArray) false _ A17.out).mono ?_); rintro e w' ⟨rfl, ⟨nd, rfl⟩⟩; refine ⟨_, rfl, ?_⟩; (try (rw [drewN_self wc]; generalize hq_ : World.drewN wc _ = wc; have n0_ : Aside0 (wc.heap[gb373]? = some (.cells #[.int .u8 0, .bool false, .string (⟨#[]⟩ : ByteArray), .int .i64 0, .int .i64 0] 29 (0, 0))) := ⟨by rw [← hq_]; exact qng17_⟩; have n1_ : Aside0 (Below w.heap.size w wc) := ⟨by rw [← hq_]; exact qng14_⟩; clear BK373 HB hq_; have BK373 := n0_; have HB := n1_; clear n0_ n1_)); (try (have hcu24_0 : wc.cell? ⟨gb373, 0, none⟩ = some (.int .u8 0) := (blk_cell BK373.out 0).trans rfl; have hfu24_0 := blk_frozen BK373.out 0; have hcu24_1 : wc.cell? ⟨gb373, 1, none⟩ = some (.bool false) := (blk_cell BK373.out 1).trans rfl; have hfu24_1 := blk_frozen BK373.out 1; have hcu24_2 : wc.cell? ⟨gb373, 2, none⟩ = some (.string (⟨#[]⟩ : ByteArray)) := (blk_cell BK373.out 2).trans rfl; have hfu24_2 := blk_frozen BK373.out 2; have hcu24_3 : wc.cell? ⟨gb373, 3, none⟩ = some (.int .i64 0) := (blk_cell BK373.out 3).trans rfl; have hfu24_3 := blk_frozen BK373.out 3; have hcu24_4 : wc.cell? ⟨gb373, 4, none⟩ = some (.int .i64 0) := (blk_cell BK373.out 4).trans rfl; have hfu24_4 := blk_frozen BK373.out 4))) | (have ztk30 := tk30; clear tk30 ztk30; (with_reducible refine gate_callee (f := 45) rfl ?_); refine goesL_ (some 46) rfl rfl Tryd.func45 (by kernel_rfl) rfl #[.string a0, .int .i64 x3_11, .string (⟨#[105, 110, 102]⟩ : ByteArray)] rfl qng0_ ?_; (with_reducible refine (millref3_at.calls kj11 a0 x3_11 (⟨#[105, 110, 102]⟩ : ByteArray) true _ A21.out).mono ?_); rintro e w' ⟨rfl, ⟨nd, rfl⟩⟩; refine ⟨_, rfl, ?_⟩; (try (rw [drewN_self wc]; generalize hq_ : World.drewN wc _ = wc; have n0_ : Aside0 (wc.heap[gb373]? = some (.cells #[.int .u8 0, .bool false, .string (⟨#[]⟩ : ByteArray), .int .i64 0, .int .i64 0] 29 (0, 0))) := ⟨by rw [← hq_]; exact qng17_⟩; have n1_ : Aside0 (Below w.heap.size w wc) := ⟨by rw [← hq_]; exact qng14_⟩; clear BK373 HB hq_; have BK373 := n0_; have HB := n1_; clear n0_ n1_)); (try (have hcu25_0 : wc.cell? ⟨gb373, 0, none⟩ = some (.int .u8 0) := (blk_cell BK373.out 0).trans rfl; have hfu25_0 := blk_frozen BK373.out 0; have hcu25_1 : wc.cell? ⟨gb373, 1, none⟩ = some (.bool false) := (blk_cell BK373.out 1).trans rfl; have hfu25_1 := blk_frozen BK373.out 1; have hcu25_2 : wc.cell? ⟨gb373, 2, none⟩ = some (.string (⟨#[]⟩ : ByteArray)) := (blk_cell BK373.out 2).trans rfl; have hfu25_2 := blk_frozen BK373.out 2; have hcu25_3 : wc.cell? ⟨gb373, 3, none⟩ = some (.int .i64 0) := (blk_cell BK373.out 3).trans rfl; have hfu25_3 := blk_frozen BK373.out 3; have hcu25_4 : wc.cell? ⟨gb373, 4, none⟩ = some (.int .i64 0) := (blk_cell BK373.out 4).trans rfl; have hfu25_4 := blk_frozen BK373.out 4))) | (have ztk31 := tk31; clear tk31 ztk31; (with_reducible refine gate_dst (N := 5) rfl ?_); refine box_event ?hg (N := 5) ?hd (cs := #[.int .u8 0, .bool false, .string (⟨#[]⟩ : ByteArray), .int .i64 0, .int .i64 0]) (t := 29) ?hr ?_; (case hd => rfl); (case hg => rfl); (case hr => first | (go_simp; done) | (go_simp; rfl)); intro gb377 hg w26 hbox hb; have n0_ := Aside0.mk (blk_below (g := gb373) (o := .cells #[.int .u8 0, .bool false, .string (⟨#[]⟩ : ByteArray), .int .i64 0, .int .i64 0] 29 (0, 0)) qng17_ hb); have n1_ := Aside0.mk (below_step qng14_ hb); have n2_ := Aside0.mk (hbox); have n3_ := Aside0.mk ((by rw [hg]; exact (below_size qng14_) : w.heap.size ≤ gb377)); have n4_ := Aside0.mk ((by rw [hg]; exact (below_size qng14_) : w.heap.size ≤ gb377)); have n5_ := Aside0.mk ((by rw [hg]; exact Nat.ne_of_lt (blk_lt (g := gb373) (o := .cells #[.int .u8 0, .bool false, .string (⟨#[]⟩ : ByteArray), .int .i64 0, .int .i64 0] 29 (0, 0)) qng17_) : gb373 ≠ gb377)); have n6_ := Aside0.mk ((by rw [hg]; exact Nat.ne_of_gt (blk_lt (g := gb373) (o := .cells #[.int .u8 0, .bool false, .string (⟨#[]⟩ : ByteArray), .int .i64 0, .int .i64 0] 29 (0, 0)) qng17_) : gb377 ≠ gb373)); clear BK373; clear HB; have BK373 := n0_; have HB := n1_; have BK377 := n2_; have GW377 := n3_; have GE377 := n4_; have NB373_377 := n5_; have NB377_373 := n6_; clear n0_ n1_ n2_ n3_ n4_ n5_ n6_; clear hb hbox hg; have hnb27 := NB377_373.out; have hnc27 := NB373_377.out; have hcz28_0 : w26.cell? ⟨gb377, 0, none⟩ = some (.int .u8 0) := (blk_cell BK377.out 0).trans rfl; have hcz28_1 : w26.cell? ⟨gb377, 1, none⟩ = some (.bool false) := (blk_cell BK377.out 1).trans rfl; have hcz28_2 : w26.cell? ⟨gb377, 2, none⟩ = some (.string (⟨#[]⟩ : ByteArray)) := (blk_cell BK377.out 2).trans rfl; have hcz28_3 : w26.cell? ⟨gb377, 3, none⟩ = some (.int .i64 0) := (blk_cell BK377.out 3).trans rfl; have hcz28_4 : w26.cell? ⟨gb377, 4, none⟩ = some (.int .i64 0) := (blk_cell BK377.out 4).trans rfl; have hfz28_0 := blk_frozen BK377.out 0; have hfz28_1 := blk_frozen BK377.out 1; have hfz28_2 := blk_frozen BK377.out 2; have hfz28_3 := blk_frozen BK377.out 3; have hfz28_4 := blk_frozen BK377.out 4))
       (try simp only [Act.put, List.setIfInBounds_toArray, List.set_cons_zero, List.set_cons_succ])
       go_cut [] (fun wc => ∃ (kq : Nat) (x378000_22 : Int), Aside0 (millref3_General.j2 kq a0 x3_11 x378000_22 false (⟨#[]⟩ : ByteArray) 0 (wrap64 (x3_11 + 3)) = some (r1, r2, r3, r4, r5)) ∧ Aside0 (kq ≤ kj11) ∧ Aside0 (wc.heap[gb373]? = some (.cells #[.int .u8 0, .bool false, .string (⟨#[]⟩ : ByteArray), .int .i64 0, .int .i64 0] 29 (0, 0))) ∧ Aside0 (wc.heap[gb377]? = some (.cells #[.int .u8 x378000_22, .bool false, .string (⟨#[]⟩ : ByteArray), .int .i64 0, .int .i64 (wrap64 (x3_11 + 3))] 29 (0, 0))) ∧ Aside0 (Below w.heap.size w wc))
       case first =>
        have H := HC23.out
        clear HC23
        by_cases c32 : x4_11 = true
        ·
         subst c32
         have H1 : (millref3_General.j2 kj11 a0 x3_11 2 false (⟨#[]⟩ : ByteArray) 0 (wrap64 (x3_11 + 3))) = some (r1, r2, r3, r4, r5) := by rw [if_pos rfl] at H; exact H
         clear H
         have H := H1
         clear H1
         have H' := Aside0.mk H
         clear H
         have hnb33 := NB377_373.out
         have hnc33 := NB373_377.out
         have hcz34_0 : w26.cell? ⟨gb377, 0, none⟩ = some (.int .u8 0) := (blk_cell BK377.out 0).trans rfl
         have hcz34_1 : w26.cell? ⟨gb377, 1, none⟩ = some (.bool false) := (blk_cell BK377.out 1).trans rfl
         have hcz34_2 : w26.cell? ⟨gb377, 2, none⟩ = some (.string (⟨#[]⟩ : ByteArray)) := (blk_cell BK377.out 2).trans rfl
         have hcz34_3 : w26.cell? ⟨gb377, 3, none⟩ = some (.int .i64 0) := (blk_cell BK377.out 3).trans rfl
         have hcz34_4 : w26.cell? ⟨gb377, 4, none⟩ = some (.int .i64 0) := (blk_cell BK377.out 4).trans rfl
         have hfz34_0 := blk_frozen BK377.out 0
         have hfz34_1 := blk_frozen BK377.out 1
         have hfz34_2 := blk_frozen BK377.out 2
         have hfz34_3 := blk_frozen BK377.out 3
         have hfz34_4 := blk_frozen BK377.out 4
         go_wp2
         go_meet
         case rel => exact ⟨_, (2), H', ⟨by have := HJ2.out; have := HJ11.out; first | omega | exact Nat.le_refl _⟩, ⟨by (with_reducible repeat (first | refine blk_drewN ?_ _ | refine blk_drew ?_ | refine blk_alloc ?_ _)); refine blk_far ?_ NB373_377.out _; (with_reducible repeat (first | refine blk_drewN ?_ _ | refine blk_drew ?_ | refine blk_alloc ?_ _)); refine blk_far ?_ NB373_377.out _; (with_reducible repeat (first | refine blk_drewN ?_ _ | refine blk_drew ?_ | refine blk_alloc ?_ _)); refine blk_far ?_ NB373_377.out _; (with_reducible repeat (first | refine blk_drewN ?_ _ | refine blk_drew ?_ | refine blk_alloc ?_ _)); refine blk_far ?_ NB373_377.out _; (with_reducible repeat (first | refine blk_drewN ?_ _ | refine blk_drew ?_ | refine blk_alloc ?_ _)); refine blk_far ?_ NB373_377.out _; (with_reducible repeat (first | refine blk_drewN ?_ _ | refine blk_drew ?_ | refine blk_alloc ?_ _)); refine blk_far ?_ NB373_377.out _; (with_reducible repeat (first | refine blk_drewN ?_ _ | refine blk_drew ?_ | refine blk_alloc ?_ _)); exact BK373.out⟩, ⟨by (with_reducible repeat (first | refine blk_drewN ?_ _ | refine blk_drew ?_ | refine blk_alloc ?_ _)); refine blk_put (cs := #[.int .u8 4, .bool false, .string (⟨#[]⟩ : ByteArray), .int .i64 0, .int .i64 (wrap64 (x3_11 + 3))]) ?_ 0 _ rfl; (with_reducible repeat (first | refine blk_drewN ?_ _ | refine blk_drew ?_ | refine blk_alloc ?_ _)); refine blk_put (cs := #[.int .u8 4, .bool false, .string (⟨#[]⟩ : ByteArray), .int .i64 0, .int .i64 0]) ?_ 4 _ rfl; (with_reducible repeat (first | refine blk_drewN ?_ _ | refine blk_drew ?_ | refine blk_alloc ?_ _)); refine blk_put (cs := #[.int .u8 4, .bool false, .string (⟨#[]⟩ : ByteArray), .int .i64 0, .int .i64 0]) ?_ 3 _ rfl; (with_reducible repeat (first | refine blk_drewN ?_ _ | refine blk_drew ?_ | refine blk_alloc ?_ _)); refine blk_put (cs := #[.int .u8 4, .bool false, .string (⟨#[]⟩ : ByteArray), .int .i64 0, .int .i64 0]) ?_ 2 _ rfl; (with_reducible repeat (first | refine blk_drewN ?_ _ | refine blk_drew ?_ | refine blk_alloc ?_ _)); refine blk_put (cs := #[.int .u8 4, .bool false, .string (⟨#[]⟩ : ByteArray), .int .i64 0, .int .i64 0]) ?_ 1 _ rfl; (with_reducible repeat (first | refine blk_drewN ?_ _ | refine blk_drew ?_ | refine blk_alloc ?_ _)); refine blk_put (cs := #[.int .u8 0, .bool false, .string (⟨#[]⟩ : ByteArray), .int .i64 0, .int .i64 0]) ?_ 0 _ rfl; (with_reducible repeat (first | refine blk_drewN ?_ _ | refine blk_drew ?_ | refine blk_alloc ?_ _)); exact BK377.out⟩, ⟨qng41_⟩⟩
        ·
         replace c32 := Bool.eq_false_iff.mpr c32
         subst c32
         have H1 : (millref3_General.j2 kj11 a0 x3_11 4 false (⟨#[]⟩ : ByteArray) 0 (wrap64 (x3_11 + 3))) = some (r1, r2, r3, r4, r5) := by rw [if_neg (show ¬ (false = true) by decide)] at H; exact H
         clear H
         have H := H1
         clear H1
         have H' := Aside0.mk H
         clear H
         go_wp2
         go_meet
         case rel => exact ⟨_, (4), H', ⟨by have := HJ2.out; have := HJ11.out; first | omega | exact Nat.le_refl _⟩, ⟨by (with_reducible repeat (first | refine blk_drewN ?_ _ | refine blk_drew ?_ | refine blk_alloc ?_ _)); refine blk_far ?_ NB373_377.out _; (with_reducible repeat (first | refine blk_drewN ?_ _ | refine blk_drew ?_ | refine blk_alloc ?_ _)); refine blk_far ?_ NB373_377.out _; (with_reducible repeat (first | refine blk_drewN ?_ _ | refine blk_drew ?_ | refine blk_alloc ?_ _)); refine blk_far ?_ NB373_377.out _; (with_reducible repeat (first | refine blk_drewN ?_ _ | refine blk_drew ?_ | refine blk_alloc ?_ _)); refine blk_far ?_ NB373_377.out _; (with_reducible repeat (first | refine blk_drewN ?_ _ | refine blk_drew ?_ | refine blk_alloc ?_ _)); refine blk_far ?_ NB373_377.out _; (with_reducible repeat (first | refine blk_drewN ?_ _ | refine blk_drew ?_ | refine blk_alloc ?_ _)); exact BK373.out⟩, ⟨by (with_reducible repeat (first | refine blk_drewN ?_ _ | refine blk_drew ?_ | refine blk_alloc ?_ _)); refine blk_put (cs := #[.int .u8 4, .bool false, .string (⟨#[]⟩ : ByteArray), .int .i64 0, .int .i64 0]) ?_ 4 _ rfl; (with_reducible repeat (first | refine blk_drewN ?_ _ | refine blk_drew ?_ | refine blk_alloc ?_ _)); refine blk_put (cs := #[.int .u8 4, .bool false, .string (⟨#[]⟩ : ByteArray), .int .i64 0, .int .i64 0]) ?_ 3 _ rfl; (with_reducible repeat (first | refine blk_drewN ?_ _ | refine blk_drew ?_ | refine blk_alloc ?_ _)); refine blk_put (cs := #[.int .u8 4, .bool false, .string (⟨#[]⟩ : ByteArray), .int .i64 0, .int .i64 0]) ?_ 2 _ rfl; (with_reducible repeat (first | refine blk_drewN ?_ _ | refine blk_drew ?_ | refine blk_alloc ?_ _)); refine blk_put (cs := #[.int .u8 4, .bool false, .string (⟨#[]⟩ : ByteArray), .int .i64 0, .int .i64 0]) ?_ 1 _ rfl; (with_reducible repeat (first | refine blk_drewN ?_ _ | refine blk_drew ?_ | refine blk_alloc ?_ _)); refine blk_put (cs := #[.int .u8 0, .bool false, .string (⟨#[]⟩ : ByteArray), .int .i64 0, .int .i64 0]) ?_ 0 _ rfl; (with_reducible repeat (first | refine blk_drewN ?_ _ | refine blk_drew ?_ | refine blk_alloc ?_ _)); exact BK377.out⟩, ⟨qng41_⟩⟩
       case rest =>
        clear HC23
        (try clear c1); (try clear p1); (try clear q1); (try clear hx1); (try clear c2); (try clear p2); (try clear c3); (try clear c4); (try clear p6); (try clear c7); (try clear c7b0); (try clear c8); (try clear c8b0); (try clear p9); (try clear q9); (try clear hx9); (try clear c10); (try clear c10b0); (try clear c10b1); (try clear p11); (try clear q11); (try clear hx11); (try clear c13); (try clear c14)
        (try clear c14b0); (try clear c15); (try clear c15b0); (try clear p16); (try clear q16); (try clear hx16); (try clear c18); (try clear c22); (try clear c26); (try clear c27); (try clear c32); (try clear c33); (try clear hcz20_0); (try clear hcz20_1); (try clear hcz20_2); (try clear hcz20_3); (try clear hcz20_4); (try clear hcz28_0); (try clear hcz28_1); (try clear hcz28_2); (try clear hcz28_3)
        (try clear hcz28_4); (try clear hcz34_0); (try clear hcz34_1); (try clear hcz34_2); (try clear hcz34_3); (try clear hcz34_4); (try clear hfz20_0); (try clear hfz20_1); (try clear hfz20_2); (try clear hfz20_3); (try clear hfz20_4); (try clear hfz28_0); (try clear hfz28_1); (try clear hfz28_2); (try clear hfz28_3); (try clear hfz28_4); (try clear hfz34_0); (try clear hfz34_1); (try clear hfz34_2)
        (try clear hfz34_3); (try clear hfz34_4); (try clear p1); (try clear p11); (try clear p16); (try clear p2); (try clear p6); (try clear p9); (try clear q1); (try clear q11); (try clear q16); (try clear q9)
        obtain ⟨kq, x378000_22, HA, HJ22, BK373, BK377, HB⟩ := hcut
        cases kq with
        | zero => exact absurd HA.out (by simp [millref3_General.j2])
        | succ kj22 =>
         have H := HA.out
         clear HA
         simp only [millref3_General.j2] at H
         replace H := Option.bind_eq_some_iff.mp H
         obtain ⟨t378, A350, H⟩ := H
         replace H : (if t378 = true then (some (x378000_22, false, (⟨#[]⟩ : ByteArray), 0, wrap64 (x3_11 + 8))) else (some (x378000_22, false, (⟨#[]⟩ : ByteArray), 0, (wrap64 (x3_11 + 3))))) = some (r1, r2, r3, r4, r5) := H
         have A35 := Aside0.mk A350
         clear A350
         by_cases c36 : t378 = true
         ·
          subst c36
          have H1 : (some (x378000_22, false, (⟨#[]⟩ : ByteArray), 0, wrap64 (x3_11 + 8))) = some (r1, r2, r3, r4, r5) := by rw [if_pos rfl] at H; exact H
          clear H
          have H := H1
          clear H1
          simp only [Option.some.injEq, Prod.mk.injEq] at H
          obtain ⟨rfl, rfl, rfl, rfl, rfl⟩ := H
          go_wp2_with (first | ((with_reducible refine gate_callee (f := 45) rfl ?_); refine goesL_ (some 54) rfl rfl Tryd.func45 (by kernel_rfl) rfl #[.string a0, .int .i64 x3_11, .string (⟨#[105, 110, 102, 105, 110, 105, 116, 121]⟩ : ByteArray)] rfl qng0_ ?_; (with_reducible refine (millref3_at.calls kj22 a0 x3_11 (⟨#[105, 110, 102, 105, 110, 105, 116, 121]⟩ : ByteArray) true _ A35.out).mono ?_); rintro e w' ⟨rfl, ⟨nd, rfl⟩⟩; refine ⟨_, rfl, ?_⟩; (try (rw [drewN_self wc]; generalize hq_ : World.drewN wc _ = wc; have n0_ : Aside0 (wc.heap[gb373]? = some (.cells #[.int .u8 0, .bool false, .string (⟨#[]⟩ : ByteArray), .int .i64 0, .int .i64 0] 29 (0, 0))) := ⟨by rw [← hq_]; exact qng17_⟩; have n1_ : Aside0 (wc.heap[gb377]? = some (.cells #[.int .u8 x378000_22, .bool false, .string (⟨#[]⟩ : ByteArray), .int .i64 0, .int .i64 (wrap64 (x3_11 + 3))] 29 (0, 0))) := ⟨by rw [← hq_]; exact (by (with_reducible repeat (first | refine blk_drewN ?_ _ | refine blk_drew ?_ | refine blk_alloc ?_ _)); exact BK377.out)⟩; have n2_ : Aside0 (Below w.heap.size w wc) := ⟨by rw [← hq_]; exact qng41_⟩; clear BK373 BK377 HB hq_; have BK373 := n0_; have BK377 := n1_; have HB := n2_; clear n0_ n1_ n2_)); (try (have hcu37_0 : wc.cell? ⟨gb373, 0, none⟩ = some (.int .u8 0) := (blk_cell BK373.out 0).trans rfl; have hfu37_0 := blk_frozen BK373.out 0; have hcu37_1 : wc.cell? ⟨gb373, 1, none⟩ = some (.bool false) := (blk_cell BK373.out 1).trans rfl; have hfu37_1 := blk_frozen BK373.out 1; have hcu37_2 : wc.cell? ⟨gb373, 2, none⟩ = some (.string (⟨#[]⟩ : ByteArray)) := (blk_cell BK373.out 2).trans rfl; have hfu37_2 := blk_frozen BK373.out 2; have hcu37_3 : wc.cell? ⟨gb373, 3, none⟩ = some (.int .i64 0) := (blk_cell BK373.out 3).trans rfl; have hfu37_3 := blk_frozen BK373.out 3; have hcu37_4 : wc.cell? ⟨gb373, 4, none⟩ = some (.int .i64 0) := (blk_cell BK373.out 4).trans rfl; have hfu37_4 := blk_frozen BK373.out 4)); (try (have hcu38_0 : wc.cell? ⟨gb377, 0, none⟩ = some (.int .u8 x378000_22) := (blk_cell BK377.out 0).trans rfl; have hfu38_0 := blk_frozen BK377.out 0; have hcu38_1 : wc.cell? ⟨gb377, 1, none⟩ = some (.bool false) := (blk_cell BK377.out 1).trans rfl; have hfu38_1 := blk_frozen BK377.out 1; have hcu38_2 : wc.cell? ⟨gb377, 2, none⟩ = some (.string (⟨#[]⟩ : ByteArray)) := (blk_cell BK377.out 2).trans rfl; have hfu38_2 := blk_frozen BK377.out 2; have hcu38_3 : wc.cell? ⟨gb377, 3, none⟩ = some (.int .i64 0) := (blk_cell BK377.out 3).trans rfl; have hfu38_3 := blk_frozen BK377.out 3; have hcu38_4 : wc.cell? ⟨gb377, 4, none⟩ = some (.int .i64 (wrap64 (x3_11 + 3))) := (blk_cell BK377.out 4).trans rfl; have hfu38_4 := blk_frozen BK377.out 4)); have hnb39 := NB377_373.out; have hnc39 := NB373_377.out; have hcz40_0 : wc.cell? ⟨gb377, 0, none⟩ = some (.int .u8 x378000_22) := (blk_cell BK377.out 0).trans rfl; have hcz40_1 : wc.cell? ⟨gb377, 1, none⟩ = some (.bool false) := (blk_cell BK377.out 1).trans rfl; have hcz40_2 : wc.cell? ⟨gb377, 2, none⟩ = some (.string (⟨#[]⟩ : ByteArray)) := (blk_cell BK377.out 2).trans rfl; have hcz40_3 : wc.cell? ⟨gb377, 3, none⟩ = some (.int .i64 0) := (blk_cell BK377.out 3).trans rfl; have hcz40_4 : wc.cell? ⟨gb377, 4, none⟩ = some (.int .i64 (wrap64 (x3_11 + 3))) := (blk_cell BK377.out 4).trans rfl; have hfz40_0 := blk_frozen BK377.out 0; have hfz40_1 := blk_frozen BK377.out 1; have hfz40_2 := blk_frozen BK377.out 2; have hfz40_3 := blk_frozen BK377.out 3; have hfz40_4 := blk_frozen BK377.out 4; have hcz41_0 : wc.cell? ⟨gb373, 0, none⟩ = some (.int .u8 0) := (blk_cell BK373.out 0).trans rfl; have hcz41_1 : wc.cell? ⟨gb373, 1, none⟩ = some (.bool false) := (blk_cell BK373.out 1).trans rfl; have hcz41_2 : wc.cell? ⟨gb373, 2, none⟩ = some (.string (⟨#[]⟩ : ByteArray)) := (blk_cell BK373.out 2).trans rfl; have hcz41_3 : wc.cell? ⟨gb373, 3, none⟩ = some (.int .i64 0) := (blk_cell BK373.out 3).trans rfl; have hcz41_4 : wc.cell? ⟨gb373, 4, none⟩ = some (.int .i64 0) := (blk_cell BK373.out 4).trans rfl; have hfz41_0 := blk_frozen BK373.out 0; have hfz41_1 := blk_frozen BK373.out 1; have hfz41_2 := blk_frozen BK373.out 2; have hfz41_3 := blk_frozen BK373.out 3; have hfz41_4 := blk_frozen BK373.out 4))
          refine bodyPost_ret (results_cell_row rfl _ _ gb373 29 #[.int .u8 x378000_22, .bool false, .string (⟨#[]⟩ : ByteArray), .int .i64 0, .int .i64 (wrap64 (x3_11 + 8))] (0, 0) _ rfl (by (with_reducible repeat (first | refine blk_drewN ?_ _ | refine blk_drew ?_ | refine blk_alloc ?_ _)); refine blk_put (cs := #[.int .u8 x378000_22, .bool false, .string (⟨#[]⟩ : ByteArray), .int .i64 0, .int .i64 0]) ?_ 4 _ rfl; (with_reducible repeat (first | refine blk_drewN ?_ _ | refine blk_drew ?_ | refine blk_alloc ?_ _)); refine blk_put (cs := #[.int .u8 x378000_22, .bool false, .string (⟨#[]⟩ : ByteArray), .int .i64 0, .int .i64 0]) ?_ 3 _ rfl; (with_reducible repeat (first | refine blk_drewN ?_ _ | refine blk_drew ?_ | refine blk_alloc ?_ _)); refine blk_put (cs := #[.int .u8 x378000_22, .bool false, .string (⟨#[]⟩ : ByteArray), .int .i64 0, .int .i64 0]) ?_ 2 _ rfl; (with_reducible repeat (first | refine blk_drewN ?_ _ | refine blk_drew ?_ | refine blk_alloc ?_ _)); refine blk_put (cs := #[.int .u8 x378000_22, .bool false, .string (⟨#[]⟩ : ByteArray), .int .i64 0, .int .i64 0]) ?_ 1 _ rfl; (with_reducible repeat (first | refine blk_drewN ?_ _ | refine blk_drew ?_ | refine blk_alloc ?_ _)); refine blk_put (cs := #[.int .u8 0, .bool false, .string (⟨#[]⟩ : ByteArray), .int .i64 0, .int .i64 0]) ?_ 0 _ rfl; (with_reducible repeat (first | refine blk_drewN ?_ _ | refine blk_drew ?_ | refine blk_alloc ?_ _)); refine blk_far ?_ NB373_377.out _; (with_reducible repeat (first | refine blk_drewN ?_ _ | refine blk_drew ?_ | refine blk_alloc ?_ _)); exact BK373.out) Tryd.underlying29 rfl (by kernel_rfl)) rfl ?_
          exact ⟨qng6_, qng41_⟩
         ·
          replace c36 := Bool.eq_false_iff.mpr c36
          subst c36
          have H1 : (some (x378000_22, false, (⟨#[]⟩ : ByteArray), 0, (wrap64 (x3_11 + 3)))) = some (r1, r2, r3, r4, r5) := by rw [if_neg (show ¬ (false = true) by decide)] at H; exact H
          clear H
          have H := H1
          clear H1
          simp only [Option.some.injEq, Prod.mk.injEq] at H
          obtain ⟨rfl, rfl, rfl, rfl, rfl⟩ := H
          go_wp2_with (first | ((with_reducible refine gate_callee (f := 45) rfl ?_); refine goesL_ (some 54) rfl rfl Tryd.func45 (by kernel_rfl) rfl #[.string a0, .int .i64 x3_11, .string (⟨#[105, 110, 102, 105, 110, 105, 116, 121]⟩ : ByteArray)] rfl qng0_ ?_; (with_reducible refine (millref3_at.calls kj22 a0 x3_11 (⟨#[105, 110, 102, 105, 110, 105, 116, 121]⟩ : ByteArray) false _ A35.out).mono ?_); rintro e w' ⟨rfl, ⟨nd, rfl⟩⟩; refine ⟨_, rfl, ?_⟩; (try (rw [drewN_self wc]; generalize hq_ : World.drewN wc _ = wc; have n0_ : Aside0 (wc.heap[gb373]? = some (.cells #[.int .u8 0, .bool false, .string (⟨#[]⟩ : ByteArray), .int .i64 0, .int .i64 0] 29 (0, 0))) := ⟨by rw [← hq_]; exact qng17_⟩; have n1_ : Aside0 (wc.heap[gb377]? = some (.cells #[.int .u8 x378000_22, .bool false, .string (⟨#[]⟩ : ByteArray), .int .i64 0, .int .i64 (wrap64 (x3_11 + 3))] 29 (0, 0))) := ⟨by rw [← hq_]; exact (by (with_reducible repeat (first | refine blk_drewN ?_ _ | refine blk_drew ?_ | refine blk_alloc ?_ _)); exact BK377.out)⟩; have n2_ : Aside0 (Below w.heap.size w wc) := ⟨by rw [← hq_]; exact qng41_⟩; clear BK373 BK377 HB hq_; have BK373 := n0_; have BK377 := n1_; have HB := n2_; clear n0_ n1_ n2_)); (try (have hcu42_0 : wc.cell? ⟨gb373, 0, none⟩ = some (.int .u8 0) := (blk_cell BK373.out 0).trans rfl; have hfu42_0 := blk_frozen BK373.out 0; have hcu42_1 : wc.cell? ⟨gb373, 1, none⟩ = some (.bool false) := (blk_cell BK373.out 1).trans rfl; have hfu42_1 := blk_frozen BK373.out 1; have hcu42_2 : wc.cell? ⟨gb373, 2, none⟩ = some (.string (⟨#[]⟩ : ByteArray)) := (blk_cell BK373.out 2).trans rfl; have hfu42_2 := blk_frozen BK373.out 2; have hcu42_3 : wc.cell? ⟨gb373, 3, none⟩ = some (.int .i64 0) := (blk_cell BK373.out 3).trans rfl; have hfu42_3 := blk_frozen BK373.out 3; have hcu42_4 : wc.cell? ⟨gb373, 4, none⟩ = some (.int .i64 0) := (blk_cell BK373.out 4).trans rfl; have hfu42_4 := blk_frozen BK373.out 4)); (try (have hcu43_0 : wc.cell? ⟨gb377, 0, none⟩ = some (.int .u8 x378000_22) := (blk_cell BK377.out 0).trans rfl; have hfu43_0 := blk_frozen BK377.out 0; have hcu43_1 : wc.cell? ⟨gb377, 1, none⟩ = some (.bool false) := (blk_cell BK377.out 1).trans rfl; have hfu43_1 := blk_frozen BK377.out 1; have hcu43_2 : wc.cell? ⟨gb377, 2, none⟩ = some (.string (⟨#[]⟩ : ByteArray)) := (blk_cell BK377.out 2).trans rfl; have hfu43_2 := blk_frozen BK377.out 2; have hcu43_3 : wc.cell? ⟨gb377, 3, none⟩ = some (.int .i64 0) := (blk_cell BK377.out 3).trans rfl; have hfu43_3 := blk_frozen BK377.out 3; have hcu43_4 : wc.cell? ⟨gb377, 4, none⟩ = some (.int .i64 (wrap64 (x3_11 + 3))) := (blk_cell BK377.out 4).trans rfl; have hfu43_4 := blk_frozen BK377.out 4)); have hnb44 := NB377_373.out; have hnc44 := NB373_377.out; have hcz45_0 : wc.cell? ⟨gb377, 0, none⟩ = some (.int .u8 x378000_22) := (blk_cell BK377.out 0).trans rfl; have hcz45_1 : wc.cell? ⟨gb377, 1, none⟩ = some (.bool false) := (blk_cell BK377.out 1).trans rfl; have hcz45_2 : wc.cell? ⟨gb377, 2, none⟩ = some (.string (⟨#[]⟩ : ByteArray)) := (blk_cell BK377.out 2).trans rfl; have hcz45_3 : wc.cell? ⟨gb377, 3, none⟩ = some (.int .i64 0) := (blk_cell BK377.out 3).trans rfl; have hcz45_4 : wc.cell? ⟨gb377, 4, none⟩ = some (.int .i64 (wrap64 (x3_11 + 3))) := (blk_cell BK377.out 4).trans rfl; have hfz45_0 := blk_frozen BK377.out 0; have hfz45_1 := blk_frozen BK377.out 1; have hfz45_2 := blk_frozen BK377.out 2; have hfz45_3 := blk_frozen BK377.out 3; have hfz45_4 := blk_frozen BK377.out 4; have hcz46_0 : wc.cell? ⟨gb373, 0, none⟩ = some (.int .u8 0) := (blk_cell BK373.out 0).trans rfl; have hcz46_1 : wc.cell? ⟨gb373, 1, none⟩ = some (.bool false) := (blk_cell BK373.out 1).trans rfl; have hcz46_2 : wc.cell? ⟨gb373, 2, none⟩ = some (.string (⟨#[]⟩ : ByteArray)) := (blk_cell BK373.out 2).trans rfl; have hcz46_3 : wc.cell? ⟨gb373, 3, none⟩ = some (.int .i64 0) := (blk_cell BK373.out 3).trans rfl; have hcz46_4 : wc.cell? ⟨gb373, 4, none⟩ = some (.int .i64 0) := (blk_cell BK373.out 4).trans rfl; have hfz46_0 := blk_frozen BK373.out 0; have hfz46_1 := blk_frozen BK373.out 1; have hfz46_2 := blk_frozen BK373.out 2; have hfz46_3 := blk_frozen BK373.out 3; have hfz46_4 := blk_frozen BK373.out 4))
          refine bodyPost_ret (results_cell_row rfl _ _ gb373 29 #[.int .u8 x378000_22, .bool false, .string (⟨#[]⟩ : ByteArray), .int .i64 0, .int .i64 (wrap64 (x3_11 + 3))] (0, 0) _ rfl (by (with_reducible repeat (first | refine blk_drewN ?_ _ | refine blk_drew ?_ | refine blk_alloc ?_ _)); refine blk_put (cs := #[.int .u8 x378000_22, .bool false, .string (⟨#[]⟩ : ByteArray), .int .i64 0, .int .i64 0]) ?_ 4 _ rfl; (with_reducible repeat (first | refine blk_drewN ?_ _ | refine blk_drew ?_ | refine blk_alloc ?_ _)); refine blk_put (cs := #[.int .u8 x378000_22, .bool false, .string (⟨#[]⟩ : ByteArray), .int .i64 0, .int .i64 0]) ?_ 3 _ rfl; (with_reducible repeat (first | refine blk_drewN ?_ _ | refine blk_drew ?_ | refine blk_alloc ?_ _)); refine blk_put (cs := #[.int .u8 x378000_22, .bool false, .string (⟨#[]⟩ : ByteArray), .int .i64 0, .int .i64 0]) ?_ 2 _ rfl; (with_reducible repeat (first | refine blk_drewN ?_ _ | refine blk_drew ?_ | refine blk_alloc ?_ _)); refine blk_put (cs := #[.int .u8 x378000_22, .bool false, .string (⟨#[]⟩ : ByteArray), .int .i64 0, .int .i64 0]) ?_ 1 _ rfl; (with_reducible repeat (first | refine blk_drewN ?_ _ | refine blk_drew ?_ | refine blk_alloc ?_ _)); refine blk_put (cs := #[.int .u8 0, .bool false, .string (⟨#[]⟩ : ByteArray), .int .i64 0, .int .i64 0]) ?_ 0 _ rfl; (with_reducible repeat (first | refine blk_drewN ?_ _ | refine blk_drew ?_ | refine blk_alloc ?_ _)); exact BK373.out) Tryd.underlying29 rfl (by kernel_rfl)) rfl ?_
          exact ⟨qng6_, qng41_⟩
      ·
       replace c22 := Bool.eq_false_iff.mpr c22
       subst c22
       have H1 : ((millref3_Plain.f kj11 a0 x3_11).bind fun bt379 => (if bt379.2.2 < 0 then (some (0, false, (⟨#[]⟩ : ByteArray), 0, 0)) else ((millref3_exponent.f kj11 a0 bt379.2.2).bind fun bt382 => ((millref3_Norm.f kj11 x4_11 bt379.1 (wrap64 (bt379.2.1 + bt382.1)) 0).bind fun bt384 => (some (3, bt384.1, bt384.2.1, bt384.2.2.1, bt382.2)))))) = some (r1, r2, r3, r4, r5) := by rw [if_neg (show ¬ (false = true) by decide)] at H; exact H
       clear H
       have H := H1
       clear H1
       replace H := Option.bind_eq_some_iff.mp H
       obtain ⟨⟨t379, t380, t381⟩, A470, H⟩ := H
       replace H : (if t381 < 0 then (some (0, false, (⟨#[]⟩ : ByteArray), 0, 0)) else ((millref3_exponent.f kj11 a0 t381).bind fun bt382 => ((millref3_Norm.f kj11 x4_11 t379 (wrap64 (t380 + bt382.1)) 0).bind fun bt384 => (some (3, bt384.1, bt384.2.1, bt384.2.2.1, bt382.2))))) = some (r1, r2, r3, r4, r5) := H
       have A47 := Aside0.mk A470
       clear A470
       by_cases c48 : t381 < 0
       ·
        rw [if_pos c48] at H
        have c48b0 : decide (t381 < 0) = true := decide_eq_true c48
        clear c48
        simp only [Option.some.injEq, Prod.mk.injEq] at H
        obtain ⟨rfl, rfl, rfl, rfl, rfl⟩ := H
        have tk53 : True := trivial; have tk54 : True := trivial; have tk55 : True := trivial
        go_wp2_with (first | (have ztk53 := tk53; clear tk53 ztk53; (with_reducible refine gate_callee (f := 45) rfl ?_); refine goesL_ (some 39) rfl rfl Tryd.func45 (by kernel_rfl) rfl #[.string a0, .int .i64 x3_11, .string (⟨#[110, 97, 110]⟩ : ByteArray)] rfl qng0_ ?_; (with_reducible refine (millref3_at.calls kj11 a0 x3_11 (⟨#[110, 97, 110]⟩ : ByteArray) false _ A17.out).mono ?_); rintro e w' ⟨rfl, ⟨nd, rfl⟩⟩; refine ⟨_, rfl, ?_⟩; (try (rw [drewN_self wc]; generalize hq_ : World.drewN wc _ = wc; have n0_ : Aside0 (wc.heap[gb373]? = some (.cells #[.int .u8 0, .bool false, .string (⟨#[]⟩ : ByteArray), .int .i64 0, .int .i64 0] 29 (0, 0))) := ⟨by rw [← hq_]; exact qng17_⟩; have n1_ : Aside0 (Below w.heap.size w wc) := ⟨by rw [← hq_]; exact qng14_⟩; clear BK373 HB hq_; have BK373 := n0_; have HB := n1_; clear n0_ n1_)); (try (have hcu49_0 : wc.cell? ⟨gb373, 0, none⟩ = some (.int .u8 0) := (blk_cell BK373.out 0).trans rfl; have hfu49_0 := blk_frozen BK373.out 0; have hcu49_1 : wc.cell? ⟨gb373, 1, none⟩ = some (.bool false) := (blk_cell BK373.out 1).trans rfl; have hfu49_1 := blk_frozen BK373.out 1; have hcu49_2 : wc.cell? ⟨gb373, 2, none⟩ = some (.string (⟨#[]⟩ : ByteArray)) := (blk_cell BK373.out 2).trans rfl; have hfu49_2 := blk_frozen BK373.out 2; have hcu49_3 : wc.cell? ⟨gb373, 3, none⟩ = some (.int .i64 0) := (blk_cell BK373.out 3).trans rfl; have hfu49_3 := blk_frozen BK373.out 3; have hcu49_4 : wc.cell? ⟨gb373, 4, none⟩ = some (.int .i64 0) := (blk_cell BK373.out 4).trans rfl; have hfu49_4 := blk_frozen BK373.out 4))) | (have ztk54 := tk54; clear tk54 ztk54; (with_reducible refine gate_callee (f := 45) rfl ?_); refine goesL_ (some 46) rfl rfl Tryd.func45 (by kernel_rfl) rfl #[.string a0, .int .i64 x3_11, .string (⟨#[105, 110, 102]⟩ : ByteArray)] rfl qng0_ ?_; (with_reducible refine (millref3_at.calls kj11 a0 x3_11 (⟨#[105, 110, 102]⟩ : ByteArray) false _ A21.out).mono ?_); rintro e w' ⟨rfl, ⟨nd, rfl⟩⟩; refine ⟨_, rfl, ?_⟩; (try (rw [drewN_self wc]; generalize hq_ : World.drewN wc _ = wc; have n0_ : Aside0 (wc.heap[gb373]? = some (.cells #[.int .u8 0, .bool false, .string (⟨#[]⟩ : ByteArray), .int .i64 0, .int .i64 0] 29 (0, 0))) := ⟨by rw [← hq_]; exact qng17_⟩; have n1_ : Aside0 (Below w.heap.size w wc) := ⟨by rw [← hq_]; exact qng14_⟩; clear BK373 HB hq_; have BK373 := n0_; have HB := n1_; clear n0_ n1_)); (try (have hcu50_0 : wc.cell? ⟨gb373, 0, none⟩ = some (.int .u8 0) := (blk_cell BK373.out 0).trans rfl; have hfu50_0 := blk_frozen BK373.out 0; have hcu50_1 : wc.cell? ⟨gb373, 1, none⟩ = some (.bool false) := (blk_cell BK373.out 1).trans rfl; have hfu50_1 := blk_frozen BK373.out 1; have hcu50_2 : wc.cell? ⟨gb373, 2, none⟩ = some (.string (⟨#[]⟩ : ByteArray)) := (blk_cell BK373.out 2).trans rfl; have hfu50_2 := blk_frozen BK373.out 2; have hcu50_3 : wc.cell? ⟨gb373, 3, none⟩ = some (.int .i64 0) := (blk_cell BK373.out 3).trans rfl; have hfu50_3 := blk_frozen BK373.out 3; have hcu50_4 : wc.cell? ⟨gb373, 4, none⟩ = some (.int .i64 0) := (blk_cell BK373.out 4).trans rfl; have hfu50_4 := blk_frozen BK373.out 4))) | (have ztk55 := tk55; clear tk55 ztk55; (with_reducible refine gate_callee (f := 46) rfl ?_); refine goesL_ (some 62) rfl rfl Tryd.func46 (by kernel_rfl) rfl #[.string a0, .int .i64 x3_11] rfl qng0_ ?_; (with_reducible refine (millref3_Plain.calls kj11 a0 x3_11 t379 t380 t381 _ A47.out).mono ?_); rintro e w' ⟨rfl, ⟨nd, rfl⟩⟩; refine ⟨_, rfl, ?_⟩; (try (rw [drewN_self wc]; generalize hq_ : World.drewN wc _ = wc; have n0_ : Aside0 (wc.heap[gb373]? = some (.cells #[.int .u8 0, .bool false, .string (⟨#[]⟩ : ByteArray), .int .i64 0, .int .i64 0] 29 (0, 0))) := ⟨by rw [← hq_]; exact qng17_⟩; have n1_ : Aside0 (Below w.heap.size w wc) := ⟨by rw [← hq_]; exact qng14_⟩; clear BK373 HB hq_; have BK373 := n0_; have HB := n1_; clear n0_ n1_)); (try (have hcu51_0 : wc.cell? ⟨gb373, 0, none⟩ = some (.int .u8 0) := (blk_cell BK373.out 0).trans rfl; have hfu51_0 := blk_frozen BK373.out 0; have hcu51_1 : wc.cell? ⟨gb373, 1, none⟩ = some (.bool false) := (blk_cell BK373.out 1).trans rfl; have hfu51_1 := blk_frozen BK373.out 1; have hcu51_2 : wc.cell? ⟨gb373, 2, none⟩ = some (.string (⟨#[]⟩ : ByteArray)) := (blk_cell BK373.out 2).trans rfl; have hfu51_2 := blk_frozen BK373.out 2; have hcu51_3 : wc.cell? ⟨gb373, 3, none⟩ = some (.int .i64 0) := (blk_cell BK373.out 3).trans rfl; have hfu51_3 := blk_frozen BK373.out 3; have hcu51_4 : wc.cell? ⟨gb373, 4, none⟩ = some (.int .i64 0) := (blk_cell BK373.out 4).trans rfl; have hfu51_4 := blk_frozen BK373.out 4)); have hcz52_0 : wc.cell? ⟨gb373, 0, none⟩ = some (.int .u8 0) := (blk_cell BK373.out 0).trans rfl; have hcz52_1 : wc.cell? ⟨gb373, 1, none⟩ = some (.bool false) := (blk_cell BK373.out 1).trans rfl; have hcz52_2 : wc.cell? ⟨gb373, 2, none⟩ = some (.string (⟨#[]⟩ : ByteArray)) := (blk_cell BK373.out 2).trans rfl; have hcz52_3 : wc.cell? ⟨gb373, 3, none⟩ = some (.int .i64 0) := (blk_cell BK373.out 3).trans rfl; have hcz52_4 : wc.cell? ⟨gb373, 4, none⟩ = some (.int .i64 0) := (blk_cell BK373.out 4).trans rfl; have hfz52_0 := blk_frozen BK373.out 0; have hfz52_1 := blk_frozen BK373.out 1; have hfz52_2 := blk_frozen BK373.out 2; have hfz52_3 := blk_frozen BK373.out 3; have hfz52_4 := blk_frozen BK373.out 4))
        refine bodyPost_ret (results_cell_row rfl _ _ gb373 29 #[.int .u8 0, .bool false, .string (⟨#[]⟩ : ByteArray), .int .i64 0, .int .i64 0] (0, 0) _ rfl (by (with_reducible repeat (first | refine blk_drewN ?_ _ | refine blk_drew ?_ | refine blk_alloc ?_ _)); refine blk_put (cs := #[.int .u8 0, .bool false, .string (⟨#[]⟩ : ByteArray), .int .i64 0, .int .i64 0]) ?_ 4 _ rfl; (with_reducible repeat (first | refine blk_drewN ?_ _ | refine blk_drew ?_ | refine blk_alloc ?_ _)); refine blk_put (cs := #[.int .u8 0, .bool false, .string (⟨#[]⟩ : ByteArray), .int .i64 0, .int .i64 0]) ?_ 3 _ rfl; (with_reducible repeat (first | refine blk_drewN ?_ _ | refine blk_drew ?_ | refine blk_alloc ?_ _)); refine blk_put (cs := #[.int .u8 0, .bool false, .string (⟨#[]⟩ : ByteArray), .int .i64 0, .int .i64 0]) ?_ 2 _ rfl; (with_reducible repeat (first | refine blk_drewN ?_ _ | refine blk_drew ?_ | refine blk_alloc ?_ _)); refine blk_put (cs := #[.int .u8 0, .bool false, .string (⟨#[]⟩ : ByteArray), .int .i64 0, .int .i64 0]) ?_ 1 _ rfl; (with_reducible repeat (first | refine blk_drewN ?_ _ | refine blk_drew ?_ | refine blk_alloc ?_ _)); refine blk_put (cs := #[.int .u8 0, .bool false, .string (⟨#[]⟩ : ByteArray), .int .i64 0, .int .i64 0]) ?_ 0 _ rfl; (with_reducible repeat (first | refine blk_drewN ?_ _ | refine blk_drew ?_ | refine blk_alloc ?_ _)); exact BK373.out) Tryd.underlying29 rfl (by kernel_rfl)) rfl ?_
        exact ⟨qng6_, qng14_⟩
       ·
        rw [if_neg c48] at H
        have c48b0 : decide (t381 < 0) = false := decide_eq_false c48
        clear c48
        replace H := Option.bind_eq_some_iff.mp H
        obtain ⟨⟨t382, t383⟩, A560, H⟩ := H
        replace H : ((millref3_Norm.f kj11 x4_11 t379 (wrap64 (t380 + t382)) 0).bind fun bt384 => (some (3, bt384.1, bt384.2.1, bt384.2.2.1, t383))) = some (r1, r2, r3, r4, r5) := H
        have A56 := Aside0.mk A560
        clear A560
        replace H := Option.bind_eq_some_iff.mp H
        obtain ⟨⟨t384, t385, t386, t387⟩, A570, H⟩ := H
        replace H : (some (3, t384, t385, t386, t383)) = some (r1, r2, r3, r4, r5) := H
        have A57 := Aside0.mk A570
        clear A570
        simp only [Option.some.injEq, Prod.mk.injEq] at H
        obtain ⟨rfl, rfl, rfl, rfl, rfl⟩ := H
        have tk67 : True := trivial; have tk68 : True := trivial; have tk69 : True := trivial; have tk70 : True := trivial; have tk71 : True := trivial; have tk72 : True := trivial
        go_wp2_with (first | (have ztk67 := tk67; clear tk67 ztk67; (with_reducible refine gate_callee (f := 45) rfl ?_); refine goesL_ (some 39) rfl rfl Tryd.func45 (by kernel_rfl) rfl #[.string a0, .int .i64 x3_11, .string (⟨#[110, 97, 110]⟩ : ByteArray)] rfl qng0_ ?_; (with_reducible refine (millref3_at.calls kj11 a0 x3_11 (⟨#[110, 97, 110]⟩ : ByteArray) false _ A17.out).mono ?_); rintro e w' ⟨rfl, ⟨nd, rfl⟩⟩; refine ⟨_, rfl, ?_⟩; (try (rw [drewN_self wc]; generalize hq_ : World.drewN wc _ = wc; have n0_ : Aside0 (wc.heap[gb373]? = some (.cells #[.int .u8 0, .bool false, .string (⟨#[]⟩ : ByteArray), .int .i64 0, .int .i64 0] 29 (0, 0))) := ⟨by rw [← hq_]; exact qng17_⟩; have n1_ : Aside0 (Below w.heap.size w wc) := ⟨by rw [← hq_]; exact qng14_⟩; clear BK373 HB hq_; have BK373 := n0_; have HB := n1_; clear n0_ n1_)); (try (have hcu58_0 : wc.cell? ⟨gb373, 0, none⟩ = some (.int .u8 0) := (blk_cell BK373.out 0).trans rfl; have hfu58_0 := blk_frozen BK373.out 0; have hcu58_1 : wc.cell? ⟨gb373, 1, none⟩ = some (.bool false) := (blk_cell BK373.out 1).trans rfl; have hfu58_1 := blk_frozen BK373.out 1; have hcu58_2 : wc.cell? ⟨gb373, 2, none⟩ = some (.string (⟨#[]⟩ : ByteArray)) := (blk_cell BK373.out 2).trans rfl; have hfu58_2 := blk_frozen BK373.out 2; have hcu58_3 : wc.cell? ⟨gb373, 3, none⟩ = some (.int .i64 0) := (blk_cell BK373.out 3).trans rfl; have hfu58_3 := blk_frozen BK373.out 3; have hcu58_4 : wc.cell? ⟨gb373, 4, none⟩ = some (.int .i64 0) := (blk_cell BK373.out 4).trans rfl; have hfu58_4 := blk_frozen BK373.out 4))) | (have ztk68 := tk68; clear tk68 ztk68; (with_reducible refine gate_callee (f := 45) rfl ?_); refine goesL_ (some 46) rfl rfl Tryd.func45 (by kernel_rfl) rfl #[.string a0, .int .i64 x3_11, .string (⟨#[105, 110, 102]⟩ : ByteArray)] rfl qng0_ ?_; (with_reducible refine (millref3_at.calls kj11 a0 x3_11 (⟨#[105, 110, 102]⟩ : ByteArray) false _ A21.out).mono ?_); rintro e w' ⟨rfl, ⟨nd, rfl⟩⟩; refine ⟨_, rfl, ?_⟩; (try (rw [drewN_self wc]; generalize hq_ : World.drewN wc _ = wc; have n0_ : Aside0 (wc.heap[gb373]? = some (.cells #[.int .u8 0, .bool false, .string (⟨#[]⟩ : ByteArray), .int .i64 0, .int .i64 0] 29 (0, 0))) := ⟨by rw [← hq_]; exact qng17_⟩; have n1_ : Aside0 (Below w.heap.size w wc) := ⟨by rw [← hq_]; exact qng14_⟩; clear BK373 HB hq_; have BK373 := n0_; have HB := n1_; clear n0_ n1_)); (try (have hcu59_0 : wc.cell? ⟨gb373, 0, none⟩ = some (.int .u8 0) := (blk_cell BK373.out 0).trans rfl; have hfu59_0 := blk_frozen BK373.out 0; have hcu59_1 : wc.cell? ⟨gb373, 1, none⟩ = some (.bool false) := (blk_cell BK373.out 1).trans rfl; have hfu59_1 := blk_frozen BK373.out 1; have hcu59_2 : wc.cell? ⟨gb373, 2, none⟩ = some (.string (⟨#[]⟩ : ByteArray)) := (blk_cell BK373.out 2).trans rfl; have hfu59_2 := blk_frozen BK373.out 2; have hcu59_3 : wc.cell? ⟨gb373, 3, none⟩ = some (.int .i64 0) := (blk_cell BK373.out 3).trans rfl; have hfu59_3 := blk_frozen BK373.out 3; have hcu59_4 : wc.cell? ⟨gb373, 4, none⟩ = some (.int .i64 0) := (blk_cell BK373.out 4).trans rfl; have hfu59_4 := blk_frozen BK373.out 4))) | (have ztk69 := tk69; clear tk69 ztk69; (with_reducible refine gate_callee (f := 46) rfl ?_); refine goesL_ (some 62) rfl rfl Tryd.func46 (by kernel_rfl) rfl #[.string a0, .int .i64 x3_11] rfl qng0_ ?_; (with_reducible refine (millref3_Plain.calls kj11 a0 x3_11 t379 t380 t381 _ A47.out).mono ?_); rintro e w' ⟨rfl, ⟨nd, rfl⟩⟩; refine ⟨_, rfl, ?_⟩; (try (rw [drewN_self wc]; generalize hq_ : World.drewN wc _ = wc; have n0_ : Aside0 (wc.heap[gb373]? = some (.cells #[.int .u8 0, .bool false, .string (⟨#[]⟩ : ByteArray), .int .i64 0, .int .i64 0] 29 (0, 0))) := ⟨by rw [← hq_]; exact qng17_⟩; have n1_ : Aside0 (Below w.heap.size w wc) := ⟨by rw [← hq_]; exact qng14_⟩; clear BK373 HB hq_; have BK373 := n0_; have HB := n1_; clear n0_ n1_)); (try (have hcu60_0 : wc.cell? ⟨gb373, 0, none⟩ = some (.int .u8 0) := (blk_cell BK373.out 0).trans rfl; have hfu60_0 := blk_frozen BK373.out 0; have hcu60_1 : wc.cell? ⟨gb373, 1, none⟩ = some (.bool false) := (blk_cell BK373.out 1).trans rfl; have hfu60_1 := blk_frozen BK373.out 1; have hcu60_2 : wc.cell? ⟨gb373, 2, none⟩ = some (.string (⟨#[]⟩ : ByteArray)) := (blk_cell BK373.out 2).trans rfl; have hfu60_2 := blk_frozen BK373.out 2; have hcu60_3 : wc.cell? ⟨gb373, 3, none⟩ = some (.int .i64 0) := (blk_cell BK373.out 3).trans rfl; have hfu60_3 := blk_frozen BK373.out 3; have hcu60_4 : wc.cell? ⟨gb373, 4, none⟩ = some (.int .i64 0) := (blk_cell BK373.out 4).trans rfl; have hfu60_4 := blk_frozen BK373.out 4))) | (have ztk70 := tk70; clear tk70 ztk70; (with_reducible refine gate_callee (f := 47) rfl ?_); refine goesL_ (some 72) rfl rfl Tryd.func47 (by kernel_rfl) rfl #[.string a0, .int .i64 t381] rfl qng0_ ?_; (with_reducible refine (millref3_exponent.calls kj11 a0 t381 t382 t383 _ A56.out).mono ?_); rintro e w' ⟨rfl, ⟨nd, rfl⟩⟩; refine ⟨_, rfl, ?_⟩; (try (rw [drewN_self wc]; generalize hq_ : World.drewN wc _ = wc; have n0_ : Aside0 (wc.heap[gb373]? = some (.cells #[.int .u8 0, .bool false, .string (⟨#[]⟩ : ByteArray), .int .i64 0, .int .i64 0] 29 (0, 0))) := ⟨by rw [← hq_]; exact qng17_⟩; have n1_ : Aside0 (Below w.heap.size w wc) := ⟨by rw [← hq_]; exact qng14_⟩; clear BK373 HB hq_; have BK373 := n0_; have HB := n1_; clear n0_ n1_)); (try (have hcu61_0 : wc.cell? ⟨gb373, 0, none⟩ = some (.int .u8 0) := (blk_cell BK373.out 0).trans rfl; have hfu61_0 := blk_frozen BK373.out 0; have hcu61_1 : wc.cell? ⟨gb373, 1, none⟩ = some (.bool false) := (blk_cell BK373.out 1).trans rfl; have hfu61_1 := blk_frozen BK373.out 1; have hcu61_2 : wc.cell? ⟨gb373, 2, none⟩ = some (.string (⟨#[]⟩ : ByteArray)) := (blk_cell BK373.out 2).trans rfl; have hfu61_2 := blk_frozen BK373.out 2; have hcu61_3 : wc.cell? ⟨gb373, 3, none⟩ = some (.int .i64 0) := (blk_cell BK373.out 3).trans rfl; have hfu61_3 := blk_frozen BK373.out 3; have hcu61_4 : wc.cell? ⟨gb373, 4, none⟩ = some (.int .i64 0) := (blk_cell BK373.out 4).trans rfl; have hfu61_4 := blk_frozen BK373.out 4))) | (have ztk71 := tk71; clear tk71 ztk71; (with_reducible refine gate_callee (f := 48) rfl ?_); refine goesL_ (some 81) rfl rfl Tryd.func48 (by kernel_rfl) rfl #[.agg #[.bool x4_11, .string t379, .int .i64 (wrap64 (t380 + t382)), .int .i64 0]] rfl qng0_ ?_; (with_reducible refine (millref3_Norm.calls kj11 x4_11 t379 (wrap64 (t380 + t382)) 0 t384 t385 t386 t387 _ A57.out).mono ?_); rintro e w62 ⟨rfl, hb⟩; refine ⟨_, rfl, ?_⟩; have n0_ := Aside0.mk (blk_below (g := gb373) (o := .cells #[.int .u8 0, .bool false, .string (⟨#[]⟩ : ByteArray), .int .i64 0, .int .i64 0] 29 (0, 0)) qng17_ hb); have n1_ := Aside0.mk (below_step qng14_ hb); clear BK373; clear HB; have BK373 := n0_; have HB := n1_; clear n0_ n1_; (try clear hb); (try clear hb2); (try clear hk); (try clear hi)) | (have ztk72 := tk72; clear tk72 ztk72; (with_reducible refine gate_dst (N := 11) rfl ?_); refine box_event ?hg (N := 11) ?hd (cs := #[.bool false, .string (⟨#[]⟩ : ByteArray), .int .i64 0, .int .i64 0]) (t := 67) ?hr ?_; (case hd => rfl); (case hg => rfl); (case hr => first | (go_simp; done) | (go_simp; rfl)); intro gb388 hg w63 hbox hb; have n0_ := Aside0.mk (blk_below (g := gb373) (o := .cells #[.int .u8 0, .bool false, .string (⟨#[]⟩ : ByteArray), .int .i64 0, .int .i64 0] 29 (0, 0)) qng17_ hb); have n1_ := Aside0.mk (below_step qng14_ hb); have n2_ := Aside0.mk (hbox); have n3_ := Aside0.mk ((by rw [hg]; exact (below_size qng14_) : w.heap.size ≤ gb388)); have n4_ := Aside0.mk ((by rw [hg]; exact (below_size qng14_) : w.heap.size ≤ gb388)); have n5_ := Aside0.mk ((by rw [hg]; exact Nat.ne_of_lt (blk_lt (g := gb373) (o := .cells #[.int .u8 0, .bool false, .string (⟨#[]⟩ : ByteArray), .int .i64 0, .int .i64 0] 29 (0, 0)) qng17_) : gb373 ≠ gb388)); have n6_ := Aside0.mk ((by rw [hg]; exact Nat.ne_of_gt (blk_lt (g := gb373) (o := .cells #[.int .u8 0, .bool false, .string (⟨#[]⟩ : ByteArray), .int .i64 0, .int .i64 0] 29 (0, 0)) qng17_) : gb388 ≠ gb373)); clear BK373; clear HB; have BK373 := n0_; have HB := n1_; have BK388 := n2_; have GW388 := n3_; have GE388 := n4_; have NB373_388 := n5_; have NB388_373 := n6_; clear n0_ n1_ n2_ n3_ n4_ n5_ n6_; clear hb hbox hg; have hnb64 := NB388_373.out; have hnc64 := NB373_388.out; have hcz65_0 : w63.cell? ⟨gb388, 0, none⟩ = some (.bool false) := (blk_cell BK388.out 0).trans rfl; have hcz65_1 : w63.cell? ⟨gb388, 1, none⟩ = some (.string (⟨#[]⟩ : ByteArray)) := (blk_cell BK388.out 1).trans rfl; have hcz65_2 : w63.cell? ⟨gb388, 2, none⟩ = some (.int .i64 0) := (blk_cell BK388.out 2).trans rfl; have hcz65_3 : w63.cell? ⟨gb388, 3, none⟩ = some (.int .i64 0) := (blk_cell BK388.out 3).trans rfl; have hfz65_0 := blk_frozen BK388.out 0; have hfz65_1 := blk_frozen BK388.out 1; have hfz65_2 := blk_frozen BK388.out 2; have hfz65_3 := blk_frozen BK388.out 3; have hcz66_0 : w63.cell? ⟨gb373, 0, none⟩ = some (.int .u8 0) := (blk_cell BK373.out 0).trans rfl; have hcz66_1 : w63.cell? ⟨gb373, 1, none⟩ = some (.bool false) := (blk_cell BK373.out 1).trans rfl; have hcz66_2 : w63.cell? ⟨gb373, 2, none⟩ = some (.string (⟨#[]⟩ : ByteArray)) := (blk_cell BK373.out 2).trans rfl; have hcz66_3 : w63.cell? ⟨gb373, 3, none⟩ = some (.int .i64 0) := (blk_cell BK373.out 3).trans rfl; have hcz66_4 : w63.cell? ⟨gb373, 4, none⟩ = some (.int .i64 0) := (blk_cell BK373.out 4).trans rfl; have hfz66_0 := blk_frozen BK373.out 0; have hfz66_1 := blk_frozen BK373.out 1; have hfz66_2 := blk_frozen BK373.out 2; have hfz66_3 := blk_frozen BK373.out 3; have hfz66_4 := blk_frozen BK373.out 4))
        refine bodyPost_ret (results_cell_row rfl _ _ gb373 29 #[.int .u8 3, .bool t384, .string t385, .int .i64 t386, .int .i64 t383] (0, 0) _ rfl (by (with_reducible repeat (first | refine blk_drewN ?_ _ | refine blk_drew ?_ | refine blk_alloc ?_ _)); refine blk_put (cs := #[.int .u8 3, .bool t384, .string t385, .int .i64 t386, .int .i64 0]) ?_ 4 _ rfl; (with_reducible repeat (first | refine blk_drewN ?_ _ | refine blk_drew ?_ | refine blk_alloc ?_ _)); refine blk_put (cs := #[.int .u8 3, .bool t384, .string t385, .int .i64 0, .int .i64 0]) ?_ 3 _ rfl; (with_reducible repeat (first | refine blk_drewN ?_ _ | refine blk_drew ?_ | refine blk_alloc ?_ _)); refine blk_put (cs := #[.int .u8 3, .bool t384, .string (⟨#[]⟩ : ByteArray), .int .i64 0, .int .i64 0]) ?_ 2 _ rfl; (with_reducible repeat (first | refine blk_drewN ?_ _ | refine blk_drew ?_ | refine blk_alloc ?_ _)); refine blk_put (cs := #[.int .u8 3, .bool false, .string (⟨#[]⟩ : ByteArray), .int .i64 0, .int .i64 0]) ?_ 1 _ rfl; (with_reducible repeat (first | refine blk_drewN ?_ _ | refine blk_drew ?_ | refine blk_alloc ?_ _)); refine blk_put (cs := #[.int .u8 0, .bool false, .string (⟨#[]⟩ : ByteArray), .int .i64 0, .int .i64 0]) ?_ 0 _ rfl; (with_reducible repeat (first | refine blk_drewN ?_ _ | refine blk_drew ?_ | refine blk_alloc ?_ _)); refine blk_far ?_ NB373_388.out _; (with_reducible repeat (first | refine blk_drewN ?_ _ | refine blk_drew ?_ | refine blk_alloc ?_ _)); refine blk_far ?_ NB373_388.out _; (with_reducible repeat (first | refine blk_drewN ?_ _ | refine blk_drew ?_ | refine blk_alloc ?_ _)); refine blk_far ?_ NB373_388.out _; (with_reducible repeat (first | refine blk_drewN ?_ _ | refine blk_drew ?_ | refine blk_alloc ?_ _)); refine blk_far ?_ NB373_388.out _; (with_reducible repeat (first | refine blk_drewN ?_ _ | refine blk_drew ?_ | refine blk_alloc ?_ _)); exact BK373.out) Tryd.underlying29 rfl (by kernel_rfl)) rfl ?_
        exact ⟨qng6_, by repeat (first | (with_reducible first | exact HB.out | apply below_alloc | apply pw_below_drewN | apply below_drew1 | refine below_set ?_ GE373.out | refine below_set ?_ GE388.out) | exact HB.out)⟩


attribute [local go_sem high] eqA29
/-! ### milllaw3_NumeralGenerals: function 5 -/
def milllaw3_NumeralGenerals.f (k : Nat) (a0 : ByteArray) : Option (Bool) := (numeral_General.f k a0).bind fun bt389 => ((millref3_General.f k a0).bind fun bt394 => (if (bt389.1 == bt394.1 && (bt389.2.1 == bt394.2.1 && (bt389.2.2.1.toList == bt394.2.2.1.toList && (bt389.2.2.2.1 == bt394.2.2.2.1 && (bt389.2.2.2.2 == bt394.2.2.2.2))))) = true then ((milllaw3_alive.f k).bind fun t399 => (some t399)) else (some false)))
set_option maxHeartbeats 8000000 in
set_option maxRecDepth 100000 in
theorem milllaw3_NumeralGenerals.calls (k : Nat) (a0 : ByteArray) (r : Bool) (w : World) (hGL : GOK w) (h : milllaw3_NumeralGenerals.f k a0 = some r) :
  Calls Tryd.prog 5 #[.string a0] w fun e w' => e = .returned (.bool r) ∧ Below w.heap.size w w' := by
 have HGL := Aside0.mk hGL
 clear hGL
 have HB := Aside0.mk (Below.refl w.heap.size w)
 have H : ((numeral_General.f k a0).bind fun bt389 => ((millref3_General.f k a0).bind fun bt394 => (if (bt389.1 == bt394.1 && (bt389.2.1 == bt394.2.1 && (bt389.2.2.1.toList == bt394.2.2.1.toList && (bt389.2.2.2.1 == bt394.2.2.2.1 && (bt389.2.2.2.2 == bt394.2.2.2.2))))) = true then ((milllaw3_alive.f k).bind fun t399 => (some t399)) else (some false)))) = some r := h
 clear h
 replace H := Option.bind_eq_some_iff.mp H
 obtain ⟨⟨t389, t390, t391, t392, t393⟩, A20, H⟩ := H
 replace H : ((millref3_General.f k a0).bind fun bt394 => (if (t389 == bt394.1 && (t390 == bt394.2.1 && (t391.toList == bt394.2.2.1.toList && (t392 == bt394.2.2.2.1 && (t393 == bt394.2.2.2.2))))) = true then ((milllaw3_alive.f k).bind fun t399 => (some t399)) else (some false))) = some r := H
 have A2 := Aside0.mk A20
 clear A20
 replace H := Option.bind_eq_some_iff.mp H
 obtain ⟨⟨t394, t395, t396, t397, t398⟩, A30, H⟩ := H
 replace H : (if (t389 == t394 && (t390 == t395 && (t391.toList == t396.toList && (t392 == t397 && (t393 == t398))))) = true then ((milllaw3_alive.f k).bind fun t399 => (some t399)) else (some false)) = some r := H
 have A3 := Aside0.mk A30
 clear A30
 by_cases c4 : (t389 == t394 && (t390 == t395 && (t391.toList == t396.toList && (t392 == t397 && (t393 == t398))))) = true
 ·
  rw [if_pos c4] at H
  have c4b0 : (t389 == t394 && (t390 == t395 && (t391.toList == t396.toList && (t392 == t397 && (t393 == t398))))) = true := c4
  (try (have c4b1 : decide (t389 = t394 && (t390 == t395 && (t391.toList == t396.toList && (t392 == t397 && (t393 == t398))))) = true := by simpa using c4))
  (try (have c4b2 : (t389 == t394 && (t390 == t395 && (t391.toList == t396.toList && (t392 == t397 && (t393 == t398))))) = true := by simpa using c4))
  clear c4
  replace H := Option.bind_eq_some_iff.mp H
  obtain ⟨t399, A50, H⟩ := H
  replace H : (some t399) = some r := H
  have A5 := Aside0.mk A50
  clear A50
  obtain rfl := Option.some.inj H
  go_enter Tryd.func5, Tryd.ntmps5
  have tk9 : True := trivial; have tk10 : True := trivial; have tk11 : True := trivial
  go_wp2_with (first | (have ztk9 := tk9; clear tk9 ztk9; (with_reducible refine gate_callee (f := 17) rfl ?_); refine goesL_ (some 4) rfl rfl Tryd.func17 (by kernel_rfl) rfl #[.string a0] rfl qng0_ ?_; (with_reducible refine (numeral_General.calls k a0 t389 t390 t391 t392 t393 _ A2.out).mono ?_); rintro e w6 ⟨rfl, hb⟩; refine ⟨_, rfl, ?_⟩; have n0_ := Aside0.mk (below_step qng1_ hb); clear HB; have HB := n0_; clear n0_; (try clear hb); (try clear hb2); (try clear hk); (try clear hi)) | (have ztk10 := tk10; clear tk10 ztk10; (with_reducible refine gate_callee (f := 26) rfl ?_); refine goesL_ (some 6) rfl rfl Tryd.func26 (by kernel_rfl) rfl #[.string a0] rfl qng0_ ?_; (with_reducible refine (millref3_General.calls k a0 t394 t395 t396 t397 t398 _ A3.out).mono ?_); rintro e w7 ⟨rfl, hb⟩; refine ⟨_, rfl, ?_⟩; have n0_ := Aside0.mk (below_step qng1_ hb); clear HB; have HB := n0_; clear n0_; (try clear hb); (try clear hb2); (try clear hk); (try clear hi)) | (have ztk11 := tk11; clear tk11 ztk11; go_at_call 25; (with_reducible refine (milllaw3_alive.calls k  t399 _ ?side1 A5.out).mono ?_); (case side1 => exact GOK.below HGL.out qng1_); rintro e w8 ⟨rfl, hb⟩; have n0_ := Aside0.mk (below_step qng1_ hb); clear HB; have HB := n0_; clear n0_; (try clear hb); (try clear hb2); (try clear hk); (try clear hi)))
  go_ret
  exact ⟨qng6_, qng1_⟩
 ·
  rw [if_neg c4] at H
  have c4b0 : (t389 == t394 && (t390 == t395 && (t391.toList == t396.toList && (t392 == t397 && (t393 == t398))))) = false := by simpa using c4
  (try (have c4b1 : decide (t389 = t394 && (t390 == t395 && (t391.toList == t396.toList && (t392 == t397 && (t393 == t398))))) = false := by simpa using c4))
  (try (have c4b2 : (t389 == t394 && (t390 == t395 && (t391.toList == t396.toList && (t392 == t397 && (t393 == t398))))) = false := by simpa using c4))
  (try (have c4b3 : ¬ (t389 = t394 && (t390 == t395 && (t391.toList == t396.toList && (t392 == t397 && (t393 == t398))))) := by simpa using c4))
  clear c4
  obtain rfl := Option.some.inj H
  go_enter Tryd.func5, Tryd.ntmps5
  have tk14 : True := trivial; have tk15 : True := trivial
  go_wp2_with (first | (have ztk14 := tk14; clear tk14 ztk14; (with_reducible refine gate_callee (f := 17) rfl ?_); refine goesL_ (some 4) rfl rfl Tryd.func17 (by kernel_rfl) rfl #[.string a0] rfl qng0_ ?_; (with_reducible refine (numeral_General.calls k a0 t389 t390 t391 t392 t393 _ A2.out).mono ?_); rintro e w12 ⟨rfl, hb⟩; refine ⟨_, rfl, ?_⟩; have n0_ := Aside0.mk (below_step qng1_ hb); clear HB; have HB := n0_; clear n0_; (try clear hb); (try clear hb2); (try clear hk); (try clear hi)) | (have ztk15 := tk15; clear tk15 ztk15; (with_reducible refine gate_callee (f := 26) rfl ?_); refine goesL_ (some 6) rfl rfl Tryd.func26 (by kernel_rfl) rfl #[.string a0] rfl qng0_ ?_; (with_reducible refine (millref3_General.calls k a0 t394 t395 t396 t397 t398 _ A3.out).mono ?_); rintro e w13 ⟨rfl, hb⟩; refine ⟨_, rfl, ?_⟩; have n0_ := Aside0.mk (below_step qng1_ hb); clear HB; have HB := n0_; clear n0_; (try clear hb); (try clear hb2); (try clear hk); (try clear hi)))
  go_ret
  exact ⟨qng6_, qng1_⟩

/-- THE ONE PURE STATEMENT of milllaw3_NumeralGenerals: yours. -/
def milllaw3_NumeralGenerals.Pure : Prop := ∀ (a0 : ByteArray), a0.size ≤ 140737488351232 → ∃ k, milllaw3_NumeralGenerals.f k a0 = some true
theorem milllaw3_NumeralGenerals.walk (P : milllaw3_NumeralGenerals.Pure) (a0 : ByteArray) (w : World) (hGL : GOK w) (w0 : a0.size ≤ 140737488351232) :
  Calls Tryd.prog 5 #[.string a0] w fun e w' => e = .returned (.bool true) ∧ Below w.heap.size w w' := by
 obtain ⟨k, h⟩ := P a0 w0
 refine (milllaw3_NumeralGenerals.calls k a0 true w hGL h).mono ?_
 rintro e w' ⟨rfl, hd⟩
 exact ⟨rfl, hd⟩

end Go.Proofs.YtcdajedmlfhmeaaDoor.XN

section
/- What the pure laws stand on: 'enough rounds', bytes as a list, places. (by this session) -/
set_option linter.unusedVariables false
set_option linter.unusedSimpArgs false
namespace Go.Proofs.YtcdajedmlfhmeaaDoor.XN
open Go.RowKit Go.Proofs.YtcdajedmlfhmeaaDoorW.PrintWords Go.Proofs.YtcdajedmlfhmeaaDoorW.PrintMore

/-- With enough rounds, f answers v. -/
def Ev {α : Type} (f : Nat → Option α) (v : α) : Prop := ∃ k0, ∀ k, k0 ≤ k → f k = some v
namespace Ev
variable {α β : Type}
theorem pure (v : α) : Ev (fun _ => some v) v := ⟨0, fun _ _ => rfl⟩
theorem done {v w : α} (h : v = w) : Ev (fun _ => some v) w := ⟨0, fun _ _ => by rw [h]⟩
theorem congr {f g : Nat → Option α} {v : α} (h : ∀ k, f k = g k) (hg : Ev g v) : Ev f v := by
  obtain ⟨k0, hk⟩ := hg
  exact ⟨k0, fun k h0 => by rw [h, hk k h0]⟩
theorem val {f : Nat → Option α} {v w : α} (h : Ev f v) (e : v = w) : Ev f w := e ▸ h
theorem bind {f : Nat → Option α} {g : Nat → α → Option β} {a : α} {v : β} (h : Ev f a) (h2 : Ev (fun k => g k a) v) : Ev (fun k => (f k).bind (g k)) v := by
  obtain ⟨k1, e1⟩ := h
  obtain ⟨k2, e2⟩ := h2
  refine ⟨max k1 k2, fun k hk => ?_⟩
  show (f k).bind (g k) = some v
  rw [e1 k (by omega)]
  exact e2 k (by omega)
theorem succ {f : Nat → Option α} {v : α} (h : Ev (fun k => f (k + 1)) v) : Ev f v := by
  obtain ⟨k0, e⟩ := h
  refine ⟨k0 + 1, fun k hk => ?_⟩
  obtain ⟨k', rfl⟩ : ∃ k', k = k' + 1 := ⟨k - 1, by omega⟩
  exact e k' (by omega)
theorem pos {c : Prop} [Decidable c] {f g : Nat → Option α} {v : α} (hc : c) (h : Ev f v) : Ev (fun k => if c then f k else g k) v := by
  simpa only [if_pos hc] using h
theorem neg {c : Prop} [Decidable c] {f g : Nat → Option α} {v : α} (hc : ¬ c) (h : Ev g v) : Ev (fun k => if c then f k else g k) v := by
  simpa only [if_neg hc] using h
theorem ite {c : Prop} [Decidable c] {f g : Nat → Option α} {v : α} (h1 : c → Ev f v) (h2 : ¬ c → Ev g v) : Ev (fun k => if c then f k else g k) v := by
  by_cases hc : c
  · exact pos hc (h1 hc)
  · exact neg hc (h2 hc)
theorem ex {f : Nat → Option α} {v : α} (h : Ev f v) : ∃ k, f k = some v := by
  obtain ⟨k0, e⟩ := h
  exact ⟨k0, e k0 (Nat.le_refl _)⟩
theorem same {f : Nat → Option α} {v w : α} (h : Ev f v) (h' : Ev f w) : v = w := by
  obtain ⟨k1, e1⟩ := h
  obtain ⟨k2, e2⟩ := h'
  have := e1 (max k1 k2) (by omega)
  rw [e2 (max k1 k2) (by omega)] at this
  injection this with this
  exact this.symm
end Ev

/-! ### bytes as a list -/
def L (s : ByteArray) : List UInt8 := s.data.toList
def mkB (l : List UInt8) : ByteArray := ⟨l.toArray⟩
theorem L_mk (l : List UInt8) : L (mkB l) = l := rfl
theorem mk_L (s : ByteArray) : mkB (L s) = s := by cases s; rfl
theorem L_len (s : ByteArray) : (L s).length = s.size := Array.length_toList
theorem size_mk (l : List UInt8) : (mkB l).size = l.length := by simp [mkB, ByteArray.size]
theorem toList_L (s : ByteArray) : s.toList = L s := ByteArray.toList_eq s
theorem toList_mk (l : List UInt8) : (mkB l).toList = l := by rw [toList_L, L_mk]
theorem L_inj {s t : ByteArray} (h : L s = L t) : s = t := by rw [← mk_L s, h, mk_L]
theorem L_extract (s : ByteArray) (a b : Nat) : L (s.extract a b) = ((L s).drop a).take (b - a) := Lib.extract_data s a b
theorem extract_mk' (s : ByteArray) (a b : Nat) : s.extract a b = mkB (((L s).drop a).take (b - a)) := L_inj (by rw [L_extract, L_mk])
theorem extract_end (s : ByteArray) (a : Nat) : s.extract a s.size = mkB ((L s).drop a) := by
  rw [extract_mk', List.take_of_length_le]
  rw [List.length_drop, L_len]
  omega
theorem extract_front (s : ByteArray) (b : Nat) : s.extract 0 b = mkB ((L s).take b) := by rw [extract_mk']; rfl
theorem L_append (s t : ByteArray) : L (s ++ t) = L s ++ L t := by
  unfold L
  rw [ByteArray.data_append, Array.toList_append]
theorem mk_append (l m : List UInt8) : mkB l ++ mkB m = mkB (l ++ m) := L_inj (by rw [L_append, L_mk, L_mk, L_mk])
theorem bt_nat (s : ByteArray) (i : Nat) (h : i < (L s).length) : bt s (i : Int) = ((L s)[i].toNat : Int) := by
  have h' : i < s.size := by rwa [L_len] at h
  unfold bt
  have e : ((i : Int)).toNat = i := by omega
  simp only [e, h', dite_true]
  rfl
theorem drop_nil {s : ByteArray} {i : Nat} (h : (L s).drop i = []) : s.size ≤ i := by
  rw [← L_len]; exact List.drop_eq_nil_iff.1 h
theorem drop_cons {s : ByteArray} {i : Nat} {c : UInt8} {r : List UInt8} (h : (L s).drop i = c :: r) : i < s.size ∧ bt s (i : Int) = (c.toNat : Int) ∧ (L s).drop (i + 1) = r := by
  have hl : i < (L s).length := by
    rcases Nat.lt_or_ge i (L s).length with h' | h'
    · exact h'
    · rw [List.drop_eq_nil_iff.2 h'] at h; cases h
  have e := List.drop_eq_getElem_cons hl
  rw [h] at e
  injection e with e1 e2
  exact ⟨by rwa [L_len] at hl, by rw [bt_nat s i hl, e1], e2.symm⟩
theorem drop_some {s : ByteArray} {i : Nat} (h : i < s.size) : ∃ c, (L s).drop i = c :: (L s).drop (i + 1) ∧ bt s (i : Int) = (c.toNat : Int) := by
  have hl : i < (L s).length := by rwa [L_len]
  exact ⟨_, List.drop_eq_getElem_cons hl, bt_nat s i hl⟩

/-! ### whole numbers -/
theorem w64 {x : Int} (h : -9223372036854775808 ≤ x ∧ x ≤ 9223372036854775807) : wrap64 x = x := by unfold wrap64; omega
theorem w64_nat {x : Int} {n : Nat} (e : x = (n : Int)) (h : n ≤ 9223372036854775807) : wrap64 x = (n : Int) := by rw [e]; exact w64 (by omega)
theorem w64_succ {i : Nat} (h : i < 9223372036854775807) : wrap64 ((i : Int) + 1) = ((i + 1 : Nat) : Int) := w64_nat (by omega) (by omega)
theorem u8_lt (c : UInt8) : (c.toNat : Int) < 256 ∧ (0 : Int) ≤ (c.toNat : Int) := by have := c.toNat_lt; omega
theorem u8_eq {c d : UInt8} (h : (c.toNat : Int) = (d.toNat : Int)) : c = d := UInt8.toNat_inj.1 (by omega)
/-- The strings that come up are shorter than this. -/
def big : Nat := 4611686018427387904
theorem big_eq : big = 4611686018427387904 := rfl

/-! ### runs at the head of a list -/
theorem take_len {p : UInt8 → Bool} (l : List UInt8) : (l.takeWhile p).length ≤ l.length := by
  induction l with
  | nil => simp
  | cons c r ih => simp only [List.takeWhile_cons]; split <;> simp <;> omega
theorem take_run {p : UInt8 → Bool} (l : List UInt8) : l.take (l.takeWhile p).length = l.takeWhile p := by
  induction l with
  | nil => rfl
  | cons c r ih =>
    simp only [List.takeWhile_cons]
    split
    · simp [ih]
    · simp
theorem drop_run {p : UInt8 → Bool} (l : List UInt8) : l.drop (l.takeWhile p).length = l.dropWhile p := by
  induction l with
  | nil => rfl
  | cons c r ih =>
    simp only [List.takeWhile_cons, List.dropWhile_cons]
    split
    · simp [ih]
    · simp
/-- A loop that goes on while a byte is p, up to the end. -/
theorem scan {β : Type} {s : ByteArray} {p : UInt8 → Bool} {F : Nat → Int → Option β} {v : β} (hs : s.size < big)
    (hstep : ∀ (k i : Nat) (c : UInt8), i < s.size → bt s (i : Int) = (c.toNat : Int) → p c = true → F (k + 1) (i : Int) = F k ((i + 1 : Nat) : Int)) :
    ∀ (l : List UInt8) (i : Nat), (L s).drop i = l → Ev (fun k => F k ((i + (l.takeWhile p).length : Nat) : Int)) v → Ev (fun k => F k (i : Int)) v
  | [], i, h, hend => by simpa using hend
  | c :: r, i, h, hend => by
    obtain ⟨h1, h2, h3⟩ := drop_cons h
    by_cases hp : p c = true
    · rw [List.takeWhile_cons, if_pos hp] at hend
      refine Ev.succ (Ev.congr (fun k => hstep k i c h1 h2 hp) (scan hs hstep r (i + 1) h3 ?_))
      rw [show i + 1 + (r.takeWhile p).length = i + (c :: r.takeWhile p).length by simp; omega]
      exact hend
    · rw [List.takeWhile_cons, if_neg hp] at hend
      simpa using hend
/-- What stands behind such a run: the end, or a byte that isn't p. -/
theorem behind {s : ByteArray} {p : UInt8 → Bool} {i : Nat} (hi : i ≤ s.size) : let j := i + (((L s).drop i).takeWhile p).length; j ≤ s.size ∧ (L s).drop j = ((L s).drop i).dropWhile p := by
  refine ⟨?_, ?_⟩
  · have := take_len (p := p) ((L s).drop i)
    rw [List.length_drop, L_len] at this
    omega
  · rw [← List.drop_drop, drop_run]
theorem dropWhile_head {p : UInt8 → Bool} {l r : List UInt8} {c : UInt8} (h : l.dropWhile p = c :: r) : p c = false := by
  induction l with
  | nil => cases h
  | cons d l ih =>
    rw [List.dropWhile_cons] at h
    split at h
    · exact ih h
    · rename_i hd
      injection h with h1 h2
      subst h1
      simpa using hd
end Go.Proofs.YtcdajedmlfhmeaaDoor.XN
end
