import Derived.Test.YtcdajedmlfhmeaaDoorZNU0
import Derived.Test.YtcdajedmlfhmeaaDoorZNU1
import Derived.Test.YtcdajedmlfhmeaaDoorZNU3
import Derived.Test.YtcdajedmlfhmeaaDoorZNU2
namespace Go.Proofs.YtcdajedmlfhmeaaDoor.XN
open Go.RowKit Go.Proofs.YtcdajedmlfhmeaaDoorW.PrintWords Go.Proofs.YtcdajedmlfhmeaaDoorW.PrintLast Go.Proofs.YtcdajedmlfhmeaaDoorW.PrintMore
attribute [local go_sem] max2_int min2_int max_two min_two max_three min_three max_four min_four
set_option linter.unusedVariables false
set_option linter.unusedSimpArgs false

/-! ### numeral_Human: function 20 -/
mutual
def numeral_Human.j0 : Nat → ByteArray → Bool → Bool → ByteArray → ByteArray → Int → Option (Bool × ByteArray × ByteArray × Int × Int)
 | 0, _, _, _, _, _, _ => none
 | k + 1, x0, x18, x193000, x193001, x193002, x193003 => if x18 = true then (some (x193000, x193001, x193002, x193003, 0)) else (if 0 ≤ x193003 then (if x193003 < (x0.size : Int) then (if (bt x0 x193003) = 107 then (numeral_Human.j1 k 75 x193000 x193001 x193002 x193003) else (numeral_Human.j1 k (bt x0 x193003) x193000 x193001 x193002 x193003)) else (none)) else (none))
def numeral_Human.j1 : Nat → Int → Bool → ByteArray → ByteArray → Int → Option (Bool × ByteArray × ByteArray × Int × Int)
 | 0, _, _, _, _, _ => none
 | k + 1, x5, x193000, x193001, x193002, x193003 => (strings_IndexByte.f (⟨#[75, 77, 71, 84, 80, 69, 90, 89, 82, 81]⟩ : ByteArray) x5).bind fun t193 => (if (wrap64 (t193 + 1)) > 0 then (if x193001.toList = ([] : List UInt8) then (if x193002.toList = ([] : List UInt8) then (some (x193000, x193001, x193002, wrap64 (x193003 + 1), 0)) else (some (x193000, x193001, x193002, wrap64 (x193003 + 1), wrap64 (t193 + 1)))) else (some (x193000, x193001, x193002, wrap64 (x193003 + 1), wrap64 (t193 + 1)))) else (if x193001.toList = ([] : List UInt8) then (if x193002.toList = ([] : List UInt8) then (some (x193000, x193001, x193002, x193003, 0)) else (some (x193000, x193001, x193002, x193003, wrap64 (t193 + 1)))) else (some (x193000, x193001, x193002, x193003, wrap64 (t193 + 1)))))
end
def numeral_Human.f (k : Nat) (a0 : ByteArray) : Option (Bool × ByteArray × ByteArray × Int × Int) := (numeral_Decimal.f k a0).bind fun bt188 => (if bt188.2.2.2 = 0 then (numeral_Human.j0 k a0 true bt188.1 bt188.2.1 bt188.2.2.1 bt188.2.2.2) else (numeral_Human.j0 k a0 (bt188.2.2.2 == (a0.size : Int)) bt188.1 bt188.2.1 bt188.2.2.1 bt188.2.2.2))
set_option maxHeartbeats 8000000 in
set_option maxRecDepth 100000 in
theorem numeral_Human.calls (k : Nat) (a0 : ByteArray) (r1 : Bool) (r2 : ByteArray) (r3 : ByteArray) (r4 : Int) (r5 : Int) (w : World) (h : numeral_Human.f k a0 = some (r1, r2, r3, r4, r5)) :
  Calls Tryd.prog 20 #[.string a0] w fun e w' => e = .returned (.tuple #[.agg #[.bool r1, .string r2, .string r3, .int .i64 r4], .int .i64 r5]) ∧ Below w.heap.size w w' := by
 have hu25 := Tryd.underlying25
 have HB := Aside0.mk (Below.refl w.heap.size w)
 have H : ((numeral_Decimal.f k a0).bind fun bt188 => (if bt188.2.2.2 = 0 then (numeral_Human.j0 k a0 true bt188.1 bt188.2.1 bt188.2.2.1 bt188.2.2.2) else (numeral_Human.j0 k a0 (bt188.2.2.2 == (a0.size : Int)) bt188.1 bt188.2.1 bt188.2.2.1 bt188.2.2.2))) = some (r1, r2, r3, r4, r5) := h
 clear h
 replace H := Option.bind_eq_some_iff.mp H
 obtain ⟨⟨t188, t189, t190, t191⟩, A20, H⟩ := H
 replace H : (if t191 = 0 then (numeral_Human.j0 k a0 true t188 t189 t190 t191) else (numeral_Human.j0 k a0 (t191 == (a0.size : Int)) t188 t189 t190 t191)) = some (r1, r2, r3, r4, r5) := H
 have A2 := Aside0.mk A20
 clear A20
 have HC3 := Aside0.mk H
 clear H
 go_enter Tryd.func20, Tryd.ntmps20
 have tk9 : True := trivial; have tk10 : True := trivial; have tk11 : True := trivial
 go_upto_region 2 with (first | (have ztk9 := tk9; clear tk9 ztk9; (with_reducible refine gate_dst (N := 2) rfl ?_); (try (refine gate_guard (by rfl) ?_; dsimp only)); refine box_event ?hg (N := 2) ?hd (cs := #[.bool false, .string (⟨#[]⟩ : ByteArray), .string (⟨#[]⟩ : ByteArray), .int .i64 0]) (t := 25) ?hr ?_; (case hd => rfl); (case hg => rfl); (case hr => first | (go_simp; done) | (go_simp; rfl)); intro gb187 hg w4 hbox hb; have n0_ := Aside0.mk (below_step qnu1_ hb); have n1_ := Aside0.mk (hbox); have n2_ := Aside0.mk ((by rw [hg]; exact (below_size qnu1_) : w.heap.size ≤ gb187)); have n3_ := Aside0.mk ((by rw [hg]; exact (below_size qnu1_) : w.heap.size ≤ gb187)); clear HB; have HB := n0_; have BK187 := n1_; have GW187 := n2_; have GE187 := n3_; clear n0_ n1_ n2_ n3_; clear hb hbox hg) | (have ztk10 := tk10; clear tk10 ztk10; (with_reducible refine gate_callee (f := 16) rfl ?_); refine goesL_ (some 8) rfl rfl Tryd.func16 (by kernel_rfl) rfl #[.string a0] rfl qnu0_ ?_; (with_reducible refine (numeral_Decimal.calls k a0 t188 t189 t190 t191 _ A2.out).mono ?_); rintro e w5 ⟨rfl, hb⟩; refine ⟨_, rfl, ?_⟩; have n0_ := Aside0.mk (blk_below (g := gb187) (o := .cells #[.bool false, .string (⟨#[]⟩ : ByteArray), .string (⟨#[]⟩ : ByteArray), .int .i64 0] 25 (0, 0)) qnu24_ hb); have n1_ := Aside0.mk (below_step qnu42_ hb); clear BK187; clear HB; have BK187 := n0_; have HB := n1_; clear n0_ n1_; (try clear hb); (try clear hb2); (try clear hk); (try clear hi)) | (have ztk11 := tk11; clear tk11 ztk11; (with_reducible refine gate_dst (N := 4) rfl ?_); (try (refine gate_guard (by rfl) ?_; dsimp only)); refine box_event ?hg (N := 4) ?hd (cs := #[.bool false, .string (⟨#[]⟩ : ByteArray), .string (⟨#[]⟩ : ByteArray), .int .i64 0]) (t := 25) ?hr ?_; (case hd => rfl); (case hg => rfl); (case hr => first | (go_simp; done) | (go_simp; rfl)); intro gb192 hg w6 hbox hb; have n0_ := Aside0.mk (blk_below (g := gb187) (o := .cells #[.bool false, .string (⟨#[]⟩ : ByteArray), .string (⟨#[]⟩ : ByteArray), .int .i64 0] 25 (0, 0)) qnu24_ hb); have n1_ := Aside0.mk (below_step qnu42_ hb); have n2_ := Aside0.mk (hbox); have n3_ := Aside0.mk ((by rw [hg]; exact (below_size qnu42_) : w.heap.size ≤ gb192)); have n4_ := Aside0.mk ((by rw [hg]; exact (below_size qnu42_) : w.heap.size ≤ gb192)); have n5_ := Aside0.mk ((by rw [hg]; exact Nat.ne_of_lt (blk_lt (g := gb187) (o := .cells #[.bool false, .string (⟨#[]⟩ : ByteArray), .string (⟨#[]⟩ : ByteArray), .int .i64 0] 25 (0, 0)) qnu24_) : gb187 ≠ gb192)); have n6_ := Aside0.mk ((by rw [hg]; exact Nat.ne_of_gt (blk_lt (g := gb187) (o := .cells #[.bool false, .string (⟨#[]⟩ : ByteArray), .string (⟨#[]⟩ : ByteArray), .int .i64 0] 25 (0, 0)) qnu24_) : gb192 ≠ gb187)); clear BK187; clear HB; have BK187 := n0_; have HB := n1_; have BK192 := n2_; have GW192 := n3_; have GE192 := n4_; have NB187_192 := n5_; have NB192_187 := n6_; clear n0_ n1_ n2_ n3_ n4_ n5_ n6_; clear hb hbox hg; have hnb7 := NB192_187.out; have hnc7 := NB187_192.out; have hcz8_0 : w6.cell? ⟨gb192, 0, none⟩ = some (.bool false) := (blk_cell BK192.out 0).trans rfl; have hcz8_1 : w6.cell? ⟨gb192, 1, none⟩ = some (.string (⟨#[]⟩ : ByteArray)) := (blk_cell BK192.out 1).trans rfl; have hcz8_2 : w6.cell? ⟨gb192, 2, none⟩ = some (.string (⟨#[]⟩ : ByteArray)) := (blk_cell BK192.out 2).trans rfl; have hcz8_3 : w6.cell? ⟨gb192, 3, none⟩ = some (.int .i64 0) := (blk_cell BK192.out 3).trans rfl; have hfz8_0 := blk_frozen BK192.out 0; have hfz8_1 := blk_frozen BK192.out 1; have hfz8_2 := blk_frozen BK192.out 2; have hfz8_3 := blk_frozen BK192.out 3))
 (try simp only [Act.put, List.setIfInBounds_toArray, List.set_cons_zero, List.set_cons_succ])
 go_cut [18] (fun v18 wc => ∃ (kq : Nat) (x18_2 : Bool), v18 = .bool x18_2 ∧ Aside0 (numeral_Human.j0 kq a0 x18_2 t188 t189 t190 t191 = some (r1, r2, r3, r4, r5)) ∧ Aside0 (kq ≤ k) ∧ Aside0 (wc.heap[gb187]? = some (.cells #[.bool false, .string (⟨#[]⟩ : ByteArray), .string (⟨#[]⟩ : ByteArray), .int .i64 0] 25 (0, 0))) ∧ Aside0 (wc.heap[gb192]? = some (.cells #[.bool t188, .string t189, .string t190, .int .i64 t191] 25 (0, 0))) ∧ Aside0 (Below w.heap.size w wc))
 case first =>
  have H := HC3.out
  clear HC3
  by_cases c12 : t191 = 0
  ·
   rw [if_pos c12] at H
   have c12b0 : (t191 == 0) = true := beq_iff_eq.mpr c12
   have c12b1 : (t191 != 0) = false := bne_eq_false_iff_eq.mpr c12
   clear c12
   (first | rw [c12b0] | (simp only [i64_w, i32_w]; rw [c12b0]) | skip)
   have H' := Aside0.mk H
   clear H
   have hnb13 := NB192_187.out
   have hnc13 := NB187_192.out
   have hcz14_0 : w6.cell? ⟨gb192, 0, none⟩ = some (.bool false) := (blk_cell BK192.out 0).trans rfl
   have hcz14_1 : w6.cell? ⟨gb192, 1, none⟩ = some (.string (⟨#[]⟩ : ByteArray)) := (blk_cell BK192.out 1).trans rfl
   have hcz14_2 : w6.cell? ⟨gb192, 2, none⟩ = some (.string (⟨#[]⟩ : ByteArray)) := (blk_cell BK192.out 2).trans rfl
   have hcz14_3 : w6.cell? ⟨gb192, 3, none⟩ = some (.int .i64 0) := (blk_cell BK192.out 3).trans rfl
   have hfz14_0 := blk_frozen BK192.out 0
   have hfz14_1 := blk_frozen BK192.out 1
   have hfz14_2 := blk_frozen BK192.out 2
   have hfz14_3 := blk_frozen BK192.out 3
   go_wp2
   go_meet
   case rel => exact ⟨_, (true), qnu2_, H', ⟨by first | omega | exact Nat.le_refl _⟩, ⟨by (with_reducible repeat (first | refine blk_drewN ?_ _ | refine blk_drew ?_ | refine blk_alloc ?_ _)); refine blk_far ?_ NB187_192.out _; (with_reducible repeat (first | refine blk_drewN ?_ _ | refine blk_drew ?_ | refine blk_alloc ?_ _)); refine blk_far ?_ NB187_192.out _; (with_reducible repeat (first | refine blk_drewN ?_ _ | refine blk_drew ?_ | refine blk_alloc ?_ _)); refine blk_far ?_ NB187_192.out _; (with_reducible repeat (first | refine blk_drewN ?_ _ | refine blk_drew ?_ | refine blk_alloc ?_ _)); refine blk_far ?_ NB187_192.out _; (with_reducible repeat (first | refine blk_drewN ?_ _ | refine blk_drew ?_ | refine blk_alloc ?_ _)); exact BK187.out⟩, ⟨by (with_reducible repeat (first | refine blk_drewN ?_ _ | refine blk_drew ?_ | refine blk_alloc ?_ _)); refine blk_put (cs := #[.bool t188, .string t189, .string t190, .int .i64 0]) ?_ 3 _ rfl; (with_reducible repeat (first | refine blk_drewN ?_ _ | refine blk_drew ?_ | refine blk_alloc ?_ _)); refine blk_put (cs := #[.bool t188, .string t189, .string (⟨#[]⟩ : ByteArray), .int .i64 0]) ?_ 2 _ rfl; (with_reducible repeat (first | refine blk_drewN ?_ _ | refine blk_drew ?_ | refine blk_alloc ?_ _)); refine blk_put (cs := #[.bool t188, .string (⟨#[]⟩ : ByteArray), .string (⟨#[]⟩ : ByteArray), .int .i64 0]) ?_ 1 _ rfl; (with_reducible repeat (first | refine blk_drewN ?_ _ | refine blk_drew ?_ | refine blk_alloc ?_ _)); refine blk_put (cs := #[.bool false, .string (⟨#[]⟩ : ByteArray), .string (⟨#[]⟩ : ByteArray), .int .i64 0]) ?_ 0 _ rfl; (with_reducible repeat (first | refine blk_drewN ?_ _ | refine blk_drew ?_ | refine blk_alloc ?_ _)); exact BK192.out⟩, ⟨qnu13_⟩⟩
  ·
   rw [if_neg c12] at H
   have c12b0 : (t191 == 0) = false := beq_eq_false_iff_ne.mpr c12
   have c12b1 : (t191 != 0) = true := bne_iff_ne.mpr c12
   (first | rw [c12b0] | (simp only [i64_w, i32_w]; rw [c12b0]) | skip)
   have H' := Aside0.mk H
   clear H
   have hnb15 := NB192_187.out
   have hnc15 := NB187_192.out
   have hcz16_0 : w6.cell? ⟨gb192, 0, none⟩ = some (.bool false) := (blk_cell BK192.out 0).trans rfl
   have hcz16_1 : w6.cell? ⟨gb192, 1, none⟩ = some (.string (⟨#[]⟩ : ByteArray)) := (blk_cell BK192.out 1).trans rfl
   have hcz16_2 : w6.cell? ⟨gb192, 2, none⟩ = some (.string (⟨#[]⟩ : ByteArray)) := (blk_cell BK192.out 2).trans rfl
   have hcz16_3 : w6.cell? ⟨gb192, 3, none⟩ = some (.int .i64 0) := (blk_cell BK192.out 3).trans rfl
   have hfz16_0 := blk_frozen BK192.out 0
   have hfz16_1 := blk_frozen BK192.out 1
   have hfz16_2 := blk_frozen BK192.out 2
   have hfz16_3 := blk_frozen BK192.out 3
   go_wp2
   go_meet
   case rel => exact ⟨_, ((t191 == (a0.size : Int))), qnu2_, H', ⟨by first | omega | exact Nat.le_refl _⟩, ⟨by (with_reducible repeat (first | refine blk_drewN ?_ _ | refine blk_drew ?_ | refine blk_alloc ?_ _)); refine blk_far ?_ NB187_192.out _; (with_reducible repeat (first | refine blk_drewN ?_ _ | refine blk_drew ?_ | refine blk_alloc ?_ _)); refine blk_far ?_ NB187_192.out _; (with_reducible repeat (first | refine blk_drewN ?_ _ | refine blk_drew ?_ | refine blk_alloc ?_ _)); refine blk_far ?_ NB187_192.out _; (with_reducible repeat (first | refine blk_drewN ?_ _ | refine blk_drew ?_ | refine blk_alloc ?_ _)); refine blk_far ?_ NB187_192.out _; (with_reducible repeat (first | refine blk_drewN ?_ _ | refine blk_drew ?_ | refine blk_alloc ?_ _)); exact BK187.out⟩, ⟨by (with_reducible repeat (first | refine blk_drewN ?_ _ | refine blk_drew ?_ | refine blk_alloc ?_ _)); refine blk_put (cs := #[.bool t188, .string t189, .string t190, .int .i64 0]) ?_ 3 _ rfl; (with_reducible repeat (first | refine blk_drewN ?_ _ | refine blk_drew ?_ | refine blk_alloc ?_ _)); refine blk_put (cs := #[.bool t188, .string t189, .string (⟨#[]⟩ : ByteArray), .int .i64 0]) ?_ 2 _ rfl; (with_reducible repeat (first | refine blk_drewN ?_ _ | refine blk_drew ?_ | refine blk_alloc ?_ _)); refine blk_put (cs := #[.bool t188, .string (⟨#[]⟩ : ByteArray), .string (⟨#[]⟩ : ByteArray), .int .i64 0]) ?_ 1 _ rfl; (with_reducible repeat (first | refine blk_drewN ?_ _ | refine blk_drew ?_ | refine blk_alloc ?_ _)); refine blk_put (cs := #[.bool false, .string (⟨#[]⟩ : ByteArray), .string (⟨#[]⟩ : ByteArray), .int .i64 0]) ?_ 0 _ rfl; (with_reducible repeat (first | refine blk_drewN ?_ _ | refine blk_drew ?_ | refine blk_alloc ?_ _)); exact BK192.out⟩, ⟨qnu13_⟩⟩
 case rest =>
  clear HC3
  (try clear c1); (try clear c2); (try clear p2); (try clear c7); (try clear c12); (try clear c12b0); (try clear c12b1); (try clear c13); (try clear c15); (try clear c16); (try clear hcz14_0); (try clear hcz14_1); (try clear hcz14_2); (try clear hcz14_3); (try clear hcz16_0); (try clear hcz16_1); (try clear hcz16_2); (try clear hcz16_3); (try clear hcz8_0); (try clear hcz8_1); (try clear hcz8_2); (try clear hcz8_3)
  (try clear hfz14_0); (try clear hfz14_1); (try clear hfz14_2); (try clear hfz14_3); (try clear hfz16_0); (try clear hfz16_1); (try clear hfz16_2); (try clear hfz16_3); (try clear hfz8_0); (try clear hfz8_1); (try clear hfz8_2); (try clear hfz8_3)
  obtain ⟨kq, x18_2, rfl, HA, HJ2, BK187, BK192, HB⟩ := hcut
  cases kq with
  | zero => exact absurd HA.out (by simp [numeral_Human.j0])
  | succ kj2 =>
   have H := HA.out
   clear HA
   simp only [numeral_Human.j0] at H
   by_cases c17 : x18_2 = true
   ·
    subst c17
    have H1 : (some (t188, t189, t190, t191, 0)) = some (r1, r2, r3, r4, r5) := by rw [if_pos rfl] at H; exact H
    clear H
    have H := H1
    clear H1
    simp only [Option.some.injEq, Prod.mk.injEq] at H
    obtain ⟨rfl, rfl, rfl, rfl, rfl⟩ := H
    have hnb18 := NB192_187.out
    have hnc18 := NB187_192.out
    have hcz19_0 : wc.cell? ⟨gb192, 0, none⟩ = some (.bool t188) := (blk_cell BK192.out 0).trans rfl
    have hcz19_1 : wc.cell? ⟨gb192, 1, none⟩ = some (.string t189) := (blk_cell BK192.out 1).trans rfl
    have hcz19_2 : wc.cell? ⟨gb192, 2, none⟩ = some (.string t190) := (blk_cell BK192.out 2).trans rfl
    have hcz19_3 : wc.cell? ⟨gb192, 3, none⟩ = some (.int .i64 t191) := (blk_cell BK192.out 3).trans rfl
    have hfz19_0 := blk_frozen BK192.out 0
    have hfz19_1 := blk_frozen BK192.out 1
    have hfz19_2 := blk_frozen BK192.out 2
    have hfz19_3 := blk_frozen BK192.out 3
    have hcz20_0 : wc.cell? ⟨gb187, 0, none⟩ = some (.bool false) := (blk_cell BK187.out 0).trans rfl
    have hcz20_1 : wc.cell? ⟨gb187, 1, none⟩ = some (.string (⟨#[]⟩ : ByteArray)) := (blk_cell BK187.out 1).trans rfl
    have hcz20_2 : wc.cell? ⟨gb187, 2, none⟩ = some (.string (⟨#[]⟩ : ByteArray)) := (blk_cell BK187.out 2).trans rfl
    have hcz20_3 : wc.cell? ⟨gb187, 3, none⟩ = some (.int .i64 0) := (blk_cell BK187.out 3).trans rfl
    have hfz20_0 := blk_frozen BK187.out 0
    have hfz20_1 := blk_frozen BK187.out 1
    have hfz20_2 := blk_frozen BK187.out 2
    have hfz20_3 := blk_frozen BK187.out 3
    go_wp2
    refine bodyPost_ret (results_ct rfl _ _ gb187 25 #[.bool t188, .string t189, .string t190, .int .i64 t191] (0, 0) _ rfl qnu14_ Tryd.underlying25 rfl (by kernel_rfl)) rfl ?_
    exact ⟨qnu10_, qnu13_⟩
   ·
    replace c17 := Bool.eq_false_iff.mpr c17
    subst c17
    have H1 : (if 0 ≤ t191 then (if t191 < (a0.size : Int) then (if (bt a0 t191) = 107 then (numeral_Human.j1 kj2 75 t188 t189 t190 t191) else (numeral_Human.j1 kj2 (bt a0 t191) t188 t189 t190 t191)) else (none)) else (none)) = some (r1, r2, r3, r4, r5) := by rw [if_neg (show ¬ (false = true) by decide)] at H; exact H
    clear H
    have H := H1
    clear H1
    by_cases c21 : 0 ≤ t191
    ·
     rw [if_pos c21] at H
     have c21b0 : decide (0 ≤ t191) = true := decide_eq_true c21
     clear c21
     by_cases c22 : t191 < (a0.size : Int)
     ·
      rw [if_pos c22] at H
      have c22b0 : decide (t191 < (a0.size : Int)) = true := decide_eq_true c22
      clear c22
      have HC24 := Aside0.mk H
      clear H
      have hnb25 := NB192_187.out
      have hnc25 := NB187_192.out
      have hcz26_0 : wc.cell? ⟨gb192, 0, none⟩ = some (.bool t188) := (blk_cell BK192.out 0).trans rfl
      have hcz26_1 : wc.cell? ⟨gb192, 1, none⟩ = some (.string t189) := (blk_cell BK192.out 1).trans rfl
      have hcz26_2 : wc.cell? ⟨gb192, 2, none⟩ = some (.string t190) := (blk_cell BK192.out 2).trans rfl
      have hcz26_3 : wc.cell? ⟨gb192, 3, none⟩ = some (.int .i64 t191) := (blk_cell BK192.out 3).trans rfl
      have hfz26_0 := blk_frozen BK192.out 0
      have hfz26_1 := blk_frozen BK192.out 1
      have hfz26_2 := blk_frozen BK192.out 2
      have hfz26_3 := blk_frozen BK192.out 3
      have p23 : 0 ≤ (t191 : Int) := of_decide_eq_true qnu6_
      have q23 : t191 < (a0.size : Int) := of_decide_eq_true qnu6_
      have hx23 := bt_at a0 t191
      replace p23 := eq_true p23
      replace q23 := eq_true q23
      go_upto_if 25 with (fail)
      go_cut [5] (fun v5 wc => ∃ (kq : Nat) (x5_23 : Int), v5 = .int .u8 x5_23 ∧ Aside0 (numeral_Human.j1 kq x5_23 t188 t189 t190 t191 = some (r1, r2, r3, r4, r5)) ∧ Aside0 (kq ≤ kj2) ∧ Aside0 (wc.heap[gb187]? = some (.cells #[.bool false, .string (⟨#[]⟩ : ByteArray), .string (⟨#[]⟩ : ByteArray), .int .i64 0] 25 (0, 0))) ∧ Aside0 (wc.heap[gb192]? = some (.cells #[.bool t188, .string t189, .string t190, .int .i64 t191] 25 (0, 0))) ∧ Aside0 (Below w.heap.size w wc))
      case first =>
       have H := HC24.out
       clear HC24
       by_cases c27 : (bt a0 t191) = 107
       ·
        rw [if_pos c27] at H
        have c27b0 : ((bt a0 t191) == 107) = true := beq_iff_eq.mpr c27
        have c27b1 : ((bt a0 t191) != 107) = false := bne_eq_false_iff_eq.mpr c27
        clear c27
        (first | rw [c27b0] | (simp only [i64_w, i32_w]; rw [c27b0]) | skip)
        have H' := Aside0.mk H
        clear H
        go_wp2
        go_meet
        case rel => exact ⟨_, (75), qnu2_, H', ⟨by have := HJ2.out; first | omega | exact Nat.le_refl _⟩, ⟨qnu24_⟩, ⟨qnu35_⟩, ⟨qnu13_⟩⟩
       ·
        rw [if_neg c27] at H
        have c27b0 : ((bt a0 t191) == 107) = false := beq_eq_false_iff_ne.mpr c27
        have c27b1 : ((bt a0 t191) != 107) = true := bne_iff_ne.mpr c27
        (first | rw [c27b0] | (simp only [i64_w, i32_w]; rw [c27b0]) | skip)
        have H' := Aside0.mk H
        clear H
        go_wp2
        go_meet
        case rel => exact ⟨_, (bt a0 t191), qnu2_, H', ⟨by have := HJ2.out; first | omega | exact Nat.le_refl _⟩, ⟨qnu24_⟩, ⟨qnu35_⟩, ⟨qnu13_⟩⟩
      case rest =>
       clear HC24
       (try clear c1); (try clear c2); (try clear p2); (try clear q2); (try clear hx2); (try clear c7); (try clear c12); (try clear c12b0); (try clear c12b1); (try clear c13); (try clear c15); (try clear c16); (try clear c17); (try clear c18); (try clear c20); (try clear c21); (try clear c21b0); (try clear c22); (try clear c22b0); (try clear p23); (try clear q23); (try clear hx23); (try clear c25)
       (try clear c27); (try clear c27b0); (try clear c27b1); (try clear hcz14_0); (try clear hcz14_1); (try clear hcz14_2); (try clear hcz14_3); (try clear hcz16_0); (try clear hcz16_1); (try clear hcz16_2); (try clear hcz16_3); (try clear hcz19_0); (try clear hcz19_1); (try clear hcz19_2); (try clear hcz19_3); (try clear hcz20_0); (try clear hcz20_1); (try clear hcz20_2); (try clear hcz20_3); (try clear hcz26_0)
       (try clear hcz26_1); (try clear hcz26_2); (try clear hcz26_3); (try clear hcz8_0); (try clear hcz8_1); (try clear hcz8_2); (try clear hcz8_3); (try clear hfz14_0); (try clear hfz14_1); (try clear hfz14_2); (try clear hfz14_3); (try clear hfz16_0); (try clear hfz16_1); (try clear hfz16_2); (try clear hfz16_3); (try clear hfz19_0); (try clear hfz19_1); (try clear hfz19_2); (try clear hfz19_3)
       (try clear hfz20_0); (try clear hfz20_1); (try clear hfz20_2); (try clear hfz20_3); (try clear hfz26_0); (try clear hfz26_1); (try clear hfz26_2); (try clear hfz26_3); (try clear hfz8_0); (try clear hfz8_1); (try clear hfz8_2); (try clear hfz8_3); (try clear p2); (try clear p23); (try clear q23)
       obtain ⟨kq, x5_23, rfl, HA, HJ23, BK187, BK192, HB⟩ := hcut
       cases kq with
       | zero => exact absurd HA.out (by simp [numeral_Human.j1])
       | succ kj23 =>
        have H := HA.out
        clear HA
        simp only [numeral_Human.j1] at H
        replace H := Option.bind_eq_some_iff.mp H
        obtain ⟨t193, A280, H⟩ := H
        replace H : (if (wrap64 (t193 + 1)) > 0 then (if t189.toList = ([] : List UInt8) then (if t190.toList = ([] : List UInt8) then (some (t188, t189, t190, wrap64 (t191 + 1), 0)) else (some (t188, t189, t190, wrap64 (t191 + 1), wrap64 (t193 + 1)))) else (some (t188, t189, t190, wrap64 (t191 + 1), wrap64 (t193 + 1)))) else (if t189.toList = ([] : List UInt8) then (if t190.toList = ([] : List UInt8) then (some (t188, t189, t190, t191, 0)) else (some (t188, t189, t190, t191, wrap64 (t193 + 1)))) else (some (t188, t189, t190, t191, wrap64 (t193 + 1))))) = some (r1, r2, r3, r4, r5) := H
        have A28 := Aside0.mk A280
        clear A280
        by_cases c29 : (wrap64 (t193 + 1)) > 0
        ·
         rw [if_pos c29] at H
         have c29b0 : decide (0 < (wrap64 (t193 + 1))) = true := decide_eq_true c29
         clear c29
         by_cases c30 : t189.toList = ([] : List UInt8)
         ·
          rw [if_pos c30] at H
          have c30b0 : (t189.toList == ([] : List UInt8)) = true := beq_iff_eq.mpr c30
          have c30b1 : (t189.toList != ([] : List UInt8)) = false := bne_eq_false_iff_eq.mpr c30
          clear c30
          by_cases c31 : t190.toList = ([] : List UInt8)
          ·
           rw [if_pos c31] at H
           have c31b0 : (t190.toList == ([] : List UInt8)) = true := beq_iff_eq.mpr c31
           have c31b1 : (t190.toList != ([] : List UInt8)) = false := bne_eq_false_iff_eq.mpr c31
           clear c31
           simp only [Option.some.injEq, Prod.mk.injEq] at H
           obtain ⟨rfl, rfl, rfl, rfl, rfl⟩ := H
           go_wp2_with (first | ((with_reducible refine gate_callee (f := 39) rfl ?_); refine goesL_ (some 27) rfl rfl Tryd.func39 (by kernel_rfl) rfl #[.string (⟨#[75, 77, 71, 84, 80, 69, 90, 89, 82, 81]⟩ : ByteArray), .int .u8 x5_23] rfl qnu0_ ?_; (with_reducible refine (strings_IndexByte.calls (⟨#[75, 77, 71, 84, 80, 69, 90, 89, 82, 81]⟩ : ByteArray) x5_23 t193 _ A28.out).mono ?_); rintro e w' ⟨rfl, ⟨nd, rfl⟩⟩; refine ⟨_, rfl, ?_⟩; (try (rw [drewN_self wc]; generalize hq_ : World.drewN wc _ = wc; have n0_ : Aside0 (wc.heap[gb187]? = some (.cells #[.bool false, .string (⟨#[]⟩ : ByteArray), .string (⟨#[]⟩ : ByteArray), .int .i64 0] 25 (0, 0))) := ⟨by rw [← hq_]; exact qnu24_⟩; have n1_ : Aside0 (wc.heap[gb192]? = some (.cells #[.bool t188, .string t189, .string t190, .int .i64 t191] 25 (0, 0))) := ⟨by rw [← hq_]; exact qnu35_⟩; have n2_ : Aside0 (Below w.heap.size w wc) := ⟨by rw [← hq_]; exact qnu13_⟩; clear BK187 BK192 HB hq_; have BK187 := n0_; have BK192 := n1_; have HB := n2_; clear n0_ n1_ n2_)); (try (have hcu32_0 : wc.cell? ⟨gb187, 0, none⟩ = some (.bool false) := (blk_cell BK187.out 0).trans rfl; have hfu32_0 := blk_frozen BK187.out 0; have hcu32_1 : wc.cell? ⟨gb187, 1, none⟩ = some (.string (⟨#[]⟩ : ByteArray)) := (blk_cell BK187.out 1).trans rfl; have hfu32_1 := blk_frozen BK187.out 1; have hcu32_2 : wc.cell? ⟨gb187, 2, none⟩ = some (.string (⟨#[]⟩ : ByteArray)) := (blk_cell BK187.out 2).trans rfl; have hfu32_2 := blk_frozen BK187.out 2; have hcu32_3 : wc.cell? ⟨gb187, 3, none⟩ = some (.int .i64 0) := (blk_cell BK187.out 3).trans rfl; have hfu32_3 := blk_frozen BK187.out 3)); (try (have hcu33_0 : wc.cell? ⟨gb192, 0, none⟩ = some (.bool t188) := (blk_cell BK192.out 0).trans rfl; have hfu33_0 := blk_frozen BK192.out 0; have hcu33_1 : wc.cell? ⟨gb192, 1, none⟩ = some (.string t189) := (blk_cell BK192.out 1).trans rfl; have hfu33_1 := blk_frozen BK192.out 1; have hcu33_2 : wc.cell? ⟨gb192, 2, none⟩ = some (.string t190) := (blk_cell BK192.out 2).trans rfl; have hfu33_2 := blk_frozen BK192.out 2; have hcu33_3 : wc.cell? ⟨gb192, 3, none⟩ = some (.int .i64 t191) := (blk_cell BK192.out 3).trans rfl; have hfu33_3 := blk_frozen BK192.out 3)); have hnb34 := NB192_187.out; have hnc34 := NB187_192.out; have hcz35_0 : wc.cell? ⟨gb192, 0, none⟩ = some (.bool t188) := (blk_cell BK192.out 0).trans rfl; have hcz35_1 : wc.cell? ⟨gb192, 1, none⟩ = some (.string t189) := (blk_cell BK192.out 1).trans rfl; have hcz35_2 : wc.cell? ⟨gb192, 2, none⟩ = some (.string t190) := (blk_cell BK192.out 2).trans rfl; have hcz35_3 : wc.cell? ⟨gb192, 3, none⟩ = some (.int .i64 t191) := (blk_cell BK192.out 3).trans rfl; have hfz35_0 := blk_frozen BK192.out 0; have hfz35_1 := blk_frozen BK192.out 1; have hfz35_2 := blk_frozen BK192.out 2; have hfz35_3 := blk_frozen BK192.out 3; have hcz36_0 : wc.cell? ⟨gb187, 0, none⟩ = some (.bool false) := (blk_cell BK187.out 0).trans rfl; have hcz36_1 : wc.cell? ⟨gb187, 1, none⟩ = some (.string (⟨#[]⟩ : ByteArray)) := (blk_cell BK187.out 1).trans rfl; have hcz36_2 : wc.cell? ⟨gb187, 2, none⟩ = some (.string (⟨#[]⟩ : ByteArray)) := (blk_cell BK187.out 2).trans rfl; have hcz36_3 : wc.cell? ⟨gb187, 3, none⟩ = some (.int .i64 0) := (blk_cell BK187.out 3).trans rfl; have hfz36_0 := blk_frozen BK187.out 0; have hfz36_1 := blk_frozen BK187.out 1; have hfz36_2 := blk_frozen BK187.out 2; have hfz36_3 := blk_frozen BK187.out 3))
           refine bodyPost_ret (results_ct rfl _ _ gb187 25 #[.bool t188, .string t189, .string t190, .int .i64 (wrap64 (t191 + 1))] (0, 0) _ rfl qnu17_ Tryd.underlying25 rfl (by kernel_rfl)) rfl ?_
           exact ⟨qnu10_, qnu13_⟩
          ·
           rw [if_neg c31] at H
           have c31b0 : (t190.toList == ([] : List UInt8)) = false := beq_eq_false_iff_ne.mpr c31
           have c31b1 : (t190.toList != ([] : List UInt8)) = true := bne_iff_ne.mpr c31
           simp only [Option.some.injEq, Prod.mk.injEq] at H
           obtain ⟨rfl, rfl, rfl, rfl, rfl⟩ := H
           go_wp2_with (first | ((with_reducible refine gate_callee (f := 39) rfl ?_); refine goesL_ (some 27) rfl rfl Tryd.func39 (by kernel_rfl) rfl #[.string (⟨#[75, 77, 71, 84, 80, 69, 90, 89, 82, 81]⟩ : ByteArray), .int .u8 x5_23] rfl qnu0_ ?_; (with_reducible refine (strings_IndexByte.calls (⟨#[75, 77, 71, 84, 80, 69, 90, 89, 82, 81]⟩ : ByteArray) x5_23 t193 _ A28.out).mono ?_); rintro e w' ⟨rfl, ⟨nd, rfl⟩⟩; refine ⟨_, rfl, ?_⟩; (try (rw [drewN_self wc]; generalize hq_ : World.drewN wc _ = wc; have n0_ : Aside0 (wc.heap[gb187]? = some (.cells #[.bool false, .string (⟨#[]⟩ : ByteArray), .string (⟨#[]⟩ : ByteArray), .int .i64 0] 25 (0, 0))) := ⟨by rw [← hq_]; exact qnu24_⟩; have n1_ : Aside0 (wc.heap[gb192]? = some (.cells #[.bool t188, .string t189, .string t190, .int .i64 t191] 25 (0, 0))) := ⟨by rw [← hq_]; exact qnu35_⟩; have n2_ : Aside0 (Below w.heap.size w wc) := ⟨by rw [← hq_]; exact qnu13_⟩; clear BK187 BK192 HB hq_; have BK187 := n0_; have BK192 := n1_; have HB := n2_; clear n0_ n1_ n2_)); (try (have hcu37_0 : wc.cell? ⟨gb187, 0, none⟩ = some (.bool false) := (blk_cell BK187.out 0).trans rfl; have hfu37_0 := blk_frozen BK187.out 0; have hcu37_1 : wc.cell? ⟨gb187, 1, none⟩ = some (.string (⟨#[]⟩ : ByteArray)) := (blk_cell BK187.out 1).trans rfl; have hfu37_1 := blk_frozen BK187.out 1; have hcu37_2 : wc.cell? ⟨gb187, 2, none⟩ = some (.string (⟨#[]⟩ : ByteArray)) := (blk_cell BK187.out 2).trans rfl; have hfu37_2 := blk_frozen BK187.out 2; have hcu37_3 : wc.cell? ⟨gb187, 3, none⟩ = some (.int .i64 0) := (blk_cell BK187.out 3).trans rfl; have hfu37_3 := blk_frozen BK187.out 3)); (try (have hcu38_0 : wc.cell? ⟨gb192, 0, none⟩ = some (.bool t188) := (blk_cell BK192.out 0).trans rfl; have hfu38_0 := blk_frozen BK192.out 0; have hcu38_1 : wc.cell? ⟨gb192, 1, none⟩ = some (.string t189) := (blk_cell BK192.out 1).trans rfl; have hfu38_1 := blk_frozen BK192.out 1; have hcu38_2 : wc.cell? ⟨gb192, 2, none⟩ = some (.string t190) := (blk_cell BK192.out 2).trans rfl; have hfu38_2 := blk_frozen BK192.out 2; have hcu38_3 : wc.cell? ⟨gb192, 3, none⟩ = some (.int .i64 t191) := (blk_cell BK192.out 3).trans rfl; have hfu38_3 := blk_frozen BK192.out 3)); have hnb39 := NB192_187.out; have hnc39 := NB187_192.out; have hcz40_0 : wc.cell? ⟨gb192, 0, none⟩ = some (.bool t188) := (blk_cell BK192.out 0).trans rfl; have hcz40_1 : wc.cell? ⟨gb192, 1, none⟩ = some (.string t189) := (blk_cell BK192.out 1).trans rfl; have hcz40_2 : wc.cell? ⟨gb192, 2, none⟩ = some (.string t190) := (blk_cell BK192.out 2).trans rfl; have hcz40_3 : wc.cell? ⟨gb192, 3, none⟩ = some (.int .i64 t191) := (blk_cell BK192.out 3).trans rfl; have hfz40_0 := blk_frozen BK192.out 0; have hfz40_1 := blk_frozen BK192.out 1; have hfz40_2 := blk_frozen BK192.out 2; have hfz40_3 := blk_frozen BK192.out 3; have hcz41_0 : wc.cell? ⟨gb187, 0, none⟩ = some (.bool false) := (blk_cell BK187.out 0).trans rfl; have hcz41_1 : wc.cell? ⟨gb187, 1, none⟩ = some (.string (⟨#[]⟩ : ByteArray)) := (blk_cell BK187.out 1).trans rfl; have hcz41_2 : wc.cell? ⟨gb187, 2, none⟩ = some (.string (⟨#[]⟩ : ByteArray)) := (blk_cell BK187.out 2).trans rfl; have hcz41_3 : wc.cell? ⟨gb187, 3, none⟩ = some (.int .i64 0) := (blk_cell BK187.out 3).trans rfl; have hfz41_0 := blk_frozen BK187.out 0; have hfz41_1 := blk_frozen BK187.out 1; have hfz41_2 := blk_frozen BK187.out 2; have hfz41_3 := blk_frozen BK187.out 3))
           refine bodyPost_ret (results_ct rfl _ _ gb187 25 #[.bool t188, .string t189, .string t190, .int .i64 (wrap64 (t191 + 1))] (0, 0) _ rfl qnu17_ Tryd.underlying25 rfl (by kernel_rfl)) rfl ?_
           exact ⟨qnu10_, qnu13_⟩
         ·
          rw [if_neg c30] at H
          have c30b0 : (t189.toList == ([] : List UInt8)) = false := beq_eq_false_iff_ne.mpr c30
          have c30b1 : (t189.toList != ([] : List UInt8)) = true := bne_iff_ne.mpr c30
          simp only [Option.some.injEq, Prod.mk.injEq] at H
          obtain ⟨rfl, rfl, rfl, rfl, rfl⟩ := H
          go_wp2_with (first | ((with_reducible refine gate_callee (f := 39) rfl ?_); refine goesL_ (some 27) rfl rfl Tryd.func39 (by kernel_rfl) rfl #[.string (⟨#[75, 77, 71, 84, 80, 69, 90, 89, 82, 81]⟩ : ByteArray), .int .u8 x5_23] rfl qnu0_ ?_; (with_reducible refine (strings_IndexByte.calls (⟨#[75, 77, 71, 84, 80, 69, 90, 89, 82, 81]⟩ : ByteArray) x5_23 t193 _ A28.out).mono ?_); rintro e w' ⟨rfl, ⟨nd, rfl⟩⟩; refine ⟨_, rfl, ?_⟩; (try (rw [drewN_self wc]; generalize hq_ : World.drewN wc _ = wc; have n0_ : Aside0 (wc.heap[gb187]? = some (.cells #[.bool false, .string (⟨#[]⟩ : ByteArray), .string (⟨#[]⟩ : ByteArray), .int .i64 0] 25 (0, 0))) := ⟨by rw [← hq_]; exact qnu24_⟩; have n1_ : Aside0 (wc.heap[gb192]? = some (.cells #[.bool t188, .string t189, .string t190, .int .i64 t191] 25 (0, 0))) := ⟨by rw [← hq_]; exact qnu35_⟩; have n2_ : Aside0 (Below w.heap.size w wc) := ⟨by rw [← hq_]; exact qnu13_⟩; clear BK187 BK192 HB hq_; have BK187 := n0_; have BK192 := n1_; have HB := n2_; clear n0_ n1_ n2_)); (try (have hcu42_0 : wc.cell? ⟨gb187, 0, none⟩ = some (.bool false) := (blk_cell BK187.out 0).trans rfl; have hfu42_0 := blk_frozen BK187.out 0; have hcu42_1 : wc.cell? ⟨gb187, 1, none⟩ = some (.string (⟨#[]⟩ : ByteArray)) := (blk_cell BK187.out 1).trans rfl; have hfu42_1 := blk_frozen BK187.out 1; have hcu42_2 : wc.cell? ⟨gb187, 2, none⟩ = some (.string (⟨#[]⟩ : ByteArray)) := (blk_cell BK187.out 2).trans rfl; have hfu42_2 := blk_frozen BK187.out 2; have hcu42_3 : wc.cell? ⟨gb187, 3, none⟩ = some (.int .i64 0) := (blk_cell BK187.out 3).trans rfl; have hfu42_3 := blk_frozen BK187.out 3)); (try (have hcu43_0 : wc.cell? ⟨gb192, 0, none⟩ = some (.bool t188) := (blk_cell BK192.out 0).trans rfl; have hfu43_0 := blk_frozen BK192.out 0; have hcu43_1 : wc.cell? ⟨gb192, 1, none⟩ = some (.string t189) := (blk_cell BK192.out 1).trans rfl; have hfu43_1 := blk_frozen BK192.out 1; have hcu43_2 : wc.cell? ⟨gb192, 2, none⟩ = some (.string t190) := (blk_cell BK192.out 2).trans rfl; have hfu43_2 := blk_frozen BK192.out 2; have hcu43_3 : wc.cell? ⟨gb192, 3, none⟩ = some (.int .i64 t191) := (blk_cell BK192.out 3).trans rfl; have hfu43_3 := blk_frozen BK192.out 3)); have hnb44 := NB192_187.out; have hnc44 := NB187_192.out; have hcz45_0 : wc.cell? ⟨gb192, 0, none⟩ = some (.bool t188) := (blk_cell BK192.out 0).trans rfl; have hcz45_1 : wc.cell? ⟨gb192, 1, none⟩ = some (.string t189) := (blk_cell BK192.out 1).trans rfl; have hcz45_2 : wc.cell? ⟨gb192, 2, none⟩ = some (.string t190) := (blk_cell BK192.out 2).trans rfl; have hcz45_3 : wc.cell? ⟨gb192, 3, none⟩ = some (.int .i64 t191) := (blk_cell BK192.out 3).trans rfl; have hfz45_0 := blk_frozen BK192.out 0; have hfz45_1 := blk_frozen BK192.out 1; have hfz45_2 := blk_frozen BK192.out 2; have hfz45_3 := blk_frozen BK192.out 3; have hcz46_0 : wc.cell? ⟨gb187, 0, none⟩ = some (.bool false) := (blk_cell BK187.out 0).trans rfl; have hcz46_1 : wc.cell? ⟨gb187, 1, none⟩ = some (.string (⟨#[]⟩ : ByteArray)) := (blk_cell BK187.out 1).trans rfl; have hcz46_2 : wc.cell? ⟨gb187, 2, none⟩ = some (.string (⟨#[]⟩ : ByteArray)) := (blk_cell BK187.out 2).trans rfl; have hcz46_3 : wc.cell? ⟨gb187, 3, none⟩ = some (.int .i64 0) := (blk_cell BK187.out 3).trans rfl; have hfz46_0 := blk_frozen BK187.out 0; have hfz46_1 := blk_frozen BK187.out 1; have hfz46_2 := blk_frozen BK187.out 2; have hfz46_3 := blk_frozen BK187.out 3))
          refine bodyPost_ret (results_ct rfl _ _ gb187 25 #[.bool t188, .string t189, .string t190, .int .i64 (wrap64 (t191 + 1))] (0, 0) _ rfl qnu17_ Tryd.underlying25 rfl (by kernel_rfl)) rfl ?_
          exact ⟨qnu10_, qnu13_⟩
        ·
         rw [if_neg c29] at H
         have c29b0 : decide (0 < (wrap64 (t193 + 1))) = false := decide_eq_false c29
         clear c29
         by_cases c47 : t189.toList = ([] : List UInt8)
         ·
          rw [if_pos c47] at H
          have c47b0 : (t189.toList == ([] : List UInt8)) = true := beq_iff_eq.mpr c47
          have c47b1 : (t189.toList != ([] : List UInt8)) = false := bne_eq_false_iff_eq.mpr c47
          clear c47
          by_cases c48 : t190.toList = ([] : List UInt8)
          ·
           rw [if_pos c48] at H
           have c48b0 : (t190.toList == ([] : List UInt8)) = true := beq_iff_eq.mpr c48
           have c48b1 : (t190.toList != ([] : List UInt8)) = false := bne_eq_false_iff_eq.mpr c48
           clear c48
           simp only [Option.some.injEq, Prod.mk.injEq] at H
           obtain ⟨rfl, rfl, rfl, rfl, rfl⟩ := H
           go_wp2_with (first | ((with_reducible refine gate_callee (f := 39) rfl ?_); refine goesL_ (some 27) rfl rfl Tryd.func39 (by kernel_rfl) rfl #[.string (⟨#[75, 77, 71, 84, 80, 69, 90, 89, 82, 81]⟩ : ByteArray), .int .u8 x5_23] rfl qnu0_ ?_; (with_reducible refine (strings_IndexByte.calls (⟨#[75, 77, 71, 84, 80, 69, 90, 89, 82, 81]⟩ : ByteArray) x5_23 t193 _ A28.out).mono ?_); rintro e w' ⟨rfl, ⟨nd, rfl⟩⟩; refine ⟨_, rfl, ?_⟩; (try (rw [drewN_self wc]; generalize hq_ : World.drewN wc _ = wc; have n0_ : Aside0 (wc.heap[gb187]? = some (.cells #[.bool false, .string (⟨#[]⟩ : ByteArray), .string (⟨#[]⟩ : ByteArray), .int .i64 0] 25 (0, 0))) := ⟨by rw [← hq_]; exact qnu24_⟩; have n1_ : Aside0 (wc.heap[gb192]? = some (.cells #[.bool t188, .string t189, .string t190, .int .i64 t191] 25 (0, 0))) := ⟨by rw [← hq_]; exact qnu35_⟩; have n2_ : Aside0 (Below w.heap.size w wc) := ⟨by rw [← hq_]; exact qnu13_⟩; clear BK187 BK192 HB hq_; have BK187 := n0_; have BK192 := n1_; have HB := n2_; clear n0_ n1_ n2_)); (try (have hcu49_0 : wc.cell? ⟨gb187, 0, none⟩ = some (.bool false) := (blk_cell BK187.out 0).trans rfl; have hfu49_0 := blk_frozen BK187.out 0; have hcu49_1 : wc.cell? ⟨gb187, 1, none⟩ = some (.string (⟨#[]⟩ : ByteArray)) := (blk_cell BK187.out 1).trans rfl; have hfu49_1 := blk_frozen BK187.out 1; have hcu49_2 : wc.cell? ⟨gb187, 2, none⟩ = some (.string (⟨#[]⟩ : ByteArray)) := (blk_cell BK187.out 2).trans rfl; have hfu49_2 := blk_frozen BK187.out 2; have hcu49_3 : wc.cell? ⟨gb187, 3, none⟩ = some (.int .i64 0) := (blk_cell BK187.out 3).trans rfl; have hfu49_3 := blk_frozen BK187.out 3)); (try (have hcu50_0 : wc.cell? ⟨gb192, 0, none⟩ = some (.bool t188) := (blk_cell BK192.out 0).trans rfl; have hfu50_0 := blk_frozen BK192.out 0; have hcu50_1 : wc.cell? ⟨gb192, 1, none⟩ = some (.string t189) := (blk_cell BK192.out 1).trans rfl; have hfu50_1 := blk_frozen BK192.out 1; have hcu50_2 : wc.cell? ⟨gb192, 2, none⟩ = some (.string t190) := (blk_cell BK192.out 2).trans rfl; have hfu50_2 := blk_frozen BK192.out 2; have hcu50_3 : wc.cell? ⟨gb192, 3, none⟩ = some (.int .i64 t191) := (blk_cell BK192.out 3).trans rfl; have hfu50_3 := blk_frozen BK192.out 3)); have hnb51 := NB192_187.out; have hnc51 := NB187_192.out; have hcz52_0 : wc.cell? ⟨gb192, 0, none⟩ = some (.bool t188) := (blk_cell BK192.out 0).trans rfl; have hcz52_1 : wc.cell? ⟨gb192, 1, none⟩ = some (.string t189) := (blk_cell BK192.out 1).trans rfl; have hcz52_2 : wc.cell? ⟨gb192, 2, none⟩ = some (.string t190) := (blk_cell BK192.out 2).trans rfl; have hcz52_3 : wc.cell? ⟨gb192, 3, none⟩ = some (.int .i64 t191) := (blk_cell BK192.out 3).trans rfl; have hfz52_0 := blk_frozen BK192.out 0; have hfz52_1 := blk_frozen BK192.out 1; have hfz52_2 := blk_frozen BK192.out 2; have hfz52_3 := blk_frozen BK192.out 3; have hcz53_0 : wc.cell? ⟨gb187, 0, none⟩ = some (.bool false) := (blk_cell BK187.out 0).trans rfl; have hcz53_1 : wc.cell? ⟨gb187, 1, none⟩ = some (.string (⟨#[]⟩ : ByteArray)) := (blk_cell BK187.out 1).trans rfl; have hcz53_2 : wc.cell? ⟨gb187, 2, none⟩ = some (.string (⟨#[]⟩ : ByteArray)) := (blk_cell BK187.out 2).trans rfl; have hcz53_3 : wc.cell? ⟨gb187, 3, none⟩ = some (.int .i64 0) := (blk_cell BK187.out 3).trans rfl; have hfz53_0 := blk_frozen BK187.out 0; have hfz53_1 := blk_frozen BK187.out 1; have hfz53_2 := blk_frozen BK187.out 2; have hfz53_3 := blk_frozen BK187.out 3))
           refine bodyPost_ret (results_ct rfl _ _ gb187 25 #[.bool t188, .string t189, .string t190, .int .i64 t191] (0, 0) _ rfl qnu14_ Tryd.underlying25 rfl (by kernel_rfl)) rfl ?_
           exact ⟨qnu10_, qnu13_⟩
          ·
           rw [if_neg c48] at H
           have c48b0 : (t190.toList == ([] : List UInt8)) = false := beq_eq_false_iff_ne.mpr c48
           have c48b1 : (t190.toList != ([] : List UInt8)) = true := bne_iff_ne.mpr c48
           simp only [Option.some.injEq, Prod.mk.injEq] at H
           obtain ⟨rfl, rfl, rfl, rfl, rfl⟩ := H
           go_wp2_with (first | ((with_reducible refine gate_callee (f := 39) rfl ?_); refine goesL_ (some 27) rfl rfl Tryd.func39 (by kernel_rfl) rfl #[.string (⟨#[75, 77, 71, 84, 80, 69, 90, 89, 82, 81]⟩ : ByteArray), .int .u8 x5_23] rfl qnu0_ ?_; (with_reducible refine (strings_IndexByte.calls (⟨#[75, 77, 71, 84, 80, 69, 90, 89, 82, 81]⟩ : ByteArray) x5_23 t193 _ A28.out).mono ?_); rintro e w' ⟨rfl, ⟨nd, rfl⟩⟩; refine ⟨_, rfl, ?_⟩; (try (rw [drewN_self wc]; generalize hq_ : World.drewN wc _ = wc; have n0_ : Aside0 (wc.heap[gb187]? = some (.cells #[.bool false, .string (⟨#[]⟩ : ByteArray), .string (⟨#[]⟩ : ByteArray), .int .i64 0] 25 (0, 0))) := ⟨by rw [← hq_]; exact qnu24_⟩; have n1_ : Aside0 (wc.heap[gb192]? = some (.cells #[.bool t188, .string t189, .string t190, .int .i64 t191] 25 (0, 0))) := ⟨by rw [← hq_]; exact qnu35_⟩; have n2_ : Aside0 (Below w.heap.size w wc) := ⟨by rw [← hq_]; exact qnu13_⟩; clear BK187 BK192 HB hq_; have BK187 := n0_; have BK192 := n1_; have HB := n2_; clear n0_ n1_ n2_)); (try (have hcu54_0 : wc.cell? ⟨gb187, 0, none⟩ = some (.bool false) := (blk_cell BK187.out 0).trans rfl; have hfu54_0 := blk_frozen BK187.out 0; have hcu54_1 : wc.cell? ⟨gb187, 1, none⟩ = some (.string (⟨#[]⟩ : ByteArray)) := (blk_cell BK187.out 1).trans rfl; have hfu54_1 := blk_frozen BK187.out 1; have hcu54_2 : wc.cell? ⟨gb187, 2, none⟩ = some (.string (⟨#[]⟩ : ByteArray)) := (blk_cell BK187.out 2).trans rfl; have hfu54_2 := blk_frozen BK187.out 2; have hcu54_3 : wc.cell? ⟨gb187, 3, none⟩ = some (.int .i64 0) := (blk_cell BK187.out 3).trans rfl; have hfu54_3 := blk_frozen BK187.out 3)); (try (have hcu55_0 : wc.cell? ⟨gb192, 0, none⟩ = some (.bool t188) := (blk_cell BK192.out 0).trans rfl; have hfu55_0 := blk_frozen BK192.out 0; have hcu55_1 : wc.cell? ⟨gb192, 1, none⟩ = some (.string t189) := (blk_cell BK192.out 1).trans rfl; have hfu55_1 := blk_frozen BK192.out 1; have hcu55_2 : wc.cell? ⟨gb192, 2, none⟩ = some (.string t190) := (blk_cell BK192.out 2).trans rfl; have hfu55_2 := blk_frozen BK192.out 2; have hcu55_3 : wc.cell? ⟨gb192, 3, none⟩ = some (.int .i64 t191) := (blk_cell BK192.out 3).trans rfl; have hfu55_3 := blk_frozen BK192.out 3)); have hnb56 := NB192_187.out; have hnc56 := NB187_192.out; have hcz57_0 : wc.cell? ⟨gb192, 0, none⟩ = some (.bool t188) := (blk_cell BK192.out 0).trans rfl; have hcz57_1 : wc.cell? ⟨gb192, 1, none⟩ = some (.string t189) := (blk_cell BK192.out 1).trans rfl; have hcz57_2 : wc.cell? ⟨gb192, 2, none⟩ = some (.string t190) := (blk_cell BK192.out 2).trans rfl; have hcz57_3 : wc.cell? ⟨gb192, 3, none⟩ = some (.int .i64 t191) := (blk_cell BK192.out 3).trans rfl; have hfz57_0 := blk_frozen BK192.out 0; have hfz57_1 := blk_frozen BK192.out 1; have hfz57_2 := blk_frozen BK192.out 2; have hfz57_3 := blk_frozen BK192.out 3; have hcz58_0 : wc.cell? ⟨gb187, 0, none⟩ = some (.bool false) := (blk_cell BK187.out 0).trans rfl; have hcz58_1 : wc.cell? ⟨gb187, 1, none⟩ = some (.string (⟨#[]⟩ : ByteArray)) := (blk_cell BK187.out 1).trans rfl; have hcz58_2 : wc.cell? ⟨gb187, 2, none⟩ = some (.string (⟨#[]⟩ : ByteArray)) := (blk_cell BK187.out 2).trans rfl; have hcz58_3 : wc.cell? ⟨gb187, 3, none⟩ = some (.int .i64 0) := (blk_cell BK187.out 3).trans rfl; have hfz58_0 := blk_frozen BK187.out 0; have hfz58_1 := blk_frozen BK187.out 1; have hfz58_2 := blk_frozen BK187.out 2; have hfz58_3 := blk_frozen BK187.out 3))
           refine bodyPost_ret (results_ct rfl _ _ gb187 25 #[.bool t188, .string t189, .string t190, .int .i64 t191] (0, 0) _ rfl qnu14_ Tryd.underlying25 rfl (by kernel_rfl)) rfl ?_
           exact ⟨qnu10_, qnu13_⟩
         ·
          rw [if_neg c47] at H
          have c47b0 : (t189.toList == ([] : List UInt8)) = false := beq_eq_false_iff_ne.mpr c47
          have c47b1 : (t189.toList != ([] : List UInt8)) = true := bne_iff_ne.mpr c47
          simp only [Option.some.injEq, Prod.mk.injEq] at H
          obtain ⟨rfl, rfl, rfl, rfl, rfl⟩ := H
          go_wp2_with (first | ((with_reducible refine gate_callee (f := 39) rfl ?_); refine goesL_ (some 27) rfl rfl Tryd.func39 (by kernel_rfl) rfl #[.string (⟨#[75, 77, 71, 84, 80, 69, 90, 89, 82, 81]⟩ : ByteArray), .int .u8 x5_23] rfl qnu0_ ?_; (with_reducible refine (strings_IndexByte.calls (⟨#[75, 77, 71, 84, 80, 69, 90, 89, 82, 81]⟩ : ByteArray) x5_23 t193 _ A28.out).mono ?_); rintro e w' ⟨rfl, ⟨nd, rfl⟩⟩; refine ⟨_, rfl, ?_⟩; (try (rw [drewN_self wc]; generalize hq_ : World.drewN wc _ = wc; have n0_ : Aside0 (wc.heap[gb187]? = some (.cells #[.bool false, .string (⟨#[]⟩ : ByteArray), .string (⟨#[]⟩ : ByteArray), .int .i64 0] 25 (0, 0))) := ⟨by rw [← hq_]; exact qnu24_⟩; have n1_ : Aside0 (wc.heap[gb192]? = some (.cells #[.bool t188, .string t189, .string t190, .int .i64 t191] 25 (0, 0))) := ⟨by rw [← hq_]; exact qnu35_⟩; have n2_ : Aside0 (Below w.heap.size w wc) := ⟨by rw [← hq_]; exact qnu13_⟩; clear BK187 BK192 HB hq_; have BK187 := n0_; have BK192 := n1_; have HB := n2_; clear n0_ n1_ n2_)); (try (have hcu59_0 : wc.cell? ⟨gb187, 0, none⟩ = some (.bool false) := (blk_cell BK187.out 0).trans rfl; have hfu59_0 := blk_frozen BK187.out 0; have hcu59_1 : wc.cell? ⟨gb187, 1, none⟩ = some (.string (⟨#[]⟩ : ByteArray)) := (blk_cell BK187.out 1).trans rfl; have hfu59_1 := blk_frozen BK187.out 1; have hcu59_2 : wc.cell? ⟨gb187, 2, none⟩ = some (.string (⟨#[]⟩ : ByteArray)) := (blk_cell BK187.out 2).trans rfl; have hfu59_2 := blk_frozen BK187.out 2; have hcu59_3 : wc.cell? ⟨gb187, 3, none⟩ = some (.int .i64 0) := (blk_cell BK187.out 3).trans rfl; have hfu59_3 := blk_frozen BK187.out 3)); (try (have hcu60_0 : wc.cell? ⟨gb192, 0, none⟩ = some (.bool t188) := (blk_cell BK192.out 0).trans rfl; have hfu60_0 := blk_frozen BK192.out 0; have hcu60_1 : wc.cell? ⟨gb192, 1, none⟩ = some (.string t189) := (blk_cell BK192.out 1).trans rfl; have hfu60_1 := blk_frozen BK192.out 1; have hcu60_2 : wc.cell? ⟨gb192, 2, none⟩ = some (.string t190) := (blk_cell BK192.out 2).trans rfl; have hfu60_2 := blk_frozen BK192.out 2; have hcu60_3 : wc.cell? ⟨gb192, 3, none⟩ = some (.int .i64 t191) := (blk_cell BK192.out 3).trans rfl; have hfu60_3 := blk_frozen BK192.out 3)); have hnb61 := NB192_187.out; have hnc61 := NB187_192.out; have hcz62_0 : wc.cell? ⟨gb192, 0, none⟩ = some (.bool t188) := (blk_cell BK192.out 0).trans rfl; have hcz62_1 : wc.cell? ⟨gb192, 1, none⟩ = some (.string t189) := (blk_cell BK192.out 1).trans rfl; have hcz62_2 : wc.cell? ⟨gb192, 2, none⟩ = some (.string t190) := (blk_cell BK192.out 2).trans rfl; have hcz62_3 : wc.cell? ⟨gb192, 3, none⟩ = some (.int .i64 t191) := (blk_cell BK192.out 3).trans rfl; have hfz62_0 := blk_frozen BK192.out 0; have hfz62_1 := blk_frozen BK192.out 1; have hfz62_2 := blk_frozen BK192.out 2; have hfz62_3 := blk_frozen BK192.out 3; have hcz63_0 : wc.cell? ⟨gb187, 0, none⟩ = some (.bool false) := (blk_cell BK187.out 0).trans rfl; have hcz63_1 : wc.cell? ⟨gb187, 1, none⟩ = some (.string (⟨#[]⟩ : ByteArray)) := (blk_cell BK187.out 1).trans rfl; have hcz63_2 : wc.cell? ⟨gb187, 2, none⟩ = some (.string (⟨#[]⟩ : ByteArray)) := (blk_cell BK187.out 2).trans rfl; have hcz63_3 : wc.cell? ⟨gb187, 3, none⟩ = some (.int .i64 0) := (blk_cell BK187.out 3).trans rfl; have hfz63_0 := blk_frozen BK187.out 0; have hfz63_1 := blk_frozen BK187.out 1; have hfz63_2 := blk_frozen BK187.out 2; have hfz63_3 := blk_frozen BK187.out 3))
          refine bodyPost_ret (results_ct rfl _ _ gb187 25 #[.bool t188, .string t189, .string t190, .int .i64 t191] (0, 0) _ rfl qnu14_ Tryd.underlying25 rfl (by kernel_rfl)) rfl ?_
          exact ⟨qnu10_, qnu13_⟩
     ·
      rw [if_neg c22] at H
      exact absurd H (by simp)
    ·
     rw [if_neg c21] at H
     exact absurd H (by simp)


/-! ### numeral_begins: function 35 -/
def numeral_begins.l0 : Nat → ByteArray → Int → ByteArray → Int → Int → Option (Bool)
 | 0, _, _, _, _, _ => none
 | k + 1, x0, x1, x2, x16, x17 => if x17 < x16 then (if 0 ≤ (wrap64 (x1 + x17)) then (if (wrap64 (x1 + x17)) < (x0.size : Int) then (if 0 ≤ x17 then (if x17 < (x2.size : Int) then (if (Go.bits .or .u8 (bt x0 (wrap64 (x1 + x17))) 32) = (bt x2 x17) then (if (bt x0 (wrap64 (x1 + x17))) < 65 then (some false) else (numeral_begins.l0 k x0 x1 x2 x16 (wrap64 (x17 + 1)))) else (some false)) else (none)) else (none)) else (none)) else (none)) else (some true)
def numeral_begins.f (k : Nat) (a0 : ByteArray) (a1 : Int) (a2 : ByteArray) : Option (Bool) := if (wrap64 ((a0.size : Int) - a1)) < (a2.size : Int) then (some false) else (numeral_begins.l0 k a0 a1 a2 (a2.size : Int) 0)
set_option maxHeartbeats 8000000 in
set_option maxRecDepth 100000 in
theorem numeral_begins.calls (k : Nat) (a0 : ByteArray) (a1 : Int) (a2 : ByteArray) (r : Bool) (w : World) (h : numeral_begins.f k a0 a1 a2 = some r) :
  Calls Tryd.prog 35 #[.string a0, .int .i64 a1, .string a2] w fun e w' => e = .returned (.bool r) ∧ Drawn0 w w' := by
 have H : (if (wrap64 ((a0.size : Int) - a1)) < (a2.size : Int) then (some false) else (numeral_begins.l0 k a0 a1 a2 (a2.size : Int) 0)) = some r := h
 clear h
 by_cases c4 : (wrap64 ((a0.size : Int) - a1)) < (a2.size : Int)
 ·
  rw [if_pos c4] at H
  have c4b0 : decide ((wrap64 ((a0.size : Int) - a1)) < (a2.size : Int)) = true := decide_eq_true c4
  clear c4
  obtain rfl := Option.some.inj H
  go_enter Tryd.func35, Tryd.ntmps35
  go_wp2
  repeat (go_quiet (fail); try go_wp2)
  go_ret
  exact ⟨qnu2_, qnu12_⟩
 ·
  rw [if_neg c4] at H
  have c4b0 : decide ((wrap64 ((a0.size : Int) - a1)) < (a2.size : Int)) = false := decide_eq_false c4
  clear c4
  have H' := Aside0.mk H
  clear H
  go_enter Tryd.func35, Tryd.ntmps35
  go_wp2
  repeat (go_quiet (fail); try go_wp2)
  go_loopg [17] k (fun kq v17 w' => ∃ (x17_1 : Int), v17 = .int .i64 x17_1 ∧ Aside0 (numeral_begins.l0 kq a0 a1 a2 (a2.size : Int) x17_1 = some r) ∧ Aside0 (kq ≤ k) ∧ Drawn0 w w')
  case atStart => exact ⟨(0), qnu2_, H', ⟨Nat.le_refl _⟩, qnu12_⟩
  case round =>
   clear H'
   (try clear p2); (try clear c3); (try clear c4); (try clear c4b0)
   obtain ⟨x17_1, rfl, HA, HK1, ⟨m1, rfl⟩⟩ := hrel
   cases gk with
   | zero => exact absurd HA.out (by simp [numeral_begins.l0])
   | succ k1 =>
    have H := HA.out
    clear HA
    simp only [numeral_begins.l0] at H
    by_cases c5 : x17_1 < (a2.size : Int)
    ·
     rw [if_pos c5] at H
     have c5b0 : decide (x17_1 < (a2.size : Int)) = true := decide_eq_true c5
     clear c5
     obtain ⟨ji6, hji6⟩ : ∃ j_ : Int, (wrap64 (a1 + x17_1)) = j_ := ⟨_, rfl⟩
     replace H : (if 0 ≤ (ji6) then (if (ji6) < (a0.size : Int) then (if 0 ≤ x17_1 then (if x17_1 < (a2.size : Int) then (if (Go.bits .or .u8 (bt a0 (ji6)) 32) = (bt a2 x17_1) then (if (bt a0 (ji6)) < 65 then (some false) else (numeral_begins.l0 k1 a0 a1 a2 (a2.size : Int) (wrap64 (x17_1 + 1)))) else (some false)) else (none)) else (none)) else (none)) else (none)) = some r := by first | (rw [hji6] at H; exact H) | (simp only [hji6] at H ⊢; exact H)
     have hji6w : (IntKind.i64.wrap (a1 + x17_1)) = ji6 := (i64_w _).trans hji6
     by_cases c7 : 0 ≤ (ji6)
     ·
      rw [if_pos c7] at H
      have c7b0 : decide (0 ≤ (ji6)) = true := decide_eq_true c7
      clear c7
      by_cases c8 : (ji6) < (a0.size : Int)
      ·
       rw [if_pos c8] at H
       have c8b0 : decide ((ji6) < (a0.size : Int)) = true := decide_eq_true c8
       clear c8
       by_cases c10 : 0 ≤ x17_1
       ·
        rw [if_pos c10] at H
        have c10b0 : decide (0 ≤ x17_1) = true := decide_eq_true c10
        clear c10
        by_cases c11 : x17_1 < (a2.size : Int)
        ·
         rw [if_pos c11] at H
         have c11b0 : decide (x17_1 < (a2.size : Int)) = true := decide_eq_true c11
         clear c11
         by_cases c13 : (Go.bits .or .u8 (bt a0 (ji6)) 32) = (bt a2 x17_1)
         ·
          rw [if_pos c13] at H
          have c13b0 : ((Go.bits .or .u8 (bt a0 (ji6)) 32) == (bt a2 x17_1)) = true := beq_iff_eq.mpr c13
          have c13b1 : ((Go.bits .or .u8 (bt a0 (ji6)) 32) != (bt a2 x17_1)) = false := bne_eq_false_iff_eq.mpr c13
          clear c13
          by_cases c15 : (bt a0 (ji6)) < 65
          ·
           rw [if_pos c15] at H
           have c15b0 : decide ((bt a0 (ji6)) < 65) = true := decide_eq_true c15
           clear c15
           obtain rfl := Option.some.inj H
           have p9 : 0 ≤ ((ji6) : Int) := of_decide_eq_true qnu6_
           have q9 : (ji6) < (a0.size : Int) := of_decide_eq_true qnu6_
           have hx9 := bt_at a0 (ji6)
           replace p9 := eq_true p9
           replace q9 := eq_true q9
           have p12 : 0 ≤ (x17_1 : Int) := of_decide_eq_true qnu6_
           have q12 : x17_1 < (a2.size : Int) := of_decide_eq_true qnu6_
           have hx12 := bt_at a2 x17_1
           replace p12 := eq_true p12
           replace q12 := eq_true q12
           have p14 : 0 ≤ ((ji6) : Int) := of_decide_eq_true qnu6_
           have q14 : (ji6) < (a0.size : Int) := of_decide_eq_true qnu6_
           have hx14 := bt_at a0 (ji6)
           replace p14 := eq_true p14
           replace q14 := eq_true q14
           go_wp2
           repeat (go_quiet (fail); try go_wp2)
           go_ret
           exact ⟨by first | rfl | (simp; done) | (simp only [← hji6] <;> (first | rfl | simp); done) | (simp [*]; done) | (simp; simp only [eq_iff_iff, iff_true] at *; omega) | (exfalso; simp_all; done), qnu12_⟩
          ·
           rw [if_neg c15] at H
           have c15b0 : decide ((bt a0 (ji6)) < 65) = false := decide_eq_false c15
           clear c15
           have H' := Aside0.mk H
           clear H
           have p9 : 0 ≤ ((ji6) : Int) := of_decide_eq_true qnu6_
           have q9 : (ji6) < (a0.size : Int) := of_decide_eq_true qnu6_
           have hx9 := bt_at a0 (ji6)
           replace p9 := eq_true p9
           replace q9 := eq_true q9
           have p12 : 0 ≤ (x17_1 : Int) := of_decide_eq_true qnu6_
           have q12 : x17_1 < (a2.size : Int) := of_decide_eq_true qnu6_
           have hx12 := bt_at a2 x17_1
           replace p12 := eq_true p12
           replace q12 := eq_true q12
           have p14 : 0 ≤ ((ji6) : Int) := of_decide_eq_true qnu6_
           have q14 : (ji6) < (a0.size : Int) := of_decide_eq_true qnu6_
           have hx14 := bt_at a0 (ji6)
           replace p14 := eq_true p14
           replace q14 := eq_true q14
           go_wp2
           repeat (go_quiet (fail); try go_wp2)
           go_roundg k1
           case measure => have := HK1.out; omega
           case rel => exact ⟨(wrap64 (x17_1 + 1)), qnu2_, H', ⟨by have := HK1.out; omega⟩, qnu12_⟩
         ·
          rw [if_neg c13] at H
          have c13b0 : ((Go.bits .or .u8 (bt a0 (ji6)) 32) == (bt a2 x17_1)) = false := beq_eq_false_iff_ne.mpr c13
          have c13b1 : ((Go.bits .or .u8 (bt a0 (ji6)) 32) != (bt a2 x17_1)) = true := bne_iff_ne.mpr c13
          obtain rfl := Option.some.inj H
          have p9 : 0 ≤ ((ji6) : Int) := of_decide_eq_true qnu6_
          have q9 : (ji6) < (a0.size : Int) := of_decide_eq_true qnu6_
          have hx9 := bt_at a0 (ji6)
          replace p9 := eq_true p9
          replace q9 := eq_true q9
          have p12 : 0 ≤ (x17_1 : Int) := of_decide_eq_true qnu6_
          have q12 : x17_1 < (a2.size : Int) := of_decide_eq_true qnu6_
          have hx12 := bt_at a2 x17_1
          replace p12 := eq_true p12
          replace q12 := eq_true q12
          go_wp2
          repeat (go_quiet (fail); try go_wp2)
          go_ret
          exact ⟨by first | rfl | (simp; done) | (simp only [← hji6] <;> (first | rfl | simp); done) | (simp [*]; done) | (simp; simp only [eq_iff_iff, iff_true] at *; omega) | (exfalso; simp_all; done), qnu12_⟩
        ·
         rw [if_neg c11] at H
         exact absurd H (by simp)
       ·
        rw [if_neg c10] at H
        exact absurd H (by simp)
      ·
       rw [if_neg c8] at H
       exact absurd H (by simp)
     ·
      rw [if_neg c7] at H
      exact absurd H (by simp)
    ·
     rw [if_neg c5] at H
     have c5b0 : decide (x17_1 < (a2.size : Int)) = false := decide_eq_false c5
     clear c5
     obtain rfl := Option.some.inj H
     go_wp2
     repeat (go_quiet (fail); try go_wp2)
     go_ret
     exact ⟨qnu2_, qnu12_⟩


/-! ### numeral_exponent: function 37 -/
def numeral_exponent.l0 : Nat → ByteArray → Int → Int → Int → Int → Option (Int × Int)
 | 0, _, _, _, _, _ => none
 | k + 1, x0, x1, x6, x7, x8 => if x1 < (x0.size : Int) then (if 0 ≤ x1 then ((numeral_digit.f (bt x0 x1)).bind fun t140 => (if t140 = true then (numeral_exponent.l0 k x0 (wrap64 (x1 + 1)) (wrap64 (x1 + 1)) x7 (mn (wrap64 ((wrap64 (x8 * 10)) + (((bt x0 x1) - 48) % 256))) 1099511627776)) else (some (wrap64 (x7 * x8), x6)))) else (none)) else (some (wrap64 (x7 * x8), x6))
def numeral_exponent.f (k : Nat) (a0 : ByteArray) (a1 : Int) : Option (Int × Int) := if a1 = (a0.size : Int) then (some (0, a1)) else (if 0 ≤ a1 then (if a1 < (a0.size : Int) then (if (Go.bits .or .u8 (bt a0 a1) 32) = 101 then (if (wrap64 (a1 + 1)) < (a0.size : Int) then (if 0 ≤ (wrap64 (a1 + 1)) then (if (bt a0 (wrap64 (a1 + 1))) = 45 then (numeral_exponent.l0 k a0 (wrap64 ((wrap64 (a1 + 1)) + 1)) a1 (-1) 0) else (if (bt a0 (wrap64 (a1 + 1))) = 43 then (numeral_exponent.l0 k a0 (wrap64 ((wrap64 (a1 + 1)) + 1)) a1 1 0) else (numeral_exponent.l0 k a0 (wrap64 (a1 + 1)) a1 1 0))) else (none)) else (numeral_exponent.l0 k a0 (wrap64 (a1 + 1)) a1 1 0)) else (some (0, a1))) else (none)) else (none))
set_option maxHeartbeats 8000000 in
set_option maxRecDepth 100000 in
theorem numeral_exponent.calls (k : Nat) (a0 : ByteArray) (a1 : Int) (r1 : Int) (r2 : Int) (w : World) (h : numeral_exponent.f k a0 a1 = some (r1, r2)) :
  Calls Tryd.prog 37 #[.string a0, .int .i64 a1] w fun e w' => e = .returned (.tuple #[.int .i64 r1, .int .i64 r2]) ∧ Below w.heap.size w w' := by
 have HB := Aside0.mk (Below.refl w.heap.size w)
 have H : (if a1 = (a0.size : Int) then (some (0, a1)) else (if 0 ≤ a1 then (if a1 < (a0.size : Int) then (if (Go.bits .or .u8 (bt a0 a1) 32) = 101 then (if (wrap64 (a1 + 1)) < (a0.size : Int) then (if 0 ≤ (wrap64 (a1 + 1)) then (if (bt a0 (wrap64 (a1 + 1))) = 45 then (numeral_exponent.l0 k a0 (wrap64 ((wrap64 (a1 + 1)) + 1)) a1 (-1) 0) else (if (bt a0 (wrap64 (a1 + 1))) = 43 then (numeral_exponent.l0 k a0 (wrap64 ((wrap64 (a1 + 1)) + 1)) a1 1 0) else (numeral_exponent.l0 k a0 (wrap64 (a1 + 1)) a1 1 0))) else (none)) else (numeral_exponent.l0 k a0 (wrap64 (a1 + 1)) a1 1 0)) else (some (0, a1))) else (none)) else (none))) = some (r1, r2) := h
 clear h
 by_cases c3 : a1 = (a0.size : Int)
 ·
  rw [if_pos c3] at H
  have c3b0 : (a1 == (a0.size : Int)) = true := beq_iff_eq.mpr c3
  have c3b1 : (a1 != (a0.size : Int)) = false := bne_eq_false_iff_eq.mpr c3
  clear c3
  simp only [Option.some.injEq, Prod.mk.injEq] at H
  obtain ⟨rfl, rfl⟩ := H
  go_enter Tryd.func37, Tryd.ntmps37
  go_wp2
  go_ret2
  exact ⟨qnu10_, qnu1_⟩
 ·
  rw [if_neg c3] at H
  have c3b0 : (a1 == (a0.size : Int)) = false := beq_eq_false_iff_ne.mpr c3
  have c3b1 : (a1 != (a0.size : Int)) = true := bne_iff_ne.mpr c3
  by_cases c4 : 0 ≤ a1
  ·
   rw [if_pos c4] at H
   have c4b0 : decide (0 ≤ a1) = true := decide_eq_true c4
   clear c4
   by_cases c5 : a1 < (a0.size : Int)
   ·
    rw [if_pos c5] at H
    have c5b0 : decide (a1 < (a0.size : Int)) = true := decide_eq_true c5
    clear c5
    by_cases c7 : (Go.bits .or .u8 (bt a0 a1) 32) = 101
    ·
     rw [if_pos c7] at H
     have c7b0 : ((Go.bits .or .u8 (bt a0 a1) 32) == 101) = true := beq_iff_eq.mpr c7
     have c7b1 : ((Go.bits .or .u8 (bt a0 a1) 32) != 101) = false := bne_eq_false_iff_eq.mpr c7
     clear c7
     by_cases c8 : (wrap64 (a1 + 1)) < (a0.size : Int)
     ·
      rw [if_pos c8] at H
      have c8b0 : decide ((wrap64 (a1 + 1)) < (a0.size : Int)) = true := decide_eq_true c8
      clear c8
      obtain ⟨ji9, hji9⟩ : ∃ j_ : Int, (wrap64 (a1 + 1)) = j_ := ⟨_, rfl⟩
      replace H : (if 0 ≤ (ji9) then (if (bt a0 (ji9)) = 45 then (numeral_exponent.l0 k a0 (wrap64 ((ji9) + 1)) a1 (-1) 0) else (if (bt a0 (ji9)) = 43 then (numeral_exponent.l0 k a0 (wrap64 ((ji9) + 1)) a1 1 0) else (numeral_exponent.l0 k a0 ji9 a1 1 0))) else (none)) = some (r1, r2) := by first | (rw [hji9] at H; exact H) | (simp only [hji9] at H ⊢; exact H)
      (try rw [hji9] at c8b0)
      have hji9w : (IntKind.i64.wrap (a1 + 1)) = ji9 := (i64_w _).trans hji9
      by_cases c10 : 0 ≤ (ji9)
      ·
       rw [if_pos c10] at H
       have c10b0 : decide (0 ≤ (ji9)) = true := decide_eq_true c10
       clear c10
       by_cases c12 : (bt a0 (ji9)) = 45
       ·
        rw [if_pos c12] at H
        have c12b0 : ((bt a0 (ji9)) == 45) = true := beq_iff_eq.mpr c12
        have c12b1 : ((bt a0 (ji9)) != 45) = false := bne_eq_false_iff_eq.mpr c12
        clear c12
        have H' := Aside0.mk H
        clear H
        have p6 : 0 ≤ (a1 : Int) := of_decide_eq_true qnu6_
        have q6 : a1 < (a0.size : Int) := of_decide_eq_true qnu6_
        have hx6 := bt_at a0 a1
        replace p6 := eq_true p6
        replace q6 := eq_true q6
        have p11 : 0 ≤ ((ji9) : Int) := of_decide_eq_true qnu6_
        have q11 : (ji9) < (a0.size : Int) := of_decide_eq_true qnu6_
        have hx11 := bt_at a0 (ji9)
        replace p11 := eq_true p11
        replace q11 := eq_true q11
        have p13 : 0 ≤ ((ji9) : Int) := of_decide_eq_true qnu6_
        have q13 : (ji9) < (a0.size : Int) := of_decide_eq_true qnu6_
        have hx13 := bt_at a0 (ji9)
        replace p13 := eq_true p13
        replace q13 := eq_true q13
        go_enter Tryd.func37, Tryd.ntmps37
        go_wp2
        go_loopg [1, 6, 8] k (fun kq v1 v6 v8 w' => ∃ (x1_1 : Int) (x6_1 : Int) (x8_1 : Int), v1 = .int .i64 x1_1 ∧ v6 = .int .i64 x6_1 ∧ v8 = .int .i64 x8_1 ∧ Aside0 (numeral_exponent.l0 kq a0 x1_1 x6_1 (-1) x8_1 = some (r1, r2)) ∧ Aside0 (kq ≤ k) ∧ Aside0 (Below w.heap.size w w'))
        case atStart => exact ⟨(wrap64 ((ji9) + 1)), (a1), (0), qnu47_, qnu2_, qnu2_, H', ⟨Nat.le_refl _⟩, ⟨qnu1_⟩⟩
        case round =>
         clear H'
         (try clear c1); (try clear p1); (try clear q1); (try clear hx1); (try clear p2); (try clear c3); (try clear c3b0); (try clear c3b1); (try clear c4); (try clear c4b0); (try clear c5); (try clear c5b0); (try clear p6); (try clear q6); (try clear hx6); (try clear c7); (try clear c7b0); (try clear c7b1); (try clear c8); (try clear c8b0); (try clear c10); (try clear c10b0); (try clear p11); (try clear q11)
         (try clear hx11); (try clear c12); (try clear c12b0); (try clear c12b1); (try clear p13); (try clear q13); (try clear hx13); (try clear p11); (try clear p13); (try clear p6); (try clear q11); (try clear q13); (try clear q6)
         obtain ⟨x1_1, x6_1, x8_1, rfl, rfl, rfl, HA, HK1, HB⟩ := hrel
         cases gk with
         | zero => exact absurd HA.out (by simp [numeral_exponent.l0])
         | succ k1 =>
          have H := HA.out
          clear HA
          simp only [numeral_exponent.l0] at H
          by_cases c14 : x1_1 < (a0.size : Int)
          ·
           rw [if_pos c14] at H
           have c14b0 : decide (x1_1 < (a0.size : Int)) = true := decide_eq_true c14
           clear c14
           by_cases c15 : 0 ≤ x1_1
           ·
            rw [if_pos c15] at H
            have c15b0 : decide (0 ≤ x1_1) = true := decide_eq_true c15
            clear c15
            replace H := Option.bind_eq_some_iff.mp H
            obtain ⟨t140, A170, H⟩ := H
            replace H : (if t140 = true then (numeral_exponent.l0 k1 a0 (wrap64 (x1_1 + 1)) (wrap64 (x1_1 + 1)) (-1) (mn (wrap64 ((wrap64 (x8_1 * 10)) + (((bt a0 x1_1) - 48) % 256))) 1099511627776)) else (some (wrap64 ((-1) * x8_1), x6_1))) = some (r1, r2) := H
            have A17 := Aside0.mk A170
            clear A170
            by_cases c18 : t140 = true
            ·
             subst c18
             have H1 : (numeral_exponent.l0 k1 a0 (wrap64 (x1_1 + 1)) (wrap64 (x1_1 + 1)) (-1) (mn (wrap64 ((wrap64 (x8_1 * 10)) + (((bt a0 x1_1) - 48) % 256))) 1099511627776)) = some (r1, r2) := by rw [if_pos rfl] at H; exact H
             clear H
             have H := H1
             clear H1
             obtain ⟨ji20, hji20⟩ : ∃ j_ : Int, (mn (wrap64 ((wrap64 (x8_1 * 10)) + (((bt a0 x1_1) - 48) % 256))) 1099511627776) = j_ := ⟨_, rfl⟩
             replace H : (numeral_exponent.l0 k1 a0 (wrap64 (x1_1 + 1)) (wrap64 (x1_1 + 1)) (-1) ji20) = some (r1, r2) := by first | (rw [hji20] at H; exact H) | (simp only [hji20] at H ⊢; exact H)
             (try rw [hji20] at A17)
             have hji20_ : (if 1099511627776 < (wrap64 ((wrap64 (x8_1 * 10)) + (((bt a0 x1_1) - 48) % 256))) then 1099511627776 else (wrap64 ((wrap64 (x8_1 * 10)) + (((bt a0 x1_1) - 48) % 256)))) = ji20 := hji20
             have H' := Aside0.mk H
             clear H
             have p16 : 0 ≤ (x1_1 : Int) := of_decide_eq_true qnu6_
             have q16 : x1_1 < (a0.size : Int) := of_decide_eq_true qnu6_
             have hx16 := bt_at a0 x1_1
             replace p16 := eq_true p16
             replace q16 := eq_true q16
             go_wp2_with (first | (go_at_call 68; (with_reducible refine (numeral_digit.calls (bt a0 x1_1) true _ A17.out).mono ?_); rintro e w' ⟨rfl, ⟨nd, rfl⟩⟩; have p19 : 0 ≤ (x1_1 : Int) := of_decide_eq_true qnu6_; have q19 : x1_1 < (a0.size : Int) := of_decide_eq_true qnu6_; have hx19 := bt_at a0 x1_1; replace p19 := eq_true p19; replace q19 := eq_true q19))
             go_roundg k1
             case measure => have := HK1.out; omega
             case rel => exact ⟨(wrap64 (x1_1 + 1)), (wrap64 (x1_1 + 1)), (ji20), qnu2_, qnu2_, (by first | rfl | (simp; done) | (simp only [← hji20] <;> (first | rfl | simp); done) | (simp [*]; done) | (simp; simp only [eq_iff_iff, iff_true] at *; omega) | (exfalso; simp_all; done)), H', ⟨by have := HK1.out; omega⟩, ⟨qnu1_⟩⟩
            ·
             replace c18 := Bool.eq_false_iff.mpr c18
             subst c18
             have H1 : (some (wrap64 ((-1) * x8_1), x6_1)) = some (r1, r2) := by rw [if_neg (show ¬ (false = true) by decide)] at H; exact H
             clear H
             have H := H1
             clear H1
             simp only [Option.some.injEq, Prod.mk.injEq] at H
             obtain ⟨rfl, rfl⟩ := H
             have p16 : 0 ≤ (x1_1 : Int) := of_decide_eq_true qnu6_
             have q16 : x1_1 < (a0.size : Int) := of_decide_eq_true qnu6_
             have hx16 := bt_at a0 x1_1
             replace p16 := eq_true p16
             replace q16 := eq_true q16
             go_wp2_with (first | (go_at_call 68; (with_reducible refine (numeral_digit.calls (bt a0 x1_1) false _ A17.out).mono ?_); rintro e w' ⟨rfl, ⟨nd, rfl⟩⟩))
             go_ret2
             exact ⟨qnu33_, qnu1_⟩
           ·
            rw [if_neg c15] at H
            exact absurd H (by simp)
          ·
           rw [if_neg c14] at H
           have c14b0 : decide (x1_1 < (a0.size : Int)) = false := decide_eq_false c14
           clear c14
           simp only [Option.some.injEq, Prod.mk.injEq] at H
           obtain ⟨rfl, rfl⟩ := H
           go_wp2
           go_ret2
           exact ⟨qnu33_, qnu1_⟩
       ·
        rw [if_neg c12] at H
        have c12b0 : ((bt a0 (ji9)) == 45) = false := beq_eq_false_iff_ne.mpr c12
        have c12b1 : ((bt a0 (ji9)) != 45) = true := bne_iff_ne.mpr c12
        by_cases c22 : (bt a0 (ji9)) = 43
        ·
         rw [if_pos c22] at H
         have c22b0 : ((bt a0 (ji9)) == 43) = true := beq_iff_eq.mpr c22
         have c22b1 : ((bt a0 (ji9)) != 43) = false := bne_eq_false_iff_eq.mpr c22
         clear c22
         have H' := Aside0.mk H
         clear H
         have p6 : 0 ≤ (a1 : Int) := of_decide_eq_true qnu6_
         have q6 : a1 < (a0.size : Int) := of_decide_eq_true qnu6_
         have hx6 := bt_at a0 a1
         replace p6 := eq_true p6
         replace q6 := eq_true q6
         have p11 : 0 ≤ ((ji9) : Int) := of_decide_eq_true qnu6_
         have q11 : (ji9) < (a0.size : Int) := of_decide_eq_true qnu6_
         have hx11 := bt_at a0 (ji9)
         replace p11 := eq_true p11
         replace q11 := eq_true q11
         have p21 : 0 ≤ ((ji9) : Int) := of_decide_eq_true qnu6_
         have q21 : (ji9) < (a0.size : Int) := of_decide_eq_true qnu6_
         have hx21 := bt_at a0 (ji9)
         replace p21 := eq_true p21
         replace q21 := eq_true q21
         have p23 : 0 ≤ ((ji9) : Int) := of_decide_eq_true qnu6_
         have q23 : (ji9) < (a0.size : Int) := of_decide_eq_true qnu6_
         have hx23 := bt_at a0 (ji9)
         replace p23 := eq_true p23
         replace q23 := eq_true q23
         go_enter Tryd.func37, Tryd.ntmps37
         go_wp2
         go_loopg [1, 6, 8] k (fun kq v1 v6 v8 w' => ∃ (x1_1 : Int) (x6_1 : Int) (x8_1 : Int), v1 = .int .i64 x1_1 ∧ v6 = .int .i64 x6_1 ∧ v8 = .int .i64 x8_1 ∧ Aside0 (numeral_exponent.l0 kq a0 x1_1 x6_1 1 x8_1 = some (r1, r2)) ∧ Aside0 (kq ≤ k) ∧ Aside0 (Below w.heap.size w w'))
         case atStart => exact ⟨(wrap64 ((ji9) + 1)), (a1), (0), qnu47_, qnu2_, qnu2_, H', ⟨Nat.le_refl _⟩, ⟨qnu1_⟩⟩
         case round =>
          clear H'
          (try clear c1); (try clear p1); (try clear q1); (try clear hx1); (try clear c2); (try clear p2); (try clear q2); (try clear hx2); (try clear c3); (try clear c3b0); (try clear c3b1); (try clear c4); (try clear c4b0); (try clear c5); (try clear c5b0); (try clear p6); (try clear q6); (try clear hx6); (try clear c7); (try clear c7b0); (try clear c7b1); (try clear c8); (try clear c8b0); (try clear c10)
          (try clear c10b0); (try clear p11); (try clear q11); (try clear hx11); (try clear c12); (try clear c12b0); (try clear c12b1); (try clear p13); (try clear q13); (try clear hx13); (try clear c14); (try clear c14b0); (try clear c15); (try clear c15b0); (try clear p16); (try clear q16); (try clear hx16); (try clear c18); (try clear p19); (try clear q19); (try clear hx19); (try clear p21); (try clear q21)
          (try clear hx21); (try clear c22); (try clear c22b0); (try clear c22b1); (try clear p23); (try clear q23); (try clear hx23); (try clear p1); (try clear p11); (try clear p13); (try clear p16); (try clear p19); (try clear p2); (try clear p21); (try clear p23); (try clear p6); (try clear q1); (try clear q11); (try clear q13); (try clear q16); (try clear q19); (try clear q21); (try clear q23)
          (try clear q6)
          obtain ⟨x1_1, x6_1, x8_1, rfl, rfl, rfl, HA, HK1, HB⟩ := hrel
          cases gk with
          | zero => exact absurd HA.out (by simp [numeral_exponent.l0])
          | succ k1 =>
           have H := HA.out
           clear HA
           simp only [numeral_exponent.l0] at H
           by_cases c24 : x1_1 < (a0.size : Int)
           ·
            rw [if_pos c24] at H
            have c24b0 : decide (x1_1 < (a0.size : Int)) = true := decide_eq_true c24
            clear c24
            by_cases c25 : 0 ≤ x1_1
            ·
             rw [if_pos c25] at H
             have c25b0 : decide (0 ≤ x1_1) = true := decide_eq_true c25
             clear c25
             replace H := Option.bind_eq_some_iff.mp H
             obtain ⟨t140, A270, H⟩ := H
             replace H : (if t140 = true then (numeral_exponent.l0 k1 a0 (wrap64 (x1_1 + 1)) (wrap64 (x1_1 + 1)) 1 (mn (wrap64 ((wrap64 (x8_1 * 10)) + (((bt a0 x1_1) - 48) % 256))) 1099511627776)) else (some (wrap64 (1 * x8_1), x6_1))) = some (r1, r2) := H
             have A27 := Aside0.mk A270
             clear A270
             by_cases c28 : t140 = true
             ·
              subst c28
              have H1 : (numeral_exponent.l0 k1 a0 (wrap64 (x1_1 + 1)) (wrap64 (x1_1 + 1)) 1 (mn (wrap64 ((wrap64 (x8_1 * 10)) + (((bt a0 x1_1) - 48) % 256))) 1099511627776)) = some (r1, r2) := by rw [if_pos rfl] at H; exact H
              clear H
              have H := H1
              clear H1
              obtain ⟨ji30, hji30⟩ : ∃ j_ : Int, (mn (wrap64 ((wrap64 (x8_1 * 10)) + (((bt a0 x1_1) - 48) % 256))) 1099511627776) = j_ := ⟨_, rfl⟩
              replace H : (numeral_exponent.l0 k1 a0 (wrap64 (x1_1 + 1)) (wrap64 (x1_1 + 1)) 1 ji30) = some (r1, r2) := by first | (rw [hji30] at H; exact H) | (simp only [hji30] at H ⊢; exact H)
              (try rw [hji30] at A27)
              have hji30_ : (if 1099511627776 < (wrap64 ((wrap64 (x8_1 * 10)) + (((bt a0 x1_1) - 48) % 256))) then 1099511627776 else (wrap64 ((wrap64 (x8_1 * 10)) + (((bt a0 x1_1) - 48) % 256)))) = ji30 := hji30
              have H' := Aside0.mk H
              clear H
              have p26 : 0 ≤ (x1_1 : Int) := of_decide_eq_true qnu6_
              have q26 : x1_1 < (a0.size : Int) := of_decide_eq_true qnu6_
              have hx26 := bt_at a0 x1_1
              replace p26 := eq_true p26
              replace q26 := eq_true q26
              go_wp2_with (first | (go_at_call 68; (with_reducible refine (numeral_digit.calls (bt a0 x1_1) true _ A27.out).mono ?_); rintro e w' ⟨rfl, ⟨nd, rfl⟩⟩; have p29 : 0 ≤ (x1_1 : Int) := of_decide_eq_true qnu6_; have q29 : x1_1 < (a0.size : Int) := of_decide_eq_true qnu6_; have hx29 := bt_at a0 x1_1; replace p29 := eq_true p29; replace q29 := eq_true q29))
              go_roundg k1
              case measure => have := HK1.out; omega
              case rel => exact ⟨(wrap64 (x1_1 + 1)), (wrap64 (x1_1 + 1)), (ji30), qnu2_, qnu2_, (by first | rfl | (simp; done) | (simp only [← hji30] <;> (first | rfl | simp); done) | (simp [*]; done) | (simp; simp only [eq_iff_iff, iff_true] at *; omega) | (exfalso; simp_all; done)), H', ⟨by have := HK1.out; omega⟩, ⟨qnu1_⟩⟩
             ·
              replace c28 := Bool.eq_false_iff.mpr c28
              subst c28
              have H1 : (some (wrap64 (1 * x8_1), x6_1)) = some (r1, r2) := by rw [if_neg (show ¬ (false = true) by decide)] at H; exact H
              clear H
              have H := H1
              clear H1
              simp only [Option.some.injEq, Prod.mk.injEq] at H
              obtain ⟨rfl, rfl⟩ := H
              have p26 : 0 ≤ (x1_1 : Int) := of_decide_eq_true qnu6_
              have q26 : x1_1 < (a0.size : Int) := of_decide_eq_true qnu6_
              have hx26 := bt_at a0 x1_1
              replace p26 := eq_true p26
              replace q26 := eq_true q26
              go_wp2_with (first | (go_at_call 68; (with_reducible refine (numeral_digit.calls (bt a0 x1_1) false _ A27.out).mono ?_); rintro e w' ⟨rfl, ⟨nd, rfl⟩⟩))
              go_ret2
              exact ⟨qnu33_, qnu1_⟩
            ·
             rw [if_neg c25] at H
             exact absurd H (by simp)
           ·
            rw [if_neg c24] at H
            have c24b0 : decide (x1_1 < (a0.size : Int)) = false := decide_eq_false c24
            clear c24
            simp only [Option.some.injEq, Prod.mk.injEq] at H
            obtain ⟨rfl, rfl⟩ := H
            go_wp2
            go_ret2
            exact ⟨qnu33_, qnu1_⟩
        ·
         rw [if_neg c22] at H
         have c22b0 : ((bt a0 (ji9)) == 43) = false := beq_eq_false_iff_ne.mpr c22
         have c22b1 : ((bt a0 (ji9)) != 43) = true := bne_iff_ne.mpr c22
         have H' := Aside0.mk H
         clear H
         have p6 : 0 ≤ (a1 : Int) := of_decide_eq_true qnu6_
         have q6 : a1 < (a0.size : Int) := of_decide_eq_true qnu6_
         have hx6 := bt_at a0 a1
         replace p6 := eq_true p6
         replace q6 := eq_true q6
         have p11 : 0 ≤ ((ji9) : Int) := of_decide_eq_true qnu6_
         have q11 : (ji9) < (a0.size : Int) := of_decide_eq_true qnu6_
         have hx11 := bt_at a0 (ji9)
         replace p11 := eq_true p11
         replace q11 := eq_true q11
         have p21 : 0 ≤ ((ji9) : Int) := of_decide_eq_true qnu6_
         have q21 : (ji9) < (a0.size : Int) := of_decide_eq_true qnu6_
         have hx21 := bt_at a0 (ji9)
         replace p21 := eq_true p21
         replace q21 := eq_true q21
         go_enter Tryd.func37, Tryd.ntmps37
         go_wp2
         go_loopg [1, 6, 8] k (fun kq v1 v6 v8 w' => ∃ (x1_1 : Int) (x6_1 : Int) (x8_1 : Int), v1 = .int .i64 x1_1 ∧ v6 = .int .i64 x6_1 ∧ v8 = .int .i64 x8_1 ∧ Aside0 (numeral_exponent.l0 kq a0 x1_1 x6_1 1 x8_1 = some (r1, r2)) ∧ Aside0 (kq ≤ k) ∧ Aside0 (Below w.heap.size w w'))
         case atStart => exact ⟨(ji9), (a1), (0), qnu47_, qnu2_, qnu2_, H', ⟨Nat.le_refl _⟩, ⟨qnu1_⟩⟩
         case round =>
          clear H'
          (try clear c1); (try clear p1); (try clear q1); (try clear hx1); (try clear c2); (try clear p2); (try clear q2); (try clear hx2); (try clear c3); (try clear c3b0); (try clear c3b1); (try clear c4); (try clear c4b0); (try clear c5); (try clear c5b0); (try clear p6); (try clear q6); (try clear hx6); (try clear c7); (try clear c7b0); (try clear c7b1); (try clear c8); (try clear c8b0); (try clear c10)
          (try clear c10b0); (try clear p11); (try clear q11); (try clear hx11); (try clear c12); (try clear c12b0); (try clear c12b1); (try clear p13); (try clear q13); (try clear hx13); (try clear c14); (try clear c14b0); (try clear c15); (try clear c15b0); (try clear p16); (try clear q16); (try clear hx16); (try clear c18); (try clear p19); (try clear q19); (try clear hx19); (try clear p21); (try clear q21)
          (try clear hx21); (try clear c22); (try clear c22b0); (try clear c22b1); (try clear p23); (try clear q23); (try clear hx23); (try clear c24); (try clear c24b0); (try clear c25); (try clear c25b0); (try clear p26); (try clear q26); (try clear hx26); (try clear c28); (try clear p29); (try clear q29); (try clear hx29); (try clear p1); (try clear p11); (try clear p13); (try clear p16); (try clear p19)
          (try clear p2); (try clear p21); (try clear p23); (try clear p26); (try clear p29); (try clear p6); (try clear q1); (try clear q11); (try clear q13); (try clear q16); (try clear q19); (try clear q2); (try clear q21); (try clear q23); (try clear q26); (try clear q29); (try clear q6)
          obtain ⟨x1_1, x6_1, x8_1, rfl, rfl, rfl, HA, HK1, HB⟩ := hrel
          cases gk with
          | zero => exact absurd HA.out (by simp [numeral_exponent.l0])
          | succ k1 =>
           have H := HA.out
           clear HA
           simp only [numeral_exponent.l0] at H
           by_cases c31 : x1_1 < (a0.size : Int)
           ·
            rw [if_pos c31] at H
            have c31b0 : decide (x1_1 < (a0.size : Int)) = true := decide_eq_true c31
            clear c31
            by_cases c32 : 0 ≤ x1_1
            ·
             rw [if_pos c32] at H
             have c32b0 : decide (0 ≤ x1_1) = true := decide_eq_true c32
             clear c32
             replace H := Option.bind_eq_some_iff.mp H
             obtain ⟨t140, A340, H⟩ := H
             replace H : (if t140 = true then (numeral_exponent.l0 k1 a0 (wrap64 (x1_1 + 1)) (wrap64 (x1_1 + 1)) 1 (mn (wrap64 ((wrap64 (x8_1 * 10)) + (((bt a0 x1_1) - 48) % 256))) 1099511627776)) else (some (wrap64 (1 * x8_1), x6_1))) = some (r1, r2) := H
             have A34 := Aside0.mk A340
             clear A340
             by_cases c35 : t140 = true
             ·
              subst c35
              have H1 : (numeral_exponent.l0 k1 a0 (wrap64 (x1_1 + 1)) (wrap64 (x1_1 + 1)) 1 (mn (wrap64 ((wrap64 (x8_1 * 10)) + (((bt a0 x1_1) - 48) % 256))) 1099511627776)) = some (r1, r2) := by rw [if_pos rfl] at H; exact H
              clear H
              have H := H1
              clear H1
              obtain ⟨ji37, hji37⟩ : ∃ j_ : Int, (mn (wrap64 ((wrap64 (x8_1 * 10)) + (((bt a0 x1_1) - 48) % 256))) 1099511627776) = j_ := ⟨_, rfl⟩
              replace H : (numeral_exponent.l0 k1 a0 (wrap64 (x1_1 + 1)) (wrap64 (x1_1 + 1)) 1 ji37) = some (r1, r2) := by first | (rw [hji37] at H; exact H) | (simp only [hji37] at H ⊢; exact H)
              (try rw [hji37] at A34)
              have hji37_ : (if 1099511627776 < (wrap64 ((wrap64 (x8_1 * 10)) + (((bt a0 x1_1) - 48) % 256))) then 1099511627776 else (wrap64 ((wrap64 (x8_1 * 10)) + (((bt a0 x1_1) - 48) % 256)))) = ji37 := hji37
              have H' := Aside0.mk H
              clear H
              have p33 : 0 ≤ (x1_1 : Int) := of_decide_eq_true qnu6_
              have q33 : x1_1 < (a0.size : Int) := of_decide_eq_true qnu6_
              have hx33 := bt_at a0 x1_1
              replace p33 := eq_true p33
              replace q33 := eq_true q33
              go_wp2_with (first | (go_at_call 68; (with_reducible refine (numeral_digit.calls (bt a0 x1_1) true _ A34.out).mono ?_); rintro e w' ⟨rfl, ⟨nd, rfl⟩⟩; have p36 : 0 ≤ (x1_1 : Int) := of_decide_eq_true qnu6_; have q36 : x1_1 < (a0.size : Int) := of_decide_eq_true qnu6_; have hx36 := bt_at a0 x1_1; replace p36 := eq_true p36; replace q36 := eq_true q36))
              go_roundg k1
              case measure => have := HK1.out; omega
              case rel => exact ⟨(wrap64 (x1_1 + 1)), (wrap64 (x1_1 + 1)), (ji37), qnu2_, qnu2_, (by first | rfl | (simp; done) | (simp only [← hji37] <;> (first | rfl | simp); done) | (simp [*]; done) | (simp; simp only [eq_iff_iff, iff_true] at *; omega) | (exfalso; simp_all; done)), H', ⟨by have := HK1.out; omega⟩, ⟨qnu1_⟩⟩
             ·
              replace c35 := Bool.eq_false_iff.mpr c35
              subst c35
              have H1 : (some (wrap64 (1 * x8_1), x6_1)) = some (r1, r2) := by rw [if_neg (show ¬ (false = true) by decide)] at H; exact H
              clear H
              have H := H1
              clear H1
              simp only [Option.some.injEq, Prod.mk.injEq] at H
              obtain ⟨rfl, rfl⟩ := H
              have p33 : 0 ≤ (x1_1 : Int) := of_decide_eq_true qnu6_
              have q33 : x1_1 < (a0.size : Int) := of_decide_eq_true qnu6_
              have hx33 := bt_at a0 x1_1
              replace p33 := eq_true p33
              replace q33 := eq_true q33
              go_wp2_with (first | (go_at_call 68; (with_reducible refine (numeral_digit.calls (bt a0 x1_1) false _ A34.out).mono ?_); rintro e w' ⟨rfl, ⟨nd, rfl⟩⟩))
              go_ret2
              exact ⟨qnu33_, qnu1_⟩
            ·
             rw [if_neg c32] at H
             exact absurd H (by simp)
           ·
            rw [if_neg c31] at H
            have c31b0 : decide (x1_1 < (a0.size : Int)) = false := decide_eq_false c31
            clear c31
            simp only [Option.some.injEq, Prod.mk.injEq] at H
            obtain ⟨rfl, rfl⟩ := H
            go_wp2
            go_ret2
            exact ⟨qnu33_, qnu1_⟩
      ·
       rw [if_neg c10] at H
       exact absurd H (by simp)
     ·
      rw [if_neg c8] at H
      have c8b0 : decide ((wrap64 (a1 + 1)) < (a0.size : Int)) = false := decide_eq_false c8
      clear c8
      have H' := Aside0.mk H
      clear H
      have p6 : 0 ≤ (a1 : Int) := of_decide_eq_true qnu6_
      have q6 : a1 < (a0.size : Int) := of_decide_eq_true qnu6_
      have hx6 := bt_at a0 a1
      replace p6 := eq_true p6
      replace q6 := eq_true q6
      go_enter Tryd.func37, Tryd.ntmps37
      go_wp2
      go_loopg [1, 6, 8] k (fun kq v1 v6 v8 w' => ∃ (x1_1 : Int) (x6_1 : Int) (x8_1 : Int), v1 = .int .i64 x1_1 ∧ v6 = .int .i64 x6_1 ∧ v8 = .int .i64 x8_1 ∧ Aside0 (numeral_exponent.l0 kq a0 x1_1 x6_1 1 x8_1 = some (r1, r2)) ∧ Aside0 (kq ≤ k) ∧ Aside0 (Below w.heap.size w w'))
      case atStart => exact ⟨(wrap64 (a1 + 1)), (a1), (0), qnu2_, qnu2_, qnu2_, H', ⟨Nat.le_refl _⟩, ⟨qnu1_⟩⟩
      case round =>
       clear H'
       (try clear c1); (try clear p1); (try clear q1); (try clear hx1); (try clear c2); (try clear p2); (try clear q2); (try clear hx2); (try clear c3); (try clear c3b0); (try clear c3b1); (try clear p3); (try clear q3); (try clear hx3); (try clear c4); (try clear c4b0); (try clear c5); (try clear c5b0); (try clear p6); (try clear q6); (try clear hx6); (try clear c7); (try clear c7b0); (try clear c7b1)
       (try clear c8); (try clear c8b0); (try clear c10); (try clear c10b0); (try clear p11); (try clear q11); (try clear hx11); (try clear c12); (try clear c12b0); (try clear c12b1); (try clear p13); (try clear q13); (try clear hx13); (try clear c14); (try clear c14b0); (try clear c15); (try clear c15b0); (try clear p16); (try clear q16); (try clear hx16); (try clear c18); (try clear p19); (try clear q19)
       (try clear hx19); (try clear p21); (try clear q21); (try clear hx21); (try clear c22); (try clear c22b0); (try clear c22b1); (try clear p23); (try clear q23); (try clear hx23); (try clear c24); (try clear c24b0); (try clear c25); (try clear c25b0); (try clear p26); (try clear q26); (try clear hx26); (try clear c28); (try clear p29); (try clear q29); (try clear hx29); (try clear c31); (try clear c31b0)
       (try clear c32); (try clear c32b0); (try clear p33); (try clear q33); (try clear hx33); (try clear c35); (try clear p36); (try clear q36); (try clear hx36); (try clear c37); (try clear p1); (try clear p11); (try clear p13); (try clear p16); (try clear p19); (try clear p2); (try clear p21); (try clear p23); (try clear p26); (try clear p29); (try clear p33); (try clear p36); (try clear p6); (try clear q1)
       (try clear q11); (try clear q13); (try clear q16); (try clear q19); (try clear q2); (try clear q21); (try clear q23); (try clear q26); (try clear q29); (try clear q33); (try clear q36); (try clear q6)
       obtain ⟨x1_1, x6_1, x8_1, rfl, rfl, rfl, HA, HK1, HB⟩ := hrel
       cases gk with
       | zero => exact absurd HA.out (by simp [numeral_exponent.l0])
       | succ k1 =>
        have H := HA.out
        clear HA
        simp only [numeral_exponent.l0] at H
        by_cases c38 : x1_1 < (a0.size : Int)
        ·
         rw [if_pos c38] at H
         have c38b0 : decide (x1_1 < (a0.size : Int)) = true := decide_eq_true c38
         clear c38
         by_cases c39 : 0 ≤ x1_1
         ·
          rw [if_pos c39] at H
          have c39b0 : decide (0 ≤ x1_1) = true := decide_eq_true c39
          clear c39
          replace H := Option.bind_eq_some_iff.mp H
          obtain ⟨t140, A410, H⟩ := H
          replace H : (if t140 = true then (numeral_exponent.l0 k1 a0 (wrap64 (x1_1 + 1)) (wrap64 (x1_1 + 1)) 1 (mn (wrap64 ((wrap64 (x8_1 * 10)) + (((bt a0 x1_1) - 48) % 256))) 1099511627776)) else (some (wrap64 (1 * x8_1), x6_1))) = some (r1, r2) := H
          have A41 := Aside0.mk A410
          clear A410
          by_cases c42 : t140 = true
          ·
           subst c42
           have H1 : (numeral_exponent.l0 k1 a0 (wrap64 (x1_1 + 1)) (wrap64 (x1_1 + 1)) 1 (mn (wrap64 ((wrap64 (x8_1 * 10)) + (((bt a0 x1_1) - 48) % 256))) 1099511627776)) = some (r1, r2) := by rw [if_pos rfl] at H; exact H
           clear H
           have H := H1
           clear H1
           obtain ⟨ji44, hji44⟩ : ∃ j_ : Int, (mn (wrap64 ((wrap64 (x8_1 * 10)) + (((bt a0 x1_1) - 48) % 256))) 1099511627776) = j_ := ⟨_, rfl⟩
           replace H : (numeral_exponent.l0 k1 a0 (wrap64 (x1_1 + 1)) (wrap64 (x1_1 + 1)) 1 ji44) = some (r1, r2) := by first | (rw [hji44] at H; exact H) | (simp only [hji44] at H ⊢; exact H)
           (try rw [hji44] at A41)
           have hji44_ : (if 1099511627776 < (wrap64 ((wrap64 (x8_1 * 10)) + (((bt a0 x1_1) - 48) % 256))) then 1099511627776 else (wrap64 ((wrap64 (x8_1 * 10)) + (((bt a0 x1_1) - 48) % 256)))) = ji44 := hji44
           have H' := Aside0.mk H
           clear H
           have p40 : 0 ≤ (x1_1 : Int) := of_decide_eq_true qnu6_
           have q40 : x1_1 < (a0.size : Int) := of_decide_eq_true qnu6_
           have hx40 := bt_at a0 x1_1
           replace p40 := eq_true p40
           replace q40 := eq_true q40
           go_wp2_with (first | (go_at_call 68; (with_reducible refine (numeral_digit.calls (bt a0 x1_1) true _ A41.out).mono ?_); rintro e w' ⟨rfl, ⟨nd, rfl⟩⟩; have p43 : 0 ≤ (x1_1 : Int) := of_decide_eq_true qnu6_; have q43 : x1_1 < (a0.size : Int) := of_decide_eq_true qnu6_; have hx43 := bt_at a0 x1_1; replace p43 := eq_true p43; replace q43 := eq_true q43))
           go_roundg k1
           case measure => have := HK1.out; omega
           case rel => exact ⟨(wrap64 (x1_1 + 1)), (wrap64 (x1_1 + 1)), (ji44), qnu2_, qnu2_, (by first | rfl | (simp; done) | (simp only [← hji44] <;> (first | rfl | simp); done) | (simp [*]; done) | (simp; simp only [eq_iff_iff, iff_true] at *; omega) | (exfalso; simp_all; done)), H', ⟨by have := HK1.out; omega⟩, ⟨qnu1_⟩⟩
          ·
           replace c42 := Bool.eq_false_iff.mpr c42
           subst c42
           have H1 : (some (wrap64 (1 * x8_1), x6_1)) = some (r1, r2) := by rw [if_neg (show ¬ (false = true) by decide)] at H; exact H
           clear H
           have H := H1
           clear H1
           simp only [Option.some.injEq, Prod.mk.injEq] at H
           obtain ⟨rfl, rfl⟩ := H
           have p40 : 0 ≤ (x1_1 : Int) := of_decide_eq_true qnu6_
           have q40 : x1_1 < (a0.size : Int) := of_decide_eq_true qnu6_
           have hx40 := bt_at a0 x1_1
           replace p40 := eq_true p40
           replace q40 := eq_true q40
           go_wp2_with (first | (go_at_call 68; (with_reducible refine (numeral_digit.calls (bt a0 x1_1) false _ A41.out).mono ?_); rintro e w' ⟨rfl, ⟨nd, rfl⟩⟩))
           go_ret2
           exact ⟨qnu10_, qnu1_⟩
         ·
          rw [if_neg c39] at H
          exact absurd H (by simp)
        ·
         rw [if_neg c38] at H
         have c38b0 : decide (x1_1 < (a0.size : Int)) = false := decide_eq_false c38
         clear c38
         simp only [Option.some.injEq, Prod.mk.injEq] at H
         obtain ⟨rfl, rfl⟩ := H
         go_wp2
         go_ret2
         exact ⟨qnu10_, qnu1_⟩
    ·
     rw [if_neg c7] at H
     have c7b0 : ((Go.bits .or .u8 (bt a0 a1) 32) == 101) = false := beq_eq_false_iff_ne.mpr c7
     have c7b1 : ((Go.bits .or .u8 (bt a0 a1) 32) != 101) = true := bne_iff_ne.mpr c7
     simp only [Option.some.injEq, Prod.mk.injEq] at H
     obtain ⟨rfl, rfl⟩ := H
     have p6 : 0 ≤ (a1 : Int) := of_decide_eq_true qnu6_
     have q6 : a1 < (a0.size : Int) := of_decide_eq_true qnu6_
     have hx6 := bt_at a0 a1
     replace p6 := eq_true p6
     replace q6 := eq_true q6
     go_enter Tryd.func37, Tryd.ntmps37
     go_wp2
     go_ret2
     exact ⟨qnu10_, qnu1_⟩
   ·
    rw [if_neg c5] at H
    exact absurd H (by simp)
  ·
   rw [if_neg c4] at H
   exact absurd H (by simp)


/-! ### numeral_digits: function 38 -/
def numeral_digits.f (k : Nat) (a0 : ByteArray) (a1 : ByteArray) (a2 : Int) : Option (ByteArray × Int) := (strings_TrimLeft.f k a0 (⟨#[48]⟩ : ByteArray)).bind fun t141 => (if t141.toList = ([] : List UInt8) then ((strings_TrimLeft.f k a1 (⟨#[48]⟩ : ByteArray)).bind fun t142 => ((strings_TrimRight.f k t142 (⟨#[48]⟩ : ByteArray)).bind fun t143 => (if t143.toList = ([] : List UInt8) then (some ((⟨#[]⟩ : ByteArray), 0)) else (some (t143, wrap64 ((wrap64 ((t142.size : Int) - (a1.size : Int))) + a2)))))) else (if t141.size + a1.size ≤ 9223372036854775807 then ((strings_TrimRight.f k (t141 ++ a1) (⟨#[48]⟩ : ByteArray)).bind fun t144 => (if t144.toList = ([] : List UInt8) then (some ((⟨#[]⟩ : ByteArray), 0)) else (some (t144, wrap64 ((t141.size : Int) + a2))))) else (none)))
set_option maxHeartbeats 8000000 in
set_option maxRecDepth 100000 in
theorem numeral_digits.calls (k : Nat) (a0 : ByteArray) (a1 : ByteArray) (a2 : Int) (r1 : ByteArray) (r2 : Int) (w : World) (h : numeral_digits.f k a0 a1 a2 = some (r1, r2)) :
  Calls Tryd.prog 38 #[.string a0, .string a1, .int .i64 a2] w fun e w' => e = .returned (.tuple #[.string r1, .int .i64 r2]) ∧ Below w.heap.size w w' := by
 have HB := Aside0.mk (Below.refl w.heap.size w)
 have H : ((strings_TrimLeft.f k a0 (⟨#[48]⟩ : ByteArray)).bind fun t141 => (if t141.toList = ([] : List UInt8) then ((strings_TrimLeft.f k a1 (⟨#[48]⟩ : ByteArray)).bind fun t142 => ((strings_TrimRight.f k t142 (⟨#[48]⟩ : ByteArray)).bind fun t143 => (if t143.toList = ([] : List UInt8) then (some ((⟨#[]⟩ : ByteArray), 0)) else (some (t143, wrap64 ((wrap64 ((t142.size : Int) - (a1.size : Int))) + a2)))))) else (if t141.size + a1.size ≤ 9223372036854775807 then ((strings_TrimRight.f k (t141 ++ a1) (⟨#[48]⟩ : ByteArray)).bind fun t144 => (if t144.toList = ([] : List UInt8) then (some ((⟨#[]⟩ : ByteArray), 0)) else (some (t144, wrap64 ((t141.size : Int) + a2))))) else (none)))) = some (r1, r2) := h
 clear h
 replace H := Option.bind_eq_some_iff.mp H
 obtain ⟨t141, A40, H⟩ := H
 replace H : (if t141.toList = ([] : List UInt8) then ((strings_TrimLeft.f k a1 (⟨#[48]⟩ : ByteArray)).bind fun t142 => ((strings_TrimRight.f k t142 (⟨#[48]⟩ : ByteArray)).bind fun t143 => (if t143.toList = ([] : List UInt8) then (some ((⟨#[]⟩ : ByteArray), 0)) else (some (t143, wrap64 ((wrap64 ((t142.size : Int) - (a1.size : Int))) + a2)))))) else (if t141.size + a1.size ≤ 9223372036854775807 then ((strings_TrimRight.f k (t141 ++ a1) (⟨#[48]⟩ : ByteArray)).bind fun t144 => (if t144.toList = ([] : List UInt8) then (some ((⟨#[]⟩ : ByteArray), 0)) else (some (t144, wrap64 ((t141.size : Int) + a2))))) else (none))) = some (r1, r2) := H
 have A4 := Aside0.mk A40
 clear A40
 by_cases c5 : t141.toList = ([] : List UInt8)
 ·
  rw [if_pos c5] at H
  have c5b0 : (t141.toList == ([] : List UInt8)) = true := beq_iff_eq.mpr c5
  have c5b1 : (t141.toList != ([] : List UInt8)) = false := bne_eq_false_iff_eq.mpr c5
  clear c5
  replace H := Option.bind_eq_some_iff.mp H
  obtain ⟨t142, A60, H⟩ := H
  replace H : ((strings_TrimRight.f k t142 (⟨#[48]⟩ : ByteArray)).bind fun t143 => (if t143.toList = ([] : List UInt8) then (some ((⟨#[]⟩ : ByteArray), 0)) else (some (t143, wrap64 ((wrap64 ((t142.size : Int) - (a1.size : Int))) + a2))))) = some (r1, r2) := H
  have A6 := Aside0.mk A60
  clear A60
  replace H := Option.bind_eq_some_iff.mp H
  obtain ⟨t143, A70, H⟩ := H
  replace H : (if t143.toList = ([] : List UInt8) then (some ((⟨#[]⟩ : ByteArray), 0)) else (some (t143, wrap64 ((wrap64 ((t142.size : Int) - (a1.size : Int))) + a2)))) = some (r1, r2) := H
  have A7 := Aside0.mk A70
  clear A70
  by_cases c8 : t143.toList = ([] : List UInt8)
  ·
   rw [if_pos c8] at H
   have c8b0 : (t143.toList == ([] : List UInt8)) = true := beq_iff_eq.mpr c8
   have c8b1 : (t143.toList != ([] : List UInt8)) = false := bne_eq_false_iff_eq.mpr c8
   clear c8
   simp only [Option.some.injEq, Prod.mk.injEq] at H
   obtain ⟨rfl, rfl⟩ := H
   go_enter Tryd.func38, Tryd.ntmps38
   have tk12 : True := trivial; have tk13 : True := trivial; have tk14 : True := trivial
   go_wp2_with (first | (have ztk12 := tk12; clear tk12 ztk12; (with_reducible refine gate_callee (f := 66) rfl ?_); refine goesL_ (some 12) rfl rfl Tryd.func66 (by kernel_rfl) rfl #[.string a0, .string (⟨#[48]⟩ : ByteArray)] rfl qnu0_ ?_; (with_reducible refine (strings_TrimLeft.calls k a0 (⟨#[48]⟩ : ByteArray) t141 _ A4.out).mono ?_); rintro e w9 ⟨rfl, hb⟩; refine ⟨_, rfl, ?_⟩; have n0_ := Aside0.mk (below_step qnu1_ hb); clear HB; have HB := n0_; clear n0_; (try clear hb); (try clear hb2); (try clear hk); (try clear hi)) | (have ztk13 := tk13; clear tk13 ztk13; (with_reducible refine gate_callee (f := 66) rfl ?_); refine goesL_ (some 18) rfl rfl Tryd.func66 (by kernel_rfl) rfl #[.string a1, .string (⟨#[48]⟩ : ByteArray)] rfl qnu0_ ?_; (with_reducible refine (strings_TrimLeft.calls k a1 (⟨#[48]⟩ : ByteArray) t142 _ A6.out).mono ?_); rintro e w10 ⟨rfl, hb⟩; refine ⟨_, rfl, ?_⟩; have n0_ := Aside0.mk (below_step qnu1_ hb); clear HB; have HB := n0_; clear n0_; (try clear hb); (try clear hb2); (try clear hk); (try clear hi)) | (have ztk14 := tk14; clear tk14 ztk14; (with_reducible refine gate_callee (f := 67) rfl ?_); refine goesL_ (some 29) rfl rfl Tryd.func67 (by kernel_rfl) rfl #[.string t142, .string (⟨#[48]⟩ : ByteArray)] rfl qnu0_ ?_; (with_reducible refine (strings_TrimRight.calls k t142 (⟨#[48]⟩ : ByteArray) t143 _ A7.out).mono ?_); rintro e w11 ⟨rfl, hb⟩; refine ⟨_, rfl, ?_⟩; have n0_ := Aside0.mk (below_step qnu1_ hb); clear HB; have HB := n0_; clear n0_; (try clear hb); (try clear hb2); (try clear hk); (try clear hi)))
   go_ret2
   exact ⟨qnu10_, qnu1_⟩
  ·
   rw [if_neg c8] at H
   have c8b0 : (t143.toList == ([] : List UInt8)) = false := beq_eq_false_iff_ne.mpr c8
   have c8b1 : (t143.toList != ([] : List UInt8)) = true := bne_iff_ne.mpr c8
   simp only [Option.some.injEq, Prod.mk.injEq] at H
   obtain ⟨rfl, rfl⟩ := H
   go_enter Tryd.func38, Tryd.ntmps38
   have tk18 : True := trivial; have tk19 : True := trivial; have tk20 : True := trivial
   go_wp2_with (first | (have ztk18 := tk18; clear tk18 ztk18; (with_reducible refine gate_callee (f := 66) rfl ?_); refine goesL_ (some 12) rfl rfl Tryd.func66 (by kernel_rfl) rfl #[.string a0, .string (⟨#[48]⟩ : ByteArray)] rfl qnu0_ ?_; (with_reducible refine (strings_TrimLeft.calls k a0 (⟨#[48]⟩ : ByteArray) t141 _ A4.out).mono ?_); rintro e w15 ⟨rfl, hb⟩; refine ⟨_, rfl, ?_⟩; have n0_ := Aside0.mk (below_step qnu1_ hb); clear HB; have HB := n0_; clear n0_; (try clear hb); (try clear hb2); (try clear hk); (try clear hi)) | (have ztk19 := tk19; clear tk19 ztk19; (with_reducible refine gate_callee (f := 66) rfl ?_); refine goesL_ (some 18) rfl rfl Tryd.func66 (by kernel_rfl) rfl #[.string a1, .string (⟨#[48]⟩ : ByteArray)] rfl qnu0_ ?_; (with_reducible refine (strings_TrimLeft.calls k a1 (⟨#[48]⟩ : ByteArray) t142 _ A6.out).mono ?_); rintro e w16 ⟨rfl, hb⟩; refine ⟨_, rfl, ?_⟩; have n0_ := Aside0.mk (below_step qnu1_ hb); clear HB; have HB := n0_; clear n0_; (try clear hb); (try clear hb2); (try clear hk); (try clear hi)) | (have ztk20 := tk20; clear tk20 ztk20; (with_reducible refine gate_callee (f := 67) rfl ?_); refine goesL_ (some 29) rfl rfl Tryd.func67 (by kernel_rfl) rfl #[.string t142, .string (⟨#[48]⟩ : ByteArray)] rfl qnu0_ ?_; (with_reducible refine (strings_TrimRight.calls k t142 (⟨#[48]⟩ : ByteArray) t143 _ A7.out).mono ?_); rintro e w17 ⟨rfl, hb⟩; refine ⟨_, rfl, ?_⟩; have n0_ := Aside0.mk (below_step qnu1_ hb); clear HB; have HB := n0_; clear n0_; (try clear hb); (try clear hb2); (try clear hk); (try clear hi)))
   go_ret2
   exact ⟨qnu10_, qnu1_⟩
 ·
  rw [if_neg c5] at H
  have c5b0 : (t141.toList == ([] : List UInt8)) = false := beq_eq_false_iff_ne.mpr c5
  have c5b1 : (t141.toList != ([] : List UInt8)) = true := bne_iff_ne.mpr c5
  by_cases c21 : t141.size + a1.size ≤ 9223372036854775807
  ·
   rw [if_pos c21] at H
   have c21b0 := eq_true c21
   have c21b1 : decide (t141.size + a1.size ≤ 9223372036854775807) = true := decide_eq_true c21
   try have c21b2 : (9223372036854775807 < t141.size + a1.size) = False := eq_false (Nat.not_lt.2 c21)
   replace H := Option.bind_eq_some_iff.mp H
   obtain ⟨t144, A220, H⟩ := H
   replace H : (if t144.toList = ([] : List UInt8) then (some ((⟨#[]⟩ : ByteArray), 0)) else (some (t144, wrap64 ((t141.size : Int) + a2)))) = some (r1, r2) := H
   have A22 := Aside0.mk A220
   clear A220
   by_cases c23 : t144.toList = ([] : List UInt8)
   ·
    rw [if_pos c23] at H
    have c23b0 : (t144.toList == ([] : List UInt8)) = true := beq_iff_eq.mpr c23
    have c23b1 : (t144.toList != ([] : List UInt8)) = false := bne_eq_false_iff_eq.mpr c23
    clear c23
    simp only [Option.some.injEq, Prod.mk.injEq] at H
    obtain ⟨rfl, rfl⟩ := H
    go_enter Tryd.func38, Tryd.ntmps38
    have tk26 : True := trivial; have tk27 : True := trivial
    go_wp2_with (first | (have ztk26 := tk26; clear tk26 ztk26; (with_reducible refine gate_callee (f := 66) rfl ?_); refine goesL_ (some 12) rfl rfl Tryd.func66 (by kernel_rfl) rfl #[.string a0, .string (⟨#[48]⟩ : ByteArray)] rfl qnu0_ ?_; (with_reducible refine (strings_TrimLeft.calls k a0 (⟨#[48]⟩ : ByteArray) t141 _ A4.out).mono ?_); rintro e w24 ⟨rfl, hb⟩; refine ⟨_, rfl, ?_⟩; have n0_ := Aside0.mk (below_step qnu1_ hb); clear HB; have HB := n0_; clear n0_; (try clear hb); (try clear hb2); (try clear hk); (try clear hi)) | (have ztk27 := tk27; clear tk27 ztk27; (with_reducible refine gate_callee (f := 67) rfl ?_); refine goesL_ (some 29) rfl rfl Tryd.func67 (by kernel_rfl) rfl #[.string (t141 ++ a1), .string (⟨#[48]⟩ : ByteArray)] rfl qnu0_ ?_; (with_reducible refine (strings_TrimRight.calls k (t141 ++ a1) (⟨#[48]⟩ : ByteArray) t144 _ A22.out).mono ?_); rintro e w25 ⟨rfl, hb⟩; refine ⟨_, rfl, ?_⟩; have n0_ := Aside0.mk (below_step qnu1_ hb); clear HB; have HB := n0_; clear n0_; (try clear hb); (try clear hb2); (try clear hk); (try clear hi)))
    go_ret2
    exact ⟨qnu10_, qnu1_⟩
   ·
    rw [if_neg c23] at H
    have c23b0 : (t144.toList == ([] : List UInt8)) = false := beq_eq_false_iff_ne.mpr c23
    have c23b1 : (t144.toList != ([] : List UInt8)) = true := bne_iff_ne.mpr c23
    simp only [Option.some.injEq, Prod.mk.injEq] at H
    obtain ⟨rfl, rfl⟩ := H
    go_enter Tryd.func38, Tryd.ntmps38
    have tk30 : True := trivial; have tk31 : True := trivial
    go_wp2_with (first | (have ztk30 := tk30; clear tk30 ztk30; (with_reducible refine gate_callee (f := 66) rfl ?_); refine goesL_ (some 12) rfl rfl Tryd.func66 (by kernel_rfl) rfl #[.string a0, .string (⟨#[48]⟩ : ByteArray)] rfl qnu0_ ?_; (with_reducible refine (strings_TrimLeft.calls k a0 (⟨#[48]⟩ : ByteArray) t141 _ A4.out).mono ?_); rintro e w28 ⟨rfl, hb⟩; refine ⟨_, rfl, ?_⟩; have n0_ := Aside0.mk (below_step qnu1_ hb); clear HB; have HB := n0_; clear n0_; (try clear hb); (try clear hb2); (try clear hk); (try clear hi)) | (have ztk31 := tk31; clear tk31 ztk31; (with_reducible refine gate_callee (f := 67) rfl ?_); refine goesL_ (some 29) rfl rfl Tryd.func67 (by kernel_rfl) rfl #[.string (t141 ++ a1), .string (⟨#[48]⟩ : ByteArray)] rfl qnu0_ ?_; (with_reducible refine (strings_TrimRight.calls k (t141 ++ a1) (⟨#[48]⟩ : ByteArray) t144 _ A22.out).mono ?_); rintro e w29 ⟨rfl, hb⟩; refine ⟨_, rfl, ?_⟩; have n0_ := Aside0.mk (below_step qnu1_ hb); clear HB; have HB := n0_; clear n0_; (try clear hb); (try clear hb2); (try clear hk); (try clear hi)))
    go_ret2
    exact ⟨qnu10_, qnu1_⟩
  ·
   rw [if_neg c21] at H
   exact absurd H (by simp)

end Go.Proofs.YtcdajedmlfhmeaaDoor.XN
