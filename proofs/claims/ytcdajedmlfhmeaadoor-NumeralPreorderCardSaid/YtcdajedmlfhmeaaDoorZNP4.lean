import Derived.Test.YtcdajedmlfhmeaaDoorZNP0
import Derived.Test.YtcdajedmlfhmeaaDoorZNP3
import Derived.Test.YtcdajedmlfhmeaaDoorZNP1
import Derived.Test.YtcdajedmlfhmeaaDoorZNP2
namespace Go.Proofs.YtcdajedmlfhmeaaDoor.XN
open Go.RowKit Go.Proofs.YtcdajedmlfhmeaaDoorW.PrintWords Go.Proofs.YtcdajedmlfhmeaaDoorW.PrintLast Go.Proofs.YtcdajedmlfhmeaaDoorW.PrintMore
attribute [local go_sem] max2_int min2_int max_two min_two max_three min_three max_four min_four
set_option linter.unusedVariables false
set_option linter.unusedSimpArgs false

/-! ### millref3_letter: function 40 -/
def millref3_letter.l0 : Nat → Int → Int → Option (Int)
 | 0, _, _ => none
 | k + 1, x0, x3 => if x3 < 10 then (if 0 ≤ x3 then (if (bt (⟨#[75, 77, 71, 84, 80, 69, 90, 89, 82, 81]⟩ : ByteArray) x3) = x0 then (some (wrap64 (x3 + 1))) else (millref3_letter.l0 k x0 (wrap64 (x3 + 1)))) else (none)) else (some 0)
def millref3_letter.f (k : Nat) (a0 : Int) : Option (Int) := if a0 = 107 then (some 1) else (millref3_letter.l0 k a0 0)
set_option maxHeartbeats 8000000 in
set_option maxRecDepth 100000 in
theorem millref3_letter.calls (k : Nat) (a0 : Int) (r : Int) (w : World) (h : millref3_letter.f k a0 = some r) :
  Calls Tryd.prog 40 #[.int .u8 a0] w fun e w' => e = .returned (.int .i64 r) ∧ Drawn0 w w' := by
 have H : (if a0 = 107 then (some 1) else (millref3_letter.l0 k a0 0)) = some r := h
 clear h
 by_cases c2 : a0 = 107
 ·
  rw [if_pos c2] at H
  have c2b0 : (a0 == 107) = true := beq_iff_eq.mpr c2
  have c2b1 : (a0 != 107) = false := bne_eq_false_iff_eq.mpr c2
  clear c2
  obtain rfl := Option.some.inj H
  go_enter Tryd.func40, Tryd.ntmps40
  go_wp2
  go_ret
  exact ⟨qnp2_, qnp4_⟩
 ·
  rw [if_neg c2] at H
  have c2b0 : (a0 == 107) = false := beq_eq_false_iff_ne.mpr c2
  have c2b1 : (a0 != 107) = true := bne_iff_ne.mpr c2
  have H' := Aside0.mk H
  clear H
  go_enter Tryd.func40, Tryd.ntmps40
  go_wp2
  go_loopg [3] k (fun kq v3 w' => ∃ (x3_1 : Int), v3 = .int .i64 x3_1 ∧ Aside0 (millref3_letter.l0 kq a0 x3_1 = some r) ∧ Aside0 (kq ≤ k) ∧ Drawn0 w w')
  case atStart => exact ⟨(0), qnp2_, H', ⟨Nat.le_refl _⟩, qnp4_⟩
  case round =>
   clear H'
   (try clear c2); (try clear c2b0); (try clear c2b1); (try clear p2)
   obtain ⟨x3_1, rfl, HA, HK1, ⟨m1, rfl⟩⟩ := hrel
   cases gk with
   | zero => exact absurd HA.out (by simp [millref3_letter.l0])
   | succ k1 =>
    have H := HA.out
    clear HA
    simp only [millref3_letter.l0] at H
    by_cases c3 : x3_1 < 10
    ·
     rw [if_pos c3] at H
     have c3b0 : decide (x3_1 < 10) = true := decide_eq_true c3
     clear c3
     by_cases c4 : 0 ≤ x3_1
     ·
      rw [if_pos c4] at H
      have c4b0 : decide (0 ≤ x3_1) = true := decide_eq_true c4
      clear c4
      by_cases c6 : (bt (⟨#[75, 77, 71, 84, 80, 69, 90, 89, 82, 81]⟩ : ByteArray) x3_1) = a0
      ·
       rw [if_pos c6] at H
       have c6b0 : ((bt (⟨#[75, 77, 71, 84, 80, 69, 90, 89, 82, 81]⟩ : ByteArray) x3_1) == a0) = true := beq_iff_eq.mpr c6
       have c6b1 : ((bt (⟨#[75, 77, 71, 84, 80, 69, 90, 89, 82, 81]⟩ : ByteArray) x3_1) != a0) = false := bne_eq_false_iff_eq.mpr c6
       clear c6
       obtain rfl := Option.some.inj H
       have p5 : 0 ≤ (x3_1 : Int) := of_decide_eq_true qnp3_
       have q5 : x3_1 < (10 : Int) := of_decide_eq_true qnp3_
       have hx5 := bt_at (⟨#[75, 77, 71, 84, 80, 69, 90, 89, 82, 81]⟩ : ByteArray) x3_1
       replace p5 := eq_true p5
       replace q5 := eq_true q5
       go_wp2
       go_ret
       exact ⟨qnp2_, qnp4_⟩
      ·
       rw [if_neg c6] at H
       have c6b0 : ((bt (⟨#[75, 77, 71, 84, 80, 69, 90, 89, 82, 81]⟩ : ByteArray) x3_1) == a0) = false := beq_eq_false_iff_ne.mpr c6
       have c6b1 : ((bt (⟨#[75, 77, 71, 84, 80, 69, 90, 89, 82, 81]⟩ : ByteArray) x3_1) != a0) = true := bne_iff_ne.mpr c6
       have H' := Aside0.mk H
       clear H
       have p5 : 0 ≤ (x3_1 : Int) := of_decide_eq_true qnp3_
       have q5 : x3_1 < (10 : Int) := of_decide_eq_true qnp3_
       have hx5 := bt_at (⟨#[75, 77, 71, 84, 80, 69, 90, 89, 82, 81]⟩ : ByteArray) x3_1
       replace p5 := eq_true p5
       replace q5 := eq_true q5
       go_wp2
       go_roundg k1
       case measure => have := HK1.out; omega
       case rel => exact ⟨(wrap64 (x3_1 + 1)), qnp2_, H', ⟨by have := HK1.out; omega⟩, qnp4_⟩
     ·
      rw [if_neg c4] at H
      exact absurd H (by simp)
    ·
     rw [if_neg c3] at H
     have c3b0 : decide (x3_1 < 10) = false := decide_eq_false c3
     clear c3
     obtain rfl := Option.some.inj H
     go_wp2
     go_ret
     exact ⟨qnp2_, qnp4_⟩


/-! ### millref3_Human: function 21 -/
mutual
def millref3_Human.j0 : Nat → ByteArray → Int → Bool → Bool → ByteArray → ByteArray → Int → Option (Bool × ByteArray × ByteArray × Int × Int)
 | 0, _, _, _, _, _, _, _ => none
 | k + 1, x0, x5, x17, x221000, x221001, x221002, x221003 => if x17 = true then (if 0 ≤ x221003 then (if x221003 < (x0.size : Int) then ((millref3_letter.f k (bt x0 x221003)).bind fun t221 => (millref3_Human.j1 k t221 x221000 x221001 x221002 x221003)) else (none)) else (none)) else (millref3_Human.j1 k x5 x221000 x221001 x221002 x221003)
def millref3_Human.j1 : Nat → Int → Bool → ByteArray → ByteArray → Int → Option (Bool × ByteArray × ByteArray × Int × Int)
 | 0, _, _, _, _, _ => none
 | k + 1, x5, x221000, x221001, x221002, x221003 => if x5 > 0 then (if x221001.size + x221002.size ≤ 9223372036854775807 then (if (x221001 ++ x221002).toList = ([] : List UInt8) then (some (x221000, x221001, x221002, wrap64 (x221003 + 1), 0)) else (some (x221000, x221001, x221002, wrap64 (x221003 + 1), x5))) else (none)) else (if x221001.size + x221002.size ≤ 9223372036854775807 then (if (x221001 ++ x221002).toList = ([] : List UInt8) then (some (x221000, x221001, x221002, x221003, 0)) else (some (x221000, x221001, x221002, x221003, x5))) else (none))
end
def millref3_Human.f (k : Nat) (a0 : ByteArray) : Option (Bool × ByteArray × ByteArray × Int × Int) := (millref3_Decimal.f k a0).bind fun bt216 => (if bt216.2.2.2 > 0 then (millref3_Human.j0 k a0 0 (decide (bt216.2.2.2 < (a0.size : Int))) bt216.1 bt216.2.1 bt216.2.2.1 bt216.2.2.2) else (millref3_Human.j0 k a0 0 false bt216.1 bt216.2.1 bt216.2.2.1 bt216.2.2.2))
set_option maxHeartbeats 8000000 in
set_option maxRecDepth 100000 in
theorem millref3_Human.calls (k : Nat) (a0 : ByteArray) (r1 : Bool) (r2 : ByteArray) (r3 : ByteArray) (r4 : Int) (r5 : Int) (w : World) (h : millref3_Human.f k a0 = some (r1, r2, r3, r4, r5)) :
  Calls Tryd.prog 21 #[.string a0] w fun e w' => e = .returned (.tuple #[.agg #[.bool r1, .string r2, .string r3, .int .i64 r4], .int .i64 r5]) ∧ Below w.heap.size w w' := by
 have hu25 := Tryd.underlying25
 have HB := Aside0.mk (Below.refl w.heap.size w)
 have H : ((millref3_Decimal.f k a0).bind fun bt216 => (if bt216.2.2.2 > 0 then (millref3_Human.j0 k a0 0 (decide (bt216.2.2.2 < (a0.size : Int))) bt216.1 bt216.2.1 bt216.2.2.1 bt216.2.2.2) else (millref3_Human.j0 k a0 0 false bt216.1 bt216.2.1 bt216.2.2.1 bt216.2.2.2))) = some (r1, r2, r3, r4, r5) := h
 clear h
 replace H := Option.bind_eq_some_iff.mp H
 obtain ⟨⟨t216, t217, t218, t219⟩, A20, H⟩ := H
 replace H : (if t219 > 0 then (millref3_Human.j0 k a0 0 (decide (t219 < (a0.size : Int))) t216 t217 t218 t219) else (millref3_Human.j0 k a0 0 false t216 t217 t218 t219)) = some (r1, r2, r3, r4, r5) := H
 have A2 := Aside0.mk A20
 clear A20
 have HC3 := Aside0.mk H
 clear H
 go_enter Tryd.func21, Tryd.ntmps21
 have tk9 : True := trivial; have tk10 : True := trivial; have tk11 : True := trivial
 go_upto_region 3 with (first | (have ztk9 := tk9; clear tk9 ztk9; (with_reducible refine gate_dst (N := 2) rfl ?_); (try (refine gate_guard (by rfl) ?_; dsimp only)); refine box_event ?hg (N := 2) ?hd (cs := #[.bool false, .string (⟨#[]⟩ : ByteArray), .string (⟨#[]⟩ : ByteArray), .int .i64 0]) (t := 25) ?hr ?_; (case hd => rfl); (case hg => rfl); (case hr => first | (go_simp; done) | (go_simp; rfl)); intro gb215 hg w4 hbox hb; have n0_ := Aside0.mk (below_step qnp1_ hb); have n1_ := Aside0.mk (hbox); have n2_ := Aside0.mk ((by rw [hg]; exact (below_size qnp1_) : w.heap.size ≤ gb215)); have n3_ := Aside0.mk ((by rw [hg]; exact (below_size qnp1_) : w.heap.size ≤ gb215)); clear HB; have HB := n0_; have BK215 := n1_; have GW215 := n2_; have GE215 := n3_; clear n0_ n1_ n2_ n3_; clear hb hbox hg) | (have ztk10 := tk10; clear tk10 ztk10; (with_reducible refine gate_callee (f := 22) rfl ?_); refine goesL_ (some 7) rfl rfl Tryd.func22 (by kernel_rfl) rfl #[.string a0] rfl qnp0_ ?_; (with_reducible refine (millref3_Decimal.calls k a0 t216 t217 t218 t219 _ A2.out).mono ?_); rintro e w5 ⟨rfl, hb⟩; refine ⟨_, rfl, ?_⟩; have n0_ := Aside0.mk (blk_below (g := gb215) (o := .cells #[.bool false, .string (⟨#[]⟩ : ByteArray), .string (⟨#[]⟩ : ByteArray), .int .i64 0] 25 (0, 0)) qnp55_ hb); have n1_ := Aside0.mk (below_step qnp59_ hb); clear BK215; clear HB; have BK215 := n0_; have HB := n1_; clear n0_ n1_; (try clear hb); (try clear hb2); (try clear hk); (try clear hi)) | (have ztk11 := tk11; clear tk11 ztk11; (with_reducible refine gate_dst (N := 4) rfl ?_); (try (refine gate_guard (by rfl) ?_; dsimp only)); refine box_event ?hg (N := 4) ?hd (cs := #[.bool false, .string (⟨#[]⟩ : ByteArray), .string (⟨#[]⟩ : ByteArray), .int .i64 0]) (t := 25) ?hr ?_; (case hd => rfl); (case hg => rfl); (case hr => first | (go_simp; done) | (go_simp; rfl)); intro gb220 hg w6 hbox hb; have n0_ := Aside0.mk (blk_below (g := gb215) (o := .cells #[.bool false, .string (⟨#[]⟩ : ByteArray), .string (⟨#[]⟩ : ByteArray), .int .i64 0] 25 (0, 0)) qnp55_ hb); have n1_ := Aside0.mk (below_step qnp59_ hb); have n2_ := Aside0.mk (hbox); have n3_ := Aside0.mk ((by rw [hg]; exact (below_size qnp59_) : w.heap.size ≤ gb220)); have n4_ := Aside0.mk ((by rw [hg]; exact (below_size qnp59_) : w.heap.size ≤ gb220)); have n5_ := Aside0.mk ((by rw [hg]; exact Nat.ne_of_lt (blk_lt (g := gb215) (o := .cells #[.bool false, .string (⟨#[]⟩ : ByteArray), .string (⟨#[]⟩ : ByteArray), .int .i64 0] 25 (0, 0)) qnp55_) : gb215 ≠ gb220)); have n6_ := Aside0.mk ((by rw [hg]; exact Nat.ne_of_gt (blk_lt (g := gb215) (o := .cells #[.bool false, .string (⟨#[]⟩ : ByteArray), .string (⟨#[]⟩ : ByteArray), .int .i64 0] 25 (0, 0)) qnp55_) : gb220 ≠ gb215)); clear BK215; clear HB; have BK215 := n0_; have HB := n1_; have BK220 := n2_; have GW220 := n3_; have GE220 := n4_; have NB215_220 := n5_; have NB220_215 := n6_; clear n0_ n1_ n2_ n3_ n4_ n5_ n6_; clear hb hbox hg; have hnb7 := NB220_215.out; have hnc7 := NB215_220.out; have hcz8_0 : w6.cell? ⟨gb220, 0, none⟩ = some (.bool false) := (blk_cell BK220.out 0).trans rfl; have hcz8_1 : w6.cell? ⟨gb220, 1, none⟩ = some (.string (⟨#[]⟩ : ByteArray)) := (blk_cell BK220.out 1).trans rfl; have hcz8_2 : w6.cell? ⟨gb220, 2, none⟩ = some (.string (⟨#[]⟩ : ByteArray)) := (blk_cell BK220.out 2).trans rfl; have hcz8_3 : w6.cell? ⟨gb220, 3, none⟩ = some (.int .i64 0) := (blk_cell BK220.out 3).trans rfl; have hfz8_0 := blk_frozen BK220.out 0; have hfz8_1 := blk_frozen BK220.out 1; have hfz8_2 := blk_frozen BK220.out 2; have hfz8_3 := blk_frozen BK220.out 3))
 (try simp only [Act.put, List.setIfInBounds_toArray, List.set_cons_zero, List.set_cons_succ])
 go_cut [17] (fun v17 wc => ∃ (kq : Nat) (x17_2 : Bool), v17 = .bool x17_2 ∧ Aside0 (millref3_Human.j0 kq a0 0 x17_2 t216 t217 t218 t219 = some (r1, r2, r3, r4, r5)) ∧ Aside0 (kq ≤ k) ∧ Aside0 (wc.heap[gb215]? = some (.cells #[.bool false, .string (⟨#[]⟩ : ByteArray), .string (⟨#[]⟩ : ByteArray), .int .i64 0] 25 (0, 0))) ∧ Aside0 (wc.heap[gb220]? = some (.cells #[.bool t216, .string t217, .string t218, .int .i64 t219] 25 (0, 0))) ∧ Aside0 (Below w.heap.size w wc))
 case first =>
  have H := HC3.out
  clear HC3
  by_cases c12 : t219 > 0
  ·
   rw [if_pos c12] at H
   have c12b0 : decide (0 < t219) = true := decide_eq_true c12
   clear c12
   (first | rw [c12b0] | (simp only [i64_w, i32_w]; rw [c12b0]) | skip)
   have H' := Aside0.mk H
   clear H
   have hnb13 := NB220_215.out
   have hnc13 := NB215_220.out
   have hcz14_0 : w6.cell? ⟨gb220, 0, none⟩ = some (.bool false) := (blk_cell BK220.out 0).trans rfl
   have hcz14_1 : w6.cell? ⟨gb220, 1, none⟩ = some (.string (⟨#[]⟩ : ByteArray)) := (blk_cell BK220.out 1).trans rfl
   have hcz14_2 : w6.cell? ⟨gb220, 2, none⟩ = some (.string (⟨#[]⟩ : ByteArray)) := (blk_cell BK220.out 2).trans rfl
   have hcz14_3 : w6.cell? ⟨gb220, 3, none⟩ = some (.int .i64 0) := (blk_cell BK220.out 3).trans rfl
   have hfz14_0 := blk_frozen BK220.out 0
   have hfz14_1 := blk_frozen BK220.out 1
   have hfz14_2 := blk_frozen BK220.out 2
   have hfz14_3 := blk_frozen BK220.out 3
   go_wp2
   go_meet
   case rel => exact ⟨_, (decide (t219 < (a0.size : Int))), qnp2_, H', ⟨by first | omega | exact Nat.le_refl _⟩, ⟨by (with_reducible repeat (first | refine blk_drewN ?_ _ | refine blk_drew ?_ | refine blk_alloc ?_ _)); refine blk_far ?_ NB215_220.out _; (with_reducible repeat (first | refine blk_drewN ?_ _ | refine blk_drew ?_ | refine blk_alloc ?_ _)); refine blk_far ?_ NB215_220.out _; (with_reducible repeat (first | refine blk_drewN ?_ _ | refine blk_drew ?_ | refine blk_alloc ?_ _)); refine blk_far ?_ NB215_220.out _; (with_reducible repeat (first | refine blk_drewN ?_ _ | refine blk_drew ?_ | refine blk_alloc ?_ _)); refine blk_far ?_ NB215_220.out _; (with_reducible repeat (first | refine blk_drewN ?_ _ | refine blk_drew ?_ | refine blk_alloc ?_ _)); exact BK215.out⟩, ⟨by (with_reducible repeat (first | refine blk_drewN ?_ _ | refine blk_drew ?_ | refine blk_alloc ?_ _)); refine blk_put (cs := #[.bool t216, .string t217, .string t218, .int .i64 0]) ?_ 3 _ rfl; (with_reducible repeat (first | refine blk_drewN ?_ _ | refine blk_drew ?_ | refine blk_alloc ?_ _)); refine blk_put (cs := #[.bool t216, .string t217, .string (⟨#[]⟩ : ByteArray), .int .i64 0]) ?_ 2 _ rfl; (with_reducible repeat (first | refine blk_drewN ?_ _ | refine blk_drew ?_ | refine blk_alloc ?_ _)); refine blk_put (cs := #[.bool t216, .string (⟨#[]⟩ : ByteArray), .string (⟨#[]⟩ : ByteArray), .int .i64 0]) ?_ 1 _ rfl; (with_reducible repeat (first | refine blk_drewN ?_ _ | refine blk_drew ?_ | refine blk_alloc ?_ _)); refine blk_put (cs := #[.bool false, .string (⟨#[]⟩ : ByteArray), .string (⟨#[]⟩ : ByteArray), .int .i64 0]) ?_ 0 _ rfl; (with_reducible repeat (first | refine blk_drewN ?_ _ | refine blk_drew ?_ | refine blk_alloc ?_ _)); exact BK220.out⟩, ⟨qnp31_⟩⟩
  ·
   rw [if_neg c12] at H
   have c12b0 : decide (0 < t219) = false := decide_eq_false c12
   clear c12
   (first | rw [c12b0] | (simp only [i64_w, i32_w]; rw [c12b0]) | skip)
   have H' := Aside0.mk H
   clear H
   have hnb15 := NB220_215.out
   have hnc15 := NB215_220.out
   have hcz16_0 : w6.cell? ⟨gb220, 0, none⟩ = some (.bool false) := (blk_cell BK220.out 0).trans rfl
   have hcz16_1 : w6.cell? ⟨gb220, 1, none⟩ = some (.string (⟨#[]⟩ : ByteArray)) := (blk_cell BK220.out 1).trans rfl
   have hcz16_2 : w6.cell? ⟨gb220, 2, none⟩ = some (.string (⟨#[]⟩ : ByteArray)) := (blk_cell BK220.out 2).trans rfl
   have hcz16_3 : w6.cell? ⟨gb220, 3, none⟩ = some (.int .i64 0) := (blk_cell BK220.out 3).trans rfl
   have hfz16_0 := blk_frozen BK220.out 0
   have hfz16_1 := blk_frozen BK220.out 1
   have hfz16_2 := blk_frozen BK220.out 2
   have hfz16_3 := blk_frozen BK220.out 3
   go_wp2
   go_meet
   case rel => exact ⟨_, (false), qnp2_, H', ⟨by first | omega | exact Nat.le_refl _⟩, ⟨by (with_reducible repeat (first | refine blk_drewN ?_ _ | refine blk_drew ?_ | refine blk_alloc ?_ _)); refine blk_far ?_ NB215_220.out _; (with_reducible repeat (first | refine blk_drewN ?_ _ | refine blk_drew ?_ | refine blk_alloc ?_ _)); refine blk_far ?_ NB215_220.out _; (with_reducible repeat (first | refine blk_drewN ?_ _ | refine blk_drew ?_ | refine blk_alloc ?_ _)); refine blk_far ?_ NB215_220.out _; (with_reducible repeat (first | refine blk_drewN ?_ _ | refine blk_drew ?_ | refine blk_alloc ?_ _)); refine blk_far ?_ NB215_220.out _; (with_reducible repeat (first | refine blk_drewN ?_ _ | refine blk_drew ?_ | refine blk_alloc ?_ _)); exact BK215.out⟩, ⟨by (with_reducible repeat (first | refine blk_drewN ?_ _ | refine blk_drew ?_ | refine blk_alloc ?_ _)); refine blk_put (cs := #[.bool t216, .string t217, .string t218, .int .i64 0]) ?_ 3 _ rfl; (with_reducible repeat (first | refine blk_drewN ?_ _ | refine blk_drew ?_ | refine blk_alloc ?_ _)); refine blk_put (cs := #[.bool t216, .string t217, .string (⟨#[]⟩ : ByteArray), .int .i64 0]) ?_ 2 _ rfl; (with_reducible repeat (first | refine blk_drewN ?_ _ | refine blk_drew ?_ | refine blk_alloc ?_ _)); refine blk_put (cs := #[.bool t216, .string (⟨#[]⟩ : ByteArray), .string (⟨#[]⟩ : ByteArray), .int .i64 0]) ?_ 1 _ rfl; (with_reducible repeat (first | refine blk_drewN ?_ _ | refine blk_drew ?_ | refine blk_alloc ?_ _)); refine blk_put (cs := #[.bool false, .string (⟨#[]⟩ : ByteArray), .string (⟨#[]⟩ : ByteArray), .int .i64 0]) ?_ 0 _ rfl; (with_reducible repeat (first | refine blk_drewN ?_ _ | refine blk_drew ?_ | refine blk_alloc ?_ _)); exact BK220.out⟩, ⟨qnp31_⟩⟩
 case rest =>
  clear HC3
  (try clear c1); (try clear c2); (try clear p2); (try clear c7); (try clear c12); (try clear c12b0); (try clear c13); (try clear c15); (try clear hcz14_0); (try clear hcz14_1); (try clear hcz14_2); (try clear hcz14_3); (try clear hcz16_0); (try clear hcz16_1); (try clear hcz16_2); (try clear hcz16_3); (try clear hcz8_0); (try clear hcz8_1); (try clear hcz8_2); (try clear hcz8_3); (try clear hfz14_0)
  (try clear hfz14_1); (try clear hfz14_2); (try clear hfz14_3); (try clear hfz16_0); (try clear hfz16_1); (try clear hfz16_2); (try clear hfz16_3); (try clear hfz8_0); (try clear hfz8_1); (try clear hfz8_2); (try clear hfz8_3)
  obtain ⟨kq, x17_2, rfl, HA, HJ2, BK215, BK220, HB⟩ := hcut
  cases kq with
  | zero => exact absurd HA.out (by simp [millref3_Human.j0])
  | succ kj2 =>
   have H := HA.out
   clear HA
   simp only [millref3_Human.j0] at H
   have HC17 := Aside0.mk H
   clear H
   go_upto_if 17 with (fail)
   go_cut [5] (fun v5 wc => ∃ (kq : Nat) (x5_16 : Int), v5 = .int .i64 x5_16 ∧ Aside0 (millref3_Human.j1 kq x5_16 t216 t217 t218 t219 = some (r1, r2, r3, r4, r5)) ∧ Aside0 (kq ≤ kj2) ∧ Aside0 (wc.heap[gb215]? = some (.cells #[.bool false, .string (⟨#[]⟩ : ByteArray), .string (⟨#[]⟩ : ByteArray), .int .i64 0] 25 (0, 0))) ∧ Aside0 (wc.heap[gb220]? = some (.cells #[.bool t216, .string t217, .string t218, .int .i64 t219] 25 (0, 0))) ∧ Aside0 (Below w.heap.size w wc))
   case first =>
    have H := HC17.out
    clear HC17
    by_cases c18 : x17_2 = true
    ·
     subst c18
     have H1 : (if 0 ≤ t219 then (if t219 < (a0.size : Int) then ((millref3_letter.f kj2 (bt a0 t219)).bind fun t221 => (millref3_Human.j1 kj2 t221 t216 t217 t218 t219)) else (none)) else (none)) = some (r1, r2, r3, r4, r5) := by rw [if_pos rfl] at H; exact H
     clear H
     have H := H1
     clear H1
     by_cases c19 : 0 ≤ t219
     ·
      rw [if_pos c19] at H
      have c19b0 : decide (0 ≤ t219) = true := decide_eq_true c19
      clear c19
      (first | rw [c19b0] | (simp only [i64_w, i32_w]; rw [c19b0]) | skip)
      by_cases c20 : t219 < (a0.size : Int)
      ·
       rw [if_pos c20] at H
       have c20b0 : decide (t219 < (a0.size : Int)) = true := decide_eq_true c20
       clear c20
       replace H := Option.bind_eq_some_iff.mp H
       obtain ⟨t221, A220, H⟩ := H
       replace H : (millref3_Human.j1 kj2 t221 t216 t217 t218 t219) = some (r1, r2, r3, r4, r5) := H
       have A22 := Aside0.mk A220
       clear A220
       have H' := Aside0.mk H
       clear H
       have hnb23 := NB220_215.out
       have hnc23 := NB215_220.out
       have hcz24_0 : wc.cell? ⟨gb220, 0, none⟩ = some (.bool t216) := (blk_cell BK220.out 0).trans rfl
       have hcz24_1 : wc.cell? ⟨gb220, 1, none⟩ = some (.string t217) := (blk_cell BK220.out 1).trans rfl
       have hcz24_2 : wc.cell? ⟨gb220, 2, none⟩ = some (.string t218) := (blk_cell BK220.out 2).trans rfl
       have hcz24_3 : wc.cell? ⟨gb220, 3, none⟩ = some (.int .i64 t219) := (blk_cell BK220.out 3).trans rfl
       have hfz24_0 := blk_frozen BK220.out 0
       have hfz24_1 := blk_frozen BK220.out 1
       have hfz24_2 := blk_frozen BK220.out 2
       have hfz24_3 := blk_frozen BK220.out 3
       have p21 : 0 ≤ (t219 : Int) := of_decide_eq_true qnp3_
       have q21 : t219 < (a0.size : Int) := of_decide_eq_true qnp3_
       have hx21 := bt_at a0 t219
       replace p21 := eq_true p21
       replace q21 := eq_true q21
       go_wp2_with (first | ((with_reducible refine gate_callee (f := 40) rfl ?_); refine goesL_ (some 22) rfl rfl Tryd.func40 (by kernel_rfl) rfl #[.int .u8 (bt a0 t219)] rfl qnp0_ ?_; (with_reducible refine (millref3_letter.calls kj2 (bt a0 t219) t221 _ A22.out).mono ?_); rintro e w' ⟨rfl, ⟨nd, rfl⟩⟩; refine ⟨_, rfl, ?_⟩))
       go_meet
       case rel => exact ⟨_, (t221), qnp2_, H', ⟨by have := HJ2.out; first | omega | exact Nat.le_refl _⟩, ⟨qnp55_⟩, ⟨by (with_reducible repeat (first | refine blk_drewN ?_ _ | refine blk_drew ?_ | refine blk_alloc ?_ _)); exact BK220.out⟩, ⟨qnp31_⟩⟩
      ·
       rw [if_neg c20] at H
       exact absurd H (by simp)
     ·
      rw [if_neg c19] at H
      exact absurd H (by simp)
    ·
     replace c18 := Bool.eq_false_iff.mpr c18
     subst c18
     have H1 : (millref3_Human.j1 kj2 0 t216 t217 t218 t219) = some (r1, r2, r3, r4, r5) := by rw [if_neg (show ¬ (false = true) by decide)] at H; exact H
     clear H
     have H := H1
     clear H1
     have H' := Aside0.mk H
     clear H
     go_wp2
     go_meet
     case rel => exact ⟨_, (0), qnp2_, H', ⟨by have := HJ2.out; first | omega | exact Nat.le_refl _⟩, ⟨qnp55_⟩, ⟨by (with_reducible repeat (first | refine blk_drewN ?_ _ | refine blk_drew ?_ | refine blk_alloc ?_ _)); exact BK220.out⟩, ⟨qnp31_⟩⟩
   case rest =>
    clear HC17
    (try clear c1); (try clear c2); (try clear p2); (try clear q2); (try clear hx2); (try clear c4); (try clear c7); (try clear c12); (try clear c12b0); (try clear c13); (try clear c15); (try clear c18); (try clear c19); (try clear c19b0); (try clear c20); (try clear c20b0); (try clear c21); (try clear p21); (try clear q21); (try clear hx21); (try clear c22); (try clear c23); (try clear hcz14_0); (try clear hcz14_1)
    (try clear hcz14_2); (try clear hcz14_3); (try clear hcz16_0); (try clear hcz16_1); (try clear hcz16_2); (try clear hcz16_3); (try clear hcz24_0); (try clear hcz24_1); (try clear hcz24_2); (try clear hcz24_3); (try clear hcz8_0); (try clear hcz8_1); (try clear hcz8_2); (try clear hcz8_3); (try clear hfz14_0); (try clear hfz14_1); (try clear hfz14_2); (try clear hfz14_3); (try clear hfz16_0); (try clear hfz16_1)
    (try clear hfz16_2); (try clear hfz16_3); (try clear hfz24_0); (try clear hfz24_1); (try clear hfz24_2); (try clear hfz24_3); (try clear hfz8_0); (try clear hfz8_1); (try clear hfz8_2); (try clear hfz8_3); (try clear p2); (try clear p21); (try clear q21)
    obtain ⟨kq, x5_16, rfl, HA, HJ16, BK215, BK220, HB⟩ := hcut
    cases kq with
    | zero => exact absurd HA.out (by simp [millref3_Human.j1])
    | succ kj16 =>
     have H := HA.out
     clear HA
     simp only [millref3_Human.j1] at H
     by_cases c25 : x5_16 > 0
     ·
      rw [if_pos c25] at H
      have c25b0 : decide (0 < x5_16) = true := decide_eq_true c25
      clear c25
      by_cases c26 : t217.size + t218.size ≤ 9223372036854775807
      ·
       rw [if_pos c26] at H
       have c26b0 := eq_true c26
       have c26b1 : decide (t217.size + t218.size ≤ 9223372036854775807) = true := decide_eq_true c26
       try have c26b2 : (9223372036854775807 < t217.size + t218.size) = False := eq_false (Nat.not_lt.2 c26)
       by_cases c27 : (t217 ++ t218).toList = ([] : List UInt8)
       ·
        rw [if_pos c27] at H
        have c27b0 : ((t217 ++ t218).toList == ([] : List UInt8)) = true := beq_iff_eq.mpr c27
        have c27b1 : ((t217 ++ t218).toList != ([] : List UInt8)) = false := bne_eq_false_iff_eq.mpr c27
        clear c27
        simp only [Option.some.injEq, Prod.mk.injEq] at H
        obtain ⟨rfl, rfl, rfl, rfl, rfl⟩ := H
        have hnb28 := NB220_215.out
        have hnc28 := NB215_220.out
        have hcz29_0 : wc.cell? ⟨gb220, 0, none⟩ = some (.bool t216) := (blk_cell BK220.out 0).trans rfl
        have hcz29_1 : wc.cell? ⟨gb220, 1, none⟩ = some (.string t217) := (blk_cell BK220.out 1).trans rfl
        have hcz29_2 : wc.cell? ⟨gb220, 2, none⟩ = some (.string t218) := (blk_cell BK220.out 2).trans rfl
        have hcz29_3 : wc.cell? ⟨gb220, 3, none⟩ = some (.int .i64 t219) := (blk_cell BK220.out 3).trans rfl
        have hfz29_0 := blk_frozen BK220.out 0
        have hfz29_1 := blk_frozen BK220.out 1
        have hfz29_2 := blk_frozen BK220.out 2
        have hfz29_3 := blk_frozen BK220.out 3
        have hcz30_0 : wc.cell? ⟨gb215, 0, none⟩ = some (.bool false) := (blk_cell BK215.out 0).trans rfl
        have hcz30_1 : wc.cell? ⟨gb215, 1, none⟩ = some (.string (⟨#[]⟩ : ByteArray)) := (blk_cell BK215.out 1).trans rfl
        have hcz30_2 : wc.cell? ⟨gb215, 2, none⟩ = some (.string (⟨#[]⟩ : ByteArray)) := (blk_cell BK215.out 2).trans rfl
        have hcz30_3 : wc.cell? ⟨gb215, 3, none⟩ = some (.int .i64 0) := (blk_cell BK215.out 3).trans rfl
        have hfz30_0 := blk_frozen BK215.out 0
        have hfz30_1 := blk_frozen BK215.out 1
        have hfz30_2 := blk_frozen BK215.out 2
        have hfz30_3 := blk_frozen BK215.out 3
        go_wp2
        refine bodyPost_ret (results_ct rfl _ _ gb215 25 #[.bool t216, .string t217, .string t218, .int .i64 (wrap64 (t219 + 1))] (0, 0) _ rfl (by (with_reducible repeat (first | refine blk_drewN ?_ _ | refine blk_drew ?_ | refine blk_alloc ?_ _)); refine blk_put (cs := #[.bool t216, .string t217, .string t218, .int .i64 0]) ?_ 3 _ rfl; (with_reducible repeat (first | refine blk_drewN ?_ _ | refine blk_drew ?_ | refine blk_alloc ?_ _)); refine blk_put (cs := #[.bool t216, .string t217, .string (⟨#[]⟩ : ByteArray), .int .i64 0]) ?_ 2 _ rfl; (with_reducible repeat (first | refine blk_drewN ?_ _ | refine blk_drew ?_ | refine blk_alloc ?_ _)); refine blk_put (cs := #[.bool t216, .string (⟨#[]⟩ : ByteArray), .string (⟨#[]⟩ : ByteArray), .int .i64 0]) ?_ 1 _ rfl; (with_reducible repeat (first | refine blk_drewN ?_ _ | refine blk_drew ?_ | refine blk_alloc ?_ _)); refine blk_put (cs := #[.bool false, .string (⟨#[]⟩ : ByteArray), .string (⟨#[]⟩ : ByteArray), .int .i64 0]) ?_ 0 _ rfl; (with_reducible repeat (first | refine blk_drewN ?_ _ | refine blk_drew ?_ | refine blk_alloc ?_ _)); refine blk_far ?_ NB215_220.out _; (with_reducible repeat (first | refine blk_drewN ?_ _ | refine blk_drew ?_ | refine blk_alloc ?_ _)); exact BK215.out) Tryd.underlying25 rfl (by kernel_rfl)) rfl ?_
        exact ⟨qnp5_, qnp31_⟩
       ·
        rw [if_neg c27] at H
        have c27b0 : ((t217 ++ t218).toList == ([] : List UInt8)) = false := beq_eq_false_iff_ne.mpr c27
        have c27b1 : ((t217 ++ t218).toList != ([] : List UInt8)) = true := bne_iff_ne.mpr c27
        simp only [Option.some.injEq, Prod.mk.injEq] at H
        obtain ⟨rfl, rfl, rfl, rfl, rfl⟩ := H
        have hnb31 := NB220_215.out
        have hnc31 := NB215_220.out
        have hcz32_0 : wc.cell? ⟨gb220, 0, none⟩ = some (.bool t216) := (blk_cell BK220.out 0).trans rfl
        have hcz32_1 : wc.cell? ⟨gb220, 1, none⟩ = some (.string t217) := (blk_cell BK220.out 1).trans rfl
        have hcz32_2 : wc.cell? ⟨gb220, 2, none⟩ = some (.string t218) := (blk_cell BK220.out 2).trans rfl
        have hcz32_3 : wc.cell? ⟨gb220, 3, none⟩ = some (.int .i64 t219) := (blk_cell BK220.out 3).trans rfl
        have hfz32_0 := blk_frozen BK220.out 0
        have hfz32_1 := blk_frozen BK220.out 1
        have hfz32_2 := blk_frozen BK220.out 2
        have hfz32_3 := blk_frozen BK220.out 3
        have hcz33_0 : wc.cell? ⟨gb215, 0, none⟩ = some (.bool false) := (blk_cell BK215.out 0).trans rfl
        have hcz33_1 : wc.cell? ⟨gb215, 1, none⟩ = some (.string (⟨#[]⟩ : ByteArray)) := (blk_cell BK215.out 1).trans rfl
        have hcz33_2 : wc.cell? ⟨gb215, 2, none⟩ = some (.string (⟨#[]⟩ : ByteArray)) := (blk_cell BK215.out 2).trans rfl
        have hcz33_3 : wc.cell? ⟨gb215, 3, none⟩ = some (.int .i64 0) := (blk_cell BK215.out 3).trans rfl
        have hfz33_0 := blk_frozen BK215.out 0
        have hfz33_1 := blk_frozen BK215.out 1
        have hfz33_2 := blk_frozen BK215.out 2
        have hfz33_3 := blk_frozen BK215.out 3
        go_wp2
        refine bodyPost_ret (results_ct rfl _ _ gb215 25 #[.bool t216, .string t217, .string t218, .int .i64 (wrap64 (t219 + 1))] (0, 0) _ rfl (by (with_reducible repeat (first | refine blk_drewN ?_ _ | refine blk_drew ?_ | refine blk_alloc ?_ _)); refine blk_put (cs := #[.bool t216, .string t217, .string t218, .int .i64 0]) ?_ 3 _ rfl; (with_reducible repeat (first | refine blk_drewN ?_ _ | refine blk_drew ?_ | refine blk_alloc ?_ _)); refine blk_put (cs := #[.bool t216, .string t217, .string (⟨#[]⟩ : ByteArray), .int .i64 0]) ?_ 2 _ rfl; (with_reducible repeat (first | refine blk_drewN ?_ _ | refine blk_drew ?_ | refine blk_alloc ?_ _)); refine blk_put (cs := #[.bool t216, .string (⟨#[]⟩ : ByteArray), .string (⟨#[]⟩ : ByteArray), .int .i64 0]) ?_ 1 _ rfl; (with_reducible repeat (first | refine blk_drewN ?_ _ | refine blk_drew ?_ | refine blk_alloc ?_ _)); refine blk_put (cs := #[.bool false, .string (⟨#[]⟩ : ByteArray), .string (⟨#[]⟩ : ByteArray), .int .i64 0]) ?_ 0 _ rfl; (with_reducible repeat (first | refine blk_drewN ?_ _ | refine blk_drew ?_ | refine blk_alloc ?_ _)); refine blk_far ?_ NB215_220.out _; (with_reducible repeat (first | refine blk_drewN ?_ _ | refine blk_drew ?_ | refine blk_alloc ?_ _)); exact BK215.out) Tryd.underlying25 rfl (by kernel_rfl)) rfl ?_
        exact ⟨qnp5_, qnp31_⟩
      ·
       rw [if_neg c26] at H
       exact absurd H (by simp)
     ·
      rw [if_neg c25] at H
      have c25b0 : decide (0 < x5_16) = false := decide_eq_false c25
      clear c25
      by_cases c34 : t217.size + t218.size ≤ 9223372036854775807
      ·
       rw [if_pos c34] at H
       have c34b0 := eq_true c34
       have c34b1 : decide (t217.size + t218.size ≤ 9223372036854775807) = true := decide_eq_true c34
       try have c34b2 : (9223372036854775807 < t217.size + t218.size) = False := eq_false (Nat.not_lt.2 c34)
       by_cases c35 : (t217 ++ t218).toList = ([] : List UInt8)
       ·
        rw [if_pos c35] at H
        have c35b0 : ((t217 ++ t218).toList == ([] : List UInt8)) = true := beq_iff_eq.mpr c35
        have c35b1 : ((t217 ++ t218).toList != ([] : List UInt8)) = false := bne_eq_false_iff_eq.mpr c35
        clear c35
        simp only [Option.some.injEq, Prod.mk.injEq] at H
        obtain ⟨rfl, rfl, rfl, rfl, rfl⟩ := H
        have hnb36 := NB220_215.out
        have hnc36 := NB215_220.out
        have hcz37_0 : wc.cell? ⟨gb220, 0, none⟩ = some (.bool t216) := (blk_cell BK220.out 0).trans rfl
        have hcz37_1 : wc.cell? ⟨gb220, 1, none⟩ = some (.string t217) := (blk_cell BK220.out 1).trans rfl
        have hcz37_2 : wc.cell? ⟨gb220, 2, none⟩ = some (.string t218) := (blk_cell BK220.out 2).trans rfl
        have hcz37_3 : wc.cell? ⟨gb220, 3, none⟩ = some (.int .i64 t219) := (blk_cell BK220.out 3).trans rfl
        have hfz37_0 := blk_frozen BK220.out 0
        have hfz37_1 := blk_frozen BK220.out 1
        have hfz37_2 := blk_frozen BK220.out 2
        have hfz37_3 := blk_frozen BK220.out 3
        have hcz38_0 : wc.cell? ⟨gb215, 0, none⟩ = some (.bool false) := (blk_cell BK215.out 0).trans rfl
        have hcz38_1 : wc.cell? ⟨gb215, 1, none⟩ = some (.string (⟨#[]⟩ : ByteArray)) := (blk_cell BK215.out 1).trans rfl
        have hcz38_2 : wc.cell? ⟨gb215, 2, none⟩ = some (.string (⟨#[]⟩ : ByteArray)) := (blk_cell BK215.out 2).trans rfl
        have hcz38_3 : wc.cell? ⟨gb215, 3, none⟩ = some (.int .i64 0) := (blk_cell BK215.out 3).trans rfl
        have hfz38_0 := blk_frozen BK215.out 0
        have hfz38_1 := blk_frozen BK215.out 1
        have hfz38_2 := blk_frozen BK215.out 2
        have hfz38_3 := blk_frozen BK215.out 3
        go_wp2
        refine bodyPost_ret (results_ct rfl _ _ gb215 25 #[.bool t216, .string t217, .string t218, .int .i64 t219] (0, 0) _ rfl (by (with_reducible repeat (first | refine blk_drewN ?_ _ | refine blk_drew ?_ | refine blk_alloc ?_ _)); refine blk_put (cs := #[.bool t216, .string t217, .string t218, .int .i64 0]) ?_ 3 _ rfl; (with_reducible repeat (first | refine blk_drewN ?_ _ | refine blk_drew ?_ | refine blk_alloc ?_ _)); refine blk_put (cs := #[.bool t216, .string t217, .string (⟨#[]⟩ : ByteArray), .int .i64 0]) ?_ 2 _ rfl; (with_reducible repeat (first | refine blk_drewN ?_ _ | refine blk_drew ?_ | refine blk_alloc ?_ _)); refine blk_put (cs := #[.bool t216, .string (⟨#[]⟩ : ByteArray), .string (⟨#[]⟩ : ByteArray), .int .i64 0]) ?_ 1 _ rfl; (with_reducible repeat (first | refine blk_drewN ?_ _ | refine blk_drew ?_ | refine blk_alloc ?_ _)); refine blk_put (cs := #[.bool false, .string (⟨#[]⟩ : ByteArray), .string (⟨#[]⟩ : ByteArray), .int .i64 0]) ?_ 0 _ rfl; (with_reducible repeat (first | refine blk_drewN ?_ _ | refine blk_drew ?_ | refine blk_alloc ?_ _)); exact BK215.out) Tryd.underlying25 rfl (by kernel_rfl)) rfl ?_
        exact ⟨qnp5_, qnp31_⟩
       ·
        rw [if_neg c35] at H
        have c35b0 : ((t217 ++ t218).toList == ([] : List UInt8)) = false := beq_eq_false_iff_ne.mpr c35
        have c35b1 : ((t217 ++ t218).toList != ([] : List UInt8)) = true := bne_iff_ne.mpr c35
        simp only [Option.some.injEq, Prod.mk.injEq] at H
        obtain ⟨rfl, rfl, rfl, rfl, rfl⟩ := H
        have hnb39 := NB220_215.out
        have hnc39 := NB215_220.out
        have hcz40_0 : wc.cell? ⟨gb220, 0, none⟩ = some (.bool t216) := (blk_cell BK220.out 0).trans rfl
        have hcz40_1 : wc.cell? ⟨gb220, 1, none⟩ = some (.string t217) := (blk_cell BK220.out 1).trans rfl
        have hcz40_2 : wc.cell? ⟨gb220, 2, none⟩ = some (.string t218) := (blk_cell BK220.out 2).trans rfl
        have hcz40_3 : wc.cell? ⟨gb220, 3, none⟩ = some (.int .i64 t219) := (blk_cell BK220.out 3).trans rfl
        have hfz40_0 := blk_frozen BK220.out 0
        have hfz40_1 := blk_frozen BK220.out 1
        have hfz40_2 := blk_frozen BK220.out 2
        have hfz40_3 := blk_frozen BK220.out 3
        have hcz41_0 : wc.cell? ⟨gb215, 0, none⟩ = some (.bool false) := (blk_cell BK215.out 0).trans rfl
        have hcz41_1 : wc.cell? ⟨gb215, 1, none⟩ = some (.string (⟨#[]⟩ : ByteArray)) := (blk_cell BK215.out 1).trans rfl
        have hcz41_2 : wc.cell? ⟨gb215, 2, none⟩ = some (.string (⟨#[]⟩ : ByteArray)) := (blk_cell BK215.out 2).trans rfl
        have hcz41_3 : wc.cell? ⟨gb215, 3, none⟩ = some (.int .i64 0) := (blk_cell BK215.out 3).trans rfl
        have hfz41_0 := blk_frozen BK215.out 0
        have hfz41_1 := blk_frozen BK215.out 1
        have hfz41_2 := blk_frozen BK215.out 2
        have hfz41_3 := blk_frozen BK215.out 3
        go_wp2
        refine bodyPost_ret (results_ct rfl _ _ gb215 25 #[.bool t216, .string t217, .string t218, .int .i64 t219] (0, 0) _ rfl (by (with_reducible repeat (first | refine blk_drewN ?_ _ | refine blk_drew ?_ | refine blk_alloc ?_ _)); refine blk_put (cs := #[.bool t216, .string t217, .string t218, .int .i64 0]) ?_ 3 _ rfl; (with_reducible repeat (first | refine blk_drewN ?_ _ | refine blk_drew ?_ | refine blk_alloc ?_ _)); refine blk_put (cs := #[.bool t216, .string t217, .string (⟨#[]⟩ : ByteArray), .int .i64 0]) ?_ 2 _ rfl; (with_reducible repeat (first | refine blk_drewN ?_ _ | refine blk_drew ?_ | refine blk_alloc ?_ _)); refine blk_put (cs := #[.bool t216, .string (⟨#[]⟩ : ByteArray), .string (⟨#[]⟩ : ByteArray), .int .i64 0]) ?_ 1 _ rfl; (with_reducible repeat (first | refine blk_drewN ?_ _ | refine blk_drew ?_ | refine blk_alloc ?_ _)); refine blk_put (cs := #[.bool false, .string (⟨#[]⟩ : ByteArray), .string (⟨#[]⟩ : ByteArray), .int .i64 0]) ?_ 0 _ rfl; (with_reducible repeat (first | refine blk_drewN ?_ _ | refine blk_drew ?_ | refine blk_alloc ?_ _)); exact BK215.out) Tryd.underlying25 rfl (by kernel_rfl)) rfl ?_
        exact ⟨qnp5_, qnp31_⟩
      ·
       rw [if_neg c34] at H
       exact absurd H (by simp)

end Go.Proofs.YtcdajedmlfhmeaaDoor.XN

section
/- Decimal and Human: both sides compute the same. (by this session) -/
-- NEEDS strings_TrimLeft strings_TrimRight numeral_decimal numeral_signed numeral_Decimal strings_IndexByte numeral_Human millref3_zeros millref3_trimmed millref3_signed millref3_Decimal millref3_letter millref3_Human
set_option linter.unusedVariables false
set_option linter.unusedSimpArgs false
namespace Go.Proofs.YtcdajedmlfhmeaaDoor.XN
open Go.RowKit Go.Proofs.YtcdajedmlfhmeaaDoorW.PrintWords Go.Proofs.YtcdajedmlfhmeaaDoorW.PrintMore

def tl (l : List UInt8) : List UInt8 := l.dropWhile is0
def tr (l : List UInt8) : List UInt8 := (l.reverse.dropWhile is0).reverse
theorem bt_mk0 (c : UInt8) (r : List UInt8) : bt (mkB (c :: r)) 0 = (c.toNat : Int) := rfl
theorem is0_iff (c : UInt8) : is0 c = true ↔ (c.toNat : Int) = 48 := by simp [is0]
theorem tl_len (l : List UInt8) : (tl l).length ≤ l.length := by
  unfold tl
  have h1 := List.takeWhile_append_dropWhile (p := is0) (l := l)
  have h2 := congrArg List.length h1
  rw [List.length_append] at h2
  omega
theorem tr_len (l : List UInt8) : (tr l).length ≤ l.length := by
  have := tl_len l.reverse
  unfold tl at this
  unfold tr
  rw [List.length_reverse] at *
  exact this

theorem trimLeftByte_ev : ∀ (l : List UInt8), l.length < big → Ev (fun k => strings_trimLeftByte.l0 k (mkB l) 48) (mkB (tl l))
  | [], _ => by
    refine Ev.succ ?_
    simp only [strings_trimLeftByte.l0, size_mk]
    exact Ev.neg (by simp) (Ev.pure _)
  | c :: r, h => by
    simp only [List.length_cons] at h
    rw [big_eq] at h
    refine Ev.succ ?_
    simp only [strings_trimLeftByte.l0, size_mk, bt_mk0, List.length_cons]
    refine Ev.pos (by omega) (Ev.pos (by omega) ?_)
    have hx : (mkB (c :: r)).extract 1 (r.length + 1) = mkB r := by rw [extract_mk', L_mk]; simp
    unfold tl
    by_cases hc : is0 c = true
    · rw [List.dropWhile_cons, if_pos hc]
      refine Ev.pos ((is0_iff c).1 hc) (Ev.pos (by omega) ?_)
      simp only [hx]
      exact trimLeftByte_ev r (by rw [big_eq]; omega)
    · rw [List.dropWhile_cons, if_neg hc]
      exact Ev.neg (fun h => hc ((is0_iff c).2 h)) (Ev.pure _)
theorem last_rev (c : UInt8) (r : List UInt8) (n : Int) (hn : n = (r.length : Int)) : bt (mkB (c :: r).reverse) n = (c.toNat : Int) := by
  subst hn
  rw [bt_nat _ _ (by rw [L_mk]; simp)]
  simp [L_mk, List.getElem_append_right]
theorem trimRightByte_ev : ∀ (r : List UInt8), r.length < big → Ev (fun k => strings_trimRightByte.l0 k (mkB r.reverse) 48) (mkB (r.dropWhile is0).reverse)
  | [], _ => by
    refine Ev.succ ?_
    simp only [strings_trimRightByte.l0, size_mk]
    exact Ev.neg (by simp) (Ev.pure _)
  | c :: r, h => by
    simp only [List.length_cons] at h
    rw [big_eq] at h
    have hw : wrap64 ((((c :: r).reverse.length : Nat) : Int) - 1) = (r.length : Int) := w64_nat (by simp) (by omega)
    refine Ev.succ ?_
    simp only [strings_trimRightByte.l0, size_mk, hw, last_rev c r _ rfl]
    have hl : (c :: r).reverse.length = r.length + 1 := by simp
    rw [hl]
    refine Ev.pos (by omega) (Ev.pos (by omega) (Ev.pos (by omega) ?_))
    have hx : (mkB (c :: r).reverse).extract 0 ((r.length : Int)).toNat = mkB r.reverse := by
      rw [extract_front, L_mk, Int.toNat_natCast]
      congr 1
      rw [List.reverse_cons, List.take_append_of_le_length (by simp), List.take_of_length_le (by simp)]
    by_cases hc : is0 c = true
    · rw [List.dropWhile_cons, if_pos hc]
      refine Ev.pos ((is0_iff c).1 hc) (Ev.pos (by omega) ?_)
      simp only [hx]
      exact trimRightByte_ev r (by rw [big_eq]; omega)
    · rw [List.dropWhile_cons, if_neg hc]
      exact Ev.neg (fun h => hc ((is0_iff c).2 h)) (Ev.pure _)
theorem TrimLeft_ev (l : List UInt8) (h : l.length < big) : Ev (fun k => strings_TrimLeft.f k (mkB l) (⟨#[48]⟩ : ByteArray)) (mkB (tl l)) := by
  unfold strings_TrimLeft.f
  simp only [toList_mk]
  refine Ev.ite (fun h0 => ?_) (fun h0 => ?_)
  · subst h0
    refine Ev.succ ?_
    simp only [strings_TrimLeft.j0]
    exact Ev.pos trivial (Ev.pure _)
  · refine Ev.succ ?_
    simp only [strings_TrimLeft.j0]
    refine Ev.neg (by rw [toList_L]; decide) (Ev.pos (by rfl) (Ev.pos (by decide) ?_))
    refine Ev.succ ?_
    simp only [strings_TrimLeft.j1]
    refine Ev.pos (by decide) (Ev.pos (by decide) ?_)
    exact Ev.bind (trimLeftByte_ev l h) (Ev.pure _)
theorem TrimRight_ev (l : List UInt8) (h : l.length < big) : Ev (fun k => strings_TrimRight.f k (mkB l) (⟨#[48]⟩ : ByteArray)) (mkB (tr l)) := by
  unfold strings_TrimRight.f
  simp only [toList_mk]
  have key := trimRightByte_ev l.reverse (by simpa using h)
  rw [List.reverse_reverse] at key
  refine Ev.ite (fun h0 => ?_) (fun h0 => ?_)
  · subst h0
    refine Ev.succ ?_
    simp only [strings_TrimRight.j0]
    exact Ev.pos trivial (Ev.pure _)
  · refine Ev.succ ?_
    simp only [strings_TrimRight.j0]
    refine Ev.neg (by rw [toList_L]; decide) (Ev.pos (by rfl) (Ev.pos (by decide) ?_))
    refine Ev.succ ?_
    simp only [strings_TrimRight.j1]
    refine Ev.pos (by decide) (Ev.pos (by decide) ?_)
    exact Ev.bind key (Ev.pure _)

def negAt : List UInt8 → Bool
  | [] => false
  | c :: _ => decide ((c.toNat : Int) = 45)
/-- The place behind the blanks and the sign. -/
def sgN (l : List UInt8) : Nat := blkN l + if negAt (l.drop (blkN l)) = true then 1 else 0
theorem sgN_le (s : ByteArray) : sgN (L s) ≤ s.size := by
  unfold sgN
  have := blkN_le s
  split
  · rename_i h
    cases hd : (L s).drop (blkN (L s)) with
    | nil => rw [hd] at h; cases h
    | cons c r => have := (drop_cons hd).1; omega
  · omega
def sgNeg (l : List UInt8) : Bool := negAt (l.drop (blkN l))
def sgS (l : List UInt8) : Bool × ByteArray × ByteArray × Int :=
  if noneAt (l.drop (sgN l)) = true then (false, mkB [], mkB [], 0) else (sgNeg l, mkB (plS (l.drop (sgN l))).1, mkB (plS (l.drop (sgN l))).2.1, ((sgN l + (plS (l.drop (sgN l))).2.2 : Nat) : Int))
theorem pl_pos {l : List UInt8} (h : ¬ noneAt l = true) : 0 < (plS l).2.2 := by
  unfold noneAt plS at *
  revert h
  cases l.dropWhile isDg with
  | nil => cases l.takeWhile isDg <;> simp
  | cons c r =>
    simp only
    split
    · intro _; simp only; omega
    · cases l.takeWhile isDg <;> simp
theorem signed_ev (s : ByteArray) (hs : s.size < big) : Ev (fun k => numeral_signed.f k s) (sgS (L s)) := by
  unfold numeral_signed.f
  refine Ev.bind (blanks_ev s hs) ?_
  have hb := blkN_le s
  have hsg := sgN_le s
  have hs' := hs
  rw [big_eq] at hs'
  unfold sgS sgNeg
  cases hd : (L s).drop (blkN (L s)) with
  | nil =>
    have h1 := drop_nil hd
    have e : sgN (L s) = blkN (L s) := by unfold sgN; rw [hd]; rfl
    refine Ev.neg (by omega) ?_
    rw [plain_f s hs _ hb, Option.bind_some, e, hd]
    exact Ev.done rfl
  | cons c r =>
    obtain ⟨h1, h2, h3⟩ := drop_cons hd
    refine Ev.pos (by omega) (Ev.pos (by omega) ?_)
    rw [h2]
    by_cases hc : (c.toNat : Int) = 45
    · have e : sgN (L s) = blkN (L s) + 1 := by unfold sgN; rw [hd]; simp [negAt, hc]
      refine Ev.pos hc ?_
      rw [w64_succ (by omega), plain_f s hs _ (by omega), Option.bind_some, e]
      simp only [negAt, hc, decide_true]
      by_cases hn : noneAt ((L s).drop (blkN (L s) + 1)) = true
      · simp only [if_pos hn]
        exact Ev.done rfl
      · simp only [if_neg hn]
        refine Ev.done ?_
        have : ((blkN (L s) + 1 + (plS ((L s).drop (blkN (L s) + 1))).2.2 : Nat) : Int) > 0 := by omega
        rw [decide_eq_true this]
    · have e : sgN (L s) = blkN (L s) := by unfold sgN; rw [hd]; simp [negAt, hc]
      refine Ev.neg hc ?_
      rw [plain_f s hs _ hb, Option.bind_some, e, hd]
      by_cases hn : noneAt (c :: r) = true
      · simp only [if_pos hn]
        exact Ev.done rfl
      · simp only [if_neg hn, negAt, hc, decide_false]
        exact Ev.done rfl

/-- P3.1's number: is it below 0, the whole digits, the digits behind the point, the place behind. -/
def decS (l : List UInt8) : Bool × List UInt8 × List UInt8 × Nat :=
  if noneAt (l.drop (sgN l)) = true then (false, [], [], 0) else
    (sgNeg l && !((tl (plS (l.drop (sgN l))).1).isEmpty && (tr (plS (l.drop (sgN l))).2.1).isEmpty), tl (plS (l.drop (sgN l))).1, tr (plS (l.drop (sgN l))).2.1, sgN l + (plS (l.drop (sgN l))).2.2)
def decV (l : List UInt8) : Bool × ByteArray × ByteArray × Int := ((decS l).1, mkB (decS l).2.1, mkB (decS l).2.2.1, ((decS l).2.2.2 : Int))
theorem pl1_len (l : List UInt8) : (plS l).1.length ≤ l.length := by
  unfold plS
  have := take_len (p := isDg) l
  split
  · exact this
  · split <;> exact this
theorem pl2_len (l : List UInt8) : (plS l).2.1.length ≤ l.length := by
  have h := plS_len l
  have : (plS l).2.1.length ≤ (plS l).2.2 := by
    unfold plS
    split
    · simp
    · split <;> simp <;> omega
  omega
theorem size_drop (s : ByteArray) (n : Nat) : ((L s).drop n).length ≤ s.size := by rw [List.length_drop, L_len]; omega
theorem decimal_ev (n : Bool) (w f : List UInt8) (e : Int) (hw : w.length < big) (hf : f.length < big) : Ev (fun k => numeral_decimal.f k n (mkB w) (mkB f) e) (n && !((tl w).isEmpty && (tr f).isEmpty), mkB (tl w), mkB (tr f), e) := by
  unfold numeral_decimal.f
  refine Ev.bind (TrimLeft_ev w hw) (Ev.bind (TrimRight_ev f hf) ?_)
  simp only [toList_mk, nil_iff]
  cases n with
  | false => exact Ev.neg (by decide) (Ev.done (by simp))
  | true =>
    refine Ev.pos rfl (Ev.ite (fun h => ?_) (fun h => ?_))
    · exact Ev.done (by simp [h])
    · exact Ev.done (by simp [h])
theorem Decimal_ev (s : ByteArray) (hs : s.size < big) : Ev (fun k => numeral_Decimal.f k s) (decV (L s)) := by
  unfold numeral_Decimal.f
  refine Ev.bind (signed_ev s hs) ?_
  unfold sgS decV decS
  have hd := size_drop s (sgN (L s))
  have h1 := pl1_len ((L s).drop (sgN (L s)))
  have h2 := pl2_len ((L s).drop (sgN (L s)))
  by_cases hn : noneAt ((L s).drop (sgN (L s))) = true
  · simp only [if_pos hn]
    refine Ev.bind (decimal_ev false [] [] 0 (by decide) (by decide)) (Ev.done ?_)
    simp [tl, tr]
  · simp only [if_neg hn]
    exact Ev.bind (decimal_ev _ _ _ _ (by omega) (by omega)) (Ev.pure _)

end Go.Proofs.YtcdajedmlfhmeaaDoor.XN
end

namespace Go.Proofs.YtcdajedmlfhmeaaDoor.XN
open Go.RowKit Go.Proofs.YtcdajedmlfhmeaaDoorW.PrintWords Go.Proofs.YtcdajedmlfhmeaaDoorW.PrintLast Go.Proofs.YtcdajedmlfhmeaaDoorW.PrintMore
attribute [local go_sem] max2_int min2_int max_two min_two max_three min_three max_four min_four
set_option linter.unusedVariables false
set_option linter.unusedSimpArgs false

/-! ### millref3_low: function 70 -/
def millref3_low.f (a0 : Int) : Option (Int) := if a0 ≥ 65 then (if a0 ≤ 90 then (some ((a0 + 32) % 256)) else (some a0)) else (some a0)
set_option maxHeartbeats 8000000 in
set_option maxRecDepth 100000 in
theorem millref3_low.calls (a0 : Int) (r : Int) (w : World) (h : millref3_low.f a0 = some r) :
  Calls Tryd.prog 70 #[.int .u8 a0] w fun e w' => e = .returned (.int .u8 r) ∧ Drawn0 w w' := by
 have H : (if a0 ≥ 65 then (if a0 ≤ 90 then (some ((a0 + 32) % 256)) else (some a0)) else (some a0)) = some r := h
 clear h
 by_cases c2 : a0 ≥ 65
 ·
  rw [if_pos c2] at H
  have c2b0 : decide (65 ≤ a0) = true := decide_eq_true c2
  clear c2
  by_cases c3 : a0 ≤ 90
  ·
   rw [if_pos c3] at H
   have c3b0 : decide (a0 ≤ 90) = true := decide_eq_true c3
   clear c3
   obtain rfl := Option.some.inj H
   go_enter Tryd.func70, Tryd.ntmps70
   go_wp2
   go_ret
   exact ⟨qnp2_, qnp4_⟩
  ·
   rw [if_neg c3] at H
   have c3b0 : decide (a0 ≤ 90) = false := decide_eq_false c3
   clear c3
   obtain rfl := Option.some.inj H
   go_enter Tryd.func70, Tryd.ntmps70
   go_wp2
   go_ret
   exact ⟨qnp2_, qnp4_⟩
 ·
  rw [if_neg c2] at H
  have c2b0 : decide (65 ≤ a0) = false := decide_eq_false c2
  clear c2
  obtain rfl := Option.some.inj H
  go_enter Tryd.func70, Tryd.ntmps70
  go_wp2
  go_ret
  exact ⟨qnp2_, qnp4_⟩


/-! ### millref3_at: function 45 -/
def millref3_at.l0 : Nat → ByteArray → Int → ByteArray → Int → Option (Bool)
 | 0, _, _, _, _ => none
 | k + 1, x0, x1, x2, x7 => if x7 < (x2.size : Int) then (if 0 ≤ (wrap64 (x1 + x7)) then (if (wrap64 (x1 + x7)) < (x0.size : Int) then ((millref3_low.f (bt x0 (wrap64 (x1 + x7)))).bind fun t225 => (if 0 ≤ x7 then (if t225 = (bt x2 x7) then (millref3_at.l0 k x0 x1 x2 (wrap64 (x7 + 1))) else (some false)) else (none))) else (none)) else (none)) else (some true)
def millref3_at.f (k : Nat) (a0 : ByteArray) (a1 : Int) (a2 : ByteArray) : Option (Bool) := if (wrap64 (a1 + (a2.size : Int))) > (a0.size : Int) then (some false) else (millref3_at.l0 k a0 a1 a2 0)
set_option maxHeartbeats 8000000 in
set_option maxRecDepth 100000 in
theorem millref3_at.calls (k : Nat) (a0 : ByteArray) (a1 : Int) (a2 : ByteArray) (r : Bool) (w : World) (h : millref3_at.f k a0 a1 a2 = some r) :
  Calls Tryd.prog 45 #[.string a0, .int .i64 a1, .string a2] w fun e w' => e = .returned (.bool r) ∧ Drawn0 w w' := by
 have H : (if (wrap64 (a1 + (a2.size : Int))) > (a0.size : Int) then (some false) else (millref3_at.l0 k a0 a1 a2 0)) = some r := h
 clear h
 by_cases c4 : (wrap64 (a1 + (a2.size : Int))) > (a0.size : Int)
 ·
  rw [if_pos c4] at H
  have c4b0 : decide ((a0.size : Int) < (wrap64 (a1 + (a2.size : Int)))) = true := decide_eq_true c4
  clear c4
  obtain rfl := Option.some.inj H
  go_enter Tryd.func45, Tryd.ntmps45
  go_wp2
  repeat (go_quiet (fail); try go_wp2)
  go_ret
  exact ⟨qnp2_, qnp4_⟩
 ·
  rw [if_neg c4] at H
  have c4b0 : decide ((a0.size : Int) < (wrap64 (a1 + (a2.size : Int)))) = false := decide_eq_false c4
  clear c4
  have H' := Aside0.mk H
  clear H
  go_enter Tryd.func45, Tryd.ntmps45
  go_wp2
  repeat (go_quiet (fail); try go_wp2)
  go_loopg [7] k (fun kq v7 w' => ∃ (x7_1 : Int), v7 = .int .i64 x7_1 ∧ Aside0 (millref3_at.l0 kq a0 a1 a2 x7_1 = some r) ∧ Aside0 (kq ≤ k) ∧ Drawn0 w w')
  case atStart => exact ⟨(0), qnp2_, H', ⟨Nat.le_refl _⟩, qnp4_⟩
  case round =>
   clear H'
   (try clear p2); (try clear c4); (try clear c4b0)
   obtain ⟨x7_1, rfl, HA, HK1, ⟨m1, rfl⟩⟩ := hrel
   cases gk with
   | zero => exact absurd HA.out (by simp [millref3_at.l0])
   | succ k1 =>
    have H := HA.out
    clear HA
    simp only [millref3_at.l0] at H
    by_cases c5 : x7_1 < (a2.size : Int)
    ·
     rw [if_pos c5] at H
     have c5b0 : decide (x7_1 < (a2.size : Int)) = true := decide_eq_true c5
     clear c5
     obtain ⟨ji6, hji6⟩ : ∃ j_ : Int, (wrap64 (a1 + x7_1)) = j_ := ⟨_, rfl⟩
     replace H : (if 0 ≤ (ji6) then (if (ji6) < (a0.size : Int) then ((millref3_low.f (bt a0 (ji6))).bind fun t225 => (if 0 ≤ x7_1 then (if t225 = (bt a2 x7_1) then (millref3_at.l0 k1 a0 a1 a2 (wrap64 (x7_1 + 1))) else (some false)) else (none))) else (none)) else (none)) = some r := by first | (rw [hji6] at H; exact H) | (simp only [hji6] at H ⊢; exact H)
     have hji6w : (IntKind.i64.wrap (a1 + x7_1)) = ji6 := (i64_w _).trans hji6
     by_cases c7 : 0 ≤ (ji6)
     ·
      rw [if_pos c7] at H
      have c7b0 : decide (0 ≤ (ji6)) = true := decide_eq_true c7
      clear c7
      by_cases c8 : (ji6) < (a0.size : Int)
      ·
       rw [if_pos c8] at H
       have c8b0 : decide ((ji6) < (a0.size : Int)) = true := decide_eq_true c8
       clear c8
       replace H := Option.bind_eq_some_iff.mp H
       obtain ⟨t225, A100, H⟩ := H
       replace H : (if 0 ≤ x7_1 then (if t225 = (bt a2 x7_1) then (millref3_at.l0 k1 a0 a1 a2 (wrap64 (x7_1 + 1))) else (some false)) else (none)) = some r := H
       have A10 := Aside0.mk A100
       clear A100
       by_cases c11 : 0 ≤ x7_1
       ·
        rw [if_pos c11] at H
        have c11b0 : decide (0 ≤ x7_1) = true := decide_eq_true c11
        clear c11
        by_cases c13 : t225 = (bt a2 x7_1)
        ·
         rw [if_pos c13] at H
         have c13b0 : (t225 == (bt a2 x7_1)) = true := beq_iff_eq.mpr c13
         have c13b1 : (t225 != (bt a2 x7_1)) = false := bne_eq_false_iff_eq.mpr c13
         clear c13
         have H' := Aside0.mk H
         clear H
         have p9 : 0 ≤ ((ji6) : Int) := of_decide_eq_true qnp3_
         have q9 : (ji6) < (a0.size : Int) := of_decide_eq_true qnp3_
         have hx9 := bt_at a0 (ji6)
         replace p9 := eq_true p9
         replace q9 := eq_true q9
         have p12 : 0 ≤ (x7_1 : Int) := of_decide_eq_true qnp3_
         have q12 : x7_1 < (a2.size : Int) := of_decide_eq_true qnp3_
         have hx12 := bt_at a2 x7_1
         replace p12 := eq_true p12
         replace q12 := eq_true q12
         go_wp2_with (first | (go_at_call 70; (with_reducible refine (millref3_low.calls (bt a0 (ji6)) t225 _ A10.out).mono ?_); rintro e w' ⟨rfl, ⟨nd, rfl⟩⟩; (try first | exact ⟨rfl, _, World.drewN_drewN _ _ _⟩ | exact ⟨rfl, _, Eq.trans (World.drewN_drewN _ _ _) (congrArg (World.drewN _) (Nat.add_assoc _ _ _))⟩)))
         repeat (go_quiet (first | (go_at_call 70; (with_reducible refine (millref3_low.calls (bt a0 (ji6)) t225 _ A10.out).mono ?_); rintro e w' ⟨rfl, ⟨nd, rfl⟩⟩; (try first | exact ⟨rfl, _, World.drewN_drewN _ _ _⟩ | exact ⟨rfl, _, Eq.trans (World.drewN_drewN _ _ _) (congrArg (World.drewN _) (Nat.add_assoc _ _ _))⟩))); try go_wp2_with (first | (go_at_call 70; (with_reducible refine (millref3_low.calls (bt a0 (ji6)) t225 _ A10.out).mono ?_); rintro e w' ⟨rfl, ⟨nd, rfl⟩⟩; (try first | exact ⟨rfl, _, World.drewN_drewN _ _ _⟩ | exact ⟨rfl, _, Eq.trans (World.drewN_drewN _ _ _) (congrArg (World.drewN _) (Nat.add_assoc _ _ _))⟩))))
         go_roundg k1
         case measure => have := HK1.out; omega
         case rel => exact ⟨(wrap64 (x7_1 + 1)), qnp2_, H', ⟨by have := HK1.out; omega⟩, qnp4_⟩
        ·
         rw [if_neg c13] at H
         have c13b0 : (t225 == (bt a2 x7_1)) = false := beq_eq_false_iff_ne.mpr c13
         have c13b1 : (t225 != (bt a2 x7_1)) = true := bne_iff_ne.mpr c13
         obtain rfl := Option.some.inj H
         have p9 : 0 ≤ ((ji6) : Int) := of_decide_eq_true qnp3_
         have q9 : (ji6) < (a0.size : Int) := of_decide_eq_true qnp3_
         have hx9 := bt_at a0 (ji6)
         replace p9 := eq_true p9
         replace q9 := eq_true q9
         have p12 : 0 ≤ (x7_1 : Int) := of_decide_eq_true qnp3_
         have q12 : x7_1 < (a2.size : Int) := of_decide_eq_true qnp3_
         have hx12 := bt_at a2 x7_1
         replace p12 := eq_true p12
         replace q12 := eq_true q12
         go_wp2_with (first | (go_at_call 70; (with_reducible refine (millref3_low.calls (bt a0 (ji6)) t225 _ A10.out).mono ?_); rintro e w' ⟨rfl, ⟨nd, rfl⟩⟩; (try first | exact ⟨rfl, _, World.drewN_drewN _ _ _⟩ | exact ⟨rfl, _, Eq.trans (World.drewN_drewN _ _ _) (congrArg (World.drewN _) (Nat.add_assoc _ _ _))⟩)))
         repeat (go_quiet (first | (go_at_call 70; (with_reducible refine (millref3_low.calls (bt a0 (ji6)) t225 _ A10.out).mono ?_); rintro e w' ⟨rfl, ⟨nd, rfl⟩⟩; (try first | exact ⟨rfl, _, World.drewN_drewN _ _ _⟩ | exact ⟨rfl, _, Eq.trans (World.drewN_drewN _ _ _) (congrArg (World.drewN _) (Nat.add_assoc _ _ _))⟩))); try go_wp2_with (first | (go_at_call 70; (with_reducible refine (millref3_low.calls (bt a0 (ji6)) t225 _ A10.out).mono ?_); rintro e w' ⟨rfl, ⟨nd, rfl⟩⟩; (try first | exact ⟨rfl, _, World.drewN_drewN _ _ _⟩ | exact ⟨rfl, _, Eq.trans (World.drewN_drewN _ _ _) (congrArg (World.drewN _) (Nat.add_assoc _ _ _))⟩))))
         go_ret
         exact ⟨qnp66_, qnp4_⟩
       ·
        rw [if_neg c11] at H
        exact absurd H (by simp)
      ·
       rw [if_neg c8] at H
       exact absurd H (by simp)
     ·
      rw [if_neg c7] at H
      exact absurd H (by simp)
    ·
     rw [if_neg c5] at H
     have c5b0 : decide (x7_1 < (a2.size : Int)) = false := decide_eq_false c5
     clear c5
     obtain rfl := Option.some.inj H
     go_wp2
     repeat (go_quiet (fail); try go_wp2)
     go_ret
     exact ⟨qnp2_, qnp4_⟩


/-! ### millref3_Month: function 24 -/
def millref3_Month.l0 : Nat → ByteArray → Int → Int → Option (Int)
 | 0, _, _, _ => none
 | k + 1, x0, x3, x4 => if x4 < 12 then (if 0 ≤ (wrap64 (3 * x4)) then (if (wrap64 (3 * x4)) ≤ (wrap64 ((wrap64 (3 * x4)) + 3)) then (if (wrap64 ((wrap64 (3 * x4)) + 3)) ≤ 36 then ((millref3_at.f k x0 x3 ((⟨#[106, 97, 110, 102, 101, 98, 109, 97, 114, 97, 112, 114, 109, 97, 121, 106, 117, 110, 106, 117, 108, 97, 117, 103, 115, 101, 112, 111, 99, 116, 110, 111, 118, 100, 101, 99]⟩ : ByteArray).extract ((wrap64 (3 * x4)) : Int).toNat ((wrap64 ((wrap64 (3 * x4)) + 3)) : Int).toNat)).bind fun t227 => (if t227 = true then (some (wrap64 (x4 + 1))) else (millref3_Month.l0 k x0 x3 (wrap64 (x4 + 1))))) else (none)) else (none)) else (none)) else (some 0)
def millref3_Month.f (k : Nat) (a0 : ByteArray) : Option (Int) := (millref3_start.f k a0).bind fun t226 => (millref3_Month.l0 k a0 t226 0)
set_option maxHeartbeats 8000000 in
set_option maxRecDepth 100000 in
theorem millref3_Month.calls (k : Nat) (a0 : ByteArray) (r : Int) (w : World) (h : millref3_Month.f k a0 = some r) :
  Calls Tryd.prog 24 #[.string a0] w fun e w' => e = .returned (.int .i64 r) ∧ Drawn0 w w' := by
 have H : ((millref3_start.f k a0).bind fun t226 => (millref3_Month.l0 k a0 t226 0)) = some r := h
 clear h
 replace H := Option.bind_eq_some_iff.mp H
 obtain ⟨t226, A20, H⟩ := H
 replace H : (millref3_Month.l0 k a0 t226 0) = some r := H
 have A2 := Aside0.mk A20
 clear A20
 have H' := Aside0.mk H
 clear H
 go_enter Tryd.func24, Tryd.ntmps24
 go_wp2_with (first | ((with_reducible refine gate_callee (f := 44) rfl ?_); refine goesL_ (some 6) rfl rfl Tryd.func44 (by kernel_rfl) rfl #[.string a0] rfl qnp0_ ?_; (with_reducible refine (millref3_start.calls k a0 t226 _ A2.out).mono ?_); rintro e w' ⟨rfl, ⟨nd, rfl⟩⟩; refine ⟨_, rfl, ?_⟩))
 go_loopg [4] k (fun kq v4 w' => ∃ (x4_1 : Int), v4 = .int .i64 x4_1 ∧ Aside0 (millref3_Month.l0 kq a0 t226 x4_1 = some r) ∧ Aside0 (kq ≤ k) ∧ Drawn0 w w')
 case atStart => exact ⟨(0), qnp2_, H', ⟨Nat.le_refl _⟩, qnp4_⟩
 case round =>
  clear H'
  (try clear c2); (try clear p2)
  obtain ⟨x4_1, rfl, HA, HK1, ⟨m1, rfl⟩⟩ := hrel
  cases gk with
  | zero => exact absurd HA.out (by simp [millref3_Month.l0])
  | succ k1 =>
   have H := HA.out
   clear HA
   simp only [millref3_Month.l0] at H
   by_cases c3 : x4_1 < 12
   ·
    rw [if_pos c3] at H
    have c3b0 : decide (x4_1 < 12) = true := decide_eq_true c3
    clear c3
    obtain ⟨ji4, hji4⟩ : ∃ j_ : Int, (wrap64 (3 * x4_1)) = j_ := ⟨_, rfl⟩
    replace H : (if 0 ≤ (ji4) then (if (ji4) ≤ (wrap64 ((ji4) + 3)) then (if (wrap64 ((ji4) + 3)) ≤ 36 then ((millref3_at.f k1 a0 t226 ((⟨#[106, 97, 110, 102, 101, 98, 109, 97, 114, 97, 112, 114, 109, 97, 121, 106, 117, 110, 106, 117, 108, 97, 117, 103, 115, 101, 112, 111, 99, 116, 110, 111, 118, 100, 101, 99]⟩ : ByteArray).extract ((ji4) : Int).toNat ((wrap64 ((ji4) + 3)) : Int).toNat)).bind fun t227 => (if t227 = true then (some (wrap64 (x4_1 + 1))) else (millref3_Month.l0 k1 a0 t226 (wrap64 (x4_1 + 1))))) else (none)) else (none)) else (none)) = some r := by first | (rw [hji4] at H; exact H) | (simp only [hji4] at H ⊢; exact H)
    have hji4w : (IntKind.i64.wrap (3 * x4_1)) = ji4 := (i64_w _).trans hji4
    by_cases c5 : 0 ≤ (ji4)
    ·
     rw [if_pos c5] at H
     have c5b0 := eq_true c5
     have c5b1 : decide (0 ≤ (ji4)) = true := decide_eq_true c5
     clear c5
     by_cases c6 : (ji4) ≤ (wrap64 ((ji4) + 3))
     ·
      rw [if_pos c6] at H
      have c6b0 := eq_true c6
      have c6b1 : decide ((ji4) ≤ (wrap64 ((ji4) + 3))) = true := decide_eq_true c6
      by_cases c7 : (wrap64 ((ji4) + 3)) ≤ 36
      ·
       rw [if_pos c7] at H
       have c7b0 := eq_true c7
       have c7b1 : decide ((wrap64 ((ji4) + 3)) ≤ 36) = true := decide_eq_true c7
       replace H := Option.bind_eq_some_iff.mp H
       obtain ⟨t227, A80, H⟩ := H
       replace H : (if t227 = true then (some (wrap64 (x4_1 + 1))) else (millref3_Month.l0 k1 a0 t226 (wrap64 (x4_1 + 1)))) = some r := H
       have A8 := Aside0.mk A80
       clear A80
       by_cases c9 : t227 = true
       ·
        subst c9
        have H1 : (some (wrap64 (x4_1 + 1))) = some r := by rw [if_pos rfl] at H; exact H
        clear H
        have H := H1
        clear H1
        obtain rfl := Option.some.inj H
        go_wp2_with (first | ((with_reducible refine gate_callee (f := 45) rfl ?_); refine goesL_ (some 19) rfl rfl Tryd.func45 (by kernel_rfl) rfl #[.string a0, .int .i64 t226, .string ((⟨#[106, 97, 110, 102, 101, 98, 109, 97, 114, 97, 112, 114, 109, 97, 121, 106, 117, 110, 106, 117, 108, 97, 117, 103, 115, 101, 112, 111, 99, 116, 110, 111, 118, 100, 101, 99]⟩ : ByteArray).extract ((ji4) : Int).toNat ((wrap64 ((ji4) + 3)) : Int).toNat)] rfl (by (try simp only [List.map_toArray, List.map_cons, List.map_nil]); first | done | (simp only [hji4]; rfl) | rfl | (simp only [List.length_drop, List.length_take]; rfl) | (simp; done) | (simp; omega)) ?_; (with_reducible refine (millref3_at.calls k1 a0 t226 ((⟨#[106, 97, 110, 102, 101, 98, 109, 97, 114, 97, 112, 114, 109, 97, 121, 106, 117, 110, 106, 117, 108, 97, 117, 103, 115, 101, 112, 111, 99, 116, 110, 111, 118, 100, 101, 99]⟩ : ByteArray).extract ((ji4) : Int).toNat ((wrap64 ((ji4) + 3)) : Int).toNat) true _ A8.out).mono ?_); rintro e w' ⟨rfl, ⟨nd, rfl⟩⟩; refine ⟨_, rfl, ?_⟩))
        go_ret
        exact ⟨qnp67_, qnp4_⟩
       ·
        replace c9 := Bool.eq_false_iff.mpr c9
        subst c9
        have H1 : (millref3_Month.l0 k1 a0 t226 (wrap64 (x4_1 + 1))) = some r := by rw [if_neg (show ¬ (false = true) by decide)] at H; exact H
        clear H
        have H := H1
        clear H1
        have H' := Aside0.mk H
        clear H
        go_wp2_with (first | ((with_reducible refine gate_callee (f := 45) rfl ?_); refine goesL_ (some 19) rfl rfl Tryd.func45 (by kernel_rfl) rfl #[.string a0, .int .i64 t226, .string ((⟨#[106, 97, 110, 102, 101, 98, 109, 97, 114, 97, 112, 114, 109, 97, 121, 106, 117, 110, 106, 117, 108, 97, 117, 103, 115, 101, 112, 111, 99, 116, 110, 111, 118, 100, 101, 99]⟩ : ByteArray).extract ((ji4) : Int).toNat ((wrap64 ((ji4) + 3)) : Int).toNat)] rfl (by (try simp only [List.map_toArray, List.map_cons, List.map_nil]); first | done | (simp only [hji4]; rfl) | rfl | (simp only [List.length_drop, List.length_take]; rfl) | (simp; done) | (simp; omega)) ?_; (with_reducible refine (millref3_at.calls k1 a0 t226 ((⟨#[106, 97, 110, 102, 101, 98, 109, 97, 114, 97, 112, 114, 109, 97, 121, 106, 117, 110, 106, 117, 108, 97, 117, 103, 115, 101, 112, 111, 99, 116, 110, 111, 118, 100, 101, 99]⟩ : ByteArray).extract ((ji4) : Int).toNat ((wrap64 ((ji4) + 3)) : Int).toNat) false _ A8.out).mono ?_); rintro e w' ⟨rfl, ⟨nd, rfl⟩⟩; refine ⟨_, rfl, ?_⟩))
        go_roundg k1
        case measure => have := HK1.out; omega
        case rel => exact ⟨(wrap64 (x4_1 + 1)), qnp2_, H', ⟨by have := HK1.out; omega⟩, qnp4_⟩
      ·
       rw [if_neg c7] at H
       exact absurd H (by simp)
     ·
      rw [if_neg c6] at H
      exact absurd H (by simp)
    ·
     rw [if_neg c5] at H
     exact absurd H (by simp)
   ·
    rw [if_neg c3] at H
    have c3b0 : decide (x4_1 < 12) = false := decide_eq_false c3
    clear c3
    obtain rfl := Option.some.inj H
    go_wp2
    go_ret
    exact ⟨qnp2_, qnp4_⟩

end Go.Proofs.YtcdajedmlfhmeaaDoor.XN

section
/- Human and Month: both sides compute the same. (by this session) -/
-- NEEDS strings_IndexByte numeral_Human millref3_letter millref3_Human numeral_begins numeral_Month millref3_low millref3_at millref3_Month
set_option linter.unusedVariables false
set_option linter.unusedSimpArgs false
namespace Go.Proofs.YtcdajedmlfhmeaaDoor.XN
open Go.RowKit Go.Proofs.YtcdajedmlfhmeaaDoorW.PrintWords Go.Proofs.YtcdajedmlfhmeaaDoorW.PrintMore

/-- What is so of 0 to 255 is so of every byte. -/
theorem all8 {P : UInt8 → Prop} (h : ∀ n : Fin 256, P (UInt8.ofNat n.val)) (c : UInt8) : P c := by
  have := h ⟨c.toNat, c.toNat_lt⟩
  simpa using this
def unitL : List UInt8 := [75, 77, 71, 84, 80, 69, 90, 89, 82, 81]
/-- The rank of a byte; 0: it is no letter of h. -/
def letN (c : UInt8) : Nat := if c = 107 then 1 else if c ∈ unitL then unitL.idxOf c + 1 else 0
theorem letN_le (c : UInt8) : letN c ≤ 10 := by
  unfold letN
  split
  · omega
  · split
    · rename_i h
      have := List.idxOf_lt_length_iff.2 h
      have e : unitL.length = 10 := rfl
      omega
    · omega
theorem idx_units : ∀ c : UInt8, Lib.indexByte unitL (if c = 107 then 75 else c) + 1 = (letN c : Int) := all8 (by decide +kernel)
/-- P3.3: the number of h, and its rank. -/
def humS (s : ByteArray) : (Bool × List UInt8 × List UInt8 × Nat) × Nat :=
  let d := decS (L s)
  if d.2.2.2 = 0 ∨ d.2.2.2 = s.size then (d, 0) else
    match (L s).drop d.2.2.2 with
    | [] => (d, 0)
    | c :: _ => ((d.1, d.2.1, d.2.2.1, if 0 < letN c then d.2.2.2 + 1 else d.2.2.2), if d.2.1 = [] ∧ d.2.2.1 = [] then 0 else letN c)
def humV (s : ByteArray) : Bool × ByteArray × ByteArray × Int × Int := ((humS s).1.1, mkB (humS s).1.2.1, mkB (humS s).1.2.2.1, ((humS s).1.2.2.2 : Int), ((humS s).2 : Int))
theorem dec_end (s : ByteArray) : (decS (L s)).2.2.2 ≤ s.size := by
  unfold decS
  split
  · simp
  · have h1 := plS_len ((L s).drop (sgN (L s)))
    have h2 := sgN_le s
    rw [List.length_drop, L_len] at h1
    simp only
    omega
theorem IndexByte_f (c : Int) : strings_IndexByte.f (⟨#[75, 77, 71, 84, 80, 69, 90, 89, 82, 81]⟩ : ByteArray) c = some (Lib.indexByte unitL c.toNat.toUInt8) := rfl
theorem Human_j1 (c : UInt8) (hc : c ≠ 107) (n : Bool) (w f : List UInt8) (e : Nat) (he : e < big) : Ev (fun k => numeral_Human.j1 k (c.toNat : Int) n (mkB w) (mkB f) (e : Int))
    (n, mkB w, mkB f, ((if 0 < letN c then e + 1 else e : Nat) : Int), ((if w = [] ∧ f = [] then 0 else letN c : Nat) : Int)) := by
  have h1 := idx_units c
  have hl := letN_le c
  rw [if_neg hc] at h1
  rw [big_eq] at he
  have hw : wrap64 (Lib.indexByte unitL c + 1) = (letN c : Int) := by rw [h1]; exact w64 (by omega)
  have hcc : ((c.toNat : Int)).toNat.toUInt8 = c := by rw [Int.toNat_natCast]; simp
  refine Ev.succ ?_
  simp only [numeral_Human.j1, IndexByte_f, Option.bind_some, hcc, hw, toList_mk]
  by_cases hp : 0 < letN c
  · have hw2 : wrap64 ((e : Int) + 1) = ((e + 1 : Nat) : Int) := w64_nat (by omega) (by omega)
    simp only [hw2, if_pos hp]
    refine Ev.pos (by omega) (Ev.ite (fun h => Ev.ite (fun h' => ?_) (fun h' => ?_)) (fun h => ?_))
    · exact Ev.done (by simp [h, h'])
    · exact Ev.done (by simp [h'])
    · exact Ev.done (by simp [h])
  · simp only [if_neg hp]
    refine Ev.neg (by omega) (Ev.ite (fun h => Ev.ite (fun h' => ?_) (fun h' => ?_)) (fun h => ?_))
    · exact Ev.done (by simp [h, h'])
    · exact Ev.done (by simp [h'])
    · exact Ev.done (by simp [h])
theorem Human_ev (s : ByteArray) (hs : s.size < big) : Ev (fun k => numeral_Human.f k s) (humV s) := by
  unfold numeral_Human.f
  refine Ev.bind (Decimal_ev s hs) ?_
  have he := dec_end s
  have hs' := hs
  rw [big_eq] at hs'
  unfold humV humS decV
  generalize hd : decS (L s) = d at *
  obtain ⟨n, w, f, e⟩ := d
  simp only at *
  by_cases h0 : e = 0
  · subst h0
    refine Ev.pos (by rfl) (Ev.succ ?_)
    simp only [numeral_Human.j0]
    exact Ev.pos trivial (Ev.done (by simp))
  · refine Ev.neg (by omega) (Ev.succ ?_)
    simp only [numeral_Human.j0]
    by_cases h1 : e = s.size
    · refine Ev.pos (by simp [h1]) (Ev.done ?_)
      simp [h1]
    · obtain ⟨c, hc, hb⟩ := drop_some (s := s) (i := e) (by omega)
      rw [if_neg (by omega), hc]
      refine Ev.neg (by simp; omega) (Ev.pos (by omega) (Ev.pos (by omega) ?_))
      rw [hb]
      by_cases hk : c = 107
      · refine Ev.pos (by rw [hk]; decide) ?_
        have hx := Human_j1 75 (by decide) n w f e (by omega)
        have hl : letN 75 = letN c := by rw [hk]; decide
        rw [hl] at hx
        exact hx
      · refine Ev.neg (fun h => hk (u8_eq (d := 107) h)) ?_
        exact Human_j1 c hk n w f e (by omega)
/-! ### words in small or great letters -/
/-- A letter as a small one. -/
def lowB (c : UInt8) : UInt8 := if 65 ≤ c ∧ c ≤ 90 then c + 32 else c
def isWord (w : List UInt8) : Bool := w.all fun c => decide (97 ≤ c) && decide (c ≤ 122)
/-- Does l begin with the word w (small letters)? -/
def bgN : List UInt8 → List UInt8 → Bool
  | _, [] => true
  | [], _ :: _ => false
  | c :: l, d :: w => lowB c == d && bgN l w
theorem or_low (c d : UInt8) (hd : (decide (97 ≤ d) && decide (d ≤ 122)) = true) : (Go.bits .or .u8 (c.toNat : Int) 32 = (d.toNat : Int) ∧ ¬ (c.toNat : Int) < 65) ↔ lowB c = d := by
  have hb : ∀ c : UInt8, Go.bits .or .u8 (c.toNat : Int) 32 = ((c ||| 32).toNat : Int) := all8 (by decide +kernel)
  have h2 : ∀ d : UInt8, ∀ c : UInt8, (decide (97 ≤ d) && decide (d ≤ 122)) = true → (((c ||| 32) = d ∧ ¬ (c.toNat : Int) < 65) ↔ lowB c = d) := by
    have h3 : ∀ n : Fin 26, ∀ m : Fin 256, (((UInt8.ofNat m.val ||| 32) = UInt8.ofNat (97 + n.val) ∧ ¬ ((UInt8.ofNat m.val).toNat : Int) < 65) ↔ lowB (UInt8.ofNat m.val) = UInt8.ofNat (97 + n.val)) := by decide +kernel
    intro d c hd
    simp only [Bool.and_eq_true, decide_eq_true_eq, UInt8.le_iff_toNat_le] at hd
    have e1 : (97 : UInt8).toNat = 97 := rfl
    have e2 : (122 : UInt8).toNat = 122 := rfl
    have h4 := h3 ⟨d.toNat - 97, by omega⟩ ⟨c.toNat, c.toNat_lt⟩
    have e3 : 97 + (d.toNat - 97) = d.toNat := by omega
    simp only [e3, UInt8.ofNat_toNat] at h4
    exact h4
  rw [hb c, ← h2 d c hd]
  constructor
  · rintro ⟨a, b⟩; exact ⟨u8_eq a, b⟩
  · rintro ⟨a, b⟩; exact ⟨by rw [a], b⟩
theorem begins_l0 (s : ByteArray) (hs : s.size < big) (i : Nat) (w : List UInt8) (hwd : isWord w = true) : ∀ (v : List UInt8) (j : Nat), w.drop j = v → j ≤ w.length → i + w.length ≤ s.size →
    Ev (fun k => numeral_begins.l0 k s (i : Int) (mkB w) (w.length : Int) (j : Int)) (bgN ((L s).drop (i + j)) v)
  | [], j, h, hj, hl => by
    have : w.length ≤ j := List.drop_eq_nil_iff.1 h
    refine Ev.succ ?_
    simp only [numeral_begins.l0]
    exact Ev.neg (by omega) (Ev.done (by simp [bgN]))
  | d :: v, j, h, hj, hl => by
    have hjl : j < w.length := by
      rcases Nat.lt_or_ge j w.length with h' | h'
      · exact h'
      · rw [List.drop_eq_nil_iff.2 h'] at h; cases h
    have hb : bt (mkB w) (j : Int) = (d.toNat : Int) ∧ (L (mkB w)).drop (j + 1) = v := (drop_cons (s := mkB w) (i := j) (by rw [L_mk]; exact h)).2
    have hwj := w64_nat (x := (i : Int) + (j : Int)) (n := i + j) (by omega) (by rw [big_eq] at hs; omega)
    have hwj2 := w64_succ (i := j) (by rw [big_eq] at hs; omega)
    obtain ⟨c, hc, hbt⟩ := drop_some (s := s) (i := i + j) (by omega)
    have hd : (decide (97 ≤ d) && decide (d ≤ 122)) = true := by
      have hm : d ∈ w := List.mem_of_mem_drop (by rw [h]; simp)
      have := List.all_eq_true.1 hwd d hm
      exact this
    refine Ev.succ ?_
    simp only [numeral_begins.l0, hwj, hwj2, hbt, hb.1, size_mk]
    refine Ev.pos (by omega) (Ev.pos (by omega) (Ev.pos (by omega) (Ev.pos (by omega) (Ev.pos (by omega) ?_))))
    rw [hc]
    simp only [bgN]
    have hor := or_low c d hd
    have ih := begins_l0 s hs i w hwd v (j + 1) (by simpa [L_mk] using hb.2) (by omega) hl
    rw [← Nat.add_assoc] at ih
    refine Ev.ite (fun h1 => Ev.ite (fun h2 => ?_) (fun h2 => ?_)) (fun h1 => ?_)
    · refine Ev.done ?_
      have : ¬ lowB c = d := fun hh => (hor.2 hh).2 h2
      simp [this]
    · have : lowB c = d := hor.1 ⟨h1, h2⟩
      simp only [this, beq_self_eq_true, Bool.true_and]
      exact ih
    · refine Ev.done ?_
      have : ¬ lowB c = d := fun hh => h1 (hor.2 hh).1
      simp [this]
theorem bgN_short : ∀ (l w : List UInt8), l.length < w.length → bgN l w = false
  | _, [], h => by simp at h
  | [], _ :: _, _ => rfl
  | c :: l, d :: w, h => by
    simp only [bgN, bgN_short l w (by simpa using h), Bool.and_false]
theorem begins_ev (s : ByteArray) (hs : s.size < big) (i : Nat) (hi : i ≤ s.size) (w : List UInt8) (hwd : isWord w = true) (hwl : w.length < 100) : Ev (fun k => numeral_begins.f k s (i : Int) (mkB w)) (bgN ((L s).drop i) w) := by
  unfold numeral_begins.f
  have hw := w64_nat (x := (s.size : Int) - (i : Int)) (n := s.size - i) (by omega) (by rw [big_eq] at hs; omega)
  simp only [hw, size_mk]
  refine Ev.ite (fun h => ?_) (fun h => ?_)
  · exact Ev.done (by rw [bgN_short _ _ (by rw [List.length_drop, L_len]; omega)])
  · exact begins_l0 s hs i w hwd w 0 rfl (Nat.zero_le _) (by omega)
def monthL : List (List UInt8) := [[106, 97, 110], [102, 101, 98], [109, 97, 114], [97, 112, 114], [109, 97, 121], [106, 117, 110], [106, 117, 108], [97, 117, 103], [115, 101, 112], [111, 99, 116], [110, 111, 118], [100, 101, 99]]
/-- The first of the months from number m on that l begins with; 0: none. -/
def monF (l : List UInt8) : Nat → List (List UInt8) → Nat
  | _, [] => 0
  | m, w :: ws => if bgN l w = true then m + 1 else monF l (m + 1) ws
def monS (l : List UInt8) : Nat := monF (l.drop (blkN l)) 0 monthL
theorem months_word : ∀ m, m < 12 → isWord (monthL.getD m []) = true ∧ (monthL.getD m []).length = 3 ∧ rdOf ByteArray.empty G_months (m : Int) = mkB (monthL.getD m []) := by
  intro m hm
  rcases (by omega : m = 0 ∨ m = 1 ∨ m = 2 ∨ m = 3 ∨ m = 4 ∨ m = 5 ∨ m = 6 ∨ m = 7 ∨ m = 8 ∨ m = 9 ∨ m = 10 ∨ m = 11) with rfl | rfl | rfl | rfl | rfl | rfl | rfl | rfl | rfl | rfl | rfl | rfl <;> exact ⟨by decide, rfl, rfl⟩
theorem Month_l0 (s : ByteArray) (hs : s.size < big) (i : Nat) (hi : i ≤ s.size) : ∀ (ws : List (List UInt8)) (m : Nat), monthL.drop m = ws → m ≤ 12 → Ev (fun k => numeral_Month.l0 k s (i : Int) (m : Int)) ((monF ((L s).drop i) m ws : Nat) : Int)
  | [], m, h, hm => by
    have : monthL.length ≤ m := List.drop_eq_nil_iff.1 h
    have e : monthL.length = 12 := rfl
    refine Ev.succ ?_
    simp only [numeral_Month.l0]
    exact Ev.neg (by omega) (Ev.done rfl)
  | w :: ws, m, h, hm => by
    have hml : m < monthL.length := by
      rcases Nat.lt_or_ge m monthL.length with h' | h'
      · exact h'
      · rw [List.drop_eq_nil_iff.2 h'] at h; cases h
    have e : monthL.length = 12 := rfl
    have hw := List.drop_eq_getElem_cons hml
    rw [h] at hw
    injection hw with hw1 hw2
    obtain ⟨a, b, c⟩ := months_word m (by omega)
    have hg : monthL.getD m [] = w := by rw [hw1]; simp [List.getD, hml]
    rw [hg] at a b c
    have hws := w64_succ (i := m) (by omega)
    refine Ev.succ ?_
    simp only [numeral_Month.l0, c, hws]
    refine Ev.pos (by omega) (Ev.pos (by omega) (Ev.bind (begins_ev s hs i hi w a (by omega)) ?_))
    simp only [monF]
    refine Ev.ite (fun h1 => ?_) (fun h1 => ?_)
    · rw [if_pos h1]; exact Ev.pure _
    · rw [if_neg h1]; exact Month_l0 s hs i hi ws (m + 1) hw2.symm (by omega)
theorem Month_ev (s : ByteArray) (hs : s.size < big) : Ev (fun k => numeral_Month.f k s) (monS (L s) : Int) := by
  unfold numeral_Month.f
  exact Ev.bind (blanks_ev s hs) (Month_l0 s hs _ (blkN_le s) monthL 0 rfl (by omega))
end Go.Proofs.YtcdajedmlfhmeaaDoor.XN
end

section
/- Compare: what numeral computes. (by this session) -/
-- NEEDS numeral_digits cmp_isNaN_int cmp_Compare_int bytealg_CompareString strings_Compare cmp_Or_int numeral_order numeral_sizeOf numeral_human numeral_pair numeral_rank cmp_Compare_byte numeral_words numeral_runs numeral_versions
set_option linter.unusedVariables false
set_option linter.unusedSimpArgs false
namespace Go.Proofs.YtcdajedmlfhmeaaDoor.XN
open Go.RowKit Go.Proofs.YtcdajedmlfhmeaaDoorW.PrintWords Go.Proofs.YtcdajedmlfhmeaaDoorW.PrintMore

/-- A number as 0.DIGITS times ten to the Exp. -/
def digS (w f : List UInt8) (e : Int) : List UInt8 × Int :=
  if tl w = [] then if tr (tl f) = [] then ([], 0) else (tr (tl f), ((tl f).length : Int) - (f.length : Int) + e)
  else if tr (tl w ++ f) = [] then ([], 0) else (tr (tl w ++ f), ((tl w).length : Int) + e)
theorem digits_ev (w f : List UInt8) (e : Int) (hw : w.length < 2305843009213693952) (hf : f.length < 2305843009213693952) (he : -1125899906842624 ≤ e ∧ e ≤ 1125899906842624) :
    Ev (fun k => numeral_digits.f k (mkB w) (mkB f) e) (mkB (digS w f e).1, (digS w f e).2) := by
  unfold numeral_digits.f
  have h1 := tl_len w
  have h2 := tl_len f
  refine Ev.bind (TrimLeft_ev w (by rw [big_eq]; omega)) ?_
  unfold digS
  simp only [toList_mk]
  refine Ev.ite (fun h => ?_) (fun h => ?_)
  · rw [if_pos h]
    refine Ev.bind (TrimLeft_ev f (by rw [big_eq]; omega)) (Ev.bind (TrimRight_ev (tl f) (by rw [big_eq]; omega)) ?_)
    simp only [toList_mk]
    refine Ev.ite (fun h' => ?_) (fun h' => ?_)
    · rw [if_pos h']; exact Ev.pure _
    · rw [if_neg h']
      refine Ev.done ?_
      rw [size_mk, size_mk, w64 (x := ((tl f).length : Int) - (f.length : Int)) (by omega), w64 (by omega)]
  · rw [if_neg h]
    simp only [size_mk, mk_append]
    refine Ev.pos (by omega) (Ev.bind (TrimRight_ev (tl w ++ f) (by rw [big_eq, List.length_append]; omega)) ?_)
    simp only [toList_mk]
    refine Ev.ite (fun h' => ?_) (fun h' => ?_)
    · rw [if_pos h']; exact Ev.pure _
    · rw [if_neg h']
      refine Ev.done ?_
      rw [w64 (by omega)]

def cmpI (a b : Int) : Int := if a < b then -1 else if a > b then 1 else 0
theorem cmpI_range (a b : Int) : cmpI a b = -1 ∨ cmpI a b = 0 ∨ cmpI a b = 1 := by unfold cmpI; split; · simp
                                                                                   · split <;> simp
theorem Compare_int_f (a b : Int) : cmp_Compare_int.f a b = some (cmpI a b) := by
  unfold cmp_Compare_int.f cmp_isNaN_int.f cmpI
  simp only [Option.bind_some, bne_self_eq_false, Bool.false_eq_true, if_false]
  split
  · rfl
  · split <;> rfl
theorem Compare_byte_f (a b : Int) : cmp_Compare_byte.f a b = some (cmpI a b) := by
  unfold cmp_Compare_byte.f cmp_isNaN_byte.f cmpI
  simp only [Option.bind_some, bne_self_eq_false, Bool.false_eq_true, if_false]
  split
  · rfl
  · split <;> rfl
def bcmp (l m : List UInt8) : Int := Lib.compareBytes l m
theorem bcmp_range : ∀ (l m : List UInt8), bcmp l m = -1 ∨ bcmp l m = 0 ∨ bcmp l m = 1
  | [], [] => by simp [bcmp, Lib.compareBytes]
  | [], _ :: _ => by simp [bcmp, Lib.compareBytes]
  | _ :: _, [] => by simp [bcmp, Lib.compareBytes]
  | a :: l, b :: m => by
    have := bcmp_range l m
    unfold bcmp Lib.compareBytes
    split
    · simp
    · split
      · simp
      · exact this
theorem Compare_str_f (s t : ByteArray) : strings_Compare.f s t = some (bcmp (L s) (L t)) := rfl
/-- The first that is no 0. -/
def orS : List Int → Int
  | [] => 0
  | x :: xs => if x = 0 then orS xs else x
theorem Or_l0 (l : List Int) (hl : l.length < 100) : ∀ (m : List Int) (i : Nat), l.drop i = m → i ≤ l.length → Ev (fun k => cmp_Or_int.l0 k 0 l (l.length : Int) (i : Int)) (orS m)
  | [], i, h, hi => by
    have : l.length ≤ i := List.drop_eq_nil_iff.1 h
    refine Ev.succ ?_
    simp only [cmp_Or_int.l0]
    exact Ev.neg (by omega) (Ev.done rfl)
  | x :: m, i, h, hi => by
    have hil : i < l.length := by
      rcases Nat.lt_or_ge i l.length with h' | h'
      · exact h'
      · rw [List.drop_eq_nil_iff.2 h'] at h; cases h
    have e := List.drop_eq_getElem_cons hil
    rw [h] at e
    injection e with e1 e2
    have hr : rd l (i : Int) = x := by unfold rd; rw [Int.toNat_natCast, e1]; simp [List.getD, hil]
    refine Ev.succ ?_
    simp only [cmp_Or_int.l0, hr, w64_succ (i := i) (by omega)]
    refine Ev.pos (by omega) (Ev.pos (by omega) (Ev.pos (by omega) ?_))
    simp only [orS]
    refine Ev.ite (fun h1 => ?_) (fun h1 => ?_)
    · rw [if_pos h1]; exact Or_l0 l hl m (i + 1) e2.symm (by omega)
    · rw [if_neg h1]; exact Ev.pure _
theorem Or_ev (l : List Int) (hl : l.length < 100) : Ev (fun k => cmp_Or_int.f k l) (orS l) := by
  unfold cmp_Or_int.f
  exact Or_l0 l hl l 0 rfl (Nat.zero_le _)

/-- A number as it is compared: sign, rank, exponent, digits. -/
abbrev Sz := Int × Int × Int × List UInt8
def szS (n : Bool) (d : List UInt8) (x r : Int) : Sz := if d = [] then (0, 0, 0, []) else ((if n = true then -1 else 1), r, x, d)
theorem szS_sign (n : Bool) (d : List UInt8) (x r : Int) : (szS n d x r).1 = -1 ∨ (szS n d x r).1 = 0 ∨ (szS n d x r).1 = 1 := by
  unfold szS
  split
  · simp
  · split <;> simp
theorem sizeOf_f (n : Bool) (d : List UInt8) (x r : Int) : numeral_sizeOf.f n (mkB d) x r = some ((szS n d x r).1, (szS n d x r).2.1, (szS n d x r).2.2.1, mkB (szS n d x r).2.2.2) := by
  unfold numeral_sizeOf.f szS
  simp only [toList_mk]
  split
  · rfl
  · split <;> rfl
def ordS (a b : Sz) : Int := if a.1 = b.1 ∧ ¬ a.1 = 0 then a.1 * orS [cmpI a.2.1 b.2.1, cmpI a.2.2.1 b.2.2.1, bcmp a.2.2.2 b.2.2.2] else cmpI a.1 b.1
theorem orS_range {l : List Int} (h : ∀ x ∈ l, x = -1 ∨ x = 0 ∨ x = 1) : orS l = -1 ∨ orS l = 0 ∨ orS l = 1 := by
  induction l with
  | nil => simp [orS]
  | cons x l ih =>
    simp only [orS]
    split
    · exact ih (fun y hy => h y (List.mem_cons_of_mem _ hy))
    · exact h x (List.mem_cons_self)
theorem or3_range (a b : Sz) : orS [cmpI a.2.1 b.2.1, cmpI a.2.2.1 b.2.2.1, bcmp a.2.2.2 b.2.2.2] = -1 ∨ orS [cmpI a.2.1 b.2.1, cmpI a.2.2.1 b.2.2.1, bcmp a.2.2.2 b.2.2.2] = 0 ∨ orS [cmpI a.2.1 b.2.1, cmpI a.2.2.1 b.2.2.1, bcmp a.2.2.2 b.2.2.2] = 1 := by
  refine orS_range (fun x hx => ?_)
  simp only [List.mem_cons, List.not_mem_nil, or_false] at hx
  rcases hx with rfl | rfl | rfl
  · exact cmpI_range _ _
  · exact cmpI_range _ _
  · exact bcmp_range _ _
theorem order_ev (a b : Sz) (ha : a.1 = -1 ∨ a.1 = 0 ∨ a.1 = 1) : Ev (fun k => numeral_order.f k a.1 a.2.1 a.2.2.1 (mkB a.2.2.2) b.1 b.2.1 b.2.2.1 (mkB b.2.2.2)) (ordS a b) := by
  unfold numeral_order.f
  unfold ordS
  have h3 := or3_range a b
  refine Ev.ite (fun h => ?_) (fun h => ?_)
  · refine Ev.succ ?_
    simp only [numeral_order.j0, Compare_int_f, Compare_str_f, Option.bind_some, L_mk]
    refine Ev.ite (fun h' => ?_) (fun h' => ?_)
    · rw [if_neg (fun hh => hh.2 (by simpa using h'))]
      exact Ev.pure _
    · rw [if_pos ⟨h, by simpa using h'⟩]
      refine Ev.bind (Or_ev _ (by simp)) (Ev.done ?_)
      refine w64 ?_
      rcases ha with ha | ha | ha <;> rw [ha] <;> omega
  · refine Ev.succ ?_
    simp only [numeral_order.j0, Compare_int_f, Option.bind_some]
    rw [if_neg (fun hh => h hh.1)]
    exact Ev.pos trivial (Ev.pure _)
/-- n's and h's number of a text. -/
def huS (kind : Int) (s : ByteArray) : Sz :=
  szS (humS s).1.1 (digS (humS s).1.2.1 (humS s).1.2.2.1 0).1 (digS (humS s).1.2.1 (humS s).1.2.2.1 0).2 (if kind = 16 then 0 else ((humS s).2 : Int))
theorem dec_len (s : ByteArray) : (decS (L s)).2.1.length ≤ s.size ∧ (decS (L s)).2.2.1.length ≤ s.size := by
  unfold decS
  split
  · simp
  · have h1 := tl_len (plS ((L s).drop (sgN (L s)))).1
    have h2 := tr_len (plS ((L s).drop (sgN (L s)))).2.1
    have h3 := pl1_len ((L s).drop (sgN (L s)))
    have h4 := pl2_len ((L s).drop (sgN (L s)))
    have h5 := size_drop s (sgN (L s))
    simp only
    omega
theorem humS_fields (s : ByteArray) : (humS s).1.1 = (decS (L s)).1 ∧ (humS s).1.2.1 = (decS (L s)).2.1 ∧ (humS s).1.2.2.1 = (decS (L s)).2.2.1 := by
  unfold humS
  simp only
  split
  · exact ⟨rfl, rfl, rfl⟩
  · split <;> exact ⟨rfl, rfl, rfl⟩
theorem human_ev (kind : Int) (s : ByteArray) (hs : s.size < 2305843009213693952) : Ev (fun k => numeral_human.f k kind s) ((huS kind s).1, (huS kind s).2.1, (huS kind s).2.2.1, mkB (huS kind s).2.2.2) := by
  unfold numeral_human.f
  refine Ev.bind (Human_ev s (by rw [big_eq]; omega)) ?_
  obtain ⟨f1, f2, f3⟩ := humS_fields s
  have hl := dec_len s
  unfold huS humV
  simp only
  rw [f2, f3]
  refine Ev.ite (fun h => ?_) (fun h => ?_)
  · rw [if_pos h]
    refine Ev.bind (digits_ev _ _ 0 (by omega) (by omega) (by omega)) ?_
    simp only [sizeOf_f, Option.bind_some]
    exact Ev.pure _
  · rw [if_neg h]
    refine Ev.bind (digits_ev _ _ 0 (by omega) (by omega) (by omega)) ?_
    simp only [sizeOf_f, Option.bind_some]
    exact Ev.pure _

/-! ### versions -/
def noDg (c : UInt8) : Bool := !isDg c
def pr1 (l : List UInt8) : List UInt8 := l.takeWhile noDg
def pr2 (l : List UInt8) : List UInt8 := (l.dropWhile noDg).takeWhile isDg
def pr3 (l : List UInt8) : List UInt8 := (l.dropWhile noDg).dropWhile isDg
theorem pr_all (l : List UInt8) : pr1 l ++ (pr2 l ++ pr3 l) = l := by
  unfold pr1 pr2 pr3
  rw [List.takeWhile_append_dropWhile, List.takeWhile_append_dropWhile]
theorem pr_len (l : List UInt8) : (pr1 l).length + (pr2 l).length + (pr3 l).length = l.length := by
  have := congrArg List.length (pr_all l)
  rw [List.length_append, List.length_append] at this
  omega
theorem pr_short {l : List UInt8} (h : l ≠ []) : (pr3 l).length < l.length := by
  have hl := pr_len l
  cases l with
  | nil => exact absurd rfl h
  | cons c r =>
    by_cases hc : isDg c = true
    · have : 0 < (pr2 (c :: r)).length := by
        unfold pr2
        rw [List.dropWhile_cons, if_neg (by simp [noDg, hc]), List.takeWhile_cons, if_pos hc]
        simp
      omega
    · have : 0 < (pr1 (c :: r)).length := by
        unfold pr1
        rw [List.takeWhile_cons, if_pos (by simp [noDg, hc])]
        simp
      omega
theorem digit_f (c : UInt8) : numeral_digit.f (c.toNat : Int) = some (isDg c) := plainDig_f _
theorem pair_l1 (s : ByteArray) (hs : s.size < big) (i : Nat) (hi : i ≤ s.size) (hx : (L s).take i = pr1 (L s)) (hy : (L s).drop i = (L s).dropWhile noDg) :
    Ev (fun k => numeral_pair.l1 k s (i : Int) (i : Int)) (mkB (pr1 (L s)), mkB (pr2 (L s)), mkB (pr3 (L s))) := by
  refine scan (p := isDg) (F := fun k j => numeral_pair.l1 k s (i : Int) j) hs (fun k j c h1 h2 hp => ?_) ((L s).drop i) i rfl ?_
  · simp only [numeral_pair.l1, h2, digit_f, Option.bind_some, w64_succ (i := j) (by rw [big_eq] at hs; omega)]
    rw [if_pos (by omega), if_pos (by omega), if_pos hp]
  · have e1 : s.extract 0 ((i : Int)).toNat = mkB (pr1 (L s)) := by rw [extract_front, Int.toNat_natCast, hx]
    have e2 : s.extract ((i : Int)).toNat (((i + (((L s).drop i).takeWhile isDg).length : Nat) : Int)).toNat = mkB (pr2 (L s)) := by
      rw [extract_mk', Int.toNat_natCast, Int.toNat_natCast, Nat.add_sub_cancel_left, take_run, hy]; rfl
    have e3 : s.extract (((i + (((L s).drop i).takeWhile isDg).length : Nat) : Int)).toNat s.size = mkB (pr3 (L s)) := by
      rw [extract_end, Int.toNat_natCast, (behind (p := isDg) hi).2, hy]; rfl
    have hb := (behind (p := isDg) hi).1
    refine Ev.succ ?_
    rcases stop_at (s := s) (p := isDg) hi with ⟨h, _⟩ | ⟨c, r, h1, h2, h3, _⟩
    · simp only [numeral_pair.l1, e1, e2, e3]
      exact Ev.neg (by omega) (Ev.pos (by omega) (Ev.pos (by omega) (Ev.pos (by omega) (Ev.pos (by omega) (Ev.pos (by omega) (Ev.pure _))))))
    · simp only [numeral_pair.l1, h2, digit_f, Option.bind_some, e1, e2, e3]
      exact Ev.pos (by omega) (Ev.pos (by omega) (Ev.neg (by rw [h3]; decide) (Ev.pos (by omega) (Ev.pos (by omega) (Ev.pos (by omega) (Ev.pos (by omega) (Ev.pure _)))))))
theorem pair_ev (s : ByteArray) (hs : s.size < big) : Ev (fun k => numeral_pair.f k s) (mkB (pr1 (L s)), mkB (pr2 (L s)), mkB (pr3 (L s))) := by
  unfold numeral_pair.f
  refine scan (p := noDg) (F := fun k j => numeral_pair.l0 k s j) hs (fun k j c h1 h2 hp => ?_) (L s) 0 rfl ?_
  · have hp' : isDg c = false := by simpa [noDg] using hp
    simp only [numeral_pair.l0, h2, digit_f, Option.bind_some, w64_succ (i := j) (by rw [big_eq] at hs; omega)]
    rw [if_pos (by omega), if_pos (by omega), if_neg (by rw [hp']; decide)]
  · have hst := stop_at (s := s) (p := noDg) (i := 0) (Nat.zero_le _)
    have hb := behind (s := s) (p := noDg) (i := 0) (Nat.zero_le _)
    simp only [Nat.zero_add, List.drop_zero] at *
    have key := pair_l1 s hs _ hb.1 (by rw [take_run]; rfl) hb.2
    refine Ev.succ ?_
    rcases hst with ⟨h, _⟩ | ⟨c, r, h1, h2, h3, _⟩
    · simp only [numeral_pair.l0]
      refine Ev.neg (by omega) (Ev.succ ?_)
      simp only [numeral_pair.j1]
      exact key
    · have hp' : isDg c = true := by simpa [noDg] using h3
      simp only [numeral_pair.l0, h2, digit_f, Option.bind_some]
      refine Ev.pos (by omega) (Ev.pos (by omega) (Ev.pos hp' (Ev.succ ?_)))
      simp only [numeral_pair.j1]
      exact key

def rkB (c : UInt8) : Int := rankF (c.toNat : Int)
theorem rank_f (c : UInt8) : numeral_rank.f (c.toNat : Int) = some (rkB c) := by
  unfold numeral_rank.f
  have := u8_lt c
  rw [if_pos (by omega)]
  rfl
/-- The order of two runs without digits. -/
def wdS : List UInt8 → List UInt8 → Int
  | [], [] => 0
  | a :: l, [] => if rkB a = 2 then wdS l [] else cmpI (rkB a) 2
  | [], b :: m => if 2 = rkB b then wdS [] m else cmpI 2 (rkB b)
  | a :: l, b :: m => if rkB a = rkB b then wdS l m else cmpI (rkB a) (rkB b)
theorem words_l0 (s t : ByteArray) (hs : s.size < big) (ht : t.size < big) (n : Nat) (hn : n = max s.size t.size) : ∀ (d i : Nat), n - i = d → i ≤ n →
    Ev (fun k => numeral_words.l0 k s t (n : Int) (i : Int)) (wdS ((L s).drop i) ((L t).drop i))
  | 0, i, h, hi => by
    refine Ev.succ ?_
    simp only [numeral_words.l0]
    rw [List.drop_eq_nil_iff.2 (by rw [L_len]; omega), List.drop_eq_nil_iff.2 (by rw [L_len]; omega)]
    exact Ev.neg (by omega) (Ev.done (by simp [wdS]))
  | d + 1, i, h, hi => by
    have hsu := w64_succ (i := i) (by rw [big_eq] at *; omega)
    have ih := words_l0 s t hs ht n hn d (i + 1) (by omega) (by omega)
    refine Ev.succ ?_
    simp only [numeral_words.l0]
    refine Ev.pos (by omega) ?_
    by_cases h1 : i < s.size
    · obtain ⟨a, ha, hb⟩ := drop_some h1
      rw [hb, rank_f]
      simp only [Option.bind_some]
      refine Ev.pos (by omega) (Ev.pos (by omega) (Ev.succ ?_))
      simp only [numeral_words.j1, hsu]
      by_cases h2 : i < t.size
      · obtain ⟨b, hc, hd⟩ := drop_some h2
        rw [hd, rank_f]
        simp only [Option.bind_some, Compare_byte_f]
        rw [ha, hc]
        simp only [wdS]
        refine Ev.pos (by omega) (Ev.pos (by omega) (Ev.ite (fun h3 => ?_) (fun h3 => ?_)))
        · rw [if_pos h3]; exact ih
        · rw [if_neg h3]; exact Ev.pure _
      · have hz : (L t).drop i = [] := List.drop_eq_nil_iff.2 (by rw [L_len]; omega)
        have hz1 : (L t).drop (i + 1) = [] := List.drop_eq_nil_iff.2 (by rw [L_len]; omega)
        rw [hz1] at ih
        rw [ha, hz]
        simp only [wdS, Compare_byte_f, Option.bind_some]
        refine Ev.neg (by omega) (Ev.ite (fun h3 => ?_) (fun h3 => ?_))
        · rw [if_pos h3]; exact ih
        · rw [if_neg h3]; exact Ev.pure _
    · have h2 : i < t.size := by omega
      obtain ⟨b, hc, hd⟩ := drop_some h2
      have hz : (L s).drop i = [] := List.drop_eq_nil_iff.2 (by rw [L_len]; omega)
      have hz1 : (L s).drop (i + 1) = [] := List.drop_eq_nil_iff.2 (by rw [L_len]; omega)
      rw [hz1] at ih
      refine Ev.neg (by omega) (Ev.succ ?_)
      simp only [numeral_words.j1, hsu]
      rw [hd, rank_f]
      simp only [Option.bind_some, Compare_byte_f]
      rw [hz, hc]
      simp only [wdS]
      refine Ev.pos (by omega) (Ev.pos (by omega) (Ev.ite (fun h3 => ?_) (fun h3 => ?_)))
      · rw [if_pos h3]; exact ih
      · rw [if_neg h3]; exact Ev.pure _
theorem words_ev (l m : List UInt8) (hl : l.length < big) (hm : m.length < big) : Ev (fun k => numeral_words.f k (mkB l) (mkB m)) (wdS l m) := by
  unfold numeral_words.f
  have e : mx ((mkB l).size : Int) ((mkB m).size : Int) = ((max (mkB l).size (mkB m).size : Nat) : Int) := by
    unfold mx
    split <;> omega
  rw [e]
  exact words_l0 (mkB l) (mkB m) (by rwa [size_mk]) (by rwa [size_mk]) _ rfl _ 0 rfl (Nat.zero_le _)
/-- The order of two runs of digits. -/
def rnS (l m : List UInt8) : Int :=
  if l = [] ∨ m = [] then cmpI (if l = [] then 0 else 1) (if m = [] then 0 else 1) else orS [cmpI ((tl l).length : Int) ((tl m).length : Int), bcmp (tl l) (tl m)]
theorem mn_len (l : List UInt8) : mn ((mkB l).size : Int) 1 = if l = [] then 0 else 1 := by
  unfold mn
  rw [size_mk]
  cases l with
  | nil => rfl
  | cons c r => simp only [List.length_cons, reduceCtorEq, if_false]; split <;> omega
theorem runs_ev (l m : List UInt8) (hl : l.length < big) (hm : m.length < big) : Ev (fun k => numeral_runs.f k (mkB l) (mkB m)) (rnS l m) := by
  unfold numeral_runs.f rnS
  simp only [toList_mk]
  refine Ev.ite (fun h => ?_) (fun h => ?_)
  · refine Ev.succ ?_
    simp only [numeral_runs.j0, mn_len, Compare_int_f, Option.bind_some]
    rw [if_pos (Or.inl h)]
    exact Ev.pos trivial (Ev.pure _)
  · refine Ev.succ ?_
    simp only [numeral_runs.j0, mn_len, Compare_int_f, Option.bind_some]
    refine Ev.ite (fun h' => ?_) (fun h' => ?_)
    · rw [if_pos (Or.inr (List.isEmpty_iff.1 h'))]
      exact Ev.pure _
    · rw [if_neg (by rintro (h1 | h1); exact h h1; exact h' (by rw [h1]; rfl))]
      refine Ev.bind (TrimLeft_ev l hl) (Ev.bind (TrimLeft_ev m hm) ?_)
      simp only [Compare_str_f, Option.bind_some, L_mk, size_mk]
      exact Ev.bind (Or_ev _ (by simp)) (Ev.pure _)
def vrF : Nat → List UInt8 → List UInt8 → Int
  | 0, _, _ => 0
  | n + 1, l, m => if l = [] ∧ m = [] then 0 else if orS [wdS (pr1 l) (pr1 m), rnS (pr2 l) (pr2 m)] = 0 then vrF n (pr3 l) (pr3 m) else orS [wdS (pr1 l) (pr1 m), rnS (pr2 l) (pr2 m)]
def vrS (l m : List UInt8) : Int := vrF (l.length + m.length + 1) l m
theorem pr3_nil : pr3 [] = [] := rfl
theorem versions_l0 : ∀ (n : Nat) (l m : List UInt8), l.length + m.length < n → l.length < big → m.length < big → Ev (fun k => numeral_versions.l0 k (mkB l) (mkB m)) (vrF n l m)
  | 0, l, m, h, _, _ => by omega
  | n + 1, l, m, h, hl, hm => by
    have step : ¬ (l = [] ∧ m = []) → Ev (fun k => numeral_versions.j1 k (mkB l) (mkB m) true) (vrF (n + 1) l m) := by
      intro hne
      have h1 := pr_len l
      have h2 := pr_len m
      have hsh : (pr3 l).length + (pr3 m).length < l.length + m.length := by
        by_cases hl0 : l = []
        · subst hl0
          have := pr_short (l := m) (fun hm0 => hne ⟨rfl, hm0⟩)
          rw [pr3_nil]; omega
        · have := pr_short hl0
          omega
      refine Ev.succ ?_
      simp only [numeral_versions.j1]
      refine Ev.pos trivial (Ev.bind (pair_ev (mkB l) (by rwa [size_mk])) (Ev.bind (pair_ev (mkB m) (by rwa [size_mk])) ?_))
      simp only [L_mk]
      refine Ev.bind (words_ev _ _ (by omega) (by omega)) (Ev.bind (runs_ev _ _ (by omega) (by omega)) (Ev.bind (Or_ev _ (by simp)) ?_))
      simp only [vrF]
      rw [if_neg hne]
      refine Ev.ite (fun h3 => ?_) (fun h3 => ?_)
      · rw [if_pos h3]
        exact versions_l0 n _ _ (by omega) (by omega) (by omega)
      · rw [if_neg h3]; exact Ev.pure _
    refine Ev.succ ?_
    simp only [numeral_versions.l0, toList_mk]
    refine Ev.ite (fun h1 => ?_) (fun h1 => ?_)
    · by_cases h2 : m = []
      · subst h1 h2
        refine Ev.succ ?_
        simp only [numeral_versions.j1]
        exact Ev.neg (by decide) (Ev.done rfl)
      · have : (!m.isEmpty) = true := by cases m <;> simp_all
        rw [this]
        exact step (fun hh => h2 hh.2)
    · exact step (fun hh => h1 hh.1)
theorem versions_ev (s t : ByteArray) (hs : s.size < big) (ht : t.size < big) : Ev (fun k => numeral_versions.f k s t) (vrS (L s) (L t)) := by
  unfold numeral_versions.f
  have := versions_l0 ((L s).length + (L t).length + 1) (L s) (L t) (by omega) (by rwa [L_len]) (by rwa [L_len])
  simp only [mk_L] at this
  exact this
end Go.Proofs.YtcdajedmlfhmeaaDoor.XN
end

section
/- The laws' head: what must come. (by this session) -/
-- NEEDS numeral_Compare milllaw3_alive
set_option linter.unusedVariables false
set_option linter.unusedSimpArgs false
namespace Go.Proofs.YtcdajedmlfhmeaaDoor.XN
open Go.RowKit Go.Proofs.YtcdajedmlfhmeaaDoorW.PrintWords Go.Proofs.YtcdajedmlfhmeaaDoorW.PrintMore

theorem Compare_h (kind : Int) (hk : kind = 16 ∨ kind = 64) (s t : ByteArray) (hs : s.size < 2305843009213693952) (ht : t.size < 2305843009213693952) : Ev (fun k => numeral_Compare.f k kind s t) (ordS (huS kind s) (huS kind t)) := by
  have key : Ev (fun k => numeral_Compare.j0 k kind s t kind true) (ordS (huS kind s) (huS kind t)) := by
    refine Ev.succ ?_
    simp only [numeral_Compare.j0]
    refine Ev.pos trivial (Ev.bind (human_ev kind s hs) (Ev.bind (human_ev kind t ht) (Ev.bind (order_ev (huS kind s) (huS kind t) ?_) (Ev.pure _))))
    unfold huS
    exact szS_sign _ _ _ _
  unfold numeral_Compare.f
  rcases hk with rfl | rfl
  · exact Ev.pos rfl key
  · exact Ev.neg (by decide) key
theorem Compare_m (s t : ByteArray) (hs : s.size < big) (ht : t.size < big) : Ev (fun k => numeral_Compare.f k 128 s t) (cmpI (monS (L s)) (monS (L t))) := by
  unfold numeral_Compare.f
  refine Ev.neg (by decide) (Ev.succ ?_)
  simp only [numeral_Compare.j0, Compare_int_f, Option.bind_some]
  refine Ev.neg (by decide) (Ev.pos trivial (Ev.bind (Month_ev s hs) (Ev.bind (Month_ev t ht) (Ev.pure _))))
theorem Compare_v (s t : ByteArray) (hs : s.size < big) (ht : t.size < big) : Ev (fun k => numeral_Compare.f k 256 s t) (vrS (L s) (L t)) := by
  unfold numeral_Compare.f
  refine Ev.neg (by decide) (Ev.succ ?_)
  simp only [numeral_Compare.j0]
  refine Ev.neg (by decide) (Ev.neg (by decide) (Ev.pos trivial (Ev.bind (versions_ev s t hs ht) (Ev.pure _))))
theorem alive_dec : decS [45, 49, 50, 46, 53, 120] = (true, [49, 50], [53], 5) := by decide +kernel
theorem alive_n : ordS (huS 16 ⟨#[57]⟩) (huS 16 ⟨#[49, 48]⟩) = -1 := by decide +kernel
theorem alive_v : vrS [98] [97] = 1 := by
  have h1 : wdS [98] [97] = 1 := by simp only [wdS]; decide +kernel
  have e1 : pr1 [98] = [98] := by decide +kernel
  have e2 : pr1 [97] = [97] := by decide +kernel
  unfold vrS
  simp only [List.length_cons, List.length_nil, vrF, e1, e2, h1, orS]
  decide
theorem alive_ev : Ev (fun k => milllaw3_alive.f k) true := by
  unfold milllaw3_alive.f
  refine Ev.bind (Decimal_ev ⟨#[45, 49, 50, 46, 53, 120]⟩ (by decide)) ?_
  have e : decV (L ⟨#[45, 49, 50, 46, 53, 120]⟩) = (true, mkB [49, 50], mkB [53], 5) := by
    unfold decV
    rw [show L ⟨#[45, 49, 50, 46, 53, 120]⟩ = [45, 49, 50, 46, 53, 120] from rfl, alive_dec]
    rfl
  rw [e]
  simp only [toList_mk]
  refine Ev.pos trivial (Ev.pos trivial (Ev.pos trivial (Ev.pos trivial ?_)))
  refine Ev.bind (Compare_h 16 (Or.inl rfl) _ _ (by decide) (by decide)) ?_
  rw [alive_n]
  refine Ev.pos rfl (Ev.bind (Compare_v _ _ (by decide) (by decide)) ?_)
  rw [show L ⟨#[98]⟩ = [98] from rfl, show L ⟨#[97]⟩ = [97] from rfl, alive_v]
  exact Ev.done rfl
end Go.Proofs.YtcdajedmlfhmeaaDoor.XN
end

namespace Go.Proofs.YtcdajedmlfhmeaaDoor.XN
open Go.RowKit Go.Proofs.YtcdajedmlfhmeaaDoorW.PrintWords Go.Proofs.YtcdajedmlfhmeaaDoorW.PrintLast Go.Proofs.YtcdajedmlfhmeaaDoorW.PrintMore
attribute [local go_sem] max2_int min2_int max_two min_two max_three min_three max_four min_four
set_option linter.unusedVariables false
set_option linter.unusedSimpArgs false

/-! ### millref3_exponent: function 47 -/
def millref3_exponent.l0 : Nat → Bool → Int → ByteArray → Int → Int → Option (Int × Int)
 | 0, _, _, _, _, _ => none
 | k + 1, x7, x8, x9, x10, x11 => if x11 < (x9.size : Int) then (if x11 < 14 then (if 0 ≤ x11 then (millref3_exponent.l0 k x7 x8 x9 (wrap64 ((wrap64 (10 * x10)) + (((bt x9 x11) - 48) % 256))) (wrap64 (x11 + 1))) else (none)) else (if x10 > 1099511627776 then (if x7 = true then (some (-1099511627776, x8)) else (some (1099511627776, x8))) else (if (x9.size : Int) > 14 then (if x7 = true then (some (-1099511627776, x8)) else (some (1099511627776, x8))) else (if x7 = true then (some (wrap64 (-x10), x8)) else (some (x10, x8)))))) else (if x10 > 1099511627776 then (if x7 = true then (some (-1099511627776, x8)) else (some (1099511627776, x8))) else (if (x9.size : Int) > 14 then (if x7 = true then (some (-1099511627776, x8)) else (some (1099511627776, x8))) else (if x7 = true then (some (wrap64 (-x10), x8)) else (some (x10, x8)))))
def millref3_exponent.f (k : Nat) (a0 : ByteArray) (a1 : Int) : Option (Int × Int) := if a1 ≥ (a0.size : Int) then (some (0, a1)) else (if 0 ≤ a1 then (if a1 < (a0.size : Int) then ((millref3_low.f (bt a0 a1)).bind fun t360 => (if t360 = 101 then (if (wrap64 (a1 + 1)) < (a0.size : Int) then (if 0 ≤ (wrap64 (a1 + 1)) then (if (bt a0 (wrap64 (a1 + 1))) = 45 then ((millref3_run.f k a0 (wrap64 ((wrap64 (a1 + 1)) + 1))).bind fun t361 => (if t361 = (wrap64 ((wrap64 (a1 + 1)) + 1)) then (some (0, a1)) else (if 0 ≤ (wrap64 ((wrap64 (a1 + 1)) + 1)) then (if (wrap64 ((wrap64 (a1 + 1)) + 1)) ≤ t361 then (if t361 ≤ (a0.size : Int) then ((millref3_zeros.f k (a0.extract ((wrap64 ((wrap64 (a1 + 1)) + 1)) : Int).toNat (t361 : Int).toNat)).bind fun t362 => (if 0 ≤ t362 then (if t362 ≤ ((t361.toNat - ((wrap64 ((wrap64 (a1 + 1)) + 1)) : Int).toNat : Nat) : Int) then (millref3_exponent.l0 k ((bt a0 (wrap64 (a1 + 1))) == 45) t361 ((a0.extract ((wrap64 ((wrap64 (a1 + 1)) + 1)) : Int).toNat (t361 : Int).toNat).extract (t362 : Int).toNat (t361.toNat - ((wrap64 ((wrap64 (a1 + 1)) + 1)) : Int).toNat)) 0 0) else (none)) else (none))) else (none)) else (none)) else (none)))) else (if (bt a0 (wrap64 (a1 + 1))) = 43 then ((millref3_run.f k a0 (wrap64 ((wrap64 (a1 + 1)) + 1))).bind fun t363 => (if t363 = (wrap64 ((wrap64 (a1 + 1)) + 1)) then (some (0, a1)) else (if 0 ≤ (wrap64 ((wrap64 (a1 + 1)) + 1)) then (if (wrap64 ((wrap64 (a1 + 1)) + 1)) ≤ t363 then (if t363 ≤ (a0.size : Int) then ((millref3_zeros.f k (a0.extract ((wrap64 ((wrap64 (a1 + 1)) + 1)) : Int).toNat (t363 : Int).toNat)).bind fun t364 => (if 0 ≤ t364 then (if t364 ≤ ((t363.toNat - ((wrap64 ((wrap64 (a1 + 1)) + 1)) : Int).toNat : Nat) : Int) then (millref3_exponent.l0 k ((bt a0 (wrap64 (a1 + 1))) == 45) t363 ((a0.extract ((wrap64 ((wrap64 (a1 + 1)) + 1)) : Int).toNat (t363 : Int).toNat).extract (t364 : Int).toNat (t363.toNat - ((wrap64 ((wrap64 (a1 + 1)) + 1)) : Int).toNat)) 0 0) else (none)) else (none))) else (none)) else (none)) else (none)))) else ((millref3_run.f k a0 (wrap64 (a1 + 1))).bind fun t365 => (if t365 = (wrap64 (a1 + 1)) then (some (0, a1)) else (if (wrap64 (a1 + 1)) ≤ t365 then (if t365 ≤ (a0.size : Int) then ((millref3_zeros.f k (a0.extract ((wrap64 (a1 + 1)) : Int).toNat (t365 : Int).toNat)).bind fun t366 => (if 0 ≤ t366 then (if t366 ≤ ((t365.toNat - ((wrap64 (a1 + 1)) : Int).toNat : Nat) : Int) then (millref3_exponent.l0 k false t365 ((a0.extract ((wrap64 (a1 + 1)) : Int).toNat (t365 : Int).toNat).extract (t366 : Int).toNat (t365.toNat - ((wrap64 (a1 + 1)) : Int).toNat)) 0 0) else (none)) else (none))) else (none)) else (none)))))) else (none)) else ((millref3_run.f k a0 (wrap64 (a1 + 1))).bind fun t367 => (if t367 = (wrap64 (a1 + 1)) then (some (0, a1)) else (if 0 ≤ (wrap64 (a1 + 1)) then (if (wrap64 (a1 + 1)) ≤ t367 then (if t367 ≤ (a0.size : Int) then ((millref3_zeros.f k (a0.extract ((wrap64 (a1 + 1)) : Int).toNat (t367 : Int).toNat)).bind fun t368 => (if 0 ≤ t368 then (if t368 ≤ ((t367.toNat - ((wrap64 (a1 + 1)) : Int).toNat : Nat) : Int) then (millref3_exponent.l0 k false t367 ((a0.extract ((wrap64 (a1 + 1)) : Int).toNat (t367 : Int).toNat).extract (t368 : Int).toNat (t367.toNat - ((wrap64 (a1 + 1)) : Int).toNat)) 0 0) else (none)) else (none))) else (none)) else (none)) else (none))))) else (some (0, a1)))) else (none)) else (none))
set_option maxHeartbeats 8000000 in
set_option maxRecDepth 100000 in
theorem millref3_exponent.calls (k : Nat) (a0 : ByteArray) (a1 : Int) (r1 : Int) (r2 : Int) (w : World) (h : millref3_exponent.f k a0 a1 = some (r1, r2)) :
  Calls Tryd.prog 47 #[.string a0, .int .i64 a1] w fun e w' => e = .returned (.tuple #[.int .i64 r1, .int .i64 r2]) ∧ Drawn0 w w' := by
 have H : (if a1 ≥ (a0.size : Int) then (some (0, a1)) else (if 0 ≤ a1 then (if a1 < (a0.size : Int) then ((millref3_low.f (bt a0 a1)).bind fun t360 => (if t360 = 101 then (if (wrap64 (a1 + 1)) < (a0.size : Int) then (if 0 ≤ (wrap64 (a1 + 1)) then (if (bt a0 (wrap64 (a1 + 1))) = 45 then ((millref3_run.f k a0 (wrap64 ((wrap64 (a1 + 1)) + 1))).bind fun t361 => (if t361 = (wrap64 ((wrap64 (a1 + 1)) + 1)) then (some (0, a1)) else (if 0 ≤ (wrap64 ((wrap64 (a1 + 1)) + 1)) then (if (wrap64 ((wrap64 (a1 + 1)) + 1)) ≤ t361 then (if t361 ≤ (a0.size : Int) then ((millref3_zeros.f k (a0.extract ((wrap64 ((wrap64 (a1 + 1)) + 1)) : Int).toNat (t361 : Int).toNat)).bind fun t362 => (if 0 ≤ t362 then (if t362 ≤ ((t361.toNat - ((wrap64 ((wrap64 (a1 + 1)) + 1)) : Int).toNat : Nat) : Int) then (millref3_exponent.l0 k ((bt a0 (wrap64 (a1 + 1))) == 45) t361 ((a0.extract ((wrap64 ((wrap64 (a1 + 1)) + 1)) : Int).toNat (t361 : Int).toNat).extract (t362 : Int).toNat (t361.toNat - ((wrap64 ((wrap64 (a1 + 1)) + 1)) : Int).toNat)) 0 0) else (none)) else (none))) else (none)) else (none)) else (none)))) else (if (bt a0 (wrap64 (a1 + 1))) = 43 then ((millref3_run.f k a0 (wrap64 ((wrap64 (a1 + 1)) + 1))).bind fun t363 => (if t363 = (wrap64 ((wrap64 (a1 + 1)) + 1)) then (some (0, a1)) else (if 0 ≤ (wrap64 ((wrap64 (a1 + 1)) + 1)) then (if (wrap64 ((wrap64 (a1 + 1)) + 1)) ≤ t363 then (if t363 ≤ (a0.size : Int) then ((millref3_zeros.f k (a0.extract ((wrap64 ((wrap64 (a1 + 1)) + 1)) : Int).toNat (t363 : Int).toNat)).bind fun t364 => (if 0 ≤ t364 then (if t364 ≤ ((t363.toNat - ((wrap64 ((wrap64 (a1 + 1)) + 1)) : Int).toNat : Nat) : Int) then (millref3_exponent.l0 k ((bt a0 (wrap64 (a1 + 1))) == 45) t363 ((a0.extract ((wrap64 ((wrap64 (a1 + 1)) + 1)) : Int).toNat (t363 : Int).toNat).extract (t364 : Int).toNat (t363.toNat - ((wrap64 ((wrap64 (a1 + 1)) + 1)) : Int).toNat)) 0 0) else (none)) else (none))) else (none)) else (none)) else (none)))) else ((millref3_run.f k a0 (wrap64 (a1 + 1))).bind fun t365 => (if t365 = (wrap64 (a1 + 1)) then (some (0, a1)) else (if (wrap64 (a1 + 1)) ≤ t365 then (if t365 ≤ (a0.size : Int) then ((millref3_zeros.f k (a0.extract ((wrap64 (a1 + 1)) : Int).toNat (t365 : Int).toNat)).bind fun t366 => (if 0 ≤ t366 then (if t366 ≤ ((t365.toNat - ((wrap64 (a1 + 1)) : Int).toNat : Nat) : Int) then (millref3_exponent.l0 k false t365 ((a0.extract ((wrap64 (a1 + 1)) : Int).toNat (t365 : Int).toNat).extract (t366 : Int).toNat (t365.toNat - ((wrap64 (a1 + 1)) : Int).toNat)) 0 0) else (none)) else (none))) else (none)) else (none)))))) else (none)) else ((millref3_run.f k a0 (wrap64 (a1 + 1))).bind fun t367 => (if t367 = (wrap64 (a1 + 1)) then (some (0, a1)) else (if 0 ≤ (wrap64 (a1 + 1)) then (if (wrap64 (a1 + 1)) ≤ t367 then (if t367 ≤ (a0.size : Int) then ((millref3_zeros.f k (a0.extract ((wrap64 (a1 + 1)) : Int).toNat (t367 : Int).toNat)).bind fun t368 => (if 0 ≤ t368 then (if t368 ≤ ((t367.toNat - ((wrap64 (a1 + 1)) : Int).toNat : Nat) : Int) then (millref3_exponent.l0 k false t367 ((a0.extract ((wrap64 (a1 + 1)) : Int).toNat (t367 : Int).toNat).extract (t368 : Int).toNat (t367.toNat - ((wrap64 (a1 + 1)) : Int).toNat)) 0 0) else (none)) else (none))) else (none)) else (none)) else (none))))) else (some (0, a1)))) else (none)) else (none))) = some (r1, r2) := h
 clear h
 by_cases c3 : a1 ≥ (a0.size : Int)
 ·
  rw [if_pos c3] at H
  have c3b0 : decide ((a0.size : Int) ≤ a1) = true := decide_eq_true c3
  clear c3
  simp only [Option.some.injEq, Prod.mk.injEq] at H
  obtain ⟨rfl, rfl⟩ := H
  go_enter Tryd.func47, Tryd.ntmps47
  go_wp2
  go_ret2
  exact ⟨qnp2_, qnp4_⟩
 ·
  rw [if_neg c3] at H
  have c3b0 : decide ((a0.size : Int) ≤ a1) = false := decide_eq_false c3
  clear c3
  by_cases c4 : 0 ≤ a1
  ·
   rw [if_pos c4] at H
   have c4b0 : decide (0 ≤ a1) = true := decide_eq_true c4
   clear c4
   by_cases c5 : a1 < (a0.size : Int)
   ·
    rw [if_pos c5] at H
    have c5b0 : decide (a1 < (a0.size : Int)) = true := decide_eq_true c5
    clear c5
    replace H := Option.bind_eq_some_iff.mp H
    obtain ⟨t360, A70, H⟩ := H
    replace H : (if t360 = 101 then (if (wrap64 (a1 + 1)) < (a0.size : Int) then (if 0 ≤ (wrap64 (a1 + 1)) then (if (bt a0 (wrap64 (a1 + 1))) = 45 then ((millref3_run.f k a0 (wrap64 ((wrap64 (a1 + 1)) + 1))).bind fun t361 => (if t361 = (wrap64 ((wrap64 (a1 + 1)) + 1)) then (some (0, a1)) else (if 0 ≤ (wrap64 ((wrap64 (a1 + 1)) + 1)) then (if (wrap64 ((wrap64 (a1 + 1)) + 1)) ≤ t361 then (if t361 ≤ (a0.size : Int) then ((millref3_zeros.f k (a0.extract ((wrap64 ((wrap64 (a1 + 1)) + 1)) : Int).toNat (t361 : Int).toNat)).bind fun t362 => (if 0 ≤ t362 then (if t362 ≤ ((t361.toNat - ((wrap64 ((wrap64 (a1 + 1)) + 1)) : Int).toNat : Nat) : Int) then (millref3_exponent.l0 k ((bt a0 (wrap64 (a1 + 1))) == 45) t361 ((a0.extract ((wrap64 ((wrap64 (a1 + 1)) + 1)) : Int).toNat (t361 : Int).toNat).extract (t362 : Int).toNat (t361.toNat - ((wrap64 ((wrap64 (a1 + 1)) + 1)) : Int).toNat)) 0 0) else (none)) else (none))) else (none)) else (none)) else (none)))) else (if (bt a0 (wrap64 (a1 + 1))) = 43 then ((millref3_run.f k a0 (wrap64 ((wrap64 (a1 + 1)) + 1))).bind fun t363 => (if t363 = (wrap64 ((wrap64 (a1 + 1)) + 1)) then (some (0, a1)) else (if 0 ≤ (wrap64 ((wrap64 (a1 + 1)) + 1)) then (if (wrap64 ((wrap64 (a1 + 1)) + 1)) ≤ t363 then (if t363 ≤ (a0.size : Int) then ((millref3_zeros.f k (a0.extract ((wrap64 ((wrap64 (a1 + 1)) + 1)) : Int).toNat (t363 : Int).toNat)).bind fun t364 => (if 0 ≤ t364 then (if t364 ≤ ((t363.toNat - ((wrap64 ((wrap64 (a1 + 1)) + 1)) : Int).toNat : Nat) : Int) then (millref3_exponent.l0 k ((bt a0 (wrap64 (a1 + 1))) == 45) t363 ((a0.extract ((wrap64 ((wrap64 (a1 + 1)) + 1)) : Int).toNat (t363 : Int).toNat).extract (t364 : Int).toNat (t363.toNat - ((wrap64 ((wrap64 (a1 + 1)) + 1)) : Int).toNat)) 0 0) else (none)) else (none))) else (none)) else (none)) else (none)))) else ((millref3_run.f k a0 (wrap64 (a1 + 1))).bind fun t365 => (if t365 = (wrap64 (a1 + 1)) then (some (0, a1)) else (if (wrap64 (a1 + 1)) ≤ t365 then (if t365 ≤ (a0.size : Int) then ((millref3_zeros.f k (a0.extract ((wrap64 (a1 + 1)) : Int).toNat (t365 : Int).toNat)).bind fun t366 => (if 0 ≤ t366 then (if t366 ≤ ((t365.toNat - ((wrap64 (a1 + 1)) : Int).toNat : Nat) : Int) then (millref3_exponent.l0 k false t365 ((a0.extract ((wrap64 (a1 + 1)) : Int).toNat (t365 : Int).toNat).extract (t366 : Int).toNat (t365.toNat - ((wrap64 (a1 + 1)) : Int).toNat)) 0 0) else (none)) else (none))) else (none)) else (none)))))) else (none)) else ((millref3_run.f k a0 (wrap64 (a1 + 1))).bind fun t367 => (if t367 = (wrap64 (a1 + 1)) then (some (0, a1)) else (if 0 ≤ (wrap64 (a1 + 1)) then (if (wrap64 (a1 + 1)) ≤ t367 then (if t367 ≤ (a0.size : Int) then ((millref3_zeros.f k (a0.extract ((wrap64 (a1 + 1)) : Int).toNat (t367 : Int).toNat)).bind fun t368 => (if 0 ≤ t368 then (if t368 ≤ ((t367.toNat - ((wrap64 (a1 + 1)) : Int).toNat : Nat) : Int) then (millref3_exponent.l0 k false t367 ((a0.extract ((wrap64 (a1 + 1)) : Int).toNat (t367 : Int).toNat).extract (t368 : Int).toNat (t367.toNat - ((wrap64 (a1 + 1)) : Int).toNat)) 0 0) else (none)) else (none))) else (none)) else (none)) else (none))))) else (some (0, a1))) = some (r1, r2) := H
    have A7 := Aside0.mk A70
    clear A70
    by_cases c8 : t360 = 101
    ·
     rw [if_pos c8] at H
     have c8b0 : (t360 == 101) = true := beq_iff_eq.mpr c8
     have c8b1 : (t360 != 101) = false := bne_eq_false_iff_eq.mpr c8
     clear c8
     by_cases c9 : (wrap64 (a1 + 1)) < (a0.size : Int)
     ·
      rw [if_pos c9] at H
      have c9b0 : decide ((wrap64 (a1 + 1)) < (a0.size : Int)) = true := decide_eq_true c9
      clear c9
      obtain ⟨ji10, hji10⟩ : ∃ j_ : Int, (wrap64 (a1 + 1)) = j_ := ⟨_, rfl⟩
      replace H : (if 0 ≤ (ji10) then (if (bt a0 (ji10)) = 45 then ((millref3_run.f k a0 (wrap64 ((ji10) + 1))).bind fun t361 => (if t361 = (wrap64 ((ji10) + 1)) then (some (0, a1)) else (if 0 ≤ (wrap64 ((ji10) + 1)) then (if (wrap64 ((ji10) + 1)) ≤ t361 then (if t361 ≤ (a0.size : Int) then ((millref3_zeros.f k (a0.extract ((wrap64 ((ji10) + 1)) : Int).toNat (t361 : Int).toNat)).bind fun t362 => (if 0 ≤ t362 then (if t362 ≤ ((t361.toNat - ((wrap64 ((ji10) + 1)) : Int).toNat : Nat) : Int) then (millref3_exponent.l0 k ((bt a0 (ji10)) == 45) t361 ((a0.extract ((wrap64 ((ji10) + 1)) : Int).toNat (t361 : Int).toNat).extract (t362 : Int).toNat (t361.toNat - ((wrap64 ((ji10) + 1)) : Int).toNat)) 0 0) else (none)) else (none))) else (none)) else (none)) else (none)))) else (if (bt a0 (ji10)) = 43 then ((millref3_run.f k a0 (wrap64 ((ji10) + 1))).bind fun t363 => (if t363 = (wrap64 ((ji10) + 1)) then (some (0, a1)) else (if 0 ≤ (wrap64 ((ji10) + 1)) then (if (wrap64 ((ji10) + 1)) ≤ t363 then (if t363 ≤ (a0.size : Int) then ((millref3_zeros.f k (a0.extract ((wrap64 ((ji10) + 1)) : Int).toNat (t363 : Int).toNat)).bind fun t364 => (if 0 ≤ t364 then (if t364 ≤ ((t363.toNat - ((wrap64 ((ji10) + 1)) : Int).toNat : Nat) : Int) then (millref3_exponent.l0 k ((bt a0 (ji10)) == 45) t363 ((a0.extract ((wrap64 ((ji10) + 1)) : Int).toNat (t363 : Int).toNat).extract (t364 : Int).toNat (t363.toNat - ((wrap64 ((ji10) + 1)) : Int).toNat)) 0 0) else (none)) else (none))) else (none)) else (none)) else (none)))) else ((millref3_run.f k a0 (ji10)).bind fun t365 => (if t365 = (ji10) then (some (0, a1)) else (if (ji10) ≤ t365 then (if t365 ≤ (a0.size : Int) then ((millref3_zeros.f k (a0.extract ((ji10) : Int).toNat (t365 : Int).toNat)).bind fun t366 => (if 0 ≤ t366 then (if t366 ≤ ((t365.toNat - ((ji10) : Int).toNat : Nat) : Int) then (millref3_exponent.l0 k false t365 ((a0.extract ((ji10) : Int).toNat (t365 : Int).toNat).extract (t366 : Int).toNat (t365.toNat - ((ji10) : Int).toNat)) 0 0) else (none)) else (none))) else (none)) else (none)))))) else (none)) = some (r1, r2) := by first | (rw [hji10] at H; exact H) | (simp only [hji10] at H ⊢; exact H)
      (try rw [hji10] at c9b0)
      (try rw [hji10] at A7)
      have hji10w : (IntKind.i64.wrap (a1 + 1)) = ji10 := (i64_w _).trans hji10
      by_cases c11 : 0 ≤ (ji10)
      ·
       rw [if_pos c11] at H
       have c11b0 : decide (0 ≤ (ji10)) = true := decide_eq_true c11
       clear c11
       by_cases c13 : (bt a0 (ji10)) = 45
       ·
        rw [if_pos c13] at H
        have c13b0 : ((bt a0 (ji10)) == 45) = true := beq_iff_eq.mpr c13
        have c13b1 : ((bt a0 (ji10)) != 45) = false := bne_eq_false_iff_eq.mpr c13
        clear c13
        replace H := Option.bind_eq_some_iff.mp H
        obtain ⟨t361, A150, H⟩ := H
        replace H : (if t361 = (wrap64 ((ji10) + 1)) then (some (0, a1)) else (if 0 ≤ (wrap64 ((ji10) + 1)) then (if (wrap64 ((ji10) + 1)) ≤ t361 then (if t361 ≤ (a0.size : Int) then ((millref3_zeros.f k (a0.extract ((wrap64 ((ji10) + 1)) : Int).toNat (t361 : Int).toNat)).bind fun t362 => (if 0 ≤ t362 then (if t362 ≤ ((t361.toNat - ((wrap64 ((ji10) + 1)) : Int).toNat : Nat) : Int) then (millref3_exponent.l0 k ((bt a0 (ji10)) == 45) t361 ((a0.extract ((wrap64 ((ji10) + 1)) : Int).toNat (t361 : Int).toNat).extract (t362 : Int).toNat (t361.toNat - ((wrap64 ((ji10) + 1)) : Int).toNat)) 0 0) else (none)) else (none))) else (none)) else (none)) else (none))) = some (r1, r2) := H
        have A15 := Aside0.mk A150
        clear A150
        by_cases c16 : t361 = (wrap64 ((ji10) + 1))
        ·
         rw [if_pos c16] at H
         have c16b0 : (t361 == (wrap64 ((ji10) + 1))) = true := beq_iff_eq.mpr c16
         have c16b1 : (t361 != (wrap64 ((ji10) + 1))) = false := bne_eq_false_iff_eq.mpr c16
         clear c16
         simp only [Option.some.injEq, Prod.mk.injEq] at H
         obtain ⟨rfl, rfl⟩ := H
         have p6 : 0 ≤ (a1 : Int) := of_decide_eq_true qnp3_
         have q6 : a1 < (a0.size : Int) := of_decide_eq_true qnp3_
         have hx6 := bt_at a0 a1
         replace p6 := eq_true p6
         replace q6 := eq_true q6
         go_enter Tryd.func47, Tryd.ntmps47
         have tk17 : True := trivial; have tk18 : True := trivial
         go_wp2_with (first | (have ztk17 := tk17; clear tk17 ztk17; go_at_call 70; (with_reducible refine (millref3_low.calls (bt a0 a1) t360 _ A7.out).mono ?_); rintro e w' ⟨rfl, ⟨nd, rfl⟩⟩; have p12 : 0 ≤ ((ji10) : Int) := of_decide_eq_true qnp3_; have q12 : (ji10) < (a0.size : Int) := of_decide_eq_true qnp3_; have hx12 := bt_at a0 (ji10); replace p12 := eq_true p12; replace q12 := eq_true q12; have p14 : 0 ≤ ((ji10) : Int) := of_decide_eq_true qnp3_; have q14 : (ji10) < (a0.size : Int) := of_decide_eq_true qnp3_; have hx14 := bt_at a0 (ji10); replace p14 := eq_true p14; replace q14 := eq_true q14) | (have ztk18 := tk18; clear tk18 ztk18; (with_reducible refine gate_callee (f := 71) rfl ?_); refine goesL_ (some 50) rfl rfl Tryd.func71 (by kernel_rfl) rfl #[.string a0, .int .i64 (wrap64 ((ji10) + 1))] rfl qnp52_ ?_; (with_reducible refine (millref3_run.calls k a0 (wrap64 ((ji10) + 1)) t361 _ A15.out).mono ?_); rintro e w' ⟨rfl, ⟨nd, rfl⟩⟩; refine ⟨_, rfl, ?_⟩))
         go_ret2
         exact ⟨qnp26_, qnp4_⟩
        ·
         rw [if_neg c16] at H
         have c16b0 : (t361 == (wrap64 ((ji10) + 1))) = false := beq_eq_false_iff_ne.mpr c16
         have c16b1 : (t361 != (wrap64 ((ji10) + 1))) = true := bne_iff_ne.mpr c16
         obtain ⟨ji19, hji19⟩ : ∃ j_ : Int, (wrap64 ((ji10) + 1)) = j_ := ⟨_, rfl⟩
         replace H : (if 0 ≤ (ji19) then (if (ji19) ≤ t361 then (if t361 ≤ (a0.size : Int) then ((millref3_zeros.f k (a0.extract ((ji19) : Int).toNat (t361 : Int).toNat)).bind fun t362 => (if 0 ≤ t362 then (if t362 ≤ ((t361.toNat - ((ji19) : Int).toNat : Nat) : Int) then (millref3_exponent.l0 k ((bt a0 (ji10)) == 45) t361 ((a0.extract ((ji19) : Int).toNat (t361 : Int).toNat).extract (t362 : Int).toNat (t361.toNat - ((ji19) : Int).toNat)) 0 0) else (none)) else (none))) else (none)) else (none)) else (none)) = some (r1, r2) := by first | (rw [hji19] at H; exact H) | (simp only [hji19] at H ⊢; exact H)
         (try rw [hji19] at c16b0)
         (try rw [hji19] at c16b1)
         (try rw [hji19] at A7)
         (try rw [hji19] at A15)
         have hji19w : (IntKind.i64.wrap ((ji10) + 1)) = ji19 := (i64_w _).trans hji19
         by_cases c20 : 0 ≤ (ji19)
         ·
          rw [if_pos c20] at H
          have c20b0 := eq_true c20
          have c20b1 : decide (0 ≤ (ji19)) = true := decide_eq_true c20
          clear c20
          by_cases c21 : (ji19) ≤ t361
          ·
           rw [if_pos c21] at H
           have c21b0 := eq_true c21
           have c21b1 : decide ((ji19) ≤ t361) = true := decide_eq_true c21
           clear c21
           by_cases c22 : t361 ≤ (a0.size : Int)
           ·
            rw [if_pos c22] at H
            have c22b0 := eq_true c22
            have c22b1 : decide (t361 ≤ (a0.size : Int)) = true := decide_eq_true c22
            clear c22
            replace H := Option.bind_eq_some_iff.mp H
            obtain ⟨t362, A230, H⟩ := H
            replace H : (if 0 ≤ t362 then (if t362 ≤ ((t361.toNat - ((ji19) : Int).toNat : Nat) : Int) then (millref3_exponent.l0 k ((bt a0 (ji10)) == 45) t361 ((a0.extract ((ji19) : Int).toNat (t361 : Int).toNat).extract (t362 : Int).toNat (t361.toNat - ((ji19) : Int).toNat)) 0 0) else (none)) else (none)) = some (r1, r2) := H
            have A23 := Aside0.mk A230
            clear A230
            by_cases c24 : 0 ≤ t362
            ·
             rw [if_pos c24] at H
             have c24b0 := eq_true c24
             have c24b1 : decide (0 ≤ t362) = true := decide_eq_true c24
             clear c24
             by_cases c25 : t362 ≤ ((t361.toNat - ((ji19) : Int).toNat : Nat) : Int)
             ·
              rw [if_pos c25] at H
              have c25x := c25
              (try simp [*, -c25, -H] at c25x)
              have c25b0 := eq_true c25
              have c25b1 : decide (t362 ≤ ((t361.toNat - ((ji19) : Int).toNat : Nat) : Int)) = true := decide_eq_true c25
              clear c25
              have H' := Aside0.mk H
              clear H
              have p6 : 0 ≤ (a1 : Int) := of_decide_eq_true qnp3_
              have q6 : a1 < (a0.size : Int) := of_decide_eq_true qnp3_
              have hx6 := bt_at a0 a1
              replace p6 := eq_true p6
              replace q6 := eq_true q6
              go_enter Tryd.func47, Tryd.ntmps47
              have tk26 : True := trivial; have tk27 : True := trivial; have tk28 : True := trivial
              go_wp2_with (first | (have ztk26 := tk26; clear tk26 ztk26; go_at_call 70; (with_reducible refine (millref3_low.calls (bt a0 a1) t360 _ A7.out).mono ?_); rintro e w' ⟨rfl, ⟨nd, rfl⟩⟩; have p12 : 0 ≤ ((ji10) : Int) := of_decide_eq_true qnp3_; have q12 : (ji10) < (a0.size : Int) := of_decide_eq_true qnp3_; have hx12 := bt_at a0 (ji10); replace p12 := eq_true p12; replace q12 := eq_true q12; have p14 : 0 ≤ ((ji10) : Int) := of_decide_eq_true qnp3_; have q14 : (ji10) < (a0.size : Int) := of_decide_eq_true qnp3_; have hx14 := bt_at a0 (ji10); replace p14 := eq_true p14; replace q14 := eq_true q14) | (have ztk27 := tk27; clear tk27 ztk27; (with_reducible refine gate_callee (f := 71) rfl ?_); refine goesL_ (some 50) rfl rfl Tryd.func71 (by kernel_rfl) rfl #[.string a0, .int .i64 ji19] rfl (by (try simp only [List.map_toArray, List.map_cons, List.map_nil]); first | done | (simp only [hji19]; rfl) | rfl | (simp only [List.length_drop, List.length_take]; rfl) | (simp; done) | (simp; omega)) ?_; (with_reducible refine (millref3_run.calls k a0 ji19 t361 _ A15.out).mono ?_); rintro e w' ⟨rfl, ⟨nd, rfl⟩⟩; refine ⟨_, rfl, ?_⟩) | (have ztk28 := tk28; clear tk28 ztk28; (with_reducible refine gate_callee (f := 42) rfl ?_); refine goesL_ (some 61) rfl rfl Tryd.func42 (by kernel_rfl) rfl #[.string (a0.extract ((ji19) : Int).toNat (t361 : Int).toNat)] rfl (by (try simp only [List.map_toArray, List.map_cons, List.map_nil]); first | done | (simp only [hji19]; rfl) | rfl | (simp only [List.length_drop, List.length_take]; rfl) | (simp; done) | (simp; omega)) ?_; (with_reducible refine (millref3_zeros.calls k (a0.extract ((ji19) : Int).toNat (t361 : Int).toNat) t362 _ A23.out).mono ?_); rintro e w' ⟨rfl, ⟨nd, rfl⟩⟩; refine ⟨_, rfl, ?_⟩))
              go_loopg [10, 11] k (fun kq v10 v11 w' => ∃ (x10_1 : Int) (x11_1 : Int), v10 = .int .i64 x10_1 ∧ v11 = .int .i64 x11_1 ∧ Aside0 (millref3_exponent.l0 kq ((bt a0 (ji10)) == 45) t361 ((a0.extract ((ji19) : Int).toNat (t361 : Int).toNat).extract (t362 : Int).toNat (t361.toNat - ((ji19) : Int).toNat)) x10_1 x11_1 = some (r1, r2)) ∧ Aside0 (kq ≤ k) ∧ Drawn0 w w')
              case atStart => exact ⟨(0), (0), qnp2_, qnp2_, H', ⟨Nat.le_refl _⟩, qnp4_⟩
              case round =>
               clear H'
               obtain ⟨x10_1, x11_1, rfl, rfl, HA, HK1, ⟨m1, rfl⟩⟩ := hrel
               cases gk with
               | zero => exact absurd HA.out (by simp [millref3_exponent.l0])
               | succ k1 =>
                have H := HA.out
                clear HA
                simp only [millref3_exponent.l0] at H
                by_cases c29 : x11_1 < (((a0.extract ((ji19) : Int).toNat (t361 : Int).toNat).extract (t362 : Int).toNat (t361.toNat - ((ji19) : Int).toNat)).size : Int)
                ·
                 rw [if_pos c29] at H
                 have c29x := c29
                 (try simp [*, -c29, -H] at c29x)
                 have c29b0 : decide (x11_1 < (((a0.extract ((ji19) : Int).toNat (t361 : Int).toNat).extract (t362 : Int).toNat (t361.toNat - ((ji19) : Int).toNat)).size : Int)) = true := decide_eq_true c29
                 clear c29
                 by_cases c30 : x11_1 < 14
                 ·
                  rw [if_pos c30] at H
                  have c30b0 : decide (x11_1 < 14) = true := decide_eq_true c30
                  clear c30
                  by_cases c31 : 0 ≤ x11_1
                  ·
                   rw [if_pos c31] at H
                   have c31b0 : decide (0 ≤ x11_1) = true := decide_eq_true c31
                   clear c31
                   have H' := Aside0.mk H
                   clear H
                   have p32 : 0 ≤ (x11_1 : Int) := of_decide_eq_true qnp3_
                   have q32 : x11_1 < (((a0.extract ((ji19) : Int).toNat (t361 : Int).toNat).extract (t362 : Int).toNat (t361.toNat - ((ji19) : Int).toNat)).size : Int) := of_decide_eq_true qnp3_
                   have hx32 := bt_at ((a0.extract ((ji19) : Int).toNat (t361 : Int).toNat).extract (t362 : Int).toNat (t361.toNat - ((ji19) : Int).toNat)) x11_1
                   replace p32 := eq_true p32
                   replace q32 := eq_true q32
                   go_wp2
                   go_roundg k1
                   case measure => have := HK1.out; omega
                   case rel => exact ⟨(wrap64 ((wrap64 (10 * x10_1)) + (((bt ((a0.extract ((ji19) : Int).toNat (t361 : Int).toNat).extract (t362 : Int).toNat (t361.toNat - ((ji19) : Int).toNat)) x11_1) - 48) % 256))), (wrap64 (x11_1 + 1)), (by first | rfl | (simp; done) | (simp only [← hji19] <;> (first | rfl | simp); done) | (simp [*]; done) | (simp; simp only [eq_iff_iff, iff_true] at *; omega) | (exfalso; simp_all; done)), qnp2_, H', ⟨by have := HK1.out; omega⟩, qnp4_⟩
                  ·
                   rw [if_neg c31] at H
                   exact absurd H (by simp)
                 ·
                  rw [if_neg c30] at H
                  have c30b0 : decide (x11_1 < 14) = false := decide_eq_false c30
                  clear c30
                  by_cases c33 : x10_1 > 1099511627776
                  ·
                   rw [if_pos c33] at H
                   have c33b0 : decide (1099511627776 < x10_1) = true := decide_eq_true c33
                   clear c33
                   by_cases c34 : ((bt a0 (ji10)) == 45) = true
                   ·
                    rw [if_pos c34] at H
                    have c34b0 : ((bt a0 (ji10)) == 45) = true := c34
                    (try (have c34b1 : decide ((bt a0 (ji10)) = 45) = true := by simpa using c34))
                    (try (have c34b2 : ((bt a0 (ji10)) == 45) = true := by simpa using c34))
                    clear c34
                    simp only [Option.some.injEq, Prod.mk.injEq] at H
                    obtain ⟨rfl, rfl⟩ := H
                    go_wp2
                    go_ret2
                    exact ⟨qnp22_, qnp4_⟩
                   ·
                    rw [if_neg c34] at H
                    have c34b0 : ((bt a0 (ji10)) == 45) = false := by simpa using c34
                    (try (have c34b1 : decide ((bt a0 (ji10)) = 45) = false := by simpa using c34))
                    (try (have c34b2 : ((bt a0 (ji10)) == 45) = false := by simpa using c34))
                    (try (have c34b3 : ¬ ((bt a0 (ji10)) = 45) := by simpa using c34))
                    clear c34
                    simp only [Option.some.injEq, Prod.mk.injEq] at H
                    obtain ⟨rfl, rfl⟩ := H
                    go_wp2
                    go_ret2
                    exact ⟨qnp22_, qnp4_⟩
                  ·
                   rw [if_neg c33] at H
                   have c33b0 : decide (1099511627776 < x10_1) = false := decide_eq_false c33
                   clear c33
                   by_cases c35 : (((a0.extract ((ji19) : Int).toNat (t361 : Int).toNat).extract (t362 : Int).toNat (t361.toNat - ((ji19) : Int).toNat)).size : Int) > 14
                   ·
                    rw [if_pos c35] at H
                    have c35x := c35
                    (try simp [*, -c35, -H] at c35x)
                    have c35b0 : decide (14 < (((a0.extract ((ji19) : Int).toNat (t361 : Int).toNat).extract (t362 : Int).toNat (t361.toNat - ((ji19) : Int).toNat)).size : Int)) = true := decide_eq_true c35
                    have c35b1 : decide (14 < ((a0.extract ((ji19) : Int).toNat (t361 : Int).toNat).extract (t362 : Int).toNat (t361.toNat - ((ji19) : Int).toNat)).size) = true := decide_eq_true (by omega)
                    clear c35
                    by_cases c36 : ((bt a0 (ji10)) == 45) = true
                    ·
                     rw [if_pos c36] at H
                     have c36b0 : ((bt a0 (ji10)) == 45) = true := c36
                     (try (have c36b1 : decide ((bt a0 (ji10)) = 45) = true := by simpa using c36))
                     (try (have c36b2 : ((bt a0 (ji10)) == 45) = true := by simpa using c36))
                     clear c36
                     simp only [Option.some.injEq, Prod.mk.injEq] at H
                     obtain ⟨rfl, rfl⟩ := H
                     go_wp2
                     go_ret2
                     exact ⟨qnp22_, qnp4_⟩
                    ·
                     rw [if_neg c36] at H
                     have c36b0 : ((bt a0 (ji10)) == 45) = false := by simpa using c36
                     (try (have c36b1 : decide ((bt a0 (ji10)) = 45) = false := by simpa using c36))
                     (try (have c36b2 : ((bt a0 (ji10)) == 45) = false := by simpa using c36))
                     (try (have c36b3 : ¬ ((bt a0 (ji10)) = 45) := by simpa using c36))
                     clear c36
                     simp only [Option.some.injEq, Prod.mk.injEq] at H
                     obtain ⟨rfl, rfl⟩ := H
                     go_wp2
                     go_ret2
                     exact ⟨qnp22_, qnp4_⟩
                   ·
                    rw [if_neg c35] at H
                    have c35x := c35
                    (try simp [*, -c35, -H] at c35x)
                    have c35b0 : decide (14 < (((a0.extract ((ji19) : Int).toNat (t361 : Int).toNat).extract (t362 : Int).toNat (t361.toNat - ((ji19) : Int).toNat)).size : Int)) = false := decide_eq_false c35
                    have c35b1 : decide (14 < ((a0.extract ((ji19) : Int).toNat (t361 : Int).toNat).extract (t362 : Int).toNat (t361.toNat - ((ji19) : Int).toNat)).size) = false := decide_eq_false (by omega)
                    clear c35
                    by_cases c37 : ((bt a0 (ji10)) == 45) = true
                    ·
                     rw [if_pos c37] at H
                     have c37b0 : ((bt a0 (ji10)) == 45) = true := c37
                     (try (have c37b1 : decide ((bt a0 (ji10)) = 45) = true := by simpa using c37))
                     (try (have c37b2 : ((bt a0 (ji10)) == 45) = true := by simpa using c37))
                     clear c37
                     simp only [Option.some.injEq, Prod.mk.injEq] at H
                     obtain ⟨rfl, rfl⟩ := H
                     go_wp2
                     go_ret2
                     exact ⟨qnp22_, qnp4_⟩
                    ·
                     rw [if_neg c37] at H
                     have c37b0 : ((bt a0 (ji10)) == 45) = false := by simpa using c37
                     (try (have c37b1 : decide ((bt a0 (ji10)) = 45) = false := by simpa using c37))
                     (try (have c37b2 : ((bt a0 (ji10)) == 45) = false := by simpa using c37))
                     (try (have c37b3 : ¬ ((bt a0 (ji10)) = 45) := by simpa using c37))
                     clear c37
                     simp only [Option.some.injEq, Prod.mk.injEq] at H
                     obtain ⟨rfl, rfl⟩ := H
                     go_wp2
                     go_ret2
                     exact ⟨qnp22_, qnp4_⟩
                ·
                 rw [if_neg c29] at H
                 have c29x := c29
                 (try simp [*, -c29, -H] at c29x)
                 have c29b0 : decide (x11_1 < (((a0.extract ((ji19) : Int).toNat (t361 : Int).toNat).extract (t362 : Int).toNat (t361.toNat - ((ji19) : Int).toNat)).size : Int)) = false := decide_eq_false c29
                 clear c29
                 by_cases c38 : x10_1 > 1099511627776
                 ·
                  rw [if_pos c38] at H
                  have c38b0 : decide (1099511627776 < x10_1) = true := decide_eq_true c38
                  clear c38
                  by_cases c39 : ((bt a0 (ji10)) == 45) = true
                  ·
                   rw [if_pos c39] at H
                   have c39b0 : ((bt a0 (ji10)) == 45) = true := c39
                   (try (have c39b1 : decide ((bt a0 (ji10)) = 45) = true := by simpa using c39))
                   (try (have c39b2 : ((bt a0 (ji10)) == 45) = true := by simpa using c39))
                   clear c39
                   simp only [Option.some.injEq, Prod.mk.injEq] at H
                   obtain ⟨rfl, rfl⟩ := H
                   go_wp2
                   go_ret2
                   exact ⟨qnp22_, qnp4_⟩
                  ·
                   rw [if_neg c39] at H
                   have c39b0 : ((bt a0 (ji10)) == 45) = false := by simpa using c39
                   (try (have c39b1 : decide ((bt a0 (ji10)) = 45) = false := by simpa using c39))
                   (try (have c39b2 : ((bt a0 (ji10)) == 45) = false := by simpa using c39))
                   (try (have c39b3 : ¬ ((bt a0 (ji10)) = 45) := by simpa using c39))
                   clear c39
                   simp only [Option.some.injEq, Prod.mk.injEq] at H
                   obtain ⟨rfl, rfl⟩ := H
                   go_wp2
                   go_ret2
                   exact ⟨qnp22_, qnp4_⟩
                 ·
                  rw [if_neg c38] at H
                  have c38b0 : decide (1099511627776 < x10_1) = false := decide_eq_false c38
                  clear c38
                  by_cases c40 : (((a0.extract ((ji19) : Int).toNat (t361 : Int).toNat).extract (t362 : Int).toNat (t361.toNat - ((ji19) : Int).toNat)).size : Int) > 14
                  ·
                   rw [if_pos c40] at H
                   have c40x := c40
                   (try simp [*, -c40, -H] at c40x)
                   have c40b0 : decide (14 < (((a0.extract ((ji19) : Int).toNat (t361 : Int).toNat).extract (t362 : Int).toNat (t361.toNat - ((ji19) : Int).toNat)).size : Int)) = true := decide_eq_true c40
                   have c40b1 : decide (14 < ((a0.extract ((ji19) : Int).toNat (t361 : Int).toNat).extract (t362 : Int).toNat (t361.toNat - ((ji19) : Int).toNat)).size) = true := decide_eq_true (by omega)
                   clear c40
                   by_cases c41 : ((bt a0 (ji10)) == 45) = true
                   ·
                    rw [if_pos c41] at H
                    have c41b0 : ((bt a0 (ji10)) == 45) = true := c41
                    (try (have c41b1 : decide ((bt a0 (ji10)) = 45) = true := by simpa using c41))
                    (try (have c41b2 : ((bt a0 (ji10)) == 45) = true := by simpa using c41))
                    clear c41
                    simp only [Option.some.injEq, Prod.mk.injEq] at H
                    obtain ⟨rfl, rfl⟩ := H
                    go_wp2
                    go_ret2
                    exact ⟨qnp22_, qnp4_⟩
                   ·
                    rw [if_neg c41] at H
                    have c41b0 : ((bt a0 (ji10)) == 45) = false := by simpa using c41
                    (try (have c41b1 : decide ((bt a0 (ji10)) = 45) = false := by simpa using c41))
                    (try (have c41b2 : ((bt a0 (ji10)) == 45) = false := by simpa using c41))
                    (try (have c41b3 : ¬ ((bt a0 (ji10)) = 45) := by simpa using c41))
                    clear c41
                    simp only [Option.some.injEq, Prod.mk.injEq] at H
                    obtain ⟨rfl, rfl⟩ := H
                    go_wp2
                    go_ret2
                    exact ⟨qnp22_, qnp4_⟩
                  ·
                   rw [if_neg c40] at H
                   have c40x := c40
                   (try simp [*, -c40, -H] at c40x)
                   have c40b0 : decide (14 < (((a0.extract ((ji19) : Int).toNat (t361 : Int).toNat).extract (t362 : Int).toNat (t361.toNat - ((ji19) : Int).toNat)).size : Int)) = false := decide_eq_false c40
                   have c40b1 : decide (14 < ((a0.extract ((ji19) : Int).toNat (t361 : Int).toNat).extract (t362 : Int).toNat (t361.toNat - ((ji19) : Int).toNat)).size) = false := decide_eq_false (by omega)
                   clear c40
                   by_cases c42 : ((bt a0 (ji10)) == 45) = true
                   ·
                    rw [if_pos c42] at H
                    have c42b0 : ((bt a0 (ji10)) == 45) = true := c42
                    (try (have c42b1 : decide ((bt a0 (ji10)) = 45) = true := by simpa using c42))
                    (try (have c42b2 : ((bt a0 (ji10)) == 45) = true := by simpa using c42))
                    clear c42
                    simp only [Option.some.injEq, Prod.mk.injEq] at H
                    obtain ⟨rfl, rfl⟩ := H
                    go_wp2
                    go_ret2
                    exact ⟨qnp22_, qnp4_⟩
                   ·
                    rw [if_neg c42] at H
                    have c42b0 : ((bt a0 (ji10)) == 45) = false := by simpa using c42
                    (try (have c42b1 : decide ((bt a0 (ji10)) = 45) = false := by simpa using c42))
                    (try (have c42b2 : ((bt a0 (ji10)) == 45) = false := by simpa using c42))
                    (try (have c42b3 : ¬ ((bt a0 (ji10)) = 45) := by simpa using c42))
                    clear c42
                    simp only [Option.some.injEq, Prod.mk.injEq] at H
                    obtain ⟨rfl, rfl⟩ := H
                    go_wp2
                    go_ret2
                    exact ⟨qnp22_, qnp4_⟩
             ·
              rw [if_neg c25] at H
              exact absurd H (by simp)
            ·
             rw [if_neg c24] at H
             exact absurd H (by simp)
           ·
            rw [if_neg c22] at H
            exact absurd H (by simp)
          ·
           rw [if_neg c21] at H
           exact absurd H (by simp)
         ·
          rw [if_neg c20] at H
          exact absurd H (by simp)
       ·
        rw [if_neg c13] at H
        have c13b0 : ((bt a0 (ji10)) == 45) = false := beq_eq_false_iff_ne.mpr c13
        have c13b1 : ((bt a0 (ji10)) != 45) = true := bne_iff_ne.mpr c13
        by_cases c44 : (bt a0 (ji10)) = 43
        ·
         rw [if_pos c44] at H
         have c44b0 : ((bt a0 (ji10)) == 43) = true := beq_iff_eq.mpr c44
         have c44b1 : ((bt a0 (ji10)) != 43) = false := bne_eq_false_iff_eq.mpr c44
         clear c44
         replace H := Option.bind_eq_some_iff.mp H
         obtain ⟨t363, A460, H⟩ := H
         replace H : (if t363 = (wrap64 ((ji10) + 1)) then (some (0, a1)) else (if 0 ≤ (wrap64 ((ji10) + 1)) then (if (wrap64 ((ji10) + 1)) ≤ t363 then (if t363 ≤ (a0.size : Int) then ((millref3_zeros.f k (a0.extract ((wrap64 ((ji10) + 1)) : Int).toNat (t363 : Int).toNat)).bind fun t364 => (if 0 ≤ t364 then (if t364 ≤ ((t363.toNat - ((wrap64 ((ji10) + 1)) : Int).toNat : Nat) : Int) then (millref3_exponent.l0 k ((bt a0 (ji10)) == 45) t363 ((a0.extract ((wrap64 ((ji10) + 1)) : Int).toNat (t363 : Int).toNat).extract (t364 : Int).toNat (t363.toNat - ((wrap64 ((ji10) + 1)) : Int).toNat)) 0 0) else (none)) else (none))) else (none)) else (none)) else (none))) = some (r1, r2) := H
         have A46 := Aside0.mk A460
         clear A460
         by_cases c47 : t363 = (wrap64 ((ji10) + 1))
         ·
          rw [if_pos c47] at H
          have c47b0 : (t363 == (wrap64 ((ji10) + 1))) = true := beq_iff_eq.mpr c47
          have c47b1 : (t363 != (wrap64 ((ji10) + 1))) = false := bne_eq_false_iff_eq.mpr c47
          clear c47
          simp only [Option.some.injEq, Prod.mk.injEq] at H
          obtain ⟨rfl, rfl⟩ := H
          have p6 : 0 ≤ (a1 : Int) := of_decide_eq_true qnp3_
          have q6 : a1 < (a0.size : Int) := of_decide_eq_true qnp3_
          have hx6 := bt_at a0 a1
          replace p6 := eq_true p6
          replace q6 := eq_true q6
          go_enter Tryd.func47, Tryd.ntmps47
          have tk48 : True := trivial; have tk49 : True := trivial
          go_wp2_with (first | (have ztk48 := tk48; clear tk48 ztk48; go_at_call 70; (with_reducible refine (millref3_low.calls (bt a0 a1) t360 _ A7.out).mono ?_); rintro e w' ⟨rfl, ⟨nd, rfl⟩⟩; have p12 : 0 ≤ ((ji10) : Int) := of_decide_eq_true qnp3_; have q12 : (ji10) < (a0.size : Int) := of_decide_eq_true qnp3_; have hx12 := bt_at a0 (ji10); replace p12 := eq_true p12; replace q12 := eq_true q12; have p43 : 0 ≤ ((ji10) : Int) := of_decide_eq_true qnp3_; have q43 : (ji10) < (a0.size : Int) := of_decide_eq_true qnp3_; have hx43 := bt_at a0 (ji10); replace p43 := eq_true p43; replace q43 := eq_true q43; have p45 : 0 ≤ ((ji10) : Int) := of_decide_eq_true qnp3_; have q45 : (ji10) < (a0.size : Int) := of_decide_eq_true qnp3_; have hx45 := bt_at a0 (ji10); replace p45 := eq_true p45; replace q45 := eq_true q45) | (have ztk49 := tk49; clear tk49 ztk49; (with_reducible refine gate_callee (f := 71) rfl ?_); refine goesL_ (some 50) rfl rfl Tryd.func71 (by kernel_rfl) rfl #[.string a0, .int .i64 (wrap64 ((ji10) + 1))] rfl qnp52_ ?_; (with_reducible refine (millref3_run.calls k a0 (wrap64 ((ji10) + 1)) t363 _ A46.out).mono ?_); rintro e w' ⟨rfl, ⟨nd, rfl⟩⟩; refine ⟨_, rfl, ?_⟩))
          go_ret2
          exact ⟨qnp26_, qnp4_⟩
         ·
          rw [if_neg c47] at H
          have c47b0 : (t363 == (wrap64 ((ji10) + 1))) = false := beq_eq_false_iff_ne.mpr c47
          have c47b1 : (t363 != (wrap64 ((ji10) + 1))) = true := bne_iff_ne.mpr c47
          obtain ⟨ji50, hji50⟩ : ∃ j_ : Int, (wrap64 ((ji10) + 1)) = j_ := ⟨_, rfl⟩
          replace H : (if 0 ≤ (ji50) then (if (ji50) ≤ t363 then (if t363 ≤ (a0.size : Int) then ((millref3_zeros.f k (a0.extract ((ji50) : Int).toNat (t363 : Int).toNat)).bind fun t364 => (if 0 ≤ t364 then (if t364 ≤ ((t363.toNat - ((ji50) : Int).toNat : Nat) : Int) then (millref3_exponent.l0 k ((bt a0 (ji10)) == 45) t363 ((a0.extract ((ji50) : Int).toNat (t363 : Int).toNat).extract (t364 : Int).toNat (t363.toNat - ((ji50) : Int).toNat)) 0 0) else (none)) else (none))) else (none)) else (none)) else (none)) = some (r1, r2) := by first | (rw [hji50] at H; exact H) | (simp only [hji50] at H ⊢; exact H)
          (try rw [hji50] at c47b0)
          (try rw [hji50] at c47b1)
          (try rw [hji50] at A7)
          (try rw [hji50] at A46)
          have hji50w : (IntKind.i64.wrap ((ji10) + 1)) = ji50 := (i64_w _).trans hji50
          by_cases c51 : 0 ≤ (ji50)
          ·
           rw [if_pos c51] at H
           have c51b0 := eq_true c51
           have c51b1 : decide (0 ≤ (ji50)) = true := decide_eq_true c51
           clear c51
           by_cases c52 : (ji50) ≤ t363
           ·
            rw [if_pos c52] at H
            have c52b0 := eq_true c52
            have c52b1 : decide ((ji50) ≤ t363) = true := decide_eq_true c52
            clear c52
            by_cases c53 : t363 ≤ (a0.size : Int)
            ·
             rw [if_pos c53] at H
             have c53b0 := eq_true c53
             have c53b1 : decide (t363 ≤ (a0.size : Int)) = true := decide_eq_true c53
             clear c53
             replace H := Option.bind_eq_some_iff.mp H
             obtain ⟨t364, A540, H⟩ := H
             replace H : (if 0 ≤ t364 then (if t364 ≤ ((t363.toNat - ((ji50) : Int).toNat : Nat) : Int) then (millref3_exponent.l0 k ((bt a0 (ji10)) == 45) t363 ((a0.extract ((ji50) : Int).toNat (t363 : Int).toNat).extract (t364 : Int).toNat (t363.toNat - ((ji50) : Int).toNat)) 0 0) else (none)) else (none)) = some (r1, r2) := H
             have A54 := Aside0.mk A540
             clear A540
             by_cases c55 : 0 ≤ t364
             ·
              rw [if_pos c55] at H
              have c55b0 := eq_true c55
              have c55b1 : decide (0 ≤ t364) = true := decide_eq_true c55
              clear c55
              by_cases c56 : t364 ≤ ((t363.toNat - ((ji50) : Int).toNat : Nat) : Int)
              ·
               rw [if_pos c56] at H
               have c56x := c56
               (try simp [*, -c56, -H] at c56x)
               have c56b0 := eq_true c56
               have c56b1 : decide (t364 ≤ ((t363.toNat - ((ji50) : Int).toNat : Nat) : Int)) = true := decide_eq_true c56
               clear c56
               have H' := Aside0.mk H
               clear H
               have p6 : 0 ≤ (a1 : Int) := of_decide_eq_true qnp3_
               have q6 : a1 < (a0.size : Int) := of_decide_eq_true qnp3_
               have hx6 := bt_at a0 a1
               replace p6 := eq_true p6
               replace q6 := eq_true q6
               go_enter Tryd.func47, Tryd.ntmps47
               have tk57 : True := trivial; have tk58 : True := trivial; have tk59 : True := trivial
               go_wp2_with (first | (have ztk57 := tk57; clear tk57 ztk57; go_at_call 70; (with_reducible refine (millref3_low.calls (bt a0 a1) t360 _ A7.out).mono ?_); rintro e w' ⟨rfl, ⟨nd, rfl⟩⟩; have p12 : 0 ≤ ((ji10) : Int) := of_decide_eq_true qnp3_; have q12 : (ji10) < (a0.size : Int) := of_decide_eq_true qnp3_; have hx12 := bt_at a0 (ji10); replace p12 := eq_true p12; replace q12 := eq_true q12; have p43 : 0 ≤ ((ji10) : Int) := of_decide_eq_true qnp3_; have q43 : (ji10) < (a0.size : Int) := of_decide_eq_true qnp3_; have hx43 := bt_at a0 (ji10); replace p43 := eq_true p43; replace q43 := eq_true q43; have p45 : 0 ≤ ((ji10) : Int) := of_decide_eq_true qnp3_; have q45 : (ji10) < (a0.size : Int) := of_decide_eq_true qnp3_; have hx45 := bt_at a0 (ji10); replace p45 := eq_true p45; replace q45 := eq_true q45) | (have ztk58 := tk58; clear tk58 ztk58; (with_reducible refine gate_callee (f := 71) rfl ?_); refine goesL_ (some 50) rfl rfl Tryd.func71 (by kernel_rfl) rfl #[.string a0, .int .i64 ji50] rfl (by (try simp only [List.map_toArray, List.map_cons, List.map_nil]); first | done | (simp only [hji50]; rfl) | rfl | (simp only [List.length_drop, List.length_take]; rfl) | (simp; done) | (simp; omega)) ?_; (with_reducible refine (millref3_run.calls k a0 ji50 t363 _ A46.out).mono ?_); rintro e w' ⟨rfl, ⟨nd, rfl⟩⟩; refine ⟨_, rfl, ?_⟩) | (have ztk59 := tk59; clear tk59 ztk59; (with_reducible refine gate_callee (f := 42) rfl ?_); refine goesL_ (some 61) rfl rfl Tryd.func42 (by kernel_rfl) rfl #[.string (a0.extract ((ji50) : Int).toNat (t363 : Int).toNat)] rfl (by (try simp only [List.map_toArray, List.map_cons, List.map_nil]); first | done | (simp only [hji50]; rfl) | rfl | (simp only [List.length_drop, List.length_take]; rfl) | (simp; done) | (simp; omega)) ?_; (with_reducible refine (millref3_zeros.calls k (a0.extract ((ji50) : Int).toNat (t363 : Int).toNat) t364 _ A54.out).mono ?_); rintro e w' ⟨rfl, ⟨nd, rfl⟩⟩; refine ⟨_, rfl, ?_⟩))
               go_loopg [10, 11] k (fun kq v10 v11 w' => ∃ (x10_1 : Int) (x11_1 : Int), v10 = .int .i64 x10_1 ∧ v11 = .int .i64 x11_1 ∧ Aside0 (millref3_exponent.l0 kq ((bt a0 (ji10)) == 45) t363 ((a0.extract ((ji50) : Int).toNat (t363 : Int).toNat).extract (t364 : Int).toNat (t363.toNat - ((ji50) : Int).toNat)) x10_1 x11_1 = some (r1, r2)) ∧ Aside0 (kq ≤ k) ∧ Drawn0 w w')
               case atStart => exact ⟨(0), (0), qnp2_, qnp2_, H', ⟨Nat.le_refl _⟩, qnp4_⟩
               case round =>
                clear H'
                obtain ⟨x10_1, x11_1, rfl, rfl, HA, HK1, ⟨m1, rfl⟩⟩ := hrel
                cases gk with
                | zero => exact absurd HA.out (by simp [millref3_exponent.l0])
                | succ k1 =>
                 have H := HA.out
                 clear HA
                 simp only [millref3_exponent.l0] at H
                 by_cases c60 : x11_1 < (((a0.extract ((ji50) : Int).toNat (t363 : Int).toNat).extract (t364 : Int).toNat (t363.toNat - ((ji50) : Int).toNat)).size : Int)
                 ·
                  rw [if_pos c60] at H
                  have c60x := c60
                  (try simp [*, -c60, -H] at c60x)
                  have c60b0 : decide (x11_1 < (((a0.extract ((ji50) : Int).toNat (t363 : Int).toNat).extract (t364 : Int).toNat (t363.toNat - ((ji50) : Int).toNat)).size : Int)) = true := decide_eq_true c60
                  clear c60
                  by_cases c61 : x11_1 < 14
                  ·
                   rw [if_pos c61] at H
                   have c61b0 : decide (x11_1 < 14) = true := decide_eq_true c61
                   clear c61
                   by_cases c62 : 0 ≤ x11_1
                   ·
                    rw [if_pos c62] at H
                    have c62b0 : decide (0 ≤ x11_1) = true := decide_eq_true c62
                    clear c62
                    have H' := Aside0.mk H
                    clear H
                    have p63 : 0 ≤ (x11_1 : Int) := of_decide_eq_true qnp3_
                    have q63 : x11_1 < (((a0.extract ((ji50) : Int).toNat (t363 : Int).toNat).extract (t364 : Int).toNat (t363.toNat - ((ji50) : Int).toNat)).size : Int) := of_decide_eq_true qnp3_
                    have hx63 := bt_at ((a0.extract ((ji50) : Int).toNat (t363 : Int).toNat).extract (t364 : Int).toNat (t363.toNat - ((ji50) : Int).toNat)) x11_1
                    replace p63 := eq_true p63
                    replace q63 := eq_true q63
                    go_wp2
                    go_roundg k1
                    case measure => have := HK1.out; omega
                    case rel => exact ⟨(wrap64 ((wrap64 (10 * x10_1)) + (((bt ((a0.extract ((ji50) : Int).toNat (t363 : Int).toNat).extract (t364 : Int).toNat (t363.toNat - ((ji50) : Int).toNat)) x11_1) - 48) % 256))), (wrap64 (x11_1 + 1)), (by first | rfl | (simp; done) | (simp only [← hji50] <;> (first | rfl | simp); done) | (simp [*]; done) | (simp; simp only [eq_iff_iff, iff_true] at *; omega) | (exfalso; simp_all; done)), qnp2_, H', ⟨by have := HK1.out; omega⟩, qnp4_⟩
                   ·
                    rw [if_neg c62] at H
                    exact absurd H (by simp)
                  ·
                   rw [if_neg c61] at H
                   have c61b0 : decide (x11_1 < 14) = false := decide_eq_false c61
                   clear c61
                   by_cases c64 : x10_1 > 1099511627776
                   ·
                    rw [if_pos c64] at H
                    have c64b0 : decide (1099511627776 < x10_1) = true := decide_eq_true c64
                    clear c64
                    by_cases c65 : ((bt a0 (ji10)) == 45) = true
                    ·
                     rw [if_pos c65] at H
                     have c65b0 : ((bt a0 (ji10)) == 45) = true := c65
                     (try (have c65b1 : decide ((bt a0 (ji10)) = 45) = true := by simpa using c65))
                     (try (have c65b2 : ((bt a0 (ji10)) == 45) = true := by simpa using c65))
                     clear c65
                     simp only [Option.some.injEq, Prod.mk.injEq] at H
                     obtain ⟨rfl, rfl⟩ := H
                     go_wp2
                     go_ret2
                     exact ⟨qnp21_, qnp4_⟩
                    ·
                     rw [if_neg c65] at H
                     have c65b0 : ((bt a0 (ji10)) == 45) = false := by simpa using c65
                     (try (have c65b1 : decide ((bt a0 (ji10)) = 45) = false := by simpa using c65))
                     (try (have c65b2 : ((bt a0 (ji10)) == 45) = false := by simpa using c65))
                     (try (have c65b3 : ¬ ((bt a0 (ji10)) = 45) := by simpa using c65))
                     clear c65
                     simp only [Option.some.injEq, Prod.mk.injEq] at H
                     obtain ⟨rfl, rfl⟩ := H
                     go_wp2
                     go_ret2
                     exact ⟨qnp21_, qnp4_⟩
                   ·
                    rw [if_neg c64] at H
                    have c64b0 : decide (1099511627776 < x10_1) = false := decide_eq_false c64
                    clear c64
                    by_cases c66 : (((a0.extract ((ji50) : Int).toNat (t363 : Int).toNat).extract (t364 : Int).toNat (t363.toNat - ((ji50) : Int).toNat)).size : Int) > 14
                    ·
                     rw [if_pos c66] at H
                     have c66x := c66
                     (try simp [*, -c66, -H] at c66x)
                     have c66b0 : decide (14 < (((a0.extract ((ji50) : Int).toNat (t363 : Int).toNat).extract (t364 : Int).toNat (t363.toNat - ((ji50) : Int).toNat)).size : Int)) = true := decide_eq_true c66
                     have c66b1 : decide (14 < ((a0.extract ((ji50) : Int).toNat (t363 : Int).toNat).extract (t364 : Int).toNat (t363.toNat - ((ji50) : Int).toNat)).size) = true := decide_eq_true (by omega)
                     clear c66
                     by_cases c67 : ((bt a0 (ji10)) == 45) = true
                     ·
                      rw [if_pos c67] at H
                      have c67b0 : ((bt a0 (ji10)) == 45) = true := c67
                      (try (have c67b1 : decide ((bt a0 (ji10)) = 45) = true := by simpa using c67))
                      (try (have c67b2 : ((bt a0 (ji10)) == 45) = true := by simpa using c67))
                      clear c67
                      simp only [Option.some.injEq, Prod.mk.injEq] at H
                      obtain ⟨rfl, rfl⟩ := H
                      go_wp2
                      go_ret2
                      exact ⟨qnp21_, qnp4_⟩
                     ·
                      rw [if_neg c67] at H
                      have c67b0 : ((bt a0 (ji10)) == 45) = false := by simpa using c67
                      (try (have c67b1 : decide ((bt a0 (ji10)) = 45) = false := by simpa using c67))
                      (try (have c67b2 : ((bt a0 (ji10)) == 45) = false := by simpa using c67))
                      (try (have c67b3 : ¬ ((bt a0 (ji10)) = 45) := by simpa using c67))
                      clear c67
                      simp only [Option.some.injEq, Prod.mk.injEq] at H
                      obtain ⟨rfl, rfl⟩ := H
                      go_wp2
                      go_ret2
                      exact ⟨qnp21_, qnp4_⟩
                    ·
                     rw [if_neg c66] at H
                     have c66x := c66
                     (try simp [*, -c66, -H] at c66x)
                     have c66b0 : decide (14 < (((a0.extract ((ji50) : Int).toNat (t363 : Int).toNat).extract (t364 : Int).toNat (t363.toNat - ((ji50) : Int).toNat)).size : Int)) = false := decide_eq_false c66
                     have c66b1 : decide (14 < ((a0.extract ((ji50) : Int).toNat (t363 : Int).toNat).extract (t364 : Int).toNat (t363.toNat - ((ji50) : Int).toNat)).size) = false := decide_eq_false (by omega)
                     clear c66
                     by_cases c68 : ((bt a0 (ji10)) == 45) = true
                     ·
                      rw [if_pos c68] at H
                      have c68b0 : ((bt a0 (ji10)) == 45) = true := c68
                      (try (have c68b1 : decide ((bt a0 (ji10)) = 45) = true := by simpa using c68))
                      (try (have c68b2 : ((bt a0 (ji10)) == 45) = true := by simpa using c68))
                      clear c68
                      simp only [Option.some.injEq, Prod.mk.injEq] at H
                      obtain ⟨rfl, rfl⟩ := H
                      go_wp2
                      go_ret2
                      exact ⟨qnp21_, qnp4_⟩
                     ·
                      rw [if_neg c68] at H
                      have c68b0 : ((bt a0 (ji10)) == 45) = false := by simpa using c68
                      (try (have c68b1 : decide ((bt a0 (ji10)) = 45) = false := by simpa using c68))
                      (try (have c68b2 : ((bt a0 (ji10)) == 45) = false := by simpa using c68))
                      (try (have c68b3 : ¬ ((bt a0 (ji10)) = 45) := by simpa using c68))
                      clear c68
                      simp only [Option.some.injEq, Prod.mk.injEq] at H
                      obtain ⟨rfl, rfl⟩ := H
                      go_wp2
                      go_ret2
                      exact ⟨qnp21_, qnp4_⟩
                 ·
                  rw [if_neg c60] at H
                  have c60x := c60
                  (try simp [*, -c60, -H] at c60x)
                  have c60b0 : decide (x11_1 < (((a0.extract ((ji50) : Int).toNat (t363 : Int).toNat).extract (t364 : Int).toNat (t363.toNat - ((ji50) : Int).toNat)).size : Int)) = false := decide_eq_false c60
                  clear c60
                  by_cases c69 : x10_1 > 1099511627776
                  ·
                   rw [if_pos c69] at H
                   have c69b0 : decide (1099511627776 < x10_1) = true := decide_eq_true c69
                   clear c69
                   by_cases c70 : ((bt a0 (ji10)) == 45) = true
                   ·
                    rw [if_pos c70] at H
                    have c70b0 : ((bt a0 (ji10)) == 45) = true := c70
                    (try (have c70b1 : decide ((bt a0 (ji10)) = 45) = true := by simpa using c70))
                    (try (have c70b2 : ((bt a0 (ji10)) == 45) = true := by simpa using c70))
                    clear c70
                    simp only [Option.some.injEq, Prod.mk.injEq] at H
                    obtain ⟨rfl, rfl⟩ := H
                    go_wp2
                    go_ret2
                    exact ⟨qnp21_, qnp4_⟩
                   ·
                    rw [if_neg c70] at H
                    have c70b0 : ((bt a0 (ji10)) == 45) = false := by simpa using c70
                    (try (have c70b1 : decide ((bt a0 (ji10)) = 45) = false := by simpa using c70))
                    (try (have c70b2 : ((bt a0 (ji10)) == 45) = false := by simpa using c70))
                    (try (have c70b3 : ¬ ((bt a0 (ji10)) = 45) := by simpa using c70))
                    clear c70
                    simp only [Option.some.injEq, Prod.mk.injEq] at H
                    obtain ⟨rfl, rfl⟩ := H
                    go_wp2
                    go_ret2
                    exact ⟨qnp21_, qnp4_⟩
                  ·
                   rw [if_neg c69] at H
                   have c69b0 : decide (1099511627776 < x10_1) = false := decide_eq_false c69
                   clear c69
                   by_cases c71 : (((a0.extract ((ji50) : Int).toNat (t363 : Int).toNat).extract (t364 : Int).toNat (t363.toNat - ((ji50) : Int).toNat)).size : Int) > 14
                   ·
                    rw [if_pos c71] at H
                    have c71x := c71
                    (try simp [*, -c71, -H] at c71x)
                    have c71b0 : decide (14 < (((a0.extract ((ji50) : Int).toNat (t363 : Int).toNat).extract (t364 : Int).toNat (t363.toNat - ((ji50) : Int).toNat)).size : Int)) = true := decide_eq_true c71
                    have c71b1 : decide (14 < ((a0.extract ((ji50) : Int).toNat (t363 : Int).toNat).extract (t364 : Int).toNat (t363.toNat - ((ji50) : Int).toNat)).size) = true := decide_eq_true (by omega)
                    clear c71
                    by_cases c72 : ((bt a0 (ji10)) == 45) = true
                    ·
                     rw [if_pos c72] at H
                     have c72b0 : ((bt a0 (ji10)) == 45) = true := c72
                     (try (have c72b1 : decide ((bt a0 (ji10)) = 45) = true := by simpa using c72))
                     (try (have c72b2 : ((bt a0 (ji10)) == 45) = true := by simpa using c72))
                     clear c72
                     simp only [Option.some.injEq, Prod.mk.injEq] at H
                     obtain ⟨rfl, rfl⟩ := H
                     go_wp2
                     go_ret2
                     exact ⟨qnp21_, qnp4_⟩
                    ·
                     rw [if_neg c72] at H
                     have c72b0 : ((bt a0 (ji10)) == 45) = false := by simpa using c72
                     (try (have c72b1 : decide ((bt a0 (ji10)) = 45) = false := by simpa using c72))
                     (try (have c72b2 : ((bt a0 (ji10)) == 45) = false := by simpa using c72))
                     (try (have c72b3 : ¬ ((bt a0 (ji10)) = 45) := by simpa using c72))
                     clear c72
                     simp only [Option.some.injEq, Prod.mk.injEq] at H
                     obtain ⟨rfl, rfl⟩ := H
                     go_wp2
                     go_ret2
                     exact ⟨qnp21_, qnp4_⟩
                   ·
                    rw [if_neg c71] at H
                    have c71x := c71
                    (try simp [*, -c71, -H] at c71x)
                    have c71b0 : decide (14 < (((a0.extract ((ji50) : Int).toNat (t363 : Int).toNat).extract (t364 : Int).toNat (t363.toNat - ((ji50) : Int).toNat)).size : Int)) = false := decide_eq_false c71
                    have c71b1 : decide (14 < ((a0.extract ((ji50) : Int).toNat (t363 : Int).toNat).extract (t364 : Int).toNat (t363.toNat - ((ji50) : Int).toNat)).size) = false := decide_eq_false (by omega)
                    clear c71
                    by_cases c73 : ((bt a0 (ji10)) == 45) = true
                    ·
                     rw [if_pos c73] at H
                     have c73b0 : ((bt a0 (ji10)) == 45) = true := c73
                     (try (have c73b1 : decide ((bt a0 (ji10)) = 45) = true := by simpa using c73))
                     (try (have c73b2 : ((bt a0 (ji10)) == 45) = true := by simpa using c73))
                     clear c73
                     simp only [Option.some.injEq, Prod.mk.injEq] at H
                     obtain ⟨rfl, rfl⟩ := H
                     go_wp2
                     go_ret2
                     exact ⟨qnp21_, qnp4_⟩
                    ·
                     rw [if_neg c73] at H
                     have c73b0 : ((bt a0 (ji10)) == 45) = false := by simpa using c73
                     (try (have c73b1 : decide ((bt a0 (ji10)) = 45) = false := by simpa using c73))
                     (try (have c73b2 : ((bt a0 (ji10)) == 45) = false := by simpa using c73))
                     (try (have c73b3 : ¬ ((bt a0 (ji10)) = 45) := by simpa using c73))
                     clear c73
                     simp only [Option.some.injEq, Prod.mk.injEq] at H
                     obtain ⟨rfl, rfl⟩ := H
                     go_wp2
                     go_ret2
                     exact ⟨qnp21_, qnp4_⟩
              ·
               rw [if_neg c56] at H
               exact absurd H (by simp)
             ·
              rw [if_neg c55] at H
              exact absurd H (by simp)
            ·
             rw [if_neg c53] at H
             exact absurd H (by simp)
           ·
            rw [if_neg c52] at H
            exact absurd H (by simp)
          ·
           rw [if_neg c51] at H
           exact absurd H (by simp)
        ·
         rw [if_neg c44] at H
         have c44b0 : ((bt a0 (ji10)) == 43) = false := beq_eq_false_iff_ne.mpr c44
         have c44b1 : ((bt a0 (ji10)) != 43) = true := bne_iff_ne.mpr c44
         replace H := Option.bind_eq_some_iff.mp H
         obtain ⟨t365, A740, H⟩ := H
         replace H : (if t365 = (ji10) then (some (0, a1)) else (if (ji10) ≤ t365 then (if t365 ≤ (a0.size : Int) then ((millref3_zeros.f k (a0.extract ((ji10) : Int).toNat (t365 : Int).toNat)).bind fun t366 => (if 0 ≤ t366 then (if t366 ≤ ((t365.toNat - ((ji10) : Int).toNat : Nat) : Int) then (millref3_exponent.l0 k false t365 ((a0.extract ((ji10) : Int).toNat (t365 : Int).toNat).extract (t366 : Int).toNat (t365.toNat - ((ji10) : Int).toNat)) 0 0) else (none)) else (none))) else (none)) else (none))) = some (r1, r2) := H
         have A74 := Aside0.mk A740
         clear A740
         by_cases c75 : t365 = (ji10)
         ·
          rw [if_pos c75] at H
          have c75b0 : (t365 == (ji10)) = true := beq_iff_eq.mpr c75
          have c75b1 : (t365 != (ji10)) = false := bne_eq_false_iff_eq.mpr c75
          clear c75
          simp only [Option.some.injEq, Prod.mk.injEq] at H
          obtain ⟨rfl, rfl⟩ := H
          have p6 : 0 ≤ (a1 : Int) := of_decide_eq_true qnp3_
          have q6 : a1 < (a0.size : Int) := of_decide_eq_true qnp3_
          have hx6 := bt_at a0 a1
          replace p6 := eq_true p6
          replace q6 := eq_true q6
          go_enter Tryd.func47, Tryd.ntmps47
          have tk76 : True := trivial; have tk77 : True := trivial
          go_wp2_with (first | (have ztk76 := tk76; clear tk76 ztk76; go_at_call 70; (with_reducible refine (millref3_low.calls (bt a0 a1) t360 _ A7.out).mono ?_); rintro e w' ⟨rfl, ⟨nd, rfl⟩⟩; have p12 : 0 ≤ ((ji10) : Int) := of_decide_eq_true qnp3_; have q12 : (ji10) < (a0.size : Int) := of_decide_eq_true qnp3_; have hx12 := bt_at a0 (ji10); replace p12 := eq_true p12; replace q12 := eq_true q12; have p43 : 0 ≤ ((ji10) : Int) := of_decide_eq_true qnp3_; have q43 : (ji10) < (a0.size : Int) := of_decide_eq_true qnp3_; have hx43 := bt_at a0 (ji10); replace p43 := eq_true p43; replace q43 := eq_true q43) | (have ztk77 := tk77; clear tk77 ztk77; (with_reducible refine gate_callee (f := 71) rfl ?_); refine goesL_ (some 50) rfl rfl Tryd.func71 (by kernel_rfl) rfl #[.string a0, .int .i64 ji10] rfl qnp52_ ?_; (with_reducible refine (millref3_run.calls k a0 ji10 t365 _ A74.out).mono ?_); rintro e w' ⟨rfl, ⟨nd, rfl⟩⟩; refine ⟨_, rfl, ?_⟩))
          go_ret2
          exact ⟨qnp26_, qnp4_⟩
         ·
          rw [if_neg c75] at H
          have c75b0 : (t365 == (ji10)) = false := beq_eq_false_iff_ne.mpr c75
          have c75b1 : (t365 != (ji10)) = true := bne_iff_ne.mpr c75
          have c78b0 := eq_true (of_decide_eq_true qnp3_ : 0 ≤ (ji10))
          by_cases c79 : (ji10) ≤ t365
          ·
           rw [if_pos c79] at H
           have c79b0 := eq_true c79
           have c79b1 : decide ((ji10) ≤ t365) = true := decide_eq_true c79
           clear c79
           by_cases c80 : t365 ≤ (a0.size : Int)
           ·
            rw [if_pos c80] at H
            have c80b0 := eq_true c80
            have c80b1 : decide (t365 ≤ (a0.size : Int)) = true := decide_eq_true c80
            clear c80
            replace H := Option.bind_eq_some_iff.mp H
            obtain ⟨t366, A810, H⟩ := H
            replace H : (if 0 ≤ t366 then (if t366 ≤ ((t365.toNat - ((ji10) : Int).toNat : Nat) : Int) then (millref3_exponent.l0 k false t365 ((a0.extract ((ji10) : Int).toNat (t365 : Int).toNat).extract (t366 : Int).toNat (t365.toNat - ((ji10) : Int).toNat)) 0 0) else (none)) else (none)) = some (r1, r2) := H
            have A81 := Aside0.mk A810
            clear A810
            by_cases c82 : 0 ≤ t366
            ·
             rw [if_pos c82] at H
             have c82b0 := eq_true c82
             have c82b1 : decide (0 ≤ t366) = true := decide_eq_true c82
             clear c82
             by_cases c83 : t366 ≤ ((t365.toNat - ((ji10) : Int).toNat : Nat) : Int)
             ·
              rw [if_pos c83] at H
              have c83x := c83
              (try simp [*, -c83, -H] at c83x)
              have c83b0 := eq_true c83
              have c83b1 : decide (t366 ≤ ((t365.toNat - ((ji10) : Int).toNat : Nat) : Int)) = true := decide_eq_true c83
              clear c83
              have H' := Aside0.mk H
              clear H
              have p6 : 0 ≤ (a1 : Int) := of_decide_eq_true qnp3_
              have q6 : a1 < (a0.size : Int) := of_decide_eq_true qnp3_
              have hx6 := bt_at a0 a1
              replace p6 := eq_true p6
              replace q6 := eq_true q6
              go_enter Tryd.func47, Tryd.ntmps47
              have tk84 : True := trivial; have tk85 : True := trivial; have tk86 : True := trivial
              go_wp2_with (first | (have ztk84 := tk84; clear tk84 ztk84; go_at_call 70; (with_reducible refine (millref3_low.calls (bt a0 a1) t360 _ A7.out).mono ?_); rintro e w' ⟨rfl, ⟨nd, rfl⟩⟩; have p12 : 0 ≤ ((ji10) : Int) := of_decide_eq_true qnp3_; have q12 : (ji10) < (a0.size : Int) := of_decide_eq_true qnp3_; have hx12 := bt_at a0 (ji10); replace p12 := eq_true p12; replace q12 := eq_true q12; have p43 : 0 ≤ ((ji10) : Int) := of_decide_eq_true qnp3_; have q43 : (ji10) < (a0.size : Int) := of_decide_eq_true qnp3_; have hx43 := bt_at a0 (ji10); replace p43 := eq_true p43; replace q43 := eq_true q43) | (have ztk85 := tk85; clear tk85 ztk85; (with_reducible refine gate_callee (f := 71) rfl ?_); refine goesL_ (some 50) rfl rfl Tryd.func71 (by kernel_rfl) rfl #[.string a0, .int .i64 ji10] rfl qnp52_ ?_; (with_reducible refine (millref3_run.calls k a0 ji10 t365 _ A74.out).mono ?_); rintro e w' ⟨rfl, ⟨nd, rfl⟩⟩; refine ⟨_, rfl, ?_⟩) | (have ztk86 := tk86; clear tk86 ztk86; (with_reducible refine gate_callee (f := 42) rfl ?_); refine goesL_ (some 61) rfl rfl Tryd.func42 (by kernel_rfl) rfl #[.string (a0.extract ((ji10) : Int).toNat (t365 : Int).toNat)] rfl qnp52_ ?_; (with_reducible refine (millref3_zeros.calls k (a0.extract ((ji10) : Int).toNat (t365 : Int).toNat) t366 _ A81.out).mono ?_); rintro e w' ⟨rfl, ⟨nd, rfl⟩⟩; refine ⟨_, rfl, ?_⟩))
              go_loopg [10, 11] k (fun kq v10 v11 w' => ∃ (x10_1 : Int) (x11_1 : Int), v10 = .int .i64 x10_1 ∧ v11 = .int .i64 x11_1 ∧ Aside0 (millref3_exponent.l0 kq false t365 ((a0.extract ((ji10) : Int).toNat (t365 : Int).toNat).extract (t366 : Int).toNat (t365.toNat - ((ji10) : Int).toNat)) x10_1 x11_1 = some (r1, r2)) ∧ Aside0 (kq ≤ k) ∧ Drawn0 w w')
              case atStart => exact ⟨(0), (0), qnp2_, qnp2_, H', ⟨Nat.le_refl _⟩, qnp4_⟩
              case round =>
               clear H'
               obtain ⟨x10_1, x11_1, rfl, rfl, HA, HK1, ⟨m1, rfl⟩⟩ := hrel
               cases gk with
               | zero => exact absurd HA.out (by simp [millref3_exponent.l0])
               | succ k1 =>
                have H := HA.out
                clear HA
                simp only [millref3_exponent.l0] at H
                by_cases c87 : x11_1 < (((a0.extract ((ji10) : Int).toNat (t365 : Int).toNat).extract (t366 : Int).toNat (t365.toNat - ((ji10) : Int).toNat)).size : Int)
                ·
                 rw [if_pos c87] at H
                 have c87x := c87
                 (try simp [*, -c87, -H] at c87x)
                 have c87b0 : decide (x11_1 < (((a0.extract ((ji10) : Int).toNat (t365 : Int).toNat).extract (t366 : Int).toNat (t365.toNat - ((ji10) : Int).toNat)).size : Int)) = true := decide_eq_true c87
                 clear c87
                 by_cases c88 : x11_1 < 14
                 ·
                  rw [if_pos c88] at H
                  have c88b0 : decide (x11_1 < 14) = true := decide_eq_true c88
                  clear c88
                  by_cases c89 : 0 ≤ x11_1
                  ·
                   rw [if_pos c89] at H
                   have c89b0 : decide (0 ≤ x11_1) = true := decide_eq_true c89
                   clear c89
                   have H' := Aside0.mk H
                   clear H
                   have p90 : 0 ≤ (x11_1 : Int) := of_decide_eq_true qnp3_
                   have q90 : x11_1 < (((a0.extract ((ji10) : Int).toNat (t365 : Int).toNat).extract (t366 : Int).toNat (t365.toNat - ((ji10) : Int).toNat)).size : Int) := of_decide_eq_true qnp3_
                   have hx90 := bt_at ((a0.extract ((ji10) : Int).toNat (t365 : Int).toNat).extract (t366 : Int).toNat (t365.toNat - ((ji10) : Int).toNat)) x11_1
                   replace p90 := eq_true p90
                   replace q90 := eq_true q90
                   go_wp2
                   go_roundg k1
                   case measure => have := HK1.out; omega
                   case rel => exact ⟨(wrap64 ((wrap64 (10 * x10_1)) + (((bt ((a0.extract ((ji10) : Int).toNat (t365 : Int).toNat).extract (t366 : Int).toNat (t365.toNat - ((ji10) : Int).toNat)) x11_1) - 48) % 256))), (wrap64 (x11_1 + 1)), qnp26_, qnp2_, H', ⟨by have := HK1.out; omega⟩, qnp4_⟩
                  ·
                   rw [if_neg c89] at H
                   exact absurd H (by simp)
                 ·
                  rw [if_neg c88] at H
                  have c88b0 : decide (x11_1 < 14) = false := decide_eq_false c88
                  clear c88
                  by_cases c91 : x10_1 > 1099511627776
                  ·
                   rw [if_pos c91] at H
                   have c91b0 : decide (1099511627776 < x10_1) = true := decide_eq_true c91
                   clear c91
                   have H1 : (some (1099511627776, t365)) = some (r1, r2) := by rw [if_neg (show ¬ (false = true) by decide)] at H; exact H
                   clear H
                   have H := H1
                   clear H1
                   simp only [Option.some.injEq, Prod.mk.injEq] at H
                   obtain ⟨rfl, rfl⟩ := H
                   go_wp2
                   go_ret2
                   exact ⟨qnp26_, qnp4_⟩
                  ·
                   rw [if_neg c91] at H
                   have c91b0 : decide (1099511627776 < x10_1) = false := decide_eq_false c91
                   clear c91
                   by_cases c92 : (((a0.extract ((ji10) : Int).toNat (t365 : Int).toNat).extract (t366 : Int).toNat (t365.toNat - ((ji10) : Int).toNat)).size : Int) > 14
                   ·
                    rw [if_pos c92] at H
                    have c92x := c92
                    (try simp [*, -c92, -H] at c92x)
                    have c92b0 : decide (14 < (((a0.extract ((ji10) : Int).toNat (t365 : Int).toNat).extract (t366 : Int).toNat (t365.toNat - ((ji10) : Int).toNat)).size : Int)) = true := decide_eq_true c92
                    have c92b1 : decide (14 < ((a0.extract ((ji10) : Int).toNat (t365 : Int).toNat).extract (t366 : Int).toNat (t365.toNat - ((ji10) : Int).toNat)).size) = true := decide_eq_true (by omega)
                    clear c92
                    have H1 : (some (1099511627776, t365)) = some (r1, r2) := by rw [if_neg (show ¬ (false = true) by decide)] at H; exact H
                    clear H
                    have H := H1
                    clear H1
                    simp only [Option.some.injEq, Prod.mk.injEq] at H
                    obtain ⟨rfl, rfl⟩ := H
                    go_wp2
                    go_ret2
                    exact ⟨qnp26_, qnp4_⟩
                   ·
                    rw [if_neg c92] at H
                    have c92x := c92
                    (try simp [*, -c92, -H] at c92x)
                    have c92b0 : decide (14 < (((a0.extract ((ji10) : Int).toNat (t365 : Int).toNat).extract (t366 : Int).toNat (t365.toNat - ((ji10) : Int).toNat)).size : Int)) = false := decide_eq_false c92
                    have c92b1 : decide (14 < ((a0.extract ((ji10) : Int).toNat (t365 : Int).toNat).extract (t366 : Int).toNat (t365.toNat - ((ji10) : Int).toNat)).size) = false := decide_eq_false (by omega)
                    clear c92
                    have H1 : (some (x10_1, t365)) = some (r1, r2) := by rw [if_neg (show ¬ (false = true) by decide)] at H; exact H
                    clear H
                    have H := H1
                    clear H1
                    simp only [Option.some.injEq, Prod.mk.injEq] at H
                    obtain ⟨rfl, rfl⟩ := H
                    go_wp2
                    go_ret2
                    exact ⟨qnp26_, qnp4_⟩
                ·
                 rw [if_neg c87] at H
                 have c87x := c87
                 (try simp [*, -c87, -H] at c87x)
                 have c87b0 : decide (x11_1 < (((a0.extract ((ji10) : Int).toNat (t365 : Int).toNat).extract (t366 : Int).toNat (t365.toNat - ((ji10) : Int).toNat)).size : Int)) = false := decide_eq_false c87
                 clear c87
                 by_cases c93 : x10_1 > 1099511627776
                 ·
                  rw [if_pos c93] at H
                  have c93b0 : decide (1099511627776 < x10_1) = true := decide_eq_true c93
                  clear c93
                  have H1 : (some (1099511627776, t365)) = some (r1, r2) := by rw [if_neg (show ¬ (false = true) by decide)] at H; exact H
                  clear H
                  have H := H1
                  clear H1
                  simp only [Option.some.injEq, Prod.mk.injEq] at H
                  obtain ⟨rfl, rfl⟩ := H
                  go_wp2
                  go_ret2
                  exact ⟨qnp26_, qnp4_⟩
                 ·
                  rw [if_neg c93] at H
                  have c93b0 : decide (1099511627776 < x10_1) = false := decide_eq_false c93
                  clear c93
                  by_cases c94 : (((a0.extract ((ji10) : Int).toNat (t365 : Int).toNat).extract (t366 : Int).toNat (t365.toNat - ((ji10) : Int).toNat)).size : Int) > 14
                  ·
                   rw [if_pos c94] at H
                   have c94x := c94
                   (try simp [*, -c94, -H] at c94x)
                   have c94b0 : decide (14 < (((a0.extract ((ji10) : Int).toNat (t365 : Int).toNat).extract (t366 : Int).toNat (t365.toNat - ((ji10) : Int).toNat)).size : Int)) = true := decide_eq_true c94
                   have c94b1 : decide (14 < ((a0.extract ((ji10) : Int).toNat (t365 : Int).toNat).extract (t366 : Int).toNat (t365.toNat - ((ji10) : Int).toNat)).size) = true := decide_eq_true (by omega)
                   clear c94
                   have H1 : (some (1099511627776, t365)) = some (r1, r2) := by rw [if_neg (show ¬ (false = true) by decide)] at H; exact H
                   clear H
                   have H := H1
                   clear H1
                   simp only [Option.some.injEq, Prod.mk.injEq] at H
                   obtain ⟨rfl, rfl⟩ := H
                   go_wp2
                   go_ret2
                   exact ⟨qnp26_, qnp4_⟩
                  ·
                   rw [if_neg c94] at H
                   have c94x := c94
                   (try simp [*, -c94, -H] at c94x)
                   have c94b0 : decide (14 < (((a0.extract ((ji10) : Int).toNat (t365 : Int).toNat).extract (t366 : Int).toNat (t365.toNat - ((ji10) : Int).toNat)).size : Int)) = false := decide_eq_false c94
                   have c94b1 : decide (14 < ((a0.extract ((ji10) : Int).toNat (t365 : Int).toNat).extract (t366 : Int).toNat (t365.toNat - ((ji10) : Int).toNat)).size) = false := decide_eq_false (by omega)
                   clear c94
                   have H1 : (some (x10_1, t365)) = some (r1, r2) := by rw [if_neg (show ¬ (false = true) by decide)] at H; exact H
                   clear H
                   have H := H1
                   clear H1
                   simp only [Option.some.injEq, Prod.mk.injEq] at H
                   obtain ⟨rfl, rfl⟩ := H
                   go_wp2
                   go_ret2
                   exact ⟨qnp26_, qnp4_⟩
             ·
              rw [if_neg c83] at H
              exact absurd H (by simp)
            ·
             rw [if_neg c82] at H
             exact absurd H (by simp)
           ·
            rw [if_neg c80] at H
            exact absurd H (by simp)
          ·
           rw [if_neg c79] at H
           exact absurd H (by simp)
      ·
       rw [if_neg c11] at H
       exact absurd H (by simp)
     ·
      rw [if_neg c9] at H
      have c9b0 : decide ((wrap64 (a1 + 1)) < (a0.size : Int)) = false := decide_eq_false c9
      clear c9
      replace H := Option.bind_eq_some_iff.mp H
      obtain ⟨t367, A950, H⟩ := H
      replace H : (if t367 = (wrap64 (a1 + 1)) then (some (0, a1)) else (if 0 ≤ (wrap64 (a1 + 1)) then (if (wrap64 (a1 + 1)) ≤ t367 then (if t367 ≤ (a0.size : Int) then ((millref3_zeros.f k (a0.extract ((wrap64 (a1 + 1)) : Int).toNat (t367 : Int).toNat)).bind fun t368 => (if 0 ≤ t368 then (if t368 ≤ ((t367.toNat - ((wrap64 (a1 + 1)) : Int).toNat : Nat) : Int) then (millref3_exponent.l0 k false t367 ((a0.extract ((wrap64 (a1 + 1)) : Int).toNat (t367 : Int).toNat).extract (t368 : Int).toNat (t367.toNat - ((wrap64 (a1 + 1)) : Int).toNat)) 0 0) else (none)) else (none))) else (none)) else (none)) else (none))) = some (r1, r2) := H
      have A95 := Aside0.mk A950
      clear A950
      by_cases c96 : t367 = (wrap64 (a1 + 1))
      ·
       rw [if_pos c96] at H
       have c96b0 : (t367 == (wrap64 (a1 + 1))) = true := beq_iff_eq.mpr c96
       have c96b1 : (t367 != (wrap64 (a1 + 1))) = false := bne_eq_false_iff_eq.mpr c96
       clear c96
       simp only [Option.some.injEq, Prod.mk.injEq] at H
       obtain ⟨rfl, rfl⟩ := H
       have p6 : 0 ≤ (a1 : Int) := of_decide_eq_true qnp3_
       have q6 : a1 < (a0.size : Int) := of_decide_eq_true qnp3_
       have hx6 := bt_at a0 a1
       replace p6 := eq_true p6
       replace q6 := eq_true q6
       go_enter Tryd.func47, Tryd.ntmps47
       have tk97 : True := trivial; have tk98 : True := trivial
       go_wp2_with (first | (have ztk97 := tk97; clear tk97 ztk97; go_at_call 70; (with_reducible refine (millref3_low.calls (bt a0 a1) t360 _ A7.out).mono ?_); rintro e w' ⟨rfl, ⟨nd, rfl⟩⟩) | (have ztk98 := tk98; clear tk98 ztk98; (with_reducible refine gate_callee (f := 71) rfl ?_); refine goesL_ (some 50) rfl rfl Tryd.func71 (by kernel_rfl) rfl #[.string a0, .int .i64 (wrap64 (a1 + 1))] rfl qnp0_ ?_; (with_reducible refine (millref3_run.calls k a0 (wrap64 (a1 + 1)) t367 _ A95.out).mono ?_); rintro e w' ⟨rfl, ⟨nd, rfl⟩⟩; refine ⟨_, rfl, ?_⟩))
       go_ret2
       exact ⟨qnp2_, qnp4_⟩
      ·
       rw [if_neg c96] at H
       have c96b0 : (t367 == (wrap64 (a1 + 1))) = false := beq_eq_false_iff_ne.mpr c96
       have c96b1 : (t367 != (wrap64 (a1 + 1))) = true := bne_iff_ne.mpr c96
       obtain ⟨ji99, hji99⟩ : ∃ j_ : Int, (wrap64 (a1 + 1)) = j_ := ⟨_, rfl⟩
       replace H : (if 0 ≤ (ji99) then (if (ji99) ≤ t367 then (if t367 ≤ (a0.size : Int) then ((millref3_zeros.f k (a0.extract ((ji99) : Int).toNat (t367 : Int).toNat)).bind fun t368 => (if 0 ≤ t368 then (if t368 ≤ ((t367.toNat - ((ji99) : Int).toNat : Nat) : Int) then (millref3_exponent.l0 k false t367 ((a0.extract ((ji99) : Int).toNat (t367 : Int).toNat).extract (t368 : Int).toNat (t367.toNat - ((ji99) : Int).toNat)) 0 0) else (none)) else (none))) else (none)) else (none)) else (none)) = some (r1, r2) := by first | (rw [hji99] at H; exact H) | (simp only [hji99] at H ⊢; exact H)
       (try rw [hji99] at c9b0)
       (try rw [hji99] at c96b0)
       (try rw [hji99] at c96b1)
       (try rw [hji99] at A7)
       (try rw [hji99] at A95)
       have hji99w : (IntKind.i64.wrap (a1 + 1)) = ji99 := (i64_w _).trans hji99
       by_cases c100 : 0 ≤ (ji99)
       ·
        rw [if_pos c100] at H
        have c100b0 := eq_true c100
        have c100b1 : decide (0 ≤ (ji99)) = true := decide_eq_true c100
        clear c100
        by_cases c101 : (ji99) ≤ t367
        ·
         rw [if_pos c101] at H
         have c101b0 := eq_true c101
         have c101b1 : decide ((ji99) ≤ t367) = true := decide_eq_true c101
         clear c101
         by_cases c102 : t367 ≤ (a0.size : Int)
         ·
          rw [if_pos c102] at H
          have c102b0 := eq_true c102
          have c102b1 : decide (t367 ≤ (a0.size : Int)) = true := decide_eq_true c102
          clear c102
          replace H := Option.bind_eq_some_iff.mp H
          obtain ⟨t368, A1030, H⟩ := H
          replace H : (if 0 ≤ t368 then (if t368 ≤ ((t367.toNat - ((ji99) : Int).toNat : Nat) : Int) then (millref3_exponent.l0 k false t367 ((a0.extract ((ji99) : Int).toNat (t367 : Int).toNat).extract (t368 : Int).toNat (t367.toNat - ((ji99) : Int).toNat)) 0 0) else (none)) else (none)) = some (r1, r2) := H
          have A103 := Aside0.mk A1030
          clear A1030
          by_cases c104 : 0 ≤ t368
          ·
           rw [if_pos c104] at H
           have c104b0 := eq_true c104
           have c104b1 : decide (0 ≤ t368) = true := decide_eq_true c104
           clear c104
           by_cases c105 : t368 ≤ ((t367.toNat - ((ji99) : Int).toNat : Nat) : Int)
           ·
            rw [if_pos c105] at H
            have c105x := c105
            (try simp [*, -c105, -H] at c105x)
            have c105b0 := eq_true c105
            have c105b1 : decide (t368 ≤ ((t367.toNat - ((ji99) : Int).toNat : Nat) : Int)) = true := decide_eq_true c105
            clear c105
            have H' := Aside0.mk H
            clear H
            have p6 : 0 ≤ (a1 : Int) := of_decide_eq_true qnp3_
            have q6 : a1 < (a0.size : Int) := of_decide_eq_true qnp3_
            have hx6 := bt_at a0 a1
            replace p6 := eq_true p6
            replace q6 := eq_true q6
            go_enter Tryd.func47, Tryd.ntmps47
            have tk106 : True := trivial; have tk107 : True := trivial; have tk108 : True := trivial
            go_wp2_with (first | (have ztk106 := tk106; clear tk106 ztk106; go_at_call 70; (with_reducible refine (millref3_low.calls (bt a0 a1) t360 _ A7.out).mono ?_); rintro e w' ⟨rfl, ⟨nd, rfl⟩⟩) | (have ztk107 := tk107; clear tk107 ztk107; (with_reducible refine gate_callee (f := 71) rfl ?_); refine goesL_ (some 50) rfl rfl Tryd.func71 (by kernel_rfl) rfl #[.string a0, .int .i64 ji99] rfl (by (try simp only [List.map_toArray, List.map_cons, List.map_nil]); first | done | (simp only [hji99]; rfl) | rfl | (simp only [List.length_drop, List.length_take]; rfl) | (simp; done) | (simp; omega)) ?_; (with_reducible refine (millref3_run.calls k a0 ji99 t367 _ A95.out).mono ?_); rintro e w' ⟨rfl, ⟨nd, rfl⟩⟩; refine ⟨_, rfl, ?_⟩) | (have ztk108 := tk108; clear tk108 ztk108; (with_reducible refine gate_callee (f := 42) rfl ?_); refine goesL_ (some 61) rfl rfl Tryd.func42 (by kernel_rfl) rfl #[.string (a0.extract ((ji99) : Int).toNat (t367 : Int).toNat)] rfl (by (try simp only [List.map_toArray, List.map_cons, List.map_nil]); first | done | (simp only [hji99]; rfl) | rfl | (simp only [List.length_drop, List.length_take]; rfl) | (simp; done) | (simp; omega)) ?_; (with_reducible refine (millref3_zeros.calls k (a0.extract ((ji99) : Int).toNat (t367 : Int).toNat) t368 _ A103.out).mono ?_); rintro e w' ⟨rfl, ⟨nd, rfl⟩⟩; refine ⟨_, rfl, ?_⟩))
            go_loopg [10, 11] k (fun kq v10 v11 w' => ∃ (x10_1 : Int) (x11_1 : Int), v10 = .int .i64 x10_1 ∧ v11 = .int .i64 x11_1 ∧ Aside0 (millref3_exponent.l0 kq false t367 ((a0.extract ((ji99) : Int).toNat (t367 : Int).toNat).extract (t368 : Int).toNat (t367.toNat - ((ji99) : Int).toNat)) x10_1 x11_1 = some (r1, r2)) ∧ Aside0 (kq ≤ k) ∧ Drawn0 w w')
            case atStart => exact ⟨(0), (0), qnp2_, qnp2_, H', ⟨Nat.le_refl _⟩, qnp4_⟩
            case round =>
             clear H'
             obtain ⟨x10_1, x11_1, rfl, rfl, HA, HK1, ⟨m1, rfl⟩⟩ := hrel
             cases gk with
             | zero => exact absurd HA.out (by simp [millref3_exponent.l0])
             | succ k1 =>
              have H := HA.out
              clear HA
              simp only [millref3_exponent.l0] at H
              by_cases c109 : x11_1 < (((a0.extract ((ji99) : Int).toNat (t367 : Int).toNat).extract (t368 : Int).toNat (t367.toNat - ((ji99) : Int).toNat)).size : Int)
              ·
               rw [if_pos c109] at H
               have c109x := c109
               (try simp [*, -c109, -H] at c109x)
               have c109b0 : decide (x11_1 < (((a0.extract ((ji99) : Int).toNat (t367 : Int).toNat).extract (t368 : Int).toNat (t367.toNat - ((ji99) : Int).toNat)).size : Int)) = true := decide_eq_true c109
               clear c109
               by_cases c110 : x11_1 < 14
               ·
                rw [if_pos c110] at H
                have c110b0 : decide (x11_1 < 14) = true := decide_eq_true c110
                clear c110
                by_cases c111 : 0 ≤ x11_1
                ·
                 rw [if_pos c111] at H
                 have c111b0 : decide (0 ≤ x11_1) = true := decide_eq_true c111
                 clear c111
                 have H' := Aside0.mk H
                 clear H
                 have p112 : 0 ≤ (x11_1 : Int) := of_decide_eq_true qnp3_
                 have q112 : x11_1 < (((a0.extract ((ji99) : Int).toNat (t367 : Int).toNat).extract (t368 : Int).toNat (t367.toNat - ((ji99) : Int).toNat)).size : Int) := of_decide_eq_true qnp3_
                 have hx112 := bt_at ((a0.extract ((ji99) : Int).toNat (t367 : Int).toNat).extract (t368 : Int).toNat (t367.toNat - ((ji99) : Int).toNat)) x11_1
                 replace p112 := eq_true p112
                 replace q112 := eq_true q112
                 go_wp2
                 go_roundg k1
                 case measure => have := HK1.out; omega
                 case rel => exact ⟨(wrap64 ((wrap64 (10 * x10_1)) + (((bt ((a0.extract ((ji99) : Int).toNat (t367 : Int).toNat).extract (t368 : Int).toNat (t367.toNat - ((ji99) : Int).toNat)) x11_1) - 48) % 256))), (wrap64 (x11_1 + 1)), qnp38_, qnp2_, H', ⟨by have := HK1.out; omega⟩, qnp4_⟩
                ·
                 rw [if_neg c111] at H
                 exact absurd H (by simp)
               ·
                rw [if_neg c110] at H
                have c110b0 : decide (x11_1 < 14) = false := decide_eq_false c110
                clear c110
                by_cases c113 : x10_1 > 1099511627776
                ·
                 rw [if_pos c113] at H
                 have c113b0 : decide (1099511627776 < x10_1) = true := decide_eq_true c113
                 clear c113
                 have H1 : (some (1099511627776, t367)) = some (r1, r2) := by rw [if_neg (show ¬ (false = true) by decide)] at H; exact H
                 clear H
                 have H := H1
                 clear H1
                 simp only [Option.some.injEq, Prod.mk.injEq] at H
                 obtain ⟨rfl, rfl⟩ := H
                 go_wp2
                 go_ret2
                 exact ⟨qnp38_, qnp4_⟩
                ·
                 rw [if_neg c113] at H
                 have c113b0 : decide (1099511627776 < x10_1) = false := decide_eq_false c113
                 clear c113
                 by_cases c114 : (((a0.extract ((ji99) : Int).toNat (t367 : Int).toNat).extract (t368 : Int).toNat (t367.toNat - ((ji99) : Int).toNat)).size : Int) > 14
                 ·
                  rw [if_pos c114] at H
                  have c114x := c114
                  (try simp [*, -c114, -H] at c114x)
                  have c114b0 : decide (14 < (((a0.extract ((ji99) : Int).toNat (t367 : Int).toNat).extract (t368 : Int).toNat (t367.toNat - ((ji99) : Int).toNat)).size : Int)) = true := decide_eq_true c114
                  have c114b1 : decide (14 < ((a0.extract ((ji99) : Int).toNat (t367 : Int).toNat).extract (t368 : Int).toNat (t367.toNat - ((ji99) : Int).toNat)).size) = true := decide_eq_true (by omega)
                  clear c114
                  have H1 : (some (1099511627776, t367)) = some (r1, r2) := by rw [if_neg (show ¬ (false = true) by decide)] at H; exact H
                  clear H
                  have H := H1
                  clear H1
                  simp only [Option.some.injEq, Prod.mk.injEq] at H
                  obtain ⟨rfl, rfl⟩ := H
                  go_wp2
                  go_ret2
                  exact ⟨qnp38_, qnp4_⟩
                 ·
                  rw [if_neg c114] at H
                  have c114x := c114
                  (try simp [*, -c114, -H] at c114x)
                  have c114b0 : decide (14 < (((a0.extract ((ji99) : Int).toNat (t367 : Int).toNat).extract (t368 : Int).toNat (t367.toNat - ((ji99) : Int).toNat)).size : Int)) = false := decide_eq_false c114
                  have c114b1 : decide (14 < ((a0.extract ((ji99) : Int).toNat (t367 : Int).toNat).extract (t368 : Int).toNat (t367.toNat - ((ji99) : Int).toNat)).size) = false := decide_eq_false (by omega)
                  clear c114
                  have H1 : (some (x10_1, t367)) = some (r1, r2) := by rw [if_neg (show ¬ (false = true) by decide)] at H; exact H
                  clear H
                  have H := H1
                  clear H1
                  simp only [Option.some.injEq, Prod.mk.injEq] at H
                  obtain ⟨rfl, rfl⟩ := H
                  go_wp2
                  go_ret2
                  exact ⟨qnp38_, qnp4_⟩
              ·
               rw [if_neg c109] at H
               have c109x := c109
               (try simp [*, -c109, -H] at c109x)
               have c109b0 : decide (x11_1 < (((a0.extract ((ji99) : Int).toNat (t367 : Int).toNat).extract (t368 : Int).toNat (t367.toNat - ((ji99) : Int).toNat)).size : Int)) = false := decide_eq_false c109
               clear c109
               by_cases c115 : x10_1 > 1099511627776
               ·
                rw [if_pos c115] at H
                have c115b0 : decide (1099511627776 < x10_1) = true := decide_eq_true c115
                clear c115
                have H1 : (some (1099511627776, t367)) = some (r1, r2) := by rw [if_neg (show ¬ (false = true) by decide)] at H; exact H
                clear H
                have H := H1
                clear H1
                simp only [Option.some.injEq, Prod.mk.injEq] at H
                obtain ⟨rfl, rfl⟩ := H
                go_wp2
                go_ret2
                exact ⟨qnp38_, qnp4_⟩
               ·
                rw [if_neg c115] at H
                have c115b0 : decide (1099511627776 < x10_1) = false := decide_eq_false c115
                clear c115
                by_cases c116 : (((a0.extract ((ji99) : Int).toNat (t367 : Int).toNat).extract (t368 : Int).toNat (t367.toNat - ((ji99) : Int).toNat)).size : Int) > 14
                ·
                 rw [if_pos c116] at H
                 have c116x := c116
                 (try simp [*, -c116, -H] at c116x)
                 have c116b0 : decide (14 < (((a0.extract ((ji99) : Int).toNat (t367 : Int).toNat).extract (t368 : Int).toNat (t367.toNat - ((ji99) : Int).toNat)).size : Int)) = true := decide_eq_true c116
                 have c116b1 : decide (14 < ((a0.extract ((ji99) : Int).toNat (t367 : Int).toNat).extract (t368 : Int).toNat (t367.toNat - ((ji99) : Int).toNat)).size) = true := decide_eq_true (by omega)
                 clear c116
                 have H1 : (some (1099511627776, t367)) = some (r1, r2) := by rw [if_neg (show ¬ (false = true) by decide)] at H; exact H
                 clear H
                 have H := H1
                 clear H1
                 simp only [Option.some.injEq, Prod.mk.injEq] at H
                 obtain ⟨rfl, rfl⟩ := H
                 go_wp2
                 go_ret2
                 exact ⟨qnp38_, qnp4_⟩
                ·
                 rw [if_neg c116] at H
                 have c116x := c116
                 (try simp [*, -c116, -H] at c116x)
                 have c116b0 : decide (14 < (((a0.extract ((ji99) : Int).toNat (t367 : Int).toNat).extract (t368 : Int).toNat (t367.toNat - ((ji99) : Int).toNat)).size : Int)) = false := decide_eq_false c116
                 have c116b1 : decide (14 < ((a0.extract ((ji99) : Int).toNat (t367 : Int).toNat).extract (t368 : Int).toNat (t367.toNat - ((ji99) : Int).toNat)).size) = false := decide_eq_false (by omega)
                 clear c116
                 have H1 : (some (x10_1, t367)) = some (r1, r2) := by rw [if_neg (show ¬ (false = true) by decide)] at H; exact H
                 clear H
                 have H := H1
                 clear H1
                 simp only [Option.some.injEq, Prod.mk.injEq] at H
                 obtain ⟨rfl, rfl⟩ := H
                 go_wp2
                 go_ret2
                 exact ⟨qnp38_, qnp4_⟩
           ·
            rw [if_neg c105] at H
            exact absurd H (by simp)
          ·
           rw [if_neg c104] at H
           exact absurd H (by simp)
         ·
          rw [if_neg c102] at H
          exact absurd H (by simp)
        ·
         rw [if_neg c101] at H
         exact absurd H (by simp)
       ·
        rw [if_neg c100] at H
        exact absurd H (by simp)
    ·
     rw [if_neg c8] at H
     have c8b0 : (t360 == 101) = false := beq_eq_false_iff_ne.mpr c8
     have c8b1 : (t360 != 101) = true := bne_iff_ne.mpr c8
     simp only [Option.some.injEq, Prod.mk.injEq] at H
     obtain ⟨rfl, rfl⟩ := H
     have p6 : 0 ≤ (a1 : Int) := of_decide_eq_true qnp3_
     have q6 : a1 < (a0.size : Int) := of_decide_eq_true qnp3_
     have hx6 := bt_at a0 a1
     replace p6 := eq_true p6
     replace q6 := eq_true q6
     go_enter Tryd.func47, Tryd.ntmps47
     go_wp2_with (first | (go_at_call 70; (with_reducible refine (millref3_low.calls (bt a0 a1) t360 _ A7.out).mono ?_); rintro e w' ⟨rfl, ⟨nd, rfl⟩⟩))
     go_ret2
     exact ⟨qnp2_, qnp4_⟩
   ·
    rw [if_neg c5] at H
    exact absurd H (by simp)
  ·
   rw [if_neg c4] at H
   exact absurd H (by simp)


/-! ### millref3_Norm: function 48 -/
def millref3_Norm.f (k : Nat) (a0_0 : Bool) (a0_1 : ByteArray) (a0_2 : Int) (a0_3 : Int) : Option (Bool × ByteArray × Int × Int) := (millref3_zeros.f k a0_1).bind fun t371 => (if 0 ≤ t371 then (if t371 ≤ (a0_1.size : Int) then ((millref3_trimmed.f k (a0_1.extract (t371 : Int).toNat a0_1.size)).bind fun t372 => (if t372.toList = ([] : List UInt8) then (some (false, (⟨#[]⟩ : ByteArray), 0, 0)) else (some (a0_0, t372, wrap64 (a0_2 - t371), a0_3)))) else (none)) else (none))
set_option maxHeartbeats 8000000 in
set_option maxRecDepth 100000 in
theorem millref3_Norm.calls (k : Nat) (a0_0 : Bool) (a0_1 : ByteArray) (a0_2 : Int) (a0_3 : Int) (r1 : Bool) (r2 : ByteArray) (r3 : Int) (r4 : Int) (w : World) (h : millref3_Norm.f k a0_0 a0_1 a0_2 a0_3 = some (r1, r2, r3, r4)) :
  Calls Tryd.prog 48 #[.agg #[.bool a0_0, .string a0_1, .int .i64 a0_2, .int .i64 a0_3]] w fun e w' => e = .returned (.agg #[.bool r1, .string r2, .int .i64 r3, .int .i64 r4]) ∧ Below w.heap.size w w' := by
 have hu67 := Tryd.underlying67
 have HB := Aside0.mk (Below.refl w.heap.size w)
 have H : ((millref3_zeros.f k a0_1).bind fun t371 => (if 0 ≤ t371 then (if t371 ≤ (a0_1.size : Int) then ((millref3_trimmed.f k (a0_1.extract (t371 : Int).toNat a0_1.size)).bind fun t372 => (if t372.toList = ([] : List UInt8) then (some (false, (⟨#[]⟩ : ByteArray), 0, 0)) else (some (a0_0, t372, wrap64 (a0_2 - t371), a0_3)))) else (none)) else (none))) = some (r1, r2, r3, r4) := h
 clear h
 replace H := Option.bind_eq_some_iff.mp H
 obtain ⟨t371, A20, H⟩ := H
 replace H : (if 0 ≤ t371 then (if t371 ≤ (a0_1.size : Int) then ((millref3_trimmed.f k (a0_1.extract (t371 : Int).toNat a0_1.size)).bind fun t372 => (if t372.toList = ([] : List UInt8) then (some (false, (⟨#[]⟩ : ByteArray), 0, 0)) else (some (a0_0, t372, wrap64 (a0_2 - t371), a0_3)))) else (none)) else (none)) = some (r1, r2, r3, r4) := H
 have A2 := Aside0.mk A20
 clear A20
 by_cases c3 : 0 ≤ t371
 ·
  rw [if_pos c3] at H
  have c3b0 := eq_true c3
  have c3b1 : decide (0 ≤ t371) = true := decide_eq_true c3
  clear c3
  by_cases c4 : t371 ≤ (a0_1.size : Int)
  ·
   rw [if_pos c4] at H
   have c4b0 := eq_true c4
   have c4b1 : decide (t371 ≤ (a0_1.size : Int)) = true := decide_eq_true c4
   clear c4
   replace H := Option.bind_eq_some_iff.mp H
   obtain ⟨t372, A50, H⟩ := H
   replace H : (if t372.toList = ([] : List UInt8) then (some (false, (⟨#[]⟩ : ByteArray), 0, 0)) else (some (a0_0, t372, wrap64 (a0_2 - t371), a0_3))) = some (r1, r2, r3, r4) := H
   have A5 := Aside0.mk A50
   clear A50
   by_cases c6 : t372.toList = ([] : List UInt8)
   ·
    rw [if_pos c6] at H
    have c6b0 : (t372.toList == ([] : List UInt8)) = true := beq_iff_eq.mpr c6
    have c6b1 : (t372.toList != ([] : List UInt8)) = false := bne_eq_false_iff_eq.mpr c6
    clear c6
    simp only [Option.some.injEq, Prod.mk.injEq] at H
    obtain ⟨rfl, rfl, rfl, rfl⟩ := H
    go_enter Tryd.func48, Tryd.ntmps48
    have tk16 : True := trivial; have tk17 : True := trivial; have tk18 : True := trivial; have tk19 : True := trivial
    go_wp2_with (first | (have ztk16 := tk16; clear tk16 ztk16; (with_reducible refine gate_dst (N := 1) rfl ?_); refine box_event ?hg (N := 1) ?hd (cs := #[.bool a0_0, .string a0_1, .int .i64 a0_2, .int .i64 a0_3]) (t := 67) ?hr ?_; (case hd => rfl); (case hg => rfl); (case hr => first | (go_simp; done) | (go_simp; rfl)); intro gb369 hg w7 hbox hb; have n0_ := Aside0.mk (below_step qnp1_ hb); have n1_ := Aside0.mk (hbox); have n2_ := Aside0.mk ((by rw [hg]; exact (below_size qnp1_) : w.heap.size ≤ gb369)); have n3_ := Aside0.mk ((by rw [hg]; exact (below_size qnp1_) : w.heap.size ≤ gb369)); clear HB; have HB := n0_; have BK369 := n1_; have GW369 := n2_; have GE369 := n3_; clear n0_ n1_ n2_ n3_; clear hb hbox hg) | (have ztk17 := tk17; clear tk17 ztk17; (with_reducible refine gate_dst (N := 2) rfl ?_); refine box_event ?hg (N := 2) ?hd (cs := #[.bool false, .string (⟨#[]⟩ : ByteArray), .int .i64 0, .int .i64 0]) (t := 67) ?hr ?_; (case hd => rfl); (case hg => rfl); (case hr => first | (go_simp; done) | (go_simp; rfl)); intro gb370 hg w8 hbox hb; have n0_ := Aside0.mk (blk_below (g := gb369) (o := .cells #[.bool a0_0, .string a0_1, .int .i64 a0_2, .int .i64 a0_3] 67 (0, 0)) qnp39_ hb); have n1_ := Aside0.mk (below_step qnp49_ hb); have n2_ := Aside0.mk (hbox); have n3_ := Aside0.mk ((by rw [hg]; exact (below_size qnp49_) : w.heap.size ≤ gb370)); have n4_ := Aside0.mk ((by rw [hg]; exact (below_size qnp49_) : w.heap.size ≤ gb370)); have n5_ := Aside0.mk ((by rw [hg]; exact Nat.ne_of_lt (blk_lt (g := gb369) (o := .cells #[.bool a0_0, .string a0_1, .int .i64 a0_2, .int .i64 a0_3] 67 (0, 0)) qnp39_) : gb369 ≠ gb370)); have n6_ := Aside0.mk ((by rw [hg]; exact Nat.ne_of_gt (blk_lt (g := gb369) (o := .cells #[.bool a0_0, .string a0_1, .int .i64 a0_2, .int .i64 a0_3] 67 (0, 0)) qnp39_) : gb370 ≠ gb369)); clear BK369; clear HB; have BK369 := n0_; have HB := n1_; have BK370 := n2_; have GW370 := n3_; have GE370 := n4_; have NB369_370 := n5_; have NB370_369 := n6_; clear n0_ n1_ n2_ n3_ n4_ n5_ n6_; clear hb hbox hg; have hnb9 := NB369_370.out; have hnc9 := NB370_369.out; have hcz10_0 : w8.cell? ⟨gb369, 0, none⟩ = some (.bool a0_0) := (blk_cell BK369.out 0).trans rfl; have hcz10_1 : w8.cell? ⟨gb369, 1, none⟩ = some (.string a0_1) := (blk_cell BK369.out 1).trans rfl; have hcz10_2 : w8.cell? ⟨gb369, 2, none⟩ = some (.int .i64 a0_2) := (blk_cell BK369.out 2).trans rfl; have hcz10_3 : w8.cell? ⟨gb369, 3, none⟩ = some (.int .i64 a0_3) := (blk_cell BK369.out 3).trans rfl; have hfz10_0 := blk_frozen BK369.out 0; have hfz10_1 := blk_frozen BK369.out 1; have hfz10_2 := blk_frozen BK369.out 2; have hfz10_3 := blk_frozen BK369.out 3) | (have ztk18 := tk18; clear tk18 ztk18; (with_reducible refine gate_callee (f := 42) rfl ?_); refine goesL_ (some 7) rfl rfl Tryd.func42 (by kernel_rfl) rfl #[.string a0_1] rfl qnp0_ ?_; (with_reducible refine (millref3_zeros.calls k a0_1 t371 _ A2.out).mono ?_); rintro e w' ⟨rfl, ⟨nd, rfl⟩⟩; refine ⟨_, rfl, ?_⟩; (try (rw [drewN_self w8]; generalize hq_ : World.drewN w8 _ = w8; have n0_ : Aside0 (w8.heap[gb369]? = some (.cells #[.bool a0_0, .string a0_1, .int .i64 a0_2, .int .i64 a0_3] 67 (0, 0))) := ⟨by rw [← hq_]; exact qnp39_⟩; have n1_ : Aside0 (w8.heap[gb370]? = some (.cells #[.bool false, .string (⟨#[]⟩ : ByteArray), .int .i64 0, .int .i64 0] 67 (0, 0))) := ⟨by rw [← hq_]; exact qnp68_⟩; have n2_ : Aside0 (Below w.heap.size w w8) := ⟨by rw [← hq_]; exact qnp42_⟩; clear BK369 BK370 HB hq_; have BK369 := n0_; have BK370 := n1_; have HB := n2_; clear n0_ n1_ n2_)); (try (have hcu11_0 : w8.cell? ⟨gb369, 0, none⟩ = some (.bool a0_0) := (blk_cell BK369.out 0).trans rfl; have hfu11_0 := blk_frozen BK369.out 0; have hcu11_1 : w8.cell? ⟨gb369, 1, none⟩ = some (.string a0_1) := (blk_cell BK369.out 1).trans rfl; have hfu11_1 := blk_frozen BK369.out 1; have hcu11_2 : w8.cell? ⟨gb369, 2, none⟩ = some (.int .i64 a0_2) := (blk_cell BK369.out 2).trans rfl; have hfu11_2 := blk_frozen BK369.out 2; have hcu11_3 : w8.cell? ⟨gb369, 3, none⟩ = some (.int .i64 a0_3) := (blk_cell BK369.out 3).trans rfl; have hfu11_3 := blk_frozen BK369.out 3)); (try (have hcu12_0 : w8.cell? ⟨gb370, 0, none⟩ = some (.bool false) := (blk_cell BK370.out 0).trans rfl; have hfu12_0 := blk_frozen BK370.out 0; have hcu12_1 : w8.cell? ⟨gb370, 1, none⟩ = some (.string (⟨#[]⟩ : ByteArray)) := (blk_cell BK370.out 1).trans rfl; have hfu12_1 := blk_frozen BK370.out 1; have hcu12_2 : w8.cell? ⟨gb370, 2, none⟩ = some (.int .i64 0) := (blk_cell BK370.out 2).trans rfl; have hfu12_2 := blk_frozen BK370.out 2; have hcu12_3 : w8.cell? ⟨gb370, 3, none⟩ = some (.int .i64 0) := (blk_cell BK370.out 3).trans rfl; have hfu12_3 := blk_frozen BK370.out 3))) | (have ztk19 := tk19; clear tk19 ztk19; (with_reducible refine gate_callee (f := 43) rfl ?_); refine goesL_ (some 12) rfl rfl Tryd.func43 (by kernel_rfl) rfl #[.string (a0_1.extract (t371 : Int).toNat a0_1.size)] rfl qnp0_ ?_; (with_reducible refine (millref3_trimmed.calls k (a0_1.extract (t371 : Int).toNat a0_1.size) t372 _ A5.out).mono ?_); rintro e w' ⟨rfl, ⟨nd, rfl⟩⟩; refine ⟨_, rfl, ?_⟩; (try (rw [drewN_self w8]; generalize hq_ : World.drewN w8 _ = w8; have n0_ : Aside0 (w8.heap[gb369]? = some (.cells #[.bool a0_0, .string a0_1, .int .i64 a0_2, .int .i64 a0_3] 67 (0, 0))) := ⟨by rw [← hq_]; exact qnp39_⟩; have n1_ : Aside0 (w8.heap[gb370]? = some (.cells #[.bool false, .string (⟨#[]⟩ : ByteArray), .int .i64 0, .int .i64 0] 67 (0, 0))) := ⟨by rw [← hq_]; exact qnp68_⟩; have n2_ : Aside0 (Below w.heap.size w w8) := ⟨by rw [← hq_]; exact qnp42_⟩; clear BK369 BK370 HB hq_; have BK369 := n0_; have BK370 := n1_; have HB := n2_; clear n0_ n1_ n2_)); (try (have hcu13_0 : w8.cell? ⟨gb369, 0, none⟩ = some (.bool a0_0) := (blk_cell BK369.out 0).trans rfl; have hfu13_0 := blk_frozen BK369.out 0; have hcu13_1 : w8.cell? ⟨gb369, 1, none⟩ = some (.string a0_1) := (blk_cell BK369.out 1).trans rfl; have hfu13_1 := blk_frozen BK369.out 1; have hcu13_2 : w8.cell? ⟨gb369, 2, none⟩ = some (.int .i64 a0_2) := (blk_cell BK369.out 2).trans rfl; have hfu13_2 := blk_frozen BK369.out 2; have hcu13_3 : w8.cell? ⟨gb369, 3, none⟩ = some (.int .i64 a0_3) := (blk_cell BK369.out 3).trans rfl; have hfu13_3 := blk_frozen BK369.out 3)); (try (have hcu14_0 : w8.cell? ⟨gb370, 0, none⟩ = some (.bool false) := (blk_cell BK370.out 0).trans rfl; have hfu14_0 := blk_frozen BK370.out 0; have hcu14_1 : w8.cell? ⟨gb370, 1, none⟩ = some (.string (⟨#[]⟩ : ByteArray)) := (blk_cell BK370.out 1).trans rfl; have hfu14_1 := blk_frozen BK370.out 1; have hcu14_2 : w8.cell? ⟨gb370, 2, none⟩ = some (.int .i64 0) := (blk_cell BK370.out 2).trans rfl; have hfu14_2 := blk_frozen BK370.out 2; have hcu14_3 : w8.cell? ⟨gb370, 3, none⟩ = some (.int .i64 0) := (blk_cell BK370.out 3).trans rfl; have hfu14_3 := blk_frozen BK370.out 3)); have hcz15_0 : w8.cell? ⟨gb370, 0, none⟩ = some (.bool false) := (blk_cell BK370.out 0).trans rfl; have hcz15_1 : w8.cell? ⟨gb370, 1, none⟩ = some (.string (⟨#[]⟩ : ByteArray)) := (blk_cell BK370.out 1).trans rfl; have hcz15_2 : w8.cell? ⟨gb370, 2, none⟩ = some (.int .i64 0) := (blk_cell BK370.out 2).trans rfl; have hcz15_3 : w8.cell? ⟨gb370, 3, none⟩ = some (.int .i64 0) := (blk_cell BK370.out 3).trans rfl; have hfz15_0 := blk_frozen BK370.out 0; have hfz15_1 := blk_frozen BK370.out 1; have hfz15_2 := blk_frozen BK370.out 2; have hfz15_3 := blk_frozen BK370.out 3))
    refine bodyPost_ret (results_cell_row rfl _ _ gb370 67 #[.bool false, .string (⟨#[]⟩ : ByteArray), .int .i64 0, .int .i64 0] (0, 0) _ rfl (by (with_reducible repeat (first | refine blk_drewN ?_ _ | refine blk_drew ?_ | refine blk_alloc ?_ _)); refine blk_put (cs := #[.bool false, .string (⟨#[]⟩ : ByteArray), .int .i64 0, .int .i64 0]) ?_ 3 _ rfl; (with_reducible repeat (first | refine blk_drewN ?_ _ | refine blk_drew ?_ | refine blk_alloc ?_ _)); refine blk_put (cs := #[.bool false, .string (⟨#[]⟩ : ByteArray), .int .i64 0, .int .i64 0]) ?_ 2 _ rfl; (with_reducible repeat (first | refine blk_drewN ?_ _ | refine blk_drew ?_ | refine blk_alloc ?_ _)); refine blk_put (cs := #[.bool false, .string (⟨#[]⟩ : ByteArray), .int .i64 0, .int .i64 0]) ?_ 1 _ rfl; (with_reducible repeat (first | refine blk_drewN ?_ _ | refine blk_drew ?_ | refine blk_alloc ?_ _)); refine blk_put (cs := #[.bool false, .string (⟨#[]⟩ : ByteArray), .int .i64 0, .int .i64 0]) ?_ 0 _ rfl; (with_reducible repeat (first | refine blk_drewN ?_ _ | refine blk_drew ?_ | refine blk_alloc ?_ _)); exact BK370.out) Tryd.underlying67 rfl (by kernel_rfl)) rfl ?_
    exact ⟨qnp5_, qnp42_⟩
   ·
    rw [if_neg c6] at H
    have c6b0 : (t372.toList == ([] : List UInt8)) = false := beq_eq_false_iff_ne.mpr c6
    have c6b1 : (t372.toList != ([] : List UInt8)) = true := bne_iff_ne.mpr c6
    simp only [Option.some.injEq, Prod.mk.injEq] at H
    obtain ⟨rfl, rfl, rfl, rfl⟩ := H
    go_enter Tryd.func48, Tryd.ntmps48
    have tk29 : True := trivial; have tk30 : True := trivial; have tk31 : True := trivial; have tk32 : True := trivial
    go_wp2_with (first | (have ztk29 := tk29; clear tk29 ztk29; (with_reducible refine gate_dst (N := 1) rfl ?_); refine box_event ?hg (N := 1) ?hd (cs := #[.bool a0_0, .string a0_1, .int .i64 a0_2, .int .i64 a0_3]) (t := 67) ?hr ?_; (case hd => rfl); (case hg => rfl); (case hr => first | (go_simp; done) | (go_simp; rfl)); intro gb369 hg w20 hbox hb; have n0_ := Aside0.mk (below_step qnp1_ hb); have n1_ := Aside0.mk (hbox); have n2_ := Aside0.mk ((by rw [hg]; exact (below_size qnp1_) : w.heap.size ≤ gb369)); have n3_ := Aside0.mk ((by rw [hg]; exact (below_size qnp1_) : w.heap.size ≤ gb369)); clear HB; have HB := n0_; have BK369 := n1_; have GW369 := n2_; have GE369 := n3_; clear n0_ n1_ n2_ n3_; clear hb hbox hg) | (have ztk30 := tk30; clear tk30 ztk30; (with_reducible refine gate_dst (N := 2) rfl ?_); refine box_event ?hg (N := 2) ?hd (cs := #[.bool false, .string (⟨#[]⟩ : ByteArray), .int .i64 0, .int .i64 0]) (t := 67) ?hr ?_; (case hd => rfl); (case hg => rfl); (case hr => first | (go_simp; done) | (go_simp; rfl)); intro gb370 hg w21 hbox hb; have n0_ := Aside0.mk (blk_below (g := gb369) (o := .cells #[.bool a0_0, .string a0_1, .int .i64 a0_2, .int .i64 a0_3] 67 (0, 0)) qnp39_ hb); have n1_ := Aside0.mk (below_step qnp49_ hb); have n2_ := Aside0.mk (hbox); have n3_ := Aside0.mk ((by rw [hg]; exact (below_size qnp49_) : w.heap.size ≤ gb370)); have n4_ := Aside0.mk ((by rw [hg]; exact (below_size qnp49_) : w.heap.size ≤ gb370)); have n5_ := Aside0.mk ((by rw [hg]; exact Nat.ne_of_lt (blk_lt (g := gb369) (o := .cells #[.bool a0_0, .string a0_1, .int .i64 a0_2, .int .i64 a0_3] 67 (0, 0)) qnp39_) : gb369 ≠ gb370)); have n6_ := Aside0.mk ((by rw [hg]; exact Nat.ne_of_gt (blk_lt (g := gb369) (o := .cells #[.bool a0_0, .string a0_1, .int .i64 a0_2, .int .i64 a0_3] 67 (0, 0)) qnp39_) : gb370 ≠ gb369)); clear BK369; clear HB; have BK369 := n0_; have HB := n1_; have BK370 := n2_; have GW370 := n3_; have GE370 := n4_; have NB369_370 := n5_; have NB370_369 := n6_; clear n0_ n1_ n2_ n3_ n4_ n5_ n6_; clear hb hbox hg; have hnb22 := NB369_370.out; have hnc22 := NB370_369.out; have hcz23_0 : w21.cell? ⟨gb369, 0, none⟩ = some (.bool a0_0) := (blk_cell BK369.out 0).trans rfl; have hcz23_1 : w21.cell? ⟨gb369, 1, none⟩ = some (.string a0_1) := (blk_cell BK369.out 1).trans rfl; have hcz23_2 : w21.cell? ⟨gb369, 2, none⟩ = some (.int .i64 a0_2) := (blk_cell BK369.out 2).trans rfl; have hcz23_3 : w21.cell? ⟨gb369, 3, none⟩ = some (.int .i64 a0_3) := (blk_cell BK369.out 3).trans rfl; have hfz23_0 := blk_frozen BK369.out 0; have hfz23_1 := blk_frozen BK369.out 1; have hfz23_2 := blk_frozen BK369.out 2; have hfz23_3 := blk_frozen BK369.out 3) | (have ztk31 := tk31; clear tk31 ztk31; (with_reducible refine gate_callee (f := 42) rfl ?_); refine goesL_ (some 7) rfl rfl Tryd.func42 (by kernel_rfl) rfl #[.string a0_1] rfl qnp0_ ?_; (with_reducible refine (millref3_zeros.calls k a0_1 t371 _ A2.out).mono ?_); rintro e w' ⟨rfl, ⟨nd, rfl⟩⟩; refine ⟨_, rfl, ?_⟩; (try (rw [drewN_self w21]; generalize hq_ : World.drewN w21 _ = w21; have n0_ : Aside0 (w21.heap[gb369]? = some (.cells #[.bool a0_0, .string a0_1, .int .i64 a0_2, .int .i64 a0_3] 67 (0, 0))) := ⟨by rw [← hq_]; exact qnp39_⟩; have n1_ : Aside0 (w21.heap[gb370]? = some (.cells #[.bool false, .string (⟨#[]⟩ : ByteArray), .int .i64 0, .int .i64 0] 67 (0, 0))) := ⟨by rw [← hq_]; exact qnp68_⟩; have n2_ : Aside0 (Below w.heap.size w w21) := ⟨by rw [← hq_]; exact qnp42_⟩; clear BK369 BK370 HB hq_; have BK369 := n0_; have BK370 := n1_; have HB := n2_; clear n0_ n1_ n2_)); (try (have hcu24_0 : w21.cell? ⟨gb369, 0, none⟩ = some (.bool a0_0) := (blk_cell BK369.out 0).trans rfl; have hfu24_0 := blk_frozen BK369.out 0; have hcu24_1 : w21.cell? ⟨gb369, 1, none⟩ = some (.string a0_1) := (blk_cell BK369.out 1).trans rfl; have hfu24_1 := blk_frozen BK369.out 1; have hcu24_2 : w21.cell? ⟨gb369, 2, none⟩ = some (.int .i64 a0_2) := (blk_cell BK369.out 2).trans rfl; have hfu24_2 := blk_frozen BK369.out 2; have hcu24_3 : w21.cell? ⟨gb369, 3, none⟩ = some (.int .i64 a0_3) := (blk_cell BK369.out 3).trans rfl; have hfu24_3 := blk_frozen BK369.out 3)); (try (have hcu25_0 : w21.cell? ⟨gb370, 0, none⟩ = some (.bool false) := (blk_cell BK370.out 0).trans rfl; have hfu25_0 := blk_frozen BK370.out 0; have hcu25_1 : w21.cell? ⟨gb370, 1, none⟩ = some (.string (⟨#[]⟩ : ByteArray)) := (blk_cell BK370.out 1).trans rfl; have hfu25_1 := blk_frozen BK370.out 1; have hcu25_2 : w21.cell? ⟨gb370, 2, none⟩ = some (.int .i64 0) := (blk_cell BK370.out 2).trans rfl; have hfu25_2 := blk_frozen BK370.out 2; have hcu25_3 : w21.cell? ⟨gb370, 3, none⟩ = some (.int .i64 0) := (blk_cell BK370.out 3).trans rfl; have hfu25_3 := blk_frozen BK370.out 3))) | (have ztk32 := tk32; clear tk32 ztk32; (with_reducible refine gate_callee (f := 43) rfl ?_); refine goesL_ (some 12) rfl rfl Tryd.func43 (by kernel_rfl) rfl #[.string (a0_1.extract (t371 : Int).toNat a0_1.size)] rfl qnp0_ ?_; (with_reducible refine (millref3_trimmed.calls k (a0_1.extract (t371 : Int).toNat a0_1.size) t372 _ A5.out).mono ?_); rintro e w' ⟨rfl, ⟨nd, rfl⟩⟩; refine ⟨_, rfl, ?_⟩; (try (rw [drewN_self w21]; generalize hq_ : World.drewN w21 _ = w21; have n0_ : Aside0 (w21.heap[gb369]? = some (.cells #[.bool a0_0, .string a0_1, .int .i64 a0_2, .int .i64 a0_3] 67 (0, 0))) := ⟨by rw [← hq_]; exact qnp39_⟩; have n1_ : Aside0 (w21.heap[gb370]? = some (.cells #[.bool false, .string (⟨#[]⟩ : ByteArray), .int .i64 0, .int .i64 0] 67 (0, 0))) := ⟨by rw [← hq_]; exact qnp68_⟩; have n2_ : Aside0 (Below w.heap.size w w21) := ⟨by rw [← hq_]; exact qnp42_⟩; clear BK369 BK370 HB hq_; have BK369 := n0_; have BK370 := n1_; have HB := n2_; clear n0_ n1_ n2_)); (try (have hcu26_0 : w21.cell? ⟨gb369, 0, none⟩ = some (.bool a0_0) := (blk_cell BK369.out 0).trans rfl; have hfu26_0 := blk_frozen BK369.out 0; have hcu26_1 : w21.cell? ⟨gb369, 1, none⟩ = some (.string a0_1) := (blk_cell BK369.out 1).trans rfl; have hfu26_1 := blk_frozen BK369.out 1; have hcu26_2 : w21.cell? ⟨gb369, 2, none⟩ = some (.int .i64 a0_2) := (blk_cell BK369.out 2).trans rfl; have hfu26_2 := blk_frozen BK369.out 2; have hcu26_3 : w21.cell? ⟨gb369, 3, none⟩ = some (.int .i64 a0_3) := (blk_cell BK369.out 3).trans rfl; have hfu26_3 := blk_frozen BK369.out 3)); (try (have hcu27_0 : w21.cell? ⟨gb370, 0, none⟩ = some (.bool false) := (blk_cell BK370.out 0).trans rfl; have hfu27_0 := blk_frozen BK370.out 0; have hcu27_1 : w21.cell? ⟨gb370, 1, none⟩ = some (.string (⟨#[]⟩ : ByteArray)) := (blk_cell BK370.out 1).trans rfl; have hfu27_1 := blk_frozen BK370.out 1; have hcu27_2 : w21.cell? ⟨gb370, 2, none⟩ = some (.int .i64 0) := (blk_cell BK370.out 2).trans rfl; have hfu27_2 := blk_frozen BK370.out 2; have hcu27_3 : w21.cell? ⟨gb370, 3, none⟩ = some (.int .i64 0) := (blk_cell BK370.out 3).trans rfl; have hfu27_3 := blk_frozen BK370.out 3)); have hcz28_0 : w21.cell? ⟨gb370, 0, none⟩ = some (.bool false) := (blk_cell BK370.out 0).trans rfl; have hcz28_1 : w21.cell? ⟨gb370, 1, none⟩ = some (.string (⟨#[]⟩ : ByteArray)) := (blk_cell BK370.out 1).trans rfl; have hcz28_2 : w21.cell? ⟨gb370, 2, none⟩ = some (.int .i64 0) := (blk_cell BK370.out 2).trans rfl; have hcz28_3 : w21.cell? ⟨gb370, 3, none⟩ = some (.int .i64 0) := (blk_cell BK370.out 3).trans rfl; have hfz28_0 := blk_frozen BK370.out 0; have hfz28_1 := blk_frozen BK370.out 1; have hfz28_2 := blk_frozen BK370.out 2; have hfz28_3 := blk_frozen BK370.out 3))
    refine bodyPost_ret (results_cell_row rfl _ _ gb370 67 #[.bool a0_0, .string t372, .int .i64 (wrap64 (a0_2 - t371)), .int .i64 a0_3] (0, 0) _ rfl (by (with_reducible repeat (first | refine blk_drewN ?_ _ | refine blk_drew ?_ | refine blk_alloc ?_ _)); refine blk_put (cs := #[.bool a0_0, .string t372, .int .i64 (wrap64 (a0_2 - t371)), .int .i64 0]) ?_ 3 _ rfl; (with_reducible repeat (first | refine blk_drewN ?_ _ | refine blk_drew ?_ | refine blk_alloc ?_ _)); refine blk_put (cs := #[.bool a0_0, .string t372, .int .i64 0, .int .i64 0]) ?_ 2 _ rfl; (with_reducible repeat (first | refine blk_drewN ?_ _ | refine blk_drew ?_ | refine blk_alloc ?_ _)); refine blk_put (cs := #[.bool a0_0, .string (⟨#[]⟩ : ByteArray), .int .i64 0, .int .i64 0]) ?_ 1 _ rfl; (with_reducible repeat (first | refine blk_drewN ?_ _ | refine blk_drew ?_ | refine blk_alloc ?_ _)); refine blk_put (cs := #[.bool false, .string (⟨#[]⟩ : ByteArray), .int .i64 0, .int .i64 0]) ?_ 0 _ rfl; (with_reducible repeat (first | refine blk_drewN ?_ _ | refine blk_drew ?_ | refine blk_alloc ?_ _)); refine blk_far ?_ NB370_369.out _; (with_reducible repeat (first | refine blk_drewN ?_ _ | refine blk_drew ?_ | refine blk_alloc ?_ _)); refine blk_far ?_ NB370_369.out _; (with_reducible repeat (first | refine blk_drewN ?_ _ | refine blk_drew ?_ | refine blk_alloc ?_ _)); exact BK370.out) Tryd.underlying67 rfl (by kernel_rfl)) rfl ?_
    exact ⟨qnp5_, qnp42_⟩
  ·
   rw [if_neg c4] at H
   exact absurd H (by simp)
 ·
  rw [if_neg c3] at H
  exact absurd H (by simp)

end Go.Proofs.YtcdajedmlfhmeaaDoor.XN
