import Derived.Test.YtcdajedmlfhmeaaDoorZND0
import Derived.Test.YtcdajedmlfhmeaaDoorZND1
namespace Go.Proofs.YtcdajedmlfhmeaaDoor.XN
open Go.RowKit Go.Proofs.YtcdajedmlfhmeaaDoorW.PrintWords Go.Proofs.YtcdajedmlfhmeaaDoorW.PrintLast Go.Proofs.YtcdajedmlfhmeaaDoorW.PrintMore
attribute [local go_sem] max2_int min2_int max_two min_two max_three min_three max_four min_four
set_option linter.unusedVariables false
set_option linter.unusedSimpArgs false

/-! ### millref3_trimmed: function 43 -/
def millref3_trimmed.l0 : Nat → ByteArray → Int → Option (ByteArray)
 | 0, _, _ => none
 | k + 1, x0, x3 => if x3 > 0 then (if 0 ≤ (wrap64 (x3 - 1)) then (if (wrap64 (x3 - 1)) < (x0.size : Int) then (if (bt x0 (wrap64 (x3 - 1))) = 48 then (millref3_trimmed.l0 k x0 (wrap64 (x3 - 1))) else (if 0 ≤ x3 then (if x3 ≤ (x0.size : Int) then (some (x0.extract 0 (x3 : Int).toNat)) else (none)) else (none))) else (none)) else (none)) else (if 0 ≤ x3 then (if x3 ≤ (x0.size : Int) then (some (x0.extract 0 (x3 : Int).toNat)) else (none)) else (none))
def millref3_trimmed.f (k : Nat) (a0 : ByteArray) : Option (ByteArray) := millref3_trimmed.l0 k a0 (a0.size : Int)
set_option maxHeartbeats 8000000 in
set_option maxRecDepth 100000 in
theorem millref3_trimmed.calls (k : Nat) (a0 : ByteArray) (r : ByteArray) (w : World) (h : millref3_trimmed.f k a0 = some r) :
  Calls Tryd.prog 43 #[.string a0] w fun e w' => e = .returned (.string r) ∧ Drawn0 w w' := by
 have H : (millref3_trimmed.l0 k a0 (a0.size : Int)) = some r := h
 clear h
 have H' := Aside0.mk H
 clear H
 go_enter Tryd.func43, Tryd.ntmps43
 go_wp2
 go_loopg [3] k (fun kq v3 w' => ∃ (x3_1 : Int), v3 = .int .i64 x3_1 ∧ Aside0 (millref3_trimmed.l0 kq a0 x3_1 = some r) ∧ Aside0 (kq ≤ k) ∧ Drawn0 w w')
 case atStart => exact ⟨((a0.size : Int)), qnd2_, H', ⟨Nat.le_refl _⟩, qnd9_⟩
 case round =>
  clear H'
  obtain ⟨x3_1, rfl, HA, HK1, ⟨m1, rfl⟩⟩ := hrel
  cases gk with
  | zero => exact absurd HA.out (by simp [millref3_trimmed.l0])
  | succ k1 =>
   have H := HA.out
   clear HA
   simp only [millref3_trimmed.l0] at H
   by_cases c2 : x3_1 > 0
   ·
    rw [if_pos c2] at H
    have c2b0 : decide (0 < x3_1) = true := decide_eq_true c2
    clear c2
    obtain ⟨ji3, hji3⟩ : ∃ j_ : Int, (wrap64 (x3_1 - 1)) = j_ := ⟨_, rfl⟩
    replace H : (if 0 ≤ (ji3) then (if (ji3) < (a0.size : Int) then (if (bt a0 (ji3)) = 48 then (millref3_trimmed.l0 k1 a0 ji3) else (if 0 ≤ x3_1 then (if x3_1 ≤ (a0.size : Int) then (some (a0.extract 0 (x3_1 : Int).toNat)) else (none)) else (none))) else (none)) else (none)) = some r := by first | (rw [hji3] at H; exact H) | (simp only [hji3] at H ⊢; exact H)
    have hji3w : (IntKind.i64.wrap (x3_1 - 1)) = ji3 := (i64_w _).trans hji3
    by_cases c4 : 0 ≤ (ji3)
    ·
     rw [if_pos c4] at H
     have c4b0 : decide (0 ≤ (ji3)) = true := decide_eq_true c4
     clear c4
     by_cases c5 : (ji3) < (a0.size : Int)
     ·
      rw [if_pos c5] at H
      have c5b0 : decide ((ji3) < (a0.size : Int)) = true := decide_eq_true c5
      clear c5
      by_cases c7 : (bt a0 (ji3)) = 48
      ·
       rw [if_pos c7] at H
       have c7b0 : ((bt a0 (ji3)) == 48) = true := beq_iff_eq.mpr c7
       have c7b1 : ((bt a0 (ji3)) != 48) = false := bne_eq_false_iff_eq.mpr c7
       clear c7
       have H' := Aside0.mk H
       clear H
       have p6 : 0 ≤ ((ji3) : Int) := of_decide_eq_true qnd3_
       have q6 : (ji3) < (a0.size : Int) := of_decide_eq_true qnd3_
       have hx6 := bt_at a0 (ji3)
       replace p6 := eq_true p6
       replace q6 := eq_true q6
       go_wp2
       go_roundg k1
       case measure => have := HK1.out; omega
       case rel => exact ⟨(ji3), (by first | rfl | (simp; done) | (simp only [← hji3] <;> (first | rfl | simp); done) | (simp [*]; done) | (simp; simp only [eq_iff_iff, iff_true] at *; omega) | (exfalso; simp_all; done)), H', ⟨by have := HK1.out; omega⟩, qnd9_⟩
      ·
       rw [if_neg c7] at H
       have c7b0 : ((bt a0 (ji3)) == 48) = false := beq_eq_false_iff_ne.mpr c7
       have c7b1 : ((bt a0 (ji3)) != 48) = true := bne_iff_ne.mpr c7
       by_cases c8 : 0 ≤ x3_1
       ·
        rw [if_pos c8] at H
        have c8b0 := eq_true c8
        have c8b1 : decide (0 ≤ x3_1) = true := decide_eq_true c8
        clear c8
        by_cases c9 : x3_1 ≤ (a0.size : Int)
        ·
         rw [if_pos c9] at H
         have c9b0 := eq_true c9
         have c9b1 : decide (x3_1 ≤ (a0.size : Int)) = true := decide_eq_true c9
         clear c9
         obtain rfl := Option.some.inj H
         have p6 : 0 ≤ ((ji3) : Int) := of_decide_eq_true qnd3_
         have q6 : (ji3) < (a0.size : Int) := of_decide_eq_true qnd3_
         have hx6 := bt_at a0 (ji3)
         replace p6 := eq_true p6
         replace q6 := eq_true q6
         go_wp2
         go_ret
         exact ⟨by first | rfl | (simp; done) | (simp only [← hji3] <;> (first | rfl | simp); done) | (simp [*]; done) | (simp; simp only [eq_iff_iff, iff_true] at *; omega) | (exfalso; simp_all; done), qnd9_⟩
        ·
         rw [if_neg c9] at H
         exact absurd H (by simp)
       ·
        rw [if_neg c8] at H
        exact absurd H (by simp)
     ·
      rw [if_neg c5] at H
      exact absurd H (by simp)
    ·
     rw [if_neg c4] at H
     exact absurd H (by simp)
   ·
    rw [if_neg c2] at H
    have c2b0 : decide (0 < x3_1) = false := decide_eq_false c2
    clear c2
    by_cases c10 : 0 ≤ x3_1
    ·
     rw [if_pos c10] at H
     have c10b0 := eq_true c10
     have c10b1 : decide (0 ≤ x3_1) = true := decide_eq_true c10
     clear c10
     by_cases c11 : x3_1 ≤ (a0.size : Int)
     ·
      rw [if_pos c11] at H
      have c11b0 := eq_true c11
      have c11b1 : decide (x3_1 ≤ (a0.size : Int)) = true := decide_eq_true c11
      clear c11
      obtain rfl := Option.some.inj H
      go_wp2
      go_ret
      exact ⟨qnd2_, qnd9_⟩
     ·
      rw [if_neg c11] at H
      exact absurd H (by simp)
    ·
     rw [if_neg c10] at H
     exact absurd H (by simp)


/-! ### millref3_Decimal: function 22 -/
def millref3_Decimal.f (k : Nat) (a0 : ByteArray) : Option (Bool × ByteArray × ByteArray × Int) := (millref3_signed.f k a0).bind fun bt206 => (if bt206.2.2.2.2 = 0 then (some (false, (⟨#[]⟩ : ByteArray), (⟨#[]⟩ : ByteArray), 0)) else (if 0 ≤ bt206.2.2.1 then (if bt206.2.2.1 ≤ (bt206.2.1.size : Int) then ((millref3_zeros.f k (bt206.2.1.extract 0 (bt206.2.2.1 : Int).toNat)).bind fun t212 => (if 0 ≤ t212 then (if t212 ≤ ((bt206.2.2.1.toNat : Nat) : Int) then ((millref3_trimmed.f k (bt206.2.1.extract (bt206.2.2.1 : Int).toNat bt206.2.1.size)).bind fun t213 => (if bt206.1 = true then (if (bt206.2.2.1.toNat - t212.toNat) + t213.size ≤ 9223372036854775807 then (some ((!((((bt206.2.1.extract 0 (bt206.2.2.1 : Int).toNat).extract (t212 : Int).toNat bt206.2.2.1.toNat) ++ t213).toList).isEmpty), (bt206.2.1.extract 0 (bt206.2.2.1 : Int).toNat).extract (t212 : Int).toNat bt206.2.2.1.toNat, t213, bt206.2.2.2.2)) else (none)) else (some (false, (bt206.2.1.extract 0 (bt206.2.2.1 : Int).toNat).extract (t212 : Int).toNat bt206.2.2.1.toNat, t213, bt206.2.2.2.2)))) else (none)) else (none))) else (none)) else (none)))
def millref3_Decimal.T5 : Bool × List (List Nat × List Nat) := (true, [([], []), ([], []), ([1], [1]), ([0, 2], [0, 2]), ([], []), ([4], [4]), ([], []), ([6], [6]), ([5, 7], [5, 7]), ([8, 2], [8]), ([], []), ([3, 9, 10], [3, 9, 10]), ([], []), ([12, 11, 9, 0, 1, 2, 3, 4, 5, 6, 7, 8, 9, 10, 11, 12], [11, 12])])
def millref3_Decimal.B5 : List Nat := [0, 0, 2, 7, 0, 16, 0, 64, 240, 502, 0, 2047, 0, 8191]
theorem millref3_Decimal.tab5 : rtab .any (opsOf Tryd.f22 5) = millref3_Decimal.T5 := by kernel_rfl
theorem millref3_Decimal.bits5 : waitsOk millref3_Decimal.T5.2 millref3_Decimal.B5 = true := by kernel_rfl
set_option maxHeartbeats 8000000 in
set_option maxRecDepth 100000 in
theorem millref3_Decimal.calls (k : Nat) (a0 : ByteArray) (r1 : Bool) (r2 : ByteArray) (r3 : ByteArray) (r4 : Int) (w : World) (h : millref3_Decimal.f k a0 = some (r1, r2, r3, r4)) :
  Calls Tryd.prog 22 #[.string a0] w fun e w' => e = .returned (.agg #[.bool r1, .string r2, .string r3, .int .i64 r4]) ∧ Below w.heap.size w w' := by
 have hu25 := Tryd.underlying25
 have hu67 := Tryd.underlying67
 have HB := Aside0.mk (Below.refl w.heap.size w)
 have H : ((millref3_signed.f k a0).bind fun bt206 => (if bt206.2.2.2.2 = 0 then (some (false, (⟨#[]⟩ : ByteArray), (⟨#[]⟩ : ByteArray), 0)) else (if 0 ≤ bt206.2.2.1 then (if bt206.2.2.1 ≤ (bt206.2.1.size : Int) then ((millref3_zeros.f k (bt206.2.1.extract 0 (bt206.2.2.1 : Int).toNat)).bind fun t212 => (if 0 ≤ t212 then (if t212 ≤ ((bt206.2.2.1.toNat : Nat) : Int) then ((millref3_trimmed.f k (bt206.2.1.extract (bt206.2.2.1 : Int).toNat bt206.2.1.size)).bind fun t213 => (if bt206.1 = true then (if (bt206.2.2.1.toNat - t212.toNat) + t213.size ≤ 9223372036854775807 then (some ((!((((bt206.2.1.extract 0 (bt206.2.2.1 : Int).toNat).extract (t212 : Int).toNat bt206.2.2.1.toNat) ++ t213).toList).isEmpty), (bt206.2.1.extract 0 (bt206.2.2.1 : Int).toNat).extract (t212 : Int).toNat bt206.2.2.1.toNat, t213, bt206.2.2.2.2)) else (none)) else (some (false, (bt206.2.1.extract 0 (bt206.2.2.1 : Int).toNat).extract (t212 : Int).toNat bt206.2.2.1.toNat, t213, bt206.2.2.2.2)))) else (none)) else (none))) else (none)) else (none)))) = some (r1, r2, r3, r4) := h
 clear h
 replace H := Option.bind_eq_some_iff.mp H
 obtain ⟨⟨t206, t207, t208, t209, t210⟩, A20, H⟩ := H
 replace H : (if t210 = 0 then (some (false, (⟨#[]⟩ : ByteArray), (⟨#[]⟩ : ByteArray), 0)) else (if 0 ≤ t208 then (if t208 ≤ (t207.size : Int) then ((millref3_zeros.f k (t207.extract 0 (t208 : Int).toNat)).bind fun t212 => (if 0 ≤ t212 then (if t212 ≤ ((t208.toNat : Nat) : Int) then ((millref3_trimmed.f k (t207.extract (t208 : Int).toNat t207.size)).bind fun t213 => (if t206 = true then (if (t208.toNat - t212.toNat) + t213.size ≤ 9223372036854775807 then (some ((!((((t207.extract 0 (t208 : Int).toNat).extract (t212 : Int).toNat t208.toNat) ++ t213).toList).isEmpty), (t207.extract 0 (t208 : Int).toNat).extract (t212 : Int).toNat t208.toNat, t213, t210)) else (none)) else (some (false, (t207.extract 0 (t208 : Int).toNat).extract (t212 : Int).toNat t208.toNat, t213, t210)))) else (none)) else (none))) else (none)) else (none))) = some (r1, r2, r3, r4) := H
 have A2 := Aside0.mk A20
 clear A20
 by_cases c3 : t210 = 0
 ·
  rw [if_pos c3] at H
  have c3b0 : (t210 == 0) = true := beq_iff_eq.mpr c3
  have c3b1 : (t210 != 0) = false := bne_eq_false_iff_eq.mpr c3
  clear c3
  simp only [Option.some.injEq, Prod.mk.injEq] at H
  obtain ⟨rfl, rfl, rfl, rfl⟩ := H
  go_enter Tryd.func22, Tryd.ntmps22
  have tk10 : True := trivial; have tk11 : True := trivial; have tk12 : True := trivial
  go_wp2_with (first | (have ztk10 := tk10; clear tk10 ztk10; (with_reducible refine gate_dst (N := 2) rfl ?_); refine box_event ?hg (N := 2) ?hd (cs := #[.bool false, .string (⟨#[]⟩ : ByteArray), .string (⟨#[]⟩ : ByteArray), .int .i64 0]) (t := 25) ?hr ?_; (case hd => rfl); (case hg => rfl); (case hr => first | (go_simp; done) | (go_simp; rfl)); intro gb205 hg w4 hbox hb; have n0_ := Aside0.mk (below_step qnd1_ hb); have n1_ := Aside0.mk (hbox); have n2_ := Aside0.mk ((by rw [hg]; exact (below_size qnd1_) : w.heap.size ≤ gb205)); have n3_ := Aside0.mk ((by rw [hg]; exact (below_size qnd1_) : w.heap.size ≤ gb205)); clear HB; have HB := n0_; have BK205 := n1_; have GW205 := n2_; have GE205 := n3_; clear n0_ n1_ n2_ n3_; clear hb hbox hg) | (have ztk11 := tk11; clear tk11 ztk11; (with_reducible refine gate_callee (f := 41) rfl ?_); refine goesL_ (some 9) rfl rfl Tryd.func41 (by kernel_rfl) rfl #[.string a0] rfl qnd0_ ?_; (with_reducible refine (millref3_signed.calls k a0 t206 t207 t208 t209 t210 _ A2.out).mono ?_); rintro e w5 ⟨rfl, hb⟩; refine ⟨_, rfl, ?_⟩; have n0_ := Aside0.mk (blk_below (g := gb205) (o := .cells #[.bool false, .string (⟨#[]⟩ : ByteArray), .string (⟨#[]⟩ : ByteArray), .int .i64 0] 25 (0, 0)) qnd12_ hb); have n1_ := Aside0.mk (below_step qnd27_ hb); clear BK205; clear HB; have BK205 := n0_; have HB := n1_; clear n0_ n1_; (try clear hb); (try clear hb2); (try clear hk); (try clear hi)) | (have ztk12 := tk12; clear tk12 ztk12; (with_reducible refine gate_dst (N := 3) rfl ?_); refine box_event ?hg (N := 3) ?hd (cs := #[.bool false, .string (⟨#[]⟩ : ByteArray), .int .i64 0, .int .i64 0]) (t := 67) ?hr ?_; (case hd => rfl); (case hg => rfl); (case hr => first | (go_simp; done) | (go_simp; rfl)); intro gb211 hg w6 hbox hb; have n0_ := Aside0.mk (blk_below (g := gb205) (o := .cells #[.bool false, .string (⟨#[]⟩ : ByteArray), .string (⟨#[]⟩ : ByteArray), .int .i64 0] 25 (0, 0)) qnd12_ hb); have n1_ := Aside0.mk (below_step qnd27_ hb); have n2_ := Aside0.mk (hbox); have n3_ := Aside0.mk ((by rw [hg]; exact (below_size qnd27_) : w.heap.size ≤ gb211)); have n4_ := Aside0.mk ((by rw [hg]; exact (below_size qnd27_) : w.heap.size ≤ gb211)); have n5_ := Aside0.mk ((by rw [hg]; exact Nat.ne_of_lt (blk_lt (g := gb205) (o := .cells #[.bool false, .string (⟨#[]⟩ : ByteArray), .string (⟨#[]⟩ : ByteArray), .int .i64 0] 25 (0, 0)) qnd12_) : gb205 ≠ gb211)); have n6_ := Aside0.mk ((by rw [hg]; exact Nat.ne_of_gt (blk_lt (g := gb205) (o := .cells #[.bool false, .string (⟨#[]⟩ : ByteArray), .string (⟨#[]⟩ : ByteArray), .int .i64 0] 25 (0, 0)) qnd12_) : gb211 ≠ gb205)); clear BK205; clear HB; have BK205 := n0_; have HB := n1_; have BK211 := n2_; have GW211 := n3_; have GE211 := n4_; have NB205_211 := n5_; have NB211_205 := n6_; clear n0_ n1_ n2_ n3_ n4_ n5_ n6_; clear hb hbox hg; have hnb7 := NB211_205.out; have hnc7 := NB205_211.out; have hcz8_0 : w6.cell? ⟨gb211, 0, none⟩ = some (.bool false) := (blk_cell BK211.out 0).trans rfl; have hcz8_1 : w6.cell? ⟨gb211, 1, none⟩ = some (.string (⟨#[]⟩ : ByteArray)) := (blk_cell BK211.out 1).trans rfl; have hcz8_2 : w6.cell? ⟨gb211, 2, none⟩ = some (.int .i64 0) := (blk_cell BK211.out 2).trans rfl; have hcz8_3 : w6.cell? ⟨gb211, 3, none⟩ = some (.int .i64 0) := (blk_cell BK211.out 3).trans rfl; have hfz8_0 := blk_frozen BK211.out 0; have hfz8_1 := blk_frozen BK211.out 1; have hfz8_2 := blk_frozen BK211.out 2; have hfz8_3 := blk_frozen BK211.out 3; have hcz9_0 : w6.cell? ⟨gb205, 0, none⟩ = some (.bool false) := (blk_cell BK205.out 0).trans rfl; have hcz9_1 : w6.cell? ⟨gb205, 1, none⟩ = some (.string (⟨#[]⟩ : ByteArray)) := (blk_cell BK205.out 1).trans rfl; have hcz9_2 : w6.cell? ⟨gb205, 2, none⟩ = some (.string (⟨#[]⟩ : ByteArray)) := (blk_cell BK205.out 2).trans rfl; have hcz9_3 : w6.cell? ⟨gb205, 3, none⟩ = some (.int .i64 0) := (blk_cell BK205.out 3).trans rfl; have hfz9_0 := blk_frozen BK205.out 0; have hfz9_1 := blk_frozen BK205.out 1; have hfz9_2 := blk_frozen BK205.out 2; have hfz9_3 := blk_frozen BK205.out 3))
  refine bodyPost_ret (results_cell_row rfl _ _ gb205 25 #[.bool false, .string (⟨#[]⟩ : ByteArray), .string (⟨#[]⟩ : ByteArray), .int .i64 0] (0, 0) _ rfl (by (with_reducible repeat (first | refine blk_drewN ?_ _ | refine blk_drew ?_ | refine blk_alloc ?_ _)); refine blk_put (cs := #[.bool false, .string (⟨#[]⟩ : ByteArray), .string (⟨#[]⟩ : ByteArray), .int .i64 0]) ?_ 3 _ rfl; (with_reducible repeat (first | refine blk_drewN ?_ _ | refine blk_drew ?_ | refine blk_alloc ?_ _)); refine blk_put (cs := #[.bool false, .string (⟨#[]⟩ : ByteArray), .string (⟨#[]⟩ : ByteArray), .int .i64 0]) ?_ 2 _ rfl; (with_reducible repeat (first | refine blk_drewN ?_ _ | refine blk_drew ?_ | refine blk_alloc ?_ _)); refine blk_put (cs := #[.bool false, .string (⟨#[]⟩ : ByteArray), .string (⟨#[]⟩ : ByteArray), .int .i64 0]) ?_ 1 _ rfl; (with_reducible repeat (first | refine blk_drewN ?_ _ | refine blk_drew ?_ | refine blk_alloc ?_ _)); refine blk_put (cs := #[.bool false, .string (⟨#[]⟩ : ByteArray), .string (⟨#[]⟩ : ByteArray), .int .i64 0]) ?_ 0 _ rfl; (with_reducible repeat (first | refine blk_drewN ?_ _ | refine blk_drew ?_ | refine blk_alloc ?_ _)); refine blk_far ?_ NB205_211.out _; (with_reducible repeat (first | refine blk_drewN ?_ _ | refine blk_drew ?_ | refine blk_alloc ?_ _)); refine blk_far ?_ NB205_211.out _; (with_reducible repeat (first | refine blk_drewN ?_ _ | refine blk_drew ?_ | refine blk_alloc ?_ _)); refine blk_far ?_ NB205_211.out _; (with_reducible repeat (first | refine blk_drewN ?_ _ | refine blk_drew ?_ | refine blk_alloc ?_ _)); refine blk_far ?_ NB205_211.out _; (with_reducible repeat (first | refine blk_drewN ?_ _ | refine blk_drew ?_ | refine blk_alloc ?_ _)); exact BK205.out) Tryd.underlying25 rfl (by kernel_rfl)) rfl ?_
  exact ⟨qnd5_, qnd13_⟩
 ·
  rw [if_neg c3] at H
  have c3b0 : (t210 == 0) = false := beq_eq_false_iff_ne.mpr c3
  have c3b1 : (t210 != 0) = true := bne_iff_ne.mpr c3
  by_cases c13 : 0 ≤ t208
  ·
   rw [if_pos c13] at H
   have c13b0 := eq_true c13
   have c13b1 : decide (0 ≤ t208) = true := decide_eq_true c13
   clear c13
   by_cases c14 : t208 ≤ (t207.size : Int)
   ·
    rw [if_pos c14] at H
    have c14b0 := eq_true c14
    have c14b1 : decide (t208 ≤ (t207.size : Int)) = true := decide_eq_true c14
    clear c14
    replace H := Option.bind_eq_some_iff.mp H
    obtain ⟨t212, A150, H⟩ := H
    replace H : (if 0 ≤ t212 then (if t212 ≤ ((t208.toNat : Nat) : Int) then ((millref3_trimmed.f k (t207.extract (t208 : Int).toNat t207.size)).bind fun t213 => (if t206 = true then (if (t208.toNat - t212.toNat) + t213.size ≤ 9223372036854775807 then (some ((!((((t207.extract 0 (t208 : Int).toNat).extract (t212 : Int).toNat t208.toNat) ++ t213).toList).isEmpty), (t207.extract 0 (t208 : Int).toNat).extract (t212 : Int).toNat t208.toNat, t213, t210)) else (none)) else (some (false, (t207.extract 0 (t208 : Int).toNat).extract (t212 : Int).toNat t208.toNat, t213, t210)))) else (none)) else (none)) = some (r1, r2, r3, r4) := H
    have A15 := Aside0.mk A150
    clear A150
    by_cases c16 : 0 ≤ t212
    ·
     rw [if_pos c16] at H
     have c16b0 := eq_true c16
     have c16b1 : decide (0 ≤ t212) = true := decide_eq_true c16
     clear c16
     by_cases c17 : t212 ≤ ((t208.toNat : Nat) : Int)
     ·
      rw [if_pos c17] at H
      have c17x := c17
      (try simp [*, -c17, -H] at c17x)
      have c17b0 := eq_true c17
      have c17b1 : decide (t212 ≤ ((t208.toNat : Nat) : Int)) = true := decide_eq_true c17
      clear c17
      have c18b0 := eq_true (of_decide_eq_true qnd3_ : 0 ≤ t208)
      have c19b0 := eq_true (of_decide_eq_true qnd3_ : t208 ≤ (t207.size : Int))
      replace H := Option.bind_eq_some_iff.mp H
      obtain ⟨t213, A200, H⟩ := H
      replace H : (if t206 = true then (if (t208.toNat - t212.toNat) + t213.size ≤ 9223372036854775807 then (some ((!((((t207.extract 0 (t208 : Int).toNat).extract (t212 : Int).toNat t208.toNat) ++ t213).toList).isEmpty), (t207.extract 0 (t208 : Int).toNat).extract (t212 : Int).toNat t208.toNat, t213, t210)) else (none)) else (some (false, (t207.extract 0 (t208 : Int).toNat).extract (t212 : Int).toNat t208.toNat, t213, t210))) = some (r1, r2, r3, r4) := H
      have A20 := Aside0.mk A200
      clear A200
      by_cases c21 : t206 = true
      ·
       subst c21
       have H1 : (if (t208.toNat - t212.toNat) + t213.size ≤ 9223372036854775807 then (some ((!((((t207.extract 0 (t208 : Int).toNat).extract (t212 : Int).toNat t208.toNat) ++ t213).toList).isEmpty), (t207.extract 0 (t208 : Int).toNat).extract (t212 : Int).toNat t208.toNat, t213, t210)) else (none)) = some (r1, r2, r3, r4) := by rw [if_pos rfl] at H; exact H
       clear H
       have H := H1
       clear H1
       by_cases c22 : (t208.toNat - t212.toNat) + t213.size ≤ 9223372036854775807
       ·
        rw [if_pos c22] at H
        have c22b0 := eq_true c22
        have c22b1 : decide ((t208.toNat - t212.toNat) + t213.size ≤ 9223372036854775807) = true := decide_eq_true c22
        try have c22b2 : (9223372036854775807 < (t208.toNat - t212.toNat) + t213.size) = False := eq_false (Nat.not_lt.2 c22)
        simp only [Option.some.injEq, Prod.mk.injEq] at H
        obtain ⟨rfl, rfl, rfl, rfl⟩ := H
        go_enter Tryd.func22, Tryd.ntmps22
        have tk41 : True := trivial; have tk42 : True := trivial; have tk43 : True := trivial
        try go_wp2_with (first | (have ztk41 := tk41; clear tk41 ztk41; (with_reducible refine gate_dst (N := 2) rfl ?_); refine box_event ?hg (N := 2) ?hd (cs := #[.bool false, .string (⟨#[]⟩ : ByteArray), .string (⟨#[]⟩ : ByteArray), .int .i64 0]) (t := 25) ?hr ?_; (case hd => rfl); (case hg => rfl); (case hr => first | (go_simp; done) | (go_simp; rfl)); intro gb205 hg w23 hbox hb; have n0_ := Aside0.mk (below_step qnd1_ hb); have n1_ := Aside0.mk (hbox); have n2_ := Aside0.mk ((by rw [hg]; exact (below_size qnd1_) : w.heap.size ≤ gb205)); have n3_ := Aside0.mk ((by rw [hg]; exact (below_size qnd1_) : w.heap.size ≤ gb205)); clear HB; have HB := n0_; have BK205 := n1_; have GW205 := n2_; have GE205 := n3_; clear n0_ n1_ n2_ n3_; clear hb hbox hg) | (have ztk42 := tk42; clear tk42 ztk42; (with_reducible refine gate_callee (f := 41) rfl ?_); refine goesL_ (some 9) rfl rfl Tryd.func41 (by kernel_rfl) rfl #[.string a0] rfl qnd0_ ?_; (with_reducible refine (millref3_signed.calls k a0 true t207 t208 t209 t210 _ A2.out).mono ?_); rintro e w24 ⟨rfl, hb⟩; refine ⟨_, rfl, ?_⟩; have n0_ := Aside0.mk (blk_below (g := gb205) (o := .cells #[.bool false, .string (⟨#[]⟩ : ByteArray), .string (⟨#[]⟩ : ByteArray), .int .i64 0] 25 (0, 0)) qnd12_ hb); have n1_ := Aside0.mk (below_step qnd27_ hb); clear BK205; clear HB; have BK205 := n0_; have HB := n1_; clear n0_ n1_; (try clear hb); (try clear hb2); (try clear hk); (try clear hi)) | (have ztk43 := tk43; clear tk43 ztk43; (with_reducible refine gate_dst (N := 3) rfl ?_); refine box_event ?hg (N := 3) ?hd (cs := #[.bool false, .string (⟨#[]⟩ : ByteArray), .int .i64 0, .int .i64 0]) (t := 67) ?hr ?_; (case hd => rfl); (case hg => rfl); (case hr => first | (go_simp; done) | (go_simp; rfl)); intro gb211 hg w25 hbox hb; have n0_ := Aside0.mk (blk_below (g := gb205) (o := .cells #[.bool false, .string (⟨#[]⟩ : ByteArray), .string (⟨#[]⟩ : ByteArray), .int .i64 0] 25 (0, 0)) qnd12_ hb); have n1_ := Aside0.mk (below_step qnd27_ hb); have n2_ := Aside0.mk (hbox); have n3_ := Aside0.mk ((by rw [hg]; exact (below_size qnd27_) : w.heap.size ≤ gb211)); have n4_ := Aside0.mk ((by rw [hg]; exact (below_size qnd27_) : w.heap.size ≤ gb211)); have n5_ := Aside0.mk ((by rw [hg]; exact Nat.ne_of_lt (blk_lt (g := gb205) (o := .cells #[.bool false, .string (⟨#[]⟩ : ByteArray), .string (⟨#[]⟩ : ByteArray), .int .i64 0] 25 (0, 0)) qnd12_) : gb205 ≠ gb211)); have n6_ := Aside0.mk ((by rw [hg]; exact Nat.ne_of_gt (blk_lt (g := gb205) (o := .cells #[.bool false, .string (⟨#[]⟩ : ByteArray), .string (⟨#[]⟩ : ByteArray), .int .i64 0] 25 (0, 0)) qnd12_) : gb211 ≠ gb205)); clear BK205; clear HB; have BK205 := n0_; have HB := n1_; have BK211 := n2_; have GW211 := n3_; have GE211 := n4_; have NB205_211 := n5_; have NB211_205 := n6_; clear n0_ n1_ n2_ n3_ n4_ n5_ n6_; clear hb hbox hg; have hnb26 := NB211_205.out; have hnc26 := NB205_211.out; have hcz27_0 : w25.cell? ⟨gb211, 0, none⟩ = some (.bool false) := (blk_cell BK211.out 0).trans rfl; have hcz27_1 : w25.cell? ⟨gb211, 1, none⟩ = some (.string (⟨#[]⟩ : ByteArray)) := (blk_cell BK211.out 1).trans rfl; have hcz27_2 : w25.cell? ⟨gb211, 2, none⟩ = some (.int .i64 0) := (blk_cell BK211.out 2).trans rfl; have hcz27_3 : w25.cell? ⟨gb211, 3, none⟩ = some (.int .i64 0) := (blk_cell BK211.out 3).trans rfl; have hfz27_0 := blk_frozen BK211.out 0; have hfz27_1 := blk_frozen BK211.out 1; have hfz27_2 := blk_frozen BK211.out 2; have hfz27_3 := blk_frozen BK211.out 3))
        have n0_ : Aside0 (((((w25.setCell ⟨gb211, 0, none⟩ (.bool true)).setCell ⟨gb211, 1, none⟩ (.string t207)).setCell ⟨gb211, 2, none⟩ (.int .i64 t208)).setCell ⟨gb211, 3, none⟩ (.int .i64 t209)).heap[gb205]? = some (.cells #[.bool false, .string (⟨#[]⟩ : ByteArray), .string (⟨#[]⟩ : ByteArray), .int .i64 0] 25 (0, 0))) := ⟨by (with_reducible repeat (first | refine blk_drewN ?_ _ | refine blk_drew ?_ | refine blk_alloc ?_ _)); refine blk_far ?_ NB205_211.out _; (with_reducible repeat (first | refine blk_drewN ?_ _ | refine blk_drew ?_ | refine blk_alloc ?_ _)); refine blk_far ?_ NB205_211.out _; (with_reducible repeat (first | refine blk_drewN ?_ _ | refine blk_drew ?_ | refine blk_alloc ?_ _)); refine blk_far ?_ NB205_211.out _; (with_reducible repeat (first | refine blk_drewN ?_ _ | refine blk_drew ?_ | refine blk_alloc ?_ _)); refine blk_far ?_ NB205_211.out _; (with_reducible repeat (first | refine blk_drewN ?_ _ | refine blk_drew ?_ | refine blk_alloc ?_ _)); exact BK205.out⟩
        have n1_ : Aside0 (((((w25.setCell ⟨gb211, 0, none⟩ (.bool true)).setCell ⟨gb211, 1, none⟩ (.string t207)).setCell ⟨gb211, 2, none⟩ (.int .i64 t208)).setCell ⟨gb211, 3, none⟩ (.int .i64 t209)).heap[gb211]? = some (.cells #[.bool true, .string t207, .int .i64 t208, .int .i64 t209] 67 (0, 0))) := ⟨by (with_reducible repeat (first | refine blk_drewN ?_ _ | refine blk_drew ?_ | refine blk_alloc ?_ _)); refine blk_put (cs := #[.bool true, .string t207, .int .i64 t208, .int .i64 0]) ?_ 3 _ rfl; (with_reducible repeat (first | refine blk_drewN ?_ _ | refine blk_drew ?_ | refine blk_alloc ?_ _)); refine blk_put (cs := #[.bool true, .string t207, .int .i64 0, .int .i64 0]) ?_ 2 _ rfl; (with_reducible repeat (first | refine blk_drewN ?_ _ | refine blk_drew ?_ | refine blk_alloc ?_ _)); refine blk_put (cs := #[.bool true, .string (⟨#[]⟩ : ByteArray), .int .i64 0, .int .i64 0]) ?_ 1 _ rfl; (with_reducible repeat (first | refine blk_drewN ?_ _ | refine blk_drew ?_ | refine blk_alloc ?_ _)); refine blk_put (cs := #[.bool false, .string (⟨#[]⟩ : ByteArray), .int .i64 0, .int .i64 0]) ?_ 0 _ rfl; (with_reducible repeat (first | refine blk_drewN ?_ _ | refine blk_drew ?_ | refine blk_alloc ?_ _)); exact BK211.out⟩
        have n2_ : Aside0 (Below w.heap.size w ((((w25.setCell ⟨gb211, 0, none⟩ (.bool true)).setCell ⟨gb211, 1, none⟩ (.string t207)).setCell ⟨gb211, 2, none⟩ (.int .i64 t208)).setCell ⟨gb211, 3, none⟩ (.int .i64 t209))) := ⟨qnd13_⟩
        (try clear BK205); (try clear BK211); (try clear HB)
        generalize ((((w25.setCell ⟨gb211, 0, none⟩ (.bool true)).setCell ⟨gb211, 1, none⟩ (.string t207)).setCell ⟨gb211, 2, none⟩ (.int .i64 t208)).setCell ⟨gb211, 3, none⟩ (.int .i64 t209)) = w28 at n0_ n1_ n2_ ⊢
        have BK205 := n0_
        have BK211 := n1_
        have HB := n2_
        clear n0_ n1_ n2_
        have n0_ := Aside0.mk (blk_drew BK205.out)
        have n1_ := Aside0.mk (blk_drew BK211.out)
        have n2_ := Aside0.mk (below_drew1 HB.out)
        clear BK205
        clear BK211
        clear HB
        have BK205 := n0_
        have BK211 := n1_
        have HB := n2_
        clear n0_ n1_ n2_
        refine start_ (n := 14) (S := fun w' => w'.cell? ⟨gb211, 0, none⟩ = some (.bool true) ∧ w'.cell? ⟨gb211, 1, none⟩ = some (.string t207) ∧ w'.cell? ⟨gb211, 2, none⟩ = some (.int .i64 t208) ∧ w'.cell? ⟨gb211, 3, none⟩ = some (.int .i64 t209)) (ds := []) #[false, false, false, false, false, false, false, false, false, false, false, false, false, false] (by kernel_rfl) rfl rfl ⟨(blk_cell BK211.out 0).trans rfl, (blk_cell BK211.out 1).trans rfl, (blk_cell BK211.out 2).trans rfl, (blk_cell BK211.out 3).trans rfl⟩ (fun hHeld => ?_); refine with_tabW millref3_Decimal.tab5 millref3_Decimal.bits5 (fun HT_ HW_ => ?_)
        generalize w28.drew = w29 at BK205 BK211 HB hHeld ⊢
        refine pure_ (i := 0) (N := some 20) (v := ?_) (a' := ?_) #[true, false, false, false, false, false, false, false, false, false, false, false, false, false] rfl rfl (any_of HT_.out (by kernel_rfl)) (fun _ _ _ h => h) (Or.inl ⟨by rfl, ?_⟩) ?_ ?_
        rotate_left
        ·
         intro w'
         go_simp
         with_reducible rfl
        rotate_left
        ·
         simp only [Act.put, List.setIfInBounds_toArray, List.set_cons_zero, List.set_cons_succ, i64_w, i32_w]
         rfl
        refine pure_ (i := 1) (N := some 21) (v := ?_) (a' := ?_) #[true, true, false, false, false, false, false, false, false, false, false, false, false, false] rfl rfl (any_of HT_.out (by kernel_rfl)) (fun _ _ _ h => h) (Or.inl ⟨by rfl, ?_⟩) ?_ ?_
        rotate_left
        ·
         intro w'
         go_simp
         with_reducible rfl
        rotate_left
        ·
         simp only [Act.put, List.setIfInBounds_toArray, List.set_cons_zero, List.set_cons_succ, i64_w, i32_w]
         rfl
        refine pure_ (i := 4) (N := some 24) (v := ?_) (a' := ?_) #[true, true, false, false, true, false, false, false, false, false, false, false, false, false] rfl rfl (any_of HT_.out (by kernel_rfl)) (fun _ _ _ h => h) (Or.inl ⟨by rfl, ?_⟩) ?_ ?_
        rotate_left
        ·
         intro w'
         go_simp
         with_reducible rfl
        rotate_left
        ·
         simp only [Act.put, List.setIfInBounds_toArray, List.set_cons_zero, List.set_cons_succ, i64_w, i32_w]
         rfl
        refine pure_ (i := 6) (N := some 26) (v := ?_) (a' := ?_) #[true, true, false, false, true, false, true, false, false, false, false, false, false, false] rfl rfl (any_of HT_.out (by kernel_rfl)) (fun _ _ _ h => h) (Or.inl ⟨by rfl, ?_⟩) ?_ ?_
        rotate_left
        ·
         intro w'
         go_simp
         with_reducible rfl
        rotate_left
        ·
         simp only [Act.put, List.setIfInBounds_toArray, List.set_cons_zero, List.set_cons_succ, i64_w, i32_w]
         rfl
        refine pure_ (i := 10) (N := some 30) (v := ?_) (a' := ?_) #[true, true, false, false, true, false, true, false, false, false, true, false, false, false] rfl rfl (any_of HT_.out (by kernel_rfl)) (fun _ _ _ h => h) (Or.inl ⟨by rfl, ?_⟩) ?_ ?_
        rotate_left
        ·
         intro w'
         go_simp
         with_reducible rfl
        rotate_left
        ·
         simp only [Act.put, List.setIfInBounds_toArray, List.set_cons_zero, List.set_cons_succ, i64_w, i32_w]
         rfl
        refine take_ (i := 5) (N := some 25) (v := ?_) (a' := ?_) #[true, true, false, false, true, true, true, false, false, false, true, false, false, false] rfl rfl (take_ofW HT_.out HW_.out (by kernel_rfl)) (fun _ _ _ h => h) (Or.inl ⟨by rfl, ?_⟩) hHeld ?_ ?_
        rotate_left
        ·
         rintro w' ⟨s0, s1, s2, s3⟩
         go_simp
         with_reducible rfl
        rotate_left
        ·
         simp only [Act.put, List.setIfInBounds_toArray, List.set_cons_zero, List.set_cons_succ, i64_w, i32_w]
         rfl
        refine take_ (i := 7) (N := some 27) (v := ?_) (a' := ?_) #[true, true, false, false, true, true, true, true, false, false, true, false, false, false] rfl rfl (take_ofW HT_.out HW_.out (by kernel_rfl)) (fun _ _ _ h => h) (Or.inl ⟨by rfl, ?_⟩) hHeld ?_ ?_
        rotate_left
        ·
         rintro w' ⟨s0, s1, s2, s3⟩
         go_simp
         with_reducible rfl
        rotate_left
        ·
         simp only [Act.put, List.setIfInBounds_toArray, List.set_cons_zero, List.set_cons_succ, i64_w, i32_w]
         rfl
        refine pure_ (i := 8) (N := some 28) (v := ?_) (a' := ?_) #[true, true, false, false, true, true, true, true, true, false, true, false, false, false] rfl rfl (any_of HT_.out (by kernel_rfl)) (fun _ _ _ h => h) (Or.inl ⟨by rfl, ?_⟩) ?_ ?_
        rotate_left
        ·
         intro w'
         go_simp
         with_reducible rfl
        rotate_left
        ·
         simp only [Act.put, List.setIfInBounds_toArray, List.set_cons_zero, List.set_cons_succ, i64_w, i32_w]
         rfl
        refine join_ (σ := Nat) 1 #[true, true, true, true, true, true, true, true, true, true, true, true, true, false] (fun s_ => [(22, .int .i64 t212), (29, .string t213), (6, .pointer (some ⟨s_, 0, none⟩)), (23, .string ((t207.extract 0 (t208 : Int).toNat).extract (t212 : Int).toNat t208.toNat)), (31, .agg #[.bool false, .string ((t207.extract 0 (t208 : Int).toNat).extract (t212 : Int).toNat t208.toNat), .string t213, .int .i64 t210])]) (fun s_ w' => (w'.cell? ⟨gb211, 0, none⟩ = some (.bool true) ∧ w'.cell? ⟨gb211, 1, none⟩ = some (.string t207) ∧ w'.cell? ⟨gb211, 2, none⟩ = some (.int .i64 t208) ∧ w'.cell? ⟨gb211, 3, none⟩ = some (.int .i64 t209)) ∧ (w'.heap[gb205]? = some (.cells #[.bool false, .string (⟨#[]⟩ : ByteArray), .string (⟨#[]⟩ : ByteArray), .int .i64 0] 25 (0, 0))) ∧ (w'.heap[gb211]? = some (.cells #[.bool true, .string t207, .int .i64 t208, .int .i64 t209] 67 (0, 0))) ∧ (w'.heap[s_]? = some (.cells #[.bool false, .string (⟨#[]⟩ : ByteArray), .string (⟨#[]⟩ : ByteArray), .int .i64 0] 25 (0, 0))) ∧ (w.heap.size ≤ s_) ∧ (w.heap.size ≤ s_) ∧ (gb205 ≠ s_) ∧ (s_ ≠ gb205) ∧ (gb211 ≠ s_) ∧ (s_ ≠ gb211) ∧ (Below w.heap.size w w')) ?_ ?_
        rotate_left
        ·
         intro hCont
         refine two_ (i := 2) (j := 12) (Ni := some 22) (Nj := some 6) #[true, true, true, false, true, true, true, true, true, false, true, false, false, false] #[true, true, false, false, true, true, true, true, true, false, true, false, true, false] rfl rfl rfl rfl (two_of HT_.out (by kernel_rfl)) (by decide) (by decide) (fun K hK => ?_) (fun K hK => ?_)
         ·
          skip
          refine goes_ Tryd.func42 (by kernel_rfl) rfl #[.string (t207.extract 0 (t208 : Int).toNat)] (by rfl) rfl rfl qnd0_ ?_
          with_reducible refine (millref3_zeros.calls k (t207.extract 0 (t208 : Int).toNat) t212 _ A15.out).mono ?_
          rintro e w' ⟨rfl, ⟨nd, rfl⟩⟩
          refine ⟨_, rfl, ?_⟩
          refine hK.out _ _ ⟨(blk_cell BK211.out 0).trans rfl, (blk_cell BK211.out 1).trans rfl, (blk_cell BK211.out 2).trans rfl, (blk_cell BK211.out 3).trans rfl⟩ (fun hHeld => ?_)
          clear hK K
          refine norm_ (a' := ?_) ?_ ?_
          rotate_left
          ·
           show Act.put _ (some 22) _ = _
           simp only [Act.put, List.setIfInBounds_toArray, List.set_cons_zero, List.set_cons_succ, i64_w, i32_w]
           rfl
          refine pure_ (i := 3) (N := some 23) (v := ?_) (a' := ?_) #[true, true, true, true, true, true, true, true, true, false, true, false, false, false] rfl rfl (any_of HT_.out (by kernel_rfl)) (fun _ _ _ h => h) (Or.inl ⟨by rfl, ?_⟩) ?_ ?_
          rotate_left
          ·
           intro w'
           go_simp
           with_reducible rfl
          rotate_left
          ·
           simp only [Act.put, List.setIfInBounds_toArray, List.set_cons_zero, List.set_cons_succ, i64_w, i32_w]
           rfl
          refine two_ (i := 9) (j := 12) (Ni := some 29) (Nj := some 6) #[true, true, true, true, true, true, true, true, true, true, true, false, false, false] #[true, true, true, true, true, true, true, true, true, false, true, false, true, false] rfl rfl rfl rfl (two_of HT_.out (by kernel_rfl)) (by decide) (by decide) (fun K hK => ?_) (fun K hK => ?_)
          ·
           skip
           refine goes_ Tryd.func43 (by kernel_rfl) rfl #[.string (t207.extract (t208 : Int).toNat t207.size)] (by rfl) rfl rfl qnd0_ ?_
           with_reducible refine (millref3_trimmed.calls k (t207.extract (t208 : Int).toNat t207.size) t213 _ A20.out).mono ?_
           rintro e w' ⟨rfl, ⟨nd, rfl⟩⟩
           refine ⟨_, rfl, ?_⟩
           refine hK.out _ _ ⟨(blk_cell BK211.out 0).trans rfl, (blk_cell BK211.out 1).trans rfl, (blk_cell BK211.out 2).trans rfl, (blk_cell BK211.out 3).trans rfl⟩ (fun hHeld => ?_)
           clear hK K
           refine norm_ (a' := ?_) ?_ ?_
           rotate_left
           ·
            show Act.put _ (some 29) _ = _
            simp only [Act.put, List.setIfInBounds_toArray, List.set_cons_zero, List.set_cons_succ, i64_w, i32_w]
            rfl
           refine pure_ (i := 11) (N := some 31) (v := ?_) (a' := ?_) #[true, true, true, true, true, true, true, true, true, true, true, true, false, false] rfl rfl (any_of HT_.out (by kernel_rfl)) (fun _ _ _ h => h) (Or.inl ⟨by rfl, ?_⟩) ?_ ?_
           rotate_left
           ·
            intro w'
            go_simp
            with_reducible rfl
           rotate_left
           ·
            simp only [Act.put, List.setIfInBounds_toArray, List.set_cons_zero, List.set_cons_succ, i64_w, i32_w]
            rfl
           refine one_ (i := 12) (N := some 6) #[true, true, true, true, true, true, true, true, true, true, true, true, true, false] rfl rfl (one_of HT_.out (by kernel_rfl)) (by decide) (fun K hK => ?_)
           refine box_step ?hg (N := 6) ?hd (cs := #[.bool false, .string (⟨#[]⟩ : ByteArray), .string (⟨#[]⟩ : ByteArray), .int .i64 0]) (t := 25) ?hr ?_; (case hd => rfl); (case hg => rfl); (case hr => first | (go_simp; done) | (go_simp; rfl))
           intro gb214 hg w30 hbox hb
           have n0_ := Aside0.mk (blk_below (g := gb205) (o := .cells #[.bool false, .string (⟨#[]⟩ : ByteArray), .string (⟨#[]⟩ : ByteArray), .int .i64 0] 25 (0, 0)) qnd12_ hb)
           have n1_ := Aside0.mk (blk_below (g := gb211) (o := .cells #[.bool true, .string t207, .int .i64 t208, .int .i64 t209] 67 (0, 0)) qnd21_ hb)
           have n2_ := Aside0.mk (below_step qnd13_ hb)
           have n3_ := Aside0.mk (hbox)
           have n4_ := Aside0.mk ((by rw [hg]; exact (below_size qnd13_) : w.heap.size ≤ gb214))
           have n5_ := Aside0.mk ((by rw [hg]; exact (below_size qnd13_) : w.heap.size ≤ gb214))
           have n6_ := Aside0.mk ((by rw [hg]; exact Nat.ne_of_lt (blk_lt (g := gb205) (o := .cells #[.bool false, .string (⟨#[]⟩ : ByteArray), .string (⟨#[]⟩ : ByteArray), .int .i64 0] 25 (0, 0)) qnd12_) : gb205 ≠ gb214))
           have n7_ := Aside0.mk ((by rw [hg]; exact Nat.ne_of_gt (blk_lt (g := gb205) (o := .cells #[.bool false, .string (⟨#[]⟩ : ByteArray), .string (⟨#[]⟩ : ByteArray), .int .i64 0] 25 (0, 0)) qnd12_) : gb214 ≠ gb205))
           have n8_ := Aside0.mk ((by rw [hg]; exact Nat.ne_of_lt (blk_lt (g := gb211) (o := .cells #[.bool true, .string t207, .int .i64 t208, .int .i64 t209] 67 (0, 0)) qnd21_) : gb211 ≠ gb214))
           have n9_ := Aside0.mk ((by rw [hg]; exact Nat.ne_of_gt (blk_lt (g := gb211) (o := .cells #[.bool true, .string t207, .int .i64 t208, .int .i64 t209] 67 (0, 0)) qnd21_) : gb214 ≠ gb211))
           clear BK205
           clear BK211
           clear HB
           have BK205 := n0_
           have BK211 := n1_
           have HB := n2_
           have BK214 := n3_
           have GW214 := n4_
           have GE214 := n5_
           have NB205_214 := n6_
           have NB214_205 := n7_
           have NB211_214 := n8_
           have NB214_211 := n9_
           clear n0_ n1_ n2_ n3_ n4_ n5_ n6_ n7_ n8_ n9_
           clear hb hbox hg
           refine hK.out _ _ ⟨(blk_cell BK211.out 0).trans rfl, (blk_cell BK211.out 1).trans rfl, (blk_cell BK211.out 2).trans rfl, (blk_cell BK211.out 3).trans rfl⟩ (fun hHeld => ?_)
           clear hK K
           refine norm_ (a' := ?_) ?_ ?_
           rotate_left
           ·
            show Act.put _ (some 6) _ = _
            simp only [Act.put, List.setIfInBounds_toArray, List.set_cons_zero, List.set_cons_succ, i64_w, i32_w]
            rfl
           exact norm_ qnd33_ (hCont (gb214) _ ⟨hHeld, qnd12_, qnd21_, qnd52_, GW214.out, GE214.out, NB205_214.out, NB214_205.out, NB211_214.out, NB214_211.out, qnd29_⟩)
          ·
           skip
           refine box_step ?hg (N := 6) ?hd (cs := #[.bool false, .string (⟨#[]⟩ : ByteArray), .string (⟨#[]⟩ : ByteArray), .int .i64 0]) (t := 25) ?hr ?_; (case hd => rfl); (case hg => rfl); (case hr => first | (go_simp; done) | (go_simp; rfl))
           intro gb214 hg w30 hbox hb
           have n0_ := Aside0.mk (blk_below (g := gb205) (o := .cells #[.bool false, .string (⟨#[]⟩ : ByteArray), .string (⟨#[]⟩ : ByteArray), .int .i64 0] 25 (0, 0)) qnd12_ hb)
           have n1_ := Aside0.mk (blk_below (g := gb211) (o := .cells #[.bool true, .string t207, .int .i64 t208, .int .i64 t209] 67 (0, 0)) qnd21_ hb)
           have n2_ := Aside0.mk (below_step qnd13_ hb)
           have n3_ := Aside0.mk (hbox)
           have n4_ := Aside0.mk ((by rw [hg]; exact (below_size qnd13_) : w.heap.size ≤ gb214))
           have n5_ := Aside0.mk ((by rw [hg]; exact (below_size qnd13_) : w.heap.size ≤ gb214))
           have n6_ := Aside0.mk ((by rw [hg]; exact Nat.ne_of_lt (blk_lt (g := gb205) (o := .cells #[.bool false, .string (⟨#[]⟩ : ByteArray), .string (⟨#[]⟩ : ByteArray), .int .i64 0] 25 (0, 0)) qnd12_) : gb205 ≠ gb214))
           have n7_ := Aside0.mk ((by rw [hg]; exact Nat.ne_of_gt (blk_lt (g := gb205) (o := .cells #[.bool false, .string (⟨#[]⟩ : ByteArray), .string (⟨#[]⟩ : ByteArray), .int .i64 0] 25 (0, 0)) qnd12_) : gb214 ≠ gb205))
           have n8_ := Aside0.mk ((by rw [hg]; exact Nat.ne_of_lt (blk_lt (g := gb211) (o := .cells #[.bool true, .string t207, .int .i64 t208, .int .i64 t209] 67 (0, 0)) qnd21_) : gb211 ≠ gb214))
           have n9_ := Aside0.mk ((by rw [hg]; exact Nat.ne_of_gt (blk_lt (g := gb211) (o := .cells #[.bool true, .string t207, .int .i64 t208, .int .i64 t209] 67 (0, 0)) qnd21_) : gb214 ≠ gb211))
           clear BK205
           clear BK211
           clear HB
           have BK205 := n0_
           have BK211 := n1_
           have HB := n2_
           have BK214 := n3_
           have GW214 := n4_
           have GE214 := n5_
           have NB205_214 := n6_
           have NB214_205 := n7_
           have NB211_214 := n8_
           have NB214_211 := n9_
           clear n0_ n1_ n2_ n3_ n4_ n5_ n6_ n7_ n8_ n9_
           clear hb hbox hg
           refine hK.out _ _ ⟨(blk_cell BK211.out 0).trans rfl, (blk_cell BK211.out 1).trans rfl, (blk_cell BK211.out 2).trans rfl, (blk_cell BK211.out 3).trans rfl⟩ (fun hHeld => ?_)
           clear hK K
           refine norm_ (a' := ?_) ?_ ?_
           rotate_left
           ·
            show Act.put _ (some 6) _ = _
            simp only [Act.put, List.setIfInBounds_toArray, List.set_cons_zero, List.set_cons_succ, i64_w, i32_w]
            rfl
           refine one_ (i := 9) (N := some 29) #[true, true, true, true, true, true, true, true, true, true, true, false, true, false] rfl rfl (one_of HT_.out (by kernel_rfl)) (by decide) (fun K hK => ?_)
           refine goes_ Tryd.func43 (by kernel_rfl) rfl #[.string (t207.extract (t208 : Int).toNat t207.size)] (by rfl) rfl rfl qnd0_ ?_
           with_reducible refine (millref3_trimmed.calls k (t207.extract (t208 : Int).toNat t207.size) t213 _ A20.out).mono ?_
           rintro e w' ⟨rfl, ⟨nd, rfl⟩⟩
           refine ⟨_, rfl, ?_⟩
           refine hK.out _ _ ⟨(blk_cell BK211.out 0).trans rfl, (blk_cell BK211.out 1).trans rfl, (blk_cell BK211.out 2).trans rfl, (blk_cell BK211.out 3).trans rfl⟩ (fun hHeld => ?_)
           clear hK K
           refine norm_ (a' := ?_) ?_ ?_
           rotate_left
           ·
            show Act.put _ (some 29) _ = _
            simp only [Act.put, List.setIfInBounds_toArray, List.set_cons_zero, List.set_cons_succ, i64_w, i32_w]
            rfl
           refine pure_ (i := 11) (N := some 31) (v := ?_) (a' := ?_) #[true, true, true, true, true, true, true, true, true, true, true, true, true, false] rfl rfl (any_of HT_.out (by kernel_rfl)) (fun _ _ _ h => h) (Or.inl ⟨by rfl, ?_⟩) ?_ ?_
           rotate_left
           ·
            intro w'
            go_simp
            with_reducible rfl
           rotate_left
           ·
            simp only [Act.put, List.setIfInBounds_toArray, List.set_cons_zero, List.set_cons_succ, i64_w, i32_w]
            rfl
           exact norm_ qnd33_ (hCont (gb214) _ ⟨hHeld, qnd12_, qnd21_, qnd52_, GW214.out, GE214.out, NB205_214.out, NB214_205.out, NB211_214.out, NB214_211.out, qnd29_⟩)
         ·
          skip
          refine box_step ?hg (N := 6) ?hd (cs := #[.bool false, .string (⟨#[]⟩ : ByteArray), .string (⟨#[]⟩ : ByteArray), .int .i64 0]) (t := 25) ?hr ?_; (case hd => rfl); (case hg => rfl); (case hr => first | (go_simp; done) | (go_simp; rfl))
          intro gb214 hg w30 hbox hb
          have n0_ := Aside0.mk (blk_below (g := gb205) (o := .cells #[.bool false, .string (⟨#[]⟩ : ByteArray), .string (⟨#[]⟩ : ByteArray), .int .i64 0] 25 (0, 0)) qnd12_ hb)
          have n1_ := Aside0.mk (blk_below (g := gb211) (o := .cells #[.bool true, .string t207, .int .i64 t208, .int .i64 t209] 67 (0, 0)) qnd21_ hb)
          have n2_ := Aside0.mk (below_step qnd13_ hb)
          have n3_ := Aside0.mk (hbox)
          have n4_ := Aside0.mk ((by rw [hg]; exact (below_size qnd13_) : w.heap.size ≤ gb214))
          have n5_ := Aside0.mk ((by rw [hg]; exact (below_size qnd13_) : w.heap.size ≤ gb214))
          have n6_ := Aside0.mk ((by rw [hg]; exact Nat.ne_of_lt (blk_lt (g := gb205) (o := .cells #[.bool false, .string (⟨#[]⟩ : ByteArray), .string (⟨#[]⟩ : ByteArray), .int .i64 0] 25 (0, 0)) qnd12_) : gb205 ≠ gb214))
          have n7_ := Aside0.mk ((by rw [hg]; exact Nat.ne_of_gt (blk_lt (g := gb205) (o := .cells #[.bool false, .string (⟨#[]⟩ : ByteArray), .string (⟨#[]⟩ : ByteArray), .int .i64 0] 25 (0, 0)) qnd12_) : gb214 ≠ gb205))
          have n8_ := Aside0.mk ((by rw [hg]; exact Nat.ne_of_lt (blk_lt (g := gb211) (o := .cells #[.bool true, .string t207, .int .i64 t208, .int .i64 t209] 67 (0, 0)) qnd21_) : gb211 ≠ gb214))
          have n9_ := Aside0.mk ((by rw [hg]; exact Nat.ne_of_gt (blk_lt (g := gb211) (o := .cells #[.bool true, .string t207, .int .i64 t208, .int .i64 t209] 67 (0, 0)) qnd21_) : gb214 ≠ gb211))
          clear BK205
          clear BK211
          clear HB
          have BK205 := n0_
          have BK211 := n1_
          have HB := n2_
          have BK214 := n3_
          have GW214 := n4_
          have GE214 := n5_
          have NB205_214 := n6_
          have NB214_205 := n7_
          have NB211_214 := n8_
          have NB214_211 := n9_
          clear n0_ n1_ n2_ n3_ n4_ n5_ n6_ n7_ n8_ n9_
          clear hb hbox hg
          refine hK.out _ _ ⟨(blk_cell BK211.out 0).trans rfl, (blk_cell BK211.out 1).trans rfl, (blk_cell BK211.out 2).trans rfl, (blk_cell BK211.out 3).trans rfl⟩ (fun hHeld => ?_)
          clear hK K
          refine norm_ (a' := ?_) ?_ ?_
          rotate_left
          ·
           show Act.put _ (some 6) _ = _
           simp only [Act.put, List.setIfInBounds_toArray, List.set_cons_zero, List.set_cons_succ, i64_w, i32_w]
           rfl
          refine one_ (i := 2) (N := some 22) #[true, true, true, false, true, true, true, true, true, false, true, false, true, false] rfl rfl (one_of HT_.out (by kernel_rfl)) (by decide) (fun K hK => ?_)
          refine goes_ Tryd.func42 (by kernel_rfl) rfl #[.string (t207.extract 0 (t208 : Int).toNat)] (by rfl) rfl rfl qnd0_ ?_
          with_reducible refine (millref3_zeros.calls k (t207.extract 0 (t208 : Int).toNat) t212 _ A15.out).mono ?_
          rintro e w' ⟨rfl, ⟨nd, rfl⟩⟩
          refine ⟨_, rfl, ?_⟩
          refine hK.out _ _ ⟨(blk_cell BK211.out 0).trans rfl, (blk_cell BK211.out 1).trans rfl, (blk_cell BK211.out 2).trans rfl, (blk_cell BK211.out 3).trans rfl⟩ (fun hHeld => ?_)
          clear hK K
          refine norm_ (a' := ?_) ?_ ?_
          rotate_left
          ·
           show Act.put _ (some 22) _ = _
           simp only [Act.put, List.setIfInBounds_toArray, List.set_cons_zero, List.set_cons_succ, i64_w, i32_w]
           rfl
          refine pure_ (i := 3) (N := some 23) (v := ?_) (a' := ?_) #[true, true, true, true, true, true, true, true, true, false, true, false, true, false] rfl rfl (any_of HT_.out (by kernel_rfl)) (fun _ _ _ h => h) (Or.inl ⟨by rfl, ?_⟩) ?_ ?_
          rotate_left
          ·
           intro w'
           go_simp
           with_reducible rfl
          rotate_left
          ·
           simp only [Act.put, List.setIfInBounds_toArray, List.set_cons_zero, List.set_cons_succ, i64_w, i32_w]
           rfl
          refine one_ (i := 9) (N := some 29) #[true, true, true, true, true, true, true, true, true, true, true, false, true, false] rfl rfl (one_of HT_.out (by kernel_rfl)) (by decide) (fun K hK => ?_)
          refine goes_ Tryd.func43 (by kernel_rfl) rfl #[.string (t207.extract (t208 : Int).toNat t207.size)] (by rfl) rfl rfl qnd0_ ?_
          with_reducible refine (millref3_trimmed.calls k (t207.extract (t208 : Int).toNat t207.size) t213 _ A20.out).mono ?_
          rintro e w' ⟨rfl, ⟨nd, rfl⟩⟩
          refine ⟨_, rfl, ?_⟩
          refine hK.out _ _ ⟨(blk_cell BK211.out 0).trans rfl, (blk_cell BK211.out 1).trans rfl, (blk_cell BK211.out 2).trans rfl, (blk_cell BK211.out 3).trans rfl⟩ (fun hHeld => ?_)
          clear hK K
          refine norm_ (a' := ?_) ?_ ?_
          rotate_left
          ·
           show Act.put _ (some 29) _ = _
           simp only [Act.put, List.setIfInBounds_toArray, List.set_cons_zero, List.set_cons_succ, i64_w, i32_w]
           rfl
          refine pure_ (i := 11) (N := some 31) (v := ?_) (a' := ?_) #[true, true, true, true, true, true, true, true, true, true, true, true, true, false] rfl rfl (any_of HT_.out (by kernel_rfl)) (fun _ _ _ h => h) (Or.inl ⟨by rfl, ?_⟩) ?_ ?_
          rotate_left
          ·
           intro w'
           go_simp
           with_reducible rfl
          rotate_left
          ·
           simp only [Act.put, List.setIfInBounds_toArray, List.set_cons_zero, List.set_cons_succ, i64_w, i32_w]
           rfl
          exact norm_ qnd33_ (hCont (gb214) _ ⟨hHeld, qnd12_, qnd21_, qnd52_, GW214.out, GE214.out, NB205_214.out, NB214_205.out, NB211_214.out, NB214_211.out, qnd29_⟩)
        rintro gb214 w31 ⟨hS_, h0_, h1_, h2_, h3_, h4_, h5_, h6_, h7_, h8_, h9_⟩
        have n0_ : Aside0 (w31.heap[gb205]? = some (.cells #[.bool false, .string (⟨#[]⟩ : ByteArray), .string (⟨#[]⟩ : ByteArray), .int .i64 0] 25 (0, 0))) := ⟨h0_⟩
        have n1_ : Aside0 (w31.heap[gb211]? = some (.cells #[.bool true, .string t207, .int .i64 t208, .int .i64 t209] 67 (0, 0))) := ⟨h1_⟩
        have n2_ : Aside0 (w31.heap[gb214]? = some (.cells #[.bool false, .string (⟨#[]⟩ : ByteArray), .string (⟨#[]⟩ : ByteArray), .int .i64 0] 25 (0, 0))) := ⟨h2_⟩
        have n3_ : Aside0 (w.heap.size ≤ gb214) := ⟨h3_⟩
        have n4_ : Aside0 (w.heap.size ≤ gb214) := ⟨h4_⟩
        have n5_ : Aside0 (gb205 ≠ gb214) := ⟨h5_⟩
        have n6_ : Aside0 (gb214 ≠ gb205) := ⟨h6_⟩
        have n7_ : Aside0 (gb211 ≠ gb214) := ⟨h7_⟩
        have n8_ : Aside0 (gb214 ≠ gb211) := ⟨h8_⟩
        have n9_ : Aside0 (Below w.heap.size w w31) := ⟨h9_⟩
        clear BK205
        clear BK211
        clear HB
        clear h0_ h1_ h2_ h3_ h4_ h5_ h6_ h7_ h8_ h9_
        have BK205 := n0_
        have BK211 := n1_
        have BK214 := n2_
        have GW214 := n3_
        have GE214 := n4_
        have NB205_214 := n5_
        have NB214_205 := n6_
        have NB211_214 := n7_
        have NB214_211 := n8_
        have HB := n9_
        clear n0_ n1_ n2_ n3_ n4_ n5_ n6_ n7_ n8_ n9_
        have hHeld : w31.cell? ⟨gb211, 0, none⟩ = some (.bool true) ∧ w31.cell? ⟨gb211, 1, none⟩ = some (.string t207) ∧ w31.cell? ⟨gb211, 2, none⟩ = some (.int .i64 t208) ∧ w31.cell? ⟨gb211, 3, none⟩ = some (.int .i64 t209) := hS_
        refine norm_ (a' := ?_) ?_ ?_
        rotate_left
        ·
         simp only [putAll, Act.put, List.setIfInBounds_toArray, List.set_cons_zero, List.set_cons_succ]
         rfl
        refine one_ (i := 13) (N := none) #[true, true, true, true, true, true, true, true, true, true, true, true, true, true] rfl rfl (one_of HT_.out (by kernel_rfl)) (by decide) (fun K hK => ?_)
        have hs32 : w31.cell? ⟨gb214, 0, none⟩ = some (.bool false) := (blk_cell BK214.out 0).trans rfl
        have hfs32 := blk_frozen BK214.out 0
        have hns32_0 := NB205_214.out
        have hns32_1 := NB211_214.out
        have hms32_0 := NB214_205.out
        have hms32_1 := NB214_211.out
        have hs33 : w31.cell? ⟨gb214, 1, none⟩ = some (.string (⟨#[]⟩ : ByteArray)) := (blk_cell BK214.out 1).trans rfl
        have hfs33 := blk_frozen BK214.out 1
        have hns33_0 := NB205_214.out
        have hns33_1 := NB211_214.out
        have hms33_0 := NB214_205.out
        have hms33_1 := NB214_211.out
        have hs34 : w31.cell? ⟨gb214, 2, none⟩ = some (.string (⟨#[]⟩ : ByteArray)) := (blk_cell BK214.out 2).trans rfl
        have hfs34 := blk_frozen BK214.out 2
        have hns34_0 := NB205_214.out
        have hns34_1 := NB211_214.out
        have hms34_0 := NB214_205.out
        have hms34_1 := NB214_211.out
        have hs35 : w31.cell? ⟨gb214, 3, none⟩ = some (.int .i64 0) := (blk_cell BK214.out 3).trans rfl
        have hfs35 := blk_frozen BK214.out 3
        have hns35_0 := NB205_214.out
        have hns35_1 := NB211_214.out
        have hms35_0 := NB214_205.out
        have hms35_1 := NB214_211.out
        refine skip_ (w1 := ?_) (by rfl) rfl ?_ ?_
        rotate_left
        ·
         go_simp
         rfl
        refine hK.out _ _ ⟨((cell_far (p := ⟨gb214, _, none⟩) NB211_214.out _).trans (((cell_far (p := ⟨gb214, _, none⟩) NB211_214.out _).trans (((cell_far (p := ⟨gb214, _, none⟩) NB211_214.out _).trans (((cell_far (p := ⟨gb214, _, none⟩) NB211_214.out _).trans (hHeld.1)))))))), ((cell_far (p := ⟨gb214, _, none⟩) NB211_214.out _).trans (((cell_far (p := ⟨gb214, _, none⟩) NB211_214.out _).trans (((cell_far (p := ⟨gb214, _, none⟩) NB211_214.out _).trans (((cell_far (p := ⟨gb214, _, none⟩) NB211_214.out _).trans (hHeld.2.1)))))))), ((cell_far (p := ⟨gb214, _, none⟩) NB211_214.out _).trans (((cell_far (p := ⟨gb214, _, none⟩) NB211_214.out _).trans (((cell_far (p := ⟨gb214, _, none⟩) NB211_214.out _).trans (((cell_far (p := ⟨gb214, _, none⟩) NB211_214.out _).trans (hHeld.2.2.1)))))))), ((cell_far (p := ⟨gb214, _, none⟩) NB211_214.out _).trans (((cell_far (p := ⟨gb214, _, none⟩) NB211_214.out _).trans (((cell_far (p := ⟨gb214, _, none⟩) NB211_214.out _).trans (((cell_far (p := ⟨gb214, _, none⟩) NB211_214.out _).trans (hHeld.2.2.2))))))))⟩ (fun hHeld => ?_)
        clear hK K
        refine done_ (done_of HT_.out (by kernel_rfl)) ?_
        have hnb36 := NB211_214.out
        have hnc36 := NB214_211.out
        have hcz37_0 : w31.cell? ⟨gb211, 0, none⟩ = some (.bool true) := (blk_cell BK211.out 0).trans rfl
        have hcz37_1 : w31.cell? ⟨gb211, 1, none⟩ = some (.string t207) := (blk_cell BK211.out 1).trans rfl
        have hcz37_2 : w31.cell? ⟨gb211, 2, none⟩ = some (.int .i64 t208) := (blk_cell BK211.out 2).trans rfl
        have hcz37_3 : w31.cell? ⟨gb211, 3, none⟩ = some (.int .i64 t209) := (blk_cell BK211.out 3).trans rfl
        have hfz37_0 := blk_frozen BK211.out 0
        have hfz37_1 := blk_frozen BK211.out 1
        have hfz37_2 := blk_frozen BK211.out 2
        have hfz37_3 := blk_frozen BK211.out 3
        have hnb38 := NB214_205.out
        have hnc38 := NB205_214.out
        have hcz39_0 : w31.cell? ⟨gb214, 0, none⟩ = some (.bool false) := (blk_cell BK214.out 0).trans rfl
        have hcz39_1 : w31.cell? ⟨gb214, 1, none⟩ = some (.string (⟨#[]⟩ : ByteArray)) := (blk_cell BK214.out 1).trans rfl
        have hcz39_2 : w31.cell? ⟨gb214, 2, none⟩ = some (.string (⟨#[]⟩ : ByteArray)) := (blk_cell BK214.out 2).trans rfl
        have hcz39_3 : w31.cell? ⟨gb214, 3, none⟩ = some (.int .i64 0) := (blk_cell BK214.out 3).trans rfl
        have hfz39_0 := blk_frozen BK214.out 0
        have hfz39_1 := blk_frozen BK214.out 1
        have hfz39_2 := blk_frozen BK214.out 2
        have hfz39_3 := blk_frozen BK214.out 3
        have hcz40_0 : w31.cell? ⟨gb205, 0, none⟩ = some (.bool false) := (blk_cell BK205.out 0).trans rfl
        have hcz40_1 : w31.cell? ⟨gb205, 1, none⟩ = some (.string (⟨#[]⟩ : ByteArray)) := (blk_cell BK205.out 1).trans rfl
        have hcz40_2 : w31.cell? ⟨gb205, 2, none⟩ = some (.string (⟨#[]⟩ : ByteArray)) := (blk_cell BK205.out 2).trans rfl
        have hcz40_3 : w31.cell? ⟨gb205, 3, none⟩ = some (.int .i64 0) := (blk_cell BK205.out 3).trans rfl
        have hfz40_0 := blk_frozen BK205.out 0
        have hfz40_1 := blk_frozen BK205.out 1
        have hfz40_2 := blk_frozen BK205.out 2
        have hfz40_3 := blk_frozen BK205.out 3
        try go_wp2
        refine bodyPost_ret (results_cell_row rfl _ _ gb205 25 #[.bool (!((((t207.extract 0 (t208 : Int).toNat).extract (t212 : Int).toNat t208.toNat) ++ t213).toList).isEmpty), .string ((t207.extract 0 (t208 : Int).toNat).extract (t212 : Int).toNat t208.toNat), .string t213, .int .i64 t210] (0, 0) _ rfl (by (with_reducible repeat (first | refine blk_drewN ?_ _ | refine blk_drew ?_ | refine blk_alloc ?_ _)); refine blk_put (cs := #[.bool (!((((t207.extract 0 (t208 : Int).toNat).extract (t212 : Int).toNat t208.toNat) ++ t213).toList).isEmpty), .string ((t207.extract 0 (t208 : Int).toNat).extract (t212 : Int).toNat t208.toNat), .string t213, .int .i64 0]) ?_ 3 _ rfl; (with_reducible repeat (first | refine blk_drewN ?_ _ | refine blk_drew ?_ | refine blk_alloc ?_ _)); refine blk_put (cs := #[.bool (!((((t207.extract 0 (t208 : Int).toNat).extract (t212 : Int).toNat t208.toNat) ++ t213).toList).isEmpty), .string ((t207.extract 0 (t208 : Int).toNat).extract (t212 : Int).toNat t208.toNat), .string (⟨#[]⟩ : ByteArray), .int .i64 0]) ?_ 2 _ rfl; (with_reducible repeat (first | refine blk_drewN ?_ _ | refine blk_drew ?_ | refine blk_alloc ?_ _)); refine blk_put (cs := #[.bool (!((((t207.extract 0 (t208 : Int).toNat).extract (t212 : Int).toNat t208.toNat) ++ t213).toList).isEmpty), .string (⟨#[]⟩ : ByteArray), .string (⟨#[]⟩ : ByteArray), .int .i64 0]) ?_ 1 _ rfl; (with_reducible repeat (first | refine blk_drewN ?_ _ | refine blk_drew ?_ | refine blk_alloc ?_ _)); refine blk_put (cs := #[.bool false, .string (⟨#[]⟩ : ByteArray), .string (⟨#[]⟩ : ByteArray), .int .i64 0]) ?_ 0 _ rfl; (with_reducible repeat (first | refine blk_drewN ?_ _ | refine blk_drew ?_ | refine blk_alloc ?_ _)); refine blk_far ?_ NB205_214.out _; (with_reducible repeat (first | refine blk_drewN ?_ _ | refine blk_drew ?_ | refine blk_alloc ?_ _)); refine blk_far ?_ NB205_214.out _; (with_reducible repeat (first | refine blk_drewN ?_ _ | refine blk_drew ?_ | refine blk_alloc ?_ _)); refine blk_far ?_ NB205_214.out _; (with_reducible repeat (first | refine blk_drewN ?_ _ | refine blk_drew ?_ | refine blk_alloc ?_ _)); refine blk_far ?_ NB205_214.out _; (with_reducible repeat (first | refine blk_drewN ?_ _ | refine blk_drew ?_ | refine blk_alloc ?_ _)); refine blk_far ?_ NB205_214.out _; (with_reducible repeat (first | refine blk_drewN ?_ _ | refine blk_drew ?_ | refine blk_alloc ?_ _)); exact BK205.out) Tryd.underlying25 rfl (by kernel_rfl)) rfl ?_
        exact ⟨qnd5_, qnd29_⟩
       ·
        rw [if_neg c22] at H
        exact absurd H (by simp)
      ·
       replace c21 := Bool.eq_false_iff.mpr c21
       subst c21
       have H1 : (some (false, (t207.extract 0 (t208 : Int).toNat).extract (t212 : Int).toNat t208.toNat, t213, t210)) = some (r1, r2, r3, r4) := by rw [if_neg (show ¬ (false = true) by decide)] at H; exact H
       clear H
       have H := H1
       clear H1
       simp only [Option.some.injEq, Prod.mk.injEq] at H
       obtain ⟨rfl, rfl, rfl, rfl⟩ := H
       go_enter Tryd.func22, Tryd.ntmps22
       have tk62 : True := trivial; have tk63 : True := trivial; have tk64 : True := trivial
       try go_wp2_with (first | (have ztk62 := tk62; clear tk62 ztk62; (with_reducible refine gate_dst (N := 2) rfl ?_); refine box_event ?hg (N := 2) ?hd (cs := #[.bool false, .string (⟨#[]⟩ : ByteArray), .string (⟨#[]⟩ : ByteArray), .int .i64 0]) (t := 25) ?hr ?_; (case hd => rfl); (case hg => rfl); (case hr => first | (go_simp; done) | (go_simp; rfl)); intro gb205 hg w44 hbox hb; have n0_ := Aside0.mk (below_step qnd1_ hb); have n1_ := Aside0.mk (hbox); have n2_ := Aside0.mk ((by rw [hg]; exact (below_size qnd1_) : w.heap.size ≤ gb205)); have n3_ := Aside0.mk ((by rw [hg]; exact (below_size qnd1_) : w.heap.size ≤ gb205)); clear HB; have HB := n0_; have BK205 := n1_; have GW205 := n2_; have GE205 := n3_; clear n0_ n1_ n2_ n3_; clear hb hbox hg) | (have ztk63 := tk63; clear tk63 ztk63; (with_reducible refine gate_callee (f := 41) rfl ?_); refine goesL_ (some 9) rfl rfl Tryd.func41 (by kernel_rfl) rfl #[.string a0] rfl qnd0_ ?_; (with_reducible refine (millref3_signed.calls k a0 false t207 t208 t209 t210 _ A2.out).mono ?_); rintro e w45 ⟨rfl, hb⟩; refine ⟨_, rfl, ?_⟩; have n0_ := Aside0.mk (blk_below (g := gb205) (o := .cells #[.bool false, .string (⟨#[]⟩ : ByteArray), .string (⟨#[]⟩ : ByteArray), .int .i64 0] 25 (0, 0)) qnd12_ hb); have n1_ := Aside0.mk (below_step qnd27_ hb); clear BK205; clear HB; have BK205 := n0_; have HB := n1_; clear n0_ n1_; (try clear hb); (try clear hb2); (try clear hk); (try clear hi)) | (have ztk64 := tk64; clear tk64 ztk64; (with_reducible refine gate_dst (N := 3) rfl ?_); refine box_event ?hg (N := 3) ?hd (cs := #[.bool false, .string (⟨#[]⟩ : ByteArray), .int .i64 0, .int .i64 0]) (t := 67) ?hr ?_; (case hd => rfl); (case hg => rfl); (case hr => first | (go_simp; done) | (go_simp; rfl)); intro gb211 hg w46 hbox hb; have n0_ := Aside0.mk (blk_below (g := gb205) (o := .cells #[.bool false, .string (⟨#[]⟩ : ByteArray), .string (⟨#[]⟩ : ByteArray), .int .i64 0] 25 (0, 0)) qnd12_ hb); have n1_ := Aside0.mk (below_step qnd27_ hb); have n2_ := Aside0.mk (hbox); have n3_ := Aside0.mk ((by rw [hg]; exact (below_size qnd27_) : w.heap.size ≤ gb211)); have n4_ := Aside0.mk ((by rw [hg]; exact (below_size qnd27_) : w.heap.size ≤ gb211)); have n5_ := Aside0.mk ((by rw [hg]; exact Nat.ne_of_lt (blk_lt (g := gb205) (o := .cells #[.bool false, .string (⟨#[]⟩ : ByteArray), .string (⟨#[]⟩ : ByteArray), .int .i64 0] 25 (0, 0)) qnd12_) : gb205 ≠ gb211)); have n6_ := Aside0.mk ((by rw [hg]; exact Nat.ne_of_gt (blk_lt (g := gb205) (o := .cells #[.bool false, .string (⟨#[]⟩ : ByteArray), .string (⟨#[]⟩ : ByteArray), .int .i64 0] 25 (0, 0)) qnd12_) : gb211 ≠ gb205)); clear BK205; clear HB; have BK205 := n0_; have HB := n1_; have BK211 := n2_; have GW211 := n3_; have GE211 := n4_; have NB205_211 := n5_; have NB211_205 := n6_; clear n0_ n1_ n2_ n3_ n4_ n5_ n6_; clear hb hbox hg; have hnb47 := NB211_205.out; have hnc47 := NB205_211.out; have hcz48_0 : w46.cell? ⟨gb211, 0, none⟩ = some (.bool false) := (blk_cell BK211.out 0).trans rfl; have hcz48_1 : w46.cell? ⟨gb211, 1, none⟩ = some (.string (⟨#[]⟩ : ByteArray)) := (blk_cell BK211.out 1).trans rfl; have hcz48_2 : w46.cell? ⟨gb211, 2, none⟩ = some (.int .i64 0) := (blk_cell BK211.out 2).trans rfl; have hcz48_3 : w46.cell? ⟨gb211, 3, none⟩ = some (.int .i64 0) := (blk_cell BK211.out 3).trans rfl; have hfz48_0 := blk_frozen BK211.out 0; have hfz48_1 := blk_frozen BK211.out 1; have hfz48_2 := blk_frozen BK211.out 2; have hfz48_3 := blk_frozen BK211.out 3))
       have n0_ : Aside0 (((((w46.setCell ⟨gb211, 0, none⟩ (.bool false)).setCell ⟨gb211, 1, none⟩ (.string t207)).setCell ⟨gb211, 2, none⟩ (.int .i64 t208)).setCell ⟨gb211, 3, none⟩ (.int .i64 t209)).heap[gb205]? = some (.cells #[.bool false, .string (⟨#[]⟩ : ByteArray), .string (⟨#[]⟩ : ByteArray), .int .i64 0] 25 (0, 0))) := ⟨by (with_reducible repeat (first | refine blk_drewN ?_ _ | refine blk_drew ?_ | refine blk_alloc ?_ _)); refine blk_far ?_ NB205_211.out _; (with_reducible repeat (first | refine blk_drewN ?_ _ | refine blk_drew ?_ | refine blk_alloc ?_ _)); refine blk_far ?_ NB205_211.out _; (with_reducible repeat (first | refine blk_drewN ?_ _ | refine blk_drew ?_ | refine blk_alloc ?_ _)); refine blk_far ?_ NB205_211.out _; (with_reducible repeat (first | refine blk_drewN ?_ _ | refine blk_drew ?_ | refine blk_alloc ?_ _)); refine blk_far ?_ NB205_211.out _; (with_reducible repeat (first | refine blk_drewN ?_ _ | refine blk_drew ?_ | refine blk_alloc ?_ _)); exact BK205.out⟩
       have n1_ : Aside0 (((((w46.setCell ⟨gb211, 0, none⟩ (.bool false)).setCell ⟨gb211, 1, none⟩ (.string t207)).setCell ⟨gb211, 2, none⟩ (.int .i64 t208)).setCell ⟨gb211, 3, none⟩ (.int .i64 t209)).heap[gb211]? = some (.cells #[.bool false, .string t207, .int .i64 t208, .int .i64 t209] 67 (0, 0))) := ⟨by (with_reducible repeat (first | refine blk_drewN ?_ _ | refine blk_drew ?_ | refine blk_alloc ?_ _)); refine blk_put (cs := #[.bool false, .string t207, .int .i64 t208, .int .i64 0]) ?_ 3 _ rfl; (with_reducible repeat (first | refine blk_drewN ?_ _ | refine blk_drew ?_ | refine blk_alloc ?_ _)); refine blk_put (cs := #[.bool false, .string t207, .int .i64 0, .int .i64 0]) ?_ 2 _ rfl; (with_reducible repeat (first | refine blk_drewN ?_ _ | refine blk_drew ?_ | refine blk_alloc ?_ _)); refine blk_put (cs := #[.bool false, .string (⟨#[]⟩ : ByteArray), .int .i64 0, .int .i64 0]) ?_ 1 _ rfl; (with_reducible repeat (first | refine blk_drewN ?_ _ | refine blk_drew ?_ | refine blk_alloc ?_ _)); refine blk_put (cs := #[.bool false, .string (⟨#[]⟩ : ByteArray), .int .i64 0, .int .i64 0]) ?_ 0 _ rfl; (with_reducible repeat (first | refine blk_drewN ?_ _ | refine blk_drew ?_ | refine blk_alloc ?_ _)); exact BK211.out⟩
       have n2_ : Aside0 (Below w.heap.size w ((((w46.setCell ⟨gb211, 0, none⟩ (.bool false)).setCell ⟨gb211, 1, none⟩ (.string t207)).setCell ⟨gb211, 2, none⟩ (.int .i64 t208)).setCell ⟨gb211, 3, none⟩ (.int .i64 t209))) := ⟨qnd13_⟩
       (try clear BK205); (try clear BK211); (try clear HB)
       generalize ((((w46.setCell ⟨gb211, 0, none⟩ (.bool false)).setCell ⟨gb211, 1, none⟩ (.string t207)).setCell ⟨gb211, 2, none⟩ (.int .i64 t208)).setCell ⟨gb211, 3, none⟩ (.int .i64 t209)) = w49 at n0_ n1_ n2_ ⊢
       have BK205 := n0_
       have BK211 := n1_
       have HB := n2_
       clear n0_ n1_ n2_
       have n0_ := Aside0.mk (blk_drew BK205.out)
       have n1_ := Aside0.mk (blk_drew BK211.out)
       have n2_ := Aside0.mk (below_drew1 HB.out)
       clear BK205
       clear BK211
       clear HB
       have BK205 := n0_
       have BK211 := n1_
       have HB := n2_
       clear n0_ n1_ n2_
       refine start_ (n := 14) (S := fun w' => w'.cell? ⟨gb211, 0, none⟩ = some (.bool false) ∧ w'.cell? ⟨gb211, 1, none⟩ = some (.string t207) ∧ w'.cell? ⟨gb211, 2, none⟩ = some (.int .i64 t208) ∧ w'.cell? ⟨gb211, 3, none⟩ = some (.int .i64 t209)) (ds := []) #[false, false, false, false, false, false, false, false, false, false, false, false, false, false] (by kernel_rfl) rfl rfl ⟨(blk_cell BK211.out 0).trans rfl, (blk_cell BK211.out 1).trans rfl, (blk_cell BK211.out 2).trans rfl, (blk_cell BK211.out 3).trans rfl⟩ (fun hHeld => ?_); refine with_tabW millref3_Decimal.tab5 millref3_Decimal.bits5 (fun HT_ HW_ => ?_)
       generalize w49.drew = w50 at BK205 BK211 HB hHeld ⊢
       refine pure_ (i := 0) (N := some 20) (v := ?_) (a' := ?_) #[true, false, false, false, false, false, false, false, false, false, false, false, false, false] rfl rfl (any_of HT_.out (by kernel_rfl)) (fun _ _ _ h => h) (Or.inl ⟨by rfl, ?_⟩) ?_ ?_
       rotate_left
       ·
        intro w'
        go_simp
        with_reducible rfl
       rotate_left
       ·
        simp only [Act.put, List.setIfInBounds_toArray, List.set_cons_zero, List.set_cons_succ, i64_w, i32_w]
        rfl
       refine pure_ (i := 1) (N := some 21) (v := ?_) (a' := ?_) #[true, true, false, false, false, false, false, false, false, false, false, false, false, false] rfl rfl (any_of HT_.out (by kernel_rfl)) (fun _ _ _ h => h) (Or.inl ⟨by rfl, ?_⟩) ?_ ?_
       rotate_left
       ·
        intro w'
        go_simp
        with_reducible rfl
       rotate_left
       ·
        simp only [Act.put, List.setIfInBounds_toArray, List.set_cons_zero, List.set_cons_succ, i64_w, i32_w]
        rfl
       refine pure_ (i := 4) (N := some 24) (v := ?_) (a' := ?_) #[true, true, false, false, true, false, false, false, false, false, false, false, false, false] rfl rfl (any_of HT_.out (by kernel_rfl)) (fun _ _ _ h => h) (Or.inl ⟨by rfl, ?_⟩) ?_ ?_
       rotate_left
       ·
        intro w'
        go_simp
        with_reducible rfl
       rotate_left
       ·
        simp only [Act.put, List.setIfInBounds_toArray, List.set_cons_zero, List.set_cons_succ, i64_w, i32_w]
        rfl
       refine pure_ (i := 6) (N := some 26) (v := ?_) (a' := ?_) #[true, true, false, false, true, false, true, false, false, false, false, false, false, false] rfl rfl (any_of HT_.out (by kernel_rfl)) (fun _ _ _ h => h) (Or.inl ⟨by rfl, ?_⟩) ?_ ?_
       rotate_left
       ·
        intro w'
        go_simp
        with_reducible rfl
       rotate_left
       ·
        simp only [Act.put, List.setIfInBounds_toArray, List.set_cons_zero, List.set_cons_succ, i64_w, i32_w]
        rfl
       refine pure_ (i := 10) (N := some 30) (v := ?_) (a' := ?_) #[true, true, false, false, true, false, true, false, false, false, true, false, false, false] rfl rfl (any_of HT_.out (by kernel_rfl)) (fun _ _ _ h => h) (Or.inl ⟨by rfl, ?_⟩) ?_ ?_
       rotate_left
       ·
        intro w'
        go_simp
        with_reducible rfl
       rotate_left
       ·
        simp only [Act.put, List.setIfInBounds_toArray, List.set_cons_zero, List.set_cons_succ, i64_w, i32_w]
        rfl
       refine take_ (i := 5) (N := some 25) (v := ?_) (a' := ?_) #[true, true, false, false, true, true, true, false, false, false, true, false, false, false] rfl rfl (take_ofW HT_.out HW_.out (by kernel_rfl)) (fun _ _ _ h => h) (Or.inl ⟨by rfl, ?_⟩) hHeld ?_ ?_
       rotate_left
       ·
        rintro w' ⟨s0, s1, s2, s3⟩
        go_simp
        with_reducible rfl
       rotate_left
       ·
        simp only [Act.put, List.setIfInBounds_toArray, List.set_cons_zero, List.set_cons_succ, i64_w, i32_w]
        rfl
       refine take_ (i := 7) (N := some 27) (v := ?_) (a' := ?_) #[true, true, false, false, true, true, true, true, false, false, true, false, false, false] rfl rfl (take_ofW HT_.out HW_.out (by kernel_rfl)) (fun _ _ _ h => h) (Or.inl ⟨by rfl, ?_⟩) hHeld ?_ ?_
       rotate_left
       ·
        rintro w' ⟨s0, s1, s2, s3⟩
        go_simp
        with_reducible rfl
       rotate_left
       ·
        simp only [Act.put, List.setIfInBounds_toArray, List.set_cons_zero, List.set_cons_succ, i64_w, i32_w]
        rfl
       refine pure_ (i := 8) (N := some 28) (v := ?_) (a' := ?_) #[true, true, false, false, true, true, true, true, true, false, true, false, false, false] rfl rfl (any_of HT_.out (by kernel_rfl)) (fun _ _ _ h => h) (Or.inl ⟨by rfl, ?_⟩) ?_ ?_
       rotate_left
       ·
        intro w'
        go_simp
        with_reducible rfl
       rotate_left
       ·
        simp only [Act.put, List.setIfInBounds_toArray, List.set_cons_zero, List.set_cons_succ, i64_w, i32_w]
        rfl
       refine join_ (σ := Nat) 1 #[true, true, true, true, true, true, true, true, true, true, true, true, true, false] (fun s_ => [(22, .int .i64 t212), (29, .string t213), (6, .pointer (some ⟨s_, 0, none⟩)), (23, .string ((t207.extract 0 (t208 : Int).toNat).extract (t212 : Int).toNat t208.toNat)), (31, .agg #[.bool false, .string ((t207.extract 0 (t208 : Int).toNat).extract (t212 : Int).toNat t208.toNat), .string t213, .int .i64 t210])]) (fun s_ w' => (w'.cell? ⟨gb211, 0, none⟩ = some (.bool false) ∧ w'.cell? ⟨gb211, 1, none⟩ = some (.string t207) ∧ w'.cell? ⟨gb211, 2, none⟩ = some (.int .i64 t208) ∧ w'.cell? ⟨gb211, 3, none⟩ = some (.int .i64 t209)) ∧ (w'.heap[gb205]? = some (.cells #[.bool false, .string (⟨#[]⟩ : ByteArray), .string (⟨#[]⟩ : ByteArray), .int .i64 0] 25 (0, 0))) ∧ (w'.heap[gb211]? = some (.cells #[.bool false, .string t207, .int .i64 t208, .int .i64 t209] 67 (0, 0))) ∧ (w'.heap[s_]? = some (.cells #[.bool false, .string (⟨#[]⟩ : ByteArray), .string (⟨#[]⟩ : ByteArray), .int .i64 0] 25 (0, 0))) ∧ (w.heap.size ≤ s_) ∧ (w.heap.size ≤ s_) ∧ (gb205 ≠ s_) ∧ (s_ ≠ gb205) ∧ (gb211 ≠ s_) ∧ (s_ ≠ gb211) ∧ (Below w.heap.size w w')) ?_ ?_
       rotate_left
       ·
        intro hCont
        refine two_ (i := 2) (j := 12) (Ni := some 22) (Nj := some 6) #[true, true, true, false, true, true, true, true, true, false, true, false, false, false] #[true, true, false, false, true, true, true, true, true, false, true, false, true, false] rfl rfl rfl rfl (two_of HT_.out (by kernel_rfl)) (by decide) (by decide) (fun K hK => ?_) (fun K hK => ?_)
        ·
         skip
         refine goes_ Tryd.func42 (by kernel_rfl) rfl #[.string (t207.extract 0 (t208 : Int).toNat)] (by rfl) rfl rfl qnd0_ ?_
         with_reducible refine (millref3_zeros.calls k (t207.extract 0 (t208 : Int).toNat) t212 _ A15.out).mono ?_
         rintro e w' ⟨rfl, ⟨nd, rfl⟩⟩
         refine ⟨_, rfl, ?_⟩
         refine hK.out _ _ ⟨(blk_cell BK211.out 0).trans rfl, (blk_cell BK211.out 1).trans rfl, (blk_cell BK211.out 2).trans rfl, (blk_cell BK211.out 3).trans rfl⟩ (fun hHeld => ?_)
         clear hK K
         refine norm_ (a' := ?_) ?_ ?_
         rotate_left
         ·
          show Act.put _ (some 22) _ = _
          simp only [Act.put, List.setIfInBounds_toArray, List.set_cons_zero, List.set_cons_succ, i64_w, i32_w]
          rfl
         refine pure_ (i := 3) (N := some 23) (v := ?_) (a' := ?_) #[true, true, true, true, true, true, true, true, true, false, true, false, false, false] rfl rfl (any_of HT_.out (by kernel_rfl)) (fun _ _ _ h => h) (Or.inl ⟨by rfl, ?_⟩) ?_ ?_
         rotate_left
         ·
          intro w'
          go_simp
          with_reducible rfl
         rotate_left
         ·
          simp only [Act.put, List.setIfInBounds_toArray, List.set_cons_zero, List.set_cons_succ, i64_w, i32_w]
          rfl
         refine two_ (i := 9) (j := 12) (Ni := some 29) (Nj := some 6) #[true, true, true, true, true, true, true, true, true, true, true, false, false, false] #[true, true, true, true, true, true, true, true, true, false, true, false, true, false] rfl rfl rfl rfl (two_of HT_.out (by kernel_rfl)) (by decide) (by decide) (fun K hK => ?_) (fun K hK => ?_)
         ·
          skip
          refine goes_ Tryd.func43 (by kernel_rfl) rfl #[.string (t207.extract (t208 : Int).toNat t207.size)] (by rfl) rfl rfl qnd0_ ?_
          with_reducible refine (millref3_trimmed.calls k (t207.extract (t208 : Int).toNat t207.size) t213 _ A20.out).mono ?_
          rintro e w' ⟨rfl, ⟨nd, rfl⟩⟩
          refine ⟨_, rfl, ?_⟩
          refine hK.out _ _ ⟨(blk_cell BK211.out 0).trans rfl, (blk_cell BK211.out 1).trans rfl, (blk_cell BK211.out 2).trans rfl, (blk_cell BK211.out 3).trans rfl⟩ (fun hHeld => ?_)
          clear hK K
          refine norm_ (a' := ?_) ?_ ?_
          rotate_left
          ·
           show Act.put _ (some 29) _ = _
           simp only [Act.put, List.setIfInBounds_toArray, List.set_cons_zero, List.set_cons_succ, i64_w, i32_w]
           rfl
          refine pure_ (i := 11) (N := some 31) (v := ?_) (a' := ?_) #[true, true, true, true, true, true, true, true, true, true, true, true, false, false] rfl rfl (any_of HT_.out (by kernel_rfl)) (fun _ _ _ h => h) (Or.inl ⟨by rfl, ?_⟩) ?_ ?_
          rotate_left
          ·
           intro w'
           go_simp
           with_reducible rfl
          rotate_left
          ·
           simp only [Act.put, List.setIfInBounds_toArray, List.set_cons_zero, List.set_cons_succ, i64_w, i32_w]
           rfl
          refine one_ (i := 12) (N := some 6) #[true, true, true, true, true, true, true, true, true, true, true, true, true, false] rfl rfl (one_of HT_.out (by kernel_rfl)) (by decide) (fun K hK => ?_)
          refine box_step ?hg (N := 6) ?hd (cs := #[.bool false, .string (⟨#[]⟩ : ByteArray), .string (⟨#[]⟩ : ByteArray), .int .i64 0]) (t := 25) ?hr ?_; (case hd => rfl); (case hg => rfl); (case hr => first | (go_simp; done) | (go_simp; rfl))
          intro gb214 hg w51 hbox hb
          have n0_ := Aside0.mk (blk_below (g := gb205) (o := .cells #[.bool false, .string (⟨#[]⟩ : ByteArray), .string (⟨#[]⟩ : ByteArray), .int .i64 0] 25 (0, 0)) qnd12_ hb)
          have n1_ := Aside0.mk (blk_below (g := gb211) (o := .cells #[.bool false, .string t207, .int .i64 t208, .int .i64 t209] 67 (0, 0)) qnd21_ hb)
          have n2_ := Aside0.mk (below_step qnd13_ hb)
          have n3_ := Aside0.mk (hbox)
          have n4_ := Aside0.mk ((by rw [hg]; exact (below_size qnd13_) : w.heap.size ≤ gb214))
          have n5_ := Aside0.mk ((by rw [hg]; exact (below_size qnd13_) : w.heap.size ≤ gb214))
          have n6_ := Aside0.mk ((by rw [hg]; exact Nat.ne_of_lt (blk_lt (g := gb205) (o := .cells #[.bool false, .string (⟨#[]⟩ : ByteArray), .string (⟨#[]⟩ : ByteArray), .int .i64 0] 25 (0, 0)) qnd12_) : gb205 ≠ gb214))
          have n7_ := Aside0.mk ((by rw [hg]; exact Nat.ne_of_gt (blk_lt (g := gb205) (o := .cells #[.bool false, .string (⟨#[]⟩ : ByteArray), .string (⟨#[]⟩ : ByteArray), .int .i64 0] 25 (0, 0)) qnd12_) : gb214 ≠ gb205))
          have n8_ := Aside0.mk ((by rw [hg]; exact Nat.ne_of_lt (blk_lt (g := gb211) (o := .cells #[.bool false, .string t207, .int .i64 t208, .int .i64 t209] 67 (0, 0)) qnd21_) : gb211 ≠ gb214))
          have n9_ := Aside0.mk ((by rw [hg]; exact Nat.ne_of_gt (blk_lt (g := gb211) (o := .cells #[.bool false, .string t207, .int .i64 t208, .int .i64 t209] 67 (0, 0)) qnd21_) : gb214 ≠ gb211))
          clear BK205
          clear BK211
          clear HB
          have BK205 := n0_
          have BK211 := n1_
          have HB := n2_
          have BK214 := n3_
          have GW214 := n4_
          have GE214 := n5_
          have NB205_214 := n6_
          have NB214_205 := n7_
          have NB211_214 := n8_
          have NB214_211 := n9_
          clear n0_ n1_ n2_ n3_ n4_ n5_ n6_ n7_ n8_ n9_
          clear hb hbox hg
          refine hK.out _ _ ⟨(blk_cell BK211.out 0).trans rfl, (blk_cell BK211.out 1).trans rfl, (blk_cell BK211.out 2).trans rfl, (blk_cell BK211.out 3).trans rfl⟩ (fun hHeld => ?_)
          clear hK K
          refine norm_ (a' := ?_) ?_ ?_
          rotate_left
          ·
           show Act.put _ (some 6) _ = _
           simp only [Act.put, List.setIfInBounds_toArray, List.set_cons_zero, List.set_cons_succ, i64_w, i32_w]
           rfl
          exact norm_ qnd33_ (hCont (gb214) _ ⟨hHeld, qnd12_, qnd21_, qnd52_, GW214.out, GE214.out, NB205_214.out, NB214_205.out, NB211_214.out, NB214_211.out, qnd29_⟩)
         ·
          skip
          refine box_step ?hg (N := 6) ?hd (cs := #[.bool false, .string (⟨#[]⟩ : ByteArray), .string (⟨#[]⟩ : ByteArray), .int .i64 0]) (t := 25) ?hr ?_; (case hd => rfl); (case hg => rfl); (case hr => first | (go_simp; done) | (go_simp; rfl))
          intro gb214 hg w51 hbox hb
          have n0_ := Aside0.mk (blk_below (g := gb205) (o := .cells #[.bool false, .string (⟨#[]⟩ : ByteArray), .string (⟨#[]⟩ : ByteArray), .int .i64 0] 25 (0, 0)) qnd12_ hb)
          have n1_ := Aside0.mk (blk_below (g := gb211) (o := .cells #[.bool false, .string t207, .int .i64 t208, .int .i64 t209] 67 (0, 0)) qnd21_ hb)
          have n2_ := Aside0.mk (below_step qnd13_ hb)
          have n3_ := Aside0.mk (hbox)
          have n4_ := Aside0.mk ((by rw [hg]; exact (below_size qnd13_) : w.heap.size ≤ gb214))
          have n5_ := Aside0.mk ((by rw [hg]; exact (below_size qnd13_) : w.heap.size ≤ gb214))
          have n6_ := Aside0.mk ((by rw [hg]; exact Nat.ne_of_lt (blk_lt (g := gb205) (o := .cells #[.bool false, .string (⟨#[]⟩ : ByteArray), .string (⟨#[]⟩ : ByteArray), .int .i64 0] 25 (0, 0)) qnd12_) : gb205 ≠ gb214))
          have n7_ := Aside0.mk ((by rw [hg]; exact Nat.ne_of_gt (blk_lt (g := gb205) (o := .cells #[.bool false, .string (⟨#[]⟩ : ByteArray), .string (⟨#[]⟩ : ByteArray), .int .i64 0] 25 (0, 0)) qnd12_) : gb214 ≠ gb205))
          have n8_ := Aside0.mk ((by rw [hg]; exact Nat.ne_of_lt (blk_lt (g := gb211) (o := .cells #[.bool false, .string t207, .int .i64 t208, .int .i64 t209] 67 (0, 0)) qnd21_) : gb211 ≠ gb214))
          have n9_ := Aside0.mk ((by rw [hg]; exact Nat.ne_of_gt (blk_lt (g := gb211) (o := .cells #[.bool false, .string t207, .int .i64 t208, .int .i64 t209] 67 (0, 0)) qnd21_) : gb214 ≠ gb211))
          clear BK205
          clear BK211
          clear HB
          have BK205 := n0_
          have BK211 := n1_
          have HB := n2_
          have BK214 := n3_
          have GW214 := n4_
          have GE214 := n5_
          have NB205_214 := n6_
          have NB214_205 := n7_
          have NB211_214 := n8_
          have NB214_211 := n9_
          clear n0_ n1_ n2_ n3_ n4_ n5_ n6_ n7_ n8_ n9_
          clear hb hbox hg
          refine hK.out _ _ ⟨(blk_cell BK211.out 0).trans rfl, (blk_cell BK211.out 1).trans rfl, (blk_cell BK211.out 2).trans rfl, (blk_cell BK211.out 3).trans rfl⟩ (fun hHeld => ?_)
          clear hK K
          refine norm_ (a' := ?_) ?_ ?_
          rotate_left
          ·
           show Act.put _ (some 6) _ = _
           simp only [Act.put, List.setIfInBounds_toArray, List.set_cons_zero, List.set_cons_succ, i64_w, i32_w]
           rfl
          refine one_ (i := 9) (N := some 29) #[true, true, true, true, true, true, true, true, true, true, true, false, true, false] rfl rfl (one_of HT_.out (by kernel_rfl)) (by decide) (fun K hK => ?_)
          refine goes_ Tryd.func43 (by kernel_rfl) rfl #[.string (t207.extract (t208 : Int).toNat t207.size)] (by rfl) rfl rfl qnd0_ ?_
          with_reducible refine (millref3_trimmed.calls k (t207.extract (t208 : Int).toNat t207.size) t213 _ A20.out).mono ?_
          rintro e w' ⟨rfl, ⟨nd, rfl⟩⟩
          refine ⟨_, rfl, ?_⟩
          refine hK.out _ _ ⟨(blk_cell BK211.out 0).trans rfl, (blk_cell BK211.out 1).trans rfl, (blk_cell BK211.out 2).trans rfl, (blk_cell BK211.out 3).trans rfl⟩ (fun hHeld => ?_)
          clear hK K
          refine norm_ (a' := ?_) ?_ ?_
          rotate_left
          ·
           show Act.put _ (some 29) _ = _
           simp only [Act.put, List.setIfInBounds_toArray, List.set_cons_zero, List.set_cons_succ, i64_w, i32_w]
           rfl
          refine pure_ (i := 11) (N := some 31) (v := ?_) (a' := ?_) #[true, true, true, true, true, true, true, true, true, true, true, true, true, false] rfl rfl (any_of HT_.out (by kernel_rfl)) (fun _ _ _ h => h) (Or.inl ⟨by rfl, ?_⟩) ?_ ?_
          rotate_left
          ·
           intro w'
           go_simp
           with_reducible rfl
          rotate_left
          ·
           simp only [Act.put, List.setIfInBounds_toArray, List.set_cons_zero, List.set_cons_succ, i64_w, i32_w]
           rfl
          exact norm_ qnd33_ (hCont (gb214) _ ⟨hHeld, qnd12_, qnd21_, qnd52_, GW214.out, GE214.out, NB205_214.out, NB214_205.out, NB211_214.out, NB214_211.out, qnd29_⟩)
        ·
         skip
         refine box_step ?hg (N := 6) ?hd (cs := #[.bool false, .string (⟨#[]⟩ : ByteArray), .string (⟨#[]⟩ : ByteArray), .int .i64 0]) (t := 25) ?hr ?_; (case hd => rfl); (case hg => rfl); (case hr => first | (go_simp; done) | (go_simp; rfl))
         intro gb214 hg w51 hbox hb
         have n0_ := Aside0.mk (blk_below (g := gb205) (o := .cells #[.bool false, .string (⟨#[]⟩ : ByteArray), .string (⟨#[]⟩ : ByteArray), .int .i64 0] 25 (0, 0)) qnd12_ hb)
         have n1_ := Aside0.mk (blk_below (g := gb211) (o := .cells #[.bool false, .string t207, .int .i64 t208, .int .i64 t209] 67 (0, 0)) qnd21_ hb)
         have n2_ := Aside0.mk (below_step qnd13_ hb)
         have n3_ := Aside0.mk (hbox)
         have n4_ := Aside0.mk ((by rw [hg]; exact (below_size qnd13_) : w.heap.size ≤ gb214))
         have n5_ := Aside0.mk ((by rw [hg]; exact (below_size qnd13_) : w.heap.size ≤ gb214))
         have n6_ := Aside0.mk ((by rw [hg]; exact Nat.ne_of_lt (blk_lt (g := gb205) (o := .cells #[.bool false, .string (⟨#[]⟩ : ByteArray), .string (⟨#[]⟩ : ByteArray), .int .i64 0] 25 (0, 0)) qnd12_) : gb205 ≠ gb214))
         have n7_ := Aside0.mk ((by rw [hg]; exact Nat.ne_of_gt (blk_lt (g := gb205) (o := .cells #[.bool false, .string (⟨#[]⟩ : ByteArray), .string (⟨#[]⟩ : ByteArray), .int .i64 0] 25 (0, 0)) qnd12_) : gb214 ≠ gb205))
         have n8_ := Aside0.mk ((by rw [hg]; exact Nat.ne_of_lt (blk_lt (g := gb211) (o := .cells #[.bool false, .string t207, .int .i64 t208, .int .i64 t209] 67 (0, 0)) qnd21_) : gb211 ≠ gb214))
         have n9_ := Aside0.mk ((by rw [hg]; exact Nat.ne_of_gt (blk_lt (g := gb211) (o := .cells #[.bool false, .string t207, .int .i64 t208, .int .i64 t209] 67 (0, 0)) qnd21_) : gb214 ≠ gb211))
         clear BK205
         clear BK211
         clear HB
         have BK205 := n0_
         have BK211 := n1_
         have HB := n2_
         have BK214 := n3_
         have GW214 := n4_
         have GE214 := n5_
         have NB205_214 := n6_
         have NB214_205 := n7_
         have NB211_214 := n8_
         have NB214_211 := n9_
         clear n0_ n1_ n2_ n3_ n4_ n5_ n6_ n7_ n8_ n9_
         clear hb hbox hg
         refine hK.out _ _ ⟨(blk_cell BK211.out 0).trans rfl, (blk_cell BK211.out 1).trans rfl, (blk_cell BK211.out 2).trans rfl, (blk_cell BK211.out 3).trans rfl⟩ (fun hHeld => ?_)
         clear hK K
         refine norm_ (a' := ?_) ?_ ?_
         rotate_left
         ·
          show Act.put _ (some 6) _ = _
          simp only [Act.put, List.setIfInBounds_toArray, List.set_cons_zero, List.set_cons_succ, i64_w, i32_w]
          rfl
         refine one_ (i := 2) (N := some 22) #[true, true, true, false, true, true, true, true, true, false, true, false, true, false] rfl rfl (one_of HT_.out (by kernel_rfl)) (by decide) (fun K hK => ?_)
         refine goes_ Tryd.func42 (by kernel_rfl) rfl #[.string (t207.extract 0 (t208 : Int).toNat)] (by rfl) rfl rfl qnd0_ ?_
         with_reducible refine (millref3_zeros.calls k (t207.extract 0 (t208 : Int).toNat) t212 _ A15.out).mono ?_
         rintro e w' ⟨rfl, ⟨nd, rfl⟩⟩
         refine ⟨_, rfl, ?_⟩
         refine hK.out _ _ ⟨(blk_cell BK211.out 0).trans rfl, (blk_cell BK211.out 1).trans rfl, (blk_cell BK211.out 2).trans rfl, (blk_cell BK211.out 3).trans rfl⟩ (fun hHeld => ?_)
         clear hK K
         refine norm_ (a' := ?_) ?_ ?_
         rotate_left
         ·
          show Act.put _ (some 22) _ = _
          simp only [Act.put, List.setIfInBounds_toArray, List.set_cons_zero, List.set_cons_succ, i64_w, i32_w]
          rfl
         refine pure_ (i := 3) (N := some 23) (v := ?_) (a' := ?_) #[true, true, true, true, true, true, true, true, true, false, true, false, true, false] rfl rfl (any_of HT_.out (by kernel_rfl)) (fun _ _ _ h => h) (Or.inl ⟨by rfl, ?_⟩) ?_ ?_
         rotate_left
         ·
          intro w'
          go_simp
          with_reducible rfl
         rotate_left
         ·
          simp only [Act.put, List.setIfInBounds_toArray, List.set_cons_zero, List.set_cons_succ, i64_w, i32_w]
          rfl
         refine one_ (i := 9) (N := some 29) #[true, true, true, true, true, true, true, true, true, true, true, false, true, false] rfl rfl (one_of HT_.out (by kernel_rfl)) (by decide) (fun K hK => ?_)
         refine goes_ Tryd.func43 (by kernel_rfl) rfl #[.string (t207.extract (t208 : Int).toNat t207.size)] (by rfl) rfl rfl qnd0_ ?_
         with_reducible refine (millref3_trimmed.calls k (t207.extract (t208 : Int).toNat t207.size) t213 _ A20.out).mono ?_
         rintro e w' ⟨rfl, ⟨nd, rfl⟩⟩
         refine ⟨_, rfl, ?_⟩
         refine hK.out _ _ ⟨(blk_cell BK211.out 0).trans rfl, (blk_cell BK211.out 1).trans rfl, (blk_cell BK211.out 2).trans rfl, (blk_cell BK211.out 3).trans rfl⟩ (fun hHeld => ?_)
         clear hK K
         refine norm_ (a' := ?_) ?_ ?_
         rotate_left
         ·
          show Act.put _ (some 29) _ = _
          simp only [Act.put, List.setIfInBounds_toArray, List.set_cons_zero, List.set_cons_succ, i64_w, i32_w]
          rfl
         refine pure_ (i := 11) (N := some 31) (v := ?_) (a' := ?_) #[true, true, true, true, true, true, true, true, true, true, true, true, true, false] rfl rfl (any_of HT_.out (by kernel_rfl)) (fun _ _ _ h => h) (Or.inl ⟨by rfl, ?_⟩) ?_ ?_
         rotate_left
         ·
          intro w'
          go_simp
          with_reducible rfl
         rotate_left
         ·
          simp only [Act.put, List.setIfInBounds_toArray, List.set_cons_zero, List.set_cons_succ, i64_w, i32_w]
          rfl
         exact norm_ qnd33_ (hCont (gb214) _ ⟨hHeld, qnd12_, qnd21_, qnd52_, GW214.out, GE214.out, NB205_214.out, NB214_205.out, NB211_214.out, NB214_211.out, qnd29_⟩)
       rintro gb214 w52 ⟨hS_, h0_, h1_, h2_, h3_, h4_, h5_, h6_, h7_, h8_, h9_⟩
       have n0_ : Aside0 (w52.heap[gb205]? = some (.cells #[.bool false, .string (⟨#[]⟩ : ByteArray), .string (⟨#[]⟩ : ByteArray), .int .i64 0] 25 (0, 0))) := ⟨h0_⟩
       have n1_ : Aside0 (w52.heap[gb211]? = some (.cells #[.bool false, .string t207, .int .i64 t208, .int .i64 t209] 67 (0, 0))) := ⟨h1_⟩
       have n2_ : Aside0 (w52.heap[gb214]? = some (.cells #[.bool false, .string (⟨#[]⟩ : ByteArray), .string (⟨#[]⟩ : ByteArray), .int .i64 0] 25 (0, 0))) := ⟨h2_⟩
       have n3_ : Aside0 (w.heap.size ≤ gb214) := ⟨h3_⟩
       have n4_ : Aside0 (w.heap.size ≤ gb214) := ⟨h4_⟩
       have n5_ : Aside0 (gb205 ≠ gb214) := ⟨h5_⟩
       have n6_ : Aside0 (gb214 ≠ gb205) := ⟨h6_⟩
       have n7_ : Aside0 (gb211 ≠ gb214) := ⟨h7_⟩
       have n8_ : Aside0 (gb214 ≠ gb211) := ⟨h8_⟩
       have n9_ : Aside0 (Below w.heap.size w w52) := ⟨h9_⟩
       clear BK205
       clear BK211
       clear HB
       clear h0_ h1_ h2_ h3_ h4_ h5_ h6_ h7_ h8_ h9_
       have BK205 := n0_
       have BK211 := n1_
       have BK214 := n2_
       have GW214 := n3_
       have GE214 := n4_
       have NB205_214 := n5_
       have NB214_205 := n6_
       have NB211_214 := n7_
       have NB214_211 := n8_
       have HB := n9_
       clear n0_ n1_ n2_ n3_ n4_ n5_ n6_ n7_ n8_ n9_
       have hHeld : w52.cell? ⟨gb211, 0, none⟩ = some (.bool false) ∧ w52.cell? ⟨gb211, 1, none⟩ = some (.string t207) ∧ w52.cell? ⟨gb211, 2, none⟩ = some (.int .i64 t208) ∧ w52.cell? ⟨gb211, 3, none⟩ = some (.int .i64 t209) := hS_
       refine norm_ (a' := ?_) ?_ ?_
       rotate_left
       ·
        simp only [putAll, Act.put, List.setIfInBounds_toArray, List.set_cons_zero, List.set_cons_succ]
        rfl
       refine one_ (i := 13) (N := none) #[true, true, true, true, true, true, true, true, true, true, true, true, true, true] rfl rfl (one_of HT_.out (by kernel_rfl)) (by decide) (fun K hK => ?_)
       have hs53 : w52.cell? ⟨gb214, 0, none⟩ = some (.bool false) := (blk_cell BK214.out 0).trans rfl
       have hfs53 := blk_frozen BK214.out 0
       have hns53_0 := NB205_214.out
       have hns53_1 := NB211_214.out
       have hms53_0 := NB214_205.out
       have hms53_1 := NB214_211.out
       have hs54 : w52.cell? ⟨gb214, 1, none⟩ = some (.string (⟨#[]⟩ : ByteArray)) := (blk_cell BK214.out 1).trans rfl
       have hfs54 := blk_frozen BK214.out 1
       have hns54_0 := NB205_214.out
       have hns54_1 := NB211_214.out
       have hms54_0 := NB214_205.out
       have hms54_1 := NB214_211.out
       have hs55 : w52.cell? ⟨gb214, 2, none⟩ = some (.string (⟨#[]⟩ : ByteArray)) := (blk_cell BK214.out 2).trans rfl
       have hfs55 := blk_frozen BK214.out 2
       have hns55_0 := NB205_214.out
       have hns55_1 := NB211_214.out
       have hms55_0 := NB214_205.out
       have hms55_1 := NB214_211.out
       have hs56 : w52.cell? ⟨gb214, 3, none⟩ = some (.int .i64 0) := (blk_cell BK214.out 3).trans rfl
       have hfs56 := blk_frozen BK214.out 3
       have hns56_0 := NB205_214.out
       have hns56_1 := NB211_214.out
       have hms56_0 := NB214_205.out
       have hms56_1 := NB214_211.out
       refine skip_ (w1 := ?_) (by rfl) rfl ?_ ?_
       rotate_left
       ·
        go_simp
        rfl
       refine hK.out _ _ ⟨((cell_far (p := ⟨gb214, _, none⟩) NB211_214.out _).trans (((cell_far (p := ⟨gb214, _, none⟩) NB211_214.out _).trans (((cell_far (p := ⟨gb214, _, none⟩) NB211_214.out _).trans (((cell_far (p := ⟨gb214, _, none⟩) NB211_214.out _).trans (hHeld.1)))))))), ((cell_far (p := ⟨gb214, _, none⟩) NB211_214.out _).trans (((cell_far (p := ⟨gb214, _, none⟩) NB211_214.out _).trans (((cell_far (p := ⟨gb214, _, none⟩) NB211_214.out _).trans (((cell_far (p := ⟨gb214, _, none⟩) NB211_214.out _).trans (hHeld.2.1)))))))), ((cell_far (p := ⟨gb214, _, none⟩) NB211_214.out _).trans (((cell_far (p := ⟨gb214, _, none⟩) NB211_214.out _).trans (((cell_far (p := ⟨gb214, _, none⟩) NB211_214.out _).trans (((cell_far (p := ⟨gb214, _, none⟩) NB211_214.out _).trans (hHeld.2.2.1)))))))), ((cell_far (p := ⟨gb214, _, none⟩) NB211_214.out _).trans (((cell_far (p := ⟨gb214, _, none⟩) NB211_214.out _).trans (((cell_far (p := ⟨gb214, _, none⟩) NB211_214.out _).trans (((cell_far (p := ⟨gb214, _, none⟩) NB211_214.out _).trans (hHeld.2.2.2))))))))⟩ (fun hHeld => ?_)
       clear hK K
       refine done_ (done_of HT_.out (by kernel_rfl)) ?_
       have hnb57 := NB211_214.out
       have hnc57 := NB214_211.out
       have hcz58_0 : w52.cell? ⟨gb211, 0, none⟩ = some (.bool false) := (blk_cell BK211.out 0).trans rfl
       have hcz58_1 : w52.cell? ⟨gb211, 1, none⟩ = some (.string t207) := (blk_cell BK211.out 1).trans rfl
       have hcz58_2 : w52.cell? ⟨gb211, 2, none⟩ = some (.int .i64 t208) := (blk_cell BK211.out 2).trans rfl
       have hcz58_3 : w52.cell? ⟨gb211, 3, none⟩ = some (.int .i64 t209) := (blk_cell BK211.out 3).trans rfl
       have hfz58_0 := blk_frozen BK211.out 0
       have hfz58_1 := blk_frozen BK211.out 1
       have hfz58_2 := blk_frozen BK211.out 2
       have hfz58_3 := blk_frozen BK211.out 3
       have hnb59 := NB214_205.out
       have hnc59 := NB205_214.out
       have hcz60_0 : w52.cell? ⟨gb214, 0, none⟩ = some (.bool false) := (blk_cell BK214.out 0).trans rfl
       have hcz60_1 : w52.cell? ⟨gb214, 1, none⟩ = some (.string (⟨#[]⟩ : ByteArray)) := (blk_cell BK214.out 1).trans rfl
       have hcz60_2 : w52.cell? ⟨gb214, 2, none⟩ = some (.string (⟨#[]⟩ : ByteArray)) := (blk_cell BK214.out 2).trans rfl
       have hcz60_3 : w52.cell? ⟨gb214, 3, none⟩ = some (.int .i64 0) := (blk_cell BK214.out 3).trans rfl
       have hfz60_0 := blk_frozen BK214.out 0
       have hfz60_1 := blk_frozen BK214.out 1
       have hfz60_2 := blk_frozen BK214.out 2
       have hfz60_3 := blk_frozen BK214.out 3
       have hcz61_0 : w52.cell? ⟨gb205, 0, none⟩ = some (.bool false) := (blk_cell BK205.out 0).trans rfl
       have hcz61_1 : w52.cell? ⟨gb205, 1, none⟩ = some (.string (⟨#[]⟩ : ByteArray)) := (blk_cell BK205.out 1).trans rfl
       have hcz61_2 : w52.cell? ⟨gb205, 2, none⟩ = some (.string (⟨#[]⟩ : ByteArray)) := (blk_cell BK205.out 2).trans rfl
       have hcz61_3 : w52.cell? ⟨gb205, 3, none⟩ = some (.int .i64 0) := (blk_cell BK205.out 3).trans rfl
       have hfz61_0 := blk_frozen BK205.out 0
       have hfz61_1 := blk_frozen BK205.out 1
       have hfz61_2 := blk_frozen BK205.out 2
       have hfz61_3 := blk_frozen BK205.out 3
       try go_wp2
       refine bodyPost_ret (results_cell_row rfl _ _ gb205 25 #[.bool false, .string ((t207.extract 0 (t208 : Int).toNat).extract (t212 : Int).toNat t208.toNat), .string t213, .int .i64 t210] (0, 0) _ rfl (by (with_reducible repeat (first | refine blk_drewN ?_ _ | refine blk_drew ?_ | refine blk_alloc ?_ _)); refine blk_put (cs := #[.bool false, .string ((t207.extract 0 (t208 : Int).toNat).extract (t212 : Int).toNat t208.toNat), .string t213, .int .i64 0]) ?_ 3 _ rfl; (with_reducible repeat (first | refine blk_drewN ?_ _ | refine blk_drew ?_ | refine blk_alloc ?_ _)); refine blk_put (cs := #[.bool false, .string ((t207.extract 0 (t208 : Int).toNat).extract (t212 : Int).toNat t208.toNat), .string (⟨#[]⟩ : ByteArray), .int .i64 0]) ?_ 2 _ rfl; (with_reducible repeat (first | refine blk_drewN ?_ _ | refine blk_drew ?_ | refine blk_alloc ?_ _)); refine blk_put (cs := #[.bool false, .string (⟨#[]⟩ : ByteArray), .string (⟨#[]⟩ : ByteArray), .int .i64 0]) ?_ 1 _ rfl; (with_reducible repeat (first | refine blk_drewN ?_ _ | refine blk_drew ?_ | refine blk_alloc ?_ _)); refine blk_put (cs := #[.bool false, .string (⟨#[]⟩ : ByteArray), .string (⟨#[]⟩ : ByteArray), .int .i64 0]) ?_ 0 _ rfl; (with_reducible repeat (first | refine blk_drewN ?_ _ | refine blk_drew ?_ | refine blk_alloc ?_ _)); refine blk_far ?_ NB205_214.out _; (with_reducible repeat (first | refine blk_drewN ?_ _ | refine blk_drew ?_ | refine blk_alloc ?_ _)); refine blk_far ?_ NB205_214.out _; (with_reducible repeat (first | refine blk_drewN ?_ _ | refine blk_drew ?_ | refine blk_alloc ?_ _)); refine blk_far ?_ NB205_214.out _; (with_reducible repeat (first | refine blk_drewN ?_ _ | refine blk_drew ?_ | refine blk_alloc ?_ _)); refine blk_far ?_ NB205_214.out _; (with_reducible repeat (first | refine blk_drewN ?_ _ | refine blk_drew ?_ | refine blk_alloc ?_ _)); refine blk_far ?_ NB205_214.out _; (with_reducible repeat (first | refine blk_drewN ?_ _ | refine blk_drew ?_ | refine blk_alloc ?_ _)); exact BK205.out) Tryd.underlying25 rfl (by kernel_rfl)) rfl ?_
       exact ⟨qnd5_, qnd29_⟩
     ·
      rw [if_neg c17] at H
      exact absurd H (by simp)
    ·
     rw [if_neg c16] at H
     exact absurd H (by simp)
   ·
    rw [if_neg c14] at H
    exact absurd H (by simp)
  ·
   rw [if_neg c13] at H
   exact absurd H (by simp)


/-! ### millref3_letter: function 40 -/
def millref3_letter.l0 : Nat → Int → Int → Option (Int)
 | 0, _, _ => none
 | k + 1, x0, x3 => if x3 < 10 then (if 0 ≤ x3 then (if (bt (⟨#[75, 77, 71, 84, 80, 69, 90, 89, 82, 81]⟩ : ByteArray) x3) = x0 then (some (wrap64 (x3 + 1))) else (millref3_letter.l0 k x0 (wrap64 (x3 + 1)))) else (none)) else (some 0)
def millref3_letter.f (k : Nat) (a0 : Int) : Option (Int) := if a0 = 107 then (some 1) else (millref3_letter.l0 k a0 0)
theorem millref3_letter.mono_l : ∀ k, (∀ y0 y1, LeO (millref3_letter.l0 k y0 y1) (millref3_letter.l0 (k + 1) y0 y1))
 | 0 => fun _ _ r h => by simp [millref3_letter.l0] at h
 | k + 1 => by
  have ih0 := millref3_letter.mono_l k
  ·
   intro y0 y1
   unfold millref3_letter.l0
   repeat' first
   | (with_reducible exact ih0 _ _)
   | (with_reducible exact LeO.refl _)
   | (with_reducible exact LeO.none _)
   | (with_reducible refine LeO.ite ?_ ?_)
   | (with_reducible refine LeO.bind ?_ (fun _ => ?_))
   | exact ih0 _ _
   | exact LeO.none _
   | refine LeO.ite ?_ ?_
   | refine LeO.bind ?_ (fun _ => ?_)
theorem millref3_letter.mono : ∀ a0 k, LeO (millref3_letter.f k a0) (millref3_letter.f (k + 1) a0) := by
 intro a0 k
 have ih0 := millref3_letter.mono_l k
 unfold millref3_letter.f
 repeat' first
   | (with_reducible exact ih0 _ _)
   | (with_reducible exact LeO.refl _)
   | (with_reducible exact LeO.none _)
   | (with_reducible refine LeO.ite ?_ ?_)
   | (with_reducible refine LeO.bind ?_ (fun _ => ?_))
   | exact ih0 _ _
   | exact LeO.none _
   | refine LeO.ite ?_ ?_
   | refine LeO.bind ?_ (fun _ => ?_)
set_option maxHeartbeats 8000000 in
set_option maxRecDepth 100000 in
theorem millref3_letter.calls (k : Nat) (a0 : Int) (r : Int) (w : World) (h : millref3_letter.f k a0 = some r) :
  Calls Tryd.prog 40 #[.int .u8 a0] w fun e w' => e = .returned (.int .i64 r) ∧ Drawn0 w w' := by
 have H : (if a0 = 107 then (some 1) else (millref3_letter.l0 k a0 0)) = some r := h
 clear h
 by_cases c2 : a0 = 107
 ·
  rw [if_pos c2] at H
  have c2b0 : (a0 == 107) = true := beq_iff_eq.mpr c2
  have c2b1 : (a0 != 107) = false := bne_eq_false_iff_eq.mpr c2
  clear c2
  obtain rfl := Option.some.inj H
  go_enter Tryd.func40, Tryd.ntmps40
  go_wp2
  go_ret
  exact ⟨qnd2_, qnd9_⟩
 ·
  rw [if_neg c2] at H
  have c2b0 : (a0 == 107) = false := beq_eq_false_iff_ne.mpr c2
  have c2b1 : (a0 != 107) = true := bne_iff_ne.mpr c2
  have H' := Aside0.mk H
  clear H
  go_enter Tryd.func40, Tryd.ntmps40
  go_wp2
  go_loopg [3] k (fun kq v3 w' => ∃ (x3_1 : Int), v3 = .int .i64 x3_1 ∧ Aside0 (millref3_letter.l0 kq a0 x3_1 = some r) ∧ Aside0 (kq ≤ k) ∧ Drawn0 w w')
  case atStart => exact ⟨(0), qnd2_, H', ⟨Nat.le_refl _⟩, qnd9_⟩
  case round =>
   clear H'
   (try clear c2); (try clear c2b0); (try clear c2b1); (try clear p2)
   obtain ⟨x3_1, rfl, HA, HK1, ⟨m1, rfl⟩⟩ := hrel
   cases gk with
   | zero => exact absurd HA.out (by simp [millref3_letter.l0])
   | succ k1 =>
    have H := HA.out
    clear HA
    simp only [millref3_letter.l0] at H
    by_cases c3 : x3_1 < 10
    ·
     rw [if_pos c3] at H
     have c3b0 : decide (x3_1 < 10) = true := decide_eq_true c3
     clear c3
     by_cases c4 : 0 ≤ x3_1
     ·
      rw [if_pos c4] at H
      have c4b0 : decide (0 ≤ x3_1) = true := decide_eq_true c4
      clear c4
      by_cases c6 : (bt (⟨#[75, 77, 71, 84, 80, 69, 90, 89, 82, 81]⟩ : ByteArray) x3_1) = a0
      ·
       rw [if_pos c6] at H
       have c6b0 : ((bt (⟨#[75, 77, 71, 84, 80, 69, 90, 89, 82, 81]⟩ : ByteArray) x3_1) == a0) = true := beq_iff_eq.mpr c6
       have c6b1 : ((bt (⟨#[75, 77, 71, 84, 80, 69, 90, 89, 82, 81]⟩ : ByteArray) x3_1) != a0) = false := bne_eq_false_iff_eq.mpr c6
       clear c6
       obtain rfl := Option.some.inj H
       have p5 : 0 ≤ (x3_1 : Int) := of_decide_eq_true qnd3_
       have q5 : x3_1 < (10 : Int) := of_decide_eq_true qnd3_
       have hx5 := bt_at (⟨#[75, 77, 71, 84, 80, 69, 90, 89, 82, 81]⟩ : ByteArray) x3_1
       replace p5 := eq_true p5
       replace q5 := eq_true q5
       go_wp2
       go_ret
       exact ⟨qnd2_, qnd9_⟩
      ·
       rw [if_neg c6] at H
       have c6b0 : ((bt (⟨#[75, 77, 71, 84, 80, 69, 90, 89, 82, 81]⟩ : ByteArray) x3_1) == a0) = false := beq_eq_false_iff_ne.mpr c6
       have c6b1 : ((bt (⟨#[75, 77, 71, 84, 80, 69, 90, 89, 82, 81]⟩ : ByteArray) x3_1) != a0) = true := bne_iff_ne.mpr c6
       have H' := Aside0.mk H
       clear H
       have p5 : 0 ≤ (x3_1 : Int) := of_decide_eq_true qnd3_
       have q5 : x3_1 < (10 : Int) := of_decide_eq_true qnd3_
       have hx5 := bt_at (⟨#[75, 77, 71, 84, 80, 69, 90, 89, 82, 81]⟩ : ByteArray) x3_1
       replace p5 := eq_true p5
       replace q5 := eq_true q5
       go_wp2
       go_roundg k1
       case measure => have := HK1.out; omega
       case rel => exact ⟨(wrap64 (x3_1 + 1)), qnd2_, H', ⟨by have := HK1.out; omega⟩, qnd9_⟩
     ·
      rw [if_neg c4] at H
      exact absurd H (by simp)
    ·
     rw [if_neg c3] at H
     have c3b0 : decide (x3_1 < 10) = false := decide_eq_false c3
     clear c3
     obtain rfl := Option.some.inj H
     go_wp2
     go_ret
     exact ⟨qnd2_, qnd9_⟩


/-! ### millref3_Human: function 21 -/
mutual
def millref3_Human.j0 : Nat → ByteArray → Int → Bool → Bool → ByteArray → ByteArray → Int → Option (Bool × ByteArray × ByteArray × Int × Int)
 | 0, _, _, _, _, _, _, _ => none
 | k + 1, x0, x5, x17, x221000, x221001, x221002, x221003 => if x17 = true then (if 0 ≤ x221003 then (if x221003 < (x0.size : Int) then ((millref3_letter.f k (bt x0 x221003)).bind fun t221 => (millref3_Human.j1 k t221 x221000 x221001 x221002 x221003)) else (none)) else (none)) else (millref3_Human.j1 k x5 x221000 x221001 x221002 x221003)
def millref3_Human.j1 : Nat → Int → Bool → ByteArray → ByteArray → Int → Option (Bool × ByteArray × ByteArray × Int × Int)
 | 0, _, _, _, _, _ => none
 | k + 1, x5, x221000, x221001, x221002, x221003 => if x5 > 0 then (if x221001.size + x221002.size ≤ 9223372036854775807 then (if (x221001 ++ x221002).toList = ([] : List UInt8) then (some (x221000, x221001, x221002, wrap64 (x221003 + 1), 0)) else (some (x221000, x221001, x221002, wrap64 (x221003 + 1), x5))) else (none)) else (if x221001.size + x221002.size ≤ 9223372036854775807 then (if (x221001 ++ x221002).toList = ([] : List UInt8) then (some (x221000, x221001, x221002, x221003, 0)) else (some (x221000, x221001, x221002, x221003, x5))) else (none))
end
def millref3_Human.f (k : Nat) (a0 : ByteArray) : Option (Bool × ByteArray × ByteArray × Int × Int) := (millref3_Decimal.f k a0).bind fun bt216 => (if bt216.2.2.2 > 0 then (millref3_Human.j0 k a0 0 (decide (bt216.2.2.2 < (a0.size : Int))) bt216.1 bt216.2.1 bt216.2.2.1 bt216.2.2.2) else (millref3_Human.j0 k a0 0 false bt216.1 bt216.2.1 bt216.2.2.1 bt216.2.2.2))
set_option maxHeartbeats 8000000 in
set_option maxRecDepth 100000 in
theorem millref3_Human.calls (k : Nat) (a0 : ByteArray) (r1 : Bool) (r2 : ByteArray) (r3 : ByteArray) (r4 : Int) (r5 : Int) (w : World) (h : millref3_Human.f k a0 = some (r1, r2, r3, r4, r5)) :
  Calls Tryd.prog 21 #[.string a0] w fun e w' => e = .returned (.tuple #[.agg #[.bool r1, .string r2, .string r3, .int .i64 r4], .int .i64 r5]) ∧ Below w.heap.size w w' := by
 have hu25 := Tryd.underlying25
 have HB := Aside0.mk (Below.refl w.heap.size w)
 have H : ((millref3_Decimal.f k a0).bind fun bt216 => (if bt216.2.2.2 > 0 then (millref3_Human.j0 k a0 0 (decide (bt216.2.2.2 < (a0.size : Int))) bt216.1 bt216.2.1 bt216.2.2.1 bt216.2.2.2) else (millref3_Human.j0 k a0 0 false bt216.1 bt216.2.1 bt216.2.2.1 bt216.2.2.2))) = some (r1, r2, r3, r4, r5) := h
 clear h
 replace H := Option.bind_eq_some_iff.mp H
 obtain ⟨⟨t216, t217, t218, t219⟩, A20, H⟩ := H
 replace H : (if t219 > 0 then (millref3_Human.j0 k a0 0 (decide (t219 < (a0.size : Int))) t216 t217 t218 t219) else (millref3_Human.j0 k a0 0 false t216 t217 t218 t219)) = some (r1, r2, r3, r4, r5) := H
 have A2 := Aside0.mk A20
 clear A20
 have HC3 := Aside0.mk H
 clear H
 go_enter Tryd.func21, Tryd.ntmps21
 have tk9 : True := trivial; have tk10 : True := trivial; have tk11 : True := trivial
 go_upto_region 3 with (first | (have ztk9 := tk9; clear tk9 ztk9; (with_reducible refine gate_dst (N := 2) rfl ?_); (try (refine gate_guard (by rfl) ?_; dsimp only)); refine box_event ?hg (N := 2) ?hd (cs := #[.bool false, .string (⟨#[]⟩ : ByteArray), .string (⟨#[]⟩ : ByteArray), .int .i64 0]) (t := 25) ?hr ?_; (case hd => rfl); (case hg => rfl); (case hr => first | (go_simp; done) | (go_simp; rfl)); intro gb215 hg w4 hbox hb; have n0_ := Aside0.mk (below_step qnd1_ hb); have n1_ := Aside0.mk (hbox); have n2_ := Aside0.mk ((by rw [hg]; exact (below_size qnd1_) : w.heap.size ≤ gb215)); have n3_ := Aside0.mk ((by rw [hg]; exact (below_size qnd1_) : w.heap.size ≤ gb215)); clear HB; have HB := n0_; have BK215 := n1_; have GW215 := n2_; have GE215 := n3_; clear n0_ n1_ n2_ n3_; clear hb hbox hg) | (have ztk10 := tk10; clear tk10 ztk10; (with_reducible refine gate_callee (f := 22) rfl ?_); refine goesL_ (some 7) rfl rfl Tryd.func22 (by kernel_rfl) rfl #[.string a0] rfl qnd0_ ?_; (with_reducible refine (millref3_Decimal.calls k a0 t216 t217 t218 t219 _ A2.out).mono ?_); rintro e w5 ⟨rfl, hb⟩; refine ⟨_, rfl, ?_⟩; have n0_ := Aside0.mk (blk_below (g := gb215) (o := .cells #[.bool false, .string (⟨#[]⟩ : ByteArray), .string (⟨#[]⟩ : ByteArray), .int .i64 0] 25 (0, 0)) qnd51_ hb); have n1_ := Aside0.mk (below_step qnd55_ hb); clear BK215; clear HB; have BK215 := n0_; have HB := n1_; clear n0_ n1_; (try clear hb); (try clear hb2); (try clear hk); (try clear hi)) | (have ztk11 := tk11; clear tk11 ztk11; (with_reducible refine gate_dst (N := 4) rfl ?_); (try (refine gate_guard (by rfl) ?_; dsimp only)); refine box_event ?hg (N := 4) ?hd (cs := #[.bool false, .string (⟨#[]⟩ : ByteArray), .string (⟨#[]⟩ : ByteArray), .int .i64 0]) (t := 25) ?hr ?_; (case hd => rfl); (case hg => rfl); (case hr => first | (go_simp; done) | (go_simp; rfl)); intro gb220 hg w6 hbox hb; have n0_ := Aside0.mk (blk_below (g := gb215) (o := .cells #[.bool false, .string (⟨#[]⟩ : ByteArray), .string (⟨#[]⟩ : ByteArray), .int .i64 0] 25 (0, 0)) qnd51_ hb); have n1_ := Aside0.mk (below_step qnd55_ hb); have n2_ := Aside0.mk (hbox); have n3_ := Aside0.mk ((by rw [hg]; exact (below_size qnd55_) : w.heap.size ≤ gb220)); have n4_ := Aside0.mk ((by rw [hg]; exact (below_size qnd55_) : w.heap.size ≤ gb220)); have n5_ := Aside0.mk ((by rw [hg]; exact Nat.ne_of_lt (blk_lt (g := gb215) (o := .cells #[.bool false, .string (⟨#[]⟩ : ByteArray), .string (⟨#[]⟩ : ByteArray), .int .i64 0] 25 (0, 0)) qnd51_) : gb215 ≠ gb220)); have n6_ := Aside0.mk ((by rw [hg]; exact Nat.ne_of_gt (blk_lt (g := gb215) (o := .cells #[.bool false, .string (⟨#[]⟩ : ByteArray), .string (⟨#[]⟩ : ByteArray), .int .i64 0] 25 (0, 0)) qnd51_) : gb220 ≠ gb215)); clear BK215; clear HB; have BK215 := n0_; have HB := n1_; have BK220 := n2_; have GW220 := n3_; have GE220 := n4_; have NB215_220 := n5_; have NB220_215 := n6_; clear n0_ n1_ n2_ n3_ n4_ n5_ n6_; clear hb hbox hg; have hnb7 := NB220_215.out; have hnc7 := NB215_220.out; have hcz8_0 : w6.cell? ⟨gb220, 0, none⟩ = some (.bool false) := (blk_cell BK220.out 0).trans rfl; have hcz8_1 : w6.cell? ⟨gb220, 1, none⟩ = some (.string (⟨#[]⟩ : ByteArray)) := (blk_cell BK220.out 1).trans rfl; have hcz8_2 : w6.cell? ⟨gb220, 2, none⟩ = some (.string (⟨#[]⟩ : ByteArray)) := (blk_cell BK220.out 2).trans rfl; have hcz8_3 : w6.cell? ⟨gb220, 3, none⟩ = some (.int .i64 0) := (blk_cell BK220.out 3).trans rfl; have hfz8_0 := blk_frozen BK220.out 0; have hfz8_1 := blk_frozen BK220.out 1; have hfz8_2 := blk_frozen BK220.out 2; have hfz8_3 := blk_frozen BK220.out 3))
 (try simp only [Act.put, List.setIfInBounds_toArray, List.set_cons_zero, List.set_cons_succ])
 go_cut [17] (fun v17 wc => ∃ (kq : Nat) (x17_2 : Bool), v17 = .bool x17_2 ∧ Aside0 (millref3_Human.j0 kq a0 0 x17_2 t216 t217 t218 t219 = some (r1, r2, r3, r4, r5)) ∧ Aside0 (kq ≤ k) ∧ Aside0 (wc.heap[gb215]? = some (.cells #[.bool false, .string (⟨#[]⟩ : ByteArray), .string (⟨#[]⟩ : ByteArray), .int .i64 0] 25 (0, 0))) ∧ Aside0 (wc.heap[gb220]? = some (.cells #[.bool t216, .string t217, .string t218, .int .i64 t219] 25 (0, 0))) ∧ Aside0 (Below w.heap.size w wc))
 case first =>
  have H := HC3.out
  clear HC3
  by_cases c12 : t219 > 0
  ·
   rw [if_pos c12] at H
   have c12b0 : decide (0 < t219) = true := decide_eq_true c12
   clear c12
   (first | rw [c12b0] | (simp only [i64_w, i32_w]; rw [c12b0]) | skip)
   have H' := Aside0.mk H
   clear H
   have hnb13 := NB220_215.out
   have hnc13 := NB215_220.out
   have hcz14_0 : w6.cell? ⟨gb220, 0, none⟩ = some (.bool false) := (blk_cell BK220.out 0).trans rfl
   have hcz14_1 : w6.cell? ⟨gb220, 1, none⟩ = some (.string (⟨#[]⟩ : ByteArray)) := (blk_cell BK220.out 1).trans rfl
   have hcz14_2 : w6.cell? ⟨gb220, 2, none⟩ = some (.string (⟨#[]⟩ : ByteArray)) := (blk_cell BK220.out 2).trans rfl
   have hcz14_3 : w6.cell? ⟨gb220, 3, none⟩ = some (.int .i64 0) := (blk_cell BK220.out 3).trans rfl
   have hfz14_0 := blk_frozen BK220.out 0
   have hfz14_1 := blk_frozen BK220.out 1
   have hfz14_2 := blk_frozen BK220.out 2
   have hfz14_3 := blk_frozen BK220.out 3
   go_wp2
   go_meet
   case rel => exact ⟨_, (decide (t219 < (a0.size : Int))), qnd2_, H', ⟨by first | omega | exact Nat.le_refl _⟩, ⟨by (with_reducible repeat (first | refine blk_drewN ?_ _ | refine blk_drew ?_ | refine blk_alloc ?_ _)); refine blk_far ?_ NB215_220.out _; (with_reducible repeat (first | refine blk_drewN ?_ _ | refine blk_drew ?_ | refine blk_alloc ?_ _)); refine blk_far ?_ NB215_220.out _; (with_reducible repeat (first | refine blk_drewN ?_ _ | refine blk_drew ?_ | refine blk_alloc ?_ _)); refine blk_far ?_ NB215_220.out _; (with_reducible repeat (first | refine blk_drewN ?_ _ | refine blk_drew ?_ | refine blk_alloc ?_ _)); refine blk_far ?_ NB215_220.out _; (with_reducible repeat (first | refine blk_drewN ?_ _ | refine blk_drew ?_ | refine blk_alloc ?_ _)); exact BK215.out⟩, ⟨by (with_reducible repeat (first | refine blk_drewN ?_ _ | refine blk_drew ?_ | refine blk_alloc ?_ _)); refine blk_put (cs := #[.bool t216, .string t217, .string t218, .int .i64 0]) ?_ 3 _ rfl; (with_reducible repeat (first | refine blk_drewN ?_ _ | refine blk_drew ?_ | refine blk_alloc ?_ _)); refine blk_put (cs := #[.bool t216, .string t217, .string (⟨#[]⟩ : ByteArray), .int .i64 0]) ?_ 2 _ rfl; (with_reducible repeat (first | refine blk_drewN ?_ _ | refine blk_drew ?_ | refine blk_alloc ?_ _)); refine blk_put (cs := #[.bool t216, .string (⟨#[]⟩ : ByteArray), .string (⟨#[]⟩ : ByteArray), .int .i64 0]) ?_ 1 _ rfl; (with_reducible repeat (first | refine blk_drewN ?_ _ | refine blk_drew ?_ | refine blk_alloc ?_ _)); refine blk_put (cs := #[.bool false, .string (⟨#[]⟩ : ByteArray), .string (⟨#[]⟩ : ByteArray), .int .i64 0]) ?_ 0 _ rfl; (with_reducible repeat (first | refine blk_drewN ?_ _ | refine blk_drew ?_ | refine blk_alloc ?_ _)); exact BK220.out⟩, ⟨qnd32_⟩⟩
  ·
   rw [if_neg c12] at H
   have c12b0 : decide (0 < t219) = false := decide_eq_false c12
   clear c12
   (first | rw [c12b0] | (simp only [i64_w, i32_w]; rw [c12b0]) | skip)
   have H' := Aside0.mk H
   clear H
   have hnb15 := NB220_215.out
   have hnc15 := NB215_220.out
   have hcz16_0 : w6.cell? ⟨gb220, 0, none⟩ = some (.bool false) := (blk_cell BK220.out 0).trans rfl
   have hcz16_1 : w6.cell? ⟨gb220, 1, none⟩ = some (.string (⟨#[]⟩ : ByteArray)) := (blk_cell BK220.out 1).trans rfl
   have hcz16_2 : w6.cell? ⟨gb220, 2, none⟩ = some (.string (⟨#[]⟩ : ByteArray)) := (blk_cell BK220.out 2).trans rfl
   have hcz16_3 : w6.cell? ⟨gb220, 3, none⟩ = some (.int .i64 0) := (blk_cell BK220.out 3).trans rfl
   have hfz16_0 := blk_frozen BK220.out 0
   have hfz16_1 := blk_frozen BK220.out 1
   have hfz16_2 := blk_frozen BK220.out 2
   have hfz16_3 := blk_frozen BK220.out 3
   go_wp2
   go_meet
   case rel => exact ⟨_, (false), qnd2_, H', ⟨by first | omega | exact Nat.le_refl _⟩, ⟨by (with_reducible repeat (first | refine blk_drewN ?_ _ | refine blk_drew ?_ | refine blk_alloc ?_ _)); refine blk_far ?_ NB215_220.out _; (with_reducible repeat (first | refine blk_drewN ?_ _ | refine blk_drew ?_ | refine blk_alloc ?_ _)); refine blk_far ?_ NB215_220.out _; (with_reducible repeat (first | refine blk_drewN ?_ _ | refine blk_drew ?_ | refine blk_alloc ?_ _)); refine blk_far ?_ NB215_220.out _; (with_reducible repeat (first | refine blk_drewN ?_ _ | refine blk_drew ?_ | refine blk_alloc ?_ _)); refine blk_far ?_ NB215_220.out _; (with_reducible repeat (first | refine blk_drewN ?_ _ | refine blk_drew ?_ | refine blk_alloc ?_ _)); exact BK215.out⟩, ⟨by (with_reducible repeat (first | refine blk_drewN ?_ _ | refine blk_drew ?_ | refine blk_alloc ?_ _)); refine blk_put (cs := #[.bool t216, .string t217, .string t218, .int .i64 0]) ?_ 3 _ rfl; (with_reducible repeat (first | refine blk_drewN ?_ _ | refine blk_drew ?_ | refine blk_alloc ?_ _)); refine blk_put (cs := #[.bool t216, .string t217, .string (⟨#[]⟩ : ByteArray), .int .i64 0]) ?_ 2 _ rfl; (with_reducible repeat (first | refine blk_drewN ?_ _ | refine blk_drew ?_ | refine blk_alloc ?_ _)); refine blk_put (cs := #[.bool t216, .string (⟨#[]⟩ : ByteArray), .string (⟨#[]⟩ : ByteArray), .int .i64 0]) ?_ 1 _ rfl; (with_reducible repeat (first | refine blk_drewN ?_ _ | refine blk_drew ?_ | refine blk_alloc ?_ _)); refine blk_put (cs := #[.bool false, .string (⟨#[]⟩ : ByteArray), .string (⟨#[]⟩ : ByteArray), .int .i64 0]) ?_ 0 _ rfl; (with_reducible repeat (first | refine blk_drewN ?_ _ | refine blk_drew ?_ | refine blk_alloc ?_ _)); exact BK220.out⟩, ⟨qnd32_⟩⟩
 case rest =>
  clear HC3
  (try clear c1); (try clear c2); (try clear p2); (try clear c7); (try clear c12); (try clear c12b0); (try clear c13); (try clear c15); (try clear hcz14_0); (try clear hcz14_1); (try clear hcz14_2); (try clear hcz14_3); (try clear hcz16_0); (try clear hcz16_1); (try clear hcz16_2); (try clear hcz16_3); (try clear hcz8_0); (try clear hcz8_1); (try clear hcz8_2); (try clear hcz8_3); (try clear hfz14_0)
  (try clear hfz14_1); (try clear hfz14_2); (try clear hfz14_3); (try clear hfz16_0); (try clear hfz16_1); (try clear hfz16_2); (try clear hfz16_3); (try clear hfz8_0); (try clear hfz8_1); (try clear hfz8_2); (try clear hfz8_3)
  obtain ⟨kq, x17_2, rfl, HA, HJ2, BK215, BK220, HB⟩ := hcut
  cases kq with
  | zero => exact absurd HA.out (by simp [millref3_Human.j0])
  | succ kj2 =>
   have H := HA.out
   clear HA
   simp only [millref3_Human.j0] at H
   have HC17 := Aside0.mk H
   clear H
   go_upto_if 17 with (fail)
   go_cut [5] (fun v5 wc => ∃ (kq : Nat) (x5_16 : Int), v5 = .int .i64 x5_16 ∧ Aside0 (millref3_Human.j1 kq x5_16 t216 t217 t218 t219 = some (r1, r2, r3, r4, r5)) ∧ Aside0 (kq ≤ kj2) ∧ Aside0 (wc.heap[gb215]? = some (.cells #[.bool false, .string (⟨#[]⟩ : ByteArray), .string (⟨#[]⟩ : ByteArray), .int .i64 0] 25 (0, 0))) ∧ Aside0 (wc.heap[gb220]? = some (.cells #[.bool t216, .string t217, .string t218, .int .i64 t219] 25 (0, 0))) ∧ Aside0 (Below w.heap.size w wc))
   case first =>
    have H := HC17.out
    clear HC17
    by_cases c18 : x17_2 = true
    ·
     subst c18
     have H1 : (if 0 ≤ t219 then (if t219 < (a0.size : Int) then ((millref3_letter.f kj2 (bt a0 t219)).bind fun t221 => (millref3_Human.j1 kj2 t221 t216 t217 t218 t219)) else (none)) else (none)) = some (r1, r2, r3, r4, r5) := by rw [if_pos rfl] at H; exact H
     clear H
     have H := H1
     clear H1
     by_cases c19 : 0 ≤ t219
     ·
      rw [if_pos c19] at H
      have c19b0 : decide (0 ≤ t219) = true := decide_eq_true c19
      clear c19
      (first | rw [c19b0] | (simp only [i64_w, i32_w]; rw [c19b0]) | skip)
      by_cases c20 : t219 < (a0.size : Int)
      ·
       rw [if_pos c20] at H
       have c20b0 : decide (t219 < (a0.size : Int)) = true := decide_eq_true c20
       clear c20
       replace H := Option.bind_eq_some_iff.mp H
       obtain ⟨t221, A220, H⟩ := H
       replace H : (millref3_Human.j1 kj2 t221 t216 t217 t218 t219) = some (r1, r2, r3, r4, r5) := H
       have A22 := Aside0.mk A220
       clear A220
       have H' := Aside0.mk H
       clear H
       have hnb23 := NB220_215.out
       have hnc23 := NB215_220.out
       have hcz24_0 : wc.cell? ⟨gb220, 0, none⟩ = some (.bool t216) := (blk_cell BK220.out 0).trans rfl
       have hcz24_1 : wc.cell? ⟨gb220, 1, none⟩ = some (.string t217) := (blk_cell BK220.out 1).trans rfl
       have hcz24_2 : wc.cell? ⟨gb220, 2, none⟩ = some (.string t218) := (blk_cell BK220.out 2).trans rfl
       have hcz24_3 : wc.cell? ⟨gb220, 3, none⟩ = some (.int .i64 t219) := (blk_cell BK220.out 3).trans rfl
       have hfz24_0 := blk_frozen BK220.out 0
       have hfz24_1 := blk_frozen BK220.out 1
       have hfz24_2 := blk_frozen BK220.out 2
       have hfz24_3 := blk_frozen BK220.out 3
       have p21 : 0 ≤ (t219 : Int) := of_decide_eq_true qnd3_
       have q21 : t219 < (a0.size : Int) := of_decide_eq_true qnd3_
       have hx21 := bt_at a0 t219
       replace p21 := eq_true p21
       replace q21 := eq_true q21
       go_wp2_with (first | ((with_reducible refine gate_callee (f := 40) rfl ?_); refine goesL_ (some 22) rfl rfl Tryd.func40 (by kernel_rfl) rfl #[.int .u8 (bt a0 t219)] rfl qnd0_ ?_; (with_reducible refine (millref3_letter.calls kj2 (bt a0 t219) t221 _ A22.out).mono ?_); rintro e w' ⟨rfl, ⟨nd, rfl⟩⟩; refine ⟨_, rfl, ?_⟩))
       go_meet
       case rel => exact ⟨_, (t221), qnd2_, H', ⟨by have := HJ2.out; first | omega | exact Nat.le_refl _⟩, ⟨qnd51_⟩, ⟨by (with_reducible repeat (first | refine blk_drewN ?_ _ | refine blk_drew ?_ | refine blk_alloc ?_ _)); exact BK220.out⟩, ⟨qnd32_⟩⟩
      ·
       rw [if_neg c20] at H
       exact absurd H (by simp)
     ·
      rw [if_neg c19] at H
      exact absurd H (by simp)
    ·
     replace c18 := Bool.eq_false_iff.mpr c18
     subst c18
     have H1 : (millref3_Human.j1 kj2 0 t216 t217 t218 t219) = some (r1, r2, r3, r4, r5) := by rw [if_neg (show ¬ (false = true) by decide)] at H; exact H
     clear H
     have H := H1
     clear H1
     have H' := Aside0.mk H
     clear H
     go_wp2
     go_meet
     case rel => exact ⟨_, (0), qnd2_, H', ⟨by have := HJ2.out; first | omega | exact Nat.le_refl _⟩, ⟨qnd51_⟩, ⟨by (with_reducible repeat (first | refine blk_drewN ?_ _ | refine blk_drew ?_ | refine blk_alloc ?_ _)); exact BK220.out⟩, ⟨qnd32_⟩⟩
   case rest =>
    clear HC17
    (try clear c1); (try clear c2); (try clear p2); (try clear q2); (try clear hx2); (try clear c4); (try clear c7); (try clear c12); (try clear c12b0); (try clear c13); (try clear c15); (try clear c18); (try clear c19); (try clear c19b0); (try clear c20); (try clear c20b0); (try clear c21); (try clear p21); (try clear q21); (try clear hx21); (try clear c22); (try clear c23); (try clear hcz14_0); (try clear hcz14_1)
    (try clear hcz14_2); (try clear hcz14_3); (try clear hcz16_0); (try clear hcz16_1); (try clear hcz16_2); (try clear hcz16_3); (try clear hcz24_0); (try clear hcz24_1); (try clear hcz24_2); (try clear hcz24_3); (try clear hcz8_0); (try clear hcz8_1); (try clear hcz8_2); (try clear hcz8_3); (try clear hfz14_0); (try clear hfz14_1); (try clear hfz14_2); (try clear hfz14_3); (try clear hfz16_0); (try clear hfz16_1)
    (try clear hfz16_2); (try clear hfz16_3); (try clear hfz24_0); (try clear hfz24_1); (try clear hfz24_2); (try clear hfz24_3); (try clear hfz8_0); (try clear hfz8_1); (try clear hfz8_2); (try clear hfz8_3); (try clear p2); (try clear p21); (try clear q21)
    obtain ⟨kq, x5_16, rfl, HA, HJ16, BK215, BK220, HB⟩ := hcut
    cases kq with
    | zero => exact absurd HA.out (by simp [millref3_Human.j1])
    | succ kj16 =>
     have H := HA.out
     clear HA
     simp only [millref3_Human.j1] at H
     by_cases c25 : x5_16 > 0
     ·
      rw [if_pos c25] at H
      have c25b0 : decide (0 < x5_16) = true := decide_eq_true c25
      clear c25
      by_cases c26 : t217.size + t218.size ≤ 9223372036854775807
      ·
       rw [if_pos c26] at H
       have c26b0 := eq_true c26
       have c26b1 : decide (t217.size + t218.size ≤ 9223372036854775807) = true := decide_eq_true c26
       try have c26b2 : (9223372036854775807 < t217.size + t218.size) = False := eq_false (Nat.not_lt.2 c26)
       by_cases c27 : (t217 ++ t218).toList = ([] : List UInt8)
       ·
        rw [if_pos c27] at H
        have c27b0 : ((t217 ++ t218).toList == ([] : List UInt8)) = true := beq_iff_eq.mpr c27
        have c27b1 : ((t217 ++ t218).toList != ([] : List UInt8)) = false := bne_eq_false_iff_eq.mpr c27
        clear c27
        simp only [Option.some.injEq, Prod.mk.injEq] at H
        obtain ⟨rfl, rfl, rfl, rfl, rfl⟩ := H
        have hnb28 := NB220_215.out
        have hnc28 := NB215_220.out
        have hcz29_0 : wc.cell? ⟨gb220, 0, none⟩ = some (.bool t216) := (blk_cell BK220.out 0).trans rfl
        have hcz29_1 : wc.cell? ⟨gb220, 1, none⟩ = some (.string t217) := (blk_cell BK220.out 1).trans rfl
        have hcz29_2 : wc.cell? ⟨gb220, 2, none⟩ = some (.string t218) := (blk_cell BK220.out 2).trans rfl
        have hcz29_3 : wc.cell? ⟨gb220, 3, none⟩ = some (.int .i64 t219) := (blk_cell BK220.out 3).trans rfl
        have hfz29_0 := blk_frozen BK220.out 0
        have hfz29_1 := blk_frozen BK220.out 1
        have hfz29_2 := blk_frozen BK220.out 2
        have hfz29_3 := blk_frozen BK220.out 3
        have hcz30_0 : wc.cell? ⟨gb215, 0, none⟩ = some (.bool false) := (blk_cell BK215.out 0).trans rfl
        have hcz30_1 : wc.cell? ⟨gb215, 1, none⟩ = some (.string (⟨#[]⟩ : ByteArray)) := (blk_cell BK215.out 1).trans rfl
        have hcz30_2 : wc.cell? ⟨gb215, 2, none⟩ = some (.string (⟨#[]⟩ : ByteArray)) := (blk_cell BK215.out 2).trans rfl
        have hcz30_3 : wc.cell? ⟨gb215, 3, none⟩ = some (.int .i64 0) := (blk_cell BK215.out 3).trans rfl
        have hfz30_0 := blk_frozen BK215.out 0
        have hfz30_1 := blk_frozen BK215.out 1
        have hfz30_2 := blk_frozen BK215.out 2
        have hfz30_3 := blk_frozen BK215.out 3
        go_wp2
        refine bodyPost_ret (results_ct rfl _ _ gb215 25 #[.bool t216, .string t217, .string t218, .int .i64 (wrap64 (t219 + 1))] (0, 0) _ rfl (by (with_reducible repeat (first | refine blk_drewN ?_ _ | refine blk_drew ?_ | refine blk_alloc ?_ _)); refine blk_put (cs := #[.bool t216, .string t217, .string t218, .int .i64 0]) ?_ 3 _ rfl; (with_reducible repeat (first | refine blk_drewN ?_ _ | refine blk_drew ?_ | refine blk_alloc ?_ _)); refine blk_put (cs := #[.bool t216, .string t217, .string (⟨#[]⟩ : ByteArray), .int .i64 0]) ?_ 2 _ rfl; (with_reducible repeat (first | refine blk_drewN ?_ _ | refine blk_drew ?_ | refine blk_alloc ?_ _)); refine blk_put (cs := #[.bool t216, .string (⟨#[]⟩ : ByteArray), .string (⟨#[]⟩ : ByteArray), .int .i64 0]) ?_ 1 _ rfl; (with_reducible repeat (first | refine blk_drewN ?_ _ | refine blk_drew ?_ | refine blk_alloc ?_ _)); refine blk_put (cs := #[.bool false, .string (⟨#[]⟩ : ByteArray), .string (⟨#[]⟩ : ByteArray), .int .i64 0]) ?_ 0 _ rfl; (with_reducible repeat (first | refine blk_drewN ?_ _ | refine blk_drew ?_ | refine blk_alloc ?_ _)); refine blk_far ?_ NB215_220.out _; (with_reducible repeat (first | refine blk_drewN ?_ _ | refine blk_drew ?_ | refine blk_alloc ?_ _)); exact BK215.out) Tryd.underlying25 rfl (by kernel_rfl)) rfl ?_
        exact ⟨qnd5_, qnd32_⟩
       ·
        rw [if_neg c27] at H
        have c27b0 : ((t217 ++ t218).toList == ([] : List UInt8)) = false := beq_eq_false_iff_ne.mpr c27
        have c27b1 : ((t217 ++ t218).toList != ([] : List UInt8)) = true := bne_iff_ne.mpr c27
        simp only [Option.some.injEq, Prod.mk.injEq] at H
        obtain ⟨rfl, rfl, rfl, rfl, rfl⟩ := H
        have hnb31 := NB220_215.out
        have hnc31 := NB215_220.out
        have hcz32_0 : wc.cell? ⟨gb220, 0, none⟩ = some (.bool t216) := (blk_cell BK220.out 0).trans rfl
        have hcz32_1 : wc.cell? ⟨gb220, 1, none⟩ = some (.string t217) := (blk_cell BK220.out 1).trans rfl
        have hcz32_2 : wc.cell? ⟨gb220, 2, none⟩ = some (.string t218) := (blk_cell BK220.out 2).trans rfl
        have hcz32_3 : wc.cell? ⟨gb220, 3, none⟩ = some (.int .i64 t219) := (blk_cell BK220.out 3).trans rfl
        have hfz32_0 := blk_frozen BK220.out 0
        have hfz32_1 := blk_frozen BK220.out 1
        have hfz32_2 := blk_frozen BK220.out 2
        have hfz32_3 := blk_frozen BK220.out 3
        have hcz33_0 : wc.cell? ⟨gb215, 0, none⟩ = some (.bool false) := (blk_cell BK215.out 0).trans rfl
        have hcz33_1 : wc.cell? ⟨gb215, 1, none⟩ = some (.string (⟨#[]⟩ : ByteArray)) := (blk_cell BK215.out 1).trans rfl
        have hcz33_2 : wc.cell? ⟨gb215, 2, none⟩ = some (.string (⟨#[]⟩ : ByteArray)) := (blk_cell BK215.out 2).trans rfl
        have hcz33_3 : wc.cell? ⟨gb215, 3, none⟩ = some (.int .i64 0) := (blk_cell BK215.out 3).trans rfl
        have hfz33_0 := blk_frozen BK215.out 0
        have hfz33_1 := blk_frozen BK215.out 1
        have hfz33_2 := blk_frozen BK215.out 2
        have hfz33_3 := blk_frozen BK215.out 3
        go_wp2
        refine bodyPost_ret (results_ct rfl _ _ gb215 25 #[.bool t216, .string t217, .string t218, .int .i64 (wrap64 (t219 + 1))] (0, 0) _ rfl (by (with_reducible repeat (first | refine blk_drewN ?_ _ | refine blk_drew ?_ | refine blk_alloc ?_ _)); refine blk_put (cs := #[.bool t216, .string t217, .string t218, .int .i64 0]) ?_ 3 _ rfl; (with_reducible repeat (first | refine blk_drewN ?_ _ | refine blk_drew ?_ | refine blk_alloc ?_ _)); refine blk_put (cs := #[.bool t216, .string t217, .string (⟨#[]⟩ : ByteArray), .int .i64 0]) ?_ 2 _ rfl; (with_reducible repeat (first | refine blk_drewN ?_ _ | refine blk_drew ?_ | refine blk_alloc ?_ _)); refine blk_put (cs := #[.bool t216, .string (⟨#[]⟩ : ByteArray), .string (⟨#[]⟩ : ByteArray), .int .i64 0]) ?_ 1 _ rfl; (with_reducible repeat (first | refine blk_drewN ?_ _ | refine blk_drew ?_ | refine blk_alloc ?_ _)); refine blk_put (cs := #[.bool false, .string (⟨#[]⟩ : ByteArray), .string (⟨#[]⟩ : ByteArray), .int .i64 0]) ?_ 0 _ rfl; (with_reducible repeat (first | refine blk_drewN ?_ _ | refine blk_drew ?_ | refine blk_alloc ?_ _)); refine blk_far ?_ NB215_220.out _; (with_reducible repeat (first | refine blk_drewN ?_ _ | refine blk_drew ?_ | refine blk_alloc ?_ _)); exact BK215.out) Tryd.underlying25 rfl (by kernel_rfl)) rfl ?_
        exact ⟨qnd5_, qnd32_⟩
      ·
       rw [if_neg c26] at H
       exact absurd H (by simp)
     ·
      rw [if_neg c25] at H
      have c25b0 : decide (0 < x5_16) = false := decide_eq_false c25
      clear c25
      by_cases c34 : t217.size + t218.size ≤ 9223372036854775807
      ·
       rw [if_pos c34] at H
       have c34b0 := eq_true c34
       have c34b1 : decide (t217.size + t218.size ≤ 9223372036854775807) = true := decide_eq_true c34
       try have c34b2 : (9223372036854775807 < t217.size + t218.size) = False := eq_false (Nat.not_lt.2 c34)
       by_cases c35 : (t217 ++ t218).toList = ([] : List UInt8)
       ·
        rw [if_pos c35] at H
        have c35b0 : ((t217 ++ t218).toList == ([] : List UInt8)) = true := beq_iff_eq.mpr c35
        have c35b1 : ((t217 ++ t218).toList != ([] : List UInt8)) = false := bne_eq_false_iff_eq.mpr c35
        clear c35
        simp only [Option.some.injEq, Prod.mk.injEq] at H
        obtain ⟨rfl, rfl, rfl, rfl, rfl⟩ := H
        have hnb36 := NB220_215.out
        have hnc36 := NB215_220.out
        have hcz37_0 : wc.cell? ⟨gb220, 0, none⟩ = some (.bool t216) := (blk_cell BK220.out 0).trans rfl
        have hcz37_1 : wc.cell? ⟨gb220, 1, none⟩ = some (.string t217) := (blk_cell BK220.out 1).trans rfl
        have hcz37_2 : wc.cell? ⟨gb220, 2, none⟩ = some (.string t218) := (blk_cell BK220.out 2).trans rfl
        have hcz37_3 : wc.cell? ⟨gb220, 3, none⟩ = some (.int .i64 t219) := (blk_cell BK220.out 3).trans rfl
        have hfz37_0 := blk_frozen BK220.out 0
        have hfz37_1 := blk_frozen BK220.out 1
        have hfz37_2 := blk_frozen BK220.out 2
        have hfz37_3 := blk_frozen BK220.out 3
        have hcz38_0 : wc.cell? ⟨gb215, 0, none⟩ = some (.bool false) := (blk_cell BK215.out 0).trans rfl
        have hcz38_1 : wc.cell? ⟨gb215, 1, none⟩ = some (.string (⟨#[]⟩ : ByteArray)) := (blk_cell BK215.out 1).trans rfl
        have hcz38_2 : wc.cell? ⟨gb215, 2, none⟩ = some (.string (⟨#[]⟩ : ByteArray)) := (blk_cell BK215.out 2).trans rfl
        have hcz38_3 : wc.cell? ⟨gb215, 3, none⟩ = some (.int .i64 0) := (blk_cell BK215.out 3).trans rfl
        have hfz38_0 := blk_frozen BK215.out 0
        have hfz38_1 := blk_frozen BK215.out 1
        have hfz38_2 := blk_frozen BK215.out 2
        have hfz38_3 := blk_frozen BK215.out 3
        go_wp2
        refine bodyPost_ret (results_ct rfl _ _ gb215 25 #[.bool t216, .string t217, .string t218, .int .i64 t219] (0, 0) _ rfl (by (with_reducible repeat (first | refine blk_drewN ?_ _ | refine blk_drew ?_ | refine blk_alloc ?_ _)); refine blk_put (cs := #[.bool t216, .string t217, .string t218, .int .i64 0]) ?_ 3 _ rfl; (with_reducible repeat (first | refine blk_drewN ?_ _ | refine blk_drew ?_ | refine blk_alloc ?_ _)); refine blk_put (cs := #[.bool t216, .string t217, .string (⟨#[]⟩ : ByteArray), .int .i64 0]) ?_ 2 _ rfl; (with_reducible repeat (first | refine blk_drewN ?_ _ | refine blk_drew ?_ | refine blk_alloc ?_ _)); refine blk_put (cs := #[.bool t216, .string (⟨#[]⟩ : ByteArray), .string (⟨#[]⟩ : ByteArray), .int .i64 0]) ?_ 1 _ rfl; (with_reducible repeat (first | refine blk_drewN ?_ _ | refine blk_drew ?_ | refine blk_alloc ?_ _)); refine blk_put (cs := #[.bool false, .string (⟨#[]⟩ : ByteArray), .string (⟨#[]⟩ : ByteArray), .int .i64 0]) ?_ 0 _ rfl; (with_reducible repeat (first | refine blk_drewN ?_ _ | refine blk_drew ?_ | refine blk_alloc ?_ _)); exact BK215.out) Tryd.underlying25 rfl (by kernel_rfl)) rfl ?_
        exact ⟨qnd5_, qnd32_⟩
       ·
        rw [if_neg c35] at H
        have c35b0 : ((t217 ++ t218).toList == ([] : List UInt8)) = false := beq_eq_false_iff_ne.mpr c35
        have c35b1 : ((t217 ++ t218).toList != ([] : List UInt8)) = true := bne_iff_ne.mpr c35
        simp only [Option.some.injEq, Prod.mk.injEq] at H
        obtain ⟨rfl, rfl, rfl, rfl, rfl⟩ := H
        have hnb39 := NB220_215.out
        have hnc39 := NB215_220.out
        have hcz40_0 : wc.cell? ⟨gb220, 0, none⟩ = some (.bool t216) := (blk_cell BK220.out 0).trans rfl
        have hcz40_1 : wc.cell? ⟨gb220, 1, none⟩ = some (.string t217) := (blk_cell BK220.out 1).trans rfl
        have hcz40_2 : wc.cell? ⟨gb220, 2, none⟩ = some (.string t218) := (blk_cell BK220.out 2).trans rfl
        have hcz40_3 : wc.cell? ⟨gb220, 3, none⟩ = some (.int .i64 t219) := (blk_cell BK220.out 3).trans rfl
        have hfz40_0 := blk_frozen BK220.out 0
        have hfz40_1 := blk_frozen BK220.out 1
        have hfz40_2 := blk_frozen BK220.out 2
        have hfz40_3 := blk_frozen BK220.out 3
        have hcz41_0 : wc.cell? ⟨gb215, 0, none⟩ = some (.bool false) := (blk_cell BK215.out 0).trans rfl
        have hcz41_1 : wc.cell? ⟨gb215, 1, none⟩ = some (.string (⟨#[]⟩ : ByteArray)) := (blk_cell BK215.out 1).trans rfl
        have hcz41_2 : wc.cell? ⟨gb215, 2, none⟩ = some (.string (⟨#[]⟩ : ByteArray)) := (blk_cell BK215.out 2).trans rfl
        have hcz41_3 : wc.cell? ⟨gb215, 3, none⟩ = some (.int .i64 0) := (blk_cell BK215.out 3).trans rfl
        have hfz41_0 := blk_frozen BK215.out 0
        have hfz41_1 := blk_frozen BK215.out 1
        have hfz41_2 := blk_frozen BK215.out 2
        have hfz41_3 := blk_frozen BK215.out 3
        go_wp2
        refine bodyPost_ret (results_ct rfl _ _ gb215 25 #[.bool t216, .string t217, .string t218, .int .i64 t219] (0, 0) _ rfl (by (with_reducible repeat (first | refine blk_drewN ?_ _ | refine blk_drew ?_ | refine blk_alloc ?_ _)); refine blk_put (cs := #[.bool t216, .string t217, .string t218, .int .i64 0]) ?_ 3 _ rfl; (with_reducible repeat (first | refine blk_drewN ?_ _ | refine blk_drew ?_ | refine blk_alloc ?_ _)); refine blk_put (cs := #[.bool t216, .string t217, .string (⟨#[]⟩ : ByteArray), .int .i64 0]) ?_ 2 _ rfl; (with_reducible repeat (first | refine blk_drewN ?_ _ | refine blk_drew ?_ | refine blk_alloc ?_ _)); refine blk_put (cs := #[.bool t216, .string (⟨#[]⟩ : ByteArray), .string (⟨#[]⟩ : ByteArray), .int .i64 0]) ?_ 1 _ rfl; (with_reducible repeat (first | refine blk_drewN ?_ _ | refine blk_drew ?_ | refine blk_alloc ?_ _)); refine blk_put (cs := #[.bool false, .string (⟨#[]⟩ : ByteArray), .string (⟨#[]⟩ : ByteArray), .int .i64 0]) ?_ 0 _ rfl; (with_reducible repeat (first | refine blk_drewN ?_ _ | refine blk_drew ?_ | refine blk_alloc ?_ _)); exact BK215.out) Tryd.underlying25 rfl (by kernel_rfl)) rfl ?_
        exact ⟨qnd5_, qnd32_⟩
      ·
       rw [if_neg c34] at H
       exact absurd H (by simp)


/-! ### numeral_begins: function 35 -/
def numeral_begins.l0 : Nat → ByteArray → Int → ByteArray → Int → Int → Option (Bool)
 | 0, _, _, _, _, _ => none
 | k + 1, x0, x1, x2, x16, x17 => if x17 < x16 then (if 0 ≤ (wrap64 (x1 + x17)) then (if (wrap64 (x1 + x17)) < (x0.size : Int) then (if 0 ≤ x17 then (if x17 < (x2.size : Int) then (if (Go.bits .or .u8 (bt x0 (wrap64 (x1 + x17))) 32) = (bt x2 x17) then (if (bt x0 (wrap64 (x1 + x17))) < 65 then (some false) else (numeral_begins.l0 k x0 x1 x2 x16 (wrap64 (x17 + 1)))) else (some false)) else (none)) else (none)) else (none)) else (none)) else (some true)
def numeral_begins.f (k : Nat) (a0 : ByteArray) (a1 : Int) (a2 : ByteArray) : Option (Bool) := if (wrap64 ((a0.size : Int) - a1)) < (a2.size : Int) then (some false) else (numeral_begins.l0 k a0 a1 a2 (a2.size : Int) 0)
set_option maxHeartbeats 8000000 in
set_option maxRecDepth 100000 in
theorem numeral_begins.calls (k : Nat) (a0 : ByteArray) (a1 : Int) (a2 : ByteArray) (r : Bool) (w : World) (h : numeral_begins.f k a0 a1 a2 = some r) :
  Calls Tryd.prog 35 #[.string a0, .int .i64 a1, .string a2] w fun e w' => e = .returned (.bool r) ∧ Drawn0 w w' := by
 have H : (if (wrap64 ((a0.size : Int) - a1)) < (a2.size : Int) then (some false) else (numeral_begins.l0 k a0 a1 a2 (a2.size : Int) 0)) = some r := h
 clear h
 by_cases c4 : (wrap64 ((a0.size : Int) - a1)) < (a2.size : Int)
 ·
  rw [if_pos c4] at H
  have c4b0 : decide ((wrap64 ((a0.size : Int) - a1)) < (a2.size : Int)) = true := decide_eq_true c4
  clear c4
  obtain rfl := Option.some.inj H
  go_enter Tryd.func35, Tryd.ntmps35
  go_wp2
  repeat (go_quiet (fail); try go_wp2)
  go_ret
  exact ⟨qnd2_, qnd9_⟩
 ·
  rw [if_neg c4] at H
  have c4b0 : decide ((wrap64 ((a0.size : Int) - a1)) < (a2.size : Int)) = false := decide_eq_false c4
  clear c4
  have H' := Aside0.mk H
  clear H
  go_enter Tryd.func35, Tryd.ntmps35
  go_wp2
  repeat (go_quiet (fail); try go_wp2)
  go_loopg [17] k (fun kq v17 w' => ∃ (x17_1 : Int), v17 = .int .i64 x17_1 ∧ Aside0 (numeral_begins.l0 kq a0 a1 a2 (a2.size : Int) x17_1 = some r) ∧ Aside0 (kq ≤ k) ∧ Drawn0 w w')
  case atStart => exact ⟨(0), qnd2_, H', ⟨Nat.le_refl _⟩, qnd9_⟩
  case round =>
   clear H'
   (try clear p2); (try clear c3); (try clear c4); (try clear c4b0)
   obtain ⟨x17_1, rfl, HA, HK1, ⟨m1, rfl⟩⟩ := hrel
   cases gk with
   | zero => exact absurd HA.out (by simp [numeral_begins.l0])
   | succ k1 =>
    have H := HA.out
    clear HA
    simp only [numeral_begins.l0] at H
    by_cases c5 : x17_1 < (a2.size : Int)
    ·
     rw [if_pos c5] at H
     have c5b0 : decide (x17_1 < (a2.size : Int)) = true := decide_eq_true c5
     clear c5
     obtain ⟨ji6, hji6⟩ : ∃ j_ : Int, (wrap64 (a1 + x17_1)) = j_ := ⟨_, rfl⟩
     replace H : (if 0 ≤ (ji6) then (if (ji6) < (a0.size : Int) then (if 0 ≤ x17_1 then (if x17_1 < (a2.size : Int) then (if (Go.bits .or .u8 (bt a0 (ji6)) 32) = (bt a2 x17_1) then (if (bt a0 (ji6)) < 65 then (some false) else (numeral_begins.l0 k1 a0 a1 a2 (a2.size : Int) (wrap64 (x17_1 + 1)))) else (some false)) else (none)) else (none)) else (none)) else (none)) = some r := by first | (rw [hji6] at H; exact H) | (simp only [hji6] at H ⊢; exact H)
     have hji6w : (IntKind.i64.wrap (a1 + x17_1)) = ji6 := (i64_w _).trans hji6
     by_cases c7 : 0 ≤ (ji6)
     ·
      rw [if_pos c7] at H
      have c7b0 : decide (0 ≤ (ji6)) = true := decide_eq_true c7
      clear c7
      by_cases c8 : (ji6) < (a0.size : Int)
      ·
       rw [if_pos c8] at H
       have c8b0 : decide ((ji6) < (a0.size : Int)) = true := decide_eq_true c8
       clear c8
       by_cases c10 : 0 ≤ x17_1
       ·
        rw [if_pos c10] at H
        have c10b0 : decide (0 ≤ x17_1) = true := decide_eq_true c10
        clear c10
        by_cases c11 : x17_1 < (a2.size : Int)
        ·
         rw [if_pos c11] at H
         have c11b0 : decide (x17_1 < (a2.size : Int)) = true := decide_eq_true c11
         clear c11
         by_cases c13 : (Go.bits .or .u8 (bt a0 (ji6)) 32) = (bt a2 x17_1)
         ·
          rw [if_pos c13] at H
          have c13b0 : ((Go.bits .or .u8 (bt a0 (ji6)) 32) == (bt a2 x17_1)) = true := beq_iff_eq.mpr c13
          have c13b1 : ((Go.bits .or .u8 (bt a0 (ji6)) 32) != (bt a2 x17_1)) = false := bne_eq_false_iff_eq.mpr c13
          clear c13
          by_cases c15 : (bt a0 (ji6)) < 65
          ·
           rw [if_pos c15] at H
           have c15b0 : decide ((bt a0 (ji6)) < 65) = true := decide_eq_true c15
           clear c15
           obtain rfl := Option.some.inj H
           have p9 : 0 ≤ ((ji6) : Int) := of_decide_eq_true qnd3_
           have q9 : (ji6) < (a0.size : Int) := of_decide_eq_true qnd3_
           have hx9 := bt_at a0 (ji6)
           replace p9 := eq_true p9
           replace q9 := eq_true q9
           have p12 : 0 ≤ (x17_1 : Int) := of_decide_eq_true qnd3_
           have q12 : x17_1 < (a2.size : Int) := of_decide_eq_true qnd3_
           have hx12 := bt_at a2 x17_1
           replace p12 := eq_true p12
           replace q12 := eq_true q12
           have p14 : 0 ≤ ((ji6) : Int) := of_decide_eq_true qnd3_
           have q14 : (ji6) < (a0.size : Int) := of_decide_eq_true qnd3_
           have hx14 := bt_at a0 (ji6)
           replace p14 := eq_true p14
           replace q14 := eq_true q14
           go_wp2
           repeat (go_quiet (fail); try go_wp2)
           go_ret
           exact ⟨qnd62_, qnd9_⟩
          ·
           rw [if_neg c15] at H
           have c15b0 : decide ((bt a0 (ji6)) < 65) = false := decide_eq_false c15
           clear c15
           have H' := Aside0.mk H
           clear H
           have p9 : 0 ≤ ((ji6) : Int) := of_decide_eq_true qnd3_
           have q9 : (ji6) < (a0.size : Int) := of_decide_eq_true qnd3_
           have hx9 := bt_at a0 (ji6)
           replace p9 := eq_true p9
           replace q9 := eq_true q9
           have p12 : 0 ≤ (x17_1 : Int) := of_decide_eq_true qnd3_
           have q12 : x17_1 < (a2.size : Int) := of_decide_eq_true qnd3_
           have hx12 := bt_at a2 x17_1
           replace p12 := eq_true p12
           replace q12 := eq_true q12
           have p14 : 0 ≤ ((ji6) : Int) := of_decide_eq_true qnd3_
           have q14 : (ji6) < (a0.size : Int) := of_decide_eq_true qnd3_
           have hx14 := bt_at a0 (ji6)
           replace p14 := eq_true p14
           replace q14 := eq_true q14
           go_wp2
           repeat (go_quiet (fail); try go_wp2)
           go_roundg k1
           case measure => have := HK1.out; omega
           case rel => exact ⟨(wrap64 (x17_1 + 1)), qnd2_, H', ⟨by have := HK1.out; omega⟩, qnd9_⟩
         ·
          rw [if_neg c13] at H
          have c13b0 : ((Go.bits .or .u8 (bt a0 (ji6)) 32) == (bt a2 x17_1)) = false := beq_eq_false_iff_ne.mpr c13
          have c13b1 : ((Go.bits .or .u8 (bt a0 (ji6)) 32) != (bt a2 x17_1)) = true := bne_iff_ne.mpr c13
          obtain rfl := Option.some.inj H
          have p9 : 0 ≤ ((ji6) : Int) := of_decide_eq_true qnd3_
          have q9 : (ji6) < (a0.size : Int) := of_decide_eq_true qnd3_
          have hx9 := bt_at a0 (ji6)
          replace p9 := eq_true p9
          replace q9 := eq_true q9
          have p12 : 0 ≤ (x17_1 : Int) := of_decide_eq_true qnd3_
          have q12 : x17_1 < (a2.size : Int) := of_decide_eq_true qnd3_
          have hx12 := bt_at a2 x17_1
          replace p12 := eq_true p12
          replace q12 := eq_true q12
          go_wp2
          repeat (go_quiet (fail); try go_wp2)
          go_ret
          exact ⟨qnd62_, qnd9_⟩
        ·
         rw [if_neg c11] at H
         exact absurd H (by simp)
       ·
        rw [if_neg c10] at H
        exact absurd H (by simp)
      ·
       rw [if_neg c8] at H
       exact absurd H (by simp)
     ·
      rw [if_neg c7] at H
      exact absurd H (by simp)
    ·
     rw [if_neg c5] at H
     have c5b0 : decide (x17_1 < (a2.size : Int)) = false := decide_eq_false c5
     clear c5
     obtain rfl := Option.some.inj H
     go_wp2
     repeat (go_quiet (fail); try go_wp2)
     go_ret
     exact ⟨qnd2_, qnd9_⟩


/-! ### numeral_Month: function 23 -/
def numeral_Month.l0 : Nat → ByteArray → Int → Int → Option (Int)
 | 0, _, _, _ => none
 | k + 1, x0, x3, x7 => if x7 < 12 then (if 0 ≤ x7 then ((numeral_begins.f k x0 x3 (rdOf ByteArray.empty G_months x7)).bind fun t224 => (if t224 = true then (some (wrap64 (x7 + 1))) else (numeral_Month.l0 k x0 x3 (wrap64 (x7 + 1))))) else (none)) else (some 0)
def numeral_Month.f (k : Nat) (a0 : ByteArray) : Option (Int) := (numeral_blanks.f k a0).bind fun t222 => (numeral_Month.l0 k a0 t222 0)
set_option maxHeartbeats 8000000 in
set_option maxRecDepth 100000 in
theorem numeral_Month.calls (k : Nat) (a0 : ByteArray) (r : Int) (w : World) (hGL : GOK w) (h : numeral_Month.f k a0 = some r) :
  Calls Tryd.prog 23 #[.string a0] w fun e w' => e = .returned (.int .i64 r) ∧ Drawn0 w w' := by
 have HRg0 := Aside0.mk hGL.g0
 have HGL := Aside0.mk hGL
 clear hGL
 have H : ((numeral_blanks.f k a0).bind fun t222 => (numeral_Month.l0 k a0 t222 0)) = some r := h
 clear h
 replace H := Option.bind_eq_some_iff.mp H
 obtain ⟨t222, A20, H⟩ := H
 replace H : (numeral_Month.l0 k a0 t222 0) = some r := H
 have A2 := Aside0.mk A20
 clear A20
 have H' := Aside0.mk H
 clear H
 go_enter Tryd.func23, Tryd.ntmps23
 go_wp2_with (first | ((with_reducible refine gate_callee (f := 34) rfl ?_); refine goesL_ (some 6) rfl rfl Tryd.func34 (by kernel_rfl) rfl #[.string a0] rfl qnd0_ ?_; (with_reducible refine (numeral_blanks.calls k a0 t222 _ A2.out).mono ?_); rintro e w' ⟨rfl, ⟨nd, rfl⟩⟩; refine ⟨_, rfl, ?_⟩))
 go_loopg [7] k (fun kq v7 w' => ∃ (x7_1 : Int), v7 = .int .i64 x7_1 ∧ Aside0 (numeral_Month.l0 kq a0 t222 x7_1 = some r) ∧ Aside0 (kq ≤ k) ∧ Drawn0 w w')
 case atStart => exact ⟨(0), qnd2_, H', ⟨Nat.le_refl _⟩, qnd9_⟩
 case round =>
  clear H'
  (try clear c2); (try clear p2)
  obtain ⟨x7_1, rfl, HA, HK1, ⟨m1, rfl⟩⟩ := hrel
  cases gk with
  | zero => exact absurd HA.out (by simp [numeral_Month.l0])
  | succ k1 =>
   have H := HA.out
   clear HA
   simp only [numeral_Month.l0] at H
   by_cases c3 : x7_1 < 12
   ·
    rw [if_pos c3] at H
    have c3b0 : decide (x7_1 < 12) = true := decide_eq_true c3
    clear c3
    by_cases c4 : 0 ≤ x7_1
    ·
     rw [if_pos c4] at H
     have c4b0 : decide (0 ≤ x7_1) = true := decide_eq_true c4
     clear c4
     replace H := Option.bind_eq_some_iff.mp H
     obtain ⟨t224, A50, H⟩ := H
     replace H : (if t224 = true then (some (wrap64 (x7_1 + 1))) else (numeral_Month.l0 k1 a0 t222 (wrap64 (x7_1 + 1)))) = some r := H
     have A5 := Aside0.mk A50
     clear A50
     by_cases c6 : t224 = true
     ·
      subst c6
      have H1 : (some (wrap64 (x7_1 + 1))) = some r := by rw [if_pos rfl] at H; exact H
      clear H
      have H := H1
      clear H1
      obtain rfl := Option.some.inj H
      have p223 : 0 ≤ (x7_1 : Int) := of_decide_eq_true qnd3_
      have q223 : x7_1 < (G_months.length : Int) := (show (x7_1 : Int) < 12 from of_decide_eq_true qnd3_)
      have qg223 : ((x7_1 : Int) < 12) = True := eq_true q223
      obtain ⟨ad223, e223, hx223_0⟩ := Kd.at_string HRg0.out x7_1 p223 q223
      obtain rfl : (⟨0, 0, none⟩ : Addr) = ad223 := (by injection e223)
      (first | simp only [add_plain] at hx223_0 | simp only [add_at] at hx223_0 | simp only [Addr.add, Nat.zero_add] at hx223_0 | skip)
      replace p223 := eq_true p223
      replace q223 := eq_true q223
      go_wp2_with (first | ((with_reducible refine gate_callee (f := 35) rfl ?_); refine goesL_ (some 15) rfl rfl Tryd.func35 (by kernel_rfl) rfl #[.string a0, .int .i64 t222, .string (rdOf ByteArray.empty G_months x7_1)] rfl qnd0_ ?_; (with_reducible refine (numeral_begins.calls k1 a0 t222 (rdOf ByteArray.empty G_months x7_1) true _ A5.out).mono ?_); rintro e w' ⟨rfl, ⟨nd, rfl⟩⟩; refine ⟨_, rfl, ?_⟩))
      go_ret
      exact ⟨qnd2_, qnd9_⟩
     ·
      replace c6 := Bool.eq_false_iff.mpr c6
      subst c6
      have H1 : (numeral_Month.l0 k1 a0 t222 (wrap64 (x7_1 + 1))) = some r := by rw [if_neg (show ¬ (false = true) by decide)] at H; exact H
      clear H
      have H := H1
      clear H1
      have H' := Aside0.mk H
      clear H
      have p223 : 0 ≤ (x7_1 : Int) := of_decide_eq_true qnd3_
      have q223 : x7_1 < (G_months.length : Int) := (show (x7_1 : Int) < 12 from of_decide_eq_true qnd3_)
      have qg223 : ((x7_1 : Int) < 12) = True := eq_true q223
      obtain ⟨ad223, e223, hx223_0⟩ := Kd.at_string HRg0.out x7_1 p223 q223
      obtain rfl : (⟨0, 0, none⟩ : Addr) = ad223 := (by injection e223)
      (first | simp only [add_plain] at hx223_0 | simp only [add_at] at hx223_0 | simp only [Addr.add, Nat.zero_add] at hx223_0 | skip)
      replace p223 := eq_true p223
      replace q223 := eq_true q223
      go_wp2_with (first | ((with_reducible refine gate_callee (f := 35) rfl ?_); refine goesL_ (some 15) rfl rfl Tryd.func35 (by kernel_rfl) rfl #[.string a0, .int .i64 t222, .string (rdOf ByteArray.empty G_months x7_1)] rfl qnd0_ ?_; (with_reducible refine (numeral_begins.calls k1 a0 t222 (rdOf ByteArray.empty G_months x7_1) false _ A5.out).mono ?_); rintro e w' ⟨rfl, ⟨nd, rfl⟩⟩; refine ⟨_, rfl, ?_⟩))
      go_roundg k1
      case measure => have := HK1.out; omega
      case rel => exact ⟨(wrap64 (x7_1 + 1)), qnd2_, H', ⟨by have := HK1.out; omega⟩, qnd9_⟩
    ·
     rw [if_neg c4] at H
     exact absurd H (by simp)
   ·
    rw [if_neg c3] at H
    have c3b0 : decide (x7_1 < 12) = false := decide_eq_false c3
    clear c3
    obtain rfl := Option.some.inj H
    go_wp2
    go_ret
    exact ⟨qnd2_, qnd9_⟩


/-! ### millref3_low: function 70 -/
def millref3_low.f (a0 : Int) : Option (Int) := if a0 ≥ 65 then (if a0 ≤ 90 then (some ((a0 + 32) % 256)) else (some a0)) else (some a0)
set_option maxHeartbeats 8000000 in
set_option maxRecDepth 100000 in
theorem millref3_low.calls (a0 : Int) (r : Int) (w : World) (h : millref3_low.f a0 = some r) :
  Calls Tryd.prog 70 #[.int .u8 a0] w fun e w' => e = .returned (.int .u8 r) ∧ Drawn0 w w' := by
 have H : (if a0 ≥ 65 then (if a0 ≤ 90 then (some ((a0 + 32) % 256)) else (some a0)) else (some a0)) = some r := h
 clear h
 by_cases c2 : a0 ≥ 65
 ·
  rw [if_pos c2] at H
  have c2b0 : decide (65 ≤ a0) = true := decide_eq_true c2
  clear c2
  by_cases c3 : a0 ≤ 90
  ·
   rw [if_pos c3] at H
   have c3b0 : decide (a0 ≤ 90) = true := decide_eq_true c3
   clear c3
   obtain rfl := Option.some.inj H
   go_enter Tryd.func70, Tryd.ntmps70
   go_wp2
   go_ret
   exact ⟨qnd2_, qnd9_⟩
  ·
   rw [if_neg c3] at H
   have c3b0 : decide (a0 ≤ 90) = false := decide_eq_false c3
   clear c3
   obtain rfl := Option.some.inj H
   go_enter Tryd.func70, Tryd.ntmps70
   go_wp2
   go_ret
   exact ⟨qnd2_, qnd9_⟩
 ·
  rw [if_neg c2] at H
  have c2b0 : decide (65 ≤ a0) = false := decide_eq_false c2
  clear c2
  obtain rfl := Option.some.inj H
  go_enter Tryd.func70, Tryd.ntmps70
  go_wp2
  go_ret
  exact ⟨qnd2_, qnd9_⟩


/-! ### millref3_at: function 45 -/
def millref3_at.l0 : Nat → ByteArray → Int → ByteArray → Int → Option (Bool)
 | 0, _, _, _, _ => none
 | k + 1, x0, x1, x2, x7 => if x7 < (x2.size : Int) then (if 0 ≤ (wrap64 (x1 + x7)) then (if (wrap64 (x1 + x7)) < (x0.size : Int) then ((millref3_low.f (bt x0 (wrap64 (x1 + x7)))).bind fun t225 => (if 0 ≤ x7 then (if t225 = (bt x2 x7) then (millref3_at.l0 k x0 x1 x2 (wrap64 (x7 + 1))) else (some false)) else (none))) else (none)) else (none)) else (some true)
def millref3_at.f (k : Nat) (a0 : ByteArray) (a1 : Int) (a2 : ByteArray) : Option (Bool) := if (wrap64 (a1 + (a2.size : Int))) > (a0.size : Int) then (some false) else (millref3_at.l0 k a0 a1 a2 0)
set_option maxHeartbeats 8000000 in
set_option maxRecDepth 100000 in
theorem millref3_at.calls (k : Nat) (a0 : ByteArray) (a1 : Int) (a2 : ByteArray) (r : Bool) (w : World) (h : millref3_at.f k a0 a1 a2 = some r) :
  Calls Tryd.prog 45 #[.string a0, .int .i64 a1, .string a2] w fun e w' => e = .returned (.bool r) ∧ Drawn0 w w' := by
 have H : (if (wrap64 (a1 + (a2.size : Int))) > (a0.size : Int) then (some false) else (millref3_at.l0 k a0 a1 a2 0)) = some r := h
 clear h
 by_cases c4 : (wrap64 (a1 + (a2.size : Int))) > (a0.size : Int)
 ·
  rw [if_pos c4] at H
  have c4b0 : decide ((a0.size : Int) < (wrap64 (a1 + (a2.size : Int)))) = true := decide_eq_true c4
  clear c4
  obtain rfl := Option.some.inj H
  go_enter Tryd.func45, Tryd.ntmps45
  go_wp2
  repeat (go_quiet (fail); try go_wp2)
  go_ret
  exact ⟨qnd2_, qnd9_⟩
 ·
  rw [if_neg c4] at H
  have c4b0 : decide ((a0.size : Int) < (wrap64 (a1 + (a2.size : Int)))) = false := decide_eq_false c4
  clear c4
  have H' := Aside0.mk H
  clear H
  go_enter Tryd.func45, Tryd.ntmps45
  go_wp2
  repeat (go_quiet (fail); try go_wp2)
  go_loopg [7] k (fun kq v7 w' => ∃ (x7_1 : Int), v7 = .int .i64 x7_1 ∧ Aside0 (millref3_at.l0 kq a0 a1 a2 x7_1 = some r) ∧ Aside0 (kq ≤ k) ∧ Drawn0 w w')
  case atStart => exact ⟨(0), qnd2_, H', ⟨Nat.le_refl _⟩, qnd9_⟩
  case round =>
   clear H'
   (try clear p2); (try clear c4); (try clear c4b0)
   obtain ⟨x7_1, rfl, HA, HK1, ⟨m1, rfl⟩⟩ := hrel
   cases gk with
   | zero => exact absurd HA.out (by simp [millref3_at.l0])
   | succ k1 =>
    have H := HA.out
    clear HA
    simp only [millref3_at.l0] at H
    by_cases c5 : x7_1 < (a2.size : Int)
    ·
     rw [if_pos c5] at H
     have c5b0 : decide (x7_1 < (a2.size : Int)) = true := decide_eq_true c5
     clear c5
     obtain ⟨ji6, hji6⟩ : ∃ j_ : Int, (wrap64 (a1 + x7_1)) = j_ := ⟨_, rfl⟩
     replace H : (if 0 ≤ (ji6) then (if (ji6) < (a0.size : Int) then ((millref3_low.f (bt a0 (ji6))).bind fun t225 => (if 0 ≤ x7_1 then (if t225 = (bt a2 x7_1) then (millref3_at.l0 k1 a0 a1 a2 (wrap64 (x7_1 + 1))) else (some false)) else (none))) else (none)) else (none)) = some r := by first | (rw [hji6] at H; exact H) | (simp only [hji6] at H ⊢; exact H)
     have hji6w : (IntKind.i64.wrap (a1 + x7_1)) = ji6 := (i64_w _).trans hji6
     by_cases c7 : 0 ≤ (ji6)
     ·
      rw [if_pos c7] at H
      have c7b0 : decide (0 ≤ (ji6)) = true := decide_eq_true c7
      clear c7
      by_cases c8 : (ji6) < (a0.size : Int)
      ·
       rw [if_pos c8] at H
       have c8b0 : decide ((ji6) < (a0.size : Int)) = true := decide_eq_true c8
       clear c8
       replace H := Option.bind_eq_some_iff.mp H
       obtain ⟨t225, A100, H⟩ := H
       replace H : (if 0 ≤ x7_1 then (if t225 = (bt a2 x7_1) then (millref3_at.l0 k1 a0 a1 a2 (wrap64 (x7_1 + 1))) else (some false)) else (none)) = some r := H
       have A10 := Aside0.mk A100
       clear A100
       by_cases c11 : 0 ≤ x7_1
       ·
        rw [if_pos c11] at H
        have c11b0 : decide (0 ≤ x7_1) = true := decide_eq_true c11
        clear c11
        by_cases c13 : t225 = (bt a2 x7_1)
        ·
         rw [if_pos c13] at H
         have c13b0 : (t225 == (bt a2 x7_1)) = true := beq_iff_eq.mpr c13
         have c13b1 : (t225 != (bt a2 x7_1)) = false := bne_eq_false_iff_eq.mpr c13
         clear c13
         have H' := Aside0.mk H
         clear H
         have p9 : 0 ≤ ((ji6) : Int) := of_decide_eq_true qnd3_
         have q9 : (ji6) < (a0.size : Int) := of_decide_eq_true qnd3_
         have hx9 := bt_at a0 (ji6)
         replace p9 := eq_true p9
         replace q9 := eq_true q9
         have p12 : 0 ≤ (x7_1 : Int) := of_decide_eq_true qnd3_
         have q12 : x7_1 < (a2.size : Int) := of_decide_eq_true qnd3_
         have hx12 := bt_at a2 x7_1
         replace p12 := eq_true p12
         replace q12 := eq_true q12
         go_wp2_with (first | (go_at_call 70; (with_reducible refine (millref3_low.calls (bt a0 (ji6)) t225 _ A10.out).mono ?_); rintro e w' ⟨rfl, ⟨nd, rfl⟩⟩; (try first | exact ⟨rfl, _, World.drewN_drewN _ _ _⟩ | exact ⟨rfl, _, Eq.trans (World.drewN_drewN _ _ _) (congrArg (World.drewN _) (Nat.add_assoc _ _ _))⟩)))
         repeat (go_quiet (first | (go_at_call 70; (with_reducible refine (millref3_low.calls (bt a0 (ji6)) t225 _ A10.out).mono ?_); rintro e w' ⟨rfl, ⟨nd, rfl⟩⟩; (try first | exact ⟨rfl, _, World.drewN_drewN _ _ _⟩ | exact ⟨rfl, _, Eq.trans (World.drewN_drewN _ _ _) (congrArg (World.drewN _) (Nat.add_assoc _ _ _))⟩))); try go_wp2_with (first | (go_at_call 70; (with_reducible refine (millref3_low.calls (bt a0 (ji6)) t225 _ A10.out).mono ?_); rintro e w' ⟨rfl, ⟨nd, rfl⟩⟩; (try first | exact ⟨rfl, _, World.drewN_drewN _ _ _⟩ | exact ⟨rfl, _, Eq.trans (World.drewN_drewN _ _ _) (congrArg (World.drewN _) (Nat.add_assoc _ _ _))⟩))))
         go_roundg k1
         case measure => have := HK1.out; omega
         case rel => exact ⟨(wrap64 (x7_1 + 1)), qnd2_, H', ⟨by have := HK1.out; omega⟩, qnd9_⟩
        ·
         rw [if_neg c13] at H
         have c13b0 : (t225 == (bt a2 x7_1)) = false := beq_eq_false_iff_ne.mpr c13
         have c13b1 : (t225 != (bt a2 x7_1)) = true := bne_iff_ne.mpr c13
         obtain rfl := Option.some.inj H
         have p9 : 0 ≤ ((ji6) : Int) := of_decide_eq_true qnd3_
         have q9 : (ji6) < (a0.size : Int) := of_decide_eq_true qnd3_
         have hx9 := bt_at a0 (ji6)
         replace p9 := eq_true p9
         replace q9 := eq_true q9
         have p12 : 0 ≤ (x7_1 : Int) := of_decide_eq_true qnd3_
         have q12 : x7_1 < (a2.size : Int) := of_decide_eq_true qnd3_
         have hx12 := bt_at a2 x7_1
         replace p12 := eq_true p12
         replace q12 := eq_true q12
         go_wp2_with (first | (go_at_call 70; (with_reducible refine (millref3_low.calls (bt a0 (ji6)) t225 _ A10.out).mono ?_); rintro e w' ⟨rfl, ⟨nd, rfl⟩⟩; (try first | exact ⟨rfl, _, World.drewN_drewN _ _ _⟩ | exact ⟨rfl, _, Eq.trans (World.drewN_drewN _ _ _) (congrArg (World.drewN _) (Nat.add_assoc _ _ _))⟩)))
         repeat (go_quiet (first | (go_at_call 70; (with_reducible refine (millref3_low.calls (bt a0 (ji6)) t225 _ A10.out).mono ?_); rintro e w' ⟨rfl, ⟨nd, rfl⟩⟩; (try first | exact ⟨rfl, _, World.drewN_drewN _ _ _⟩ | exact ⟨rfl, _, Eq.trans (World.drewN_drewN _ _ _) (congrArg (World.drewN _) (Nat.add_assoc _ _ _))⟩))); try go_wp2_with (first | (go_at_call 70; (with_reducible refine (millref3_low.calls (bt a0 (ji6)) t225 _ A10.out).mono ?_); rintro e w' ⟨rfl, ⟨nd, rfl⟩⟩; (try first | exact ⟨rfl, _, World.drewN_drewN _ _ _⟩ | exact ⟨rfl, _, Eq.trans (World.drewN_drewN _ _ _) (congrArg (World.drewN _) (Nat.add_assoc _ _ _))⟩))))
         go_ret
         exact ⟨qnd62_, qnd9_⟩
       ·
        rw [if_neg c11] at H
        exact absurd H (by simp)
      ·
       rw [if_neg c8] at H
       exact absurd H (by simp)
     ·
      rw [if_neg c7] at H
      exact absurd H (by simp)
    ·
     rw [if_neg c5] at H
     have c5b0 : decide (x7_1 < (a2.size : Int)) = false := decide_eq_false c5
     clear c5
     obtain rfl := Option.some.inj H
     go_wp2
     repeat (go_quiet (fail); try go_wp2)
     go_ret
     exact ⟨qnd2_, qnd9_⟩


/-! ### millref3_Month: function 24 -/
def millref3_Month.l0 : Nat → ByteArray → Int → Int → Option (Int)
 | 0, _, _, _ => none
 | k + 1, x0, x3, x4 => if x4 < 12 then (if 0 ≤ (wrap64 (3 * x4)) then (if (wrap64 (3 * x4)) ≤ (wrap64 ((wrap64 (3 * x4)) + 3)) then (if (wrap64 ((wrap64 (3 * x4)) + 3)) ≤ 36 then ((millref3_at.f k x0 x3 ((⟨#[106, 97, 110, 102, 101, 98, 109, 97, 114, 97, 112, 114, 109, 97, 121, 106, 117, 110, 106, 117, 108, 97, 117, 103, 115, 101, 112, 111, 99, 116, 110, 111, 118, 100, 101, 99]⟩ : ByteArray).extract ((wrap64 (3 * x4)) : Int).toNat ((wrap64 ((wrap64 (3 * x4)) + 3)) : Int).toNat)).bind fun t227 => (if t227 = true then (some (wrap64 (x4 + 1))) else (millref3_Month.l0 k x0 x3 (wrap64 (x4 + 1))))) else (none)) else (none)) else (none)) else (some 0)
def millref3_Month.f (k : Nat) (a0 : ByteArray) : Option (Int) := (millref3_start.f k a0).bind fun t226 => (millref3_Month.l0 k a0 t226 0)
set_option maxHeartbeats 8000000 in
set_option maxRecDepth 100000 in
theorem millref3_Month.calls (k : Nat) (a0 : ByteArray) (r : Int) (w : World) (h : millref3_Month.f k a0 = some r) :
  Calls Tryd.prog 24 #[.string a0] w fun e w' => e = .returned (.int .i64 r) ∧ Drawn0 w w' := by
 have H : ((millref3_start.f k a0).bind fun t226 => (millref3_Month.l0 k a0 t226 0)) = some r := h
 clear h
 replace H := Option.bind_eq_some_iff.mp H
 obtain ⟨t226, A20, H⟩ := H
 replace H : (millref3_Month.l0 k a0 t226 0) = some r := H
 have A2 := Aside0.mk A20
 clear A20
 have H' := Aside0.mk H
 clear H
 go_enter Tryd.func24, Tryd.ntmps24
 go_wp2_with (first | ((with_reducible refine gate_callee (f := 44) rfl ?_); refine goesL_ (some 6) rfl rfl Tryd.func44 (by kernel_rfl) rfl #[.string a0] rfl qnd0_ ?_; (with_reducible refine (millref3_start.calls k a0 t226 _ A2.out).mono ?_); rintro e w' ⟨rfl, ⟨nd, rfl⟩⟩; refine ⟨_, rfl, ?_⟩))
 go_loopg [4] k (fun kq v4 w' => ∃ (x4_1 : Int), v4 = .int .i64 x4_1 ∧ Aside0 (millref3_Month.l0 kq a0 t226 x4_1 = some r) ∧ Aside0 (kq ≤ k) ∧ Drawn0 w w')
 case atStart => exact ⟨(0), qnd2_, H', ⟨Nat.le_refl _⟩, qnd9_⟩
 case round =>
  clear H'
  (try clear c2); (try clear p2)
  obtain ⟨x4_1, rfl, HA, HK1, ⟨m1, rfl⟩⟩ := hrel
  cases gk with
  | zero => exact absurd HA.out (by simp [millref3_Month.l0])
  | succ k1 =>
   have H := HA.out
   clear HA
   simp only [millref3_Month.l0] at H
   by_cases c3 : x4_1 < 12
   ·
    rw [if_pos c3] at H
    have c3b0 : decide (x4_1 < 12) = true := decide_eq_true c3
    clear c3
    obtain ⟨ji4, hji4⟩ : ∃ j_ : Int, (wrap64 (3 * x4_1)) = j_ := ⟨_, rfl⟩
    replace H : (if 0 ≤ (ji4) then (if (ji4) ≤ (wrap64 ((ji4) + 3)) then (if (wrap64 ((ji4) + 3)) ≤ 36 then ((millref3_at.f k1 a0 t226 ((⟨#[106, 97, 110, 102, 101, 98, 109, 97, 114, 97, 112, 114, 109, 97, 121, 106, 117, 110, 106, 117, 108, 97, 117, 103, 115, 101, 112, 111, 99, 116, 110, 111, 118, 100, 101, 99]⟩ : ByteArray).extract ((ji4) : Int).toNat ((wrap64 ((ji4) + 3)) : Int).toNat)).bind fun t227 => (if t227 = true then (some (wrap64 (x4_1 + 1))) else (millref3_Month.l0 k1 a0 t226 (wrap64 (x4_1 + 1))))) else (none)) else (none)) else (none)) = some r := by first | (rw [hji4] at H; exact H) | (simp only [hji4] at H ⊢; exact H)
    have hji4w : (IntKind.i64.wrap (3 * x4_1)) = ji4 := (i64_w _).trans hji4
    by_cases c5 : 0 ≤ (ji4)
    ·
     rw [if_pos c5] at H
     have c5b0 := eq_true c5
     have c5b1 : decide (0 ≤ (ji4)) = true := decide_eq_true c5
     clear c5
     by_cases c6 : (ji4) ≤ (wrap64 ((ji4) + 3))
     ·
      rw [if_pos c6] at H
      have c6b0 := eq_true c6
      have c6b1 : decide ((ji4) ≤ (wrap64 ((ji4) + 3))) = true := decide_eq_true c6
      by_cases c7 : (wrap64 ((ji4) + 3)) ≤ 36
      ·
       rw [if_pos c7] at H
       have c7b0 := eq_true c7
       have c7b1 : decide ((wrap64 ((ji4) + 3)) ≤ 36) = true := decide_eq_true c7
       replace H := Option.bind_eq_some_iff.mp H
       obtain ⟨t227, A80, H⟩ := H
       replace H : (if t227 = true then (some (wrap64 (x4_1 + 1))) else (millref3_Month.l0 k1 a0 t226 (wrap64 (x4_1 + 1)))) = some r := H
       have A8 := Aside0.mk A80
       clear A80
       by_cases c9 : t227 = true
       ·
        subst c9
        have H1 : (some (wrap64 (x4_1 + 1))) = some r := by rw [if_pos rfl] at H; exact H
        clear H
        have H := H1
        clear H1
        obtain rfl := Option.some.inj H
        go_wp2_with (first | ((with_reducible refine gate_callee (f := 45) rfl ?_); refine goesL_ (some 19) rfl rfl Tryd.func45 (by kernel_rfl) rfl #[.string a0, .int .i64 t226, .string ((⟨#[106, 97, 110, 102, 101, 98, 109, 97, 114, 97, 112, 114, 109, 97, 121, 106, 117, 110, 106, 117, 108, 97, 117, 103, 115, 101, 112, 111, 99, 116, 110, 111, 118, 100, 101, 99]⟩ : ByteArray).extract ((ji4) : Int).toNat ((wrap64 ((ji4) + 3)) : Int).toNat)] rfl (by (try simp only [List.map_toArray, List.map_cons, List.map_nil]); first | done | (simp only [hji4]; rfl) | rfl | (simp only [List.length_drop, List.length_take]; rfl) | (simp; done) | (simp; omega)) ?_; (with_reducible refine (millref3_at.calls k1 a0 t226 ((⟨#[106, 97, 110, 102, 101, 98, 109, 97, 114, 97, 112, 114, 109, 97, 121, 106, 117, 110, 106, 117, 108, 97, 117, 103, 115, 101, 112, 111, 99, 116, 110, 111, 118, 100, 101, 99]⟩ : ByteArray).extract ((ji4) : Int).toNat ((wrap64 ((ji4) + 3)) : Int).toNat) true _ A8.out).mono ?_); rintro e w' ⟨rfl, ⟨nd, rfl⟩⟩; refine ⟨_, rfl, ?_⟩))
        go_ret
        exact ⟨qnd63_, qnd9_⟩
       ·
        replace c9 := Bool.eq_false_iff.mpr c9
        subst c9
        have H1 : (millref3_Month.l0 k1 a0 t226 (wrap64 (x4_1 + 1))) = some r := by rw [if_neg (show ¬ (false = true) by decide)] at H; exact H
        clear H
        have H := H1
        clear H1
        have H' := Aside0.mk H
        clear H
        go_wp2_with (first | ((with_reducible refine gate_callee (f := 45) rfl ?_); refine goesL_ (some 19) rfl rfl Tryd.func45 (by kernel_rfl) rfl #[.string a0, .int .i64 t226, .string ((⟨#[106, 97, 110, 102, 101, 98, 109, 97, 114, 97, 112, 114, 109, 97, 121, 106, 117, 110, 106, 117, 108, 97, 117, 103, 115, 101, 112, 111, 99, 116, 110, 111, 118, 100, 101, 99]⟩ : ByteArray).extract ((ji4) : Int).toNat ((wrap64 ((ji4) + 3)) : Int).toNat)] rfl (by (try simp only [List.map_toArray, List.map_cons, List.map_nil]); first | done | (simp only [hji4]; rfl) | rfl | (simp only [List.length_drop, List.length_take]; rfl) | (simp; done) | (simp; omega)) ?_; (with_reducible refine (millref3_at.calls k1 a0 t226 ((⟨#[106, 97, 110, 102, 101, 98, 109, 97, 114, 97, 112, 114, 109, 97, 121, 106, 117, 110, 106, 117, 108, 97, 117, 103, 115, 101, 112, 111, 99, 116, 110, 111, 118, 100, 101, 99]⟩ : ByteArray).extract ((ji4) : Int).toNat ((wrap64 ((ji4) + 3)) : Int).toNat) false _ A8.out).mono ?_); rintro e w' ⟨rfl, ⟨nd, rfl⟩⟩; refine ⟨_, rfl, ?_⟩))
        go_roundg k1
        case measure => have := HK1.out; omega
        case rel => exact ⟨(wrap64 (x4_1 + 1)), qnd2_, H', ⟨by have := HK1.out; omega⟩, qnd9_⟩
      ·
       rw [if_neg c7] at H
       exact absurd H (by simp)
     ·
      rw [if_neg c6] at H
      exact absurd H (by simp)
    ·
     rw [if_neg c5] at H
     exact absurd H (by simp)
   ·
    rw [if_neg c3] at H
    have c3b0 : decide (x4_1 < 12) = false := decide_eq_false c3
    clear c3
    obtain rfl := Option.some.inj H
    go_wp2
    go_ret
    exact ⟨qnd2_, qnd9_⟩


/-! ### numeral_exponent: function 37 -/
def numeral_exponent.l0 : Nat → ByteArray → Int → Int → Int → Int → Option (Int × Int)
 | 0, _, _, _, _, _ => none
 | k + 1, x0, x1, x6, x7, x8 => if x1 < (x0.size : Int) then (if 0 ≤ x1 then ((numeral_digit.f (bt x0 x1)).bind fun t140 => (if t140 = true then (numeral_exponent.l0 k x0 (wrap64 (x1 + 1)) (wrap64 (x1 + 1)) x7 (mn (wrap64 ((wrap64 (x8 * 10)) + (((bt x0 x1) - 48) % 256))) 1099511627776)) else (some (wrap64 (x7 * x8), x6)))) else (none)) else (some (wrap64 (x7 * x8), x6))
def numeral_exponent.f (k : Nat) (a0 : ByteArray) (a1 : Int) : Option (Int × Int) := if a1 = (a0.size : Int) then (some (0, a1)) else (if 0 ≤ a1 then (if a1 < (a0.size : Int) then (if (Go.bits .or .u8 (bt a0 a1) 32) = 101 then (if (wrap64 (a1 + 1)) < (a0.size : Int) then (if 0 ≤ (wrap64 (a1 + 1)) then (if (bt a0 (wrap64 (a1 + 1))) = 45 then (numeral_exponent.l0 k a0 (wrap64 ((wrap64 (a1 + 1)) + 1)) a1 (-1) 0) else (if (bt a0 (wrap64 (a1 + 1))) = 43 then (numeral_exponent.l0 k a0 (wrap64 ((wrap64 (a1 + 1)) + 1)) a1 1 0) else (numeral_exponent.l0 k a0 (wrap64 (a1 + 1)) a1 1 0))) else (none)) else (numeral_exponent.l0 k a0 (wrap64 (a1 + 1)) a1 1 0)) else (some (0, a1))) else (none)) else (none))
set_option maxHeartbeats 8000000 in
set_option maxRecDepth 100000 in
theorem numeral_exponent.calls (k : Nat) (a0 : ByteArray) (a1 : Int) (r1 : Int) (r2 : Int) (w : World) (h : numeral_exponent.f k a0 a1 = some (r1, r2)) :
  Calls Tryd.prog 37 #[.string a0, .int .i64 a1] w fun e w' => e = .returned (.tuple #[.int .i64 r1, .int .i64 r2]) ∧ Below w.heap.size w w' := by
 have HB := Aside0.mk (Below.refl w.heap.size w)
 have H : (if a1 = (a0.size : Int) then (some (0, a1)) else (if 0 ≤ a1 then (if a1 < (a0.size : Int) then (if (Go.bits .or .u8 (bt a0 a1) 32) = 101 then (if (wrap64 (a1 + 1)) < (a0.size : Int) then (if 0 ≤ (wrap64 (a1 + 1)) then (if (bt a0 (wrap64 (a1 + 1))) = 45 then (numeral_exponent.l0 k a0 (wrap64 ((wrap64 (a1 + 1)) + 1)) a1 (-1) 0) else (if (bt a0 (wrap64 (a1 + 1))) = 43 then (numeral_exponent.l0 k a0 (wrap64 ((wrap64 (a1 + 1)) + 1)) a1 1 0) else (numeral_exponent.l0 k a0 (wrap64 (a1 + 1)) a1 1 0))) else (none)) else (numeral_exponent.l0 k a0 (wrap64 (a1 + 1)) a1 1 0)) else (some (0, a1))) else (none)) else (none))) = some (r1, r2) := h
 clear h
 by_cases c3 : a1 = (a0.size : Int)
 ·
  rw [if_pos c3] at H
  have c3b0 : (a1 == (a0.size : Int)) = true := beq_iff_eq.mpr c3
  have c3b1 : (a1 != (a0.size : Int)) = false := bne_eq_false_iff_eq.mpr c3
  clear c3
  simp only [Option.some.injEq, Prod.mk.injEq] at H
  obtain ⟨rfl, rfl⟩ := H
  go_enter Tryd.func37, Tryd.ntmps37
  go_wp2
  go_ret2
  exact ⟨qnd5_, qnd1_⟩
 ·
  rw [if_neg c3] at H
  have c3b0 : (a1 == (a0.size : Int)) = false := beq_eq_false_iff_ne.mpr c3
  have c3b1 : (a1 != (a0.size : Int)) = true := bne_iff_ne.mpr c3
  by_cases c4 : 0 ≤ a1
  ·
   rw [if_pos c4] at H
   have c4b0 : decide (0 ≤ a1) = true := decide_eq_true c4
   clear c4
   by_cases c5 : a1 < (a0.size : Int)
   ·
    rw [if_pos c5] at H
    have c5b0 : decide (a1 < (a0.size : Int)) = true := decide_eq_true c5
    clear c5
    by_cases c7 : (Go.bits .or .u8 (bt a0 a1) 32) = 101
    ·
     rw [if_pos c7] at H
     have c7b0 : ((Go.bits .or .u8 (bt a0 a1) 32) == 101) = true := beq_iff_eq.mpr c7
     have c7b1 : ((Go.bits .or .u8 (bt a0 a1) 32) != 101) = false := bne_eq_false_iff_eq.mpr c7
     clear c7
     by_cases c8 : (wrap64 (a1 + 1)) < (a0.size : Int)
     ·
      rw [if_pos c8] at H
      have c8b0 : decide ((wrap64 (a1 + 1)) < (a0.size : Int)) = true := decide_eq_true c8
      clear c8
      obtain ⟨ji9, hji9⟩ : ∃ j_ : Int, (wrap64 (a1 + 1)) = j_ := ⟨_, rfl⟩
      replace H : (if 0 ≤ (ji9) then (if (bt a0 (ji9)) = 45 then (numeral_exponent.l0 k a0 (wrap64 ((ji9) + 1)) a1 (-1) 0) else (if (bt a0 (ji9)) = 43 then (numeral_exponent.l0 k a0 (wrap64 ((ji9) + 1)) a1 1 0) else (numeral_exponent.l0 k a0 ji9 a1 1 0))) else (none)) = some (r1, r2) := by first | (rw [hji9] at H; exact H) | (simp only [hji9] at H ⊢; exact H)
      (try rw [hji9] at c8b0)
      have hji9w : (IntKind.i64.wrap (a1 + 1)) = ji9 := (i64_w _).trans hji9
      by_cases c10 : 0 ≤ (ji9)
      ·
       rw [if_pos c10] at H
       have c10b0 : decide (0 ≤ (ji9)) = true := decide_eq_true c10
       clear c10
       by_cases c12 : (bt a0 (ji9)) = 45
       ·
        rw [if_pos c12] at H
        have c12b0 : ((bt a0 (ji9)) == 45) = true := beq_iff_eq.mpr c12
        have c12b1 : ((bt a0 (ji9)) != 45) = false := bne_eq_false_iff_eq.mpr c12
        clear c12
        have H' := Aside0.mk H
        clear H
        have p6 : 0 ≤ (a1 : Int) := of_decide_eq_true qnd3_
        have q6 : a1 < (a0.size : Int) := of_decide_eq_true qnd3_
        have hx6 := bt_at a0 a1
        replace p6 := eq_true p6
        replace q6 := eq_true q6
        have p11 : 0 ≤ ((ji9) : Int) := of_decide_eq_true qnd3_
        have q11 : (ji9) < (a0.size : Int) := of_decide_eq_true qnd3_
        have hx11 := bt_at a0 (ji9)
        replace p11 := eq_true p11
        replace q11 := eq_true q11
        have p13 : 0 ≤ ((ji9) : Int) := of_decide_eq_true qnd3_
        have q13 : (ji9) < (a0.size : Int) := of_decide_eq_true qnd3_
        have hx13 := bt_at a0 (ji9)
        replace p13 := eq_true p13
        replace q13 := eq_true q13
        go_enter Tryd.func37, Tryd.ntmps37
        go_wp2
        go_loopg [1, 6, 8] k (fun kq v1 v6 v8 w' => ∃ (x1_1 : Int) (x6_1 : Int) (x8_1 : Int), v1 = .int .i64 x1_1 ∧ v6 = .int .i64 x6_1 ∧ v8 = .int .i64 x8_1 ∧ Aside0 (numeral_exponent.l0 kq a0 x1_1 x6_1 (-1) x8_1 = some (r1, r2)) ∧ Aside0 (kq ≤ k) ∧ Aside0 (Below w.heap.size w w'))
        case atStart => exact ⟨(wrap64 ((ji9) + 1)), (a1), (0), qnd61_, qnd2_, qnd2_, H', ⟨Nat.le_refl _⟩, ⟨qnd1_⟩⟩
        case round =>
         clear H'
         (try clear c1); (try clear p1); (try clear q1); (try clear hx1); (try clear p2); (try clear c3); (try clear c3b0); (try clear c3b1); (try clear c4); (try clear c4b0); (try clear c5); (try clear c5b0); (try clear p6); (try clear q6); (try clear hx6); (try clear c7); (try clear c7b0); (try clear c7b1); (try clear c8); (try clear c8b0); (try clear c10); (try clear c10b0); (try clear p11); (try clear q11)
         (try clear hx11); (try clear c12); (try clear c12b0); (try clear c12b1); (try clear p13); (try clear q13); (try clear hx13); (try clear p11); (try clear p13); (try clear p6); (try clear q11); (try clear q13); (try clear q6)
         obtain ⟨x1_1, x6_1, x8_1, rfl, rfl, rfl, HA, HK1, HB⟩ := hrel
         cases gk with
         | zero => exact absurd HA.out (by simp [numeral_exponent.l0])
         | succ k1 =>
          have H := HA.out
          clear HA
          simp only [numeral_exponent.l0] at H
          by_cases c14 : x1_1 < (a0.size : Int)
          ·
           rw [if_pos c14] at H
           have c14b0 : decide (x1_1 < (a0.size : Int)) = true := decide_eq_true c14
           clear c14
           by_cases c15 : 0 ≤ x1_1
           ·
            rw [if_pos c15] at H
            have c15b0 : decide (0 ≤ x1_1) = true := decide_eq_true c15
            clear c15
            replace H := Option.bind_eq_some_iff.mp H
            obtain ⟨t140, A170, H⟩ := H
            replace H : (if t140 = true then (numeral_exponent.l0 k1 a0 (wrap64 (x1_1 + 1)) (wrap64 (x1_1 + 1)) (-1) (mn (wrap64 ((wrap64 (x8_1 * 10)) + (((bt a0 x1_1) - 48) % 256))) 1099511627776)) else (some (wrap64 ((-1) * x8_1), x6_1))) = some (r1, r2) := H
            have A17 := Aside0.mk A170
            clear A170
            by_cases c18 : t140 = true
            ·
             subst c18
             have H1 : (numeral_exponent.l0 k1 a0 (wrap64 (x1_1 + 1)) (wrap64 (x1_1 + 1)) (-1) (mn (wrap64 ((wrap64 (x8_1 * 10)) + (((bt a0 x1_1) - 48) % 256))) 1099511627776)) = some (r1, r2) := by rw [if_pos rfl] at H; exact H
             clear H
             have H := H1
             clear H1
             obtain ⟨ji20, hji20⟩ : ∃ j_ : Int, (mn (wrap64 ((wrap64 (x8_1 * 10)) + (((bt a0 x1_1) - 48) % 256))) 1099511627776) = j_ := ⟨_, rfl⟩
             replace H : (numeral_exponent.l0 k1 a0 (wrap64 (x1_1 + 1)) (wrap64 (x1_1 + 1)) (-1) ji20) = some (r1, r2) := by first | (rw [hji20] at H; exact H) | (simp only [hji20] at H ⊢; exact H)
             (try rw [hji20] at A17)
             have hji20_ : (if 1099511627776 < (wrap64 ((wrap64 (x8_1 * 10)) + (((bt a0 x1_1) - 48) % 256))) then 1099511627776 else (wrap64 ((wrap64 (x8_1 * 10)) + (((bt a0 x1_1) - 48) % 256)))) = ji20 := hji20
             have H' := Aside0.mk H
             clear H
             have p16 : 0 ≤ (x1_1 : Int) := of_decide_eq_true qnd3_
             have q16 : x1_1 < (a0.size : Int) := of_decide_eq_true qnd3_
             have hx16 := bt_at a0 x1_1
             replace p16 := eq_true p16
             replace q16 := eq_true q16
             go_wp2_with (first | (go_at_call 68; (with_reducible refine (numeral_digit.calls (bt a0 x1_1) true _ A17.out).mono ?_); rintro e w' ⟨rfl, ⟨nd, rfl⟩⟩; have p19 : 0 ≤ (x1_1 : Int) := of_decide_eq_true qnd3_; have q19 : x1_1 < (a0.size : Int) := of_decide_eq_true qnd3_; have hx19 := bt_at a0 x1_1; replace p19 := eq_true p19; replace q19 := eq_true q19))
             go_roundg k1
             case measure => have := HK1.out; omega
             case rel => exact ⟨(wrap64 (x1_1 + 1)), (wrap64 (x1_1 + 1)), (ji20), qnd2_, qnd2_, (by first | rfl | (simp; done) | (simp only [← hji20] <;> (first | rfl | simp); done) | (simp [*]; done) | (simp; simp only [eq_iff_iff, iff_true] at *; omega) | (exfalso; simp_all; done)), H', ⟨by have := HK1.out; omega⟩, ⟨qnd1_⟩⟩
            ·
             replace c18 := Bool.eq_false_iff.mpr c18
             subst c18
             have H1 : (some (wrap64 ((-1) * x8_1), x6_1)) = some (r1, r2) := by rw [if_neg (show ¬ (false = true) by decide)] at H; exact H
             clear H
             have H := H1
             clear H1
             simp only [Option.some.injEq, Prod.mk.injEq] at H
             obtain ⟨rfl, rfl⟩ := H
             have p16 : 0 ≤ (x1_1 : Int) := of_decide_eq_true qnd3_
             have q16 : x1_1 < (a0.size : Int) := of_decide_eq_true qnd3_
             have hx16 := bt_at a0 x1_1
             replace p16 := eq_true p16
             replace q16 := eq_true q16
             go_wp2_with (first | (go_at_call 68; (with_reducible refine (numeral_digit.calls (bt a0 x1_1) false _ A17.out).mono ?_); rintro e w' ⟨rfl, ⟨nd, rfl⟩⟩))
             go_ret2
             exact ⟨qnd45_, qnd1_⟩
           ·
            rw [if_neg c15] at H
            exact absurd H (by simp)
          ·
           rw [if_neg c14] at H
           have c14b0 : decide (x1_1 < (a0.size : Int)) = false := decide_eq_false c14
           clear c14
           simp only [Option.some.injEq, Prod.mk.injEq] at H
           obtain ⟨rfl, rfl⟩ := H
           go_wp2
           go_ret2
           exact ⟨qnd45_, qnd1_⟩
       ·
        rw [if_neg c12] at H
        have c12b0 : ((bt a0 (ji9)) == 45) = false := beq_eq_false_iff_ne.mpr c12
        have c12b1 : ((bt a0 (ji9)) != 45) = true := bne_iff_ne.mpr c12
        by_cases c22 : (bt a0 (ji9)) = 43
        ·
         rw [if_pos c22] at H
         have c22b0 : ((bt a0 (ji9)) == 43) = true := beq_iff_eq.mpr c22
         have c22b1 : ((bt a0 (ji9)) != 43) = false := bne_eq_false_iff_eq.mpr c22
         clear c22
         have H' := Aside0.mk H
         clear H
         have p6 : 0 ≤ (a1 : Int) := of_decide_eq_true qnd3_
         have q6 : a1 < (a0.size : Int) := of_decide_eq_true qnd3_
         have hx6 := bt_at a0 a1
         replace p6 := eq_true p6
         replace q6 := eq_true q6
         have p11 : 0 ≤ ((ji9) : Int) := of_decide_eq_true qnd3_
         have q11 : (ji9) < (a0.size : Int) := of_decide_eq_true qnd3_
         have hx11 := bt_at a0 (ji9)
         replace p11 := eq_true p11
         replace q11 := eq_true q11
         have p21 : 0 ≤ ((ji9) : Int) := of_decide_eq_true qnd3_
         have q21 : (ji9) < (a0.size : Int) := of_decide_eq_true qnd3_
         have hx21 := bt_at a0 (ji9)
         replace p21 := eq_true p21
         replace q21 := eq_true q21
         have p23 : 0 ≤ ((ji9) : Int) := of_decide_eq_true qnd3_
         have q23 : (ji9) < (a0.size : Int) := of_decide_eq_true qnd3_
         have hx23 := bt_at a0 (ji9)
         replace p23 := eq_true p23
         replace q23 := eq_true q23
         go_enter Tryd.func37, Tryd.ntmps37
         go_wp2
         go_loopg [1, 6, 8] k (fun kq v1 v6 v8 w' => ∃ (x1_1 : Int) (x6_1 : Int) (x8_1 : Int), v1 = .int .i64 x1_1 ∧ v6 = .int .i64 x6_1 ∧ v8 = .int .i64 x8_1 ∧ Aside0 (numeral_exponent.l0 kq a0 x1_1 x6_1 1 x8_1 = some (r1, r2)) ∧ Aside0 (kq ≤ k) ∧ Aside0 (Below w.heap.size w w'))
         case atStart => exact ⟨(wrap64 ((ji9) + 1)), (a1), (0), qnd61_, qnd2_, qnd2_, H', ⟨Nat.le_refl _⟩, ⟨qnd1_⟩⟩
         case round =>
          clear H'
          (try clear c1); (try clear p1); (try clear q1); (try clear hx1); (try clear c2); (try clear p2); (try clear q2); (try clear hx2); (try clear c3); (try clear c3b0); (try clear c3b1); (try clear c4); (try clear c4b0); (try clear c5); (try clear c5b0); (try clear p6); (try clear q6); (try clear hx6); (try clear c7); (try clear c7b0); (try clear c7b1); (try clear c8); (try clear c8b0); (try clear c10)
          (try clear c10b0); (try clear p11); (try clear q11); (try clear hx11); (try clear c12); (try clear c12b0); (try clear c12b1); (try clear p13); (try clear q13); (try clear hx13); (try clear c14); (try clear c14b0); (try clear c15); (try clear c15b0); (try clear p16); (try clear q16); (try clear hx16); (try clear c18); (try clear p19); (try clear q19); (try clear hx19); (try clear p21); (try clear q21)
          (try clear hx21); (try clear c22); (try clear c22b0); (try clear c22b1); (try clear p23); (try clear q23); (try clear hx23); (try clear p1); (try clear p11); (try clear p13); (try clear p16); (try clear p19); (try clear p2); (try clear p21); (try clear p23); (try clear p6); (try clear q1); (try clear q11); (try clear q13); (try clear q16); (try clear q19); (try clear q21); (try clear q23)
          (try clear q6)
          obtain ⟨x1_1, x6_1, x8_1, rfl, rfl, rfl, HA, HK1, HB⟩ := hrel
          cases gk with
          | zero => exact absurd HA.out (by simp [numeral_exponent.l0])
          | succ k1 =>
           have H := HA.out
           clear HA
           simp only [numeral_exponent.l0] at H
           by_cases c24 : x1_1 < (a0.size : Int)
           ·
            rw [if_pos c24] at H
            have c24b0 : decide (x1_1 < (a0.size : Int)) = true := decide_eq_true c24
            clear c24
            by_cases c25 : 0 ≤ x1_1
            ·
             rw [if_pos c25] at H
             have c25b0 : decide (0 ≤ x1_1) = true := decide_eq_true c25
             clear c25
             replace H := Option.bind_eq_some_iff.mp H
             obtain ⟨t140, A270, H⟩ := H
             replace H : (if t140 = true then (numeral_exponent.l0 k1 a0 (wrap64 (x1_1 + 1)) (wrap64 (x1_1 + 1)) 1 (mn (wrap64 ((wrap64 (x8_1 * 10)) + (((bt a0 x1_1) - 48) % 256))) 1099511627776)) else (some (wrap64 (1 * x8_1), x6_1))) = some (r1, r2) := H
             have A27 := Aside0.mk A270
             clear A270
             by_cases c28 : t140 = true
             ·
              subst c28
              have H1 : (numeral_exponent.l0 k1 a0 (wrap64 (x1_1 + 1)) (wrap64 (x1_1 + 1)) 1 (mn (wrap64 ((wrap64 (x8_1 * 10)) + (((bt a0 x1_1) - 48) % 256))) 1099511627776)) = some (r1, r2) := by rw [if_pos rfl] at H; exact H
              clear H
              have H := H1
              clear H1
              obtain ⟨ji30, hji30⟩ : ∃ j_ : Int, (mn (wrap64 ((wrap64 (x8_1 * 10)) + (((bt a0 x1_1) - 48) % 256))) 1099511627776) = j_ := ⟨_, rfl⟩
              replace H : (numeral_exponent.l0 k1 a0 (wrap64 (x1_1 + 1)) (wrap64 (x1_1 + 1)) 1 ji30) = some (r1, r2) := by first | (rw [hji30] at H; exact H) | (simp only [hji30] at H ⊢; exact H)
              (try rw [hji30] at A27)
              have hji30_ : (if 1099511627776 < (wrap64 ((wrap64 (x8_1 * 10)) + (((bt a0 x1_1) - 48) % 256))) then 1099511627776 else (wrap64 ((wrap64 (x8_1 * 10)) + (((bt a0 x1_1) - 48) % 256)))) = ji30 := hji30
              have H' := Aside0.mk H
              clear H
              have p26 : 0 ≤ (x1_1 : Int) := of_decide_eq_true qnd3_
              have q26 : x1_1 < (a0.size : Int) := of_decide_eq_true qnd3_
              have hx26 := bt_at a0 x1_1
              replace p26 := eq_true p26
              replace q26 := eq_true q26
              go_wp2_with (first | (go_at_call 68; (with_reducible refine (numeral_digit.calls (bt a0 x1_1) true _ A27.out).mono ?_); rintro e w' ⟨rfl, ⟨nd, rfl⟩⟩; have p29 : 0 ≤ (x1_1 : Int) := of_decide_eq_true qnd3_; have q29 : x1_1 < (a0.size : Int) := of_decide_eq_true qnd3_; have hx29 := bt_at a0 x1_1; replace p29 := eq_true p29; replace q29 := eq_true q29))
              go_roundg k1
              case measure => have := HK1.out; omega
              case rel => exact ⟨(wrap64 (x1_1 + 1)), (wrap64 (x1_1 + 1)), (ji30), qnd2_, qnd2_, (by first | rfl | (simp; done) | (simp only [← hji30] <;> (first | rfl | simp); done) | (simp [*]; done) | (simp; simp only [eq_iff_iff, iff_true] at *; omega) | (exfalso; simp_all; done)), H', ⟨by have := HK1.out; omega⟩, ⟨qnd1_⟩⟩
             ·
              replace c28 := Bool.eq_false_iff.mpr c28
              subst c28
              have H1 : (some (wrap64 (1 * x8_1), x6_1)) = some (r1, r2) := by rw [if_neg (show ¬ (false = true) by decide)] at H; exact H
              clear H
              have H := H1
              clear H1
              simp only [Option.some.injEq, Prod.mk.injEq] at H
              obtain ⟨rfl, rfl⟩ := H
              have p26 : 0 ≤ (x1_1 : Int) := of_decide_eq_true qnd3_
              have q26 : x1_1 < (a0.size : Int) := of_decide_eq_true qnd3_
              have hx26 := bt_at a0 x1_1
              replace p26 := eq_true p26
              replace q26 := eq_true q26
              go_wp2_with (first | (go_at_call 68; (with_reducible refine (numeral_digit.calls (bt a0 x1_1) false _ A27.out).mono ?_); rintro e w' ⟨rfl, ⟨nd, rfl⟩⟩))
              go_ret2
              exact ⟨qnd45_, qnd1_⟩
            ·
             rw [if_neg c25] at H
             exact absurd H (by simp)
           ·
            rw [if_neg c24] at H
            have c24b0 : decide (x1_1 < (a0.size : Int)) = false := decide_eq_false c24
            clear c24
            simp only [Option.some.injEq, Prod.mk.injEq] at H
            obtain ⟨rfl, rfl⟩ := H
            go_wp2
            go_ret2
            exact ⟨qnd45_, qnd1_⟩
        ·
         rw [if_neg c22] at H
         have c22b0 : ((bt a0 (ji9)) == 43) = false := beq_eq_false_iff_ne.mpr c22
         have c22b1 : ((bt a0 (ji9)) != 43) = true := bne_iff_ne.mpr c22
         have H' := Aside0.mk H
         clear H
         have p6 : 0 ≤ (a1 : Int) := of_decide_eq_true qnd3_
         have q6 : a1 < (a0.size : Int) := of_decide_eq_true qnd3_
         have hx6 := bt_at a0 a1
         replace p6 := eq_true p6
         replace q6 := eq_true q6
         have p11 : 0 ≤ ((ji9) : Int) := of_decide_eq_true qnd3_
         have q11 : (ji9) < (a0.size : Int) := of_decide_eq_true qnd3_
         have hx11 := bt_at a0 (ji9)
         replace p11 := eq_true p11
         replace q11 := eq_true q11
         have p21 : 0 ≤ ((ji9) : Int) := of_decide_eq_true qnd3_
         have q21 : (ji9) < (a0.size : Int) := of_decide_eq_true qnd3_
         have hx21 := bt_at a0 (ji9)
         replace p21 := eq_true p21
         replace q21 := eq_true q21
         go_enter Tryd.func37, Tryd.ntmps37
         go_wp2
         go_loopg [1, 6, 8] k (fun kq v1 v6 v8 w' => ∃ (x1_1 : Int) (x6_1 : Int) (x8_1 : Int), v1 = .int .i64 x1_1 ∧ v6 = .int .i64 x6_1 ∧ v8 = .int .i64 x8_1 ∧ Aside0 (numeral_exponent.l0 kq a0 x1_1 x6_1 1 x8_1 = some (r1, r2)) ∧ Aside0 (kq ≤ k) ∧ Aside0 (Below w.heap.size w w'))
         case atStart => exact ⟨(ji9), (a1), (0), qnd61_, qnd2_, qnd2_, H', ⟨Nat.le_refl _⟩, ⟨qnd1_⟩⟩
         case round =>
          clear H'
          (try clear c1); (try clear p1); (try clear q1); (try clear hx1); (try clear c2); (try clear p2); (try clear q2); (try clear hx2); (try clear c3); (try clear c3b0); (try clear c3b1); (try clear c4); (try clear c4b0); (try clear c5); (try clear c5b0); (try clear p6); (try clear q6); (try clear hx6); (try clear c7); (try clear c7b0); (try clear c7b1); (try clear c8); (try clear c8b0); (try clear c10)
          (try clear c10b0); (try clear p11); (try clear q11); (try clear hx11); (try clear c12); (try clear c12b0); (try clear c12b1); (try clear p13); (try clear q13); (try clear hx13); (try clear c14); (try clear c14b0); (try clear c15); (try clear c15b0); (try clear p16); (try clear q16); (try clear hx16); (try clear c18); (try clear p19); (try clear q19); (try clear hx19); (try clear p21); (try clear q21)
          (try clear hx21); (try clear c22); (try clear c22b0); (try clear c22b1); (try clear p23); (try clear q23); (try clear hx23); (try clear c24); (try clear c24b0); (try clear c25); (try clear c25b0); (try clear p26); (try clear q26); (try clear hx26); (try clear c28); (try clear p29); (try clear q29); (try clear hx29); (try clear p1); (try clear p11); (try clear p13); (try clear p16); (try clear p19)
          (try clear p2); (try clear p21); (try clear p23); (try clear p26); (try clear p29); (try clear p6); (try clear q1); (try clear q11); (try clear q13); (try clear q16); (try clear q19); (try clear q2); (try clear q21); (try clear q23); (try clear q26); (try clear q29); (try clear q6)
          obtain ⟨x1_1, x6_1, x8_1, rfl, rfl, rfl, HA, HK1, HB⟩ := hrel
          cases gk with
          | zero => exact absurd HA.out (by simp [numeral_exponent.l0])
          | succ k1 =>
           have H := HA.out
           clear HA
           simp only [numeral_exponent.l0] at H
           by_cases c31 : x1_1 < (a0.size : Int)
           ·
            rw [if_pos c31] at H
            have c31b0 : decide (x1_1 < (a0.size : Int)) = true := decide_eq_true c31
            clear c31
            by_cases c32 : 0 ≤ x1_1
            ·
             rw [if_pos c32] at H
             have c32b0 : decide (0 ≤ x1_1) = true := decide_eq_true c32
             clear c32
             replace H := Option.bind_eq_some_iff.mp H
             obtain ⟨t140, A340, H⟩ := H
             replace H : (if t140 = true then (numeral_exponent.l0 k1 a0 (wrap64 (x1_1 + 1)) (wrap64 (x1_1 + 1)) 1 (mn (wrap64 ((wrap64 (x8_1 * 10)) + (((bt a0 x1_1) - 48) % 256))) 1099511627776)) else (some (wrap64 (1 * x8_1), x6_1))) = some (r1, r2) := H
             have A34 := Aside0.mk A340
             clear A340
             by_cases c35 : t140 = true
             ·
              subst c35
              have H1 : (numeral_exponent.l0 k1 a0 (wrap64 (x1_1 + 1)) (wrap64 (x1_1 + 1)) 1 (mn (wrap64 ((wrap64 (x8_1 * 10)) + (((bt a0 x1_1) - 48) % 256))) 1099511627776)) = some (r1, r2) := by rw [if_pos rfl] at H; exact H
              clear H
              have H := H1
              clear H1
              obtain ⟨ji37, hji37⟩ : ∃ j_ : Int, (mn (wrap64 ((wrap64 (x8_1 * 10)) + (((bt a0 x1_1) - 48) % 256))) 1099511627776) = j_ := ⟨_, rfl⟩
              replace H : (numeral_exponent.l0 k1 a0 (wrap64 (x1_1 + 1)) (wrap64 (x1_1 + 1)) 1 ji37) = some (r1, r2) := by first | (rw [hji37] at H; exact H) | (simp only [hji37] at H ⊢; exact H)
              (try rw [hji37] at A34)
              have hji37_ : (if 1099511627776 < (wrap64 ((wrap64 (x8_1 * 10)) + (((bt a0 x1_1) - 48) % 256))) then 1099511627776 else (wrap64 ((wrap64 (x8_1 * 10)) + (((bt a0 x1_1) - 48) % 256)))) = ji37 := hji37
              have H' := Aside0.mk H
              clear H
              have p33 : 0 ≤ (x1_1 : Int) := of_decide_eq_true qnd3_
              have q33 : x1_1 < (a0.size : Int) := of_decide_eq_true qnd3_
              have hx33 := bt_at a0 x1_1
              replace p33 := eq_true p33
              replace q33 := eq_true q33
              go_wp2_with (first | (go_at_call 68; (with_reducible refine (numeral_digit.calls (bt a0 x1_1) true _ A34.out).mono ?_); rintro e w' ⟨rfl, ⟨nd, rfl⟩⟩; have p36 : 0 ≤ (x1_1 : Int) := of_decide_eq_true qnd3_; have q36 : x1_1 < (a0.size : Int) := of_decide_eq_true qnd3_; have hx36 := bt_at a0 x1_1; replace p36 := eq_true p36; replace q36 := eq_true q36))
              go_roundg k1
              case measure => have := HK1.out; omega
              case rel => exact ⟨(wrap64 (x1_1 + 1)), (wrap64 (x1_1 + 1)), (ji37), qnd2_, qnd2_, (by first | rfl | (simp; done) | (simp only [← hji37] <;> (first | rfl | simp); done) | (simp [*]; done) | (simp; simp only [eq_iff_iff, iff_true] at *; omega) | (exfalso; simp_all; done)), H', ⟨by have := HK1.out; omega⟩, ⟨qnd1_⟩⟩
             ·
              replace c35 := Bool.eq_false_iff.mpr c35
              subst c35
              have H1 : (some (wrap64 (1 * x8_1), x6_1)) = some (r1, r2) := by rw [if_neg (show ¬ (false = true) by decide)] at H; exact H
              clear H
              have H := H1
              clear H1
              simp only [Option.some.injEq, Prod.mk.injEq] at H
              obtain ⟨rfl, rfl⟩ := H
              have p33 : 0 ≤ (x1_1 : Int) := of_decide_eq_true qnd3_
              have q33 : x1_1 < (a0.size : Int) := of_decide_eq_true qnd3_
              have hx33 := bt_at a0 x1_1
              replace p33 := eq_true p33
              replace q33 := eq_true q33
              go_wp2_with (first | (go_at_call 68; (with_reducible refine (numeral_digit.calls (bt a0 x1_1) false _ A34.out).mono ?_); rintro e w' ⟨rfl, ⟨nd, rfl⟩⟩))
              go_ret2
              exact ⟨qnd45_, qnd1_⟩
            ·
             rw [if_neg c32] at H
             exact absurd H (by simp)
           ·
            rw [if_neg c31] at H
            have c31b0 : decide (x1_1 < (a0.size : Int)) = false := decide_eq_false c31
            clear c31
            simp only [Option.some.injEq, Prod.mk.injEq] at H
            obtain ⟨rfl, rfl⟩ := H
            go_wp2
            go_ret2
            exact ⟨qnd45_, qnd1_⟩
      ·
       rw [if_neg c10] at H
       exact absurd H (by simp)
     ·
      rw [if_neg c8] at H
      have c8b0 : decide ((wrap64 (a1 + 1)) < (a0.size : Int)) = false := decide_eq_false c8
      clear c8
      have H' := Aside0.mk H
      clear H
      have p6 : 0 ≤ (a1 : Int) := of_decide_eq_true qnd3_
      have q6 : a1 < (a0.size : Int) := of_decide_eq_true qnd3_
      have hx6 := bt_at a0 a1
      replace p6 := eq_true p6
      replace q6 := eq_true q6
      go_enter Tryd.func37, Tryd.ntmps37
      go_wp2
      go_loopg [1, 6, 8] k (fun kq v1 v6 v8 w' => ∃ (x1_1 : Int) (x6_1 : Int) (x8_1 : Int), v1 = .int .i64 x1_1 ∧ v6 = .int .i64 x6_1 ∧ v8 = .int .i64 x8_1 ∧ Aside0 (numeral_exponent.l0 kq a0 x1_1 x6_1 1 x8_1 = some (r1, r2)) ∧ Aside0 (kq ≤ k) ∧ Aside0 (Below w.heap.size w w'))
      case atStart => exact ⟨(wrap64 (a1 + 1)), (a1), (0), qnd2_, qnd2_, qnd2_, H', ⟨Nat.le_refl _⟩, ⟨qnd1_⟩⟩
      case round =>
       clear H'
       (try clear c1); (try clear p1); (try clear q1); (try clear hx1); (try clear c2); (try clear p2); (try clear q2); (try clear hx2); (try clear c3); (try clear c3b0); (try clear c3b1); (try clear p3); (try clear q3); (try clear hx3); (try clear c4); (try clear c4b0); (try clear c5); (try clear c5b0); (try clear p6); (try clear q6); (try clear hx6); (try clear c7); (try clear c7b0); (try clear c7b1)
       (try clear c8); (try clear c8b0); (try clear c10); (try clear c10b0); (try clear p11); (try clear q11); (try clear hx11); (try clear c12); (try clear c12b0); (try clear c12b1); (try clear p13); (try clear q13); (try clear hx13); (try clear c14); (try clear c14b0); (try clear c15); (try clear c15b0); (try clear p16); (try clear q16); (try clear hx16); (try clear c18); (try clear p19); (try clear q19)
       (try clear hx19); (try clear p21); (try clear q21); (try clear hx21); (try clear c22); (try clear c22b0); (try clear c22b1); (try clear p23); (try clear q23); (try clear hx23); (try clear c24); (try clear c24b0); (try clear c25); (try clear c25b0); (try clear p26); (try clear q26); (try clear hx26); (try clear c28); (try clear p29); (try clear q29); (try clear hx29); (try clear c31); (try clear c31b0)
       (try clear c32); (try clear c32b0); (try clear p33); (try clear q33); (try clear hx33); (try clear c35); (try clear p36); (try clear q36); (try clear hx36); (try clear c37); (try clear p1); (try clear p11); (try clear p13); (try clear p16); (try clear p19); (try clear p2); (try clear p21); (try clear p23); (try clear p26); (try clear p29); (try clear p33); (try clear p36); (try clear p6); (try clear q1)
       (try clear q11); (try clear q13); (try clear q16); (try clear q19); (try clear q2); (try clear q21); (try clear q23); (try clear q26); (try clear q29); (try clear q33); (try clear q36); (try clear q6)
       obtain ⟨x1_1, x6_1, x8_1, rfl, rfl, rfl, HA, HK1, HB⟩ := hrel
       cases gk with
       | zero => exact absurd HA.out (by simp [numeral_exponent.l0])
       | succ k1 =>
        have H := HA.out
        clear HA
        simp only [numeral_exponent.l0] at H
        by_cases c38 : x1_1 < (a0.size : Int)
        ·
         rw [if_pos c38] at H
         have c38b0 : decide (x1_1 < (a0.size : Int)) = true := decide_eq_true c38
         clear c38
         by_cases c39 : 0 ≤ x1_1
         ·
          rw [if_pos c39] at H
          have c39b0 : decide (0 ≤ x1_1) = true := decide_eq_true c39
          clear c39
          replace H := Option.bind_eq_some_iff.mp H
          obtain ⟨t140, A410, H⟩ := H
          replace H : (if t140 = true then (numeral_exponent.l0 k1 a0 (wrap64 (x1_1 + 1)) (wrap64 (x1_1 + 1)) 1 (mn (wrap64 ((wrap64 (x8_1 * 10)) + (((bt a0 x1_1) - 48) % 256))) 1099511627776)) else (some (wrap64 (1 * x8_1), x6_1))) = some (r1, r2) := H
          have A41 := Aside0.mk A410
          clear A410
          by_cases c42 : t140 = true
          ·
           subst c42
           have H1 : (numeral_exponent.l0 k1 a0 (wrap64 (x1_1 + 1)) (wrap64 (x1_1 + 1)) 1 (mn (wrap64 ((wrap64 (x8_1 * 10)) + (((bt a0 x1_1) - 48) % 256))) 1099511627776)) = some (r1, r2) := by rw [if_pos rfl] at H; exact H
           clear H
           have H := H1
           clear H1
           obtain ⟨ji44, hji44⟩ : ∃ j_ : Int, (mn (wrap64 ((wrap64 (x8_1 * 10)) + (((bt a0 x1_1) - 48) % 256))) 1099511627776) = j_ := ⟨_, rfl⟩
           replace H : (numeral_exponent.l0 k1 a0 (wrap64 (x1_1 + 1)) (wrap64 (x1_1 + 1)) 1 ji44) = some (r1, r2) := by first | (rw [hji44] at H; exact H) | (simp only [hji44] at H ⊢; exact H)
           (try rw [hji44] at A41)
           have hji44_ : (if 1099511627776 < (wrap64 ((wrap64 (x8_1 * 10)) + (((bt a0 x1_1) - 48) % 256))) then 1099511627776 else (wrap64 ((wrap64 (x8_1 * 10)) + (((bt a0 x1_1) - 48) % 256)))) = ji44 := hji44
           have H' := Aside0.mk H
           clear H
           have p40 : 0 ≤ (x1_1 : Int) := of_decide_eq_true qnd3_
           have q40 : x1_1 < (a0.size : Int) := of_decide_eq_true qnd3_
           have hx40 := bt_at a0 x1_1
           replace p40 := eq_true p40
           replace q40 := eq_true q40
           go_wp2_with (first | (go_at_call 68; (with_reducible refine (numeral_digit.calls (bt a0 x1_1) true _ A41.out).mono ?_); rintro e w' ⟨rfl, ⟨nd, rfl⟩⟩; have p43 : 0 ≤ (x1_1 : Int) := of_decide_eq_true qnd3_; have q43 : x1_1 < (a0.size : Int) := of_decide_eq_true qnd3_; have hx43 := bt_at a0 x1_1; replace p43 := eq_true p43; replace q43 := eq_true q43))
           go_roundg k1
           case measure => have := HK1.out; omega
           case rel => exact ⟨(wrap64 (x1_1 + 1)), (wrap64 (x1_1 + 1)), (ji44), qnd2_, qnd2_, (by first | rfl | (simp; done) | (simp only [← hji44] <;> (first | rfl | simp); done) | (simp [*]; done) | (simp; simp only [eq_iff_iff, iff_true] at *; omega) | (exfalso; simp_all; done)), H', ⟨by have := HK1.out; omega⟩, ⟨qnd1_⟩⟩
          ·
           replace c42 := Bool.eq_false_iff.mpr c42
           subst c42
           have H1 : (some (wrap64 (1 * x8_1), x6_1)) = some (r1, r2) := by rw [if_neg (show ¬ (false = true) by decide)] at H; exact H
           clear H
           have H := H1
           clear H1
           simp only [Option.some.injEq, Prod.mk.injEq] at H
           obtain ⟨rfl, rfl⟩ := H
           have p40 : 0 ≤ (x1_1 : Int) := of_decide_eq_true qnd3_
           have q40 : x1_1 < (a0.size : Int) := of_decide_eq_true qnd3_
           have hx40 := bt_at a0 x1_1
           replace p40 := eq_true p40
           replace q40 := eq_true q40
           go_wp2_with (first | (go_at_call 68; (with_reducible refine (numeral_digit.calls (bt a0 x1_1) false _ A41.out).mono ?_); rintro e w' ⟨rfl, ⟨nd, rfl⟩⟩))
           go_ret2
           exact ⟨qnd5_, qnd1_⟩
         ·
          rw [if_neg c39] at H
          exact absurd H (by simp)
        ·
         rw [if_neg c38] at H
         have c38b0 : decide (x1_1 < (a0.size : Int)) = false := decide_eq_false c38
         clear c38
         simp only [Option.some.injEq, Prod.mk.injEq] at H
         obtain ⟨rfl, rfl⟩ := H
         go_wp2
         go_ret2
         exact ⟨qnd5_, qnd1_⟩
    ·
     rw [if_neg c7] at H
     have c7b0 : ((Go.bits .or .u8 (bt a0 a1) 32) == 101) = false := beq_eq_false_iff_ne.mpr c7
     have c7b1 : ((Go.bits .or .u8 (bt a0 a1) 32) != 101) = true := bne_iff_ne.mpr c7
     simp only [Option.some.injEq, Prod.mk.injEq] at H
     obtain ⟨rfl, rfl⟩ := H
     have p6 : 0 ≤ (a1 : Int) := of_decide_eq_true qnd3_
     have q6 : a1 < (a0.size : Int) := of_decide_eq_true qnd3_
     have hx6 := bt_at a0 a1
     replace p6 := eq_true p6
     replace q6 := eq_true q6
     go_enter Tryd.func37, Tryd.ntmps37
     go_wp2
     go_ret2
     exact ⟨qnd5_, qnd1_⟩
   ·
    rw [if_neg c5] at H
    exact absurd H (by simp)
  ·
   rw [if_neg c4] at H
   exact absurd H (by simp)


/-! ### numeral_digits: function 38 -/
def numeral_digits.f (k : Nat) (a0 : ByteArray) (a1 : ByteArray) (a2 : Int) : Option (ByteArray × Int) := (strings_TrimLeft.f k a0 (⟨#[48]⟩ : ByteArray)).bind fun t141 => (if t141.toList = ([] : List UInt8) then ((strings_TrimLeft.f k a1 (⟨#[48]⟩ : ByteArray)).bind fun t142 => ((strings_TrimRight.f k t142 (⟨#[48]⟩ : ByteArray)).bind fun t143 => (if t143.toList = ([] : List UInt8) then (some ((⟨#[]⟩ : ByteArray), 0)) else (some (t143, wrap64 ((wrap64 ((t142.size : Int) - (a1.size : Int))) + a2)))))) else (if t141.size + a1.size ≤ 9223372036854775807 then ((strings_TrimRight.f k (t141 ++ a1) (⟨#[48]⟩ : ByteArray)).bind fun t144 => (if t144.toList = ([] : List UInt8) then (some ((⟨#[]⟩ : ByteArray), 0)) else (some (t144, wrap64 ((t141.size : Int) + a2))))) else (none)))
set_option maxHeartbeats 8000000 in
set_option maxRecDepth 100000 in
theorem numeral_digits.calls (k : Nat) (a0 : ByteArray) (a1 : ByteArray) (a2 : Int) (r1 : ByteArray) (r2 : Int) (w : World) (h : numeral_digits.f k a0 a1 a2 = some (r1, r2)) :
  Calls Tryd.prog 38 #[.string a0, .string a1, .int .i64 a2] w fun e w' => e = .returned (.tuple #[.string r1, .int .i64 r2]) ∧ Below w.heap.size w w' := by
 have HB := Aside0.mk (Below.refl w.heap.size w)
 have H : ((strings_TrimLeft.f k a0 (⟨#[48]⟩ : ByteArray)).bind fun t141 => (if t141.toList = ([] : List UInt8) then ((strings_TrimLeft.f k a1 (⟨#[48]⟩ : ByteArray)).bind fun t142 => ((strings_TrimRight.f k t142 (⟨#[48]⟩ : ByteArray)).bind fun t143 => (if t143.toList = ([] : List UInt8) then (some ((⟨#[]⟩ : ByteArray), 0)) else (some (t143, wrap64 ((wrap64 ((t142.size : Int) - (a1.size : Int))) + a2)))))) else (if t141.size + a1.size ≤ 9223372036854775807 then ((strings_TrimRight.f k (t141 ++ a1) (⟨#[48]⟩ : ByteArray)).bind fun t144 => (if t144.toList = ([] : List UInt8) then (some ((⟨#[]⟩ : ByteArray), 0)) else (some (t144, wrap64 ((t141.size : Int) + a2))))) else (none)))) = some (r1, r2) := h
 clear h
 replace H := Option.bind_eq_some_iff.mp H
 obtain ⟨t141, A40, H⟩ := H
 replace H : (if t141.toList = ([] : List UInt8) then ((strings_TrimLeft.f k a1 (⟨#[48]⟩ : ByteArray)).bind fun t142 => ((strings_TrimRight.f k t142 (⟨#[48]⟩ : ByteArray)).bind fun t143 => (if t143.toList = ([] : List UInt8) then (some ((⟨#[]⟩ : ByteArray), 0)) else (some (t143, wrap64 ((wrap64 ((t142.size : Int) - (a1.size : Int))) + a2)))))) else (if t141.size + a1.size ≤ 9223372036854775807 then ((strings_TrimRight.f k (t141 ++ a1) (⟨#[48]⟩ : ByteArray)).bind fun t144 => (if t144.toList = ([] : List UInt8) then (some ((⟨#[]⟩ : ByteArray), 0)) else (some (t144, wrap64 ((t141.size : Int) + a2))))) else (none))) = some (r1, r2) := H
 have A4 := Aside0.mk A40
 clear A40
 by_cases c5 : t141.toList = ([] : List UInt8)
 ·
  rw [if_pos c5] at H
  have c5b0 : (t141.toList == ([] : List UInt8)) = true := beq_iff_eq.mpr c5
  have c5b1 : (t141.toList != ([] : List UInt8)) = false := bne_eq_false_iff_eq.mpr c5
  clear c5
  replace H := Option.bind_eq_some_iff.mp H
  obtain ⟨t142, A60, H⟩ := H
  replace H : ((strings_TrimRight.f k t142 (⟨#[48]⟩ : ByteArray)).bind fun t143 => (if t143.toList = ([] : List UInt8) then (some ((⟨#[]⟩ : ByteArray), 0)) else (some (t143, wrap64 ((wrap64 ((t142.size : Int) - (a1.size : Int))) + a2))))) = some (r1, r2) := H
  have A6 := Aside0.mk A60
  clear A60
  replace H := Option.bind_eq_some_iff.mp H
  obtain ⟨t143, A70, H⟩ := H
  replace H : (if t143.toList = ([] : List UInt8) then (some ((⟨#[]⟩ : ByteArray), 0)) else (some (t143, wrap64 ((wrap64 ((t142.size : Int) - (a1.size : Int))) + a2)))) = some (r1, r2) := H
  have A7 := Aside0.mk A70
  clear A70
  by_cases c8 : t143.toList = ([] : List UInt8)
  ·
   rw [if_pos c8] at H
   have c8b0 : (t143.toList == ([] : List UInt8)) = true := beq_iff_eq.mpr c8
   have c8b1 : (t143.toList != ([] : List UInt8)) = false := bne_eq_false_iff_eq.mpr c8
   clear c8
   simp only [Option.some.injEq, Prod.mk.injEq] at H
   obtain ⟨rfl, rfl⟩ := H
   go_enter Tryd.func38, Tryd.ntmps38
   have tk12 : True := trivial; have tk13 : True := trivial; have tk14 : True := trivial
   go_wp2_with (first | (have ztk12 := tk12; clear tk12 ztk12; (with_reducible refine gate_callee (f := 66) rfl ?_); refine goesL_ (some 12) rfl rfl Tryd.func66 (by kernel_rfl) rfl #[.string a0, .string (⟨#[48]⟩ : ByteArray)] rfl qnd0_ ?_; (with_reducible refine (strings_TrimLeft.calls k a0 (⟨#[48]⟩ : ByteArray) t141 _ A4.out).mono ?_); rintro e w9 ⟨rfl, hb⟩; refine ⟨_, rfl, ?_⟩; have n0_ := Aside0.mk (below_step qnd1_ hb); clear HB; have HB := n0_; clear n0_; (try clear hb); (try clear hb2); (try clear hk); (try clear hi)) | (have ztk13 := tk13; clear tk13 ztk13; (with_reducible refine gate_callee (f := 66) rfl ?_); refine goesL_ (some 18) rfl rfl Tryd.func66 (by kernel_rfl) rfl #[.string a1, .string (⟨#[48]⟩ : ByteArray)] rfl qnd0_ ?_; (with_reducible refine (strings_TrimLeft.calls k a1 (⟨#[48]⟩ : ByteArray) t142 _ A6.out).mono ?_); rintro e w10 ⟨rfl, hb⟩; refine ⟨_, rfl, ?_⟩; have n0_ := Aside0.mk (below_step qnd1_ hb); clear HB; have HB := n0_; clear n0_; (try clear hb); (try clear hb2); (try clear hk); (try clear hi)) | (have ztk14 := tk14; clear tk14 ztk14; (with_reducible refine gate_callee (f := 67) rfl ?_); refine goesL_ (some 29) rfl rfl Tryd.func67 (by kernel_rfl) rfl #[.string t142, .string (⟨#[48]⟩ : ByteArray)] rfl qnd0_ ?_; (with_reducible refine (strings_TrimRight.calls k t142 (⟨#[48]⟩ : ByteArray) t143 _ A7.out).mono ?_); rintro e w11 ⟨rfl, hb⟩; refine ⟨_, rfl, ?_⟩; have n0_ := Aside0.mk (below_step qnd1_ hb); clear HB; have HB := n0_; clear n0_; (try clear hb); (try clear hb2); (try clear hk); (try clear hi)))
   go_ret2
   exact ⟨qnd5_, qnd1_⟩
  ·
   rw [if_neg c8] at H
   have c8b0 : (t143.toList == ([] : List UInt8)) = false := beq_eq_false_iff_ne.mpr c8
   have c8b1 : (t143.toList != ([] : List UInt8)) = true := bne_iff_ne.mpr c8
   simp only [Option.some.injEq, Prod.mk.injEq] at H
   obtain ⟨rfl, rfl⟩ := H
   go_enter Tryd.func38, Tryd.ntmps38
   have tk18 : True := trivial; have tk19 : True := trivial; have tk20 : True := trivial
   go_wp2_with (first | (have ztk18 := tk18; clear tk18 ztk18; (with_reducible refine gate_callee (f := 66) rfl ?_); refine goesL_ (some 12) rfl rfl Tryd.func66 (by kernel_rfl) rfl #[.string a0, .string (⟨#[48]⟩ : ByteArray)] rfl qnd0_ ?_; (with_reducible refine (strings_TrimLeft.calls k a0 (⟨#[48]⟩ : ByteArray) t141 _ A4.out).mono ?_); rintro e w15 ⟨rfl, hb⟩; refine ⟨_, rfl, ?_⟩; have n0_ := Aside0.mk (below_step qnd1_ hb); clear HB; have HB := n0_; clear n0_; (try clear hb); (try clear hb2); (try clear hk); (try clear hi)) | (have ztk19 := tk19; clear tk19 ztk19; (with_reducible refine gate_callee (f := 66) rfl ?_); refine goesL_ (some 18) rfl rfl Tryd.func66 (by kernel_rfl) rfl #[.string a1, .string (⟨#[48]⟩ : ByteArray)] rfl qnd0_ ?_; (with_reducible refine (strings_TrimLeft.calls k a1 (⟨#[48]⟩ : ByteArray) t142 _ A6.out).mono ?_); rintro e w16 ⟨rfl, hb⟩; refine ⟨_, rfl, ?_⟩; have n0_ := Aside0.mk (below_step qnd1_ hb); clear HB; have HB := n0_; clear n0_; (try clear hb); (try clear hb2); (try clear hk); (try clear hi)) | (have ztk20 := tk20; clear tk20 ztk20; (with_reducible refine gate_callee (f := 67) rfl ?_); refine goesL_ (some 29) rfl rfl Tryd.func67 (by kernel_rfl) rfl #[.string t142, .string (⟨#[48]⟩ : ByteArray)] rfl qnd0_ ?_; (with_reducible refine (strings_TrimRight.calls k t142 (⟨#[48]⟩ : ByteArray) t143 _ A7.out).mono ?_); rintro e w17 ⟨rfl, hb⟩; refine ⟨_, rfl, ?_⟩; have n0_ := Aside0.mk (below_step qnd1_ hb); clear HB; have HB := n0_; clear n0_; (try clear hb); (try clear hb2); (try clear hk); (try clear hi)))
   go_ret2
   exact ⟨qnd5_, qnd1_⟩
 ·
  rw [if_neg c5] at H
  have c5b0 : (t141.toList == ([] : List UInt8)) = false := beq_eq_false_iff_ne.mpr c5
  have c5b1 : (t141.toList != ([] : List UInt8)) = true := bne_iff_ne.mpr c5
  by_cases c21 : t141.size + a1.size ≤ 9223372036854775807
  ·
   rw [if_pos c21] at H
   have c21b0 := eq_true c21
   have c21b1 : decide (t141.size + a1.size ≤ 9223372036854775807) = true := decide_eq_true c21
   try have c21b2 : (9223372036854775807 < t141.size + a1.size) = False := eq_false (Nat.not_lt.2 c21)
   replace H := Option.bind_eq_some_iff.mp H
   obtain ⟨t144, A220, H⟩ := H
   replace H : (if t144.toList = ([] : List UInt8) then (some ((⟨#[]⟩ : ByteArray), 0)) else (some (t144, wrap64 ((t141.size : Int) + a2)))) = some (r1, r2) := H
   have A22 := Aside0.mk A220
   clear A220
   by_cases c23 : t144.toList = ([] : List UInt8)
   ·
    rw [if_pos c23] at H
    have c23b0 : (t144.toList == ([] : List UInt8)) = true := beq_iff_eq.mpr c23
    have c23b1 : (t144.toList != ([] : List UInt8)) = false := bne_eq_false_iff_eq.mpr c23
    clear c23
    simp only [Option.some.injEq, Prod.mk.injEq] at H
    obtain ⟨rfl, rfl⟩ := H
    go_enter Tryd.func38, Tryd.ntmps38
    have tk26 : True := trivial; have tk27 : True := trivial
    go_wp2_with (first | (have ztk26 := tk26; clear tk26 ztk26; (with_reducible refine gate_callee (f := 66) rfl ?_); refine goesL_ (some 12) rfl rfl Tryd.func66 (by kernel_rfl) rfl #[.string a0, .string (⟨#[48]⟩ : ByteArray)] rfl qnd0_ ?_; (with_reducible refine (strings_TrimLeft.calls k a0 (⟨#[48]⟩ : ByteArray) t141 _ A4.out).mono ?_); rintro e w24 ⟨rfl, hb⟩; refine ⟨_, rfl, ?_⟩; have n0_ := Aside0.mk (below_step qnd1_ hb); clear HB; have HB := n0_; clear n0_; (try clear hb); (try clear hb2); (try clear hk); (try clear hi)) | (have ztk27 := tk27; clear tk27 ztk27; (with_reducible refine gate_callee (f := 67) rfl ?_); refine goesL_ (some 29) rfl rfl Tryd.func67 (by kernel_rfl) rfl #[.string (t141 ++ a1), .string (⟨#[48]⟩ : ByteArray)] rfl qnd0_ ?_; (with_reducible refine (strings_TrimRight.calls k (t141 ++ a1) (⟨#[48]⟩ : ByteArray) t144 _ A22.out).mono ?_); rintro e w25 ⟨rfl, hb⟩; refine ⟨_, rfl, ?_⟩; have n0_ := Aside0.mk (below_step qnd1_ hb); clear HB; have HB := n0_; clear n0_; (try clear hb); (try clear hb2); (try clear hk); (try clear hi)))
    go_ret2
    exact ⟨qnd5_, qnd1_⟩
   ·
    rw [if_neg c23] at H
    have c23b0 : (t144.toList == ([] : List UInt8)) = false := beq_eq_false_iff_ne.mpr c23
    have c23b1 : (t144.toList != ([] : List UInt8)) = true := bne_iff_ne.mpr c23
    simp only [Option.some.injEq, Prod.mk.injEq] at H
    obtain ⟨rfl, rfl⟩ := H
    go_enter Tryd.func38, Tryd.ntmps38
    have tk30 : True := trivial; have tk31 : True := trivial
    go_wp2_with (first | (have ztk30 := tk30; clear tk30 ztk30; (with_reducible refine gate_callee (f := 66) rfl ?_); refine goesL_ (some 12) rfl rfl Tryd.func66 (by kernel_rfl) rfl #[.string a0, .string (⟨#[48]⟩ : ByteArray)] rfl qnd0_ ?_; (with_reducible refine (strings_TrimLeft.calls k a0 (⟨#[48]⟩ : ByteArray) t141 _ A4.out).mono ?_); rintro e w28 ⟨rfl, hb⟩; refine ⟨_, rfl, ?_⟩; have n0_ := Aside0.mk (below_step qnd1_ hb); clear HB; have HB := n0_; clear n0_; (try clear hb); (try clear hb2); (try clear hk); (try clear hi)) | (have ztk31 := tk31; clear tk31 ztk31; (with_reducible refine gate_callee (f := 67) rfl ?_); refine goesL_ (some 29) rfl rfl Tryd.func67 (by kernel_rfl) rfl #[.string (t141 ++ a1), .string (⟨#[48]⟩ : ByteArray)] rfl qnd0_ ?_; (with_reducible refine (strings_TrimRight.calls k (t141 ++ a1) (⟨#[48]⟩ : ByteArray) t144 _ A22.out).mono ?_); rintro e w29 ⟨rfl, hb⟩; refine ⟨_, rfl, ?_⟩; have n0_ := Aside0.mk (below_step qnd1_ hb); clear HB; have HB := n0_; clear n0_; (try clear hb); (try clear hb2); (try clear hk); (try clear hi)))
    go_ret2
    exact ⟨qnd5_, qnd1_⟩
  ·
   rw [if_neg c21] at H
   exact absurd H (by simp)

end Go.Proofs.YtcdajedmlfhmeaaDoor.XN
