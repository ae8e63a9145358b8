import Derived.Test.YtcdajedmlfhmeaaDoorZNU0
import Derived.Test.YtcdajedmlfhmeaaDoorZNU1
import Derived.Test.YtcdajedmlfhmeaaDoorZNU4
import Derived.Test.YtcdajedmlfhmeaaDoorZNU7
import Derived.Lib.Strings
import Derived.Lib.LazyBuf
import Derived.IntWalk
import Derived.Test.YtcdajedmlfhmeaaDoorZNU2
import Derived.Test.YtcdajedmlfhmeaaDoorZNU3
namespace Go.Proofs.YtcdajedmlfhmeaaDoor.XN
open Go.RowKit Go.Proofs.YtcdajedmlfhmeaaDoorW.PrintWords Go.Proofs.YtcdajedmlfhmeaaDoorW.PrintLast Go.Proofs.YtcdajedmlfhmeaaDoorW.PrintMore
attribute [local go_sem] max2_int min2_int max_two min_two max_three min_three max_four min_four
set_option linter.unusedVariables false
set_option linter.unusedSimpArgs false

/-! ### milllaw3_NumeralUnits: function 10 -/
mutual
def milllaw3_NumeralUnits.j0 : Nat → Int → Int → Int → Int → Bool → Option (Bool)
 | 0, _, _, _, _, _ => none
 | k + 1, x0, x1, x2, x3, x45 => if x45 = true then (some true) else ((milllaw3_written.f k x0 0).bind fun t592 => ((milllaw3_written.f k x1 0).bind fun t593 => (if x2 > 0 then (if 0 ≤ (wrap64 (x2 - 1)) then (if (wrap64 (x2 - 1)) ≤ x2 then (if x2 ≤ 10 then (if t592.size + (x2.toNat - ((wrap64 (x2 - 1)) : Int).toNat) ≤ 9223372036854775807 then (milllaw3_NumeralUnits.j1 k x0 x1 x2 x3 (t592 ++ ((⟨#[75, 77, 71, 84, 80, 69, 90, 89, 82, 81]⟩ : ByteArray).extract ((wrap64 (x2 - 1)) : Int).toNat (x2 : Int).toNat)) t593) else (none)) else (none)) else (none)) else (none)) else (milllaw3_NumeralUnits.j1 k x0 x1 x2 x3 t592 t593))))
def milllaw3_NumeralUnits.j1 : Nat → Int → Int → Int → Int → ByteArray → ByteArray → Option (Bool)
 | 0, _, _, _, _, _, _ => none
 | k + 1, x0, x1, x2, x3, x9, x10 => if x3 > 0 then (if 0 ≤ (wrap64 (x3 - 1)) then (if (wrap64 (x3 - 1)) ≤ x3 then (if x3 ≤ 10 then (if x10.size + (x3.toNat - ((wrap64 (x3 - 1)) : Int).toNat) ≤ 9223372036854775807 then (milllaw3_NumeralUnits.j2 k x0 x1 x2 x3 x9 (x10 ++ ((⟨#[75, 77, 71, 84, 80, 69, 90, 89, 82, 81]⟩ : ByteArray).extract ((wrap64 (x3 - 1)) : Int).toNat (x3 : Int).toNat))) else (none)) else (none)) else (none)) else (none)) else (milllaw3_NumeralUnits.j2 k x0 x1 x2 x3 x9 x10)
def milllaw3_NumeralUnits.j2 : Nat → Int → Int → Int → Int → ByteArray → ByteArray → Option (Bool)
 | 0, _, _, _, _, _, _ => none
 | k + 1, x0, x1, x2, x3, x9, x10 => (numeral_Human.f k x9).bind fun bt594 => (if 0 ≤ (Int.tmod x2 10) then (if (Int.tmod x2 10) ≤ (wrap64 ((Int.tmod x2 10) + 1)) then (if (wrap64 ((Int.tmod x2 10) + 1)) ≤ 10 then (if 1 + (((wrap64 ((Int.tmod x2 10) + 1)) : Int).toNat - ((Int.tmod x2 10) : Int).toNat) ≤ 9223372036854775807 then ((numeral_Human.f k ((⟨#[48]⟩ : ByteArray) ++ ((⟨#[75, 77, 71, 84, 80, 69, 90, 89, 82, 81]⟩ : ByteArray).extract ((Int.tmod x2 10) : Int).toNat ((wrap64 ((Int.tmod x2 10) + 1)) : Int).toNat))).bind fun bt600 => (if bt594.2.2.2.2 = x2 then (milllaw3_NumeralUnits.j3 k x0 x1 x2 x3 x9 x10 (bt600.2.2.2.2 != 0)) else (milllaw3_NumeralUnits.j3 k x0 x1 x2 x3 x9 x10 true))) else (none)) else (none)) else (none)) else (none))
def milllaw3_NumeralUnits.j3 : Nat → Int → Int → Int → Int → ByteArray → ByteArray → Bool → Option (Bool)
 | 0, _, _, _, _, _, _, _ => none
 | k + 1, x0, x1, x2, x3, x9, x10, x88 => if x88 = true then (some false) else (if x2 < x3 then (milllaw3_NumeralUnits.j4 k x0 x1 x2 x3 x9 x10 0 true) else (if x2 = x3 then (milllaw3_NumeralUnits.j4 k x0 x1 x2 x3 x9 x10 0 (decide (x0 < x1))) else (milllaw3_NumeralUnits.j4 k x0 x1 x2 x3 x9 x10 0 false)))
def milllaw3_NumeralUnits.j4 : Nat → Int → Int → Int → Int → ByteArray → ByteArray → Int → Bool → Option (Bool)
 | 0, _, _, _, _, _, _, _, _ => none
 | k + 1, x0, x1, x2, x3, x9, x10, x15, x101 => if x101 = true then (milllaw3_NumeralUnits.j5 k x0 x1 x2 x3 x9 x10 (-1)) else (milllaw3_NumeralUnits.j5 k x0 x1 x2 x3 x9 x10 x15)
def milllaw3_NumeralUnits.j5 : Nat → Int → Int → Int → Int → ByteArray → ByteArray → Int → Option (Bool)
 | 0, _, _, _, _, _, _, _ => none
 | k + 1, x0, x1, x2, x3, x9, x10, x15 => if x2 > x3 then (milllaw3_NumeralUnits.j6 k x9 x10 x15 true) else (if x2 = x3 then (milllaw3_NumeralUnits.j6 k x9 x10 x15 (decide (x0 > x1))) else (milllaw3_NumeralUnits.j6 k x9 x10 x15 false))
def milllaw3_NumeralUnits.j6 : Nat → ByteArray → ByteArray → Int → Bool → Option (Bool)
 | 0, _, _, _, _ => none
 | k + 1, x9, x10, x15, x114 => if x114 = true then (milllaw3_NumeralUnits.j7 k x9 x10 1) else (milllaw3_NumeralUnits.j7 k x9 x10 x15)
def milllaw3_NumeralUnits.j7 : Nat → ByteArray → ByteArray → Int → Option (Bool)
 | 0, _, _, _ => none
 | k + 1, x9, x10, x15 => (numeral_Compare.f k 64 x9 x10).bind fun t606 => (if t606 = x15 then (if 1 + x9.size ≤ 9223372036854775807 then (if 1 + x10.size ≤ 9223372036854775807 then ((numeral_Compare.f k 64 ((⟨#[45]⟩ : ByteArray) ++ x9) ((⟨#[45]⟩ : ByteArray) ++ x10)).bind fun t607 => (if t607 = (wrap64 (-x15)) then ((numeral_Compare.f k 64 ((⟨#[45]⟩ : ByteArray) ++ x9) x10).bind fun t608 => (if t608 = (-1) then ((numeral_Compare.f k 64 (⟨#[48, 81]⟩ : ByteArray) x9).bind fun t609 => (some (t609 == (-1)))) else (some false))) else (some false))) else (none)) else (none)) else (some false))
end
def milllaw3_NumeralUnits.f (k : Nat) (a0 : Int) (a1 : Int) (a2 : Int) (a3 : Int) : Option (Bool) := if a0 ≤ 0 then (milllaw3_NumeralUnits.j0 k a0 a1 a2 a3 true) else (if a1 ≤ 0 then (milllaw3_NumeralUnits.j0 k a0 a1 a2 a3 true) else (if a0 ≥ 4611686018427387904 then (milllaw3_NumeralUnits.j0 k a0 a1 a2 a3 true) else (if a1 ≥ 4611686018427387904 then (milllaw3_NumeralUnits.j0 k a0 a1 a2 a3 true) else (if a2 < 0 then (milllaw3_NumeralUnits.j0 k a0 a1 a2 a3 true) else (if a3 < 0 then (milllaw3_NumeralUnits.j0 k a0 a1 a2 a3 true) else (if a2 > 10 then (milllaw3_NumeralUnits.j0 k a0 a1 a2 a3 true) else (milllaw3_NumeralUnits.j0 k a0 a1 a2 a3 (decide (a3 > 10)))))))))
set_option maxHeartbeats 8000000 in
set_option maxRecDepth 100000 in
theorem milllaw3_NumeralUnits.calls (k : Nat) (a0 : Int) (a1 : Int) (a2 : Int) (a3 : Int) (r : Bool) (w : World) (hGL : GOK w) (h : milllaw3_NumeralUnits.f k a0 a1 a2 a3 = some r) :
  Calls Tryd.prog 10 #[.int .i64 a0, .int .i64 a1, .int .i64 a2, .int .i64 a3] w fun e w' => e = .returned (.bool r) ∧ Below w.heap.size w w' := by
 have hu25 := Tryd.underlying25
 have HGL := Aside0.mk hGL
 clear hGL
 have HB := Aside0.mk (Below.refl w.heap.size w)
 have H : (if a0 ≤ 0 then (milllaw3_NumeralUnits.j0 k a0 a1 a2 a3 true) else (if a1 ≤ 0 then (milllaw3_NumeralUnits.j0 k a0 a1 a2 a3 true) else (if a0 ≥ 4611686018427387904 then (milllaw3_NumeralUnits.j0 k a0 a1 a2 a3 true) else (if a1 ≥ 4611686018427387904 then (milllaw3_NumeralUnits.j0 k a0 a1 a2 a3 true) else (if a2 < 0 then (milllaw3_NumeralUnits.j0 k a0 a1 a2 a3 true) else (if a3 < 0 then (milllaw3_NumeralUnits.j0 k a0 a1 a2 a3 true) else (if a2 > 10 then (milllaw3_NumeralUnits.j0 k a0 a1 a2 a3 true) else (milllaw3_NumeralUnits.j0 k a0 a1 a2 a3 (decide (a3 > 10)))))))))) = some r := h
 clear h
 have HC5 := Aside0.mk H
 clear H
 go_enter Tryd.func10, Tryd.ntmps10
 go_upto_region 1 with (fail)
 go_cut [45] (fun v45 wc => ∃ (kq : Nat) (x45_4 : Bool), v45 = .bool x45_4 ∧ Aside0 (milllaw3_NumeralUnits.j0 kq a0 a1 a2 a3 x45_4 = some r) ∧ Aside0 (kq ≤ k) ∧ Aside0 (Below w.heap.size w wc))
 case first =>
  have H := HC5.out
  clear HC5
  by_cases c6 : a0 ≤ 0
  ·
   rw [if_pos c6] at H
   have c6b0 : decide (a0 ≤ 0) = true := decide_eq_true c6
   clear c6
   (first | rw [c6b0] | (simp only [i64_w, i32_w]; rw [c6b0]) | skip)
   have H' := Aside0.mk H
   clear H
   go_wp2
   go_meet
   case rel => exact ⟨_, (true), qnu2_, H', ⟨by first | omega | exact Nat.le_refl _⟩, ⟨qnu1_⟩⟩
  ·
   rw [if_neg c6] at H
   have c6b0 : decide (a0 ≤ 0) = false := decide_eq_false c6
   clear c6
   (first | rw [c6b0] | (simp only [i64_w, i32_w]; rw [c6b0]) | skip)
   by_cases c7 : a1 ≤ 0
   ·
    rw [if_pos c7] at H
    have c7b0 : decide (a1 ≤ 0) = true := decide_eq_true c7
    clear c7
    have H' := Aside0.mk H
    clear H
    go_wp2
    go_meet
    case rel => exact ⟨_, (true), qnu2_, H', ⟨by first | omega | exact Nat.le_refl _⟩, ⟨qnu1_⟩⟩
   ·
    rw [if_neg c7] at H
    have c7b0 : decide (a1 ≤ 0) = false := decide_eq_false c7
    clear c7
    by_cases c8 : a0 ≥ 4611686018427387904
    ·
     rw [if_pos c8] at H
     have c8b0 : decide (4611686018427387904 ≤ a0) = true := decide_eq_true c8
     clear c8
     have H' := Aside0.mk H
     clear H
     go_wp2
     go_meet
     case rel => exact ⟨_, (true), qnu2_, H', ⟨by first | omega | exact Nat.le_refl _⟩, ⟨qnu1_⟩⟩
    ·
     rw [if_neg c8] at H
     have c8b0 : decide (4611686018427387904 ≤ a0) = false := decide_eq_false c8
     clear c8
     by_cases c9 : a1 ≥ 4611686018427387904
     ·
      rw [if_pos c9] at H
      have c9b0 : decide (4611686018427387904 ≤ a1) = true := decide_eq_true c9
      clear c9
      have H' := Aside0.mk H
      clear H
      go_wp2
      go_meet
      case rel => exact ⟨_, (true), qnu2_, H', ⟨by first | omega | exact Nat.le_refl _⟩, ⟨qnu1_⟩⟩
     ·
      rw [if_neg c9] at H
      have c9b0 : decide (4611686018427387904 ≤ a1) = false := decide_eq_false c9
      clear c9
      by_cases c10 : a2 < 0
      ·
       rw [if_pos c10] at H
       have c10b0 : decide (a2 < 0) = true := decide_eq_true c10
       clear c10
       have H' := Aside0.mk H
       clear H
       go_wp2
       go_meet
       case rel => exact ⟨_, (true), qnu2_, H', ⟨by first | omega | exact Nat.le_refl _⟩, ⟨qnu1_⟩⟩
      ·
       rw [if_neg c10] at H
       have c10b0 : decide (a2 < 0) = false := decide_eq_false c10
       clear c10
       by_cases c11 : a3 < 0
       ·
        rw [if_pos c11] at H
        have c11b0 : decide (a3 < 0) = true := decide_eq_true c11
        clear c11
        have H' := Aside0.mk H
        clear H
        go_wp2
        go_meet
        case rel => exact ⟨_, (true), qnu2_, H', ⟨by first | omega | exact Nat.le_refl _⟩, ⟨qnu1_⟩⟩
       ·
        rw [if_neg c11] at H
        have c11b0 : decide (a3 < 0) = false := decide_eq_false c11
        clear c11
        by_cases c12 : a2 > 10
        ·
         rw [if_pos c12] at H
         have c12b0 : decide (10 < a2) = true := decide_eq_true c12
         clear c12
         have H' := Aside0.mk H
         clear H
         go_wp2
         go_meet
         case rel => exact ⟨_, (true), qnu2_, H', ⟨by first | omega | exact Nat.le_refl _⟩, ⟨qnu1_⟩⟩
        ·
         rw [if_neg c12] at H
         have c12b0 : decide (10 < a2) = false := decide_eq_false c12
         clear c12
         have H' := Aside0.mk H
         clear H
         go_wp2
         go_meet
         case rel => exact ⟨_, (decide (a3 > 10)), qnu2_, H', ⟨by first | omega | exact Nat.le_refl _⟩, ⟨qnu1_⟩⟩
 case rest =>
  clear HC5
  (try clear c1); (try clear p2); (try clear c6); (try clear c6b0); (try clear c7); (try clear c7b0); (try clear c8); (try clear c8b0); (try clear c9); (try clear c9b0); (try clear c10); (try clear c10b0); (try clear c11); (try clear c11b0); (try clear c12); (try clear c12b0)
  obtain ⟨kq, x45_4, rfl, HA, HJ4, HB⟩ := hcut
  cases kq with
  | zero => exact absurd HA.out (by simp [milllaw3_NumeralUnits.j0])
  | succ kj4 =>
   have H := HA.out
   clear HA
   simp only [milllaw3_NumeralUnits.j0] at H
   by_cases c13 : x45_4 = true
   ·
    subst c13
    have H1 : (some true) = some r := by rw [if_pos rfl] at H; exact H
    clear H
    have H := H1
    clear H1
    obtain rfl := Option.some.inj H
    go_wp2
    go_ret
    exact ⟨qnu10_, qnu1_⟩
   ·
    replace c13 := Bool.eq_false_iff.mpr c13
    subst c13
    have H1 : ((milllaw3_written.f kj4 a0 0).bind fun t592 => ((milllaw3_written.f kj4 a1 0).bind fun t593 => (if a2 > 0 then (if 0 ≤ (wrap64 (a2 - 1)) then (if (wrap64 (a2 - 1)) ≤ a2 then (if a2 ≤ 10 then (if t592.size + (a2.toNat - ((wrap64 (a2 - 1)) : Int).toNat) ≤ 9223372036854775807 then (milllaw3_NumeralUnits.j1 kj4 a0 a1 a2 a3 (t592 ++ ((⟨#[75, 77, 71, 84, 80, 69, 90, 89, 82, 81]⟩ : ByteArray).extract ((wrap64 (a2 - 1)) : Int).toNat (a2 : Int).toNat)) t593) else (none)) else (none)) else (none)) else (none)) else (milllaw3_NumeralUnits.j1 kj4 a0 a1 a2 a3 t592 t593)))) = some r := by rw [if_neg (show ¬ (false = true) by decide)] at H; exact H
    clear H
    have H := H1
    clear H1
    replace H := Option.bind_eq_some_iff.mp H
    obtain ⟨t592, A140, H⟩ := H
    replace H : ((milllaw3_written.f kj4 a1 0).bind fun t593 => (if a2 > 0 then (if 0 ≤ (wrap64 (a2 - 1)) then (if (wrap64 (a2 - 1)) ≤ a2 then (if a2 ≤ 10 then (if t592.size + (a2.toNat - ((wrap64 (a2 - 1)) : Int).toNat) ≤ 9223372036854775807 then (milllaw3_NumeralUnits.j1 kj4 a0 a1 a2 a3 (t592 ++ ((⟨#[75, 77, 71, 84, 80, 69, 90, 89, 82, 81]⟩ : ByteArray).extract ((wrap64 (a2 - 1)) : Int).toNat (a2 : Int).toNat)) t593) else (none)) else (none)) else (none)) else (none)) else (milllaw3_NumeralUnits.j1 kj4 a0 a1 a2 a3 t592 t593))) = some r := H
    have A14 := Aside0.mk A140
    clear A140
    replace H := Option.bind_eq_some_iff.mp H
    obtain ⟨t593, A150, H⟩ := H
    replace H : (if a2 > 0 then (if 0 ≤ (wrap64 (a2 - 1)) then (if (wrap64 (a2 - 1)) ≤ a2 then (if a2 ≤ 10 then (if t592.size + (a2.toNat - ((wrap64 (a2 - 1)) : Int).toNat) ≤ 9223372036854775807 then (milllaw3_NumeralUnits.j1 kj4 a0 a1 a2 a3 (t592 ++ ((⟨#[75, 77, 71, 84, 80, 69, 90, 89, 82, 81]⟩ : ByteArray).extract ((wrap64 (a2 - 1)) : Int).toNat (a2 : Int).toNat)) t593) else (none)) else (none)) else (none)) else (none)) else (milllaw3_NumeralUnits.j1 kj4 a0 a1 a2 a3 t592 t593)) = some r := H
    have A15 := Aside0.mk A150
    clear A150
    have HC16 := Aside0.mk H
    clear H
    have tk19 : True := trivial; have tk20 : True := trivial
    go_upto_if 51 with (first | (have ztk19 := tk19; clear tk19 ztk19; (with_reducible refine gate_callee (f := 15) rfl ?_); refine goesL_ (some 47) rfl rfl Tryd.func15 (by kernel_rfl) rfl #[.int .i64 a0, .int .i64 0] rfl qnu0_ ?_; (with_reducible refine (milllaw3_written.calls kj4 a0 0 t592 _ A14.out).mono ?_); rintro e w17 ⟨rfl, hb⟩; refine ⟨_, rfl, ?_⟩; have n0_ := Aside0.mk (below_step qnu1_ hb); clear HB; have HB := n0_; clear n0_; (try clear hb); (try clear hb2); (try clear hk); (try clear hi)) | (have ztk20 := tk20; clear tk20 ztk20; (with_reducible refine gate_callee (f := 15) rfl ?_); refine goesL_ (some 49) rfl rfl Tryd.func15 (by kernel_rfl) rfl #[.int .i64 a1, .int .i64 0] rfl qnu0_ ?_; (with_reducible refine (milllaw3_written.calls kj4 a1 0 t593 _ A15.out).mono ?_); rintro e w18 ⟨rfl, hb⟩; refine ⟨_, rfl, ?_⟩; have n0_ := Aside0.mk (below_step qnu1_ hb); clear HB; have HB := n0_; clear n0_; (try clear hb); (try clear hb2); (try clear hk); (try clear hi)))
    (try simp only [Act.put, List.setIfInBounds_toArray, List.set_cons_zero, List.set_cons_succ])
    go_cut [9] (fun v9 wc => ∃ (kq : Nat) (x9_15 : ByteArray), v9 = .string x9_15 ∧ Aside0 (milllaw3_NumeralUnits.j1 kq a0 a1 a2 a3 x9_15 t593 = some r) ∧ Aside0 (kq ≤ kj4) ∧ Aside0 (Below w.heap.size w wc))
    case first =>
     have H := HC16.out
     clear HC16
     by_cases c21 : a2 > 0
     ·
      rw [if_pos c21] at H
      have c21b0 : decide (0 < a2) = true := decide_eq_true c21
      clear c21
      (first | rw [c21b0] | (simp only [i64_w, i32_w]; rw [c21b0]) | skip)
      obtain ⟨ji22, hji22⟩ : ∃ j_ : Int, (wrap64 (a2 - 1)) = j_ := ⟨_, rfl⟩
      replace H : (if 0 ≤ (ji22) then (if (ji22) ≤ a2 then (if a2 ≤ 10 then (if t592.size + (a2.toNat - ((ji22) : Int).toNat) ≤ 9223372036854775807 then (milllaw3_NumeralUnits.j1 kj4 a0 a1 a2 a3 (t592 ++ ((⟨#[75, 77, 71, 84, 80, 69, 90, 89, 82, 81]⟩ : ByteArray).extract ((ji22) : Int).toNat (a2 : Int).toNat)) t593) else (none)) else (none)) else (none)) else (none)) = some r := by first | (rw [hji22] at H; exact H) | (simp only [hji22] at H ⊢; exact H)
      have hji22w : (IntKind.i64.wrap (a2 - 1)) = ji22 := (i64_w _).trans hji22
      by_cases c23 : 0 ≤ (ji22)
      ·
       rw [if_pos c23] at H
       have c23b0 := eq_true c23
       have c23b1 : decide (0 ≤ (ji22)) = true := decide_eq_true c23
       clear c23
       by_cases c24 : (ji22) ≤ a2
       ·
        rw [if_pos c24] at H
        have c24b0 := eq_true c24
        have c24b1 : decide ((ji22) ≤ a2) = true := decide_eq_true c24
        clear c24
        by_cases c25 : a2 ≤ 10
        ·
         rw [if_pos c25] at H
         have c25b0 := eq_true c25
         have c25b1 : decide (a2 ≤ 10) = true := decide_eq_true c25
         clear c25
         by_cases c26 : t592.size + (a2.toNat - ((ji22) : Int).toNat) ≤ 9223372036854775807
         ·
          rw [if_pos c26] at H
          have c26b0 := eq_true c26
          have c26b1 : decide (t592.size + (a2.toNat - ((ji22) : Int).toNat) ≤ 9223372036854775807) = true := decide_eq_true c26
          try have c26b2 : (9223372036854775807 < t592.size + (a2.toNat - ((ji22) : Int).toNat)) = False := eq_false (Nat.not_lt.2 c26)
          have H' := Aside0.mk H
          clear H
          go_wp2
          go_meet
          case rel => exact ⟨_, (t592 ++ ((⟨#[75, 77, 71, 84, 80, 69, 90, 89, 82, 81]⟩ : ByteArray).extract ((ji22) : Int).toNat (a2 : Int).toNat)), (by first | rfl | (simp; done) | (simp only [← hji22] <;> (first | rfl | simp); done) | (simp [*]; done) | (simp; simp only [eq_iff_iff, iff_true] at *; omega) | (exfalso; simp_all; done)), H', ⟨by have := HJ4.out; first | omega | exact Nat.le_refl _⟩, ⟨qnu1_⟩⟩
         ·
          rw [if_neg c26] at H
          exact absurd H (by simp)
        ·
         rw [if_neg c25] at H
         exact absurd H (by simp)
       ·
        rw [if_neg c24] at H
        exact absurd H (by simp)
      ·
       rw [if_neg c23] at H
       exact absurd H (by simp)
     ·
      rw [if_neg c21] at H
      have c21b0 : decide (0 < a2) = false := decide_eq_false c21
      clear c21
      (first | rw [c21b0] | (simp only [i64_w, i32_w]; rw [c21b0]) | skip)
      have H' := Aside0.mk H
      clear H
      go_wp2
      go_meet
      case rel => exact ⟨_, (t592), qnu2_, H', ⟨by have := HJ4.out; first | omega | exact Nat.le_refl _⟩, ⟨qnu1_⟩⟩
    case rest =>
     clear HC16
     (try clear c1); (try clear c2); (try clear p2); (try clear c6); (try clear c6b0); (try clear p6); (try clear c7); (try clear c7b0); (try clear c8); (try clear c8b0); (try clear c9); (try clear c9b0); (try clear c10); (try clear c10b0); (try clear c11); (try clear c11b0); (try clear c12); (try clear c12b0); (try clear c13); (try clear c15); (try clear c21); (try clear c21b0); (try clear c23); (try clear c23b0)
     (try clear c23b1); (try clear c24); (try clear c24b0); (try clear c24b1); (try clear c25); (try clear c25b0); (try clear c25b1); (try clear c26); (try clear c26b0); (try clear c26b1); (try clear c26b2); (try clear p2)
     obtain ⟨kq, x9_15, rfl, HA, HJ15, HB⟩ := hcut
     cases kq with
     | zero => exact absurd HA.out (by simp [milllaw3_NumeralUnits.j1])
     | succ kj15 =>
      have H := HA.out
      clear HA
      simp only [milllaw3_NumeralUnits.j1] at H
      have HC27 := Aside0.mk H
      clear H
      go_upto_if 59 with (fail)
      go_cut [10] (fun v10 wc => ∃ (kq : Nat) (x10_26 : ByteArray), v10 = .string x10_26 ∧ Aside0 (milllaw3_NumeralUnits.j2 kq a0 a1 a2 a3 x9_15 x10_26 = some r) ∧ Aside0 (kq ≤ kj15) ∧ Aside0 (Below w.heap.size w wc))
      case first =>
       have H := HC27.out
       clear HC27
       by_cases c28 : a3 > 0
       ·
        rw [if_pos c28] at H
        have c28b0 : decide (0 < a3) = true := decide_eq_true c28
        clear c28
        (first | rw [c28b0] | (simp only [i64_w, i32_w]; rw [c28b0]) | skip)
        obtain ⟨ji29, hji29⟩ : ∃ j_ : Int, (wrap64 (a3 - 1)) = j_ := ⟨_, rfl⟩
        replace H : (if 0 ≤ (ji29) then (if (ji29) ≤ a3 then (if a3 ≤ 10 then (if t593.size + (a3.toNat - ((ji29) : Int).toNat) ≤ 9223372036854775807 then (milllaw3_NumeralUnits.j2 kj15 a0 a1 a2 a3 x9_15 (t593 ++ ((⟨#[75, 77, 71, 84, 80, 69, 90, 89, 82, 81]⟩ : ByteArray).extract ((ji29) : Int).toNat (a3 : Int).toNat))) else (none)) else (none)) else (none)) else (none)) = some r := by first | (rw [hji29] at H; exact H) | (simp only [hji29] at H ⊢; exact H)
        have hji29w : (IntKind.i64.wrap (a3 - 1)) = ji29 := (i64_w _).trans hji29
        by_cases c30 : 0 ≤ (ji29)
        ·
         rw [if_pos c30] at H
         have c30b0 := eq_true c30
         have c30b1 : decide (0 ≤ (ji29)) = true := decide_eq_true c30
         clear c30
         by_cases c31 : (ji29) ≤ a3
         ·
          rw [if_pos c31] at H
          have c31b0 := eq_true c31
          have c31b1 : decide ((ji29) ≤ a3) = true := decide_eq_true c31
          clear c31
          by_cases c32 : a3 ≤ 10
          ·
           rw [if_pos c32] at H
           have c32b0 := eq_true c32
           have c32b1 : decide (a3 ≤ 10) = true := decide_eq_true c32
           clear c32
           by_cases c33 : t593.size + (a3.toNat - ((ji29) : Int).toNat) ≤ 9223372036854775807
           ·
            rw [if_pos c33] at H
            have c33b0 := eq_true c33
            have c33b1 : decide (t593.size + (a3.toNat - ((ji29) : Int).toNat) ≤ 9223372036854775807) = true := decide_eq_true c33
            try have c33b2 : (9223372036854775807 < t593.size + (a3.toNat - ((ji29) : Int).toNat)) = False := eq_false (Nat.not_lt.2 c33)
            have H' := Aside0.mk H
            clear H
            go_wp2
            go_meet
            case rel => exact ⟨_, (t593 ++ ((⟨#[75, 77, 71, 84, 80, 69, 90, 89, 82, 81]⟩ : ByteArray).extract ((ji29) : Int).toNat (a3 : Int).toNat)), (by first | rfl | (simp; done) | (simp only [← hji29] <;> (first | rfl | simp); done) | (simp [*]; done) | (simp; simp only [eq_iff_iff, iff_true] at *; omega) | (exfalso; simp_all; done)), H', ⟨by have := HJ4.out; have := HJ15.out; first | omega | exact Nat.le_refl _⟩, ⟨qnu1_⟩⟩
           ·
            rw [if_neg c33] at H
            exact absurd H (by simp)
          ·
           rw [if_neg c32] at H
           exact absurd H (by simp)
         ·
          rw [if_neg c31] at H
          exact absurd H (by simp)
        ·
         rw [if_neg c30] at H
         exact absurd H (by simp)
       ·
        rw [if_neg c28] at H
        have c28b0 : decide (0 < a3) = false := decide_eq_false c28
        clear c28
        (first | rw [c28b0] | (simp only [i64_w, i32_w]; rw [c28b0]) | skip)
        have H' := Aside0.mk H
        clear H
        go_wp2
        go_meet
        case rel => exact ⟨_, (t593), qnu2_, H', ⟨by have := HJ4.out; have := HJ15.out; first | omega | exact Nat.le_refl _⟩, ⟨qnu1_⟩⟩
      case rest =>
       clear HC27
       (try clear c1); (try clear c2); (try clear p2); (try clear c3); (try clear c6); (try clear c6b0); (try clear p6); (try clear c7); (try clear c7b0); (try clear c8); (try clear c8b0); (try clear c9); (try clear c9b0); (try clear c10); (try clear c10b0); (try clear c11); (try clear c11b0); (try clear c12); (try clear c12b0); (try clear c13); (try clear c15); (try clear c21); (try clear c21b0); (try clear c23)
       (try clear c23b0); (try clear c23b1); (try clear c24); (try clear c24b0); (try clear c24b1); (try clear c25); (try clear c25b0); (try clear c25b1); (try clear c26); (try clear c26b0); (try clear c26b1); (try clear c26b2); (try clear c28); (try clear c28b0); (try clear c30); (try clear c30b0); (try clear c30b1); (try clear c31); (try clear c31b0); (try clear c31b1); (try clear c32); (try clear c32b0)
       (try clear c32b1); (try clear c33); (try clear c33b0); (try clear c33b1); (try clear c33b2); (try clear p2); (try clear p6)
       obtain ⟨kq, x10_26, rfl, HA, HJ26, HB⟩ := hcut
       cases kq with
       | zero => exact absurd HA.out (by simp [milllaw3_NumeralUnits.j2])
       | succ kj26 =>
        have H := HA.out
        clear HA
        simp only [milllaw3_NumeralUnits.j2] at H
        replace H := Option.bind_eq_some_iff.mp H
        obtain ⟨⟨t594, t595, t596, t597, t598⟩, A340, H⟩ := H
        replace H : (if 0 ≤ (Int.tmod a2 10) then (if (Int.tmod a2 10) ≤ (wrap64 ((Int.tmod a2 10) + 1)) then (if (wrap64 ((Int.tmod a2 10) + 1)) ≤ 10 then (if 1 + (((wrap64 ((Int.tmod a2 10) + 1)) : Int).toNat - ((Int.tmod a2 10) : Int).toNat) ≤ 9223372036854775807 then ((numeral_Human.f kj26 ((⟨#[48]⟩ : ByteArray) ++ ((⟨#[75, 77, 71, 84, 80, 69, 90, 89, 82, 81]⟩ : ByteArray).extract ((Int.tmod a2 10) : Int).toNat ((wrap64 ((Int.tmod a2 10) + 1)) : Int).toNat))).bind fun bt600 => (if t598 = a2 then (milllaw3_NumeralUnits.j3 kj26 a0 a1 a2 a3 x9_15 x10_26 (bt600.2.2.2.2 != 0)) else (milllaw3_NumeralUnits.j3 kj26 a0 a1 a2 a3 x9_15 x10_26 true))) else (none)) else (none)) else (none)) else (none)) = some r := H
        have A34 := Aside0.mk A340
        clear A340
        obtain ⟨ji35, hji35⟩ : ∃ j_ : Int, (Int.tmod a2 10) = j_ := ⟨_, rfl⟩
        replace H : (if 0 ≤ (ji35) then (if (ji35) ≤ (wrap64 ((ji35) + 1)) then (if (wrap64 ((ji35) + 1)) ≤ 10 then (if 1 + (((wrap64 ((ji35) + 1)) : Int).toNat - ((ji35) : Int).toNat) ≤ 9223372036854775807 then ((numeral_Human.f kj26 ((⟨#[48]⟩ : ByteArray) ++ ((⟨#[75, 77, 71, 84, 80, 69, 90, 89, 82, 81]⟩ : ByteArray).extract ((ji35) : Int).toNat ((wrap64 ((ji35) + 1)) : Int).toNat))).bind fun bt600 => (if t598 = a2 then (milllaw3_NumeralUnits.j3 kj26 a0 a1 a2 a3 x9_15 x10_26 (bt600.2.2.2.2 != 0)) else (milllaw3_NumeralUnits.j3 kj26 a0 a1 a2 a3 x9_15 x10_26 true))) else (none)) else (none)) else (none)) else (none)) = some r := by first | (rw [hji35] at H; exact H) | (simp only [hji35] at H ⊢; exact H)
        (try rw [hji35] at A34)
        by_cases c36 : 0 ≤ (ji35)
        ·
         rw [if_pos c36] at H
         have c36b0 := eq_true c36
         have c36b1 : decide (0 ≤ (ji35)) = true := decide_eq_true c36
         clear c36
         by_cases c37 : (ji35) ≤ (wrap64 ((ji35) + 1))
         ·
          rw [if_pos c37] at H
          have c37b0 := eq_true c37
          have c37b1 : decide ((ji35) ≤ (wrap64 ((ji35) + 1))) = true := decide_eq_true c37
          by_cases c38 : (wrap64 ((ji35) + 1)) ≤ 10
          ·
           rw [if_pos c38] at H
           have c38b0 := eq_true c38
           have c38b1 : decide ((wrap64 ((ji35) + 1)) ≤ 10) = true := decide_eq_true c38
           by_cases c39 : 1 + (((wrap64 ((ji35) + 1)) : Int).toNat - ((ji35) : Int).toNat) ≤ 9223372036854775807
           ·
            rw [if_pos c39] at H
            have c39b0 := eq_true c39
            have c39b1 : decide (1 + (((wrap64 ((ji35) + 1)) : Int).toNat - ((ji35) : Int).toNat) ≤ 9223372036854775807) = true := decide_eq_true c39
            try have c39b2 : (9223372036854775807 < 1 + (((wrap64 ((ji35) + 1)) : Int).toNat - ((ji35) : Int).toNat)) = False := eq_false (Nat.not_lt.2 c39)
            replace H := Option.bind_eq_some_iff.mp H
            obtain ⟨⟨t600, t601, t602, t603, t604⟩, A400, H⟩ := H
            replace H : (if t598 = a2 then (milllaw3_NumeralUnits.j3 kj26 a0 a1 a2 a3 x9_15 x10_26 (t604 != 0)) else (milllaw3_NumeralUnits.j3 kj26 a0 a1 a2 a3 x9_15 x10_26 true)) = some r := H
            have A40 := Aside0.mk A400
            clear A400
            have HC41 := Aside0.mk H
            clear H
            have tk49 : True := trivial; have tk50 : True := trivial; have tk51 : True := trivial; have tk52 : True := trivial
            go_upto_region 11 with (first | (have ztk49 := tk49; clear tk49 ztk49; (with_reducible refine gate_callee (f := 20) rfl ?_); refine goesL_ (some 68) rfl rfl Tryd.func20 (by kernel_rfl) rfl #[.string x9_15] rfl qnu0_ ?_; (with_reducible refine (numeral_Human.calls kj26 x9_15 t594 t595 t596 t597 t598 _ A34.out).mono ?_); rintro e w42 ⟨rfl, hb⟩; refine ⟨_, rfl, ?_⟩; have n0_ := Aside0.mk (below_step qnu1_ hb); clear HB; have HB := n0_; clear n0_; (try clear hb); (try clear hb2); (try clear hk); (try clear hi)) | (have ztk50 := tk50; clear tk50 ztk50; (with_reducible refine gate_dst (N := 11) rfl ?_); refine box_event ?hg (N := 11) ?hd (cs := #[.bool false, .string (⟨#[]⟩ : ByteArray), .string (⟨#[]⟩ : ByteArray), .int .i64 0]) (t := 25) ?hr ?_; (case hd => rfl); (case hg => rfl); (case hr => first | (go_simp; done) | (go_simp; rfl)); intro gb599 hg w43 hbox hb; have n0_ := Aside0.mk (below_step qnu1_ hb); have n1_ := Aside0.mk (hbox); have n2_ := Aside0.mk ((by rw [hg]; exact (below_size qnu1_) : w.heap.size ≤ gb599)); have n3_ := Aside0.mk ((by rw [hg]; exact (below_size qnu1_) : w.heap.size ≤ gb599)); clear HB; have HB := n0_; have BK599 := n1_; have GW599 := n2_; have GE599 := n3_; clear n0_ n1_ n2_ n3_; clear hb hbox hg; have hcz44_0 : w43.cell? ⟨gb599, 0, none⟩ = some (.bool false) := (blk_cell BK599.out 0).trans rfl; have hcz44_1 : w43.cell? ⟨gb599, 1, none⟩ = some (.string (⟨#[]⟩ : ByteArray)) := (blk_cell BK599.out 1).trans rfl; have hcz44_2 : w43.cell? ⟨gb599, 2, none⟩ = some (.string (⟨#[]⟩ : ByteArray)) := (blk_cell BK599.out 2).trans rfl; have hcz44_3 : w43.cell? ⟨gb599, 3, none⟩ = some (.int .i64 0) := (blk_cell BK599.out 3).trans rfl; have hfz44_0 := blk_frozen BK599.out 0; have hfz44_1 := blk_frozen BK599.out 1; have hfz44_2 := blk_frozen BK599.out 2; have hfz44_3 := blk_frozen BK599.out 3) | (have ztk51 := tk51; clear tk51 ztk51; (with_reducible refine gate_callee (f := 20) rfl ?_); refine goesL_ (some 79) rfl rfl Tryd.func20 (by kernel_rfl) rfl #[.string ((⟨#[48]⟩ : ByteArray) ++ ((⟨#[75, 77, 71, 84, 80, 69, 90, 89, 82, 81]⟩ : ByteArray).extract ((ji35) : Int).toNat ((wrap64 ((ji35) + 1)) : Int).toNat))] rfl (by (try simp only [List.map_toArray, List.map_cons, List.map_nil]); first | done | (simp only [hji35]; rfl) | rfl | (simp only [List.length_drop, List.length_take]; rfl) | (simp; done) | (simp; omega)) ?_; (with_reducible refine (numeral_Human.calls kj26 ((⟨#[48]⟩ : ByteArray) ++ ((⟨#[75, 77, 71, 84, 80, 69, 90, 89, 82, 81]⟩ : ByteArray).extract ((ji35) : Int).toNat ((wrap64 ((ji35) + 1)) : Int).toNat)) t600 t601 t602 t603 t604 _ A40.out).mono ?_); rintro e w45 ⟨rfl, hb⟩; refine ⟨_, rfl, ?_⟩; have n0_ := Aside0.mk (blk_below (g := gb599) (o := .cells #[.bool t594, .string t595, .string t596, .int .i64 t597] 25 (0, 0)) (by (with_reducible repeat (first | refine blk_drewN ?_ _ | refine blk_drew ?_ | refine blk_alloc ?_ _)); refine blk_put (cs := #[.bool t594, .string t595, .string t596, .int .i64 0]) ?_ 3 _ rfl; (with_reducible repeat (first | refine blk_drewN ?_ _ | refine blk_drew ?_ | refine blk_alloc ?_ _)); refine blk_put (cs := #[.bool t594, .string t595, .string (⟨#[]⟩ : ByteArray), .int .i64 0]) ?_ 2 _ rfl; (with_reducible repeat (first | refine blk_drewN ?_ _ | refine blk_drew ?_ | refine blk_alloc ?_ _)); refine blk_put (cs := #[.bool t594, .string (⟨#[]⟩ : ByteArray), .string (⟨#[]⟩ : ByteArray), .int .i64 0]) ?_ 1 _ rfl; (with_reducible repeat (first | refine blk_drewN ?_ _ | refine blk_drew ?_ | refine blk_alloc ?_ _)); refine blk_put (cs := #[.bool false, .string (⟨#[]⟩ : ByteArray), .string (⟨#[]⟩ : ByteArray), .int .i64 0]) ?_ 0 _ rfl; (with_reducible repeat (first | refine blk_drewN ?_ _ | refine blk_drew ?_ | refine blk_alloc ?_ _)); exact BK599.out) hb); have n1_ := Aside0.mk (below_step qnu41_ hb); clear BK599; clear HB; have BK599 := n0_; have HB := n1_; clear n0_ n1_; (try clear hb); (try clear hb2); (try clear hk); (try clear hi)) | (have ztk52 := tk52; clear tk52 ztk52; (with_reducible refine gate_dst (N := 13) rfl ?_); refine box_event ?hg (N := 13) ?hd (cs := #[.bool false, .string (⟨#[]⟩ : ByteArray), .string (⟨#[]⟩ : ByteArray), .int .i64 0]) (t := 25) ?hr ?_; (case hd => rfl); (case hg => rfl); (case hr => first | (go_simp; done) | (go_simp; rfl)); intro gb605 hg w46 hbox hb; have n0_ := Aside0.mk (blk_below (g := gb599) (o := .cells #[.bool t594, .string t595, .string t596, .int .i64 t597] 25 (0, 0)) qnu15_ hb); have n1_ := Aside0.mk (below_step qnu41_ hb); have n2_ := Aside0.mk (hbox); have n3_ := Aside0.mk ((by rw [hg]; exact (below_size qnu41_) : w.heap.size ≤ gb605)); have n4_ := Aside0.mk ((by rw [hg]; exact (below_size qnu41_) : w.heap.size ≤ gb605)); have n5_ := Aside0.mk ((by rw [hg]; exact Nat.ne_of_lt (blk_lt (g := gb599) (o := .cells #[.bool t594, .string t595, .string t596, .int .i64 t597] 25 (0, 0)) qnu15_) : gb599 ≠ gb605)); have n6_ := Aside0.mk ((by rw [hg]; exact Nat.ne_of_gt (blk_lt (g := gb599) (o := .cells #[.bool t594, .string t595, .string t596, .int .i64 t597] 25 (0, 0)) qnu15_) : gb605 ≠ gb599)); clear BK599; clear HB; have BK599 := n0_; have HB := n1_; have BK605 := n2_; have GW605 := n3_; have GE605 := n4_; have NB599_605 := n5_; have NB605_599 := n6_; clear n0_ n1_ n2_ n3_ n4_ n5_ n6_; clear hb hbox hg; have hnb47 := NB605_599.out; have hnc47 := NB599_605.out; have hcz48_0 : w46.cell? ⟨gb605, 0, none⟩ = some (.bool false) := (blk_cell BK605.out 0).trans rfl; have hcz48_1 : w46.cell? ⟨gb605, 1, none⟩ = some (.string (⟨#[]⟩ : ByteArray)) := (blk_cell BK605.out 1).trans rfl; have hcz48_2 : w46.cell? ⟨gb605, 2, none⟩ = some (.string (⟨#[]⟩ : ByteArray)) := (blk_cell BK605.out 2).trans rfl; have hcz48_3 : w46.cell? ⟨gb605, 3, none⟩ = some (.int .i64 0) := (blk_cell BK605.out 3).trans rfl; have hfz48_0 := blk_frozen BK605.out 0; have hfz48_1 := blk_frozen BK605.out 1; have hfz48_2 := blk_frozen BK605.out 2; have hfz48_3 := blk_frozen BK605.out 3))
            (try simp only [Act.put, List.setIfInBounds_toArray, List.set_cons_zero, List.set_cons_succ])
            go_cut [88] (fun v88 wc => ∃ (kq : Nat) (x88_40 : Bool), v88 = .bool x88_40 ∧ Aside0 (milllaw3_NumeralUnits.j3 kq a0 a1 a2 a3 x9_15 x10_26 x88_40 = some r) ∧ Aside0 (kq ≤ kj26) ∧ Aside0 (wc.heap[gb599]? = some (.cells #[.bool t594, .string t595, .string t596, .int .i64 t597] 25 (0, 0))) ∧ Aside0 (wc.heap[gb605]? = some (.cells #[.bool t600, .string t601, .string t602, .int .i64 t603] 25 (0, 0))) ∧ Aside0 (Below w.heap.size w wc))
            case first =>
             have H := HC41.out
             clear HC41
             by_cases c53 : t598 = a2
             ·
              rw [if_pos c53] at H
              have c53b0 : (t598 == a2) = true := beq_iff_eq.mpr c53
              have c53b1 : (t598 != a2) = false := bne_eq_false_iff_eq.mpr c53
              clear c53
              (first | rw [c53b0] | (simp only [i64_w, i32_w]; rw [c53b0]) | skip)
              have H' := Aside0.mk H
              clear H
              go_wp2
              go_meet
              case rel => exact ⟨_, ((t604 != 0)), qnu2_, H', ⟨by have := HJ4.out; have := HJ15.out; have := HJ26.out; first | omega | exact Nat.le_refl _⟩, ⟨by (with_reducible repeat (first | refine blk_drewN ?_ _ | refine blk_drew ?_ | refine blk_alloc ?_ _)); refine blk_far ?_ NB599_605.out _; (with_reducible repeat (first | refine blk_drewN ?_ _ | refine blk_drew ?_ | refine blk_alloc ?_ _)); refine blk_far ?_ NB599_605.out _; (with_reducible repeat (first | refine blk_drewN ?_ _ | refine blk_drew ?_ | refine blk_alloc ?_ _)); refine blk_far ?_ NB599_605.out _; (with_reducible repeat (first | refine blk_drewN ?_ _ | refine blk_drew ?_ | refine blk_alloc ?_ _)); refine blk_far ?_ NB599_605.out _; (with_reducible repeat (first | refine blk_drewN ?_ _ | refine blk_drew ?_ | refine blk_alloc ?_ _)); exact BK599.out⟩, ⟨by (with_reducible repeat (first | refine blk_drewN ?_ _ | refine blk_drew ?_ | refine blk_alloc ?_ _)); refine blk_put (cs := #[.bool t600, .string t601, .string t602, .int .i64 0]) ?_ 3 _ rfl; (with_reducible repeat (first | refine blk_drewN ?_ _ | refine blk_drew ?_ | refine blk_alloc ?_ _)); refine blk_put (cs := #[.bool t600, .string t601, .string (⟨#[]⟩ : ByteArray), .int .i64 0]) ?_ 2 _ rfl; (with_reducible repeat (first | refine blk_drewN ?_ _ | refine blk_drew ?_ | refine blk_alloc ?_ _)); refine blk_put (cs := #[.bool t600, .string (⟨#[]⟩ : ByteArray), .string (⟨#[]⟩ : ByteArray), .int .i64 0]) ?_ 1 _ rfl; (with_reducible repeat (first | refine blk_drewN ?_ _ | refine blk_drew ?_ | refine blk_alloc ?_ _)); refine blk_put (cs := #[.bool false, .string (⟨#[]⟩ : ByteArray), .string (⟨#[]⟩ : ByteArray), .int .i64 0]) ?_ 0 _ rfl; (with_reducible repeat (first | refine blk_drewN ?_ _ | refine blk_drew ?_ | refine blk_alloc ?_ _)); exact BK605.out⟩, ⟨qnu3_⟩⟩
             ·
              rw [if_neg c53] at H
              have c53b0 : (t598 == a2) = false := beq_eq_false_iff_ne.mpr c53
              have c53b1 : (t598 != a2) = true := bne_iff_ne.mpr c53
              (first | rw [c53b0] | (simp only [i64_w, i32_w]; rw [c53b0]) | skip)
              have H' := Aside0.mk H
              clear H
              go_wp2
              go_meet
              case rel => exact ⟨_, (true), qnu2_, H', ⟨by have := HJ4.out; have := HJ15.out; have := HJ26.out; first | omega | exact Nat.le_refl _⟩, ⟨by (with_reducible repeat (first | refine blk_drewN ?_ _ | refine blk_drew ?_ | refine blk_alloc ?_ _)); refine blk_far ?_ NB599_605.out _; (with_reducible repeat (first | refine blk_drewN ?_ _ | refine blk_drew ?_ | refine blk_alloc ?_ _)); refine blk_far ?_ NB599_605.out _; (with_reducible repeat (first | refine blk_drewN ?_ _ | refine blk_drew ?_ | refine blk_alloc ?_ _)); refine blk_far ?_ NB599_605.out _; (with_reducible repeat (first | refine blk_drewN ?_ _ | refine blk_drew ?_ | refine blk_alloc ?_ _)); refine blk_far ?_ NB599_605.out _; (with_reducible repeat (first | refine blk_drewN ?_ _ | refine blk_drew ?_ | refine blk_alloc ?_ _)); exact BK599.out⟩, ⟨by (with_reducible repeat (first | refine blk_drewN ?_ _ | refine blk_drew ?_ | refine blk_alloc ?_ _)); refine blk_put (cs := #[.bool t600, .string t601, .string t602, .int .i64 0]) ?_ 3 _ rfl; (with_reducible repeat (first | refine blk_drewN ?_ _ | refine blk_drew ?_ | refine blk_alloc ?_ _)); refine blk_put (cs := #[.bool t600, .string t601, .string (⟨#[]⟩ : ByteArray), .int .i64 0]) ?_ 2 _ rfl; (with_reducible repeat (first | refine blk_drewN ?_ _ | refine blk_drew ?_ | refine blk_alloc ?_ _)); refine blk_put (cs := #[.bool t600, .string (⟨#[]⟩ : ByteArray), .string (⟨#[]⟩ : ByteArray), .int .i64 0]) ?_ 1 _ rfl; (with_reducible repeat (first | refine blk_drewN ?_ _ | refine blk_drew ?_ | refine blk_alloc ?_ _)); refine blk_put (cs := #[.bool false, .string (⟨#[]⟩ : ByteArray), .string (⟨#[]⟩ : ByteArray), .int .i64 0]) ?_ 0 _ rfl; (with_reducible repeat (first | refine blk_drewN ?_ _ | refine blk_drew ?_ | refine blk_alloc ?_ _)); exact BK605.out⟩, ⟨qnu3_⟩⟩
            case rest =>
             clear HC41
             (try clear c1); (try clear c2); (try clear p2); (try clear c3); (try clear c4); (try clear c5); (try clear c6); (try clear c6b0); (try clear p6); (try clear c7); (try clear c7b0); (try clear c8); (try clear c8b0); (try clear c9); (try clear c9b0); (try clear c10); (try clear c10b0); (try clear c11); (try clear c11b0); (try clear c12); (try clear c12b0); (try clear c13); (try clear c15)
             (try clear c20); (try clear c21); (try clear c21b0); (try clear c23); (try clear c23b0); (try clear c23b1); (try clear c24); (try clear c24b0); (try clear c24b1); (try clear c25); (try clear c25b0); (try clear c25b1); (try clear c26); (try clear c26b0); (try clear c26b1); (try clear c26b2); (try clear c28); (try clear c28b0); (try clear c30); (try clear c30b0); (try clear c30b1); (try clear c31)
             (try clear c31b0); (try clear c31b1); (try clear c32); (try clear c32b0); (try clear c32b1); (try clear c33); (try clear c33b0); (try clear c33b1); (try clear c33b2); (try clear c36); (try clear c36b0); (try clear c36b1); (try clear c37); (try clear c37b0); (try clear c37b1); (try clear c38); (try clear c38b0); (try clear c38b1); (try clear c39); (try clear c39b0); (try clear c39b1); (try clear c39b2)
             (try clear c47); (try clear c53); (try clear c53b0); (try clear c53b1); (try clear hcz44_0); (try clear hcz44_1); (try clear hcz44_2); (try clear hcz44_3); (try clear hcz48_0); (try clear hcz48_1); (try clear hcz48_2); (try clear hcz48_3); (try clear hfz44_0); (try clear hfz44_1); (try clear hfz44_2); (try clear hfz44_3); (try clear hfz48_0); (try clear hfz48_1); (try clear hfz48_2); (try clear hfz48_3)
             (try clear p2); (try clear p6)
             obtain ⟨kq, x88_40, rfl, HA, HJ40, BK599, BK605, HB⟩ := hcut
             cases kq with
             | zero => exact absurd HA.out (by simp [milllaw3_NumeralUnits.j3])
             | succ kj40 =>
              have H := HA.out
              clear HA
              simp only [milllaw3_NumeralUnits.j3] at H
              by_cases c54 : x88_40 = true
              ·
               subst c54
               have H1 : (some false) = some r := by rw [if_pos rfl] at H; exact H
               clear H
               have H := H1
               clear H1
               obtain rfl := Option.some.inj H
               go_wp2
               go_ret
               exact ⟨qnu38_, qnu3_⟩
              ·
               replace c54 := Bool.eq_false_iff.mpr c54
               subst c54
               have H1 : (if a2 < a3 then (milllaw3_NumeralUnits.j4 kj40 a0 a1 a2 a3 x9_15 x10_26 0 true) else (if a2 = a3 then (milllaw3_NumeralUnits.j4 kj40 a0 a1 a2 a3 x9_15 x10_26 0 (decide (a0 < a1))) else (milllaw3_NumeralUnits.j4 kj40 a0 a1 a2 a3 x9_15 x10_26 0 false))) = some r := by rw [if_neg (show ¬ (false = true) by decide)] at H; exact H
               clear H
               have H := H1
               clear H1
               have HC55 := Aside0.mk H
               clear H
               go_upto_region 14 with (fail)
               go_cut [101] (fun v101 wc => ∃ (kq : Nat) (x101_54 : Bool), v101 = .bool x101_54 ∧ Aside0 (milllaw3_NumeralUnits.j4 kq a0 a1 a2 a3 x9_15 x10_26 0 x101_54 = some r) ∧ Aside0 (kq ≤ kj40) ∧ Aside0 (wc.heap[gb599]? = some (.cells #[.bool t594, .string t595, .string t596, .int .i64 t597] 25 (0, 0))) ∧ Aside0 (wc.heap[gb605]? = some (.cells #[.bool t600, .string t601, .string t602, .int .i64 t603] 25 (0, 0))) ∧ Aside0 (Below w.heap.size w wc))
               case first =>
                have H := HC55.out
                clear HC55
                by_cases c56 : a2 < a3
                ·
                 rw [if_pos c56] at H
                 have c56b0 : decide (a2 < a3) = true := decide_eq_true c56
                 clear c56
                 (first | rw [c56b0] | (simp only [i64_w, i32_w]; rw [c56b0]) | skip)
                 have H' := Aside0.mk H
                 clear H
                 go_wp2
                 go_meet
                 case rel => exact ⟨_, (true), qnu2_, H', ⟨by have := HJ4.out; have := HJ15.out; have := HJ26.out; have := HJ40.out; first | omega | exact Nat.le_refl _⟩, ⟨qnu15_⟩, ⟨qnu18_⟩, ⟨qnu3_⟩⟩
                ·
                 rw [if_neg c56] at H
                 have c56b0 : decide (a2 < a3) = false := decide_eq_false c56
                 clear c56
                 (first | rw [c56b0] | (simp only [i64_w, i32_w]; rw [c56b0]) | skip)
                 by_cases c57 : a2 = a3
                 ·
                  rw [if_pos c57] at H
                  have c57b0 : (a2 == a3) = true := beq_iff_eq.mpr c57
                  have c57b1 : (a2 != a3) = false := bne_eq_false_iff_eq.mpr c57
                  clear c57
                  have H' := Aside0.mk H
                  clear H
                  go_wp2
                  go_meet
                  case rel => exact ⟨_, (decide (a0 < a1)), qnu2_, H', ⟨by have := HJ4.out; have := HJ15.out; have := HJ26.out; have := HJ40.out; first | omega | exact Nat.le_refl _⟩, ⟨qnu15_⟩, ⟨qnu18_⟩, ⟨qnu3_⟩⟩
                 ·
                  rw [if_neg c57] at H
                  have c57b0 : (a2 == a3) = false := beq_eq_false_iff_ne.mpr c57
                  have c57b1 : (a2 != a3) = true := bne_iff_ne.mpr c57
                  have H' := Aside0.mk H
                  clear H
                  go_wp2
                  go_meet
                  case rel => exact ⟨_, (false), qnu2_, H', ⟨by have := HJ4.out; have := HJ15.out; have := HJ26.out; have := HJ40.out; first | omega | exact Nat.le_refl _⟩, ⟨qnu15_⟩, ⟨qnu18_⟩, ⟨qnu3_⟩⟩
               case rest =>
                clear HC55
                (try clear c1); (try clear c2); (try clear p2); (try clear c3); (try clear c4); (try clear c5); (try clear c6); (try clear c6b0); (try clear p6); (try clear c7); (try clear c7b0); (try clear c8); (try clear c8b0); (try clear c9); (try clear c9b0); (try clear c10); (try clear c10b0); (try clear c11); (try clear c11b0); (try clear c12); (try clear c12b0); (try clear c13); (try clear c15)
                (try clear c20); (try clear c21); (try clear c21b0); (try clear c23); (try clear c23b0); (try clear c23b1); (try clear c24); (try clear c24b0); (try clear c24b1); (try clear c25); (try clear c25b0); (try clear c25b1); (try clear c26); (try clear c26b0); (try clear c26b1); (try clear c26b2); (try clear c28); (try clear c28b0); (try clear c30); (try clear c30b0); (try clear c30b1); (try clear c31)
                (try clear c31b0); (try clear c31b1); (try clear c32); (try clear c32b0); (try clear c32b1); (try clear c33); (try clear c33b0); (try clear c33b1); (try clear c33b2); (try clear c36); (try clear c36b0); (try clear c36b1); (try clear c37); (try clear c37b0); (try clear c37b1); (try clear c38); (try clear c38b0); (try clear c38b1); (try clear c39); (try clear c39b0); (try clear c39b1)
                (try clear c39b2); (try clear c47); (try clear c53); (try clear c53b0); (try clear c53b1); (try clear c54); (try clear c56); (try clear c56b0); (try clear c57); (try clear c57b0); (try clear c57b1); (try clear hcz44_0); (try clear hcz44_1); (try clear hcz44_2); (try clear hcz44_3); (try clear hcz48_0); (try clear hcz48_1); (try clear hcz48_2); (try clear hcz48_3); (try clear hfz44_0)
                (try clear hfz44_1); (try clear hfz44_2); (try clear hfz44_3); (try clear hfz48_0); (try clear hfz48_1); (try clear hfz48_2); (try clear hfz48_3); (try clear p2); (try clear p6)
                obtain ⟨kq, x101_54, rfl, HA, HJ54, BK599, BK605, HB⟩ := hcut
                cases kq with
                | zero => exact absurd HA.out (by simp [milllaw3_NumeralUnits.j4])
                | succ kj54 =>
                 have H := HA.out
                 clear HA
                 simp only [milllaw3_NumeralUnits.j4] at H
                 have HC58 := Aside0.mk H
                 clear H
                 go_upto_if 101 with (fail)
                 go_cut [15] (fun v15 wc => ∃ (kq : Nat) (x15_57 : Int), v15 = .int .i64 x15_57 ∧ Aside0 (milllaw3_NumeralUnits.j5 kq a0 a1 a2 a3 x9_15 x10_26 x15_57 = some r) ∧ Aside0 (kq ≤ kj54) ∧ Aside0 (wc.heap[gb599]? = some (.cells #[.bool t594, .string t595, .string t596, .int .i64 t597] 25 (0, 0))) ∧ Aside0 (wc.heap[gb605]? = some (.cells #[.bool t600, .string t601, .string t602, .int .i64 t603] 25 (0, 0))) ∧ Aside0 (Below w.heap.size w wc))
                 case first =>
                  have H := HC58.out
                  clear HC58
                  by_cases c59 : x101_54 = true
                  ·
                   subst c59
                   have H1 : (milllaw3_NumeralUnits.j5 kj54 a0 a1 a2 a3 x9_15 x10_26 (-1)) = some r := by rw [if_pos rfl] at H; exact H
                   clear H
                   have H := H1
                   clear H1
                   have H' := Aside0.mk H
                   clear H
                   go_wp2
                   go_meet
                   case rel => exact ⟨_, ((-1)), qnu2_, H', ⟨by have := HJ4.out; have := HJ15.out; have := HJ26.out; have := HJ40.out; have := HJ54.out; first | omega | exact Nat.le_refl _⟩, ⟨qnu15_⟩, ⟨qnu18_⟩, ⟨qnu3_⟩⟩
                  ·
                   replace c59 := Bool.eq_false_iff.mpr c59
                   subst c59
                   have H1 : (milllaw3_NumeralUnits.j5 kj54 a0 a1 a2 a3 x9_15 x10_26 0) = some r := by rw [if_neg (show ¬ (false = true) by decide)] at H; exact H
                   clear H
                   have H := H1
                   clear H1
                   have H' := Aside0.mk H
                   clear H
                   go_wp2
                   go_meet
                   case rel => exact ⟨_, (0), qnu2_, H', ⟨by have := HJ4.out; have := HJ15.out; have := HJ26.out; have := HJ40.out; have := HJ54.out; first | omega | exact Nat.le_refl _⟩, ⟨qnu15_⟩, ⟨qnu18_⟩, ⟨qnu3_⟩⟩
                 case rest =>
                  clear HC58
                  (try clear c1); (try clear c2); (try clear p2); (try clear c3); (try clear c4); (try clear c5); (try clear c6); (try clear c6b0); (try clear p6); (try clear c7); (try clear c7b0); (try clear c8); (try clear c8b0); (try clear c9); (try clear c9b0); (try clear c10); (try clear c10b0); (try clear c11); (try clear c11b0); (try clear c12); (try clear c12b0); (try clear c13); (try clear c15)
                  (try clear c20); (try clear c21); (try clear c21b0); (try clear c23); (try clear c23b0); (try clear c23b1); (try clear c24); (try clear c24b0); (try clear c24b1); (try clear c25); (try clear c25b0); (try clear c25b1); (try clear c26); (try clear c26b0); (try clear c26b1); (try clear c26b2); (try clear c28); (try clear c28b0); (try clear c30); (try clear c30b0); (try clear c30b1); (try clear c31)
                  (try clear c31b0); (try clear c31b1); (try clear c32); (try clear c32b0); (try clear c32b1); (try clear c33); (try clear c33b0); (try clear c33b1); (try clear c33b2); (try clear c36); (try clear c36b0); (try clear c36b1); (try clear c37); (try clear c37b0); (try clear c37b1); (try clear c38); (try clear c38b0); (try clear c38b1); (try clear c39); (try clear c39b0); (try clear c39b1)
                  (try clear c39b2); (try clear c47); (try clear c53); (try clear c53b0); (try clear c53b1); (try clear c54); (try clear c56); (try clear c56b0); (try clear c57); (try clear c57b0); (try clear c57b1); (try clear c59); (try clear hcz44_0); (try clear hcz44_1); (try clear hcz44_2); (try clear hcz44_3); (try clear hcz48_0); (try clear hcz48_1); (try clear hcz48_2); (try clear hcz48_3)
                  (try clear hfz44_0); (try clear hfz44_1); (try clear hfz44_2); (try clear hfz44_3); (try clear hfz48_0); (try clear hfz48_1); (try clear hfz48_2); (try clear hfz48_3); (try clear p2); (try clear p6)
                  obtain ⟨kq, x15_57, rfl, HA, HJ57, BK599, BK605, HB⟩ := hcut
                  cases kq with
                  | zero => exact absurd HA.out (by simp [milllaw3_NumeralUnits.j5])
                  | succ kj57 =>
                   have H := HA.out
                   clear HA
                   simp only [milllaw3_NumeralUnits.j5] at H
                   have HC60 := Aside0.mk H
                   clear H
                   go_upto_region 16 with (fail)
                   go_cut [114] (fun v114 wc => ∃ (kq : Nat) (x114_59 : Bool), v114 = .bool x114_59 ∧ Aside0 (milllaw3_NumeralUnits.j6 kq x9_15 x10_26 x15_57 x114_59 = some r) ∧ Aside0 (kq ≤ kj57) ∧ Aside0 (wc.heap[gb599]? = some (.cells #[.bool t594, .string t595, .string t596, .int .i64 t597] 25 (0, 0))) ∧ Aside0 (wc.heap[gb605]? = some (.cells #[.bool t600, .string t601, .string t602, .int .i64 t603] 25 (0, 0))) ∧ Aside0 (Below w.heap.size w wc))
                   case first =>
                    have H := HC60.out
                    clear HC60
                    by_cases c61 : a2 > a3
                    ·
                     rw [if_pos c61] at H
                     have c61b0 : decide (a3 < a2) = true := decide_eq_true c61
                     clear c61
                     (first | rw [c61b0] | (simp only [i64_w, i32_w]; rw [c61b0]) | skip)
                     have H' := Aside0.mk H
                     clear H
                     go_wp2
                     go_meet
                     case rel => exact ⟨_, (true), qnu2_, H', ⟨by have := HJ4.out; have := HJ15.out; have := HJ26.out; have := HJ40.out; have := HJ54.out; have := HJ57.out; first | omega | exact Nat.le_refl _⟩, ⟨qnu15_⟩, ⟨qnu18_⟩, ⟨qnu3_⟩⟩
                    ·
                     rw [if_neg c61] at H
                     have c61b0 : decide (a3 < a2) = false := decide_eq_false c61
                     clear c61
                     (first | rw [c61b0] | (simp only [i64_w, i32_w]; rw [c61b0]) | skip)
                     by_cases c62 : a2 = a3
                     ·
                      rw [if_pos c62] at H
                      have c62b0 : (a2 == a3) = true := beq_iff_eq.mpr c62
                      have c62b1 : (a2 != a3) = false := bne_eq_false_iff_eq.mpr c62
                      clear c62
                      have H' := Aside0.mk H
                      clear H
                      go_wp2
                      go_meet
                      case rel => exact ⟨_, (decide (a0 > a1)), qnu2_, H', ⟨by have := HJ4.out; have := HJ15.out; have := HJ26.out; have := HJ40.out; have := HJ54.out; have := HJ57.out; first | omega | exact Nat.le_refl _⟩, ⟨qnu15_⟩, ⟨qnu18_⟩, ⟨qnu3_⟩⟩
                     ·
                      rw [if_neg c62] at H
                      have c62b0 : (a2 == a3) = false := beq_eq_false_iff_ne.mpr c62
                      have c62b1 : (a2 != a3) = true := bne_iff_ne.mpr c62
                      have H' := Aside0.mk H
                      clear H
                      go_wp2
                      go_meet
                      case rel => exact ⟨_, (false), qnu2_, H', ⟨by have := HJ4.out; have := HJ15.out; have := HJ26.out; have := HJ40.out; have := HJ54.out; have := HJ57.out; first | omega | exact Nat.le_refl _⟩, ⟨qnu15_⟩, ⟨qnu18_⟩, ⟨qnu3_⟩⟩
                   case rest =>
                    clear HC60
                    (try clear c1); (try clear c2); (try clear p2); (try clear c3); (try clear c4); (try clear c5); (try clear c6); (try clear c6b0); (try clear p6); (try clear c7); (try clear c7b0); (try clear c8); (try clear c8b0); (try clear c9); (try clear c9b0); (try clear c10); (try clear c10b0); (try clear c11); (try clear c11b0); (try clear c12); (try clear c12b0); (try clear c13); (try clear c15)
                    (try clear c20); (try clear c21); (try clear c21b0); (try clear c23); (try clear c23b0); (try clear c23b1); (try clear c24); (try clear c24b0); (try clear c24b1); (try clear c25); (try clear c25b0); (try clear c25b1); (try clear c26); (try clear c26b0); (try clear c26b1); (try clear c26b2); (try clear c28); (try clear c28b0); (try clear c30); (try clear c30b0); (try clear c30b1)
                    (try clear c31); (try clear c31b0); (try clear c31b1); (try clear c32); (try clear c32b0); (try clear c32b1); (try clear c33); (try clear c33b0); (try clear c33b1); (try clear c33b2); (try clear c36); (try clear c36b0); (try clear c36b1); (try clear c37); (try clear c37b0); (try clear c37b1); (try clear c38); (try clear c38b0); (try clear c38b1); (try clear c39); (try clear c39b0)
                    (try clear c39b1); (try clear c39b2); (try clear c47); (try clear c53); (try clear c53b0); (try clear c53b1); (try clear c54); (try clear c56); (try clear c56b0); (try clear c57); (try clear c57b0); (try clear c57b1); (try clear c59); (try clear c61); (try clear c61b0); (try clear c62); (try clear c62b0); (try clear c62b1); (try clear hcz44_0); (try clear hcz44_1); (try clear hcz44_2)
                    (try clear hcz44_3); (try clear hcz48_0); (try clear hcz48_1); (try clear hcz48_2); (try clear hcz48_3); (try clear hfz44_0); (try clear hfz44_1); (try clear hfz44_2); (try clear hfz44_3); (try clear hfz48_0); (try clear hfz48_1); (try clear hfz48_2); (try clear hfz48_3); (try clear p2); (try clear p6)
                    obtain ⟨kq, x114_59, rfl, HA, HJ59, BK599, BK605, HB⟩ := hcut
                    cases kq with
                    | zero => exact absurd HA.out (by simp [milllaw3_NumeralUnits.j6])
                    | succ kj59 =>
                     have H := HA.out
                     clear HA
                     simp only [milllaw3_NumeralUnits.j6] at H
                     have HC63 := Aside0.mk H
                     clear H
                     go_upto_if 114 with (fail)
                     go_cut [15] (fun v15 wc => ∃ (kq : Nat) (x15_62 : Int), v15 = .int .i64 x15_62 ∧ Aside0 (milllaw3_NumeralUnits.j7 kq x9_15 x10_26 x15_62 = some r) ∧ Aside0 (kq ≤ kj59) ∧ Aside0 (wc.heap[gb599]? = some (.cells #[.bool t594, .string t595, .string t596, .int .i64 t597] 25 (0, 0))) ∧ Aside0 (wc.heap[gb605]? = some (.cells #[.bool t600, .string t601, .string t602, .int .i64 t603] 25 (0, 0))) ∧ Aside0 (Below w.heap.size w wc))
                     case first =>
                      have H := HC63.out
                      clear HC63
                      by_cases c64 : x114_59 = true
                      ·
                       subst c64
                       have H1 : (milllaw3_NumeralUnits.j7 kj59 x9_15 x10_26 1) = some r := by rw [if_pos rfl] at H; exact H
                       clear H
                       have H := H1
                       clear H1
                       have H' := Aside0.mk H
                       clear H
                       go_wp2
                       go_meet
                       case rel => exact ⟨_, (1), qnu2_, H', ⟨by have := HJ4.out; have := HJ15.out; have := HJ26.out; have := HJ40.out; have := HJ54.out; have := HJ57.out; have := HJ59.out; first | omega | exact Nat.le_refl _⟩, ⟨qnu15_⟩, ⟨qnu18_⟩, ⟨qnu3_⟩⟩
                      ·
                       replace c64 := Bool.eq_false_iff.mpr c64
                       subst c64
                       have H1 : (milllaw3_NumeralUnits.j7 kj59 x9_15 x10_26 x15_57) = some r := by rw [if_neg (show ¬ (false = true) by decide)] at H; exact H
                       clear H
                       have H := H1
                       clear H1
                       have H' := Aside0.mk H
                       clear H
                       go_wp2
                       go_meet
                       case rel => exact ⟨_, (x15_57), qnu2_, H', ⟨by have := HJ4.out; have := HJ15.out; have := HJ26.out; have := HJ40.out; have := HJ54.out; have := HJ57.out; have := HJ59.out; first | omega | exact Nat.le_refl _⟩, ⟨qnu15_⟩, ⟨qnu18_⟩, ⟨qnu3_⟩⟩
                     case rest =>
                      clear HC63
                      (try clear c1); (try clear c2); (try clear p2); (try clear c3); (try clear c4); (try clear c5); (try clear c6); (try clear c6b0); (try clear p6); (try clear c7); (try clear c7b0); (try clear c8); (try clear c8b0); (try clear c9); (try clear c9b0); (try clear c10); (try clear c10b0); (try clear c11); (try clear c11b0); (try clear c12); (try clear c12b0); (try clear c13); (try clear c15)
                      (try clear c20); (try clear c21); (try clear c21b0); (try clear c23); (try clear c23b0); (try clear c23b1); (try clear c24); (try clear c24b0); (try clear c24b1); (try clear c25); (try clear c25b0); (try clear c25b1); (try clear c26); (try clear c26b0); (try clear c26b1); (try clear c26b2); (try clear c28); (try clear c28b0); (try clear c30); (try clear c30b0); (try clear c30b1)
                      (try clear c31); (try clear c31b0); (try clear c31b1); (try clear c32); (try clear c32b0); (try clear c32b1); (try clear c33); (try clear c33b0); (try clear c33b1); (try clear c33b2); (try clear c36); (try clear c36b0); (try clear c36b1); (try clear c37); (try clear c37b0); (try clear c37b1); (try clear c38); (try clear c38b0); (try clear c38b1); (try clear c39); (try clear c39b0)
                      (try clear c39b1); (try clear c39b2); (try clear c47); (try clear c53); (try clear c53b0); (try clear c53b1); (try clear c54); (try clear c56); (try clear c56b0); (try clear c57); (try clear c57b0); (try clear c57b1); (try clear c59); (try clear c61); (try clear c61b0); (try clear c62); (try clear c62b0); (try clear c62b1); (try clear c64); (try clear p64); (try clear hcz44_0)
                      (try clear hcz44_1); (try clear hcz44_2); (try clear hcz44_3); (try clear hcz48_0); (try clear hcz48_1); (try clear hcz48_2); (try clear hcz48_3); (try clear hfz44_0); (try clear hfz44_1); (try clear hfz44_2); (try clear hfz44_3); (try clear hfz48_0); (try clear hfz48_1); (try clear hfz48_2); (try clear hfz48_3); (try clear p2); (try clear p6)
                      obtain ⟨kq, x15_62, rfl, HA, HJ62, BK599, BK605, HB⟩ := hcut
                      cases kq with
                      | zero => exact absurd HA.out (by simp [milllaw3_NumeralUnits.j7])
                      | succ kj62 =>
                       have H := HA.out
                       clear HA
                       simp only [milllaw3_NumeralUnits.j7] at H
                       replace H := Option.bind_eq_some_iff.mp H
                       obtain ⟨t606, A650, H⟩ := H
                       replace H : (if t606 = x15_62 then (if 1 + x9_15.size ≤ 9223372036854775807 then (if 1 + x10_26.size ≤ 9223372036854775807 then ((numeral_Compare.f kj62 64 ((⟨#[45]⟩ : ByteArray) ++ x9_15) ((⟨#[45]⟩ : ByteArray) ++ x10_26)).bind fun t607 => (if t607 = (wrap64 (-x15_62)) then ((numeral_Compare.f kj62 64 ((⟨#[45]⟩ : ByteArray) ++ x9_15) x10_26).bind fun t608 => (if t608 = (-1) then ((numeral_Compare.f kj62 64 (⟨#[48, 81]⟩ : ByteArray) x9_15).bind fun t609 => (some (t609 == (-1)))) else (some false))) else (some false))) else (none)) else (none)) else (some false)) = some r := H
                       have A65 := Aside0.mk A650
                       clear A650
                       by_cases c66 : t606 = x15_62
                       ·
                        rw [if_pos c66] at H
                        have c66b0 : (t606 == x15_62) = true := beq_iff_eq.mpr c66
                        have c66b1 : (t606 != x15_62) = false := bne_eq_false_iff_eq.mpr c66
                        clear c66
                        by_cases c67 : 1 + x9_15.size ≤ 9223372036854775807
                        ·
                         rw [if_pos c67] at H
                         have c67b0 := eq_true c67
                         have c67b1 : decide (1 + x9_15.size ≤ 9223372036854775807) = true := decide_eq_true c67
                         try have c67b2 : (9223372036854775807 < 1 + x9_15.size) = False := eq_false (Nat.not_lt.2 c67)
                         by_cases c68 : 1 + x10_26.size ≤ 9223372036854775807
                         ·
                          rw [if_pos c68] at H
                          have c68b0 := eq_true c68
                          have c68b1 : decide (1 + x10_26.size ≤ 9223372036854775807) = true := decide_eq_true c68
                          try have c68b2 : (9223372036854775807 < 1 + x10_26.size) = False := eq_false (Nat.not_lt.2 c68)
                          replace H := Option.bind_eq_some_iff.mp H
                          obtain ⟨t607, A690, H⟩ := H
                          replace H : (if t607 = (wrap64 (-x15_62)) then ((numeral_Compare.f kj62 64 ((⟨#[45]⟩ : ByteArray) ++ x9_15) x10_26).bind fun t608 => (if t608 = (-1) then ((numeral_Compare.f kj62 64 (⟨#[48, 81]⟩ : ByteArray) x9_15).bind fun t609 => (some (t609 == (-1)))) else (some false))) else (some false)) = some r := H
                          have A69 := Aside0.mk A690
                          clear A690
                          by_cases c70 : t607 = (wrap64 (-x15_62))
                          ·
                           rw [if_pos c70] at H
                           have c70b0 : (t607 == (wrap64 (-x15_62))) = true := beq_iff_eq.mpr c70
                           have c70b1 : (t607 != (wrap64 (-x15_62))) = false := bne_eq_false_iff_eq.mpr c70
                           clear c70
                           replace H := Option.bind_eq_some_iff.mp H
                           obtain ⟨t608, A710, H⟩ := H
                           replace H : (if t608 = (-1) then ((numeral_Compare.f kj62 64 (⟨#[48, 81]⟩ : ByteArray) x9_15).bind fun t609 => (some (t609 == (-1)))) else (some false)) = some r := H
                           have A71 := Aside0.mk A710
                           clear A710
                           by_cases c72 : t608 = (-1)
                           ·
                            rw [if_pos c72] at H
                            have c72b0 : (t608 == (-1)) = true := beq_iff_eq.mpr c72
                            have c72b1 : (t608 != (-1)) = false := bne_eq_false_iff_eq.mpr c72
                            clear c72
                            replace H := Option.bind_eq_some_iff.mp H
                            obtain ⟨t609, A730, H⟩ := H
                            replace H : (some (t609 == (-1))) = some r := H
                            have A73 := Aside0.mk A730
                            clear A730
                            obtain rfl := Option.some.inj H
                            have tk78 : True := trivial; have tk79 : True := trivial; have tk80 : True := trivial; have tk81 : True := trivial
                            go_wp2_with (first | (have ztk78 := tk78; clear tk78 ztk78; (with_reducible refine gate_callee (f := 27) rfl ?_); refine goesL_ (some 117) rfl rfl Tryd.func27 (by kernel_rfl) rfl #[.int .u16 64, .string x9_15, .string x10_26] rfl qnu0_ ?_; (with_reducible refine (numeral_Compare.calls kj62 64 x9_15 x10_26 t606 _ ?side1 A65.out).mono ?_); (case side1 => exact GOK.below HGL.out qnu3_); rintro e w74 ⟨rfl, hb⟩; refine ⟨_, rfl, ?_⟩; have n0_ := Aside0.mk (blk_below (g := gb599) (o := .cells #[.bool t594, .string t595, .string t596, .int .i64 t597] 25 (0, 0)) qnu15_ hb); have n1_ := Aside0.mk (blk_below (g := gb605) (o := .cells #[.bool t600, .string t601, .string t602, .int .i64 t603] 25 (0, 0)) qnu18_ hb); have n2_ := Aside0.mk (below_step qnu3_ hb); clear BK599; clear BK605; clear HB; have BK599 := n0_; have BK605 := n1_; have HB := n2_; clear n0_ n1_ n2_; (try clear hb); (try clear hb2); (try clear hk); (try clear hi)) | (have ztk79 := tk79; clear tk79 ztk79; go_at_call 27; (with_reducible refine (numeral_Compare.calls kj62 64 ((⟨#[45]⟩ : ByteArray) ++ x9_15) ((⟨#[45]⟩ : ByteArray) ++ x10_26) t607 _ ?side1 A69.out).mono ?_); (case side1 => exact GOK.below HGL.out qnu3_); rintro e w75 ⟨rfl, hb⟩; have n0_ := Aside0.mk (blk_below (g := gb599) (o := .cells #[.bool t594, .string t595, .string t596, .int .i64 t597] 25 (0, 0)) qnu15_ hb); have n1_ := Aside0.mk (blk_below (g := gb605) (o := .cells #[.bool t600, .string t601, .string t602, .int .i64 t603] 25 (0, 0)) qnu18_ hb); have n2_ := Aside0.mk (below_step qnu3_ hb); clear BK599; clear BK605; clear HB; have BK599 := n0_; have BK605 := n1_; have HB := n2_; clear n0_ n1_ n2_; (try clear hb); (try clear hb2); (try clear hk); (try clear hi)) | (have ztk80 := tk80; clear tk80 ztk80; go_at_call 27; (with_reducible refine (numeral_Compare.calls kj62 64 ((⟨#[45]⟩ : ByteArray) ++ x9_15) x10_26 t608 _ ?side1 A71.out).mono ?_); (case side1 => exact GOK.below HGL.out qnu3_); rintro e w76 ⟨rfl, hb⟩; have n0_ := Aside0.mk (blk_below (g := gb599) (o := .cells #[.bool t594, .string t595, .string t596, .int .i64 t597] 25 (0, 0)) qnu15_ hb); have n1_ := Aside0.mk (blk_below (g := gb605) (o := .cells #[.bool t600, .string t601, .string t602, .int .i64 t603] 25 (0, 0)) qnu18_ hb); have n2_ := Aside0.mk (below_step qnu3_ hb); clear BK599; clear BK605; clear HB; have BK599 := n0_; have BK605 := n1_; have HB := n2_; clear n0_ n1_ n2_; (try clear hb); (try clear hb2); (try clear hk); (try clear hi)) | (have ztk81 := tk81; clear tk81 ztk81; go_at_call 27; (with_reducible refine (numeral_Compare.calls kj62 64 (⟨#[48, 81]⟩ : ByteArray) x9_15 t609 _ ?side1 A73.out).mono ?_); (case side1 => exact GOK.below HGL.out qnu3_); rintro e w77 ⟨rfl, hb⟩; have n0_ := Aside0.mk (blk_below (g := gb599) (o := .cells #[.bool t594, .string t595, .string t596, .int .i64 t597] 25 (0, 0)) qnu15_ hb); have n1_ := Aside0.mk (blk_below (g := gb605) (o := .cells #[.bool t600, .string t601, .string t602, .int .i64 t603] 25 (0, 0)) qnu18_ hb); have n2_ := Aside0.mk (below_step qnu3_ hb); clear BK599; clear BK605; clear HB; have BK599 := n0_; have BK605 := n1_; have HB := n2_; clear n0_ n1_ n2_; (try clear hb); (try clear hb2); (try clear hk); (try clear hi)))
                            go_ret
                            exact ⟨qnu38_, qnu3_⟩
                           ·
                            rw [if_neg c72] at H
                            have c72b0 : (t608 == (-1)) = false := beq_eq_false_iff_ne.mpr c72
                            have c72b1 : (t608 != (-1)) = true := bne_iff_ne.mpr c72
                            obtain rfl := Option.some.inj H
                            have tk85 : True := trivial; have tk86 : True := trivial; have tk87 : True := trivial
                            go_wp2_with (first | (have ztk85 := tk85; clear tk85 ztk85; (with_reducible refine gate_callee (f := 27) rfl ?_); refine goesL_ (some 117) rfl rfl Tryd.func27 (by kernel_rfl) rfl #[.int .u16 64, .string x9_15, .string x10_26] rfl qnu0_ ?_; (with_reducible refine (numeral_Compare.calls kj62 64 x9_15 x10_26 t606 _ ?side1 A65.out).mono ?_); (case side1 => exact GOK.below HGL.out qnu3_); rintro e w82 ⟨rfl, hb⟩; refine ⟨_, rfl, ?_⟩; have n0_ := Aside0.mk (blk_below (g := gb599) (o := .cells #[.bool t594, .string t595, .string t596, .int .i64 t597] 25 (0, 0)) qnu15_ hb); have n1_ := Aside0.mk (blk_below (g := gb605) (o := .cells #[.bool t600, .string t601, .string t602, .int .i64 t603] 25 (0, 0)) qnu18_ hb); have n2_ := Aside0.mk (below_step qnu3_ hb); clear BK599; clear BK605; clear HB; have BK599 := n0_; have BK605 := n1_; have HB := n2_; clear n0_ n1_ n2_; (try clear hb); (try clear hb2); (try clear hk); (try clear hi)) | (have ztk86 := tk86; clear tk86 ztk86; go_at_call 27; (with_reducible refine (numeral_Compare.calls kj62 64 ((⟨#[45]⟩ : ByteArray) ++ x9_15) ((⟨#[45]⟩ : ByteArray) ++ x10_26) t607 _ ?side1 A69.out).mono ?_); (case side1 => exact GOK.below HGL.out qnu3_); rintro e w83 ⟨rfl, hb⟩; have n0_ := Aside0.mk (blk_below (g := gb599) (o := .cells #[.bool t594, .string t595, .string t596, .int .i64 t597] 25 (0, 0)) qnu15_ hb); have n1_ := Aside0.mk (blk_below (g := gb605) (o := .cells #[.bool t600, .string t601, .string t602, .int .i64 t603] 25 (0, 0)) qnu18_ hb); have n2_ := Aside0.mk (below_step qnu3_ hb); clear BK599; clear BK605; clear HB; have BK599 := n0_; have BK605 := n1_; have HB := n2_; clear n0_ n1_ n2_; (try clear hb); (try clear hb2); (try clear hk); (try clear hi)) | (have ztk87 := tk87; clear tk87 ztk87; go_at_call 27; (with_reducible refine (numeral_Compare.calls kj62 64 ((⟨#[45]⟩ : ByteArray) ++ x9_15) x10_26 t608 _ ?side1 A71.out).mono ?_); (case side1 => exact GOK.below HGL.out qnu3_); rintro e w84 ⟨rfl, hb⟩; have n0_ := Aside0.mk (blk_below (g := gb599) (o := .cells #[.bool t594, .string t595, .string t596, .int .i64 t597] 25 (0, 0)) qnu15_ hb); have n1_ := Aside0.mk (blk_below (g := gb605) (o := .cells #[.bool t600, .string t601, .string t602, .int .i64 t603] 25 (0, 0)) qnu18_ hb); have n2_ := Aside0.mk (below_step qnu3_ hb); clear BK599; clear BK605; clear HB; have BK599 := n0_; have BK605 := n1_; have HB := n2_; clear n0_ n1_ n2_; (try clear hb); (try clear hb2); (try clear hk); (try clear hi)))
                            go_ret
                            exact ⟨qnu38_, qnu3_⟩
                          ·
                           rw [if_neg c70] at H
                           have c70b0 : (t607 == (wrap64 (-x15_62))) = false := beq_eq_false_iff_ne.mpr c70
                           have c70b1 : (t607 != (wrap64 (-x15_62))) = true := bne_iff_ne.mpr c70
                           obtain rfl := Option.some.inj H
                           have tk90 : True := trivial; have tk91 : True := trivial
                           go_wp2_with (first | (have ztk90 := tk90; clear tk90 ztk90; (with_reducible refine gate_callee (f := 27) rfl ?_); refine goesL_ (some 117) rfl rfl Tryd.func27 (by kernel_rfl) rfl #[.int .u16 64, .string x9_15, .string x10_26] rfl qnu0_ ?_; (with_reducible refine (numeral_Compare.calls kj62 64 x9_15 x10_26 t606 _ ?side1 A65.out).mono ?_); (case side1 => exact GOK.below HGL.out qnu3_); rintro e w88 ⟨rfl, hb⟩; refine ⟨_, rfl, ?_⟩; have n0_ := Aside0.mk (blk_below (g := gb599) (o := .cells #[.bool t594, .string t595, .string t596, .int .i64 t597] 25 (0, 0)) qnu15_ hb); have n1_ := Aside0.mk (blk_below (g := gb605) (o := .cells #[.bool t600, .string t601, .string t602, .int .i64 t603] 25 (0, 0)) qnu18_ hb); have n2_ := Aside0.mk (below_step qnu3_ hb); clear BK599; clear BK605; clear HB; have BK599 := n0_; have BK605 := n1_; have HB := n2_; clear n0_ n1_ n2_; (try clear hb); (try clear hb2); (try clear hk); (try clear hi)) | (have ztk91 := tk91; clear tk91 ztk91; go_at_call 27; (with_reducible refine (numeral_Compare.calls kj62 64 ((⟨#[45]⟩ : ByteArray) ++ x9_15) ((⟨#[45]⟩ : ByteArray) ++ x10_26) t607 _ ?side1 A69.out).mono ?_); (case side1 => exact GOK.below HGL.out qnu3_); rintro e w89 ⟨rfl, hb⟩; have n0_ := Aside0.mk (blk_below (g := gb599) (o := .cells #[.bool t594, .string t595, .string t596, .int .i64 t597] 25 (0, 0)) qnu15_ hb); have n1_ := Aside0.mk (blk_below (g := gb605) (o := .cells #[.bool t600, .string t601, .string t602, .int .i64 t603] 25 (0, 0)) qnu18_ hb); have n2_ := Aside0.mk (below_step qnu3_ hb); clear BK599; clear BK605; clear HB; have BK599 := n0_; have BK605 := n1_; have HB := n2_; clear n0_ n1_ n2_; (try clear hb); (try clear hb2); (try clear hk); (try clear hi)))
                           go_ret
                           exact ⟨qnu38_, qnu3_⟩
                         ·
                          rw [if_neg c68] at H
                          exact absurd H (by simp)
                        ·
                         rw [if_neg c67] at H
                         exact absurd H (by simp)
                       ·
                        rw [if_neg c66] at H
                        have c66b0 : (t606 == x15_62) = false := beq_eq_false_iff_ne.mpr c66
                        have c66b1 : (t606 != x15_62) = true := bne_iff_ne.mpr c66
                        obtain rfl := Option.some.inj H
                        go_wp2_with (first | ((with_reducible refine gate_callee (f := 27) rfl ?_); refine goesL_ (some 117) rfl rfl Tryd.func27 (by kernel_rfl) rfl #[.int .u16 64, .string x9_15, .string x10_26] rfl qnu0_ ?_; (with_reducible refine (numeral_Compare.calls kj62 64 x9_15 x10_26 t606 _ ?side1 A65.out).mono ?_); (case side1 => exact GOK.below HGL.out qnu3_); rintro e w92 ⟨rfl, hb⟩; refine ⟨_, rfl, ?_⟩; have n0_ := Aside0.mk (blk_below (g := gb599) (o := .cells #[.bool t594, .string t595, .string t596, .int .i64 t597] 25 (0, 0)) qnu15_ hb); have n1_ := Aside0.mk (blk_below (g := gb605) (o := .cells #[.bool t600, .string t601, .string t602, .int .i64 t603] 25 (0, 0)) qnu18_ hb); have n2_ := Aside0.mk (below_step qnu3_ hb); clear BK599; clear BK605; clear HB; have BK599 := n0_; have BK605 := n1_; have HB := n2_; clear n0_ n1_ n2_; (try clear hb); (try clear hb2); (try clear hk); (try clear hi)))
                        go_ret
                        exact ⟨qnu38_, qnu3_⟩
           ·
            rw [if_neg c39] at H
            exact absurd H (by simp)
          ·
           rw [if_neg c38] at H
           exact absurd H (by simp)
         ·
          rw [if_neg c37] at H
          exact absurd H (by simp)
        ·
         rw [if_neg c36] at H
         exact absurd H (by simp)

/-- THE ONE PURE STATEMENT of milllaw3_NumeralUnits: yours. -/
def milllaw3_NumeralUnits.Pure : Prop := ∀ (a0 : Int) (a1 : Int) (a2 : Int) (a3 : Int), (Lit.int .i64 a0).wf = true → (Lit.int .i64 a1).wf = true → (Lit.int .i64 a2).wf = true → (Lit.int .i64 a3).wf = true → ∃ k, milllaw3_NumeralUnits.f k a0 a1 a2 a3 = some true
theorem milllaw3_NumeralUnits.walk (P : milllaw3_NumeralUnits.Pure) (a0 : Int) (a1 : Int) (a2 : Int) (a3 : Int) (w : World) (hGL : GOK w) (w0 : (Lit.int .i64 a0).wf = true) (w1 : (Lit.int .i64 a1).wf = true) (w2 : (Lit.int .i64 a2).wf = true) (w3 : (Lit.int .i64 a3).wf = true) :
  Calls Tryd.prog 10 #[.int .i64 a0, .int .i64 a1, .int .i64 a2, .int .i64 a3] w fun e w' => e = .returned (.bool true) ∧ Below w.heap.size w w' := by
 obtain ⟨k, h⟩ := P a0 a1 a2 a3 w0 w1 w2 w3
 refine (milllaw3_NumeralUnits.calls k a0 a1 a2 a3 true w hGL h).mono ?_
 rintro e w' ⟨rfl, hd⟩
 exact ⟨rfl, hd⟩

end Go.Proofs.YtcdajedmlfhmeaaDoor.XN

section
/- What the pure laws stand on: 'enough rounds', bytes as a list, places. (by this session) -/
set_option linter.unusedVariables false
set_option linter.unusedSimpArgs false
namespace Go.Proofs.YtcdajedmlfhmeaaDoor.XN
open Go.RowKit Go.Proofs.YtcdajedmlfhmeaaDoorW.PrintWords Go.Proofs.YtcdajedmlfhmeaaDoorW.PrintMore

/-- With enough rounds, f answers v. -/
def Ev {α : Type} (f : Nat → Option α) (v : α) : Prop := ∃ k0, ∀ k, k0 ≤ k → f k = some v
namespace Ev
variable {α β : Type}
theorem pure (v : α) : Ev (fun _ => some v) v := ⟨0, fun _ _ => rfl⟩
theorem done {v w : α} (h : v = w) : Ev (fun _ => some v) w := ⟨0, fun _ _ => by rw [h]⟩
theorem congr {f g : Nat → Option α} {v : α} (h : ∀ k, f k = g k) (hg : Ev g v) : Ev f v := by
  obtain ⟨k0, hk⟩ := hg
  exact ⟨k0, fun k h0 => by rw [h, hk k h0]⟩
theorem val {f : Nat → Option α} {v w : α} (h : Ev f v) (e : v = w) : Ev f w := e ▸ h
theorem bind {f : Nat → Option α} {g : Nat → α → Option β} {a : α} {v : β} (h : Ev f a) (h2 : Ev (fun k => g k a) v) : Ev (fun k => (f k).bind (g k)) v := by
  obtain ⟨k1, e1⟩ := h
  obtain ⟨k2, e2⟩ := h2
  refine ⟨max k1 k2, fun k hk => ?_⟩
  show (f k).bind (g k) = some v
  rw [e1 k (by omega)]
  exact e2 k (by omega)
theorem succ {f : Nat → Option α} {v : α} (h : Ev (fun k => f (k + 1)) v) : Ev f v := by
  obtain ⟨k0, e⟩ := h
  refine ⟨k0 + 1, fun k hk => ?_⟩
  obtain ⟨k', rfl⟩ : ∃ k', k = k' + 1 := ⟨k - 1, by omega⟩
  exact e k' (by omega)
theorem pos {c : Prop} [Decidable c] {f g : Nat → Option α} {v : α} (hc : c) (h : Ev f v) : Ev (fun k => if c then f k else g k) v := by
  simpa only [if_pos hc] using h
theorem neg {c : Prop} [Decidable c] {f g : Nat → Option α} {v : α} (hc : ¬ c) (h : Ev g v) : Ev (fun k => if c then f k else g k) v := by
  simpa only [if_neg hc] using h
theorem ite {c : Prop} [Decidable c] {f g : Nat → Option α} {v : α} (h1 : c → Ev f v) (h2 : ¬ c → Ev g v) : Ev (fun k => if c then f k else g k) v := by
  by_cases hc : c
  · exact pos hc (h1 hc)
  · exact neg hc (h2 hc)
theorem ex {f : Nat → Option α} {v : α} (h : Ev f v) : ∃ k, f k = some v := by
  obtain ⟨k0, e⟩ := h
  exact ⟨k0, e k0 (Nat.le_refl _)⟩
end Ev

/-! ### bytes as a list -/
def L (s : ByteArray) : List UInt8 := s.data.toList
def mkB (l : List UInt8) : ByteArray := ⟨l.toArray⟩
theorem L_mk (l : List UInt8) : L (mkB l) = l := rfl
theorem L_lit (a : Array UInt8) : L ⟨a⟩ = a.toList := rfl
theorem mk_L (s : ByteArray) : mkB (L s) = s := by cases s; rfl
theorem L_len (s : ByteArray) : (L s).length = s.size := Array.length_toList
theorem size_mk (l : List UInt8) : (mkB l).size = l.length := by simp [mkB, ByteArray.size]
theorem toList_L (s : ByteArray) : s.toList = L s := ByteArray.toList_eq s
theorem toList_mk (l : List UInt8) : (mkB l).toList = l := by rw [toList_L, L_mk]
theorem L_inj {s t : ByteArray} (h : L s = L t) : s = t := by rw [← mk_L s, h, mk_L]
theorem L_extract (s : ByteArray) (a b : Nat) : L (s.extract a b) = ((L s).drop a).take (b - a) := Lib.extract_data s a b
theorem extract_mk' (s : ByteArray) (a b : Nat) : s.extract a b = mkB (((L s).drop a).take (b - a)) := L_inj (by rw [L_extract, L_mk])
theorem extract_end (s : ByteArray) (a : Nat) : s.extract a s.size = mkB ((L s).drop a) := by
  rw [extract_mk', List.take_of_length_le]
  rw [List.length_drop, L_len]
  omega
theorem extract_front (s : ByteArray) (b : Nat) : s.extract 0 b = mkB ((L s).take b) := by rw [extract_mk']; rfl
theorem L_append (s t : ByteArray) : L (s ++ t) = L s ++ L t := by
  unfold L
  rw [ByteArray.data_append, Array.toList_append]
theorem mk_append (l m : List UInt8) : mkB l ++ mkB m = mkB (l ++ m) := L_inj (by rw [L_append, L_mk, L_mk, L_mk])
theorem lit_mk (a : Array UInt8) : (⟨a⟩ : ByteArray) = mkB a.toList := L_inj (by rw [L_lit, L_mk])
theorem bt_nat (s : ByteArray) (i : Nat) (h : i < (L s).length) : bt s (i : Int) = ((L s)[i].toNat : Int) := by
  have h' : i < s.size := by rwa [L_len] at h
  unfold bt
  have e : ((i : Int)).toNat = i := by omega
  simp only [e, h', dite_true]
  rfl
theorem drop_nil {s : ByteArray} {i : Nat} (h : (L s).drop i = []) : s.size ≤ i := by
  rw [← L_len]; exact List.drop_eq_nil_iff.1 h
theorem drop_cons {s : ByteArray} {i : Nat} {c : UInt8} {r : List UInt8} (h : (L s).drop i = c :: r) : i < s.size ∧ bt s (i : Int) = (c.toNat : Int) ∧ (L s).drop (i + 1) = r := by
  have hl : i < (L s).length := by
    rcases Nat.lt_or_ge i (L s).length with h' | h'
    · exact h'
    · rw [List.drop_eq_nil_iff.2 h'] at h; cases h
  have e := List.drop_eq_getElem_cons hl
  rw [h] at e
  injection e with e1 e2
  exact ⟨by rwa [L_len] at hl, by rw [bt_nat s i hl, e1], e2.symm⟩
theorem drop_some {s : ByteArray} {i : Nat} (h : i < s.size) : ∃ c, (L s).drop i = c :: (L s).drop (i + 1) ∧ bt s (i : Int) = (c.toNat : Int) := by
  have hl : i < (L s).length := by rwa [L_len]
  exact ⟨_, List.drop_eq_getElem_cons hl, bt_nat s i hl⟩

/-! ### whole numbers -/
theorem w64 {x : Int} (h : -9223372036854775808 ≤ x ∧ x ≤ 9223372036854775807) : wrap64 x = x := by unfold wrap64; omega
theorem w64_nat {x : Int} {n : Nat} (e : x = (n : Int)) (h : n ≤ 9223372036854775807) : wrap64 x = (n : Int) := by rw [e]; exact w64 (by omega)
theorem w64_succ {i : Nat} (h : i < 9223372036854775807) : wrap64 ((i : Int) + 1) = ((i + 1 : Nat) : Int) := w64_nat (by omega) (by omega)
theorem u8_lt (c : UInt8) : (c.toNat : Int) < 256 ∧ (0 : Int) ≤ (c.toNat : Int) := by have := c.toNat_lt; omega
theorem u8_eq {c d : UInt8} (h : (c.toNat : Int) = (d.toNat : Int)) : c = d := UInt8.toNat_inj.1 (by omega)
/-- The strings that come up are shorter than this. -/
def big : Nat := 4611686018427387904
theorem big_eq : big = 4611686018427387904 := rfl

/-! ### runs at the head of a list -/
theorem take_len {p : UInt8 → Bool} (l : List UInt8) : (l.takeWhile p).length ≤ l.length := by
  induction l with
  | nil => simp
  | cons c r ih => simp only [List.takeWhile_cons]; split <;> simp <;> omega
theorem take_run {p : UInt8 → Bool} (l : List UInt8) : l.take (l.takeWhile p).length = l.takeWhile p := by
  induction l with
  | nil => rfl
  | cons c r ih =>
    simp only [List.takeWhile_cons]
    split
    · simp [ih]
    · simp
theorem drop_run {p : UInt8 → Bool} (l : List UInt8) : l.drop (l.takeWhile p).length = l.dropWhile p := by
  induction l with
  | nil => rfl
  | cons c r ih =>
    simp only [List.takeWhile_cons, List.dropWhile_cons]
    split
    · simp [ih]
    · simp
/-- A loop that goes on while a byte is p, up to the end. -/
theorem scan {β : Type} {s : ByteArray} {p : UInt8 → Bool} {F : Nat → Int → Option β} {v : β} (hs : s.size < big)
    (hstep : ∀ (k i : Nat) (c : UInt8), i < s.size → bt s (i : Int) = (c.toNat : Int) → p c = true → F (k + 1) (i : Int) = F k ((i + 1 : Nat) : Int)) :
    ∀ (l : List UInt8) (i : Nat), (L s).drop i = l → Ev (fun k => F k ((i + (l.takeWhile p).length : Nat) : Int)) v → Ev (fun k => F k (i : Int)) v
  | [], i, h, hend => by simpa using hend
  | c :: r, i, h, hend => by
    obtain ⟨h1, h2, h3⟩ := drop_cons h
    by_cases hp : p c = true
    · rw [List.takeWhile_cons, if_pos hp] at hend
      refine Ev.succ (Ev.congr (fun k => hstep k i c h1 h2 hp) (scan hs hstep r (i + 1) h3 ?_))
      rw [show i + 1 + (r.takeWhile p).length = i + (c :: r.takeWhile p).length by simp; omega]
      exact hend
    · rw [List.takeWhile_cons, if_neg hp] at hend
      simpa using hend
/-- What stands behind such a run: the end, or a byte that isn't p. -/
theorem behind {s : ByteArray} {p : UInt8 → Bool} {i : Nat} (hi : i ≤ s.size) : let j := i + (((L s).drop i).takeWhile p).length; j ≤ s.size ∧ (L s).drop j = ((L s).drop i).dropWhile p := by
  refine ⟨?_, ?_⟩
  · have := take_len (p := p) ((L s).drop i)
    rw [List.length_drop, L_len] at this
    omega
  · rw [← List.drop_drop, drop_run]
theorem dropWhile_head {p : UInt8 → Bool} {l r : List UInt8} {c : UInt8} (h : l.dropWhile p = c :: r) : p c = false := by
  induction l with
  | nil => cases h
  | cons d l ih =>
    rw [List.dropWhile_cons] at h
    split at h
    · exact ih h
    · rename_i hd
      injection h with h1 h2
      subst h1
      simpa using hd
end Go.Proofs.YtcdajedmlfhmeaaDoor.XN
end

namespace Go.Proofs.YtcdajedmlfhmeaaDoor.XN
open Go.RowKit Go.Proofs.YtcdajedmlfhmeaaDoorW.PrintWords Go.Proofs.YtcdajedmlfhmeaaDoorW.PrintLast Go.Proofs.YtcdajedmlfhmeaaDoorW.PrintMore
attribute [local go_sem] max2_int min2_int max_two min_two max_three min_three max_four min_four
set_option linter.unusedVariables false
set_option linter.unusedSimpArgs false

/-! ### millref3_start: function 44 -/
def millref3_start.l0 : Nat → ByteArray → Int → Option (Int)
 | 0, _, _ => none
 | k + 1, x0, x3 => if x3 < (x0.size : Int) then (if 0 ≤ x3 then (if (bt x0 x3) = 32 then (millref3_start.l0 k x0 (wrap64 (x3 + 1))) else (if (bt x0 x3) = 9 then (millref3_start.l0 k x0 (wrap64 (x3 + 1))) else (some x3))) else (none)) else (some x3)
def millref3_start.f (k : Nat) (a0 : ByteArray) : Option (Int) := millref3_start.l0 k a0 0

/-! ### millref3_isDigit: function 96 -/
def millref3_isDigit.f (a0 : Int) : Option (Bool) := if a0 ≥ 48 then (some (decide (a0 ≤ 57))) else (some false)

/-! ### millref3_run: function 71 -/
def millref3_run.l0 : Nat → ByteArray → Int → Option (Int)
 | 0, _, _ => none
 | k + 1, x0, x1 => if x1 < (x0.size : Int) then (if 0 ≤ x1 then ((millref3_isDigit.f (bt x0 x1)).bind fun t194 => (if t194 = true then (millref3_run.l0 k x0 (wrap64 (x1 + 1))) else (some x1))) else (none)) else (some x1)
def millref3_run.f (k : Nat) (a0 : ByteArray) (a1 : Int) : Option (Int) := millref3_run.l0 k a0 a1

/-! ### millref3_Plain: function 46 -/
def millref3_Plain.f (k : Nat) (a0 : ByteArray) (a1 : Int) : Option (ByteArray × Int × Int) := (millref3_run.f k a0 a1).bind fun t195 => (if 0 ≤ a1 then (if a1 ≤ t195 then (if t195 ≤ (a0.size : Int) then (if t195 < (a0.size : Int) then (if 0 ≤ t195 then (if (bt a0 t195) = 46 then ((millref3_run.f k a0 (wrap64 (t195 + 1))).bind fun t196 => (if 0 ≤ (wrap64 (t195 + 1)) then (if (wrap64 (t195 + 1)) ≤ t196 then (if t196 ≤ (a0.size : Int) then (if (t195.toNat - a1.toNat) + (t196.toNat - ((wrap64 (t195 + 1)) : Int).toNat) ≤ 9223372036854775807 then (if ((a0.extract (a1 : Int).toNat (t195 : Int).toNat) ++ (a0.extract ((wrap64 (t195 + 1)) : Int).toNat (t196 : Int).toNat)).toList = ([] : List UInt8) then (some ((⟨#[]⟩ : ByteArray), 0, (-1))) else (some ((a0.extract (a1 : Int).toNat (t195 : Int).toNat) ++ (a0.extract ((wrap64 (t195 + 1)) : Int).toNat (t196 : Int).toNat), ((t195.toNat - a1.toNat : Nat) : Int), t196))) else (none)) else (none)) else (none)) else (none))) else (if (a0.extract (a1 : Int).toNat (t195 : Int).toNat).toList = ([] : List UInt8) then (some ((⟨#[]⟩ : ByteArray), 0, (-1))) else (some (a0.extract (a1 : Int).toNat (t195 : Int).toNat, ((t195.toNat - a1.toNat : Nat) : Int), t195)))) else (none)) else (if (a0.extract (a1 : Int).toNat (t195 : Int).toNat).toList = ([] : List UInt8) then (some ((⟨#[]⟩ : ByteArray), 0, (-1))) else (some (a0.extract (a1 : Int).toNat (t195 : Int).toNat, ((t195.toNat - a1.toNat : Nat) : Int), t195)))) else (none)) else (none)) else (none))
end Go.Proofs.YtcdajedmlfhmeaaDoor.XN

section
/- What numeral and millref3 compute at the head of a text: blanks, digits, the parts of a number. (by this session) -/
-- NEEDS numeral_blanks numeral_plain millref3_start millref3_isDigit millref3_run millref3_Plain
set_option linter.unusedVariables false
set_option linter.unusedSimpArgs false
namespace Go.Proofs.YtcdajedmlfhmeaaDoor.XN
open Go.RowKit Go.Proofs.YtcdajedmlfhmeaaDoorW.PrintWords Go.Proofs.YtcdajedmlfhmeaaDoorW.PrintMore

theorem stop_at {s : ByteArray} {p : UInt8 → Bool} {i : Nat} (hi : i ≤ s.size) :
    (i + (((L s).drop i).takeWhile p).length = s.size ∧ ((L s).drop i).dropWhile p = []) ∨
    (∃ c r, i + (((L s).drop i).takeWhile p).length < s.size ∧ bt s ((i + (((L s).drop i).takeWhile p).length : Nat) : Int) = (c.toNat : Int) ∧ p c = false ∧ ((L s).drop i).dropWhile p = c :: r ∧ (L s).drop (i + (((L s).drop i).takeWhile p).length + 1) = r) := by
  obtain ⟨h1, h2⟩ := behind (p := p) hi
  cases h : ((L s).drop i).dropWhile p with
  | nil =>
    left
    rw [h] at h2
    have := drop_nil h2
    exact ⟨by omega, rfl⟩
  | cons c r =>
    right
    rw [h] at h2
    obtain ⟨a, b, d⟩ := drop_cons h2
    exact ⟨c, r, a, b, dropWhile_head h, rfl, d⟩

def isBl (c : UInt8) : Bool := decide ((c.toNat : Int) = 32) || decide ((c.toNat : Int) = 9)
def isDg (c : UInt8) : Bool := plainDig (c.toNat : Int)
def is0 (c : UInt8) : Bool := decide ((c.toNat : Int) = 48)
def blkN (l : List UInt8) : Nat := (l.takeWhile isBl).length

theorem blanks_ev (s : ByteArray) (hs : s.size < big) : Ev (fun k => numeral_blanks.f k s) (blkN (L s) : Int) := by
  unfold numeral_blanks.f
  refine scan (p := isBl) (F := fun k i => numeral_blanks.l0 k s i) hs (fun k i c h1 h2 hp => ?_) (L s) 0 rfl ?_
  · simp only [numeral_blanks.l0, h2, w64_succ (i := i) (by rw [big_eq] at hs; omega)]
    rw [if_pos (by omega), if_pos (by omega)]
    simp only [isBl, Bool.or_eq_true, decide_eq_true_eq] at hp
    split
    · rfl
    · rw [if_pos (by omega)]
  · simp only [Nat.zero_add]
    have hst := stop_at (s := s) (p := isBl) (i := 0) (Nat.zero_le _)
    simp only [Nat.zero_add, List.drop_zero] at hst
    refine Ev.succ ?_
    rcases hst with ⟨h, _⟩ | ⟨c, r, h1, h2, h3, _⟩
    · simp only [numeral_blanks.l0]
      exact Ev.neg (by rw [h]; omega) (Ev.pure _)
    · simp only [numeral_blanks.l0, h2]
      simp only [isBl, Bool.or_eq_false_iff, decide_eq_false_iff_not] at h3
      exact Ev.pos (by omega) (Ev.pos (by omega) (Ev.neg h3.1 (Ev.neg h3.2 (Ev.pure _))))
theorem blkN_le (s : ByteArray) : blkN (L s) ≤ s.size := by
  have := take_len (p := isBl) (L s)
  rw [L_len] at this
  exact this
theorem plainEnd_L (s : ByteArray) (i : Nat) (hi : i ≤ s.size) : plainEnd s i = i + (((L s).drop i).takeWhile isDg).length := by
  generalize hl : (L s).drop i = l
  induction l generalizing i with
  | nil =>
    have := drop_nil hl
    rw [plainEnd_no (by omega)]
    simp
  | cons c r ih =>
    obtain ⟨h1, h2, h3⟩ := drop_cons hl
    by_cases hp : isDg c = true
    · rw [plainEnd_yes h1 (by rw [h2]; exact hp), ih (i + 1) (by omega) h3, List.takeWhile_cons, if_pos hp]
      simp
      omega
    · rw [plainEnd_no (fun h => hp (by have := h.2; rw [h2] at this; exact this)), List.takeWhile_cons, if_neg hp]
      simp

/-- A number's parts at the head of l: the digits ahead of the point, those behind it, how many bytes in all. -/
def plS (l : List UInt8) : List UInt8 × List UInt8 × Nat :=
  match l.dropWhile isDg with
  | [] => (l.takeWhile isDg, [], (l.takeWhile isDg).length)
  | c :: r => if (c.toNat : Int) = 46 then (l.takeWhile isDg, r.takeWhile isDg, (l.takeWhile isDg).length + 1 + (r.takeWhile isDg).length) else (l.takeWhile isDg, [], (l.takeWhile isDg).length)
theorem plS_len (l : List UInt8) : (plS l).2.2 ≤ l.length := by
  unfold plS
  have h1 := List.takeWhile_append_dropWhile (p := isDg) (l := l)
  have h2 := congrArg List.length h1
  rw [List.length_append] at h2
  split
  · simp only; omega
  · rename_i c r h
    rw [h] at h2
    have := take_len (p := isDg) r
    simp at h2
    split <;> simp only <;> omega
def noneAt (l : List UInt8) : Bool := (plS l).1.isEmpty && (plS l).2.1.isEmpty
theorem nil_iff (l : List UInt8) : l = [] ↔ l.isEmpty = true := by cases l <;> simp
theorem plainF_S (s : ByteArray) (i : Nat) (hi : i ≤ s.size) : plainF s i = if noneAt ((L s).drop i) = true then (false, ⟨#[]⟩, ⟨#[]⟩, 0) else (false, mkB (plS ((L s).drop i)).1, mkB (plS ((L s).drop i)).2.1, ((i + (plS ((L s).drop i)).2.2 : Nat) : Int)) := by
  have he := plainEnd_L s i hi
  have hst := stop_at (s := s) (p := isDg) hi
  generalize hl : (L s).drop i = l at *
  have hx : s.extract i (plainEnd s i) = mkB (l.takeWhile isDg) := by
    rw [extract_mk', he, hl, Nat.add_sub_cancel_left, take_run]
  unfold plainF
  rw [hx]
  rw [he]
  unfold noneAt plS
  rcases hst with ⟨h, h'⟩ | ⟨c, r, h1, h2, h3, h4, h5⟩
  · rw [if_neg (by omega)]
    rw [h']
    simp only [toList_mk, nil_iff, List.isEmpty_nil, Bool.and_true]
    rfl
  · rw [h2, h4]
    simp only []
    by_cases h46 : (c.toNat : Int) = 46
    · rw [if_pos ⟨h1, h46⟩, if_pos h46]
      have hj : i + (l.takeWhile isDg).length + 1 ≤ s.size := by omega
      have he2 := plainEnd_L s _ hj
      rw [h5] at he2
      have hx2 : s.extract (i + (l.takeWhile isDg).length + 1) (plainEnd s (i + (l.takeWhile isDg).length + 1)) = mkB (r.takeWhile isDg) := by
        rw [extract_mk', he2, h5, Nat.add_sub_cancel_left, take_run]
      rw [hx2, he2]
      simp only [toList_mk, nil_iff, Bool.and_eq_true]
      rw [show i + (l.takeWhile isDg).length + 1 + (r.takeWhile isDg).length = i + ((l.takeWhile isDg).length + 1 + (r.takeWhile isDg).length) by omega]
    · rw [if_neg (fun h => h46 h.2), if_neg h46]
      simp only [toList_mk, nil_iff, List.isEmpty_nil, Bool.and_true]
      rfl
theorem plain_f (s : ByteArray) (hs : s.size < big) (i : Nat) (hi : i ≤ s.size) : numeral_plain.f s (i : Int) = some (if noneAt ((L s).drop i) = true then (false, ⟨#[]⟩, ⟨#[]⟩, 0) else (false, mkB (plS ((L s).drop i)).1, mkB (plS ((L s).drop i)).2.1, ((i + (plS ((L s).drop i)).2.2 : Nat) : Int))) := by
  unfold numeral_plain.f
  rw [if_pos ⟨by omega, by omega, by rw [big_eq] at hs; omega⟩, Int.toNat_natCast, plainF_S s i hi]
end Go.Proofs.YtcdajedmlfhmeaaDoor.XN
end

namespace Go.Proofs.YtcdajedmlfhmeaaDoor.XN
open Go.RowKit Go.Proofs.YtcdajedmlfhmeaaDoorW.PrintWords Go.Proofs.YtcdajedmlfhmeaaDoorW.PrintLast Go.Proofs.YtcdajedmlfhmeaaDoorW.PrintMore
attribute [local go_sem] max2_int min2_int max_two min_two max_three min_three max_four min_four
set_option linter.unusedVariables false
set_option linter.unusedSimpArgs false

/-! ### millref3_signed: function 41 -/
def millref3_signed.j0 : Nat → ByteArray → Int → Bool → Bool → Option (Bool × ByteArray × Int × Int × Int)
 | 0, _, _, _, _ => none
 | k + 1, x0, x4, x5, x20 => if x20 = true then ((millref3_Plain.f k x0 (wrap64 (x4 + 1))).bind fun bt199 => (if bt199.2.2 < 0 then (some (false, (⟨#[]⟩ : ByteArray), 0, 0, 0)) else (some (true, bt199.1, bt199.2.1, 0, bt199.2.2)))) else ((millref3_Plain.f k x0 x4).bind fun bt202 => (if bt202.2.2 < 0 then (some (false, (⟨#[]⟩ : ByteArray), 0, 0, 0)) else (some (x5, bt202.1, bt202.2.1, 0, bt202.2.2))))
def millref3_signed.f (k : Nat) (a0 : ByteArray) : Option (Bool × ByteArray × Int × Int × Int) := (millref3_start.f k a0).bind fun t198 => (if t198 < (a0.size : Int) then (if 0 ≤ t198 then (millref3_signed.j0 k a0 t198 false ((bt a0 t198) == 45)) else (none)) else (millref3_signed.j0 k a0 t198 false false))

/-! ### millref3_zeros: function 42 -/
def millref3_zeros.l0 : Nat → ByteArray → Int → Option (Int)
 | 0, _, _ => none
 | k + 1, x0, x3 => if x3 < (x0.size : Int) then (if 0 ≤ x3 then (if (bt x0 x3) = 48 then (millref3_zeros.l0 k x0 (wrap64 (x3 + 1))) else (some x3)) else (none)) else (some x3)
def millref3_zeros.f (k : Nat) (a0 : ByteArray) : Option (Int) := millref3_zeros.l0 k a0 0

/-! ### millref3_trimmed: function 43 -/
def millref3_trimmed.l0 : Nat → ByteArray → Int → Option (ByteArray)
 | 0, _, _ => none
 | k + 1, x0, x3 => if x3 > 0 then (if 0 ≤ (wrap64 (x3 - 1)) then (if (wrap64 (x3 - 1)) < (x0.size : Int) then (if (bt x0 (wrap64 (x3 - 1))) = 48 then (millref3_trimmed.l0 k x0 (wrap64 (x3 - 1))) else (if 0 ≤ x3 then (if x3 ≤ (x0.size : Int) then (some (x0.extract 0 (x3 : Int).toNat)) else (none)) else (none))) else (none)) else (none)) else (if 0 ≤ x3 then (if x3 ≤ (x0.size : Int) then (some (x0.extract 0 (x3 : Int).toNat)) else (none)) else (none))
def millref3_trimmed.f (k : Nat) (a0 : ByteArray) : Option (ByteArray) := millref3_trimmed.l0 k a0 (a0.size : Int)

/-! ### millref3_Decimal: function 22 -/
def millref3_Decimal.f (k : Nat) (a0 : ByteArray) : Option (Bool × ByteArray × ByteArray × Int) := (millref3_signed.f k a0).bind fun bt206 => (if bt206.2.2.2.2 = 0 then (some (false, (⟨#[]⟩ : ByteArray), (⟨#[]⟩ : ByteArray), 0)) else (if 0 ≤ bt206.2.2.1 then (if bt206.2.2.1 ≤ (bt206.2.1.size : Int) then ((millref3_zeros.f k (bt206.2.1.extract 0 (bt206.2.2.1 : Int).toNat)).bind fun t212 => (if 0 ≤ t212 then (if t212 ≤ ((bt206.2.2.1.toNat : Nat) : Int) then ((millref3_trimmed.f k (bt206.2.1.extract (bt206.2.2.1 : Int).toNat bt206.2.1.size)).bind fun t213 => (if bt206.1 = true then (if (bt206.2.2.1.toNat - t212.toNat) + t213.size ≤ 9223372036854775807 then (some ((!((((bt206.2.1.extract 0 (bt206.2.2.1 : Int).toNat).extract (t212 : Int).toNat bt206.2.2.1.toNat) ++ t213).toList).isEmpty), (bt206.2.1.extract 0 (bt206.2.2.1 : Int).toNat).extract (t212 : Int).toNat bt206.2.2.1.toNat, t213, bt206.2.2.2.2)) else (none)) else (some (false, (bt206.2.1.extract 0 (bt206.2.2.1 : Int).toNat).extract (t212 : Int).toNat bt206.2.2.1.toNat, t213, bt206.2.2.2.2)))) else (none)) else (none))) else (none)) else (none)))
def millref3_Decimal.T5 : Bool × List (List Nat × List Nat) := (true, [([], []), ([], []), ([1], [1]), ([0, 2], [0, 2]), ([], []), ([4], [4]), ([], []), ([6], [6]), ([5, 7], [5, 7]), ([8, 2], [8]), ([], []), ([3, 9, 10], [3, 9, 10]), ([], []), ([12, 11, 9, 0, 1, 2, 3, 4, 5, 6, 7, 8, 9, 10, 11, 12], [11, 12])])
def millref3_Decimal.B5 : List Nat := [0, 0, 2, 7, 0, 16, 0, 64, 240, 502, 0, 2047, 0, 8191]

/-! ### millref3_letter: function 40 -/
def millref3_letter.l0 : Nat → Int → Int → Option (Int)
 | 0, _, _ => none
 | k + 1, x0, x3 => if x3 < 10 then (if 0 ≤ x3 then (if (bt (⟨#[75, 77, 71, 84, 80, 69, 90, 89, 82, 81]⟩ : ByteArray) x3) = x0 then (some (wrap64 (x3 + 1))) else (millref3_letter.l0 k x0 (wrap64 (x3 + 1)))) else (none)) else (some 0)
def millref3_letter.f (k : Nat) (a0 : Int) : Option (Int) := if a0 = 107 then (some 1) else (millref3_letter.l0 k a0 0)

/-! ### millref3_Human: function 21 -/
mutual
def millref3_Human.j0 : Nat → ByteArray → Int → Bool → Bool → ByteArray → ByteArray → Int → Option (Bool × ByteArray × ByteArray × Int × Int)
 | 0, _, _, _, _, _, _, _ => none
 | k + 1, x0, x5, x17, x221000, x221001, x221002, x221003 => if x17 = true then (if 0 ≤ x221003 then (if x221003 < (x0.size : Int) then ((millref3_letter.f k (bt x0 x221003)).bind fun t221 => (millref3_Human.j1 k t221 x221000 x221001 x221002 x221003)) else (none)) else (none)) else (millref3_Human.j1 k x5 x221000 x221001 x221002 x221003)
def millref3_Human.j1 : Nat → Int → Bool → ByteArray → ByteArray → Int → Option (Bool × ByteArray × ByteArray × Int × Int)
 | 0, _, _, _, _, _ => none
 | k + 1, x5, x221000, x221001, x221002, x221003 => if x5 > 0 then (if x221001.size + x221002.size ≤ 9223372036854775807 then (if (x221001 ++ x221002).toList = ([] : List UInt8) then (some (x221000, x221001, x221002, wrap64 (x221003 + 1), 0)) else (some (x221000, x221001, x221002, wrap64 (x221003 + 1), x5))) else (none)) else (if x221001.size + x221002.size ≤ 9223372036854775807 then (if (x221001 ++ x221002).toList = ([] : List UInt8) then (some (x221000, x221001, x221002, x221003, 0)) else (some (x221000, x221001, x221002, x221003, x5))) else (none))
end
def millref3_Human.f (k : Nat) (a0 : ByteArray) : Option (Bool × ByteArray × ByteArray × Int × Int) := (millref3_Decimal.f k a0).bind fun bt216 => (if bt216.2.2.2 > 0 then (millref3_Human.j0 k a0 0 (decide (bt216.2.2.2 < (a0.size : Int))) bt216.1 bt216.2.1 bt216.2.2.1 bt216.2.2.2) else (millref3_Human.j0 k a0 0 false bt216.1 bt216.2.1 bt216.2.2.1 bt216.2.2.2))
end Go.Proofs.YtcdajedmlfhmeaaDoor.XN

section
/- Decimal and Human: both sides compute the same. (by this session) -/
-- NEEDS strings_TrimLeft strings_TrimRight numeral_decimal numeral_signed numeral_Decimal strings_IndexByte numeral_Human millref3_zeros millref3_trimmed millref3_signed millref3_Decimal millref3_letter millref3_Human
set_option linter.unusedVariables false
set_option linter.unusedSimpArgs false
namespace Go.Proofs.YtcdajedmlfhmeaaDoor.XN
open Go.RowKit Go.Proofs.YtcdajedmlfhmeaaDoorW.PrintWords Go.Proofs.YtcdajedmlfhmeaaDoorW.PrintMore

def tl (l : List UInt8) : List UInt8 := l.dropWhile is0
def tr (l : List UInt8) : List UInt8 := (l.reverse.dropWhile is0).reverse
theorem bt_mk0 (c : UInt8) (r : List UInt8) : bt (mkB (c :: r)) 0 = (c.toNat : Int) := rfl
theorem is0_iff (c : UInt8) : is0 c = true ↔ (c.toNat : Int) = 48 := by simp [is0]
theorem is0_false {c : UInt8} (h : is0 c = false) : ¬ (c.toNat : Int) = 48 := by simpa [is0] using h
theorem tl_len (l : List UInt8) : (tl l).length ≤ l.length := by
  unfold tl
  have h1 := List.takeWhile_append_dropWhile (p := is0) (l := l)
  have h2 := congrArg List.length h1
  rw [List.length_append] at h2
  omega
theorem tr_len (l : List UInt8) : (tr l).length ≤ l.length := by
  have := tl_len l.reverse
  unfold tl at this
  unfold tr
  rw [List.length_reverse] at *
  exact this

theorem trimLeftByte_ev : ∀ (l : List UInt8), l.length < big → Ev (fun k => strings_trimLeftByte.l0 k (mkB l) 48) (mkB (tl l))
  | [], _ => by
    refine Ev.succ ?_
    simp only [strings_trimLeftByte.l0, size_mk]
    exact Ev.neg (by simp) (Ev.pure _)
  | c :: r, h => by
    simp only [List.length_cons] at h
    rw [big_eq] at h
    refine Ev.succ ?_
    simp only [strings_trimLeftByte.l0, size_mk, bt_mk0, List.length_cons]
    refine Ev.pos (by omega) (Ev.pos (by omega) ?_)
    have hx : (mkB (c :: r)).extract 1 (r.length + 1) = mkB r := by rw [extract_mk', L_mk]; simp
    unfold tl
    by_cases hc : is0 c = true
    · rw [List.dropWhile_cons, if_pos hc]
      refine Ev.pos ((is0_iff c).1 hc) (Ev.pos (by omega) ?_)
      simp only [hx]
      exact trimLeftByte_ev r (by rw [big_eq]; omega)
    · rw [List.dropWhile_cons, if_neg hc]
      exact Ev.neg (fun h => hc ((is0_iff c).2 h)) (Ev.pure _)
theorem last_rev (c : UInt8) (r : List UInt8) (n : Int) (hn : n = (r.length : Int)) : bt (mkB (c :: r).reverse) n = (c.toNat : Int) := by
  subst hn
  rw [bt_nat _ _ (by rw [L_mk]; simp)]
  simp [L_mk, List.getElem_append_right]
theorem trimRightByte_ev : ∀ (r : List UInt8), r.length < big → Ev (fun k => strings_trimRightByte.l0 k (mkB r.reverse) 48) (mkB (r.dropWhile is0).reverse)
  | [], _ => by
    refine Ev.succ ?_
    simp only [strings_trimRightByte.l0, size_mk]
    exact Ev.neg (by simp) (Ev.pure _)
  | c :: r, h => by
    simp only [List.length_cons] at h
    rw [big_eq] at h
    have hw : wrap64 ((((c :: r).reverse.length : Nat) : Int) - 1) = (r.length : Int) := w64_nat (by simp) (by omega)
    refine Ev.succ ?_
    simp only [strings_trimRightByte.l0, size_mk, hw, last_rev c r _ rfl]
    have hl : (c :: r).reverse.length = r.length + 1 := by simp
    rw [hl]
    refine Ev.pos (by omega) (Ev.pos (by omega) (Ev.pos (by omega) ?_))
    have hx : (mkB (c :: r).reverse).extract 0 ((r.length : Int)).toNat = mkB r.reverse := by
      rw [extract_front, L_mk, Int.toNat_natCast]
      congr 1
      rw [List.reverse_cons, List.take_append_of_le_length (by simp), List.take_of_length_le (by simp)]
    by_cases hc : is0 c = true
    · rw [List.dropWhile_cons, if_pos hc]
      refine Ev.pos ((is0_iff c).1 hc) (Ev.pos (by omega) ?_)
      simp only [hx]
      exact trimRightByte_ev r (by rw [big_eq]; omega)
    · rw [List.dropWhile_cons, if_neg hc]
      exact Ev.neg (fun h => hc ((is0_iff c).2 h)) (Ev.pure _)
theorem TrimLeft_ev (l : List UInt8) (h : l.length < big) : Ev (fun k => strings_TrimLeft.f k (mkB l) (⟨#[48]⟩ : ByteArray)) (mkB (tl l)) := by
  unfold strings_TrimLeft.f
  simp only [toList_mk]
  refine Ev.ite (fun h0 => ?_) (fun h0 => ?_)
  · subst h0
    refine Ev.succ ?_
    simp only [strings_TrimLeft.j0]
    exact Ev.pos trivial (Ev.pure _)
  · refine Ev.succ ?_
    simp only [strings_TrimLeft.j0]
    refine Ev.neg (by rw [toList_L]; decide) (Ev.pos (by rfl) (Ev.pos (by decide) ?_))
    refine Ev.succ ?_
    simp only [strings_TrimLeft.j1]
    refine Ev.pos (by decide) (Ev.pos (by decide) ?_)
    exact Ev.bind (trimLeftByte_ev l h) (Ev.pure _)
theorem TrimRight_ev (l : List UInt8) (h : l.length < big) : Ev (fun k => strings_TrimRight.f k (mkB l) (⟨#[48]⟩ : ByteArray)) (mkB (tr l)) := by
  unfold strings_TrimRight.f
  simp only [toList_mk]
  have key := trimRightByte_ev l.reverse (by simpa using h)
  rw [List.reverse_reverse] at key
  refine Ev.ite (fun h0 => ?_) (fun h0 => ?_)
  · subst h0
    refine Ev.succ ?_
    simp only [strings_TrimRight.j0]
    exact Ev.pos trivial (Ev.pure _)
  · refine Ev.succ ?_
    simp only [strings_TrimRight.j0]
    refine Ev.neg (by rw [toList_L]; decide) (Ev.pos (by rfl) (Ev.pos (by decide) ?_))
    refine Ev.succ ?_
    simp only [strings_TrimRight.j1]
    refine Ev.pos (by decide) (Ev.pos (by decide) ?_)
    exact Ev.bind key (Ev.pure _)

def negAt : List UInt8 → Bool
  | [] => false
  | c :: _ => decide ((c.toNat : Int) = 45)
/-- The place behind the blanks and the sign. -/
def sgN (l : List UInt8) : Nat := blkN l + if negAt (l.drop (blkN l)) = true then 1 else 0
theorem sgN_le (s : ByteArray) : sgN (L s) ≤ s.size := by
  unfold sgN
  have := blkN_le s
  split
  · rename_i h
    cases hd : (L s).drop (blkN (L s)) with
    | nil => rw [hd] at h; cases h
    | cons c r => have := (drop_cons hd).1; omega
  · omega
def sgNeg (l : List UInt8) : Bool := negAt (l.drop (blkN l))
def sgS (l : List UInt8) : Bool × ByteArray × ByteArray × Int :=
  if noneAt (l.drop (sgN l)) = true then (false, mkB [], mkB [], 0) else (sgNeg l, mkB (plS (l.drop (sgN l))).1, mkB (plS (l.drop (sgN l))).2.1, ((sgN l + (plS (l.drop (sgN l))).2.2 : Nat) : Int))
theorem pl_pos {l : List UInt8} (h : ¬ noneAt l = true) : 0 < (plS l).2.2 := by
  unfold noneAt plS at *
  revert h
  cases l.dropWhile isDg with
  | nil => cases l.takeWhile isDg <;> simp
  | cons c r =>
    simp only
    split
    · intro _; simp only; omega
    · cases l.takeWhile isDg <;> simp
theorem signed_ev (s : ByteArray) (hs : s.size < big) : Ev (fun k => numeral_signed.f k s) (sgS (L s)) := by
  unfold numeral_signed.f
  refine Ev.bind (blanks_ev s hs) ?_
  have hb := blkN_le s
  have hsg := sgN_le s
  have hs' := hs
  rw [big_eq] at hs'
  unfold sgS sgNeg
  cases hd : (L s).drop (blkN (L s)) with
  | nil =>
    have h1 := drop_nil hd
    have e : sgN (L s) = blkN (L s) := by unfold sgN; rw [hd]; rfl
    refine Ev.neg (by omega) ?_
    rw [plain_f s hs _ hb, Option.bind_some, e, hd]
    exact Ev.done rfl
  | cons c r =>
    obtain ⟨h1, h2, h3⟩ := drop_cons hd
    refine Ev.pos (by omega) (Ev.pos (by omega) ?_)
    rw [h2]
    by_cases hc : (c.toNat : Int) = 45
    · have e : sgN (L s) = blkN (L s) + 1 := by unfold sgN; rw [hd]; simp [negAt, hc]
      refine Ev.pos hc ?_
      rw [w64_succ (by omega), plain_f s hs _ (by omega), Option.bind_some, e]
      simp only [negAt, hc, decide_true]
      by_cases hn : noneAt ((L s).drop (blkN (L s) + 1)) = true
      · simp only [if_pos hn]
        exact Ev.done rfl
      · simp only [if_neg hn]
        refine Ev.done ?_
        have : ((blkN (L s) + 1 + (plS ((L s).drop (blkN (L s) + 1))).2.2 : Nat) : Int) > 0 := by omega
        rw [decide_eq_true this]
    · have e : sgN (L s) = blkN (L s) := by unfold sgN; rw [hd]; simp [negAt, hc]
      refine Ev.neg hc ?_
      rw [plain_f s hs _ hb, Option.bind_some, e, hd]
      by_cases hn : noneAt (c :: r) = true
      · simp only [if_pos hn]
        exact Ev.done rfl
      · simp only [if_neg hn, negAt, hc, decide_false]
        exact Ev.done rfl

/-- P3.1's number: is it below 0, the whole digits, the digits behind the point, the place behind. -/
def decS (l : List UInt8) : Bool × List UInt8 × List UInt8 × Nat :=
  if noneAt (l.drop (sgN l)) = true then (false, [], [], 0) else
    (sgNeg l && !((tl (plS (l.drop (sgN l))).1).isEmpty && (tr (plS (l.drop (sgN l))).2.1).isEmpty), tl (plS (l.drop (sgN l))).1, tr (plS (l.drop (sgN l))).2.1, sgN l + (plS (l.drop (sgN l))).2.2)
def decV (l : List UInt8) : Bool × ByteArray × ByteArray × Int := ((decS l).1, mkB (decS l).2.1, mkB (decS l).2.2.1, ((decS l).2.2.2 : Int))
theorem pl1_len (l : List UInt8) : (plS l).1.length ≤ l.length := by
  unfold plS
  have := take_len (p := isDg) l
  split
  · exact this
  · split <;> exact this
theorem pl2_len (l : List UInt8) : (plS l).2.1.length ≤ l.length := by
  have h := plS_len l
  have : (plS l).2.1.length ≤ (plS l).2.2 := by
    unfold plS
    split
    · simp
    · split <;> simp <;> omega
  omega
theorem size_drop (s : ByteArray) (n : Nat) : ((L s).drop n).length ≤ s.size := by rw [List.length_drop, L_len]; omega
theorem decimal_ev (n : Bool) (w f : List UInt8) (e : Int) (hw : w.length < big) (hf : f.length < big) : Ev (fun k => numeral_decimal.f k n (mkB w) (mkB f) e) (n && !((tl w).isEmpty && (tr f).isEmpty), mkB (tl w), mkB (tr f), e) := by
  unfold numeral_decimal.f
  refine Ev.bind (TrimLeft_ev w hw) (Ev.bind (TrimRight_ev f hf) ?_)
  simp only [toList_mk, nil_iff]
  cases n with
  | false => exact Ev.neg (by decide) (Ev.done (by simp))
  | true =>
    refine Ev.pos rfl (Ev.ite (fun h => ?_) (fun h => ?_))
    · exact Ev.done (by simp [h])
    · exact Ev.done (by simp [h])
theorem Decimal_ev (s : ByteArray) (hs : s.size < big) : Ev (fun k => numeral_Decimal.f k s) (decV (L s)) := by
  unfold numeral_Decimal.f
  refine Ev.bind (signed_ev s hs) ?_
  unfold sgS decV decS
  have hd := size_drop s (sgN (L s))
  have h1 := pl1_len ((L s).drop (sgN (L s)))
  have h2 := pl2_len ((L s).drop (sgN (L s)))
  by_cases hn : noneAt ((L s).drop (sgN (L s))) = true
  · simp only [if_pos hn]
    refine Ev.bind (decimal_ev false [] [] 0 (by decide) (by decide)) (Ev.done ?_)
    simp [tl, tr]
  · simp only [if_neg hn]
    exact Ev.bind (decimal_ev _ _ _ _ (by omega) (by omega)) (Ev.pure _)

end Go.Proofs.YtcdajedmlfhmeaaDoor.XN
end

namespace Go.Proofs.YtcdajedmlfhmeaaDoor.XN
open Go.RowKit Go.Proofs.YtcdajedmlfhmeaaDoorW.PrintWords Go.Proofs.YtcdajedmlfhmeaaDoorW.PrintLast Go.Proofs.YtcdajedmlfhmeaaDoorW.PrintMore
attribute [local go_sem] max2_int min2_int max_two min_two max_three min_three max_four min_four
set_option linter.unusedVariables false
set_option linter.unusedSimpArgs false

/-! ### millref3_low: function 70 -/
def millref3_low.f (a0 : Int) : Option (Int) := if a0 ≥ 65 then (if a0 ≤ 90 then (some ((a0 + 32) % 256)) else (some a0)) else (some a0)

/-! ### millref3_at: function 45 -/
def millref3_at.l0 : Nat → ByteArray → Int → ByteArray → Int → Option (Bool)
 | 0, _, _, _, _ => none
 | k + 1, x0, x1, x2, x7 => if x7 < (x2.size : Int) then (if 0 ≤ (wrap64 (x1 + x7)) then (if (wrap64 (x1 + x7)) < (x0.size : Int) then ((millref3_low.f (bt x0 (wrap64 (x1 + x7)))).bind fun t225 => (if 0 ≤ x7 then (if t225 = (bt x2 x7) then (millref3_at.l0 k x0 x1 x2 (wrap64 (x7 + 1))) else (some false)) else (none))) else (none)) else (none)) else (some true)
def millref3_at.f (k : Nat) (a0 : ByteArray) (a1 : Int) (a2 : ByteArray) : Option (Bool) := if (wrap64 (a1 + (a2.size : Int))) > (a0.size : Int) then (some false) else (millref3_at.l0 k a0 a1 a2 0)

/-! ### millref3_Month: function 24 -/
def millref3_Month.l0 : Nat → ByteArray → Int → Int → Option (Int)
 | 0, _, _, _ => none
 | k + 1, x0, x3, x4 => if x4 < 12 then (if 0 ≤ (wrap64 (3 * x4)) then (if (wrap64 (3 * x4)) ≤ (wrap64 ((wrap64 (3 * x4)) + 3)) then (if (wrap64 ((wrap64 (3 * x4)) + 3)) ≤ 36 then ((millref3_at.f k x0 x3 ((⟨#[106, 97, 110, 102, 101, 98, 109, 97, 114, 97, 112, 114, 109, 97, 121, 106, 117, 110, 106, 117, 108, 97, 117, 103, 115, 101, 112, 111, 99, 116, 110, 111, 118, 100, 101, 99]⟩ : ByteArray).extract ((wrap64 (3 * x4)) : Int).toNat ((wrap64 ((wrap64 (3 * x4)) + 3)) : Int).toNat)).bind fun t227 => (if t227 = true then (some (wrap64 (x4 + 1))) else (millref3_Month.l0 k x0 x3 (wrap64 (x4 + 1))))) else (none)) else (none)) else (none)) else (some 0)
def millref3_Month.f (k : Nat) (a0 : ByteArray) : Option (Int) := (millref3_start.f k a0).bind fun t226 => (millref3_Month.l0 k a0 t226 0)
end Go.Proofs.YtcdajedmlfhmeaaDoor.XN
