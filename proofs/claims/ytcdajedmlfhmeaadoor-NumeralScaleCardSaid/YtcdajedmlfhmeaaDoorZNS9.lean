import Derived.Test.YtcdajedmlfhmeaaDoorZNS0
import Derived.Test.YtcdajedmlfhmeaaDoorZNS1
import Derived.Test.YtcdajedmlfhmeaaDoorZNS3
import Derived.Test.YtcdajedmlfhmeaaDoorZNS8
namespace Go.Proofs.YtcdajedmlfhmeaaDoor.XN
open Go.RowKit Go.Proofs.YtcdajedmlfhmeaaDoorW.PrintWords Go.Proofs.YtcdajedmlfhmeaaDoorW.PrintLast Go.Proofs.YtcdajedmlfhmeaaDoorW.PrintMore
attribute [local go_sem] max2_int min2_int max_two min_two max_three min_three max_four min_four
set_option linter.unusedVariables false
set_option linter.unusedSimpArgs false

/-! ### milllaw3_NumeralScale: function 9 -/
def milllaw3_NumeralScale.l0 : Nat → Int → Int → ByteArray → ByteArray → Int → Option (Bool)
 | 0, _, _, _, _, _ => none
 | k + 1, x1, x2, x7, x10, x11 => if x11 < x1 then (if x10.size + 1 ≤ 9223372036854775807 then (milllaw3_NumeralScale.l0 k x1 x2 x7 (x10 ++ (⟨#[48]⟩ : ByteArray)) (wrap64 (x11 + 1))) else (none)) else (if x1 ≥ 0 then (if x7.size + 2 ≤ 9223372036854775807 then ((milllaw3_written.f k x1 0).bind fun t566 => (if (x7.size + 2) + t566.size ≤ 9223372036854775807 then ((numeral_Compare.f k 32 ((x7 ++ (⟨#[69, 43]⟩ : ByteArray)) ++ t566) x10).bind fun t567 => (if t567 = 0 then (if x2 > 0 then (if x7.size + 1 ≤ 9223372036854775807 then ((milllaw3_written.f k x1 0).bind fun t568 => (if (x7.size + 1) + t568.size ≤ 9223372036854775807 then ((milllaw3_written.f k (wrap64 (x1 + x2)) 0).bind fun t569 => (if (x7.size + 1) + t569.size ≤ 9223372036854775807 then ((numeral_Compare.f k 32 ((x7 ++ (⟨#[101]⟩ : ByteArray)) ++ t568) ((x7 ++ (⟨#[101]⟩ : ByteArray)) ++ t569)).bind fun t570 => (if t570 = (-1) then (if 1 + x7.size ≤ 9223372036854775807 then (if (1 + x7.size) + 1 ≤ 9223372036854775807 then ((milllaw3_written.f k x1 0).bind fun t571 => (if (1 + x7.size + 1) + t571.size ≤ 9223372036854775807 then ((milllaw3_written.f k (wrap64 (x1 + x2)) 0).bind fun t572 => (if (1 + x7.size + 1) + t572.size ≤ 9223372036854775807 then ((numeral_Compare.f k 32 ((((⟨#[45]⟩ : ByteArray) ++ x7) ++ (⟨#[101]⟩ : ByteArray)) ++ t571) ((((⟨#[45]⟩ : ByteArray) ++ x7) ++ (⟨#[101]⟩ : ByteArray)) ++ t572)).bind fun t573 => (some (t573 == (-(-1))))) else (none))) else (none))) else (none)) else (none)) else (some false))) else (none))) else (none))) else (none)) else (if x7.size + 1 ≤ 9223372036854775807 then ((milllaw3_written.f k x1 0).bind fun t574 => (if (x7.size + 1) + t574.size ≤ 9223372036854775807 then ((milllaw3_written.f k (wrap64 (x1 + x2)) 0).bind fun t575 => (if (x7.size + 1) + t575.size ≤ 9223372036854775807 then ((numeral_Compare.f k 32 ((x7 ++ (⟨#[101]⟩ : ByteArray)) ++ t574) ((x7 ++ (⟨#[101]⟩ : ByteArray)) ++ t575)).bind fun t576 => (if t576 = 0 then (if 1 + x7.size ≤ 9223372036854775807 then (if (1 + x7.size) + 1 ≤ 9223372036854775807 then ((milllaw3_written.f k x1 0).bind fun t577 => (if (1 + x7.size + 1) + t577.size ≤ 9223372036854775807 then ((milllaw3_written.f k (wrap64 (x1 + x2)) 0).bind fun t578 => (if (1 + x7.size + 1) + t578.size ≤ 9223372036854775807 then ((numeral_Compare.f k 32 ((((⟨#[45]⟩ : ByteArray) ++ x7) ++ (⟨#[101]⟩ : ByteArray)) ++ t577) ((((⟨#[45]⟩ : ByteArray) ++ x7) ++ (⟨#[101]⟩ : ByteArray)) ++ t578)).bind fun t579 => (some (t579 == (-0)))) else (none))) else (none))) else (none)) else (none)) else (some false))) else (none))) else (none))) else (none))) else (some false))) else (none))) else (none)) else (if x2 > 0 then (if x7.size + 1 ≤ 9223372036854775807 then ((milllaw3_written.f k x1 0).bind fun t580 => (if (x7.size + 1) + t580.size ≤ 9223372036854775807 then ((milllaw3_written.f k (wrap64 (x1 + x2)) 0).bind fun t581 => (if (x7.size + 1) + t581.size ≤ 9223372036854775807 then ((numeral_Compare.f k 32 ((x7 ++ (⟨#[101]⟩ : ByteArray)) ++ t580) ((x7 ++ (⟨#[101]⟩ : ByteArray)) ++ t581)).bind fun t582 => (if t582 = (-1) then (if 1 + x7.size ≤ 9223372036854775807 then (if (1 + x7.size) + 1 ≤ 9223372036854775807 then ((milllaw3_written.f k x1 0).bind fun t583 => (if (1 + x7.size + 1) + t583.size ≤ 9223372036854775807 then ((milllaw3_written.f k (wrap64 (x1 + x2)) 0).bind fun t584 => (if (1 + x7.size + 1) + t584.size ≤ 9223372036854775807 then ((numeral_Compare.f k 32 ((((⟨#[45]⟩ : ByteArray) ++ x7) ++ (⟨#[101]⟩ : ByteArray)) ++ t583) ((((⟨#[45]⟩ : ByteArray) ++ x7) ++ (⟨#[101]⟩ : ByteArray)) ++ t584)).bind fun t585 => (some (t585 == (-(-1))))) else (none))) else (none))) else (none)) else (none)) else (some false))) else (none))) else (none))) else (none)) else (if x7.size + 1 ≤ 9223372036854775807 then ((milllaw3_written.f k x1 0).bind fun t586 => (if (x7.size + 1) + t586.size ≤ 9223372036854775807 then ((milllaw3_written.f k (wrap64 (x1 + x2)) 0).bind fun t587 => (if (x7.size + 1) + t587.size ≤ 9223372036854775807 then ((numeral_Compare.f k 32 ((x7 ++ (⟨#[101]⟩ : ByteArray)) ++ t586) ((x7 ++ (⟨#[101]⟩ : ByteArray)) ++ t587)).bind fun t588 => (if t588 = 0 then (if 1 + x7.size ≤ 9223372036854775807 then (if (1 + x7.size) + 1 ≤ 9223372036854775807 then ((milllaw3_written.f k x1 0).bind fun t589 => (if (1 + x7.size + 1) + t589.size ≤ 9223372036854775807 then ((milllaw3_written.f k (wrap64 (x1 + x2)) 0).bind fun t590 => (if (1 + x7.size + 1) + t590.size ≤ 9223372036854775807 then ((numeral_Compare.f k 32 ((((⟨#[45]⟩ : ByteArray) ++ x7) ++ (⟨#[101]⟩ : ByteArray)) ++ t589) ((((⟨#[45]⟩ : ByteArray) ++ x7) ++ (⟨#[101]⟩ : ByteArray)) ++ t590)).bind fun t591 => (some (t591 == (-0)))) else (none))) else (none))) else (none)) else (none)) else (some false))) else (none))) else (none))) else (none))))
def milllaw3_NumeralScale.f (k : Nat) (a0 : Int) (a1 : Int) (a2 : Int) : Option (Bool) := if a0 ≤ 0 then (some true) else (if a0 ≥ 4611686018427387904 then (some true) else (if a1 < (-500) then (some true) else (if a1 > 500 then (some true) else (if a2 < 0 then (some true) else (if a2 > 500 then (some true) else ((milllaw3_written.f k a0 0).bind fun t552 => (if t552.size + 1 ≤ 9223372036854775807 then ((milllaw3_written.f k a1 3).bind fun t553 => (if (t552.size + 1) + t553.size ≤ 9223372036854775807 then ((numeral_General.f k ((t552 ++ (⟨#[101]⟩ : ByteArray)) ++ t553)).bind fun bt554 => ((numeral_General.f k t552).bind fun bt560 => (if bt560.1 = 3 then (if bt554.1 = 3 then (if bt554.2.2.1.toList = bt560.2.2.1.toList then (if bt554.2.2.2.1 = (wrap64 (bt560.2.2.2.1 + a1)) then (milllaw3_NumeralScale.l0 k a1 a2 t552 t552 0) else (some false)) else (some false)) else (some false)) else (some false)))) else (none))) else (none))))))))
set_option maxHeartbeats 8000000 in
set_option maxRecDepth 100000 in
theorem milllaw3_NumeralScale.calls (k : Nat) (a0 : Int) (a1 : Int) (a2 : Int) (r : Bool) (w : World) (hGL : GOK w) (h : milllaw3_NumeralScale.f k a0 a1 a2 = some r) :
  Calls Tryd.prog 9 #[.int .i64 a0, .int .i64 a1, .int .i64 a2] w fun e w' => e = .returned (.bool r) ∧ Below w.heap.size w w' := by
 have hu29 := Tryd.underlying29
 have HGL := Aside0.mk hGL
 clear hGL
 have HB := Aside0.mk (Below.refl w.heap.size w)
 have H : (if a0 ≤ 0 then (some true) else (if a0 ≥ 4611686018427387904 then (some true) else (if a1 < (-500) then (some true) else (if a1 > 500 then (some true) else (if a2 < 0 then (some true) else (if a2 > 500 then (some true) else ((milllaw3_written.f k a0 0).bind fun t552 => (if t552.size + 1 ≤ 9223372036854775807 then ((milllaw3_written.f k a1 3).bind fun t553 => (if (t552.size + 1) + t553.size ≤ 9223372036854775807 then ((numeral_General.f k ((t552 ++ (⟨#[101]⟩ : ByteArray)) ++ t553)).bind fun bt554 => ((numeral_General.f k t552).bind fun bt560 => (if bt560.1 = 3 then (if bt554.1 = 3 then (if bt554.2.2.1.toList = bt560.2.2.1.toList then (if bt554.2.2.2.1 = (wrap64 (bt560.2.2.2.1 + a1)) then (milllaw3_NumeralScale.l0 k a1 a2 t552 t552 0) else (some false)) else (some false)) else (some false)) else (some false)))) else (none))) else (none))))))))) = some r := h
 clear h
 by_cases c4 : a0 ≤ 0
 ·
  rw [if_pos c4] at H
  have c4b0 : decide (a0 ≤ 0) = true := decide_eq_true c4
  clear c4
  obtain rfl := Option.some.inj H
  go_enter Tryd.func9, Tryd.ntmps9
  go_wp2
  go_ret
  exact ⟨qns6_, qns1_⟩
 ·
  rw [if_neg c4] at H
  have c4b0 : decide (a0 ≤ 0) = false := decide_eq_false c4
  clear c4
  by_cases c5 : a0 ≥ 4611686018427387904
  ·
   rw [if_pos c5] at H
   have c5b0 : decide (4611686018427387904 ≤ a0) = true := decide_eq_true c5
   clear c5
   obtain rfl := Option.some.inj H
   go_enter Tryd.func9, Tryd.ntmps9
   go_wp2
   go_ret
   exact ⟨qns6_, qns1_⟩
  ·
   rw [if_neg c5] at H
   have c5b0 : decide (4611686018427387904 ≤ a0) = false := decide_eq_false c5
   clear c5
   by_cases c6 : a1 < (-500)
   ·
    rw [if_pos c6] at H
    have c6b0 : decide (a1 < (-500)) = true := decide_eq_true c6
    clear c6
    obtain rfl := Option.some.inj H
    go_enter Tryd.func9, Tryd.ntmps9
    go_wp2
    go_ret
    exact ⟨qns6_, qns1_⟩
   ·
    rw [if_neg c6] at H
    have c6b0 : decide (a1 < (-500)) = false := decide_eq_false c6
    clear c6
    by_cases c7 : a1 > 500
    ·
     rw [if_pos c7] at H
     have c7b0 : decide (500 < a1) = true := decide_eq_true c7
     clear c7
     obtain rfl := Option.some.inj H
     go_enter Tryd.func9, Tryd.ntmps9
     go_wp2
     go_ret
     exact ⟨qns6_, qns1_⟩
    ·
     rw [if_neg c7] at H
     have c7b0 : decide (500 < a1) = false := decide_eq_false c7
     clear c7
     by_cases c8 : a2 < 0
     ·
      rw [if_pos c8] at H
      have c8b0 : decide (a2 < 0) = true := decide_eq_true c8
      clear c8
      obtain rfl := Option.some.inj H
      go_enter Tryd.func9, Tryd.ntmps9
      go_wp2
      go_ret
      exact ⟨qns6_, qns1_⟩
     ·
      rw [if_neg c8] at H
      have c8b0 : decide (a2 < 0) = false := decide_eq_false c8
      clear c8
      by_cases c9 : a2 > 500
      ·
       rw [if_pos c9] at H
       have c9b0 : decide (500 < a2) = true := decide_eq_true c9
       clear c9
       obtain rfl := Option.some.inj H
       go_enter Tryd.func9, Tryd.ntmps9
       go_wp2
       go_ret
       exact ⟨qns6_, qns1_⟩
      ·
       rw [if_neg c9] at H
       have c9b0 : decide (500 < a2) = false := decide_eq_false c9
       clear c9
       replace H := Option.bind_eq_some_iff.mp H
       obtain ⟨t552, A100, H⟩ := H
       replace H : (if t552.size + 1 ≤ 9223372036854775807 then ((milllaw3_written.f k a1 3).bind fun t553 => (if (t552.size + 1) + t553.size ≤ 9223372036854775807 then ((numeral_General.f k ((t552 ++ (⟨#[101]⟩ : ByteArray)) ++ t553)).bind fun bt554 => ((numeral_General.f k t552).bind fun bt560 => (if bt560.1 = 3 then (if bt554.1 = 3 then (if bt554.2.2.1.toList = bt560.2.2.1.toList then (if bt554.2.2.2.1 = (wrap64 (bt560.2.2.2.1 + a1)) then (milllaw3_NumeralScale.l0 k a1 a2 t552 t552 0) else (some false)) else (some false)) else (some false)) else (some false)))) else (none))) else (none)) = some r := H
       have A10 := Aside0.mk A100
       clear A100
       by_cases c11 : t552.size + 1 ≤ 9223372036854775807
       ·
        rw [if_pos c11] at H
        have c11b0 := eq_true c11
        have c11b1 : decide (t552.size + 1 ≤ 9223372036854775807) = true := decide_eq_true c11
        try have c11b2 : (9223372036854775807 < t552.size + 1) = False := eq_false (Nat.not_lt.2 c11)
        replace H := Option.bind_eq_some_iff.mp H
        obtain ⟨t553, A120, H⟩ := H
        replace H : (if (t552.size + 1) + t553.size ≤ 9223372036854775807 then ((numeral_General.f k ((t552 ++ (⟨#[101]⟩ : ByteArray)) ++ t553)).bind fun bt554 => ((numeral_General.f k t552).bind fun bt560 => (if bt560.1 = 3 then (if bt554.1 = 3 then (if bt554.2.2.1.toList = bt560.2.2.1.toList then (if bt554.2.2.2.1 = (wrap64 (bt560.2.2.2.1 + a1)) then (milllaw3_NumeralScale.l0 k a1 a2 t552 t552 0) else (some false)) else (some false)) else (some false)) else (some false)))) else (none)) = some r := H
        have A12 := Aside0.mk A120
        clear A120
        by_cases c13 : (t552.size + 1) + t553.size ≤ 9223372036854775807
        ·
         rw [if_pos c13] at H
         have c13b0 := eq_true c13
         have c13b1 : decide ((t552.size + 1) + t553.size ≤ 9223372036854775807) = true := decide_eq_true c13
         try have c13b2 : (9223372036854775807 < (t552.size + 1) + t553.size) = False := eq_false (Nat.not_lt.2 c13)
         replace H := Option.bind_eq_some_iff.mp H
         obtain ⟨⟨t554, t555, t556, t557, t558⟩, A140, H⟩ := H
         replace H : ((numeral_General.f k t552).bind fun bt560 => (if bt560.1 = 3 then (if t554 = 3 then (if t556.toList = bt560.2.2.1.toList then (if t557 = (wrap64 (bt560.2.2.2.1 + a1)) then (milllaw3_NumeralScale.l0 k a1 a2 t552 t552 0) else (some false)) else (some false)) else (some false)) else (some false))) = some r := H
         have A14 := Aside0.mk A140
         clear A140
         replace H := Option.bind_eq_some_iff.mp H
         obtain ⟨⟨t560, t561, t562, t563, t564⟩, A150, H⟩ := H
         replace H : (if t560 = 3 then (if t554 = 3 then (if t556.toList = t562.toList then (if t557 = (wrap64 (t563 + a1)) then (milllaw3_NumeralScale.l0 k a1 a2 t552 t552 0) else (some false)) else (some false)) else (some false)) else (some false)) = some r := H
         have A15 := Aside0.mk A150
         clear A150
         by_cases c16 : t560 = 3
         ·
          rw [if_pos c16] at H
          have c16b0 : (t560 == 3) = true := beq_iff_eq.mpr c16
          have c16b1 : (t560 != 3) = false := bne_eq_false_iff_eq.mpr c16
          clear c16
          by_cases c17 : t554 = 3
          ·
           rw [if_pos c17] at H
           have c17b0 : (t554 == 3) = true := beq_iff_eq.mpr c17
           have c17b1 : (t554 != 3) = false := bne_eq_false_iff_eq.mpr c17
           clear c17
           by_cases c18 : t556.toList = t562.toList
           ·
            rw [if_pos c18] at H
            have c18b0 : (t556.toList == t562.toList) = true := beq_iff_eq.mpr c18
            have c18b1 : (t556.toList != t562.toList) = false := bne_eq_false_iff_eq.mpr c18
            clear c18
            by_cases c19 : t557 = (wrap64 (t563 + a1))
            ·
             rw [if_pos c19] at H
             have c19b0 : (t557 == (wrap64 (t563 + a1))) = true := beq_iff_eq.mpr c19
             have c19b1 : (t557 != (wrap64 (t563 + a1))) = false := bne_eq_false_iff_eq.mpr c19
             clear c19
             have H' := Aside0.mk H
             clear H
             go_enter Tryd.func9, Tryd.ntmps9
             have tk30 : True := trivial; have tk31 : True := trivial; have tk32 : True := trivial; have tk33 : True := trivial; have tk34 : True := trivial; have tk35 : True := trivial
             go_wp2_with (first | (have ztk30 := tk30; clear tk30 ztk30; (with_reducible refine gate_callee (f := 15) rfl ?_); refine goesL_ (some 36) rfl rfl Tryd.func15 (by kernel_rfl) rfl #[.int .i64 a0, .int .i64 0] rfl qns0_ ?_; (with_reducible refine (milllaw3_written.calls k a0 0 t552 _ A10.out).mono ?_); rintro e w20 ⟨rfl, hb⟩; refine ⟨_, rfl, ?_⟩; have n0_ := Aside0.mk (below_step qns1_ hb); clear HB; have HB := n0_; clear n0_; (try clear hb); (try clear hb2); (try clear hk); (try clear hi)) | (have ztk31 := tk31; clear tk31 ztk31; (with_reducible refine gate_callee (f := 15) rfl ?_); refine goesL_ (some 40) rfl rfl Tryd.func15 (by kernel_rfl) rfl #[.int .i64 a1, .int .i64 3] rfl qns0_ ?_; (with_reducible refine (milllaw3_written.calls k a1 3 t553 _ A12.out).mono ?_); rintro e w21 ⟨rfl, hb⟩; refine ⟨_, rfl, ?_⟩; have n0_ := Aside0.mk (below_step qns1_ hb); clear HB; have HB := n0_; clear n0_; (try clear hb); (try clear hb2); (try clear hk); (try clear hi)) | (have ztk32 := tk32; clear tk32 ztk32; (with_reducible refine gate_callee (f := 17) rfl ?_); refine goesL_ (some 42) rfl rfl Tryd.func17 (by kernel_rfl) rfl #[.string ((t552 ++ (⟨#[101]⟩ : ByteArray)) ++ t553)] rfl qns0_ ?_; (with_reducible refine (numeral_General.calls k ((t552 ++ (⟨#[101]⟩ : ByteArray)) ++ t553) t554 t555 t556 t557 t558 _ A14.out).mono ?_); rintro e w22 ⟨rfl, hb⟩; refine ⟨_, rfl, ?_⟩; have n0_ := Aside0.mk (below_step qns1_ hb); clear HB; have HB := n0_; clear n0_; (try clear hb); (try clear hb2); (try clear hk); (try clear hi)) | (have ztk33 := tk33; clear tk33 ztk33; (with_reducible refine gate_dst (N := 8) rfl ?_); refine box_event ?hg (N := 8) ?hd (cs := #[.int .u8 0, .bool false, .string (⟨#[]⟩ : ByteArray), .int .i64 0, .int .i64 0]) (t := 29) ?hr ?_; (case hd => rfl); (case hg => rfl); (case hr => first | (go_simp; done) | (go_simp; rfl)); intro gb559 hg w23 hbox hb; have n0_ := Aside0.mk (below_step qns1_ hb); have n1_ := Aside0.mk (hbox); have n2_ := Aside0.mk ((by rw [hg]; exact (below_size qns1_) : w.heap.size ≤ gb559)); have n3_ := Aside0.mk ((by rw [hg]; exact (below_size qns1_) : w.heap.size ≤ gb559)); clear HB; have HB := n0_; have BK559 := n1_; have GW559 := n2_; have GE559 := n3_; clear n0_ n1_ n2_ n3_; clear hb hbox hg; have hcz24_0 : w23.cell? ⟨gb559, 0, none⟩ = some (.int .u8 0) := (blk_cell BK559.out 0).trans rfl; have hcz24_1 : w23.cell? ⟨gb559, 1, none⟩ = some (.bool false) := (blk_cell BK559.out 1).trans rfl; have hcz24_2 : w23.cell? ⟨gb559, 2, none⟩ = some (.string (⟨#[]⟩ : ByteArray)) := (blk_cell BK559.out 2).trans rfl; have hcz24_3 : w23.cell? ⟨gb559, 3, none⟩ = some (.int .i64 0) := (blk_cell BK559.out 3).trans rfl; have hcz24_4 : w23.cell? ⟨gb559, 4, none⟩ = some (.int .i64 0) := (blk_cell BK559.out 4).trans rfl; have hfz24_0 := blk_frozen BK559.out 0; have hfz24_1 := blk_frozen BK559.out 1; have hfz24_2 := blk_frozen BK559.out 2; have hfz24_3 := blk_frozen BK559.out 3; have hfz24_4 := blk_frozen BK559.out 4) | (have ztk34 := tk34; clear tk34 ztk34; (with_reducible refine gate_callee (f := 17) rfl ?_); refine goesL_ (some 44) rfl rfl Tryd.func17 (by kernel_rfl) rfl #[.string t552] rfl qns0_ ?_; (with_reducible refine (numeral_General.calls k t552 t560 t561 t562 t563 t564 _ A15.out).mono ?_); rintro e w25 ⟨rfl, hb⟩; refine ⟨_, rfl, ?_⟩; have n0_ := Aside0.mk (blk_below (g := gb559) (o := .cells #[.int .u8 t554, .bool t555, .string t556, .int .i64 t557, .int .i64 t558] 29 (0, 0)) qns12_ hb); have n1_ := Aside0.mk (below_step qns17_ hb); clear BK559; clear HB; have BK559 := n0_; have HB := n1_; clear n0_ n1_; (try clear hb); (try clear hb2); (try clear hk); (try clear hi)) | (have ztk35 := tk35; clear tk35 ztk35; (with_reducible refine gate_dst (N := 9) rfl ?_); refine box_event ?hg (N := 9) ?hd (cs := #[.int .u8 0, .bool false, .string (⟨#[]⟩ : ByteArray), .int .i64 0, .int .i64 0]) (t := 29) ?hr ?_; (case hd => rfl); (case hg => rfl); (case hr => first | (go_simp; done) | (go_simp; rfl)); intro gb565 hg w26 hbox hb; have n0_ := Aside0.mk (blk_below (g := gb559) (o := .cells #[.int .u8 t554, .bool t555, .string t556, .int .i64 t557, .int .i64 t558] 29 (0, 0)) qns4_ hb); have n1_ := Aside0.mk (below_step qns17_ hb); have n2_ := Aside0.mk (hbox); have n3_ := Aside0.mk ((by rw [hg]; exact (below_size qns17_) : w.heap.size ≤ gb565)); have n4_ := Aside0.mk ((by rw [hg]; exact (below_size qns17_) : w.heap.size ≤ gb565)); have n5_ := Aside0.mk ((by rw [hg]; exact Nat.ne_of_lt (blk_lt (g := gb559) (o := .cells #[.int .u8 t554, .bool t555, .string t556, .int .i64 t557, .int .i64 t558] 29 (0, 0)) qns4_) : gb559 ≠ gb565)); have n6_ := Aside0.mk ((by rw [hg]; exact Nat.ne_of_gt (blk_lt (g := gb559) (o := .cells #[.int .u8 t554, .bool t555, .string t556, .int .i64 t557, .int .i64 t558] 29 (0, 0)) qns4_) : gb565 ≠ gb559)); clear BK559; clear HB; have BK559 := n0_; have HB := n1_; have BK565 := n2_; have GW565 := n3_; have GE565 := n4_; have NB559_565 := n5_; have NB565_559 := n6_; clear n0_ n1_ n2_ n3_ n4_ n5_ n6_; clear hb hbox hg; have hnb27 := NB565_559.out; have hnc27 := NB559_565.out; have hcz28_0 : w26.cell? ⟨gb565, 0, none⟩ = some (.int .u8 0) := (blk_cell BK565.out 0).trans rfl; have hcz28_1 : w26.cell? ⟨gb565, 1, none⟩ = some (.bool false) := (blk_cell BK565.out 1).trans rfl; have hcz28_2 : w26.cell? ⟨gb565, 2, none⟩ = some (.string (⟨#[]⟩ : ByteArray)) := (blk_cell BK565.out 2).trans rfl; have hcz28_3 : w26.cell? ⟨gb565, 3, none⟩ = some (.int .i64 0) := (blk_cell BK565.out 3).trans rfl; have hcz28_4 : w26.cell? ⟨gb565, 4, none⟩ = some (.int .i64 0) := (blk_cell BK565.out 4).trans rfl; have hfz28_0 := blk_frozen BK565.out 0; have hfz28_1 := blk_frozen BK565.out 1; have hfz28_2 := blk_frozen BK565.out 2; have hfz28_3 := blk_frozen BK565.out 3; have hfz28_4 := blk_frozen BK565.out 4; have hcz29_0 : w26.cell? ⟨gb559, 0, none⟩ = some (.int .u8 t554) := (blk_cell BK559.out 0).trans rfl; have hcz29_1 : w26.cell? ⟨gb559, 1, none⟩ = some (.bool t555) := (blk_cell BK559.out 1).trans rfl; have hcz29_2 : w26.cell? ⟨gb559, 2, none⟩ = some (.string t556) := (blk_cell BK559.out 2).trans rfl; have hcz29_3 : w26.cell? ⟨gb559, 3, none⟩ = some (.int .i64 t557) := (blk_cell BK559.out 3).trans rfl; have hcz29_4 : w26.cell? ⟨gb559, 4, none⟩ = some (.int .i64 t558) := (blk_cell BK559.out 4).trans rfl; have hfz29_0 := blk_frozen BK559.out 0; have hfz29_1 := blk_frozen BK559.out 1; have hfz29_2 := blk_frozen BK559.out 2; have hfz29_3 := blk_frozen BK559.out 3; have hfz29_4 := blk_frozen BK559.out 4))
             go_loopg [10, 11] k (fun kq v10 v11 w' => ∃ (x10_1 : ByteArray) (x11_1 : Int), v10 = .string x10_1 ∧ v11 = .int .i64 x11_1 ∧ Aside0 (milllaw3_NumeralScale.l0 kq a1 a2 t552 x10_1 x11_1 = some r) ∧ Aside0 (kq ≤ k) ∧ Aside0 (w'.heap[gb559]? = some (.cells #[.int .u8 t554, .bool t555, .string t556, .int .i64 t557, .int .i64 t558] 29 (0, 0))) ∧ Aside0 (w'.heap[gb565]? = some (.cells #[.int .u8 t560, .bool t561, .string t562, .int .i64 t563, .int .i64 t564] 29 (0, 0))) ∧ Aside0 (Below w.heap.size w w'))
             case atStart => exact ⟨(t552), (0), qns2_, qns2_, H', ⟨Nat.le_refl _⟩, ⟨by (with_reducible repeat (first | refine blk_drewN ?_ _ | refine blk_drew ?_ | refine blk_alloc ?_ _)); refine blk_far ?_ NB559_565.out _; (with_reducible repeat (first | refine blk_drewN ?_ _ | refine blk_drew ?_ | refine blk_alloc ?_ _)); refine blk_far ?_ NB559_565.out _; (with_reducible repeat (first | refine blk_drewN ?_ _ | refine blk_drew ?_ | refine blk_alloc ?_ _)); refine blk_far ?_ NB559_565.out _; (with_reducible repeat (first | refine blk_drewN ?_ _ | refine blk_drew ?_ | refine blk_alloc ?_ _)); refine blk_far ?_ NB559_565.out _; (with_reducible repeat (first | refine blk_drewN ?_ _ | refine blk_drew ?_ | refine blk_alloc ?_ _)); refine blk_far ?_ NB559_565.out _; (with_reducible repeat (first | refine blk_drewN ?_ _ | refine blk_drew ?_ | refine blk_alloc ?_ _)); exact BK559.out⟩, ⟨by (with_reducible repeat (first | refine blk_drewN ?_ _ | refine blk_drew ?_ | refine blk_alloc ?_ _)); refine blk_put (cs := #[.int .u8 t560, .bool t561, .string t562, .int .i64 t563, .int .i64 0]) ?_ 4 _ rfl; (with_reducible repeat (first | refine blk_drewN ?_ _ | refine blk_drew ?_ | refine blk_alloc ?_ _)); refine blk_put (cs := #[.int .u8 t560, .bool t561, .string t562, .int .i64 0, .int .i64 0]) ?_ 3 _ rfl; (with_reducible repeat (first | refine blk_drewN ?_ _ | refine blk_drew ?_ | refine blk_alloc ?_ _)); refine blk_put (cs := #[.int .u8 t560, .bool t561, .string (⟨#[]⟩ : ByteArray), .int .i64 0, .int .i64 0]) ?_ 2 _ rfl; (with_reducible repeat (first | refine blk_drewN ?_ _ | refine blk_drew ?_ | refine blk_alloc ?_ _)); refine blk_put (cs := #[.int .u8 t560, .bool false, .string (⟨#[]⟩ : ByteArray), .int .i64 0, .int .i64 0]) ?_ 1 _ rfl; (with_reducible repeat (first | refine blk_drewN ?_ _ | refine blk_drew ?_ | refine blk_alloc ?_ _)); refine blk_put (cs := #[.int .u8 0, .bool false, .string (⟨#[]⟩ : ByteArray), .int .i64 0, .int .i64 0]) ?_ 0 _ rfl; (with_reducible repeat (first | refine blk_drewN ?_ _ | refine blk_drew ?_ | refine blk_alloc ?_ _)); exact BK565.out⟩, ⟨qns3_⟩⟩
             case round =>
              clear H'
              (try clear c1); (try clear c2); (try clear p2); (try clear c4); (try clear c4b0); (try clear c5); (try clear c5b0); (try clear c6); (try clear c6b0); (try clear p6); (try clear c7); (try clear c7b0); (try clear c8); (try clear c8b0); (try clear c9); (try clear c9b0); (try clear c11); (try clear c11b0); (try clear c11b1); (try clear c11b2); (try clear c13); (try clear c13b0); (try clear c13b1)
              (try clear c13b2); (try clear c15); (try clear c16); (try clear c16b0); (try clear c16b1); (try clear c17); (try clear c17b0); (try clear c17b1); (try clear c18); (try clear c18b0); (try clear c18b1); (try clear c19); (try clear c19b0); (try clear c19b1); (try clear c27); (try clear hcz24_0); (try clear hcz24_1); (try clear hcz24_2); (try clear hcz24_3); (try clear hcz24_4); (try clear hcz28_0)
              (try clear hcz28_1); (try clear hcz28_2); (try clear hcz28_3); (try clear hcz28_4); (try clear hcz29_0); (try clear hcz29_1); (try clear hcz29_2); (try clear hcz29_3); (try clear hcz29_4); (try clear hfz24_0); (try clear hfz24_1); (try clear hfz24_2); (try clear hfz24_3); (try clear hfz24_4); (try clear hfz28_0); (try clear hfz28_1); (try clear hfz28_2); (try clear hfz28_3); (try clear hfz28_4)
              (try clear hfz29_0); (try clear hfz29_1); (try clear hfz29_2); (try clear hfz29_3); (try clear hfz29_4)
              obtain ⟨x10_1, x11_1, rfl, rfl, HA, HK1, BK559, BK565, HB⟩ := hrel
              cases gk with
              | zero => exact absurd HA.out (by simp [milllaw3_NumeralScale.l0])
              | succ k1 =>
               have H := HA.out
               clear HA
               simp only [milllaw3_NumeralScale.l0] at H
               by_cases c36 : x11_1 < a1
               ·
                rw [if_pos c36] at H
                have c36b0 : decide (x11_1 < a1) = true := decide_eq_true c36
                clear c36
                by_cases c37 : x10_1.size + 1 ≤ 9223372036854775807
                ·
                 rw [if_pos c37] at H
                 have c37b0 := eq_true c37
                 have c37b1 : decide (x10_1.size + 1 ≤ 9223372036854775807) = true := decide_eq_true c37
                 try have c37b2 : (9223372036854775807 < x10_1.size + 1) = False := eq_false (Nat.not_lt.2 c37)
                 have H' := Aside0.mk H
                 clear H
                 go_wp2
                 go_roundg k1
                 case measure => have := HK1.out; omega
                 case rel => exact ⟨(x10_1 ++ (⟨#[48]⟩ : ByteArray)), (wrap64 (x11_1 + 1)), qns2_, qns2_, H', ⟨by have := HK1.out; omega⟩, ⟨qns4_⟩, ⟨qns11_⟩, ⟨qns3_⟩⟩
                ·
                 rw [if_neg c37] at H
                 exact absurd H (by simp)
               ·
                rw [if_neg c36] at H
                have c36b0 : decide (x11_1 < a1) = false := decide_eq_false c36
                clear c36
                by_cases c38 : a1 ≥ 0
                ·
                 rw [if_pos c38] at H
                 have c38b0 : decide (0 ≤ a1) = true := decide_eq_true c38
                 clear c38
                 by_cases c39 : t552.size + 2 ≤ 9223372036854775807
                 ·
                  rw [if_pos c39] at H
                  have c39b0 := eq_true c39
                  have c39b1 : decide (t552.size + 2 ≤ 9223372036854775807) = true := decide_eq_true c39
                  try have c39b2 : (9223372036854775807 < t552.size + 2) = False := eq_false (Nat.not_lt.2 c39)
                  replace H := Option.bind_eq_some_iff.mp H
                  obtain ⟨t566, A400, H⟩ := H
                  replace H : (if (t552.size + 2) + t566.size ≤ 9223372036854775807 then ((numeral_Compare.f k1 32 ((t552 ++ (⟨#[69, 43]⟩ : ByteArray)) ++ t566) x10_1).bind fun t567 => (if t567 = 0 then (if a2 > 0 then (if t552.size + 1 ≤ 9223372036854775807 then ((milllaw3_written.f k1 a1 0).bind fun t568 => (if (t552.size + 1) + t568.size ≤ 9223372036854775807 then ((milllaw3_written.f k1 (wrap64 (a1 + a2)) 0).bind fun t569 => (if (t552.size + 1) + t569.size ≤ 9223372036854775807 then ((numeral_Compare.f k1 32 ((t552 ++ (⟨#[101]⟩ : ByteArray)) ++ t568) ((t552 ++ (⟨#[101]⟩ : ByteArray)) ++ t569)).bind fun t570 => (if t570 = (-1) then (if 1 + t552.size ≤ 9223372036854775807 then (if (1 + t552.size) + 1 ≤ 9223372036854775807 then ((milllaw3_written.f k1 a1 0).bind fun t571 => (if (1 + t552.size + 1) + t571.size ≤ 9223372036854775807 then ((milllaw3_written.f k1 (wrap64 (a1 + a2)) 0).bind fun t572 => (if (1 + t552.size + 1) + t572.size ≤ 9223372036854775807 then ((numeral_Compare.f k1 32 ((((⟨#[45]⟩ : ByteArray) ++ t552) ++ (⟨#[101]⟩ : ByteArray)) ++ t571) ((((⟨#[45]⟩ : ByteArray) ++ t552) ++ (⟨#[101]⟩ : ByteArray)) ++ t572)).bind fun t573 => (some (t573 == (-(-1))))) else (none))) else (none))) else (none)) else (none)) else (some false))) else (none))) else (none))) else (none)) else (if t552.size + 1 ≤ 9223372036854775807 then ((milllaw3_written.f k1 a1 0).bind fun t574 => (if (t552.size + 1) + t574.size ≤ 9223372036854775807 then ((milllaw3_written.f k1 (wrap64 (a1 + a2)) 0).bind fun t575 => (if (t552.size + 1) + t575.size ≤ 9223372036854775807 then ((numeral_Compare.f k1 32 ((t552 ++ (⟨#[101]⟩ : ByteArray)) ++ t574) ((t552 ++ (⟨#[101]⟩ : ByteArray)) ++ t575)).bind fun t576 => (if t576 = 0 then (if 1 + t552.size ≤ 9223372036854775807 then (if (1 + t552.size) + 1 ≤ 9223372036854775807 then ((milllaw3_written.f k1 a1 0).bind fun t577 => (if (1 + t552.size + 1) + t577.size ≤ 9223372036854775807 then ((milllaw3_written.f k1 (wrap64 (a1 + a2)) 0).bind fun t578 => (if (1 + t552.size + 1) + t578.size ≤ 9223372036854775807 then ((numeral_Compare.f k1 32 ((((⟨#[45]⟩ : ByteArray) ++ t552) ++ (⟨#[101]⟩ : ByteArray)) ++ t577) ((((⟨#[45]⟩ : ByteArray) ++ t552) ++ (⟨#[101]⟩ : ByteArray)) ++ t578)).bind fun t579 => (some (t579 == (-0)))) else (none))) else (none))) else (none)) else (none)) else (some false))) else (none))) else (none))) else (none))) else (some false))) else (none)) = some r := H
                  have A40 := Aside0.mk A400
                  clear A400
                  by_cases c41 : (t552.size + 2) + t566.size ≤ 9223372036854775807
                  ·
                   rw [if_pos c41] at H
                   have c41b0 := eq_true c41
                   have c41b1 : decide ((t552.size + 2) + t566.size ≤ 9223372036854775807) = true := decide_eq_true c41
                   try have c41b2 : (9223372036854775807 < (t552.size + 2) + t566.size) = False := eq_false (Nat.not_lt.2 c41)
                   replace H := Option.bind_eq_some_iff.mp H
                   obtain ⟨t567, A420, H⟩ := H
                   replace H : (if t567 = 0 then (if a2 > 0 then (if t552.size + 1 ≤ 9223372036854775807 then ((milllaw3_written.f k1 a1 0).bind fun t568 => (if (t552.size + 1) + t568.size ≤ 9223372036854775807 then ((milllaw3_written.f k1 (wrap64 (a1 + a2)) 0).bind fun t569 => (if (t552.size + 1) + t569.size ≤ 9223372036854775807 then ((numeral_Compare.f k1 32 ((t552 ++ (⟨#[101]⟩ : ByteArray)) ++ t568) ((t552 ++ (⟨#[101]⟩ : ByteArray)) ++ t569)).bind fun t570 => (if t570 = (-1) then (if 1 + t552.size ≤ 9223372036854775807 then (if (1 + t552.size) + 1 ≤ 9223372036854775807 then ((milllaw3_written.f k1 a1 0).bind fun t571 => (if (1 + t552.size + 1) + t571.size ≤ 9223372036854775807 then ((milllaw3_written.f k1 (wrap64 (a1 + a2)) 0).bind fun t572 => (if (1 + t552.size + 1) + t572.size ≤ 9223372036854775807 then ((numeral_Compare.f k1 32 ((((⟨#[45]⟩ : ByteArray) ++ t552) ++ (⟨#[101]⟩ : ByteArray)) ++ t571) ((((⟨#[45]⟩ : ByteArray) ++ t552) ++ (⟨#[101]⟩ : ByteArray)) ++ t572)).bind fun t573 => (some (t573 == (-(-1))))) else (none))) else (none))) else (none)) else (none)) else (some false))) else (none))) else (none))) else (none)) else (if t552.size + 1 ≤ 9223372036854775807 then ((milllaw3_written.f k1 a1 0).bind fun t574 => (if (t552.size + 1) + t574.size ≤ 9223372036854775807 then ((milllaw3_written.f k1 (wrap64 (a1 + a2)) 0).bind fun t575 => (if (t552.size + 1) + t575.size ≤ 9223372036854775807 then ((numeral_Compare.f k1 32 ((t552 ++ (⟨#[101]⟩ : ByteArray)) ++ t574) ((t552 ++ (⟨#[101]⟩ : ByteArray)) ++ t575)).bind fun t576 => (if t576 = 0 then (if 1 + t552.size ≤ 9223372036854775807 then (if (1 + t552.size) + 1 ≤ 9223372036854775807 then ((milllaw3_written.f k1 a1 0).bind fun t577 => (if (1 + t552.size + 1) + t577.size ≤ 9223372036854775807 then ((milllaw3_written.f k1 (wrap64 (a1 + a2)) 0).bind fun t578 => (if (1 + t552.size + 1) + t578.size ≤ 9223372036854775807 then ((numeral_Compare.f k1 32 ((((⟨#[45]⟩ : ByteArray) ++ t552) ++ (⟨#[101]⟩ : ByteArray)) ++ t577) ((((⟨#[45]⟩ : ByteArray) ++ t552) ++ (⟨#[101]⟩ : ByteArray)) ++ t578)).bind fun t579 => (some (t579 == (-0)))) else (none))) else (none))) else (none)) else (none)) else (some false))) else (none))) else (none))) else (none))) else (some false)) = some r := H
                   have A42 := Aside0.mk A420
                   clear A420
                   by_cases c43 : t567 = 0
                   ·
                    rw [if_pos c43] at H
                    have c43b0 : (t567 == 0) = true := beq_iff_eq.mpr c43
                    have c43b1 : (t567 != 0) = false := bne_eq_false_iff_eq.mpr c43
                    clear c43
                    by_cases c44 : a2 > 0
                    ·
                     rw [if_pos c44] at H
                     have c44b0 : decide (0 < a2) = true := decide_eq_true c44
                     clear c44
                     by_cases c45 : t552.size + 1 ≤ 9223372036854775807
                     ·
                      rw [if_pos c45] at H
                      have c45b0 := eq_true c45
                      have c45b1 : decide (t552.size + 1 ≤ 9223372036854775807) = true := decide_eq_true c45
                      try have c45b2 : (9223372036854775807 < t552.size + 1) = False := eq_false (Nat.not_lt.2 c45)
                      replace H := Option.bind_eq_some_iff.mp H
                      obtain ⟨t568, A460, H⟩ := H
                      replace H : (if (t552.size + 1) + t568.size ≤ 9223372036854775807 then ((milllaw3_written.f k1 (wrap64 (a1 + a2)) 0).bind fun t569 => (if (t552.size + 1) + t569.size ≤ 9223372036854775807 then ((numeral_Compare.f k1 32 ((t552 ++ (⟨#[101]⟩ : ByteArray)) ++ t568) ((t552 ++ (⟨#[101]⟩ : ByteArray)) ++ t569)).bind fun t570 => (if t570 = (-1) then (if 1 + t552.size ≤ 9223372036854775807 then (if (1 + t552.size) + 1 ≤ 9223372036854775807 then ((milllaw3_written.f k1 a1 0).bind fun t571 => (if (1 + t552.size + 1) + t571.size ≤ 9223372036854775807 then ((milllaw3_written.f k1 (wrap64 (a1 + a2)) 0).bind fun t572 => (if (1 + t552.size + 1) + t572.size ≤ 9223372036854775807 then ((numeral_Compare.f k1 32 ((((⟨#[45]⟩ : ByteArray) ++ t552) ++ (⟨#[101]⟩ : ByteArray)) ++ t571) ((((⟨#[45]⟩ : ByteArray) ++ t552) ++ (⟨#[101]⟩ : ByteArray)) ++ t572)).bind fun t573 => (some (t573 == (-(-1))))) else (none))) else (none))) else (none)) else (none)) else (some false))) else (none))) else (none)) = some r := H
                      have A46 := Aside0.mk A460
                      clear A460
                      by_cases c47 : (t552.size + 1) + t568.size ≤ 9223372036854775807
                      ·
                       rw [if_pos c47] at H
                       have c47b0 := eq_true c47
                       have c47b1 : decide ((t552.size + 1) + t568.size ≤ 9223372036854775807) = true := decide_eq_true c47
                       try have c47b2 : (9223372036854775807 < (t552.size + 1) + t568.size) = False := eq_false (Nat.not_lt.2 c47)
                       replace H := Option.bind_eq_some_iff.mp H
                       obtain ⟨t569, A480, H⟩ := H
                       replace H : (if (t552.size + 1) + t569.size ≤ 9223372036854775807 then ((numeral_Compare.f k1 32 ((t552 ++ (⟨#[101]⟩ : ByteArray)) ++ t568) ((t552 ++ (⟨#[101]⟩ : ByteArray)) ++ t569)).bind fun t570 => (if t570 = (-1) then (if 1 + t552.size ≤ 9223372036854775807 then (if (1 + t552.size) + 1 ≤ 9223372036854775807 then ((milllaw3_written.f k1 a1 0).bind fun t571 => (if (1 + t552.size + 1) + t571.size ≤ 9223372036854775807 then ((milllaw3_written.f k1 (wrap64 (a1 + a2)) 0).bind fun t572 => (if (1 + t552.size + 1) + t572.size ≤ 9223372036854775807 then ((numeral_Compare.f k1 32 ((((⟨#[45]⟩ : ByteArray) ++ t552) ++ (⟨#[101]⟩ : ByteArray)) ++ t571) ((((⟨#[45]⟩ : ByteArray) ++ t552) ++ (⟨#[101]⟩ : ByteArray)) ++ t572)).bind fun t573 => (some (t573 == (-(-1))))) else (none))) else (none))) else (none)) else (none)) else (some false))) else (none)) = some r := H
                       have A48 := Aside0.mk A480
                       clear A480
                       by_cases c49 : (t552.size + 1) + t569.size ≤ 9223372036854775807
                       ·
                        rw [if_pos c49] at H
                        have c49b0 := eq_true c49
                        have c49b1 : decide ((t552.size + 1) + t569.size ≤ 9223372036854775807) = true := decide_eq_true c49
                        try have c49b2 : (9223372036854775807 < (t552.size + 1) + t569.size) = False := eq_false (Nat.not_lt.2 c49)
                        replace H := Option.bind_eq_some_iff.mp H
                        obtain ⟨t570, A500, H⟩ := H
                        replace H : (if t570 = (-1) then (if 1 + t552.size ≤ 9223372036854775807 then (if (1 + t552.size) + 1 ≤ 9223372036854775807 then ((milllaw3_written.f k1 a1 0).bind fun t571 => (if (1 + t552.size + 1) + t571.size ≤ 9223372036854775807 then ((milllaw3_written.f k1 (wrap64 (a1 + a2)) 0).bind fun t572 => (if (1 + t552.size + 1) + t572.size ≤ 9223372036854775807 then ((numeral_Compare.f k1 32 ((((⟨#[45]⟩ : ByteArray) ++ t552) ++ (⟨#[101]⟩ : ByteArray)) ++ t571) ((((⟨#[45]⟩ : ByteArray) ++ t552) ++ (⟨#[101]⟩ : ByteArray)) ++ t572)).bind fun t573 => (some (t573 == (-(-1))))) else (none))) else (none))) else (none)) else (none)) else (some false)) = some r := H
                        have A50 := Aside0.mk A500
                        clear A500
                        by_cases c51 : t570 = (-1)
                        ·
                         rw [if_pos c51] at H
                         have c51b0 : (t570 == (-1)) = true := beq_iff_eq.mpr c51
                         have c51b1 : (t570 != (-1)) = false := bne_eq_false_iff_eq.mpr c51
                         clear c51
                         by_cases c52 : 1 + t552.size ≤ 9223372036854775807
                         ·
                          rw [if_pos c52] at H
                          have c52b0 := eq_true c52
                          have c52b1 : decide (1 + t552.size ≤ 9223372036854775807) = true := decide_eq_true c52
                          try have c52b2 : (9223372036854775807 < 1 + t552.size) = False := eq_false (Nat.not_lt.2 c52)
                          by_cases c53 : (1 + t552.size) + 1 ≤ 9223372036854775807
                          ·
                           rw [if_pos c53] at H
                           have c53b0 := eq_true c53
                           have c53b1 : decide ((1 + t552.size) + 1 ≤ 9223372036854775807) = true := decide_eq_true c53
                           try have c53b2 : (9223372036854775807 < (1 + t552.size) + 1) = False := eq_false (Nat.not_lt.2 c53)
                           replace H := Option.bind_eq_some_iff.mp H
                           obtain ⟨t571, A540, H⟩ := H
                           replace H : (if (1 + t552.size + 1) + t571.size ≤ 9223372036854775807 then ((milllaw3_written.f k1 (wrap64 (a1 + a2)) 0).bind fun t572 => (if (1 + t552.size + 1) + t572.size ≤ 9223372036854775807 then ((numeral_Compare.f k1 32 ((((⟨#[45]⟩ : ByteArray) ++ t552) ++ (⟨#[101]⟩ : ByteArray)) ++ t571) ((((⟨#[45]⟩ : ByteArray) ++ t552) ++ (⟨#[101]⟩ : ByteArray)) ++ t572)).bind fun t573 => (some (t573 == (-(-1))))) else (none))) else (none)) = some r := H
                           have A54 := Aside0.mk A540
                           clear A540
                           by_cases c55 : (1 + t552.size + 1) + t571.size ≤ 9223372036854775807
                           ·
                            rw [if_pos c55] at H
                            have c55b0 := eq_true c55
                            have c55b1 : decide ((1 + t552.size + 1) + t571.size ≤ 9223372036854775807) = true := decide_eq_true c55
                            try have c55b2 : (9223372036854775807 < (1 + t552.size + 1) + t571.size) = False := eq_false (Nat.not_lt.2 c55)
                            replace H := Option.bind_eq_some_iff.mp H
                            obtain ⟨t572, A560, H⟩ := H
                            replace H : (if (1 + t552.size + 1) + t572.size ≤ 9223372036854775807 then ((numeral_Compare.f k1 32 ((((⟨#[45]⟩ : ByteArray) ++ t552) ++ (⟨#[101]⟩ : ByteArray)) ++ t571) ((((⟨#[45]⟩ : ByteArray) ++ t552) ++ (⟨#[101]⟩ : ByteArray)) ++ t572)).bind fun t573 => (some (t573 == (-(-1))))) else (none)) = some r := H
                            have A56 := Aside0.mk A560
                            clear A560
                            by_cases c57 : (1 + t552.size + 1) + t572.size ≤ 9223372036854775807
                            ·
                             rw [if_pos c57] at H
                             have c57b0 := eq_true c57
                             have c57b1 : decide ((1 + t552.size + 1) + t572.size ≤ 9223372036854775807) = true := decide_eq_true c57
                             try have c57b2 : (9223372036854775807 < (1 + t552.size + 1) + t572.size) = False := eq_false (Nat.not_lt.2 c57)
                             replace H := Option.bind_eq_some_iff.mp H
                             obtain ⟨t573, A580, H⟩ := H
                             replace H : (some (t573 == (-(-1)))) = some r := H
                             have A58 := Aside0.mk A580
                             clear A580
                             obtain rfl := Option.some.inj H
                             have tk67 : True := trivial; have tk68 : True := trivial; have tk69 : True := trivial; have tk70 : True := trivial; have tk71 : True := trivial; have tk72 : True := trivial; have tk73 : True := trivial; have tk74 : True := trivial
                             go_wp2_with (first | (have ztk67 := tk67; clear tk67 ztk67; go_at_call 15; (with_reducible refine (milllaw3_written.calls k1 a1 0 t566 _ A40.out).mono ?_); rintro e w59 ⟨rfl, hb⟩; have n0_ := Aside0.mk (blk_below (g := gb559) (o := .cells #[.int .u8 t554, .bool t555, .string t556, .int .i64 t557, .int .i64 t558] 29 (0, 0)) qns4_ hb); have n1_ := Aside0.mk (blk_below (g := gb565) (o := .cells #[.int .u8 t560, .bool t561, .string t562, .int .i64 t563, .int .i64 t564] 29 (0, 0)) qns11_ hb); have n2_ := Aside0.mk (below_step qns3_ hb); clear BK559; clear BK565; clear HB; have BK559 := n0_; have BK565 := n1_; have HB := n2_; clear n0_ n1_ n2_; (try clear hb); (try clear hb2); (try clear hk); (try clear hi)) | (have ztk68 := tk68; clear tk68 ztk68; go_at_call 27; (with_reducible refine (numeral_Compare.calls k1 32 ((t552 ++ (⟨#[69, 43]⟩ : ByteArray)) ++ t566) x10_1 t567 _ ?side1 A42.out).mono ?_); (case side1 => exact GOK.below HGL.out qns3_); rintro e w60 ⟨rfl, hb⟩; have n0_ := Aside0.mk (blk_below (g := gb559) (o := .cells #[.int .u8 t554, .bool t555, .string t556, .int .i64 t557, .int .i64 t558] 29 (0, 0)) qns4_ hb); have n1_ := Aside0.mk (blk_below (g := gb565) (o := .cells #[.int .u8 t560, .bool t561, .string t562, .int .i64 t563, .int .i64 t564] 29 (0, 0)) qns11_ hb); have n2_ := Aside0.mk (below_step qns3_ hb); clear BK559; clear BK565; clear HB; have BK559 := n0_; have BK565 := n1_; have HB := n2_; clear n0_ n1_ n2_; (try clear hb); (try clear hb2); (try clear hk); (try clear hi)) | (have ztk69 := tk69; clear tk69 ztk69; (with_reducible refine gate_callee (f := 15) rfl ?_); refine goesL_ (some 94) rfl rfl Tryd.func15 (by kernel_rfl) rfl #[.int .i64 a1, .int .i64 0] rfl qns0_ ?_; (with_reducible refine (milllaw3_written.calls k1 a1 0 t568 _ A46.out).mono ?_); rintro e w61 ⟨rfl, hb⟩; refine ⟨_, rfl, ?_⟩; have n0_ := Aside0.mk (blk_below (g := gb559) (o := .cells #[.int .u8 t554, .bool t555, .string t556, .int .i64 t557, .int .i64 t558] 29 (0, 0)) qns4_ hb); have n1_ := Aside0.mk (blk_below (g := gb565) (o := .cells #[.int .u8 t560, .bool t561, .string t562, .int .i64 t563, .int .i64 t564] 29 (0, 0)) qns11_ hb); have n2_ := Aside0.mk (below_step qns3_ hb); clear BK559; clear BK565; clear HB; have BK559 := n0_; have BK565 := n1_; have HB := n2_; clear n0_ n1_ n2_; (try clear hb); (try clear hb2); (try clear hk); (try clear hi)) | (have ztk70 := tk70; clear tk70 ztk70; (with_reducible refine gate_callee (f := 15) rfl ?_); refine goesL_ (some 101) rfl rfl Tryd.func15 (by kernel_rfl) rfl #[.int .i64 (wrap64 (a1 + a2)), .int .i64 0] rfl qns0_ ?_; (with_reducible refine (milllaw3_written.calls k1 (wrap64 (a1 + a2)) 0 t569 _ A48.out).mono ?_); rintro e w62 ⟨rfl, hb⟩; refine ⟨_, rfl, ?_⟩; have n0_ := Aside0.mk (blk_below (g := gb559) (o := .cells #[.int .u8 t554, .bool t555, .string t556, .int .i64 t557, .int .i64 t558] 29 (0, 0)) qns4_ hb); have n1_ := Aside0.mk (blk_below (g := gb565) (o := .cells #[.int .u8 t560, .bool t561, .string t562, .int .i64 t563, .int .i64 t564] 29 (0, 0)) qns11_ hb); have n2_ := Aside0.mk (below_step qns3_ hb); clear BK559; clear BK565; clear HB; have BK559 := n0_; have BK565 := n1_; have HB := n2_; clear n0_ n1_ n2_; (try clear hb); (try clear hb2); (try clear hk); (try clear hi)) | (have ztk71 := tk71; clear tk71 ztk71; (with_reducible refine gate_callee (f := 27) rfl ?_); refine goesL_ (some 103) rfl rfl Tryd.func27 (by kernel_rfl) rfl #[.int .u16 32, .string ((t552 ++ (⟨#[101]⟩ : ByteArray)) ++ t568), .string ((t552 ++ (⟨#[101]⟩ : ByteArray)) ++ t569)] rfl qns0_ ?_; (with_reducible refine (numeral_Compare.calls k1 32 ((t552 ++ (⟨#[101]⟩ : ByteArray)) ++ t568) ((t552 ++ (⟨#[101]⟩ : ByteArray)) ++ t569) t570 _ ?side1 A50.out).mono ?_); (case side1 => exact GOK.below HGL.out qns3_); rintro e w63 ⟨rfl, hb⟩; refine ⟨_, rfl, ?_⟩; have n0_ := Aside0.mk (blk_below (g := gb559) (o := .cells #[.int .u8 t554, .bool t555, .string t556, .int .i64 t557, .int .i64 t558] 29 (0, 0)) qns4_ hb); have n1_ := Aside0.mk (blk_below (g := gb565) (o := .cells #[.int .u8 t560, .bool t561, .string t562, .int .i64 t563, .int .i64 t564] 29 (0, 0)) qns11_ hb); have n2_ := Aside0.mk (below_step qns3_ hb); clear BK559; clear BK565; clear HB; have BK559 := n0_; have BK565 := n1_; have HB := n2_; clear n0_ n1_ n2_; (try clear hb); (try clear hb2); (try clear hk); (try clear hi)) | (have ztk72 := tk72; clear tk72 ztk72; go_at_call 15; (with_reducible refine (milllaw3_written.calls k1 a1 0 t571 _ A54.out).mono ?_); rintro e w64 ⟨rfl, hb⟩; have n0_ := Aside0.mk (blk_below (g := gb559) (o := .cells #[.int .u8 t554, .bool t555, .string t556, .int .i64 t557, .int .i64 t558] 29 (0, 0)) qns4_ hb); have n1_ := Aside0.mk (blk_below (g := gb565) (o := .cells #[.int .u8 t560, .bool t561, .string t562, .int .i64 t563, .int .i64 t564] 29 (0, 0)) qns11_ hb); have n2_ := Aside0.mk (below_step qns3_ hb); clear BK559; clear BK565; clear HB; have BK559 := n0_; have BK565 := n1_; have HB := n2_; clear n0_ n1_ n2_; (try clear hb); (try clear hb2); (try clear hk); (try clear hi)) | (have ztk73 := tk73; clear tk73 ztk73; go_at_call 15; (with_reducible refine (milllaw3_written.calls k1 (wrap64 (a1 + a2)) 0 t572 _ A56.out).mono ?_); rintro e w65 ⟨rfl, hb⟩; have n0_ := Aside0.mk (blk_below (g := gb559) (o := .cells #[.int .u8 t554, .bool t555, .string t556, .int .i64 t557, .int .i64 t558] 29 (0, 0)) qns4_ hb); have n1_ := Aside0.mk (blk_below (g := gb565) (o := .cells #[.int .u8 t560, .bool t561, .string t562, .int .i64 t563, .int .i64 t564] 29 (0, 0)) qns11_ hb); have n2_ := Aside0.mk (below_step qns3_ hb); clear BK559; clear BK565; clear HB; have BK559 := n0_; have BK565 := n1_; have HB := n2_; clear n0_ n1_ n2_; (try clear hb); (try clear hb2); (try clear hk); (try clear hi)) | (have ztk74 := tk74; clear tk74 ztk74; go_at_call 27; (with_reducible refine (numeral_Compare.calls k1 32 ((((⟨#[45]⟩ : ByteArray) ++ t552) ++ (⟨#[101]⟩ : ByteArray)) ++ t571) ((((⟨#[45]⟩ : ByteArray) ++ t552) ++ (⟨#[101]⟩ : ByteArray)) ++ t572) t573 _ ?side1 A58.out).mono ?_); (case side1 => exact GOK.below HGL.out qns3_); rintro e w66 ⟨rfl, hb⟩; have n0_ := Aside0.mk (blk_below (g := gb559) (o := .cells #[.int .u8 t554, .bool t555, .string t556, .int .i64 t557, .int .i64 t558] 29 (0, 0)) qns4_ hb); have n1_ := Aside0.mk (blk_below (g := gb565) (o := .cells #[.int .u8 t560, .bool t561, .string t562, .int .i64 t563, .int .i64 t564] 29 (0, 0)) qns11_ hb); have n2_ := Aside0.mk (below_step qns3_ hb); clear BK559; clear BK565; clear HB; have BK559 := n0_; have BK565 := n1_; have HB := n2_; clear n0_ n1_ n2_; (try clear hb); (try clear hb2); (try clear hk); (try clear hi)))
                             go_ret
                             exact ⟨qns6_, qns3_⟩
                            ·
                             rw [if_neg c57] at H
                             exact absurd H (by simp)
                           ·
                            rw [if_neg c55] at H
                            exact absurd H (by simp)
                          ·
                           rw [if_neg c53] at H
                           exact absurd H (by simp)
                         ·
                          rw [if_neg c52] at H
                          exact absurd H (by simp)
                        ·
                         rw [if_neg c51] at H
                         have c51b0 : (t570 == (-1)) = false := beq_eq_false_iff_ne.mpr c51
                         have c51b1 : (t570 != (-1)) = true := bne_iff_ne.mpr c51
                         obtain rfl := Option.some.inj H
                         have tk80 : True := trivial; have tk81 : True := trivial; have tk82 : True := trivial; have tk83 : True := trivial; have tk84 : True := trivial
                         go_wp2_with (first | (have ztk80 := tk80; clear tk80 ztk80; go_at_call 15; (with_reducible refine (milllaw3_written.calls k1 a1 0 t566 _ A40.out).mono ?_); rintro e w75 ⟨rfl, hb⟩; have n0_ := Aside0.mk (blk_below (g := gb559) (o := .cells #[.int .u8 t554, .bool t555, .string t556, .int .i64 t557, .int .i64 t558] 29 (0, 0)) qns4_ hb); have n1_ := Aside0.mk (blk_below (g := gb565) (o := .cells #[.int .u8 t560, .bool t561, .string t562, .int .i64 t563, .int .i64 t564] 29 (0, 0)) qns11_ hb); have n2_ := Aside0.mk (below_step qns3_ hb); clear BK559; clear BK565; clear HB; have BK559 := n0_; have BK565 := n1_; have HB := n2_; clear n0_ n1_ n2_; (try clear hb); (try clear hb2); (try clear hk); (try clear hi)) | (have ztk81 := tk81; clear tk81 ztk81; go_at_call 27; (with_reducible refine (numeral_Compare.calls k1 32 ((t552 ++ (⟨#[69, 43]⟩ : ByteArray)) ++ t566) x10_1 t567 _ ?side1 A42.out).mono ?_); (case side1 => exact GOK.below HGL.out qns3_); rintro e w76 ⟨rfl, hb⟩; have n0_ := Aside0.mk (blk_below (g := gb559) (o := .cells #[.int .u8 t554, .bool t555, .string t556, .int .i64 t557, .int .i64 t558] 29 (0, 0)) qns4_ hb); have n1_ := Aside0.mk (blk_below (g := gb565) (o := .cells #[.int .u8 t560, .bool t561, .string t562, .int .i64 t563, .int .i64 t564] 29 (0, 0)) qns11_ hb); have n2_ := Aside0.mk (below_step qns3_ hb); clear BK559; clear BK565; clear HB; have BK559 := n0_; have BK565 := n1_; have HB := n2_; clear n0_ n1_ n2_; (try clear hb); (try clear hb2); (try clear hk); (try clear hi)) | (have ztk82 := tk82; clear tk82 ztk82; (with_reducible refine gate_callee (f := 15) rfl ?_); refine goesL_ (some 94) rfl rfl Tryd.func15 (by kernel_rfl) rfl #[.int .i64 a1, .int .i64 0] rfl qns0_ ?_; (with_reducible refine (milllaw3_written.calls k1 a1 0 t568 _ A46.out).mono ?_); rintro e w77 ⟨rfl, hb⟩; refine ⟨_, rfl, ?_⟩; have n0_ := Aside0.mk (blk_below (g := gb559) (o := .cells #[.int .u8 t554, .bool t555, .string t556, .int .i64 t557, .int .i64 t558] 29 (0, 0)) qns4_ hb); have n1_ := Aside0.mk (blk_below (g := gb565) (o := .cells #[.int .u8 t560, .bool t561, .string t562, .int .i64 t563, .int .i64 t564] 29 (0, 0)) qns11_ hb); have n2_ := Aside0.mk (below_step qns3_ hb); clear BK559; clear BK565; clear HB; have BK559 := n0_; have BK565 := n1_; have HB := n2_; clear n0_ n1_ n2_; (try clear hb); (try clear hb2); (try clear hk); (try clear hi)) | (have ztk83 := tk83; clear tk83 ztk83; (with_reducible refine gate_callee (f := 15) rfl ?_); refine goesL_ (some 101) rfl rfl Tryd.func15 (by kernel_rfl) rfl #[.int .i64 (wrap64 (a1 + a2)), .int .i64 0] rfl qns0_ ?_; (with_reducible refine (milllaw3_written.calls k1 (wrap64 (a1 + a2)) 0 t569 _ A48.out).mono ?_); rintro e w78 ⟨rfl, hb⟩; refine ⟨_, rfl, ?_⟩; have n0_ := Aside0.mk (blk_below (g := gb559) (o := .cells #[.int .u8 t554, .bool t555, .string t556, .int .i64 t557, .int .i64 t558] 29 (0, 0)) qns4_ hb); have n1_ := Aside0.mk (blk_below (g := gb565) (o := .cells #[.int .u8 t560, .bool t561, .string t562, .int .i64 t563, .int .i64 t564] 29 (0, 0)) qns11_ hb); have n2_ := Aside0.mk (below_step qns3_ hb); clear BK559; clear BK565; clear HB; have BK559 := n0_; have BK565 := n1_; have HB := n2_; clear n0_ n1_ n2_; (try clear hb); (try clear hb2); (try clear hk); (try clear hi)) | (have ztk84 := tk84; clear tk84 ztk84; (with_reducible refine gate_callee (f := 27) rfl ?_); refine goesL_ (some 103) rfl rfl Tryd.func27 (by kernel_rfl) rfl #[.int .u16 32, .string ((t552 ++ (⟨#[101]⟩ : ByteArray)) ++ t568), .string ((t552 ++ (⟨#[101]⟩ : ByteArray)) ++ t569)] rfl qns0_ ?_; (with_reducible refine (numeral_Compare.calls k1 32 ((t552 ++ (⟨#[101]⟩ : ByteArray)) ++ t568) ((t552 ++ (⟨#[101]⟩ : ByteArray)) ++ t569) t570 _ ?side1 A50.out).mono ?_); (case side1 => exact GOK.below HGL.out qns3_); rintro e w79 ⟨rfl, hb⟩; refine ⟨_, rfl, ?_⟩; have n0_ := Aside0.mk (blk_below (g := gb559) (o := .cells #[.int .u8 t554, .bool t555, .string t556, .int .i64 t557, .int .i64 t558] 29 (0, 0)) qns4_ hb); have n1_ := Aside0.mk (blk_below (g := gb565) (o := .cells #[.int .u8 t560, .bool t561, .string t562, .int .i64 t563, .int .i64 t564] 29 (0, 0)) qns11_ hb); have n2_ := Aside0.mk (below_step qns3_ hb); clear BK559; clear BK565; clear HB; have BK559 := n0_; have BK565 := n1_; have HB := n2_; clear n0_ n1_ n2_; (try clear hb); (try clear hb2); (try clear hk); (try clear hi)))
                         go_ret
                         exact ⟨qns6_, qns3_⟩
                       ·
                        rw [if_neg c49] at H
                        exact absurd H (by simp)
                      ·
                       rw [if_neg c47] at H
                       exact absurd H (by simp)
                     ·
                      rw [if_neg c45] at H
                      exact absurd H (by simp)
                    ·
                     rw [if_neg c44] at H
                     have c44b0 : decide (0 < a2) = false := decide_eq_false c44
                     clear c44
                     by_cases c85 : t552.size + 1 ≤ 9223372036854775807
                     ·
                      rw [if_pos c85] at H
                      have c85b0 := eq_true c85
                      have c85b1 : decide (t552.size + 1 ≤ 9223372036854775807) = true := decide_eq_true c85
                      try have c85b2 : (9223372036854775807 < t552.size + 1) = False := eq_false (Nat.not_lt.2 c85)
                      replace H := Option.bind_eq_some_iff.mp H
                      obtain ⟨t574, A860, H⟩ := H
                      replace H : (if (t552.size + 1) + t574.size ≤ 9223372036854775807 then ((milllaw3_written.f k1 (wrap64 (a1 + a2)) 0).bind fun t575 => (if (t552.size + 1) + t575.size ≤ 9223372036854775807 then ((numeral_Compare.f k1 32 ((t552 ++ (⟨#[101]⟩ : ByteArray)) ++ t574) ((t552 ++ (⟨#[101]⟩ : ByteArray)) ++ t575)).bind fun t576 => (if t576 = 0 then (if 1 + t552.size ≤ 9223372036854775807 then (if (1 + t552.size) + 1 ≤ 9223372036854775807 then ((milllaw3_written.f k1 a1 0).bind fun t577 => (if (1 + t552.size + 1) + t577.size ≤ 9223372036854775807 then ((milllaw3_written.f k1 (wrap64 (a1 + a2)) 0).bind fun t578 => (if (1 + t552.size + 1) + t578.size ≤ 9223372036854775807 then ((numeral_Compare.f k1 32 ((((⟨#[45]⟩ : ByteArray) ++ t552) ++ (⟨#[101]⟩ : ByteArray)) ++ t577) ((((⟨#[45]⟩ : ByteArray) ++ t552) ++ (⟨#[101]⟩ : ByteArray)) ++ t578)).bind fun t579 => (some (t579 == (-0)))) else (none))) else (none))) else (none)) else (none)) else (some false))) else (none))) else (none)) = some r := H
                      have A86 := Aside0.mk A860
                      clear A860
                      by_cases c87 : (t552.size + 1) + t574.size ≤ 9223372036854775807
                      ·
                       rw [if_pos c87] at H
                       have c87b0 := eq_true c87
                       have c87b1 : decide ((t552.size + 1) + t574.size ≤ 9223372036854775807) = true := decide_eq_true c87
                       try have c87b2 : (9223372036854775807 < (t552.size + 1) + t574.size) = False := eq_false (Nat.not_lt.2 c87)
                       replace H := Option.bind_eq_some_iff.mp H
                       obtain ⟨t575, A880, H⟩ := H
                       replace H : (if (t552.size + 1) + t575.size ≤ 9223372036854775807 then ((numeral_Compare.f k1 32 ((t552 ++ (⟨#[101]⟩ : ByteArray)) ++ t574) ((t552 ++ (⟨#[101]⟩ : ByteArray)) ++ t575)).bind fun t576 => (if t576 = 0 then (if 1 + t552.size ≤ 9223372036854775807 then (if (1 + t552.size) + 1 ≤ 9223372036854775807 then ((milllaw3_written.f k1 a1 0).bind fun t577 => (if (1 + t552.size + 1) + t577.size ≤ 9223372036854775807 then ((milllaw3_written.f k1 (wrap64 (a1 + a2)) 0).bind fun t578 => (if (1 + t552.size + 1) + t578.size ≤ 9223372036854775807 then ((numeral_Compare.f k1 32 ((((⟨#[45]⟩ : ByteArray) ++ t552) ++ (⟨#[101]⟩ : ByteArray)) ++ t577) ((((⟨#[45]⟩ : ByteArray) ++ t552) ++ (⟨#[101]⟩ : ByteArray)) ++ t578)).bind fun t579 => (some (t579 == (-0)))) else (none))) else (none))) else (none)) else (none)) else (some false))) else (none)) = some r := H
                       have A88 := Aside0.mk A880
                       clear A880
                       by_cases c89 : (t552.size + 1) + t575.size ≤ 9223372036854775807
                       ·
                        rw [if_pos c89] at H
                        have c89b0 := eq_true c89
                        have c89b1 : decide ((t552.size + 1) + t575.size ≤ 9223372036854775807) = true := decide_eq_true c89
                        try have c89b2 : (9223372036854775807 < (t552.size + 1) + t575.size) = False := eq_false (Nat.not_lt.2 c89)
                        replace H := Option.bind_eq_some_iff.mp H
                        obtain ⟨t576, A900, H⟩ := H
                        replace H : (if t576 = 0 then (if 1 + t552.size ≤ 9223372036854775807 then (if (1 + t552.size) + 1 ≤ 9223372036854775807 then ((milllaw3_written.f k1 a1 0).bind fun t577 => (if (1 + t552.size + 1) + t577.size ≤ 9223372036854775807 then ((milllaw3_written.f k1 (wrap64 (a1 + a2)) 0).bind fun t578 => (if (1 + t552.size + 1) + t578.size ≤ 9223372036854775807 then ((numeral_Compare.f k1 32 ((((⟨#[45]⟩ : ByteArray) ++ t552) ++ (⟨#[101]⟩ : ByteArray)) ++ t577) ((((⟨#[45]⟩ : ByteArray) ++ t552) ++ (⟨#[101]⟩ : ByteArray)) ++ t578)).bind fun t579 => (some (t579 == (-0)))) else (none))) else (none))) else (none)) else (none)) else (some false)) = some r := H
                        have A90 := Aside0.mk A900
                        clear A900
                        by_cases c91 : t576 = 0
                        ·
                         rw [if_pos c91] at H
                         have c91b0 : (t576 == 0) = true := beq_iff_eq.mpr c91
                         have c91b1 : (t576 != 0) = false := bne_eq_false_iff_eq.mpr c91
                         clear c91
                         by_cases c92 : 1 + t552.size ≤ 9223372036854775807
                         ·
                          rw [if_pos c92] at H
                          have c92b0 := eq_true c92
                          have c92b1 : decide (1 + t552.size ≤ 9223372036854775807) = true := decide_eq_true c92
                          try have c92b2 : (9223372036854775807 < 1 + t552.size) = False := eq_false (Nat.not_lt.2 c92)
                          by_cases c93 : (1 + t552.size) + 1 ≤ 9223372036854775807
                          ·
                           rw [if_pos c93] at H
                           have c93b0 := eq_true c93
                           have c93b1 : decide ((1 + t552.size) + 1 ≤ 9223372036854775807) = true := decide_eq_true c93
                           try have c93b2 : (9223372036854775807 < (1 + t552.size) + 1) = False := eq_false (Nat.not_lt.2 c93)
                           replace H := Option.bind_eq_some_iff.mp H
                           obtain ⟨t577, A940, H⟩ := H
                           replace H : (if (1 + t552.size + 1) + t577.size ≤ 9223372036854775807 then ((milllaw3_written.f k1 (wrap64 (a1 + a2)) 0).bind fun t578 => (if (1 + t552.size + 1) + t578.size ≤ 9223372036854775807 then ((numeral_Compare.f k1 32 ((((⟨#[45]⟩ : ByteArray) ++ t552) ++ (⟨#[101]⟩ : ByteArray)) ++ t577) ((((⟨#[45]⟩ : ByteArray) ++ t552) ++ (⟨#[101]⟩ : ByteArray)) ++ t578)).bind fun t579 => (some (t579 == (-0)))) else (none))) else (none)) = some r := H
                           have A94 := Aside0.mk A940
                           clear A940
                           by_cases c95 : (1 + t552.size + 1) + t577.size ≤ 9223372036854775807
                           ·
                            rw [if_pos c95] at H
                            have c95b0 := eq_true c95
                            have c95b1 : decide ((1 + t552.size + 1) + t577.size ≤ 9223372036854775807) = true := decide_eq_true c95
                            try have c95b2 : (9223372036854775807 < (1 + t552.size + 1) + t577.size) = False := eq_false (Nat.not_lt.2 c95)
                            replace H := Option.bind_eq_some_iff.mp H
                            obtain ⟨t578, A960, H⟩ := H
                            replace H : (if (1 + t552.size + 1) + t578.size ≤ 9223372036854775807 then ((numeral_Compare.f k1 32 ((((⟨#[45]⟩ : ByteArray) ++ t552) ++ (⟨#[101]⟩ : ByteArray)) ++ t577) ((((⟨#[45]⟩ : ByteArray) ++ t552) ++ (⟨#[101]⟩ : ByteArray)) ++ t578)).bind fun t579 => (some (t579 == (-0)))) else (none)) = some r := H
                            have A96 := Aside0.mk A960
                            clear A960
                            by_cases c97 : (1 + t552.size + 1) + t578.size ≤ 9223372036854775807
                            ·
                             rw [if_pos c97] at H
                             have c97b0 := eq_true c97
                             have c97b1 : decide ((1 + t552.size + 1) + t578.size ≤ 9223372036854775807) = true := decide_eq_true c97
                             try have c97b2 : (9223372036854775807 < (1 + t552.size + 1) + t578.size) = False := eq_false (Nat.not_lt.2 c97)
                             replace H := Option.bind_eq_some_iff.mp H
                             obtain ⟨t579, A980, H⟩ := H
                             replace H : (some (t579 == (-0))) = some r := H
                             have A98 := Aside0.mk A980
                             clear A980
                             obtain rfl := Option.some.inj H
                             have tk107 : True := trivial; have tk108 : True := trivial; have tk109 : True := trivial; have tk110 : True := trivial; have tk111 : True := trivial; have tk112 : True := trivial; have tk113 : True := trivial; have tk114 : True := trivial
                             go_wp2_with (first | (have ztk107 := tk107; clear tk107 ztk107; go_at_call 15; (with_reducible refine (milllaw3_written.calls k1 a1 0 t566 _ A40.out).mono ?_); rintro e w99 ⟨rfl, hb⟩; have n0_ := Aside0.mk (blk_below (g := gb559) (o := .cells #[.int .u8 t554, .bool t555, .string t556, .int .i64 t557, .int .i64 t558] 29 (0, 0)) qns4_ hb); have n1_ := Aside0.mk (blk_below (g := gb565) (o := .cells #[.int .u8 t560, .bool t561, .string t562, .int .i64 t563, .int .i64 t564] 29 (0, 0)) qns11_ hb); have n2_ := Aside0.mk (below_step qns3_ hb); clear BK559; clear BK565; clear HB; have BK559 := n0_; have BK565 := n1_; have HB := n2_; clear n0_ n1_ n2_; (try clear hb); (try clear hb2); (try clear hk); (try clear hi)) | (have ztk108 := tk108; clear tk108 ztk108; go_at_call 27; (with_reducible refine (numeral_Compare.calls k1 32 ((t552 ++ (⟨#[69, 43]⟩ : ByteArray)) ++ t566) x10_1 t567 _ ?side1 A42.out).mono ?_); (case side1 => exact GOK.below HGL.out qns3_); rintro e w100 ⟨rfl, hb⟩; have n0_ := Aside0.mk (blk_below (g := gb559) (o := .cells #[.int .u8 t554, .bool t555, .string t556, .int .i64 t557, .int .i64 t558] 29 (0, 0)) qns4_ hb); have n1_ := Aside0.mk (blk_below (g := gb565) (o := .cells #[.int .u8 t560, .bool t561, .string t562, .int .i64 t563, .int .i64 t564] 29 (0, 0)) qns11_ hb); have n2_ := Aside0.mk (below_step qns3_ hb); clear BK559; clear BK565; clear HB; have BK559 := n0_; have BK565 := n1_; have HB := n2_; clear n0_ n1_ n2_; (try clear hb); (try clear hb2); (try clear hk); (try clear hi)) | (have ztk109 := tk109; clear tk109 ztk109; (with_reducible refine gate_callee (f := 15) rfl ?_); refine goesL_ (some 94) rfl rfl Tryd.func15 (by kernel_rfl) rfl #[.int .i64 a1, .int .i64 0] rfl qns0_ ?_; (with_reducible refine (milllaw3_written.calls k1 a1 0 t574 _ A86.out).mono ?_); rintro e w101 ⟨rfl, hb⟩; refine ⟨_, rfl, ?_⟩; have n0_ := Aside0.mk (blk_below (g := gb559) (o := .cells #[.int .u8 t554, .bool t555, .string t556, .int .i64 t557, .int .i64 t558] 29 (0, 0)) qns4_ hb); have n1_ := Aside0.mk (blk_below (g := gb565) (o := .cells #[.int .u8 t560, .bool t561, .string t562, .int .i64 t563, .int .i64 t564] 29 (0, 0)) qns11_ hb); have n2_ := Aside0.mk (below_step qns3_ hb); clear BK559; clear BK565; clear HB; have BK559 := n0_; have BK565 := n1_; have HB := n2_; clear n0_ n1_ n2_; (try clear hb); (try clear hb2); (try clear hk); (try clear hi)) | (have ztk110 := tk110; clear tk110 ztk110; (with_reducible refine gate_callee (f := 15) rfl ?_); refine goesL_ (some 101) rfl rfl Tryd.func15 (by kernel_rfl) rfl #[.int .i64 (wrap64 (a1 + a2)), .int .i64 0] rfl qns0_ ?_; (with_reducible refine (milllaw3_written.calls k1 (wrap64 (a1 + a2)) 0 t575 _ A88.out).mono ?_); rintro e w102 ⟨rfl, hb⟩; refine ⟨_, rfl, ?_⟩; have n0_ := Aside0.mk (blk_below (g := gb559) (o := .cells #[.int .u8 t554, .bool t555, .string t556, .int .i64 t557, .int .i64 t558] 29 (0, 0)) qns4_ hb); have n1_ := Aside0.mk (blk_below (g := gb565) (o := .cells #[.int .u8 t560, .bool t561, .string t562, .int .i64 t563, .int .i64 t564] 29 (0, 0)) qns11_ hb); have n2_ := Aside0.mk (below_step qns3_ hb); clear BK559; clear BK565; clear HB; have BK559 := n0_; have BK565 := n1_; have HB := n2_; clear n0_ n1_ n2_; (try clear hb); (try clear hb2); (try clear hk); (try clear hi)) | (have ztk111 := tk111; clear tk111 ztk111; (with_reducible refine gate_callee (f := 27) rfl ?_); refine goesL_ (some 103) rfl rfl Tryd.func27 (by kernel_rfl) rfl #[.int .u16 32, .string ((t552 ++ (⟨#[101]⟩ : ByteArray)) ++ t574), .string ((t552 ++ (⟨#[101]⟩ : ByteArray)) ++ t575)] rfl qns0_ ?_; (with_reducible refine (numeral_Compare.calls k1 32 ((t552 ++ (⟨#[101]⟩ : ByteArray)) ++ t574) ((t552 ++ (⟨#[101]⟩ : ByteArray)) ++ t575) t576 _ ?side1 A90.out).mono ?_); (case side1 => exact GOK.below HGL.out qns3_); rintro e w103 ⟨rfl, hb⟩; refine ⟨_, rfl, ?_⟩; have n0_ := Aside0.mk (blk_below (g := gb559) (o := .cells #[.int .u8 t554, .bool t555, .string t556, .int .i64 t557, .int .i64 t558] 29 (0, 0)) qns4_ hb); have n1_ := Aside0.mk (blk_below (g := gb565) (o := .cells #[.int .u8 t560, .bool t561, .string t562, .int .i64 t563, .int .i64 t564] 29 (0, 0)) qns11_ hb); have n2_ := Aside0.mk (below_step qns3_ hb); clear BK559; clear BK565; clear HB; have BK559 := n0_; have BK565 := n1_; have HB := n2_; clear n0_ n1_ n2_; (try clear hb); (try clear hb2); (try clear hk); (try clear hi)) | (have ztk112 := tk112; clear tk112 ztk112; go_at_call 15; (with_reducible refine (milllaw3_written.calls k1 a1 0 t577 _ A94.out).mono ?_); rintro e w104 ⟨rfl, hb⟩; have n0_ := Aside0.mk (blk_below (g := gb559) (o := .cells #[.int .u8 t554, .bool t555, .string t556, .int .i64 t557, .int .i64 t558] 29 (0, 0)) qns4_ hb); have n1_ := Aside0.mk (blk_below (g := gb565) (o := .cells #[.int .u8 t560, .bool t561, .string t562, .int .i64 t563, .int .i64 t564] 29 (0, 0)) qns11_ hb); have n2_ := Aside0.mk (below_step qns3_ hb); clear BK559; clear BK565; clear HB; have BK559 := n0_; have BK565 := n1_; have HB := n2_; clear n0_ n1_ n2_; (try clear hb); (try clear hb2); (try clear hk); (try clear hi)) | (have ztk113 := tk113; clear tk113 ztk113; go_at_call 15; (with_reducible refine (milllaw3_written.calls k1 (wrap64 (a1 + a2)) 0 t578 _ A96.out).mono ?_); rintro e w105 ⟨rfl, hb⟩; have n0_ := Aside0.mk (blk_below (g := gb559) (o := .cells #[.int .u8 t554, .bool t555, .string t556, .int .i64 t557, .int .i64 t558] 29 (0, 0)) qns4_ hb); have n1_ := Aside0.mk (blk_below (g := gb565) (o := .cells #[.int .u8 t560, .bool t561, .string t562, .int .i64 t563, .int .i64 t564] 29 (0, 0)) qns11_ hb); have n2_ := Aside0.mk (below_step qns3_ hb); clear BK559; clear BK565; clear HB; have BK559 := n0_; have BK565 := n1_; have HB := n2_; clear n0_ n1_ n2_; (try clear hb); (try clear hb2); (try clear hk); (try clear hi)) | (have ztk114 := tk114; clear tk114 ztk114; go_at_call 27; (with_reducible refine (numeral_Compare.calls k1 32 ((((⟨#[45]⟩ : ByteArray) ++ t552) ++ (⟨#[101]⟩ : ByteArray)) ++ t577) ((((⟨#[45]⟩ : ByteArray) ++ t552) ++ (⟨#[101]⟩ : ByteArray)) ++ t578) t579 _ ?side1 A98.out).mono ?_); (case side1 => exact GOK.below HGL.out qns3_); rintro e w106 ⟨rfl, hb⟩; have n0_ := Aside0.mk (blk_below (g := gb559) (o := .cells #[.int .u8 t554, .bool t555, .string t556, .int .i64 t557, .int .i64 t558] 29 (0, 0)) qns4_ hb); have n1_ := Aside0.mk (blk_below (g := gb565) (o := .cells #[.int .u8 t560, .bool t561, .string t562, .int .i64 t563, .int .i64 t564] 29 (0, 0)) qns11_ hb); have n2_ := Aside0.mk (below_step qns3_ hb); clear BK559; clear BK565; clear HB; have BK559 := n0_; have BK565 := n1_; have HB := n2_; clear n0_ n1_ n2_; (try clear hb); (try clear hb2); (try clear hk); (try clear hi)))
                             go_ret
                             exact ⟨qns6_, qns3_⟩
                            ·
                             rw [if_neg c97] at H
                             exact absurd H (by simp)
                           ·
                            rw [if_neg c95] at H
                            exact absurd H (by simp)
                          ·
                           rw [if_neg c93] at H
                           exact absurd H (by simp)
                         ·
                          rw [if_neg c92] at H
                          exact absurd H (by simp)
                        ·
                         rw [if_neg c91] at H
                         have c91b0 : (t576 == 0) = false := beq_eq_false_iff_ne.mpr c91
                         have c91b1 : (t576 != 0) = true := bne_iff_ne.mpr c91
                         obtain rfl := Option.some.inj H
                         have tk120 : True := trivial; have tk121 : True := trivial; have tk122 : True := trivial; have tk123 : True := trivial; have tk124 : True := trivial
                         go_wp2_with (first | (have ztk120 := tk120; clear tk120 ztk120; go_at_call 15; (with_reducible refine (milllaw3_written.calls k1 a1 0 t566 _ A40.out).mono ?_); rintro e w115 ⟨rfl, hb⟩; have n0_ := Aside0.mk (blk_below (g := gb559) (o := .cells #[.int .u8 t554, .bool t555, .string t556, .int .i64 t557, .int .i64 t558] 29 (0, 0)) qns4_ hb); have n1_ := Aside0.mk (blk_below (g := gb565) (o := .cells #[.int .u8 t560, .bool t561, .string t562, .int .i64 t563, .int .i64 t564] 29 (0, 0)) qns11_ hb); have n2_ := Aside0.mk (below_step qns3_ hb); clear BK559; clear BK565; clear HB; have BK559 := n0_; have BK565 := n1_; have HB := n2_; clear n0_ n1_ n2_; (try clear hb); (try clear hb2); (try clear hk); (try clear hi)) | (have ztk121 := tk121; clear tk121 ztk121; go_at_call 27; (with_reducible refine (numeral_Compare.calls k1 32 ((t552 ++ (⟨#[69, 43]⟩ : ByteArray)) ++ t566) x10_1 t567 _ ?side1 A42.out).mono ?_); (case side1 => exact GOK.below HGL.out qns3_); rintro e w116 ⟨rfl, hb⟩; have n0_ := Aside0.mk (blk_below (g := gb559) (o := .cells #[.int .u8 t554, .bool t555, .string t556, .int .i64 t557, .int .i64 t558] 29 (0, 0)) qns4_ hb); have n1_ := Aside0.mk (blk_below (g := gb565) (o := .cells #[.int .u8 t560, .bool t561, .string t562, .int .i64 t563, .int .i64 t564] 29 (0, 0)) qns11_ hb); have n2_ := Aside0.mk (below_step qns3_ hb); clear BK559; clear BK565; clear HB; have BK559 := n0_; have BK565 := n1_; have HB := n2_; clear n0_ n1_ n2_; (try clear hb); (try clear hb2); (try clear hk); (try clear hi)) | (have ztk122 := tk122; clear tk122 ztk122; (with_reducible refine gate_callee (f := 15) rfl ?_); refine goesL_ (some 94) rfl rfl Tryd.func15 (by kernel_rfl) rfl #[.int .i64 a1, .int .i64 0] rfl qns0_ ?_; (with_reducible refine (milllaw3_written.calls k1 a1 0 t574 _ A86.out).mono ?_); rintro e w117 ⟨rfl, hb⟩; refine ⟨_, rfl, ?_⟩; have n0_ := Aside0.mk (blk_below (g := gb559) (o := .cells #[.int .u8 t554, .bool t555, .string t556, .int .i64 t557, .int .i64 t558] 29 (0, 0)) qns4_ hb); have n1_ := Aside0.mk (blk_below (g := gb565) (o := .cells #[.int .u8 t560, .bool t561, .string t562, .int .i64 t563, .int .i64 t564] 29 (0, 0)) qns11_ hb); have n2_ := Aside0.mk (below_step qns3_ hb); clear BK559; clear BK565; clear HB; have BK559 := n0_; have BK565 := n1_; have HB := n2_; clear n0_ n1_ n2_; (try clear hb); (try clear hb2); (try clear hk); (try clear hi)) | (have ztk123 := tk123; clear tk123 ztk123; (with_reducible refine gate_callee (f := 15) rfl ?_); refine goesL_ (some 101) rfl rfl Tryd.func15 (by kernel_rfl) rfl #[.int .i64 (wrap64 (a1 + a2)), .int .i64 0] rfl qns0_ ?_; (with_reducible refine (milllaw3_written.calls k1 (wrap64 (a1 + a2)) 0 t575 _ A88.out).mono ?_); rintro e w118 ⟨rfl, hb⟩; refine ⟨_, rfl, ?_⟩; have n0_ := Aside0.mk (blk_below (g := gb559) (o := .cells #[.int .u8 t554, .bool t555, .string t556, .int .i64 t557, .int .i64 t558] 29 (0, 0)) qns4_ hb); have n1_ := Aside0.mk (blk_below (g := gb565) (o := .cells #[.int .u8 t560, .bool t561, .string t562, .int .i64 t563, .int .i64 t564] 29 (0, 0)) qns11_ hb); have n2_ := Aside0.mk (below_step qns3_ hb); clear BK559; clear BK565; clear HB; have BK559 := n0_; have BK565 := n1_; have HB := n2_; clear n0_ n1_ n2_; (try clear hb); (try clear hb2); (try clear hk); (try clear hi)) | (have ztk124 := tk124; clear tk124 ztk124; (with_reducible refine gate_callee (f := 27) rfl ?_); refine goesL_ (some 103) rfl rfl Tryd.func27 (by kernel_rfl) rfl #[.int .u16 32, .string ((t552 ++ (⟨#[101]⟩ : ByteArray)) ++ t574), .string ((t552 ++ (⟨#[101]⟩ : ByteArray)) ++ t575)] rfl qns0_ ?_; (with_reducible refine (numeral_Compare.calls k1 32 ((t552 ++ (⟨#[101]⟩ : ByteArray)) ++ t574) ((t552 ++ (⟨#[101]⟩ : ByteArray)) ++ t575) t576 _ ?side1 A90.out).mono ?_); (case side1 => exact GOK.below HGL.out qns3_); rintro e w119 ⟨rfl, hb⟩; refine ⟨_, rfl, ?_⟩; have n0_ := Aside0.mk (blk_below (g := gb559) (o := .cells #[.int .u8 t554, .bool t555, .string t556, .int .i64 t557, .int .i64 t558] 29 (0, 0)) qns4_ hb); have n1_ := Aside0.mk (blk_below (g := gb565) (o := .cells #[.int .u8 t560, .bool t561, .string t562, .int .i64 t563, .int .i64 t564] 29 (0, 0)) qns11_ hb); have n2_ := Aside0.mk (below_step qns3_ hb); clear BK559; clear BK565; clear HB; have BK559 := n0_; have BK565 := n1_; have HB := n2_; clear n0_ n1_ n2_; (try clear hb); (try clear hb2); (try clear hk); (try clear hi)))
                         go_ret
                         exact ⟨qns6_, qns3_⟩
                       ·
                        rw [if_neg c89] at H
                        exact absurd H (by simp)
                      ·
                       rw [if_neg c87] at H
                       exact absurd H (by simp)
                     ·
                      rw [if_neg c85] at H
                      exact absurd H (by simp)
                   ·
                    rw [if_neg c43] at H
                    have c43b0 : (t567 == 0) = false := beq_eq_false_iff_ne.mpr c43
                    have c43b1 : (t567 != 0) = true := bne_iff_ne.mpr c43
                    obtain rfl := Option.some.inj H
                    have tk127 : True := trivial; have tk128 : True := trivial
                    go_wp2_with (first | (have ztk127 := tk127; clear tk127 ztk127; go_at_call 15; (with_reducible refine (milllaw3_written.calls k1 a1 0 t566 _ A40.out).mono ?_); rintro e w125 ⟨rfl, hb⟩; have n0_ := Aside0.mk (blk_below (g := gb559) (o := .cells #[.int .u8 t554, .bool t555, .string t556, .int .i64 t557, .int .i64 t558] 29 (0, 0)) qns4_ hb); have n1_ := Aside0.mk (blk_below (g := gb565) (o := .cells #[.int .u8 t560, .bool t561, .string t562, .int .i64 t563, .int .i64 t564] 29 (0, 0)) qns11_ hb); have n2_ := Aside0.mk (below_step qns3_ hb); clear BK559; clear BK565; clear HB; have BK559 := n0_; have BK565 := n1_; have HB := n2_; clear n0_ n1_ n2_; (try clear hb); (try clear hb2); (try clear hk); (try clear hi)) | (have ztk128 := tk128; clear tk128 ztk128; go_at_call 27; (with_reducible refine (numeral_Compare.calls k1 32 ((t552 ++ (⟨#[69, 43]⟩ : ByteArray)) ++ t566) x10_1 t567 _ ?side1 A42.out).mono ?_); (case side1 => exact GOK.below HGL.out qns3_); rintro e w126 ⟨rfl, hb⟩; have n0_ := Aside0.mk (blk_below (g := gb559) (o := .cells #[.int .u8 t554, .bool t555, .string t556, .int .i64 t557, .int .i64 t558] 29 (0, 0)) qns4_ hb); have n1_ := Aside0.mk (blk_below (g := gb565) (o := .cells #[.int .u8 t560, .bool t561, .string t562, .int .i64 t563, .int .i64 t564] 29 (0, 0)) qns11_ hb); have n2_ := Aside0.mk (below_step qns3_ hb); clear BK559; clear BK565; clear HB; have BK559 := n0_; have BK565 := n1_; have HB := n2_; clear n0_ n1_ n2_; (try clear hb); (try clear hb2); (try clear hk); (try clear hi)))
                    go_ret
                    exact ⟨qns6_, qns3_⟩
                  ·
                   rw [if_neg c41] at H
                   exact absurd H (by simp)
                 ·
                  rw [if_neg c39] at H
                  exact absurd H (by simp)
                ·
                 rw [if_neg c38] at H
                 have c38b0 : decide (0 ≤ a1) = false := decide_eq_false c38
                 clear c38
                 by_cases c129 : a2 > 0
                 ·
                  rw [if_pos c129] at H
                  have c129b0 : decide (0 < a2) = true := decide_eq_true c129
                  clear c129
                  by_cases c130 : t552.size + 1 ≤ 9223372036854775807
                  ·
                   rw [if_pos c130] at H
                   have c130b0 := eq_true c130
                   have c130b1 : decide (t552.size + 1 ≤ 9223372036854775807) = true := decide_eq_true c130
                   try have c130b2 : (9223372036854775807 < t552.size + 1) = False := eq_false (Nat.not_lt.2 c130)
                   replace H := Option.bind_eq_some_iff.mp H
                   obtain ⟨t580, A1310, H⟩ := H
                   replace H : (if (t552.size + 1) + t580.size ≤ 9223372036854775807 then ((milllaw3_written.f k1 (wrap64 (a1 + a2)) 0).bind fun t581 => (if (t552.size + 1) + t581.size ≤ 9223372036854775807 then ((numeral_Compare.f k1 32 ((t552 ++ (⟨#[101]⟩ : ByteArray)) ++ t580) ((t552 ++ (⟨#[101]⟩ : ByteArray)) ++ t581)).bind fun t582 => (if t582 = (-1) then (if 1 + t552.size ≤ 9223372036854775807 then (if (1 + t552.size) + 1 ≤ 9223372036854775807 then ((milllaw3_written.f k1 a1 0).bind fun t583 => (if (1 + t552.size + 1) + t583.size ≤ 9223372036854775807 then ((milllaw3_written.f k1 (wrap64 (a1 + a2)) 0).bind fun t584 => (if (1 + t552.size + 1) + t584.size ≤ 9223372036854775807 then ((numeral_Compare.f k1 32 ((((⟨#[45]⟩ : ByteArray) ++ t552) ++ (⟨#[101]⟩ : ByteArray)) ++ t583) ((((⟨#[45]⟩ : ByteArray) ++ t552) ++ (⟨#[101]⟩ : ByteArray)) ++ t584)).bind fun t585 => (some (t585 == (-(-1))))) else (none))) else (none))) else (none)) else (none)) else (some false))) else (none))) else (none)) = some r := H
                   have A131 := Aside0.mk A1310
                   clear A1310
                   by_cases c132 : (t552.size + 1) + t580.size ≤ 9223372036854775807
                   ·
                    rw [if_pos c132] at H
                    have c132b0 := eq_true c132
                    have c132b1 : decide ((t552.size + 1) + t580.size ≤ 9223372036854775807) = true := decide_eq_true c132
                    try have c132b2 : (9223372036854775807 < (t552.size + 1) + t580.size) = False := eq_false (Nat.not_lt.2 c132)
                    replace H := Option.bind_eq_some_iff.mp H
                    obtain ⟨t581, A1330, H⟩ := H
                    replace H : (if (t552.size + 1) + t581.size ≤ 9223372036854775807 then ((numeral_Compare.f k1 32 ((t552 ++ (⟨#[101]⟩ : ByteArray)) ++ t580) ((t552 ++ (⟨#[101]⟩ : ByteArray)) ++ t581)).bind fun t582 => (if t582 = (-1) then (if 1 + t552.size ≤ 9223372036854775807 then (if (1 + t552.size) + 1 ≤ 9223372036854775807 then ((milllaw3_written.f k1 a1 0).bind fun t583 => (if (1 + t552.size + 1) + t583.size ≤ 9223372036854775807 then ((milllaw3_written.f k1 (wrap64 (a1 + a2)) 0).bind fun t584 => (if (1 + t552.size + 1) + t584.size ≤ 9223372036854775807 then ((numeral_Compare.f k1 32 ((((⟨#[45]⟩ : ByteArray) ++ t552) ++ (⟨#[101]⟩ : ByteArray)) ++ t583) ((((⟨#[45]⟩ : ByteArray) ++ t552) ++ (⟨#[101]⟩ : ByteArray)) ++ t584)).bind fun t585 => (some (t585 == (-(-1))))) else (none))) else (none))) else (none)) else (none)) else (some false))) else (none)) = some r := H
                    have A133 := Aside0.mk A1330
                    clear A1330
                    by_cases c134 : (t552.size + 1) + t581.size ≤ 9223372036854775807
                    ·
                     rw [if_pos c134] at H
                     have c134b0 := eq_true c134
                     have c134b1 : decide ((t552.size + 1) + t581.size ≤ 9223372036854775807) = true := decide_eq_true c134
                     try have c134b2 : (9223372036854775807 < (t552.size + 1) + t581.size) = False := eq_false (Nat.not_lt.2 c134)
                     replace H := Option.bind_eq_some_iff.mp H
                     obtain ⟨t582, A1350, H⟩ := H
                     replace H : (if t582 = (-1) then (if 1 + t552.size ≤ 9223372036854775807 then (if (1 + t552.size) + 1 ≤ 9223372036854775807 then ((milllaw3_written.f k1 a1 0).bind fun t583 => (if (1 + t552.size + 1) + t583.size ≤ 9223372036854775807 then ((milllaw3_written.f k1 (wrap64 (a1 + a2)) 0).bind fun t584 => (if (1 + t552.size + 1) + t584.size ≤ 9223372036854775807 then ((numeral_Compare.f k1 32 ((((⟨#[45]⟩ : ByteArray) ++ t552) ++ (⟨#[101]⟩ : ByteArray)) ++ t583) ((((⟨#[45]⟩ : ByteArray) ++ t552) ++ (⟨#[101]⟩ : ByteArray)) ++ t584)).bind fun t585 => (some (t585 == (-(-1))))) else (none))) else (none))) else (none)) else (none)) else (some false)) = some r := H
                     have A135 := Aside0.mk A1350
                     clear A1350
                     by_cases c136 : t582 = (-1)
                     ·
                      rw [if_pos c136] at H
                      have c136b0 : (t582 == (-1)) = true := beq_iff_eq.mpr c136
                      have c136b1 : (t582 != (-1)) = false := bne_eq_false_iff_eq.mpr c136
                      clear c136
                      by_cases c137 : 1 + t552.size ≤ 9223372036854775807
                      ·
                       rw [if_pos c137] at H
                       have c137b0 := eq_true c137
                       have c137b1 : decide (1 + t552.size ≤ 9223372036854775807) = true := decide_eq_true c137
                       try have c137b2 : (9223372036854775807 < 1 + t552.size) = False := eq_false (Nat.not_lt.2 c137)
                       by_cases c138 : (1 + t552.size) + 1 ≤ 9223372036854775807
                       ·
                        rw [if_pos c138] at H
                        have c138b0 := eq_true c138
                        have c138b1 : decide ((1 + t552.size) + 1 ≤ 9223372036854775807) = true := decide_eq_true c138
                        try have c138b2 : (9223372036854775807 < (1 + t552.size) + 1) = False := eq_false (Nat.not_lt.2 c138)
                        replace H := Option.bind_eq_some_iff.mp H
                        obtain ⟨t583, A1390, H⟩ := H
                        replace H : (if (1 + t552.size + 1) + t583.size ≤ 9223372036854775807 then ((milllaw3_written.f k1 (wrap64 (a1 + a2)) 0).bind fun t584 => (if (1 + t552.size + 1) + t584.size ≤ 9223372036854775807 then ((numeral_Compare.f k1 32 ((((⟨#[45]⟩ : ByteArray) ++ t552) ++ (⟨#[101]⟩ : ByteArray)) ++ t583) ((((⟨#[45]⟩ : ByteArray) ++ t552) ++ (⟨#[101]⟩ : ByteArray)) ++ t584)).bind fun t585 => (some (t585 == (-(-1))))) else (none))) else (none)) = some r := H
                        have A139 := Aside0.mk A1390
                        clear A1390
                        by_cases c140 : (1 + t552.size + 1) + t583.size ≤ 9223372036854775807
                        ·
                         rw [if_pos c140] at H
                         have c140b0 := eq_true c140
                         have c140b1 : decide ((1 + t552.size + 1) + t583.size ≤ 9223372036854775807) = true := decide_eq_true c140
                         try have c140b2 : (9223372036854775807 < (1 + t552.size + 1) + t583.size) = False := eq_false (Nat.not_lt.2 c140)
                         replace H := Option.bind_eq_some_iff.mp H
                         obtain ⟨t584, A1410, H⟩ := H
                         replace H : (if (1 + t552.size + 1) + t584.size ≤ 9223372036854775807 then ((numeral_Compare.f k1 32 ((((⟨#[45]⟩ : ByteArray) ++ t552) ++ (⟨#[101]⟩ : ByteArray)) ++ t583) ((((⟨#[45]⟩ : ByteArray) ++ t552) ++ (⟨#[101]⟩ : ByteArray)) ++ t584)).bind fun t585 => (some (t585 == (-(-1))))) else (none)) = some r := H
                         have A141 := Aside0.mk A1410
                         clear A1410
                         by_cases c142 : (1 + t552.size + 1) + t584.size ≤ 9223372036854775807
                         ·
                          rw [if_pos c142] at H
                          have c142b0 := eq_true c142
                          have c142b1 : decide ((1 + t552.size + 1) + t584.size ≤ 9223372036854775807) = true := decide_eq_true c142
                          try have c142b2 : (9223372036854775807 < (1 + t552.size + 1) + t584.size) = False := eq_false (Nat.not_lt.2 c142)
                          replace H := Option.bind_eq_some_iff.mp H
                          obtain ⟨t585, A1430, H⟩ := H
                          replace H : (some (t585 == (-(-1)))) = some r := H
                          have A143 := Aside0.mk A1430
                          clear A1430
                          obtain rfl := Option.some.inj H
                          have tk150 : True := trivial; have tk151 : True := trivial; have tk152 : True := trivial; have tk153 : True := trivial; have tk154 : True := trivial; have tk155 : True := trivial
                          go_wp2_with (first | (have ztk150 := tk150; clear tk150 ztk150; (with_reducible refine gate_callee (f := 15) rfl ?_); refine goesL_ (some 94) rfl rfl Tryd.func15 (by kernel_rfl) rfl #[.int .i64 a1, .int .i64 0] rfl qns0_ ?_; (with_reducible refine (milllaw3_written.calls k1 a1 0 t580 _ A131.out).mono ?_); rintro e w144 ⟨rfl, hb⟩; refine ⟨_, rfl, ?_⟩; have n0_ := Aside0.mk (blk_below (g := gb559) (o := .cells #[.int .u8 t554, .bool t555, .string t556, .int .i64 t557, .int .i64 t558] 29 (0, 0)) qns4_ hb); have n1_ := Aside0.mk (blk_below (g := gb565) (o := .cells #[.int .u8 t560, .bool t561, .string t562, .int .i64 t563, .int .i64 t564] 29 (0, 0)) qns11_ hb); have n2_ := Aside0.mk (below_step qns3_ hb); clear BK559; clear BK565; clear HB; have BK559 := n0_; have BK565 := n1_; have HB := n2_; clear n0_ n1_ n2_; (try clear hb); (try clear hb2); (try clear hk); (try clear hi)) | (have ztk151 := tk151; clear tk151 ztk151; (with_reducible refine gate_callee (f := 15) rfl ?_); refine goesL_ (some 101) rfl rfl Tryd.func15 (by kernel_rfl) rfl #[.int .i64 (wrap64 (a1 + a2)), .int .i64 0] rfl qns0_ ?_; (with_reducible refine (milllaw3_written.calls k1 (wrap64 (a1 + a2)) 0 t581 _ A133.out).mono ?_); rintro e w145 ⟨rfl, hb⟩; refine ⟨_, rfl, ?_⟩; have n0_ := Aside0.mk (blk_below (g := gb559) (o := .cells #[.int .u8 t554, .bool t555, .string t556, .int .i64 t557, .int .i64 t558] 29 (0, 0)) qns4_ hb); have n1_ := Aside0.mk (blk_below (g := gb565) (o := .cells #[.int .u8 t560, .bool t561, .string t562, .int .i64 t563, .int .i64 t564] 29 (0, 0)) qns11_ hb); have n2_ := Aside0.mk (below_step qns3_ hb); clear BK559; clear BK565; clear HB; have BK559 := n0_; have BK565 := n1_; have HB := n2_; clear n0_ n1_ n2_; (try clear hb); (try clear hb2); (try clear hk); (try clear hi)) | (have ztk152 := tk152; clear tk152 ztk152; (with_reducible refine gate_callee (f := 27) rfl ?_); refine goesL_ (some 103) rfl rfl Tryd.func27 (by kernel_rfl) rfl #[.int .u16 32, .string ((t552 ++ (⟨#[101]⟩ : ByteArray)) ++ t580), .string ((t552 ++ (⟨#[101]⟩ : ByteArray)) ++ t581)] rfl qns0_ ?_; (with_reducible refine (numeral_Compare.calls k1 32 ((t552 ++ (⟨#[101]⟩ : ByteArray)) ++ t580) ((t552 ++ (⟨#[101]⟩ : ByteArray)) ++ t581) t582 _ ?side1 A135.out).mono ?_); (case side1 => exact GOK.below HGL.out qns3_); rintro e w146 ⟨rfl, hb⟩; refine ⟨_, rfl, ?_⟩; have n0_ := Aside0.mk (blk_below (g := gb559) (o := .cells #[.int .u8 t554, .bool t555, .string t556, .int .i64 t557, .int .i64 t558] 29 (0, 0)) qns4_ hb); have n1_ := Aside0.mk (blk_below (g := gb565) (o := .cells #[.int .u8 t560, .bool t561, .string t562, .int .i64 t563, .int .i64 t564] 29 (0, 0)) qns11_ hb); have n2_ := Aside0.mk (below_step qns3_ hb); clear BK559; clear BK565; clear HB; have BK559 := n0_; have BK565 := n1_; have HB := n2_; clear n0_ n1_ n2_; (try clear hb); (try clear hb2); (try clear hk); (try clear hi)) | (have ztk153 := tk153; clear tk153 ztk153; go_at_call 15; (with_reducible refine (milllaw3_written.calls k1 a1 0 t583 _ A139.out).mono ?_); rintro e w147 ⟨rfl, hb⟩; have n0_ := Aside0.mk (blk_below (g := gb559) (o := .cells #[.int .u8 t554, .bool t555, .string t556, .int .i64 t557, .int .i64 t558] 29 (0, 0)) qns4_ hb); have n1_ := Aside0.mk (blk_below (g := gb565) (o := .cells #[.int .u8 t560, .bool t561, .string t562, .int .i64 t563, .int .i64 t564] 29 (0, 0)) qns11_ hb); have n2_ := Aside0.mk (below_step qns3_ hb); clear BK559; clear BK565; clear HB; have BK559 := n0_; have BK565 := n1_; have HB := n2_; clear n0_ n1_ n2_; (try clear hb); (try clear hb2); (try clear hk); (try clear hi)) | (have ztk154 := tk154; clear tk154 ztk154; go_at_call 15; (with_reducible refine (milllaw3_written.calls k1 (wrap64 (a1 + a2)) 0 t584 _ A141.out).mono ?_); rintro e w148 ⟨rfl, hb⟩; have n0_ := Aside0.mk (blk_below (g := gb559) (o := .cells #[.int .u8 t554, .bool t555, .string t556, .int .i64 t557, .int .i64 t558] 29 (0, 0)) qns4_ hb); have n1_ := Aside0.mk (blk_below (g := gb565) (o := .cells #[.int .u8 t560, .bool t561, .string t562, .int .i64 t563, .int .i64 t564] 29 (0, 0)) qns11_ hb); have n2_ := Aside0.mk (below_step qns3_ hb); clear BK559; clear BK565; clear HB; have BK559 := n0_; have BK565 := n1_; have HB := n2_; clear n0_ n1_ n2_; (try clear hb); (try clear hb2); (try clear hk); (try clear hi)) | (have ztk155 := tk155; clear tk155 ztk155; go_at_call 27; (with_reducible refine (numeral_Compare.calls k1 32 ((((⟨#[45]⟩ : ByteArray) ++ t552) ++ (⟨#[101]⟩ : ByteArray)) ++ t583) ((((⟨#[45]⟩ : ByteArray) ++ t552) ++ (⟨#[101]⟩ : ByteArray)) ++ t584) t585 _ ?side1 A143.out).mono ?_); (case side1 => exact GOK.below HGL.out qns3_); rintro e w149 ⟨rfl, hb⟩; have n0_ := Aside0.mk (blk_below (g := gb559) (o := .cells #[.int .u8 t554, .bool t555, .string t556, .int .i64 t557, .int .i64 t558] 29 (0, 0)) qns4_ hb); have n1_ := Aside0.mk (blk_below (g := gb565) (o := .cells #[.int .u8 t560, .bool t561, .string t562, .int .i64 t563, .int .i64 t564] 29 (0, 0)) qns11_ hb); have n2_ := Aside0.mk (below_step qns3_ hb); clear BK559; clear BK565; clear HB; have BK559 := n0_; have BK565 := n1_; have HB := n2_; clear n0_ n1_ n2_; (try clear hb); (try clear hb2); (try clear hk); (try clear hi)))
                          go_ret
                          exact ⟨qns6_, qns3_⟩
                         ·
                          rw [if_neg c142] at H
                          exact absurd H (by simp)
                        ·
                         rw [if_neg c140] at H
                         exact absurd H (by simp)
                       ·
                        rw [if_neg c138] at H
                        exact absurd H (by simp)
                      ·
                       rw [if_neg c137] at H
                       exact absurd H (by simp)
                     ·
                      rw [if_neg c136] at H
                      have c136b0 : (t582 == (-1)) = false := beq_eq_false_iff_ne.mpr c136
                      have c136b1 : (t582 != (-1)) = true := bne_iff_ne.mpr c136
                      obtain rfl := Option.some.inj H
                      have tk159 : True := trivial; have tk160 : True := trivial; have tk161 : True := trivial
                      go_wp2_with (first | (have ztk159 := tk159; clear tk159 ztk159; (with_reducible refine gate_callee (f := 15) rfl ?_); refine goesL_ (some 94) rfl rfl Tryd.func15 (by kernel_rfl) rfl #[.int .i64 a1, .int .i64 0] rfl qns0_ ?_; (with_reducible refine (milllaw3_written.calls k1 a1 0 t580 _ A131.out).mono ?_); rintro e w156 ⟨rfl, hb⟩; refine ⟨_, rfl, ?_⟩; have n0_ := Aside0.mk (blk_below (g := gb559) (o := .cells #[.int .u8 t554, .bool t555, .string t556, .int .i64 t557, .int .i64 t558] 29 (0, 0)) qns4_ hb); have n1_ := Aside0.mk (blk_below (g := gb565) (o := .cells #[.int .u8 t560, .bool t561, .string t562, .int .i64 t563, .int .i64 t564] 29 (0, 0)) qns11_ hb); have n2_ := Aside0.mk (below_step qns3_ hb); clear BK559; clear BK565; clear HB; have BK559 := n0_; have BK565 := n1_; have HB := n2_; clear n0_ n1_ n2_; (try clear hb); (try clear hb2); (try clear hk); (try clear hi)) | (have ztk160 := tk160; clear tk160 ztk160; (with_reducible refine gate_callee (f := 15) rfl ?_); refine goesL_ (some 101) rfl rfl Tryd.func15 (by kernel_rfl) rfl #[.int .i64 (wrap64 (a1 + a2)), .int .i64 0] rfl qns0_ ?_; (with_reducible refine (milllaw3_written.calls k1 (wrap64 (a1 + a2)) 0 t581 _ A133.out).mono ?_); rintro e w157 ⟨rfl, hb⟩; refine ⟨_, rfl, ?_⟩; have n0_ := Aside0.mk (blk_below (g := gb559) (o := .cells #[.int .u8 t554, .bool t555, .string t556, .int .i64 t557, .int .i64 t558] 29 (0, 0)) qns4_ hb); have n1_ := Aside0.mk (blk_below (g := gb565) (o := .cells #[.int .u8 t560, .bool t561, .string t562, .int .i64 t563, .int .i64 t564] 29 (0, 0)) qns11_ hb); have n2_ := Aside0.mk (below_step qns3_ hb); clear BK559; clear BK565; clear HB; have BK559 := n0_; have BK565 := n1_; have HB := n2_; clear n0_ n1_ n2_; (try clear hb); (try clear hb2); (try clear hk); (try clear hi)) | (have ztk161 := tk161; clear tk161 ztk161; (with_reducible refine gate_callee (f := 27) rfl ?_); refine goesL_ (some 103) rfl rfl Tryd.func27 (by kernel_rfl) rfl #[.int .u16 32, .string ((t552 ++ (⟨#[101]⟩ : ByteArray)) ++ t580), .string ((t552 ++ (⟨#[101]⟩ : ByteArray)) ++ t581)] rfl qns0_ ?_; (with_reducible refine (numeral_Compare.calls k1 32 ((t552 ++ (⟨#[101]⟩ : ByteArray)) ++ t580) ((t552 ++ (⟨#[101]⟩ : ByteArray)) ++ t581) t582 _ ?side1 A135.out).mono ?_); (case side1 => exact GOK.below HGL.out qns3_); rintro e w158 ⟨rfl, hb⟩; refine ⟨_, rfl, ?_⟩; have n0_ := Aside0.mk (blk_below (g := gb559) (o := .cells #[.int .u8 t554, .bool t555, .string t556, .int .i64 t557, .int .i64 t558] 29 (0, 0)) qns4_ hb); have n1_ := Aside0.mk (blk_below (g := gb565) (o := .cells #[.int .u8 t560, .bool t561, .string t562, .int .i64 t563, .int .i64 t564] 29 (0, 0)) qns11_ hb); have n2_ := Aside0.mk (below_step qns3_ hb); clear BK559; clear BK565; clear HB; have BK559 := n0_; have BK565 := n1_; have HB := n2_; clear n0_ n1_ n2_; (try clear hb); (try clear hb2); (try clear hk); (try clear hi)))
                      go_ret
                      exact ⟨qns6_, qns3_⟩
                    ·
                     rw [if_neg c134] at H
                     exact absurd H (by simp)
                   ·
                    rw [if_neg c132] at H
                    exact absurd H (by simp)
                  ·
                   rw [if_neg c130] at H
                   exact absurd H (by simp)
                 ·
                  rw [if_neg c129] at H
                  have c129b0 : decide (0 < a2) = false := decide_eq_false c129
                  clear c129
                  by_cases c162 : t552.size + 1 ≤ 9223372036854775807
                  ·
                   rw [if_pos c162] at H
                   have c162b0 := eq_true c162
                   have c162b1 : decide (t552.size + 1 ≤ 9223372036854775807) = true := decide_eq_true c162
                   try have c162b2 : (9223372036854775807 < t552.size + 1) = False := eq_false (Nat.not_lt.2 c162)
                   replace H := Option.bind_eq_some_iff.mp H
                   obtain ⟨t586, A1630, H⟩ := H
                   replace H : (if (t552.size + 1) + t586.size ≤ 9223372036854775807 then ((milllaw3_written.f k1 (wrap64 (a1 + a2)) 0).bind fun t587 => (if (t552.size + 1) + t587.size ≤ 9223372036854775807 then ((numeral_Compare.f k1 32 ((t552 ++ (⟨#[101]⟩ : ByteArray)) ++ t586) ((t552 ++ (⟨#[101]⟩ : ByteArray)) ++ t587)).bind fun t588 => (if t588 = 0 then (if 1 + t552.size ≤ 9223372036854775807 then (if (1 + t552.size) + 1 ≤ 9223372036854775807 then ((milllaw3_written.f k1 a1 0).bind fun t589 => (if (1 + t552.size + 1) + t589.size ≤ 9223372036854775807 then ((milllaw3_written.f k1 (wrap64 (a1 + a2)) 0).bind fun t590 => (if (1 + t552.size + 1) + t590.size ≤ 9223372036854775807 then ((numeral_Compare.f k1 32 ((((⟨#[45]⟩ : ByteArray) ++ t552) ++ (⟨#[101]⟩ : ByteArray)) ++ t589) ((((⟨#[45]⟩ : ByteArray) ++ t552) ++ (⟨#[101]⟩ : ByteArray)) ++ t590)).bind fun t591 => (some (t591 == (-0)))) else (none))) else (none))) else (none)) else (none)) else (some false))) else (none))) else (none)) = some r := H
                   have A163 := Aside0.mk A1630
                   clear A1630
                   by_cases c164 : (t552.size + 1) + t586.size ≤ 9223372036854775807
                   ·
                    rw [if_pos c164] at H
                    have c164b0 := eq_true c164
                    have c164b1 : decide ((t552.size + 1) + t586.size ≤ 9223372036854775807) = true := decide_eq_true c164
                    try have c164b2 : (9223372036854775807 < (t552.size + 1) + t586.size) = False := eq_false (Nat.not_lt.2 c164)
                    replace H := Option.bind_eq_some_iff.mp H
                    obtain ⟨t587, A1650, H⟩ := H
                    replace H : (if (t552.size + 1) + t587.size ≤ 9223372036854775807 then ((numeral_Compare.f k1 32 ((t552 ++ (⟨#[101]⟩ : ByteArray)) ++ t586) ((t552 ++ (⟨#[101]⟩ : ByteArray)) ++ t587)).bind fun t588 => (if t588 = 0 then (if 1 + t552.size ≤ 9223372036854775807 then (if (1 + t552.size) + 1 ≤ 9223372036854775807 then ((milllaw3_written.f k1 a1 0).bind fun t589 => (if (1 + t552.size + 1) + t589.size ≤ 9223372036854775807 then ((milllaw3_written.f k1 (wrap64 (a1 + a2)) 0).bind fun t590 => (if (1 + t552.size + 1) + t590.size ≤ 9223372036854775807 then ((numeral_Compare.f k1 32 ((((⟨#[45]⟩ : ByteArray) ++ t552) ++ (⟨#[101]⟩ : ByteArray)) ++ t589) ((((⟨#[45]⟩ : ByteArray) ++ t552) ++ (⟨#[101]⟩ : ByteArray)) ++ t590)).bind fun t591 => (some (t591 == (-0)))) else (none))) else (none))) else (none)) else (none)) else (some false))) else (none)) = some r := H
                    have A165 := Aside0.mk A1650
                    clear A1650
                    by_cases c166 : (t552.size + 1) + t587.size ≤ 9223372036854775807
                    ·
                     rw [if_pos c166] at H
                     have c166b0 := eq_true c166
                     have c166b1 : decide ((t552.size + 1) + t587.size ≤ 9223372036854775807) = true := decide_eq_true c166
                     try have c166b2 : (9223372036854775807 < (t552.size + 1) + t587.size) = False := eq_false (Nat.not_lt.2 c166)
                     replace H := Option.bind_eq_some_iff.mp H
                     obtain ⟨t588, A1670, H⟩ := H
                     replace H : (if t588 = 0 then (if 1 + t552.size ≤ 9223372036854775807 then (if (1 + t552.size) + 1 ≤ 9223372036854775807 then ((milllaw3_written.f k1 a1 0).bind fun t589 => (if (1 + t552.size + 1) + t589.size ≤ 9223372036854775807 then ((milllaw3_written.f k1 (wrap64 (a1 + a2)) 0).bind fun t590 => (if (1 + t552.size + 1) + t590.size ≤ 9223372036854775807 then ((numeral_Compare.f k1 32 ((((⟨#[45]⟩ : ByteArray) ++ t552) ++ (⟨#[101]⟩ : ByteArray)) ++ t589) ((((⟨#[45]⟩ : ByteArray) ++ t552) ++ (⟨#[101]⟩ : ByteArray)) ++ t590)).bind fun t591 => (some (t591 == (-0)))) else (none))) else (none))) else (none)) else (none)) else (some false)) = some r := H
                     have A167 := Aside0.mk A1670
                     clear A1670
                     by_cases c168 : t588 = 0
                     ·
                      rw [if_pos c168] at H
                      have c168b0 : (t588 == 0) = true := beq_iff_eq.mpr c168
                      have c168b1 : (t588 != 0) = false := bne_eq_false_iff_eq.mpr c168
                      clear c168
                      by_cases c169 : 1 + t552.size ≤ 9223372036854775807
                      ·
                       rw [if_pos c169] at H
                       have c169b0 := eq_true c169
                       have c169b1 : decide (1 + t552.size ≤ 9223372036854775807) = true := decide_eq_true c169
                       try have c169b2 : (9223372036854775807 < 1 + t552.size) = False := eq_false (Nat.not_lt.2 c169)
                       by_cases c170 : (1 + t552.size) + 1 ≤ 9223372036854775807
                       ·
                        rw [if_pos c170] at H
                        have c170b0 := eq_true c170
                        have c170b1 : decide ((1 + t552.size) + 1 ≤ 9223372036854775807) = true := decide_eq_true c170
                        try have c170b2 : (9223372036854775807 < (1 + t552.size) + 1) = False := eq_false (Nat.not_lt.2 c170)
                        replace H := Option.bind_eq_some_iff.mp H
                        obtain ⟨t589, A1710, H⟩ := H
                        replace H : (if (1 + t552.size + 1) + t589.size ≤ 9223372036854775807 then ((milllaw3_written.f k1 (wrap64 (a1 + a2)) 0).bind fun t590 => (if (1 + t552.size + 1) + t590.size ≤ 9223372036854775807 then ((numeral_Compare.f k1 32 ((((⟨#[45]⟩ : ByteArray) ++ t552) ++ (⟨#[101]⟩ : ByteArray)) ++ t589) ((((⟨#[45]⟩ : ByteArray) ++ t552) ++ (⟨#[101]⟩ : ByteArray)) ++ t590)).bind fun t591 => (some (t591 == (-0)))) else (none))) else (none)) = some r := H
                        have A171 := Aside0.mk A1710
                        clear A1710
                        by_cases c172 : (1 + t552.size + 1) + t589.size ≤ 9223372036854775807
                        ·
                         rw [if_pos c172] at H
                         have c172b0 := eq_true c172
                         have c172b1 : decide ((1 + t552.size + 1) + t589.size ≤ 9223372036854775807) = true := decide_eq_true c172
                         try have c172b2 : (9223372036854775807 < (1 + t552.size + 1) + t589.size) = False := eq_false (Nat.not_lt.2 c172)
                         replace H := Option.bind_eq_some_iff.mp H
                         obtain ⟨t590, A1730, H⟩ := H
                         replace H : (if (1 + t552.size + 1) + t590.size ≤ 9223372036854775807 then ((numeral_Compare.f k1 32 ((((⟨#[45]⟩ : ByteArray) ++ t552) ++ (⟨#[101]⟩ : ByteArray)) ++ t589) ((((⟨#[45]⟩ : ByteArray) ++ t552) ++ (⟨#[101]⟩ : ByteArray)) ++ t590)).bind fun t591 => (some (t591 == (-0)))) else (none)) = some r := H
                         have A173 := Aside0.mk A1730
                         clear A1730
                         by_cases c174 : (1 + t552.size + 1) + t590.size ≤ 9223372036854775807
                         ·
                          rw [if_pos c174] at H
                          have c174b0 := eq_true c174
                          have c174b1 : decide ((1 + t552.size + 1) + t590.size ≤ 9223372036854775807) = true := decide_eq_true c174
                          try have c174b2 : (9223372036854775807 < (1 + t552.size + 1) + t590.size) = False := eq_false (Nat.not_lt.2 c174)
                          replace H := Option.bind_eq_some_iff.mp H
                          obtain ⟨t591, A1750, H⟩ := H
                          replace H : (some (t591 == (-0))) = some r := H
                          have A175 := Aside0.mk A1750
                          clear A1750
                          obtain rfl := Option.some.inj H
                          have tk182 : True := trivial; have tk183 : True := trivial; have tk184 : True := trivial; have tk185 : True := trivial; have tk186 : True := trivial; have tk187 : True := trivial
                          go_wp2_with (first | (have ztk182 := tk182; clear tk182 ztk182; (with_reducible refine gate_callee (f := 15) rfl ?_); refine goesL_ (some 94) rfl rfl Tryd.func15 (by kernel_rfl) rfl #[.int .i64 a1, .int .i64 0] rfl qns0_ ?_; (with_reducible refine (milllaw3_written.calls k1 a1 0 t586 _ A163.out).mono ?_); rintro e w176 ⟨rfl, hb⟩; refine ⟨_, rfl, ?_⟩; have n0_ := Aside0.mk (blk_below (g := gb559) (o := .cells #[.int .u8 t554, .bool t555, .string t556, .int .i64 t557, .int .i64 t558] 29 (0, 0)) qns4_ hb); have n1_ := Aside0.mk (blk_below (g := gb565) (o := .cells #[.int .u8 t560, .bool t561, .string t562, .int .i64 t563, .int .i64 t564] 29 (0, 0)) qns11_ hb); have n2_ := Aside0.mk (below_step qns3_ hb); clear BK559; clear BK565; clear HB; have BK559 := n0_; have BK565 := n1_; have HB := n2_; clear n0_ n1_ n2_; (try clear hb); (try clear hb2); (try clear hk); (try clear hi)) | (have ztk183 := tk183; clear tk183 ztk183; (with_reducible refine gate_callee (f := 15) rfl ?_); refine goesL_ (some 101) rfl rfl Tryd.func15 (by kernel_rfl) rfl #[.int .i64 (wrap64 (a1 + a2)), .int .i64 0] rfl qns0_ ?_; (with_reducible refine (milllaw3_written.calls k1 (wrap64 (a1 + a2)) 0 t587 _ A165.out).mono ?_); rintro e w177 ⟨rfl, hb⟩; refine ⟨_, rfl, ?_⟩; have n0_ := Aside0.mk (blk_below (g := gb559) (o := .cells #[.int .u8 t554, .bool t555, .string t556, .int .i64 t557, .int .i64 t558] 29 (0, 0)) qns4_ hb); have n1_ := Aside0.mk (blk_below (g := gb565) (o := .cells #[.int .u8 t560, .bool t561, .string t562, .int .i64 t563, .int .i64 t564] 29 (0, 0)) qns11_ hb); have n2_ := Aside0.mk (below_step qns3_ hb); clear BK559; clear BK565; clear HB; have BK559 := n0_; have BK565 := n1_; have HB := n2_; clear n0_ n1_ n2_; (try clear hb); (try clear hb2); (try clear hk); (try clear hi)) | (have ztk184 := tk184; clear tk184 ztk184; (with_reducible refine gate_callee (f := 27) rfl ?_); refine goesL_ (some 103) rfl rfl Tryd.func27 (by kernel_rfl) rfl #[.int .u16 32, .string ((t552 ++ (⟨#[101]⟩ : ByteArray)) ++ t586), .string ((t552 ++ (⟨#[101]⟩ : ByteArray)) ++ t587)] rfl qns0_ ?_; (with_reducible refine (numeral_Compare.calls k1 32 ((t552 ++ (⟨#[101]⟩ : ByteArray)) ++ t586) ((t552 ++ (⟨#[101]⟩ : ByteArray)) ++ t587) t588 _ ?side1 A167.out).mono ?_); (case side1 => exact GOK.below HGL.out qns3_); rintro e w178 ⟨rfl, hb⟩; refine ⟨_, rfl, ?_⟩; have n0_ := Aside0.mk (blk_below (g := gb559) (o := .cells #[.int .u8 t554, .bool t555, .string t556, .int .i64 t557, .int .i64 t558] 29 (0, 0)) qns4_ hb); have n1_ := Aside0.mk (blk_below (g := gb565) (o := .cells #[.int .u8 t560, .bool t561, .string t562, .int .i64 t563, .int .i64 t564] 29 (0, 0)) qns11_ hb); have n2_ := Aside0.mk (below_step qns3_ hb); clear BK559; clear BK565; clear HB; have BK559 := n0_; have BK565 := n1_; have HB := n2_; clear n0_ n1_ n2_; (try clear hb); (try clear hb2); (try clear hk); (try clear hi)) | (have ztk185 := tk185; clear tk185 ztk185; go_at_call 15; (with_reducible refine (milllaw3_written.calls k1 a1 0 t589 _ A171.out).mono ?_); rintro e w179 ⟨rfl, hb⟩; have n0_ := Aside0.mk (blk_below (g := gb559) (o := .cells #[.int .u8 t554, .bool t555, .string t556, .int .i64 t557, .int .i64 t558] 29 (0, 0)) qns4_ hb); have n1_ := Aside0.mk (blk_below (g := gb565) (o := .cells #[.int .u8 t560, .bool t561, .string t562, .int .i64 t563, .int .i64 t564] 29 (0, 0)) qns11_ hb); have n2_ := Aside0.mk (below_step qns3_ hb); clear BK559; clear BK565; clear HB; have BK559 := n0_; have BK565 := n1_; have HB := n2_; clear n0_ n1_ n2_; (try clear hb); (try clear hb2); (try clear hk); (try clear hi)) | (have ztk186 := tk186; clear tk186 ztk186; go_at_call 15; (with_reducible refine (milllaw3_written.calls k1 (wrap64 (a1 + a2)) 0 t590 _ A173.out).mono ?_); rintro e w180 ⟨rfl, hb⟩; have n0_ := Aside0.mk (blk_below (g := gb559) (o := .cells #[.int .u8 t554, .bool t555, .string t556, .int .i64 t557, .int .i64 t558] 29 (0, 0)) qns4_ hb); have n1_ := Aside0.mk (blk_below (g := gb565) (o := .cells #[.int .u8 t560, .bool t561, .string t562, .int .i64 t563, .int .i64 t564] 29 (0, 0)) qns11_ hb); have n2_ := Aside0.mk (below_step qns3_ hb); clear BK559; clear BK565; clear HB; have BK559 := n0_; have BK565 := n1_; have HB := n2_; clear n0_ n1_ n2_; (try clear hb); (try clear hb2); (try clear hk); (try clear hi)) | (have ztk187 := tk187; clear tk187 ztk187; go_at_call 27; (with_reducible refine (numeral_Compare.calls k1 32 ((((⟨#[45]⟩ : ByteArray) ++ t552) ++ (⟨#[101]⟩ : ByteArray)) ++ t589) ((((⟨#[45]⟩ : ByteArray) ++ t552) ++ (⟨#[101]⟩ : ByteArray)) ++ t590) t591 _ ?side1 A175.out).mono ?_); (case side1 => exact GOK.below HGL.out qns3_); rintro e w181 ⟨rfl, hb⟩; have n0_ := Aside0.mk (blk_below (g := gb559) (o := .cells #[.int .u8 t554, .bool t555, .string t556, .int .i64 t557, .int .i64 t558] 29 (0, 0)) qns4_ hb); have n1_ := Aside0.mk (blk_below (g := gb565) (o := .cells #[.int .u8 t560, .bool t561, .string t562, .int .i64 t563, .int .i64 t564] 29 (0, 0)) qns11_ hb); have n2_ := Aside0.mk (below_step qns3_ hb); clear BK559; clear BK565; clear HB; have BK559 := n0_; have BK565 := n1_; have HB := n2_; clear n0_ n1_ n2_; (try clear hb); (try clear hb2); (try clear hk); (try clear hi)))
                          go_ret
                          exact ⟨qns6_, qns3_⟩
                         ·
                          rw [if_neg c174] at H
                          exact absurd H (by simp)
                        ·
                         rw [if_neg c172] at H
                         exact absurd H (by simp)
                       ·
                        rw [if_neg c170] at H
                        exact absurd H (by simp)
                      ·
                       rw [if_neg c169] at H
                       exact absurd H (by simp)
                     ·
                      rw [if_neg c168] at H
                      have c168b0 : (t588 == 0) = false := beq_eq_false_iff_ne.mpr c168
                      have c168b1 : (t588 != 0) = true := bne_iff_ne.mpr c168
                      obtain rfl := Option.some.inj H
                      have tk191 : True := trivial; have tk192 : True := trivial; have tk193 : True := trivial
                      go_wp2_with (first | (have ztk191 := tk191; clear tk191 ztk191; (with_reducible refine gate_callee (f := 15) rfl ?_); refine goesL_ (some 94) rfl rfl Tryd.func15 (by kernel_rfl) rfl #[.int .i64 a1, .int .i64 0] rfl qns0_ ?_; (with_reducible refine (milllaw3_written.calls k1 a1 0 t586 _ A163.out).mono ?_); rintro e w188 ⟨rfl, hb⟩; refine ⟨_, rfl, ?_⟩; have n0_ := Aside0.mk (blk_below (g := gb559) (o := .cells #[.int .u8 t554, .bool t555, .string t556, .int .i64 t557, .int .i64 t558] 29 (0, 0)) qns4_ hb); have n1_ := Aside0.mk (blk_below (g := gb565) (o := .cells #[.int .u8 t560, .bool t561, .string t562, .int .i64 t563, .int .i64 t564] 29 (0, 0)) qns11_ hb); have n2_ := Aside0.mk (below_step qns3_ hb); clear BK559; clear BK565; clear HB; have BK559 := n0_; have BK565 := n1_; have HB := n2_; clear n0_ n1_ n2_; (try clear hb); (try clear hb2); (try clear hk); (try clear hi)) | (have ztk192 := tk192; clear tk192 ztk192; (with_reducible refine gate_callee (f := 15) rfl ?_); refine goesL_ (some 101) rfl rfl Tryd.func15 (by kernel_rfl) rfl #[.int .i64 (wrap64 (a1 + a2)), .int .i64 0] rfl qns0_ ?_; (with_reducible refine (milllaw3_written.calls k1 (wrap64 (a1 + a2)) 0 t587 _ A165.out).mono ?_); rintro e w189 ⟨rfl, hb⟩; refine ⟨_, rfl, ?_⟩; have n0_ := Aside0.mk (blk_below (g := gb559) (o := .cells #[.int .u8 t554, .bool t555, .string t556, .int .i64 t557, .int .i64 t558] 29 (0, 0)) qns4_ hb); have n1_ := Aside0.mk (blk_below (g := gb565) (o := .cells #[.int .u8 t560, .bool t561, .string t562, .int .i64 t563, .int .i64 t564] 29 (0, 0)) qns11_ hb); have n2_ := Aside0.mk (below_step qns3_ hb); clear BK559; clear BK565; clear HB; have BK559 := n0_; have BK565 := n1_; have HB := n2_; clear n0_ n1_ n2_; (try clear hb); (try clear hb2); (try clear hk); (try clear hi)) | (have ztk193 := tk193; clear tk193 ztk193; (with_reducible refine gate_callee (f := 27) rfl ?_); refine goesL_ (some 103) rfl rfl Tryd.func27 (by kernel_rfl) rfl #[.int .u16 32, .string ((t552 ++ (⟨#[101]⟩ : ByteArray)) ++ t586), .string ((t552 ++ (⟨#[101]⟩ : ByteArray)) ++ t587)] rfl qns0_ ?_; (with_reducible refine (numeral_Compare.calls k1 32 ((t552 ++ (⟨#[101]⟩ : ByteArray)) ++ t586) ((t552 ++ (⟨#[101]⟩ : ByteArray)) ++ t587) t588 _ ?side1 A167.out).mono ?_); (case side1 => exact GOK.below HGL.out qns3_); rintro e w190 ⟨rfl, hb⟩; refine ⟨_, rfl, ?_⟩; have n0_ := Aside0.mk (blk_below (g := gb559) (o := .cells #[.int .u8 t554, .bool t555, .string t556, .int .i64 t557, .int .i64 t558] 29 (0, 0)) qns4_ hb); have n1_ := Aside0.mk (blk_below (g := gb565) (o := .cells #[.int .u8 t560, .bool t561, .string t562, .int .i64 t563, .int .i64 t564] 29 (0, 0)) qns11_ hb); have n2_ := Aside0.mk (below_step qns3_ hb); clear BK559; clear BK565; clear HB; have BK559 := n0_; have BK565 := n1_; have HB := n2_; clear n0_ n1_ n2_; (try clear hb); (try clear hb2); (try clear hk); (try clear hi)))
                      go_ret
                      exact ⟨qns6_, qns3_⟩
                    ·
                     rw [if_neg c166] at H
                     exact absurd H (by simp)
                   ·
                    rw [if_neg c164] at H
                    exact absurd H (by simp)
                  ·
                   rw [if_neg c162] at H
                   exact absurd H (by simp)
            ·
             rw [if_neg c19] at H
             have c19b0 : (t557 == (wrap64 (t563 + a1))) = false := beq_eq_false_iff_ne.mpr c19
             have c19b1 : (t557 != (wrap64 (t563 + a1))) = true := bne_iff_ne.mpr c19
             obtain rfl := Option.some.inj H
             go_enter Tryd.func9, Tryd.ntmps9
             have tk204 : True := trivial; have tk205 : True := trivial; have tk206 : True := trivial; have tk207 : True := trivial; have tk208 : True := trivial; have tk209 : True := trivial
             go_wp2_with (first | (have ztk204 := tk204; clear tk204 ztk204; (with_reducible refine gate_callee (f := 15) rfl ?_); refine goesL_ (some 36) rfl rfl Tryd.func15 (by kernel_rfl) rfl #[.int .i64 a0, .int .i64 0] rfl qns0_ ?_; (with_reducible refine (milllaw3_written.calls k a0 0 t552 _ A10.out).mono ?_); rintro e w194 ⟨rfl, hb⟩; refine ⟨_, rfl, ?_⟩; have n0_ := Aside0.mk (below_step qns1_ hb); clear HB; have HB := n0_; clear n0_; (try clear hb); (try clear hb2); (try clear hk); (try clear hi)) | (have ztk205 := tk205; clear tk205 ztk205; (with_reducible refine gate_callee (f := 15) rfl ?_); refine goesL_ (some 40) rfl rfl Tryd.func15 (by kernel_rfl) rfl #[.int .i64 a1, .int .i64 3] rfl qns0_ ?_; (with_reducible refine (milllaw3_written.calls k a1 3 t553 _ A12.out).mono ?_); rintro e w195 ⟨rfl, hb⟩; refine ⟨_, rfl, ?_⟩; have n0_ := Aside0.mk (below_step qns1_ hb); clear HB; have HB := n0_; clear n0_; (try clear hb); (try clear hb2); (try clear hk); (try clear hi)) | (have ztk206 := tk206; clear tk206 ztk206; (with_reducible refine gate_callee (f := 17) rfl ?_); refine goesL_ (some 42) rfl rfl Tryd.func17 (by kernel_rfl) rfl #[.string ((t552 ++ (⟨#[101]⟩ : ByteArray)) ++ t553)] rfl qns0_ ?_; (with_reducible refine (numeral_General.calls k ((t552 ++ (⟨#[101]⟩ : ByteArray)) ++ t553) t554 t555 t556 t557 t558 _ A14.out).mono ?_); rintro e w196 ⟨rfl, hb⟩; refine ⟨_, rfl, ?_⟩; have n0_ := Aside0.mk (below_step qns1_ hb); clear HB; have HB := n0_; clear n0_; (try clear hb); (try clear hb2); (try clear hk); (try clear hi)) | (have ztk207 := tk207; clear tk207 ztk207; (with_reducible refine gate_dst (N := 8) rfl ?_); refine box_event ?hg (N := 8) ?hd (cs := #[.int .u8 0, .bool false, .string (⟨#[]⟩ : ByteArray), .int .i64 0, .int .i64 0]) (t := 29) ?hr ?_; (case hd => rfl); (case hg => rfl); (case hr => first | (go_simp; done) | (go_simp; rfl)); intro gb559 hg w197 hbox hb; have n0_ := Aside0.mk (below_step qns1_ hb); have n1_ := Aside0.mk (hbox); have n2_ := Aside0.mk ((by rw [hg]; exact (below_size qns1_) : w.heap.size ≤ gb559)); have n3_ := Aside0.mk ((by rw [hg]; exact (below_size qns1_) : w.heap.size ≤ gb559)); clear HB; have HB := n0_; have BK559 := n1_; have GW559 := n2_; have GE559 := n3_; clear n0_ n1_ n2_ n3_; clear hb hbox hg; have hcz198_0 : w197.cell? ⟨gb559, 0, none⟩ = some (.int .u8 0) := (blk_cell BK559.out 0).trans rfl; have hcz198_1 : w197.cell? ⟨gb559, 1, none⟩ = some (.bool false) := (blk_cell BK559.out 1).trans rfl; have hcz198_2 : w197.cell? ⟨gb559, 2, none⟩ = some (.string (⟨#[]⟩ : ByteArray)) := (blk_cell BK559.out 2).trans rfl; have hcz198_3 : w197.cell? ⟨gb559, 3, none⟩ = some (.int .i64 0) := (blk_cell BK559.out 3).trans rfl; have hcz198_4 : w197.cell? ⟨gb559, 4, none⟩ = some (.int .i64 0) := (blk_cell BK559.out 4).trans rfl; have hfz198_0 := blk_frozen BK559.out 0; have hfz198_1 := blk_frozen BK559.out 1; have hfz198_2 := blk_frozen BK559.out 2; have hfz198_3 := blk_frozen BK559.out 3; have hfz198_4 := blk_frozen BK559.out 4) | (have ztk208 := tk208; clear tk208 ztk208; (with_reducible refine gate_callee (f := 17) rfl ?_); refine goesL_ (some 44) rfl rfl Tryd.func17 (by kernel_rfl) rfl #[.string t552] rfl qns0_ ?_; (with_reducible refine (numeral_General.calls k t552 t560 t561 t562 t563 t564 _ A15.out).mono ?_); rintro e w199 ⟨rfl, hb⟩; refine ⟨_, rfl, ?_⟩; have n0_ := Aside0.mk (blk_below (g := gb559) (o := .cells #[.int .u8 t554, .bool t555, .string t556, .int .i64 t557, .int .i64 t558] 29 (0, 0)) qns12_ hb); have n1_ := Aside0.mk (below_step qns17_ hb); clear BK559; clear HB; have BK559 := n0_; have HB := n1_; clear n0_ n1_; (try clear hb); (try clear hb2); (try clear hk); (try clear hi)) | (have ztk209 := tk209; clear tk209 ztk209; (with_reducible refine gate_dst (N := 9) rfl ?_); refine box_event ?hg (N := 9) ?hd (cs := #[.int .u8 0, .bool false, .string (⟨#[]⟩ : ByteArray), .int .i64 0, .int .i64 0]) (t := 29) ?hr ?_; (case hd => rfl); (case hg => rfl); (case hr => first | (go_simp; done) | (go_simp; rfl)); intro gb565 hg w200 hbox hb; have n0_ := Aside0.mk (blk_below (g := gb559) (o := .cells #[.int .u8 t554, .bool t555, .string t556, .int .i64 t557, .int .i64 t558] 29 (0, 0)) qns4_ hb); have n1_ := Aside0.mk (below_step qns17_ hb); have n2_ := Aside0.mk (hbox); have n3_ := Aside0.mk ((by rw [hg]; exact (below_size qns17_) : w.heap.size ≤ gb565)); have n4_ := Aside0.mk ((by rw [hg]; exact (below_size qns17_) : w.heap.size ≤ gb565)); have n5_ := Aside0.mk ((by rw [hg]; exact Nat.ne_of_lt (blk_lt (g := gb559) (o := .cells #[.int .u8 t554, .bool t555, .string t556, .int .i64 t557, .int .i64 t558] 29 (0, 0)) qns4_) : gb559 ≠ gb565)); have n6_ := Aside0.mk ((by rw [hg]; exact Nat.ne_of_gt (blk_lt (g := gb559) (o := .cells #[.int .u8 t554, .bool t555, .string t556, .int .i64 t557, .int .i64 t558] 29 (0, 0)) qns4_) : gb565 ≠ gb559)); clear BK559; clear HB; have BK559 := n0_; have HB := n1_; have BK565 := n2_; have GW565 := n3_; have GE565 := n4_; have NB559_565 := n5_; have NB565_559 := n6_; clear n0_ n1_ n2_ n3_ n4_ n5_ n6_; clear hb hbox hg; have hnb201 := NB565_559.out; have hnc201 := NB559_565.out; have hcz202_0 : w200.cell? ⟨gb565, 0, none⟩ = some (.int .u8 0) := (blk_cell BK565.out 0).trans rfl; have hcz202_1 : w200.cell? ⟨gb565, 1, none⟩ = some (.bool false) := (blk_cell BK565.out 1).trans rfl; have hcz202_2 : w200.cell? ⟨gb565, 2, none⟩ = some (.string (⟨#[]⟩ : ByteArray)) := (blk_cell BK565.out 2).trans rfl; have hcz202_3 : w200.cell? ⟨gb565, 3, none⟩ = some (.int .i64 0) := (blk_cell BK565.out 3).trans rfl; have hcz202_4 : w200.cell? ⟨gb565, 4, none⟩ = some (.int .i64 0) := (blk_cell BK565.out 4).trans rfl; have hfz202_0 := blk_frozen BK565.out 0; have hfz202_1 := blk_frozen BK565.out 1; have hfz202_2 := blk_frozen BK565.out 2; have hfz202_3 := blk_frozen BK565.out 3; have hfz202_4 := blk_frozen BK565.out 4; have hcz203_0 : w200.cell? ⟨gb559, 0, none⟩ = some (.int .u8 t554) := (blk_cell BK559.out 0).trans rfl; have hcz203_1 : w200.cell? ⟨gb559, 1, none⟩ = some (.bool t555) := (blk_cell BK559.out 1).trans rfl; have hcz203_2 : w200.cell? ⟨gb559, 2, none⟩ = some (.string t556) := (blk_cell BK559.out 2).trans rfl; have hcz203_3 : w200.cell? ⟨gb559, 3, none⟩ = some (.int .i64 t557) := (blk_cell BK559.out 3).trans rfl; have hcz203_4 : w200.cell? ⟨gb559, 4, none⟩ = some (.int .i64 t558) := (blk_cell BK559.out 4).trans rfl; have hfz203_0 := blk_frozen BK559.out 0; have hfz203_1 := blk_frozen BK559.out 1; have hfz203_2 := blk_frozen BK559.out 2; have hfz203_3 := blk_frozen BK559.out 3; have hfz203_4 := blk_frozen BK559.out 4))
             go_ret
             exact ⟨qns6_, qns3_⟩
           ·
            rw [if_neg c18] at H
            have c18b0 : (t556.toList == t562.toList) = false := beq_eq_false_iff_ne.mpr c18
            have c18b1 : (t556.toList != t562.toList) = true := bne_iff_ne.mpr c18
            obtain rfl := Option.some.inj H
            go_enter Tryd.func9, Tryd.ntmps9
            have tk220 : True := trivial; have tk221 : True := trivial; have tk222 : True := trivial; have tk223 : True := trivial; have tk224 : True := trivial; have tk225 : True := trivial
            go_wp2_with (first | (have ztk220 := tk220; clear tk220 ztk220; (with_reducible refine gate_callee (f := 15) rfl ?_); refine goesL_ (some 36) rfl rfl Tryd.func15 (by kernel_rfl) rfl #[.int .i64 a0, .int .i64 0] rfl qns0_ ?_; (with_reducible refine (milllaw3_written.calls k a0 0 t552 _ A10.out).mono ?_); rintro e w210 ⟨rfl, hb⟩; refine ⟨_, rfl, ?_⟩; have n0_ := Aside0.mk (below_step qns1_ hb); clear HB; have HB := n0_; clear n0_; (try clear hb); (try clear hb2); (try clear hk); (try clear hi)) | (have ztk221 := tk221; clear tk221 ztk221; (with_reducible refine gate_callee (f := 15) rfl ?_); refine goesL_ (some 40) rfl rfl Tryd.func15 (by kernel_rfl) rfl #[.int .i64 a1, .int .i64 3] rfl qns0_ ?_; (with_reducible refine (milllaw3_written.calls k a1 3 t553 _ A12.out).mono ?_); rintro e w211 ⟨rfl, hb⟩; refine ⟨_, rfl, ?_⟩; have n0_ := Aside0.mk (below_step qns1_ hb); clear HB; have HB := n0_; clear n0_; (try clear hb); (try clear hb2); (try clear hk); (try clear hi)) | (have ztk222 := tk222; clear tk222 ztk222; (with_reducible refine gate_callee (f := 17) rfl ?_); refine goesL_ (some 42) rfl rfl Tryd.func17 (by kernel_rfl) rfl #[.string ((t552 ++ (⟨#[101]⟩ : ByteArray)) ++ t553)] rfl qns0_ ?_; (with_reducible refine (numeral_General.calls k ((t552 ++ (⟨#[101]⟩ : ByteArray)) ++ t553) t554 t555 t556 t557 t558 _ A14.out).mono ?_); rintro e w212 ⟨rfl, hb⟩; refine ⟨_, rfl, ?_⟩; have n0_ := Aside0.mk (below_step qns1_ hb); clear HB; have HB := n0_; clear n0_; (try clear hb); (try clear hb2); (try clear hk); (try clear hi)) | (have ztk223 := tk223; clear tk223 ztk223; (with_reducible refine gate_dst (N := 8) rfl ?_); refine box_event ?hg (N := 8) ?hd (cs := #[.int .u8 0, .bool false, .string (⟨#[]⟩ : ByteArray), .int .i64 0, .int .i64 0]) (t := 29) ?hr ?_; (case hd => rfl); (case hg => rfl); (case hr => first | (go_simp; done) | (go_simp; rfl)); intro gb559 hg w213 hbox hb; have n0_ := Aside0.mk (below_step qns1_ hb); have n1_ := Aside0.mk (hbox); have n2_ := Aside0.mk ((by rw [hg]; exact (below_size qns1_) : w.heap.size ≤ gb559)); have n3_ := Aside0.mk ((by rw [hg]; exact (below_size qns1_) : w.heap.size ≤ gb559)); clear HB; have HB := n0_; have BK559 := n1_; have GW559 := n2_; have GE559 := n3_; clear n0_ n1_ n2_ n3_; clear hb hbox hg; have hcz214_0 : w213.cell? ⟨gb559, 0, none⟩ = some (.int .u8 0) := (blk_cell BK559.out 0).trans rfl; have hcz214_1 : w213.cell? ⟨gb559, 1, none⟩ = some (.bool false) := (blk_cell BK559.out 1).trans rfl; have hcz214_2 : w213.cell? ⟨gb559, 2, none⟩ = some (.string (⟨#[]⟩ : ByteArray)) := (blk_cell BK559.out 2).trans rfl; have hcz214_3 : w213.cell? ⟨gb559, 3, none⟩ = some (.int .i64 0) := (blk_cell BK559.out 3).trans rfl; have hcz214_4 : w213.cell? ⟨gb559, 4, none⟩ = some (.int .i64 0) := (blk_cell BK559.out 4).trans rfl; have hfz214_0 := blk_frozen BK559.out 0; have hfz214_1 := blk_frozen BK559.out 1; have hfz214_2 := blk_frozen BK559.out 2; have hfz214_3 := blk_frozen BK559.out 3; have hfz214_4 := blk_frozen BK559.out 4) | (have ztk224 := tk224; clear tk224 ztk224; (with_reducible refine gate_callee (f := 17) rfl ?_); refine goesL_ (some 44) rfl rfl Tryd.func17 (by kernel_rfl) rfl #[.string t552] rfl qns0_ ?_; (with_reducible refine (numeral_General.calls k t552 t560 t561 t562 t563 t564 _ A15.out).mono ?_); rintro e w215 ⟨rfl, hb⟩; refine ⟨_, rfl, ?_⟩; have n0_ := Aside0.mk (blk_below (g := gb559) (o := .cells #[.int .u8 t554, .bool t555, .string t556, .int .i64 t557, .int .i64 t558] 29 (0, 0)) qns12_ hb); have n1_ := Aside0.mk (below_step qns17_ hb); clear BK559; clear HB; have BK559 := n0_; have HB := n1_; clear n0_ n1_; (try clear hb); (try clear hb2); (try clear hk); (try clear hi)) | (have ztk225 := tk225; clear tk225 ztk225; (with_reducible refine gate_dst (N := 9) rfl ?_); refine box_event ?hg (N := 9) ?hd (cs := #[.int .u8 0, .bool false, .string (⟨#[]⟩ : ByteArray), .int .i64 0, .int .i64 0]) (t := 29) ?hr ?_; (case hd => rfl); (case hg => rfl); (case hr => first | (go_simp; done) | (go_simp; rfl)); intro gb565 hg w216 hbox hb; have n0_ := Aside0.mk (blk_below (g := gb559) (o := .cells #[.int .u8 t554, .bool t555, .string t556, .int .i64 t557, .int .i64 t558] 29 (0, 0)) qns4_ hb); have n1_ := Aside0.mk (below_step qns17_ hb); have n2_ := Aside0.mk (hbox); have n3_ := Aside0.mk ((by rw [hg]; exact (below_size qns17_) : w.heap.size ≤ gb565)); have n4_ := Aside0.mk ((by rw [hg]; exact (below_size qns17_) : w.heap.size ≤ gb565)); have n5_ := Aside0.mk ((by rw [hg]; exact Nat.ne_of_lt (blk_lt (g := gb559) (o := .cells #[.int .u8 t554, .bool t555, .string t556, .int .i64 t557, .int .i64 t558] 29 (0, 0)) qns4_) : gb559 ≠ gb565)); have n6_ := Aside0.mk ((by rw [hg]; exact Nat.ne_of_gt (blk_lt (g := gb559) (o := .cells #[.int .u8 t554, .bool t555, .string t556, .int .i64 t557, .int .i64 t558] 29 (0, 0)) qns4_) : gb565 ≠ gb559)); clear BK559; clear HB; have BK559 := n0_; have HB := n1_; have BK565 := n2_; have GW565 := n3_; have GE565 := n4_; have NB559_565 := n5_; have NB565_559 := n6_; clear n0_ n1_ n2_ n3_ n4_ n5_ n6_; clear hb hbox hg; have hnb217 := NB565_559.out; have hnc217 := NB559_565.out; have hcz218_0 : w216.cell? ⟨gb565, 0, none⟩ = some (.int .u8 0) := (blk_cell BK565.out 0).trans rfl; have hcz218_1 : w216.cell? ⟨gb565, 1, none⟩ = some (.bool false) := (blk_cell BK565.out 1).trans rfl; have hcz218_2 : w216.cell? ⟨gb565, 2, none⟩ = some (.string (⟨#[]⟩ : ByteArray)) := (blk_cell BK565.out 2).trans rfl; have hcz218_3 : w216.cell? ⟨gb565, 3, none⟩ = some (.int .i64 0) := (blk_cell BK565.out 3).trans rfl; have hcz218_4 : w216.cell? ⟨gb565, 4, none⟩ = some (.int .i64 0) := (blk_cell BK565.out 4).trans rfl; have hfz218_0 := blk_frozen BK565.out 0; have hfz218_1 := blk_frozen BK565.out 1; have hfz218_2 := blk_frozen BK565.out 2; have hfz218_3 := blk_frozen BK565.out 3; have hfz218_4 := blk_frozen BK565.out 4; have hcz219_0 : w216.cell? ⟨gb559, 0, none⟩ = some (.int .u8 t554) := (blk_cell BK559.out 0).trans rfl; have hcz219_1 : w216.cell? ⟨gb559, 1, none⟩ = some (.bool t555) := (blk_cell BK559.out 1).trans rfl; have hcz219_2 : w216.cell? ⟨gb559, 2, none⟩ = some (.string t556) := (blk_cell BK559.out 2).trans rfl; have hcz219_3 : w216.cell? ⟨gb559, 3, none⟩ = some (.int .i64 t557) := (blk_cell BK559.out 3).trans rfl; have hcz219_4 : w216.cell? ⟨gb559, 4, none⟩ = some (.int .i64 t558) := (blk_cell BK559.out 4).trans rfl; have hfz219_0 := blk_frozen BK559.out 0; have hfz219_1 := blk_frozen BK559.out 1; have hfz219_2 := blk_frozen BK559.out 2; have hfz219_3 := blk_frozen BK559.out 3; have hfz219_4 := blk_frozen BK559.out 4))
            go_ret
            exact ⟨qns6_, qns3_⟩
          ·
           rw [if_neg c17] at H
           have c17b0 : (t554 == 3) = false := beq_eq_false_iff_ne.mpr c17
           have c17b1 : (t554 != 3) = true := bne_iff_ne.mpr c17
           obtain rfl := Option.some.inj H
           go_enter Tryd.func9, Tryd.ntmps9
           have tk236 : True := trivial; have tk237 : True := trivial; have tk238 : True := trivial; have tk239 : True := trivial; have tk240 : True := trivial; have tk241 : True := trivial
           go_wp2_with (first | (have ztk236 := tk236; clear tk236 ztk236; (with_reducible refine gate_callee (f := 15) rfl ?_); refine goesL_ (some 36) rfl rfl Tryd.func15 (by kernel_rfl) rfl #[.int .i64 a0, .int .i64 0] rfl qns0_ ?_; (with_reducible refine (milllaw3_written.calls k a0 0 t552 _ A10.out).mono ?_); rintro e w226 ⟨rfl, hb⟩; refine ⟨_, rfl, ?_⟩; have n0_ := Aside0.mk (below_step qns1_ hb); clear HB; have HB := n0_; clear n0_; (try clear hb); (try clear hb2); (try clear hk); (try clear hi)) | (have ztk237 := tk237; clear tk237 ztk237; (with_reducible refine gate_callee (f := 15) rfl ?_); refine goesL_ (some 40) rfl rfl Tryd.func15 (by kernel_rfl) rfl #[.int .i64 a1, .int .i64 3] rfl qns0_ ?_; (with_reducible refine (milllaw3_written.calls k a1 3 t553 _ A12.out).mono ?_); rintro e w227 ⟨rfl, hb⟩; refine ⟨_, rfl, ?_⟩; have n0_ := Aside0.mk (below_step qns1_ hb); clear HB; have HB := n0_; clear n0_; (try clear hb); (try clear hb2); (try clear hk); (try clear hi)) | (have ztk238 := tk238; clear tk238 ztk238; (with_reducible refine gate_callee (f := 17) rfl ?_); refine goesL_ (some 42) rfl rfl Tryd.func17 (by kernel_rfl) rfl #[.string ((t552 ++ (⟨#[101]⟩ : ByteArray)) ++ t553)] rfl qns0_ ?_; (with_reducible refine (numeral_General.calls k ((t552 ++ (⟨#[101]⟩ : ByteArray)) ++ t553) t554 t555 t556 t557 t558 _ A14.out).mono ?_); rintro e w228 ⟨rfl, hb⟩; refine ⟨_, rfl, ?_⟩; have n0_ := Aside0.mk (below_step qns1_ hb); clear HB; have HB := n0_; clear n0_; (try clear hb); (try clear hb2); (try clear hk); (try clear hi)) | (have ztk239 := tk239; clear tk239 ztk239; (with_reducible refine gate_dst (N := 8) rfl ?_); refine box_event ?hg (N := 8) ?hd (cs := #[.int .u8 0, .bool false, .string (⟨#[]⟩ : ByteArray), .int .i64 0, .int .i64 0]) (t := 29) ?hr ?_; (case hd => rfl); (case hg => rfl); (case hr => first | (go_simp; done) | (go_simp; rfl)); intro gb559 hg w229 hbox hb; have n0_ := Aside0.mk (below_step qns1_ hb); have n1_ := Aside0.mk (hbox); have n2_ := Aside0.mk ((by rw [hg]; exact (below_size qns1_) : w.heap.size ≤ gb559)); have n3_ := Aside0.mk ((by rw [hg]; exact (below_size qns1_) : w.heap.size ≤ gb559)); clear HB; have HB := n0_; have BK559 := n1_; have GW559 := n2_; have GE559 := n3_; clear n0_ n1_ n2_ n3_; clear hb hbox hg; have hcz230_0 : w229.cell? ⟨gb559, 0, none⟩ = some (.int .u8 0) := (blk_cell BK559.out 0).trans rfl; have hcz230_1 : w229.cell? ⟨gb559, 1, none⟩ = some (.bool false) := (blk_cell BK559.out 1).trans rfl; have hcz230_2 : w229.cell? ⟨gb559, 2, none⟩ = some (.string (⟨#[]⟩ : ByteArray)) := (blk_cell BK559.out 2).trans rfl; have hcz230_3 : w229.cell? ⟨gb559, 3, none⟩ = some (.int .i64 0) := (blk_cell BK559.out 3).trans rfl; have hcz230_4 : w229.cell? ⟨gb559, 4, none⟩ = some (.int .i64 0) := (blk_cell BK559.out 4).trans rfl; have hfz230_0 := blk_frozen BK559.out 0; have hfz230_1 := blk_frozen BK559.out 1; have hfz230_2 := blk_frozen BK559.out 2; have hfz230_3 := blk_frozen BK559.out 3; have hfz230_4 := blk_frozen BK559.out 4) | (have ztk240 := tk240; clear tk240 ztk240; (with_reducible refine gate_callee (f := 17) rfl ?_); refine goesL_ (some 44) rfl rfl Tryd.func17 (by kernel_rfl) rfl #[.string t552] rfl qns0_ ?_; (with_reducible refine (numeral_General.calls k t552 t560 t561 t562 t563 t564 _ A15.out).mono ?_); rintro e w231 ⟨rfl, hb⟩; refine ⟨_, rfl, ?_⟩; have n0_ := Aside0.mk (blk_below (g := gb559) (o := .cells #[.int .u8 t554, .bool t555, .string t556, .int .i64 t557, .int .i64 t558] 29 (0, 0)) qns12_ hb); have n1_ := Aside0.mk (below_step qns17_ hb); clear BK559; clear HB; have BK559 := n0_; have HB := n1_; clear n0_ n1_; (try clear hb); (try clear hb2); (try clear hk); (try clear hi)) | (have ztk241 := tk241; clear tk241 ztk241; (with_reducible refine gate_dst (N := 9) rfl ?_); refine box_event ?hg (N := 9) ?hd (cs := #[.int .u8 0, .bool false, .string (⟨#[]⟩ : ByteArray), .int .i64 0, .int .i64 0]) (t := 29) ?hr ?_; (case hd => rfl); (case hg => rfl); (case hr => first | (go_simp; done) | (go_simp; rfl)); intro gb565 hg w232 hbox hb; have n0_ := Aside0.mk (blk_below (g := gb559) (o := .cells #[.int .u8 t554, .bool t555, .string t556, .int .i64 t557, .int .i64 t558] 29 (0, 0)) qns4_ hb); have n1_ := Aside0.mk (below_step qns17_ hb); have n2_ := Aside0.mk (hbox); have n3_ := Aside0.mk ((by rw [hg]; exact (below_size qns17_) : w.heap.size ≤ gb565)); have n4_ := Aside0.mk ((by rw [hg]; exact (below_size qns17_) : w.heap.size ≤ gb565)); have n5_ := Aside0.mk ((by rw [hg]; exact Nat.ne_of_lt (blk_lt (g := gb559) (o := .cells #[.int .u8 t554, .bool t555, .string t556, .int .i64 t557, .int .i64 t558] 29 (0, 0)) qns4_) : gb559 ≠ gb565)); have n6_ := Aside0.mk ((by rw [hg]; exact Nat.ne_of_gt (blk_lt (g := gb559) (o := .cells #[.int .u8 t554, .bool t555, .string t556, .int .i64 t557, .int .i64 t558] 29 (0, 0)) qns4_) : gb565 ≠ gb559)); clear BK559; clear HB; have BK559 := n0_; have HB := n1_; have BK565 := n2_; have GW565 := n3_; have GE565 := n4_; have NB559_565 := n5_; have NB565_559 := n6_; clear n0_ n1_ n2_ n3_ n4_ n5_ n6_; clear hb hbox hg; have hnb233 := NB565_559.out; have hnc233 := NB559_565.out; have hcz234_0 : w232.cell? ⟨gb565, 0, none⟩ = some (.int .u8 0) := (blk_cell BK565.out 0).trans rfl; have hcz234_1 : w232.cell? ⟨gb565, 1, none⟩ = some (.bool false) := (blk_cell BK565.out 1).trans rfl; have hcz234_2 : w232.cell? ⟨gb565, 2, none⟩ = some (.string (⟨#[]⟩ : ByteArray)) := (blk_cell BK565.out 2).trans rfl; have hcz234_3 : w232.cell? ⟨gb565, 3, none⟩ = some (.int .i64 0) := (blk_cell BK565.out 3).trans rfl; have hcz234_4 : w232.cell? ⟨gb565, 4, none⟩ = some (.int .i64 0) := (blk_cell BK565.out 4).trans rfl; have hfz234_0 := blk_frozen BK565.out 0; have hfz234_1 := blk_frozen BK565.out 1; have hfz234_2 := blk_frozen BK565.out 2; have hfz234_3 := blk_frozen BK565.out 3; have hfz234_4 := blk_frozen BK565.out 4; have hcz235_0 : w232.cell? ⟨gb559, 0, none⟩ = some (.int .u8 t554) := (blk_cell BK559.out 0).trans rfl; have hcz235_1 : w232.cell? ⟨gb559, 1, none⟩ = some (.bool t555) := (blk_cell BK559.out 1).trans rfl; have hcz235_2 : w232.cell? ⟨gb559, 2, none⟩ = some (.string t556) := (blk_cell BK559.out 2).trans rfl; have hcz235_3 : w232.cell? ⟨gb559, 3, none⟩ = some (.int .i64 t557) := (blk_cell BK559.out 3).trans rfl; have hcz235_4 : w232.cell? ⟨gb559, 4, none⟩ = some (.int .i64 t558) := (blk_cell BK559.out 4).trans rfl; have hfz235_0 := blk_frozen BK559.out 0; have hfz235_1 := blk_frozen BK559.out 1; have hfz235_2 := blk_frozen BK559.out 2; have hfz235_3 := blk_frozen BK559.out 3; have hfz235_4 := blk_frozen BK559.out 4))
           go_ret
           exact ⟨qns6_, qns3_⟩
         ·
          rw [if_neg c16] at H
          have c16b0 : (t560 == 3) = false := beq_eq_false_iff_ne.mpr c16
          have c16b1 : (t560 != 3) = true := bne_iff_ne.mpr c16
          obtain rfl := Option.some.inj H
          go_enter Tryd.func9, Tryd.ntmps9
          have tk251 : True := trivial; have tk252 : True := trivial; have tk253 : True := trivial; have tk254 : True := trivial; have tk255 : True := trivial; have tk256 : True := trivial
          go_wp2_with (first | (have ztk251 := tk251; clear tk251 ztk251; (with_reducible refine gate_callee (f := 15) rfl ?_); refine goesL_ (some 36) rfl rfl Tryd.func15 (by kernel_rfl) rfl #[.int .i64 a0, .int .i64 0] rfl qns0_ ?_; (with_reducible refine (milllaw3_written.calls k a0 0 t552 _ A10.out).mono ?_); rintro e w242 ⟨rfl, hb⟩; refine ⟨_, rfl, ?_⟩; have n0_ := Aside0.mk (below_step qns1_ hb); clear HB; have HB := n0_; clear n0_; (try clear hb); (try clear hb2); (try clear hk); (try clear hi)) | (have ztk252 := tk252; clear tk252 ztk252; (with_reducible refine gate_callee (f := 15) rfl ?_); refine goesL_ (some 40) rfl rfl Tryd.func15 (by kernel_rfl) rfl #[.int .i64 a1, .int .i64 3] rfl qns0_ ?_; (with_reducible refine (milllaw3_written.calls k a1 3 t553 _ A12.out).mono ?_); rintro e w243 ⟨rfl, hb⟩; refine ⟨_, rfl, ?_⟩; have n0_ := Aside0.mk (below_step qns1_ hb); clear HB; have HB := n0_; clear n0_; (try clear hb); (try clear hb2); (try clear hk); (try clear hi)) | (have ztk253 := tk253; clear tk253 ztk253; (with_reducible refine gate_callee (f := 17) rfl ?_); refine goesL_ (some 42) rfl rfl Tryd.func17 (by kernel_rfl) rfl #[.string ((t552 ++ (⟨#[101]⟩ : ByteArray)) ++ t553)] rfl qns0_ ?_; (with_reducible refine (numeral_General.calls k ((t552 ++ (⟨#[101]⟩ : ByteArray)) ++ t553) t554 t555 t556 t557 t558 _ A14.out).mono ?_); rintro e w244 ⟨rfl, hb⟩; refine ⟨_, rfl, ?_⟩; have n0_ := Aside0.mk (below_step qns1_ hb); clear HB; have HB := n0_; clear n0_; (try clear hb); (try clear hb2); (try clear hk); (try clear hi)) | (have ztk254 := tk254; clear tk254 ztk254; (with_reducible refine gate_dst (N := 8) rfl ?_); refine box_event ?hg (N := 8) ?hd (cs := #[.int .u8 0, .bool false, .string (⟨#[]⟩ : ByteArray), .int .i64 0, .int .i64 0]) (t := 29) ?hr ?_; (case hd => rfl); (case hg => rfl); (case hr => first | (go_simp; done) | (go_simp; rfl)); intro gb559 hg w245 hbox hb; have n0_ := Aside0.mk (below_step qns1_ hb); have n1_ := Aside0.mk (hbox); have n2_ := Aside0.mk ((by rw [hg]; exact (below_size qns1_) : w.heap.size ≤ gb559)); have n3_ := Aside0.mk ((by rw [hg]; exact (below_size qns1_) : w.heap.size ≤ gb559)); clear HB; have HB := n0_; have BK559 := n1_; have GW559 := n2_; have GE559 := n3_; clear n0_ n1_ n2_ n3_; clear hb hbox hg; have hcz246_0 : w245.cell? ⟨gb559, 0, none⟩ = some (.int .u8 0) := (blk_cell BK559.out 0).trans rfl; have hcz246_1 : w245.cell? ⟨gb559, 1, none⟩ = some (.bool false) := (blk_cell BK559.out 1).trans rfl; have hcz246_2 : w245.cell? ⟨gb559, 2, none⟩ = some (.string (⟨#[]⟩ : ByteArray)) := (blk_cell BK559.out 2).trans rfl; have hcz246_3 : w245.cell? ⟨gb559, 3, none⟩ = some (.int .i64 0) := (blk_cell BK559.out 3).trans rfl; have hcz246_4 : w245.cell? ⟨gb559, 4, none⟩ = some (.int .i64 0) := (blk_cell BK559.out 4).trans rfl; have hfz246_0 := blk_frozen BK559.out 0; have hfz246_1 := blk_frozen BK559.out 1; have hfz246_2 := blk_frozen BK559.out 2; have hfz246_3 := blk_frozen BK559.out 3; have hfz246_4 := blk_frozen BK559.out 4) | (have ztk255 := tk255; clear tk255 ztk255; (with_reducible refine gate_callee (f := 17) rfl ?_); refine goesL_ (some 44) rfl rfl Tryd.func17 (by kernel_rfl) rfl #[.string t552] rfl qns0_ ?_; (with_reducible refine (numeral_General.calls k t552 t560 t561 t562 t563 t564 _ A15.out).mono ?_); rintro e w247 ⟨rfl, hb⟩; refine ⟨_, rfl, ?_⟩; have n0_ := Aside0.mk (blk_below (g := gb559) (o := .cells #[.int .u8 t554, .bool t555, .string t556, .int .i64 t557, .int .i64 t558] 29 (0, 0)) qns12_ hb); have n1_ := Aside0.mk (below_step qns17_ hb); clear BK559; clear HB; have BK559 := n0_; have HB := n1_; clear n0_ n1_; (try clear hb); (try clear hb2); (try clear hk); (try clear hi)) | (have ztk256 := tk256; clear tk256 ztk256; (with_reducible refine gate_dst (N := 9) rfl ?_); refine box_event ?hg (N := 9) ?hd (cs := #[.int .u8 0, .bool false, .string (⟨#[]⟩ : ByteArray), .int .i64 0, .int .i64 0]) (t := 29) ?hr ?_; (case hd => rfl); (case hg => rfl); (case hr => first | (go_simp; done) | (go_simp; rfl)); intro gb565 hg w248 hbox hb; have n0_ := Aside0.mk (blk_below (g := gb559) (o := .cells #[.int .u8 t554, .bool t555, .string t556, .int .i64 t557, .int .i64 t558] 29 (0, 0)) qns4_ hb); have n1_ := Aside0.mk (below_step qns17_ hb); have n2_ := Aside0.mk (hbox); have n3_ := Aside0.mk ((by rw [hg]; exact (below_size qns17_) : w.heap.size ≤ gb565)); have n4_ := Aside0.mk ((by rw [hg]; exact (below_size qns17_) : w.heap.size ≤ gb565)); have n5_ := Aside0.mk ((by rw [hg]; exact Nat.ne_of_lt (blk_lt (g := gb559) (o := .cells #[.int .u8 t554, .bool t555, .string t556, .int .i64 t557, .int .i64 t558] 29 (0, 0)) qns4_) : gb559 ≠ gb565)); have n6_ := Aside0.mk ((by rw [hg]; exact Nat.ne_of_gt (blk_lt (g := gb559) (o := .cells #[.int .u8 t554, .bool t555, .string t556, .int .i64 t557, .int .i64 t558] 29 (0, 0)) qns4_) : gb565 ≠ gb559)); clear BK559; clear HB; have BK559 := n0_; have HB := n1_; have BK565 := n2_; have GW565 := n3_; have GE565 := n4_; have NB559_565 := n5_; have NB565_559 := n6_; clear n0_ n1_ n2_ n3_ n4_ n5_ n6_; clear hb hbox hg; have hnb249 := NB565_559.out; have hnc249 := NB559_565.out; have hcz250_0 : w248.cell? ⟨gb565, 0, none⟩ = some (.int .u8 0) := (blk_cell BK565.out 0).trans rfl; have hcz250_1 : w248.cell? ⟨gb565, 1, none⟩ = some (.bool false) := (blk_cell BK565.out 1).trans rfl; have hcz250_2 : w248.cell? ⟨gb565, 2, none⟩ = some (.string (⟨#[]⟩ : ByteArray)) := (blk_cell BK565.out 2).trans rfl; have hcz250_3 : w248.cell? ⟨gb565, 3, none⟩ = some (.int .i64 0) := (blk_cell BK565.out 3).trans rfl; have hcz250_4 : w248.cell? ⟨gb565, 4, none⟩ = some (.int .i64 0) := (blk_cell BK565.out 4).trans rfl; have hfz250_0 := blk_frozen BK565.out 0; have hfz250_1 := blk_frozen BK565.out 1; have hfz250_2 := blk_frozen BK565.out 2; have hfz250_3 := blk_frozen BK565.out 3; have hfz250_4 := blk_frozen BK565.out 4))
          go_ret
          exact ⟨qns6_, qns3_⟩
        ·
         rw [if_neg c13] at H
         exact absurd H (by simp)
       ·
        rw [if_neg c11] at H
        exact absurd H (by simp)

/-- THE ONE PURE STATEMENT of milllaw3_NumeralScale: yours. -/
def milllaw3_NumeralScale.Pure : Prop := ∀ (a0 : Int) (a1 : Int) (a2 : Int), (Lit.int .i64 a0).wf = true → (Lit.int .i64 a1).wf = true → (Lit.int .i64 a2).wf = true → ∃ k, milllaw3_NumeralScale.f k a0 a1 a2 = some true
theorem milllaw3_NumeralScale.walk (P : milllaw3_NumeralScale.Pure) (a0 : Int) (a1 : Int) (a2 : Int) (w : World) (hGL : GOK w) (w0 : (Lit.int .i64 a0).wf = true) (w1 : (Lit.int .i64 a1).wf = true) (w2 : (Lit.int .i64 a2).wf = true) :
  Calls Tryd.prog 9 #[.int .i64 a0, .int .i64 a1, .int .i64 a2] w fun e w' => e = .returned (.bool true) ∧ Below w.heap.size w w' := by
 obtain ⟨k, h⟩ := P a0 a1 a2 w0 w1 w2
 refine (milllaw3_NumeralScale.calls k a0 a1 a2 true w hGL h).mono ?_
 rintro e w' ⟨rfl, hd⟩
 exact ⟨rfl, hd⟩

end Go.Proofs.YtcdajedmlfhmeaaDoor.XN
