import Derived.Test.YtcdajedmlfhmeaaDoorZNW0
import Derived.Test.YtcdajedmlfhmeaaDoorZNW1
import Derived.Test.YtcdajedmlfhmeaaDoorZNW8
namespace Go.Proofs.YtcdajedmlfhmeaaDoor.XN
open Go.RowKit Go.Proofs.YtcdajedmlfhmeaaDoorW.PrintWords Go.Proofs.YtcdajedmlfhmeaaDoorW.PrintLast Go.Proofs.YtcdajedmlfhmeaaDoorW.PrintMore
attribute [local go_sem] max2_int min2_int max_two min_two max_three min_three max_four min_four
set_option linter.unusedVariables false
set_option linter.unusedSimpArgs false

/-! ### milllaw3_NumeralWhole: function 8 -/
def milllaw3_NumeralWhole.f (k : Nat) (a0 : Int) (a1 : Int) (a2 : Int) (a3 : Int) : Option (Bool) := if a0 ≤ (-4611686018427387904) then (some true) else (if a0 ≥ 4611686018427387904 then (some true) else (if a1 ≤ (-4611686018427387904) then (some true) else (if a1 ≥ 4611686018427387904 then (some true) else (if a2 < 0 then (some true) else (if a2 > 40 then (some true) else (if a3 < 0 then (some true) else (if a3 > 40 then (some true) else (if a0 < a1 then (if a0 > a1 then ((milllaw3_written.f k a0 a2).bind fun t528 => ((milllaw3_written.f k a1 a3).bind fun t529 => (if t528.size + 1 ≤ 9223372036854775807 then (if 2 + t529.size ≤ 9223372036854775807 then (if (2 + t529.size) + 1 ≤ 9223372036854775807 then ((numeral_Compare.f k 16 (t528 ++ (⟨#[120]⟩ : ByteArray)) (((⟨#[32, 32]⟩ : ByteArray) ++ t529) ++ (⟨#[47]⟩ : ByteArray))).bind fun t530 => (if t530 = 1 then (if 1 + t528.size ≤ 9223372036854775807 then (if (1 + t528.size) + 1 ≤ 9223372036854775807 then (if t529.size + 1 ≤ 9223372036854775807 then ((numeral_Compare.f k 32 (((⟨#[9]⟩ : ByteArray) ++ t528) ++ (⟨#[120]⟩ : ByteArray)) (t529 ++ (⟨#[47]⟩ : ByteArray))).bind fun t531 => (if t531 = 1 then (if 1 + t529.size ≤ 9223372036854775807 then (if (1 + t529.size) + 1 ≤ 9223372036854775807 then ((numeral_Compare.f k 64 (t528 ++ (⟨#[120]⟩ : ByteArray)) (((⟨#[32]⟩ : ByteArray) ++ t529) ++ (⟨#[47]⟩ : ByteArray))).bind fun t532 => (if t532 = 1 then (if a0 < 0 then (some true) else (if a1 < 0 then (some true) else ((numeral_Compare.f k 256 t528 t529).bind fun t533 => (some (t533 == 1))))) else (some false))) else (none)) else (none)) else (some false))) else (none)) else (none)) else (none)) else (some false))) else (none)) else (none)) else (none)))) else ((milllaw3_written.f k a0 a2).bind fun t534 => ((milllaw3_written.f k a1 a3).bind fun t535 => (if t534.size + 1 ≤ 9223372036854775807 then (if 2 + t535.size ≤ 9223372036854775807 then (if (2 + t535.size) + 1 ≤ 9223372036854775807 then ((numeral_Compare.f k 16 (t534 ++ (⟨#[120]⟩ : ByteArray)) (((⟨#[32, 32]⟩ : ByteArray) ++ t535) ++ (⟨#[47]⟩ : ByteArray))).bind fun t536 => (if t536 = (-1) then (if 1 + t534.size ≤ 9223372036854775807 then (if (1 + t534.size) + 1 ≤ 9223372036854775807 then (if t535.size + 1 ≤ 9223372036854775807 then ((numeral_Compare.f k 32 (((⟨#[9]⟩ : ByteArray) ++ t534) ++ (⟨#[120]⟩ : ByteArray)) (t535 ++ (⟨#[47]⟩ : ByteArray))).bind fun t537 => (if t537 = (-1) then (if 1 + t535.size ≤ 9223372036854775807 then (if (1 + t535.size) + 1 ≤ 9223372036854775807 then ((numeral_Compare.f k 64 (t534 ++ (⟨#[120]⟩ : ByteArray)) (((⟨#[32]⟩ : ByteArray) ++ t535) ++ (⟨#[47]⟩ : ByteArray))).bind fun t538 => (if t538 = (-1) then (if a0 < 0 then (some true) else (if a1 < 0 then (some true) else ((numeral_Compare.f k 256 t534 t535).bind fun t539 => (some (t539 == (-1)))))) else (some false))) else (none)) else (none)) else (some false))) else (none)) else (none)) else (none)) else (some false))) else (none)) else (none)) else (none))))) else (if a0 > a1 then ((milllaw3_written.f k a0 a2).bind fun t540 => ((milllaw3_written.f k a1 a3).bind fun t541 => (if t540.size + 1 ≤ 9223372036854775807 then (if 2 + t541.size ≤ 9223372036854775807 then (if (2 + t541.size) + 1 ≤ 9223372036854775807 then ((numeral_Compare.f k 16 (t540 ++ (⟨#[120]⟩ : ByteArray)) (((⟨#[32, 32]⟩ : ByteArray) ++ t541) ++ (⟨#[47]⟩ : ByteArray))).bind fun t542 => (if t542 = 1 then (if 1 + t540.size ≤ 9223372036854775807 then (if (1 + t540.size) + 1 ≤ 9223372036854775807 then (if t541.size + 1 ≤ 9223372036854775807 then ((numeral_Compare.f k 32 (((⟨#[9]⟩ : ByteArray) ++ t540) ++ (⟨#[120]⟩ : ByteArray)) (t541 ++ (⟨#[47]⟩ : ByteArray))).bind fun t543 => (if t543 = 1 then (if 1 + t541.size ≤ 9223372036854775807 then (if (1 + t541.size) + 1 ≤ 9223372036854775807 then ((numeral_Compare.f k 64 (t540 ++ (⟨#[120]⟩ : ByteArray)) (((⟨#[32]⟩ : ByteArray) ++ t541) ++ (⟨#[47]⟩ : ByteArray))).bind fun t544 => (if t544 = 1 then (if a0 < 0 then (some true) else (if a1 < 0 then (some true) else ((numeral_Compare.f k 256 t540 t541).bind fun t545 => (some (t545 == 1))))) else (some false))) else (none)) else (none)) else (some false))) else (none)) else (none)) else (none)) else (some false))) else (none)) else (none)) else (none)))) else ((milllaw3_written.f k a0 a2).bind fun t546 => ((milllaw3_written.f k a1 a3).bind fun t547 => (if t546.size + 1 ≤ 9223372036854775807 then (if 2 + t547.size ≤ 9223372036854775807 then (if (2 + t547.size) + 1 ≤ 9223372036854775807 then ((numeral_Compare.f k 16 (t546 ++ (⟨#[120]⟩ : ByteArray)) (((⟨#[32, 32]⟩ : ByteArray) ++ t547) ++ (⟨#[47]⟩ : ByteArray))).bind fun t548 => (if t548 = 0 then (if 1 + t546.size ≤ 9223372036854775807 then (if (1 + t546.size) + 1 ≤ 9223372036854775807 then (if t547.size + 1 ≤ 9223372036854775807 then ((numeral_Compare.f k 32 (((⟨#[9]⟩ : ByteArray) ++ t546) ++ (⟨#[120]⟩ : ByteArray)) (t547 ++ (⟨#[47]⟩ : ByteArray))).bind fun t549 => (if t549 = 0 then (if 1 + t547.size ≤ 9223372036854775807 then (if (1 + t547.size) + 1 ≤ 9223372036854775807 then ((numeral_Compare.f k 64 (t546 ++ (⟨#[120]⟩ : ByteArray)) (((⟨#[32]⟩ : ByteArray) ++ t547) ++ (⟨#[47]⟩ : ByteArray))).bind fun t550 => (if t550 = 0 then (if a0 < 0 then (some true) else (if a1 < 0 then (some true) else ((numeral_Compare.f k 256 t546 t547).bind fun t551 => (some (t551 == 0))))) else (some false))) else (none)) else (none)) else (some false))) else (none)) else (none)) else (none)) else (some false))) else (none)) else (none)) else (none)))))))))))))
set_option maxHeartbeats 8000000 in
set_option maxRecDepth 100000 in
theorem milllaw3_NumeralWhole.calls (k : Nat) (a0 : Int) (a1 : Int) (a2 : Int) (a3 : Int) (r : Bool) (w : World) (hGL : GOK w) (h : milllaw3_NumeralWhole.f k a0 a1 a2 a3 = some r) :
  Calls Tryd.prog 8 #[.int .i64 a0, .int .i64 a1, .int .i64 a2, .int .i64 a3] w fun e w' => e = .returned (.bool r) ∧ Below w.heap.size w w' := by
 have HGL := Aside0.mk hGL
 clear hGL
 have HB := Aside0.mk (Below.refl w.heap.size w)
 have H : (if a0 ≤ (-4611686018427387904) then (some true) else (if a0 ≥ 4611686018427387904 then (some true) else (if a1 ≤ (-4611686018427387904) then (some true) else (if a1 ≥ 4611686018427387904 then (some true) else (if a2 < 0 then (some true) else (if a2 > 40 then (some true) else (if a3 < 0 then (some true) else (if a3 > 40 then (some true) else (if a0 < a1 then (if a0 > a1 then ((milllaw3_written.f k a0 a2).bind fun t528 => ((milllaw3_written.f k a1 a3).bind fun t529 => (if t528.size + 1 ≤ 9223372036854775807 then (if 2 + t529.size ≤ 9223372036854775807 then (if (2 + t529.size) + 1 ≤ 9223372036854775807 then ((numeral_Compare.f k 16 (t528 ++ (⟨#[120]⟩ : ByteArray)) (((⟨#[32, 32]⟩ : ByteArray) ++ t529) ++ (⟨#[47]⟩ : ByteArray))).bind fun t530 => (if t530 = 1 then (if 1 + t528.size ≤ 9223372036854775807 then (if (1 + t528.size) + 1 ≤ 9223372036854775807 then (if t529.size + 1 ≤ 9223372036854775807 then ((numeral_Compare.f k 32 (((⟨#[9]⟩ : ByteArray) ++ t528) ++ (⟨#[120]⟩ : ByteArray)) (t529 ++ (⟨#[47]⟩ : ByteArray))).bind fun t531 => (if t531 = 1 then (if 1 + t529.size ≤ 9223372036854775807 then (if (1 + t529.size) + 1 ≤ 9223372036854775807 then ((numeral_Compare.f k 64 (t528 ++ (⟨#[120]⟩ : ByteArray)) (((⟨#[32]⟩ : ByteArray) ++ t529) ++ (⟨#[47]⟩ : ByteArray))).bind fun t532 => (if t532 = 1 then (if a0 < 0 then (some true) else (if a1 < 0 then (some true) else ((numeral_Compare.f k 256 t528 t529).bind fun t533 => (some (t533 == 1))))) else (some false))) else (none)) else (none)) else (some false))) else (none)) else (none)) else (none)) else (some false))) else (none)) else (none)) else (none)))) else ((milllaw3_written.f k a0 a2).bind fun t534 => ((milllaw3_written.f k a1 a3).bind fun t535 => (if t534.size + 1 ≤ 9223372036854775807 then (if 2 + t535.size ≤ 9223372036854775807 then (if (2 + t535.size) + 1 ≤ 9223372036854775807 then ((numeral_Compare.f k 16 (t534 ++ (⟨#[120]⟩ : ByteArray)) (((⟨#[32, 32]⟩ : ByteArray) ++ t535) ++ (⟨#[47]⟩ : ByteArray))).bind fun t536 => (if t536 = (-1) then (if 1 + t534.size ≤ 9223372036854775807 then (if (1 + t534.size) + 1 ≤ 9223372036854775807 then (if t535.size + 1 ≤ 9223372036854775807 then ((numeral_Compare.f k 32 (((⟨#[9]⟩ : ByteArray) ++ t534) ++ (⟨#[120]⟩ : ByteArray)) (t535 ++ (⟨#[47]⟩ : ByteArray))).bind fun t537 => (if t537 = (-1) then (if 1 + t535.size ≤ 9223372036854775807 then (if (1 + t535.size) + 1 ≤ 9223372036854775807 then ((numeral_Compare.f k 64 (t534 ++ (⟨#[120]⟩ : ByteArray)) (((⟨#[32]⟩ : ByteArray) ++ t535) ++ (⟨#[47]⟩ : ByteArray))).bind fun t538 => (if t538 = (-1) then (if a0 < 0 then (some true) else (if a1 < 0 then (some true) else ((numeral_Compare.f k 256 t534 t535).bind fun t539 => (some (t539 == (-1)))))) else (some false))) else (none)) else (none)) else (some false))) else (none)) else (none)) else (none)) else (some false))) else (none)) else (none)) else (none))))) else (if a0 > a1 then ((milllaw3_written.f k a0 a2).bind fun t540 => ((milllaw3_written.f k a1 a3).bind fun t541 => (if t540.size + 1 ≤ 9223372036854775807 then (if 2 + t541.size ≤ 9223372036854775807 then (if (2 + t541.size) + 1 ≤ 9223372036854775807 then ((numeral_Compare.f k 16 (t540 ++ (⟨#[120]⟩ : ByteArray)) (((⟨#[32, 32]⟩ : ByteArray) ++ t541) ++ (⟨#[47]⟩ : ByteArray))).bind fun t542 => (if t542 = 1 then (if 1 + t540.size ≤ 9223372036854775807 then (if (1 + t540.size) + 1 ≤ 9223372036854775807 then (if t541.size + 1 ≤ 9223372036854775807 then ((numeral_Compare.f k 32 (((⟨#[9]⟩ : ByteArray) ++ t540) ++ (⟨#[120]⟩ : ByteArray)) (t541 ++ (⟨#[47]⟩ : ByteArray))).bind fun t543 => (if t543 = 1 then (if 1 + t541.size ≤ 9223372036854775807 then (if (1 + t541.size) + 1 ≤ 9223372036854775807 then ((numeral_Compare.f k 64 (t540 ++ (⟨#[120]⟩ : ByteArray)) (((⟨#[32]⟩ : ByteArray) ++ t541) ++ (⟨#[47]⟩ : ByteArray))).bind fun t544 => (if t544 = 1 then (if a0 < 0 then (some true) else (if a1 < 0 then (some true) else ((numeral_Compare.f k 256 t540 t541).bind fun t545 => (some (t545 == 1))))) else (some false))) else (none)) else (none)) else (some false))) else (none)) else (none)) else (none)) else (some false))) else (none)) else (none)) else (none)))) else ((milllaw3_written.f k a0 a2).bind fun t546 => ((milllaw3_written.f k a1 a3).bind fun t547 => (if t546.size + 1 ≤ 9223372036854775807 then (if 2 + t547.size ≤ 9223372036854775807 then (if (2 + t547.size) + 1 ≤ 9223372036854775807 then ((numeral_Compare.f k 16 (t546 ++ (⟨#[120]⟩ : ByteArray)) (((⟨#[32, 32]⟩ : ByteArray) ++ t547) ++ (⟨#[47]⟩ : ByteArray))).bind fun t548 => (if t548 = 0 then (if 1 + t546.size ≤ 9223372036854775807 then (if (1 + t546.size) + 1 ≤ 9223372036854775807 then (if t547.size + 1 ≤ 9223372036854775807 then ((numeral_Compare.f k 32 (((⟨#[9]⟩ : ByteArray) ++ t546) ++ (⟨#[120]⟩ : ByteArray)) (t547 ++ (⟨#[47]⟩ : ByteArray))).bind fun t549 => (if t549 = 0 then (if 1 + t547.size ≤ 9223372036854775807 then (if (1 + t547.size) + 1 ≤ 9223372036854775807 then ((numeral_Compare.f k 64 (t546 ++ (⟨#[120]⟩ : ByteArray)) (((⟨#[32]⟩ : ByteArray) ++ t547) ++ (⟨#[47]⟩ : ByteArray))).bind fun t550 => (if t550 = 0 then (if a0 < 0 then (some true) else (if a1 < 0 then (some true) else ((numeral_Compare.f k 256 t546 t547).bind fun t551 => (some (t551 == 0))))) else (some false))) else (none)) else (none)) else (some false))) else (none)) else (none)) else (none)) else (some false))) else (none)) else (none)) else (none)))))))))))))) = some r := h
 clear h
 by_cases c5 : a0 ≤ (-4611686018427387904)
 ·
  rw [if_pos c5] at H
  have c5b0 : decide (a0 ≤ (-4611686018427387904)) = true := decide_eq_true c5
  clear c5
  obtain rfl := Option.some.inj H
  go_enter Tryd.func8, Tryd.ntmps8
  go_wp2
  go_ret
  exact ⟨qnw3_, qnw0_⟩
 ·
  rw [if_neg c5] at H
  have c5b0 : decide (a0 ≤ (-4611686018427387904)) = false := decide_eq_false c5
  clear c5
  by_cases c6 : a0 ≥ 4611686018427387904
  ·
   rw [if_pos c6] at H
   have c6b0 : decide (4611686018427387904 ≤ a0) = true := decide_eq_true c6
   clear c6
   obtain rfl := Option.some.inj H
   go_enter Tryd.func8, Tryd.ntmps8
   go_wp2
   go_ret
   exact ⟨qnw3_, qnw0_⟩
  ·
   rw [if_neg c6] at H
   have c6b0 : decide (4611686018427387904 ≤ a0) = false := decide_eq_false c6
   clear c6
   by_cases c7 : a1 ≤ (-4611686018427387904)
   ·
    rw [if_pos c7] at H
    have c7b0 : decide (a1 ≤ (-4611686018427387904)) = true := decide_eq_true c7
    clear c7
    obtain rfl := Option.some.inj H
    go_enter Tryd.func8, Tryd.ntmps8
    go_wp2
    go_ret
    exact ⟨qnw3_, qnw0_⟩
   ·
    rw [if_neg c7] at H
    have c7b0 : decide (a1 ≤ (-4611686018427387904)) = false := decide_eq_false c7
    clear c7
    by_cases c8 : a1 ≥ 4611686018427387904
    ·
     rw [if_pos c8] at H
     have c8b0 : decide (4611686018427387904 ≤ a1) = true := decide_eq_true c8
     clear c8
     obtain rfl := Option.some.inj H
     go_enter Tryd.func8, Tryd.ntmps8
     go_wp2
     go_ret
     exact ⟨qnw3_, qnw0_⟩
    ·
     rw [if_neg c8] at H
     have c8b0 : decide (4611686018427387904 ≤ a1) = false := decide_eq_false c8
     clear c8
     by_cases c9 : a2 < 0
     ·
      rw [if_pos c9] at H
      have c9b0 : decide (a2 < 0) = true := decide_eq_true c9
      clear c9
      obtain rfl := Option.some.inj H
      go_enter Tryd.func8, Tryd.ntmps8
      go_wp2
      go_ret
      exact ⟨qnw3_, qnw0_⟩
     ·
      rw [if_neg c9] at H
      have c9b0 : decide (a2 < 0) = false := decide_eq_false c9
      clear c9
      by_cases c10 : a2 > 40
      ·
       rw [if_pos c10] at H
       have c10b0 : decide (40 < a2) = true := decide_eq_true c10
       clear c10
       obtain rfl := Option.some.inj H
       go_enter Tryd.func8, Tryd.ntmps8
       go_wp2
       go_ret
       exact ⟨qnw3_, qnw0_⟩
      ·
       rw [if_neg c10] at H
       have c10b0 : decide (40 < a2) = false := decide_eq_false c10
       clear c10
       by_cases c11 : a3 < 0
       ·
        rw [if_pos c11] at H
        have c11b0 : decide (a3 < 0) = true := decide_eq_true c11
        clear c11
        obtain rfl := Option.some.inj H
        go_enter Tryd.func8, Tryd.ntmps8
        go_wp2
        go_ret
        exact ⟨qnw3_, qnw0_⟩
       ·
        rw [if_neg c11] at H
        have c11b0 : decide (a3 < 0) = false := decide_eq_false c11
        clear c11
        by_cases c12 : a3 > 40
        ·
         rw [if_pos c12] at H
         have c12b0 : decide (40 < a3) = true := decide_eq_true c12
         clear c12
         obtain rfl := Option.some.inj H
         go_enter Tryd.func8, Tryd.ntmps8
         go_wp2
         go_ret
         exact ⟨qnw3_, qnw0_⟩
        ·
         rw [if_neg c12] at H
         have c12b0 : decide (40 < a3) = false := decide_eq_false c12
         clear c12
         by_cases c13 : a0 < a1
         ·
          rw [if_pos c13] at H
          have c13b0 : decide (a0 < a1) = true := decide_eq_true c13
          clear c13
          by_cases c14 : a0 > a1
          ·
           rw [if_pos c14] at H
           have c14b0 : decide (a1 < a0) = true := decide_eq_true c14
           clear c14
           replace H := Option.bind_eq_some_iff.mp H
           obtain ⟨t528, A150, H⟩ := H
           replace H : ((milllaw3_written.f k a1 a3).bind fun t529 => (if t528.size + 1 ≤ 9223372036854775807 then (if 2 + t529.size ≤ 9223372036854775807 then (if (2 + t529.size) + 1 ≤ 9223372036854775807 then ((numeral_Compare.f k 16 (t528 ++ (⟨#[120]⟩ : ByteArray)) (((⟨#[32, 32]⟩ : ByteArray) ++ t529) ++ (⟨#[47]⟩ : ByteArray))).bind fun t530 => (if t530 = 1 then (if 1 + t528.size ≤ 9223372036854775807 then (if (1 + t528.size) + 1 ≤ 9223372036854775807 then (if t529.size + 1 ≤ 9223372036854775807 then ((numeral_Compare.f k 32 (((⟨#[9]⟩ : ByteArray) ++ t528) ++ (⟨#[120]⟩ : ByteArray)) (t529 ++ (⟨#[47]⟩ : ByteArray))).bind fun t531 => (if t531 = 1 then (if 1 + t529.size ≤ 9223372036854775807 then (if (1 + t529.size) + 1 ≤ 9223372036854775807 then ((numeral_Compare.f k 64 (t528 ++ (⟨#[120]⟩ : ByteArray)) (((⟨#[32]⟩ : ByteArray) ++ t529) ++ (⟨#[47]⟩ : ByteArray))).bind fun t532 => (if t532 = 1 then (if a0 < 0 then (some true) else (if a1 < 0 then (some true) else ((numeral_Compare.f k 256 t528 t529).bind fun t533 => (some (t533 == 1))))) else (some false))) else (none)) else (none)) else (some false))) else (none)) else (none)) else (none)) else (some false))) else (none)) else (none)) else (none))) = some r := H
           have A15 := Aside0.mk A150
           clear A150
           replace H := Option.bind_eq_some_iff.mp H
           obtain ⟨t529, A160, H⟩ := H
           replace H : (if t528.size + 1 ≤ 9223372036854775807 then (if 2 + t529.size ≤ 9223372036854775807 then (if (2 + t529.size) + 1 ≤ 9223372036854775807 then ((numeral_Compare.f k 16 (t528 ++ (⟨#[120]⟩ : ByteArray)) (((⟨#[32, 32]⟩ : ByteArray) ++ t529) ++ (⟨#[47]⟩ : ByteArray))).bind fun t530 => (if t530 = 1 then (if 1 + t528.size ≤ 9223372036854775807 then (if (1 + t528.size) + 1 ≤ 9223372036854775807 then (if t529.size + 1 ≤ 9223372036854775807 then ((numeral_Compare.f k 32 (((⟨#[9]⟩ : ByteArray) ++ t528) ++ (⟨#[120]⟩ : ByteArray)) (t529 ++ (⟨#[47]⟩ : ByteArray))).bind fun t531 => (if t531 = 1 then (if 1 + t529.size ≤ 9223372036854775807 then (if (1 + t529.size) + 1 ≤ 9223372036854775807 then ((numeral_Compare.f k 64 (t528 ++ (⟨#[120]⟩ : ByteArray)) (((⟨#[32]⟩ : ByteArray) ++ t529) ++ (⟨#[47]⟩ : ByteArray))).bind fun t532 => (if t532 = 1 then (if a0 < 0 then (some true) else (if a1 < 0 then (some true) else ((numeral_Compare.f k 256 t528 t529).bind fun t533 => (some (t533 == 1))))) else (some false))) else (none)) else (none)) else (some false))) else (none)) else (none)) else (none)) else (some false))) else (none)) else (none)) else (none)) = some r := H
           have A16 := Aside0.mk A160
           clear A160
           by_cases c17 : t528.size + 1 ≤ 9223372036854775807
           ·
            rw [if_pos c17] at H
            have c17b0 := eq_true c17
            have c17b1 : decide (t528.size + 1 ≤ 9223372036854775807) = true := decide_eq_true c17
            try have c17b2 : (9223372036854775807 < t528.size + 1) = False := eq_false (Nat.not_lt.2 c17)
            by_cases c18 : 2 + t529.size ≤ 9223372036854775807
            ·
             rw [if_pos c18] at H
             have c18b0 := eq_true c18
             have c18b1 : decide (2 + t529.size ≤ 9223372036854775807) = true := decide_eq_true c18
             try have c18b2 : (9223372036854775807 < 2 + t529.size) = False := eq_false (Nat.not_lt.2 c18)
             by_cases c19 : (2 + t529.size) + 1 ≤ 9223372036854775807
             ·
              rw [if_pos c19] at H
              have c19b0 := eq_true c19
              have c19b1 : decide ((2 + t529.size) + 1 ≤ 9223372036854775807) = true := decide_eq_true c19
              try have c19b2 : (9223372036854775807 < (2 + t529.size) + 1) = False := eq_false (Nat.not_lt.2 c19)
              replace H := Option.bind_eq_some_iff.mp H
              obtain ⟨t530, A200, H⟩ := H
              replace H : (if t530 = 1 then (if 1 + t528.size ≤ 9223372036854775807 then (if (1 + t528.size) + 1 ≤ 9223372036854775807 then (if t529.size + 1 ≤ 9223372036854775807 then ((numeral_Compare.f k 32 (((⟨#[9]⟩ : ByteArray) ++ t528) ++ (⟨#[120]⟩ : ByteArray)) (t529 ++ (⟨#[47]⟩ : ByteArray))).bind fun t531 => (if t531 = 1 then (if 1 + t529.size ≤ 9223372036854775807 then (if (1 + t529.size) + 1 ≤ 9223372036854775807 then ((numeral_Compare.f k 64 (t528 ++ (⟨#[120]⟩ : ByteArray)) (((⟨#[32]⟩ : ByteArray) ++ t529) ++ (⟨#[47]⟩ : ByteArray))).bind fun t532 => (if t532 = 1 then (if a0 < 0 then (some true) else (if a1 < 0 then (some true) else ((numeral_Compare.f k 256 t528 t529).bind fun t533 => (some (t533 == 1))))) else (some false))) else (none)) else (none)) else (some false))) else (none)) else (none)) else (none)) else (some false)) = some r := H
              have A20 := Aside0.mk A200
              clear A200
              by_cases c21 : t530 = 1
              ·
               rw [if_pos c21] at H
               have c21b0 : (t530 == 1) = true := beq_iff_eq.mpr c21
               have c21b1 : (t530 != 1) = false := bne_eq_false_iff_eq.mpr c21
               clear c21
               by_cases c22 : 1 + t528.size ≤ 9223372036854775807
               ·
                rw [if_pos c22] at H
                have c22b0 := eq_true c22
                have c22b1 : decide (1 + t528.size ≤ 9223372036854775807) = true := decide_eq_true c22
                try have c22b2 : (9223372036854775807 < 1 + t528.size) = False := eq_false (Nat.not_lt.2 c22)
                by_cases c23 : (1 + t528.size) + 1 ≤ 9223372036854775807
                ·
                 rw [if_pos c23] at H
                 have c23b0 := eq_true c23
                 have c23b1 : decide ((1 + t528.size) + 1 ≤ 9223372036854775807) = true := decide_eq_true c23
                 try have c23b2 : (9223372036854775807 < (1 + t528.size) + 1) = False := eq_false (Nat.not_lt.2 c23)
                 by_cases c24 : t529.size + 1 ≤ 9223372036854775807
                 ·
                  rw [if_pos c24] at H
                  have c24b0 := eq_true c24
                  have c24b1 : decide (t529.size + 1 ≤ 9223372036854775807) = true := decide_eq_true c24
                  try have c24b2 : (9223372036854775807 < t529.size + 1) = False := eq_false (Nat.not_lt.2 c24)
                  replace H := Option.bind_eq_some_iff.mp H
                  obtain ⟨t531, A250, H⟩ := H
                  replace H : (if t531 = 1 then (if 1 + t529.size ≤ 9223372036854775807 then (if (1 + t529.size) + 1 ≤ 9223372036854775807 then ((numeral_Compare.f k 64 (t528 ++ (⟨#[120]⟩ : ByteArray)) (((⟨#[32]⟩ : ByteArray) ++ t529) ++ (⟨#[47]⟩ : ByteArray))).bind fun t532 => (if t532 = 1 then (if a0 < 0 then (some true) else (if a1 < 0 then (some true) else ((numeral_Compare.f k 256 t528 t529).bind fun t533 => (some (t533 == 1))))) else (some false))) else (none)) else (none)) else (some false)) = some r := H
                  have A25 := Aside0.mk A250
                  clear A250
                  by_cases c26 : t531 = 1
                  ·
                   rw [if_pos c26] at H
                   have c26b0 : (t531 == 1) = true := beq_iff_eq.mpr c26
                   have c26b1 : (t531 != 1) = false := bne_eq_false_iff_eq.mpr c26
                   clear c26
                   by_cases c27 : 1 + t529.size ≤ 9223372036854775807
                   ·
                    rw [if_pos c27] at H
                    have c27b0 := eq_true c27
                    have c27b1 : decide (1 + t529.size ≤ 9223372036854775807) = true := decide_eq_true c27
                    try have c27b2 : (9223372036854775807 < 1 + t529.size) = False := eq_false (Nat.not_lt.2 c27)
                    by_cases c28 : (1 + t529.size) + 1 ≤ 9223372036854775807
                    ·
                     rw [if_pos c28] at H
                     have c28b0 := eq_true c28
                     have c28b1 : decide ((1 + t529.size) + 1 ≤ 9223372036854775807) = true := decide_eq_true c28
                     try have c28b2 : (9223372036854775807 < (1 + t529.size) + 1) = False := eq_false (Nat.not_lt.2 c28)
                     replace H := Option.bind_eq_some_iff.mp H
                     obtain ⟨t532, A290, H⟩ := H
                     replace H : (if t532 = 1 then (if a0 < 0 then (some true) else (if a1 < 0 then (some true) else ((numeral_Compare.f k 256 t528 t529).bind fun t533 => (some (t533 == 1))))) else (some false)) = some r := H
                     have A29 := Aside0.mk A290
                     clear A290
                     by_cases c30 : t532 = 1
                     ·
                      rw [if_pos c30] at H
                      have c30b0 : (t532 == 1) = true := beq_iff_eq.mpr c30
                      have c30b1 : (t532 != 1) = false := bne_eq_false_iff_eq.mpr c30
                      clear c30
                      by_cases c31 : a0 < 0
                      ·
                       rw [if_pos c31] at H
                       have c31b0 : decide (a0 < 0) = true := decide_eq_true c31
                       clear c31
                       obtain rfl := Option.some.inj H
                       go_enter Tryd.func8, Tryd.ntmps8
                       have tk37 : True := trivial; have tk38 : True := trivial; have tk39 : True := trivial; have tk40 : True := trivial; have tk41 : True := trivial
                       go_wp2_with (first | (have ztk37 := tk37; clear tk37 ztk37; (with_reducible refine gate_callee (f := 15) rfl ?_); refine goesL_ (some 50) rfl rfl Tryd.func15 (by kernel_rfl) rfl #[.int .i64 a0, .int .i64 a2] rfl qnw1_ ?_; (with_reducible refine (milllaw3_written.calls k a0 a2 t528 _ A15.out).mono ?_); rintro e w32 ⟨rfl, hb⟩; refine ⟨_, rfl, ?_⟩; have n0_ := Aside0.mk (below_step qnw0_ hb); clear HB; have HB := n0_; clear n0_; (try clear hb); (try clear hb2); (try clear hk); (try clear hi)) | (have ztk38 := tk38; clear tk38 ztk38; (with_reducible refine gate_callee (f := 15) rfl ?_); refine goesL_ (some 53) rfl rfl Tryd.func15 (by kernel_rfl) rfl #[.int .i64 a1, .int .i64 a3] rfl qnw1_ ?_; (with_reducible refine (milllaw3_written.calls k a1 a3 t529 _ A16.out).mono ?_); rintro e w33 ⟨rfl, hb⟩; refine ⟨_, rfl, ?_⟩; have n0_ := Aside0.mk (below_step qnw0_ hb); clear HB; have HB := n0_; clear n0_; (try clear hb); (try clear hb2); (try clear hk); (try clear hi)) | (have ztk39 := tk39; clear tk39 ztk39; (with_reducible refine gate_callee (f := 27) rfl ?_); refine goesL_ (some 59) rfl rfl Tryd.func27 (by kernel_rfl) rfl #[.int .u16 16, .string (t528 ++ (⟨#[120]⟩ : ByteArray)), .string (((⟨#[32, 32]⟩ : ByteArray) ++ t529) ++ (⟨#[47]⟩ : ByteArray))] rfl qnw1_ ?_; (with_reducible refine (numeral_Compare.calls k 16 (t528 ++ (⟨#[120]⟩ : ByteArray)) (((⟨#[32, 32]⟩ : ByteArray) ++ t529) ++ (⟨#[47]⟩ : ByteArray)) t530 _ ?side1 A20.out).mono ?_); (case side1 => exact GOK.below HGL.out qnw0_); rintro e w34 ⟨rfl, hb⟩; refine ⟨_, rfl, ?_⟩; have n0_ := Aside0.mk (below_step qnw0_ hb); clear HB; have HB := n0_; clear n0_; (try clear hb); (try clear hb2); (try clear hk); (try clear hi)) | (have ztk40 := tk40; clear tk40 ztk40; go_at_call 27; (with_reducible refine (numeral_Compare.calls k 32 (((⟨#[9]⟩ : ByteArray) ++ t528) ++ (⟨#[120]⟩ : ByteArray)) (t529 ++ (⟨#[47]⟩ : ByteArray)) t531 _ ?side1 A25.out).mono ?_); (case side1 => exact GOK.below HGL.out qnw0_); rintro e w35 ⟨rfl, hb⟩; have n0_ := Aside0.mk (below_step qnw0_ hb); clear HB; have HB := n0_; clear n0_; (try clear hb); (try clear hb2); (try clear hk); (try clear hi)) | (have ztk41 := tk41; clear tk41 ztk41; go_at_call 27; (with_reducible refine (numeral_Compare.calls k 64 (t528 ++ (⟨#[120]⟩ : ByteArray)) (((⟨#[32]⟩ : ByteArray) ++ t529) ++ (⟨#[47]⟩ : ByteArray)) t532 _ ?side1 A29.out).mono ?_); (case side1 => exact GOK.below HGL.out qnw0_); rintro e w36 ⟨rfl, hb⟩; have n0_ := Aside0.mk (below_step qnw0_ hb); clear HB; have HB := n0_; clear n0_; (try clear hb); (try clear hb2); (try clear hk); (try clear hi)))
                       go_ret
                       exact ⟨qnw3_, qnw0_⟩
                      ·
                       rw [if_neg c31] at H
                       have c31b0 : decide (a0 < 0) = false := decide_eq_false c31
                       clear c31
                       by_cases c42 : a1 < 0
                       ·
                        rw [if_pos c42] at H
                        have c42b0 : decide (a1 < 0) = true := decide_eq_true c42
                        clear c42
                        obtain rfl := Option.some.inj H
                        go_enter Tryd.func8, Tryd.ntmps8
                        have tk48 : True := trivial; have tk49 : True := trivial; have tk50 : True := trivial; have tk51 : True := trivial; have tk52 : True := trivial
                        go_wp2_with (first | (have ztk48 := tk48; clear tk48 ztk48; (with_reducible refine gate_callee (f := 15) rfl ?_); refine goesL_ (some 50) rfl rfl Tryd.func15 (by kernel_rfl) rfl #[.int .i64 a0, .int .i64 a2] rfl qnw1_ ?_; (with_reducible refine (milllaw3_written.calls k a0 a2 t528 _ A15.out).mono ?_); rintro e w43 ⟨rfl, hb⟩; refine ⟨_, rfl, ?_⟩; have n0_ := Aside0.mk (below_step qnw0_ hb); clear HB; have HB := n0_; clear n0_; (try clear hb); (try clear hb2); (try clear hk); (try clear hi)) | (have ztk49 := tk49; clear tk49 ztk49; (with_reducible refine gate_callee (f := 15) rfl ?_); refine goesL_ (some 53) rfl rfl Tryd.func15 (by kernel_rfl) rfl #[.int .i64 a1, .int .i64 a3] rfl qnw1_ ?_; (with_reducible refine (milllaw3_written.calls k a1 a3 t529 _ A16.out).mono ?_); rintro e w44 ⟨rfl, hb⟩; refine ⟨_, rfl, ?_⟩; have n0_ := Aside0.mk (below_step qnw0_ hb); clear HB; have HB := n0_; clear n0_; (try clear hb); (try clear hb2); (try clear hk); (try clear hi)) | (have ztk50 := tk50; clear tk50 ztk50; (with_reducible refine gate_callee (f := 27) rfl ?_); refine goesL_ (some 59) rfl rfl Tryd.func27 (by kernel_rfl) rfl #[.int .u16 16, .string (t528 ++ (⟨#[120]⟩ : ByteArray)), .string (((⟨#[32, 32]⟩ : ByteArray) ++ t529) ++ (⟨#[47]⟩ : ByteArray))] rfl qnw1_ ?_; (with_reducible refine (numeral_Compare.calls k 16 (t528 ++ (⟨#[120]⟩ : ByteArray)) (((⟨#[32, 32]⟩ : ByteArray) ++ t529) ++ (⟨#[47]⟩ : ByteArray)) t530 _ ?side1 A20.out).mono ?_); (case side1 => exact GOK.below HGL.out qnw0_); rintro e w45 ⟨rfl, hb⟩; refine ⟨_, rfl, ?_⟩; have n0_ := Aside0.mk (below_step qnw0_ hb); clear HB; have HB := n0_; clear n0_; (try clear hb); (try clear hb2); (try clear hk); (try clear hi)) | (have ztk51 := tk51; clear tk51 ztk51; go_at_call 27; (with_reducible refine (numeral_Compare.calls k 32 (((⟨#[9]⟩ : ByteArray) ++ t528) ++ (⟨#[120]⟩ : ByteArray)) (t529 ++ (⟨#[47]⟩ : ByteArray)) t531 _ ?side1 A25.out).mono ?_); (case side1 => exact GOK.below HGL.out qnw0_); rintro e w46 ⟨rfl, hb⟩; have n0_ := Aside0.mk (below_step qnw0_ hb); clear HB; have HB := n0_; clear n0_; (try clear hb); (try clear hb2); (try clear hk); (try clear hi)) | (have ztk52 := tk52; clear tk52 ztk52; go_at_call 27; (with_reducible refine (numeral_Compare.calls k 64 (t528 ++ (⟨#[120]⟩ : ByteArray)) (((⟨#[32]⟩ : ByteArray) ++ t529) ++ (⟨#[47]⟩ : ByteArray)) t532 _ ?side1 A29.out).mono ?_); (case side1 => exact GOK.below HGL.out qnw0_); rintro e w47 ⟨rfl, hb⟩; have n0_ := Aside0.mk (below_step qnw0_ hb); clear HB; have HB := n0_; clear n0_; (try clear hb); (try clear hb2); (try clear hk); (try clear hi)))
                        go_ret
                        exact ⟨qnw3_, qnw0_⟩
                       ·
                        rw [if_neg c42] at H
                        have c42b0 : decide (a1 < 0) = false := decide_eq_false c42
                        clear c42
                        replace H := Option.bind_eq_some_iff.mp H
                        obtain ⟨t533, A530, H⟩ := H
                        replace H : (some (t533 == 1)) = some r := H
                        have A53 := Aside0.mk A530
                        clear A530
                        obtain rfl := Option.some.inj H
                        go_enter Tryd.func8, Tryd.ntmps8
                        have tk60 : True := trivial; have tk61 : True := trivial; have tk62 : True := trivial; have tk63 : True := trivial; have tk64 : True := trivial; have tk65 : True := trivial
                        go_wp2_with (first | (have ztk60 := tk60; clear tk60 ztk60; (with_reducible refine gate_callee (f := 15) rfl ?_); refine goesL_ (some 50) rfl rfl Tryd.func15 (by kernel_rfl) rfl #[.int .i64 a0, .int .i64 a2] rfl qnw1_ ?_; (with_reducible refine (milllaw3_written.calls k a0 a2 t528 _ A15.out).mono ?_); rintro e w54 ⟨rfl, hb⟩; refine ⟨_, rfl, ?_⟩; have n0_ := Aside0.mk (below_step qnw0_ hb); clear HB; have HB := n0_; clear n0_; (try clear hb); (try clear hb2); (try clear hk); (try clear hi)) | (have ztk61 := tk61; clear tk61 ztk61; (with_reducible refine gate_callee (f := 15) rfl ?_); refine goesL_ (some 53) rfl rfl Tryd.func15 (by kernel_rfl) rfl #[.int .i64 a1, .int .i64 a3] rfl qnw1_ ?_; (with_reducible refine (milllaw3_written.calls k a1 a3 t529 _ A16.out).mono ?_); rintro e w55 ⟨rfl, hb⟩; refine ⟨_, rfl, ?_⟩; have n0_ := Aside0.mk (below_step qnw0_ hb); clear HB; have HB := n0_; clear n0_; (try clear hb); (try clear hb2); (try clear hk); (try clear hi)) | (have ztk62 := tk62; clear tk62 ztk62; (with_reducible refine gate_callee (f := 27) rfl ?_); refine goesL_ (some 59) rfl rfl Tryd.func27 (by kernel_rfl) rfl #[.int .u16 16, .string (t528 ++ (⟨#[120]⟩ : ByteArray)), .string (((⟨#[32, 32]⟩ : ByteArray) ++ t529) ++ (⟨#[47]⟩ : ByteArray))] rfl qnw1_ ?_; (with_reducible refine (numeral_Compare.calls k 16 (t528 ++ (⟨#[120]⟩ : ByteArray)) (((⟨#[32, 32]⟩ : ByteArray) ++ t529) ++ (⟨#[47]⟩ : ByteArray)) t530 _ ?side1 A20.out).mono ?_); (case side1 => exact GOK.below HGL.out qnw0_); rintro e w56 ⟨rfl, hb⟩; refine ⟨_, rfl, ?_⟩; have n0_ := Aside0.mk (below_step qnw0_ hb); clear HB; have HB := n0_; clear n0_; (try clear hb); (try clear hb2); (try clear hk); (try clear hi)) | (have ztk63 := tk63; clear tk63 ztk63; go_at_call 27; (with_reducible refine (numeral_Compare.calls k 32 (((⟨#[9]⟩ : ByteArray) ++ t528) ++ (⟨#[120]⟩ : ByteArray)) (t529 ++ (⟨#[47]⟩ : ByteArray)) t531 _ ?side1 A25.out).mono ?_); (case side1 => exact GOK.below HGL.out qnw0_); rintro e w57 ⟨rfl, hb⟩; have n0_ := Aside0.mk (below_step qnw0_ hb); clear HB; have HB := n0_; clear n0_; (try clear hb); (try clear hb2); (try clear hk); (try clear hi)) | (have ztk64 := tk64; clear tk64 ztk64; go_at_call 27; (with_reducible refine (numeral_Compare.calls k 64 (t528 ++ (⟨#[120]⟩ : ByteArray)) (((⟨#[32]⟩ : ByteArray) ++ t529) ++ (⟨#[47]⟩ : ByteArray)) t532 _ ?side1 A29.out).mono ?_); (case side1 => exact GOK.below HGL.out qnw0_); rintro e w58 ⟨rfl, hb⟩; have n0_ := Aside0.mk (below_step qnw0_ hb); clear HB; have HB := n0_; clear n0_; (try clear hb); (try clear hb2); (try clear hk); (try clear hi)) | (have ztk65 := tk65; clear tk65 ztk65; go_at_call 27; (with_reducible refine (numeral_Compare.calls k 256 t528 t529 t533 _ ?side1 A53.out).mono ?_); (case side1 => exact GOK.below HGL.out qnw0_); rintro e w59 ⟨rfl, hb⟩; have n0_ := Aside0.mk (below_step qnw0_ hb); clear HB; have HB := n0_; clear n0_; (try clear hb); (try clear hb2); (try clear hk); (try clear hi)))
                        go_ret
                        exact ⟨qnw3_, qnw0_⟩
                     ·
                      rw [if_neg c30] at H
                      have c30b0 : (t532 == 1) = false := beq_eq_false_iff_ne.mpr c30
                      have c30b1 : (t532 != 1) = true := bne_iff_ne.mpr c30
                      obtain rfl := Option.some.inj H
                      go_enter Tryd.func8, Tryd.ntmps8
                      have tk71 : True := trivial; have tk72 : True := trivial; have tk73 : True := trivial; have tk74 : True := trivial; have tk75 : True := trivial
                      go_wp2_with (first | (have ztk71 := tk71; clear tk71 ztk71; (with_reducible refine gate_callee (f := 15) rfl ?_); refine goesL_ (some 50) rfl rfl Tryd.func15 (by kernel_rfl) rfl #[.int .i64 a0, .int .i64 a2] rfl qnw1_ ?_; (with_reducible refine (milllaw3_written.calls k a0 a2 t528 _ A15.out).mono ?_); rintro e w66 ⟨rfl, hb⟩; refine ⟨_, rfl, ?_⟩; have n0_ := Aside0.mk (below_step qnw0_ hb); clear HB; have HB := n0_; clear n0_; (try clear hb); (try clear hb2); (try clear hk); (try clear hi)) | (have ztk72 := tk72; clear tk72 ztk72; (with_reducible refine gate_callee (f := 15) rfl ?_); refine goesL_ (some 53) rfl rfl Tryd.func15 (by kernel_rfl) rfl #[.int .i64 a1, .int .i64 a3] rfl qnw1_ ?_; (with_reducible refine (milllaw3_written.calls k a1 a3 t529 _ A16.out).mono ?_); rintro e w67 ⟨rfl, hb⟩; refine ⟨_, rfl, ?_⟩; have n0_ := Aside0.mk (below_step qnw0_ hb); clear HB; have HB := n0_; clear n0_; (try clear hb); (try clear hb2); (try clear hk); (try clear hi)) | (have ztk73 := tk73; clear tk73 ztk73; (with_reducible refine gate_callee (f := 27) rfl ?_); refine goesL_ (some 59) rfl rfl Tryd.func27 (by kernel_rfl) rfl #[.int .u16 16, .string (t528 ++ (⟨#[120]⟩ : ByteArray)), .string (((⟨#[32, 32]⟩ : ByteArray) ++ t529) ++ (⟨#[47]⟩ : ByteArray))] rfl qnw1_ ?_; (with_reducible refine (numeral_Compare.calls k 16 (t528 ++ (⟨#[120]⟩ : ByteArray)) (((⟨#[32, 32]⟩ : ByteArray) ++ t529) ++ (⟨#[47]⟩ : ByteArray)) t530 _ ?side1 A20.out).mono ?_); (case side1 => exact GOK.below HGL.out qnw0_); rintro e w68 ⟨rfl, hb⟩; refine ⟨_, rfl, ?_⟩; have n0_ := Aside0.mk (below_step qnw0_ hb); clear HB; have HB := n0_; clear n0_; (try clear hb); (try clear hb2); (try clear hk); (try clear hi)) | (have ztk74 := tk74; clear tk74 ztk74; go_at_call 27; (with_reducible refine (numeral_Compare.calls k 32 (((⟨#[9]⟩ : ByteArray) ++ t528) ++ (⟨#[120]⟩ : ByteArray)) (t529 ++ (⟨#[47]⟩ : ByteArray)) t531 _ ?side1 A25.out).mono ?_); (case side1 => exact GOK.below HGL.out qnw0_); rintro e w69 ⟨rfl, hb⟩; have n0_ := Aside0.mk (below_step qnw0_ hb); clear HB; have HB := n0_; clear n0_; (try clear hb); (try clear hb2); (try clear hk); (try clear hi)) | (have ztk75 := tk75; clear tk75 ztk75; go_at_call 27; (with_reducible refine (numeral_Compare.calls k 64 (t528 ++ (⟨#[120]⟩ : ByteArray)) (((⟨#[32]⟩ : ByteArray) ++ t529) ++ (⟨#[47]⟩ : ByteArray)) t532 _ ?side1 A29.out).mono ?_); (case side1 => exact GOK.below HGL.out qnw0_); rintro e w70 ⟨rfl, hb⟩; have n0_ := Aside0.mk (below_step qnw0_ hb); clear HB; have HB := n0_; clear n0_; (try clear hb); (try clear hb2); (try clear hk); (try clear hi)))
                      go_ret
                      exact ⟨qnw3_, qnw0_⟩
                    ·
                     rw [if_neg c28] at H
                     exact absurd H (by simp)
                   ·
                    rw [if_neg c27] at H
                    exact absurd H (by simp)
                  ·
                   rw [if_neg c26] at H
                   have c26b0 : (t531 == 1) = false := beq_eq_false_iff_ne.mpr c26
                   have c26b1 : (t531 != 1) = true := bne_iff_ne.mpr c26
                   obtain rfl := Option.some.inj H
                   go_enter Tryd.func8, Tryd.ntmps8
                   have tk80 : True := trivial; have tk81 : True := trivial; have tk82 : True := trivial; have tk83 : True := trivial
                   go_wp2_with (first | (have ztk80 := tk80; clear tk80 ztk80; (with_reducible refine gate_callee (f := 15) rfl ?_); refine goesL_ (some 50) rfl rfl Tryd.func15 (by kernel_rfl) rfl #[.int .i64 a0, .int .i64 a2] rfl qnw1_ ?_; (with_reducible refine (milllaw3_written.calls k a0 a2 t528 _ A15.out).mono ?_); rintro e w76 ⟨rfl, hb⟩; refine ⟨_, rfl, ?_⟩; have n0_ := Aside0.mk (below_step qnw0_ hb); clear HB; have HB := n0_; clear n0_; (try clear hb); (try clear hb2); (try clear hk); (try clear hi)) | (have ztk81 := tk81; clear tk81 ztk81; (with_reducible refine gate_callee (f := 15) rfl ?_); refine goesL_ (some 53) rfl rfl Tryd.func15 (by kernel_rfl) rfl #[.int .i64 a1, .int .i64 a3] rfl qnw1_ ?_; (with_reducible refine (milllaw3_written.calls k a1 a3 t529 _ A16.out).mono ?_); rintro e w77 ⟨rfl, hb⟩; refine ⟨_, rfl, ?_⟩; have n0_ := Aside0.mk (below_step qnw0_ hb); clear HB; have HB := n0_; clear n0_; (try clear hb); (try clear hb2); (try clear hk); (try clear hi)) | (have ztk82 := tk82; clear tk82 ztk82; (with_reducible refine gate_callee (f := 27) rfl ?_); refine goesL_ (some 59) rfl rfl Tryd.func27 (by kernel_rfl) rfl #[.int .u16 16, .string (t528 ++ (⟨#[120]⟩ : ByteArray)), .string (((⟨#[32, 32]⟩ : ByteArray) ++ t529) ++ (⟨#[47]⟩ : ByteArray))] rfl qnw1_ ?_; (with_reducible refine (numeral_Compare.calls k 16 (t528 ++ (⟨#[120]⟩ : ByteArray)) (((⟨#[32, 32]⟩ : ByteArray) ++ t529) ++ (⟨#[47]⟩ : ByteArray)) t530 _ ?side1 A20.out).mono ?_); (case side1 => exact GOK.below HGL.out qnw0_); rintro e w78 ⟨rfl, hb⟩; refine ⟨_, rfl, ?_⟩; have n0_ := Aside0.mk (below_step qnw0_ hb); clear HB; have HB := n0_; clear n0_; (try clear hb); (try clear hb2); (try clear hk); (try clear hi)) | (have ztk83 := tk83; clear tk83 ztk83; go_at_call 27; (with_reducible refine (numeral_Compare.calls k 32 (((⟨#[9]⟩ : ByteArray) ++ t528) ++ (⟨#[120]⟩ : ByteArray)) (t529 ++ (⟨#[47]⟩ : ByteArray)) t531 _ ?side1 A25.out).mono ?_); (case side1 => exact GOK.below HGL.out qnw0_); rintro e w79 ⟨rfl, hb⟩; have n0_ := Aside0.mk (below_step qnw0_ hb); clear HB; have HB := n0_; clear n0_; (try clear hb); (try clear hb2); (try clear hk); (try clear hi)))
                   go_ret
                   exact ⟨qnw3_, qnw0_⟩
                 ·
                  rw [if_neg c24] at H
                  exact absurd H (by simp)
                ·
                 rw [if_neg c23] at H
                 exact absurd H (by simp)
               ·
                rw [if_neg c22] at H
                exact absurd H (by simp)
              ·
               rw [if_neg c21] at H
               have c21b0 : (t530 == 1) = false := beq_eq_false_iff_ne.mpr c21
               have c21b1 : (t530 != 1) = true := bne_iff_ne.mpr c21
               obtain rfl := Option.some.inj H
               go_enter Tryd.func8, Tryd.ntmps8
               have tk87 : True := trivial; have tk88 : True := trivial; have tk89 : True := trivial
               go_wp2_with (first | (have ztk87 := tk87; clear tk87 ztk87; (with_reducible refine gate_callee (f := 15) rfl ?_); refine goesL_ (some 50) rfl rfl Tryd.func15 (by kernel_rfl) rfl #[.int .i64 a0, .int .i64 a2] rfl qnw1_ ?_; (with_reducible refine (milllaw3_written.calls k a0 a2 t528 _ A15.out).mono ?_); rintro e w84 ⟨rfl, hb⟩; refine ⟨_, rfl, ?_⟩; have n0_ := Aside0.mk (below_step qnw0_ hb); clear HB; have HB := n0_; clear n0_; (try clear hb); (try clear hb2); (try clear hk); (try clear hi)) | (have ztk88 := tk88; clear tk88 ztk88; (with_reducible refine gate_callee (f := 15) rfl ?_); refine goesL_ (some 53) rfl rfl Tryd.func15 (by kernel_rfl) rfl #[.int .i64 a1, .int .i64 a3] rfl qnw1_ ?_; (with_reducible refine (milllaw3_written.calls k a1 a3 t529 _ A16.out).mono ?_); rintro e w85 ⟨rfl, hb⟩; refine ⟨_, rfl, ?_⟩; have n0_ := Aside0.mk (below_step qnw0_ hb); clear HB; have HB := n0_; clear n0_; (try clear hb); (try clear hb2); (try clear hk); (try clear hi)) | (have ztk89 := tk89; clear tk89 ztk89; (with_reducible refine gate_callee (f := 27) rfl ?_); refine goesL_ (some 59) rfl rfl Tryd.func27 (by kernel_rfl) rfl #[.int .u16 16, .string (t528 ++ (⟨#[120]⟩ : ByteArray)), .string (((⟨#[32, 32]⟩ : ByteArray) ++ t529) ++ (⟨#[47]⟩ : ByteArray))] rfl qnw1_ ?_; (with_reducible refine (numeral_Compare.calls k 16 (t528 ++ (⟨#[120]⟩ : ByteArray)) (((⟨#[32, 32]⟩ : ByteArray) ++ t529) ++ (⟨#[47]⟩ : ByteArray)) t530 _ ?side1 A20.out).mono ?_); (case side1 => exact GOK.below HGL.out qnw0_); rintro e w86 ⟨rfl, hb⟩; refine ⟨_, rfl, ?_⟩; have n0_ := Aside0.mk (below_step qnw0_ hb); clear HB; have HB := n0_; clear n0_; (try clear hb); (try clear hb2); (try clear hk); (try clear hi)))
               go_ret
               exact ⟨qnw3_, qnw0_⟩
             ·
              rw [if_neg c19] at H
              exact absurd H (by simp)
            ·
             rw [if_neg c18] at H
             exact absurd H (by simp)
           ·
            rw [if_neg c17] at H
            exact absurd H (by simp)
          ·
           rw [if_neg c14] at H
           have c14b0 : decide (a1 < a0) = false := decide_eq_false c14
           clear c14
           replace H := Option.bind_eq_some_iff.mp H
           obtain ⟨t534, A900, H⟩ := H
           replace H : ((milllaw3_written.f k a1 a3).bind fun t535 => (if t534.size + 1 ≤ 9223372036854775807 then (if 2 + t535.size ≤ 9223372036854775807 then (if (2 + t535.size) + 1 ≤ 9223372036854775807 then ((numeral_Compare.f k 16 (t534 ++ (⟨#[120]⟩ : ByteArray)) (((⟨#[32, 32]⟩ : ByteArray) ++ t535) ++ (⟨#[47]⟩ : ByteArray))).bind fun t536 => (if t536 = (-1) then (if 1 + t534.size ≤ 9223372036854775807 then (if (1 + t534.size) + 1 ≤ 9223372036854775807 then (if t535.size + 1 ≤ 9223372036854775807 then ((numeral_Compare.f k 32 (((⟨#[9]⟩ : ByteArray) ++ t534) ++ (⟨#[120]⟩ : ByteArray)) (t535 ++ (⟨#[47]⟩ : ByteArray))).bind fun t537 => (if t537 = (-1) then (if 1 + t535.size ≤ 9223372036854775807 then (if (1 + t535.size) + 1 ≤ 9223372036854775807 then ((numeral_Compare.f k 64 (t534 ++ (⟨#[120]⟩ : ByteArray)) (((⟨#[32]⟩ : ByteArray) ++ t535) ++ (⟨#[47]⟩ : ByteArray))).bind fun t538 => (if t538 = (-1) then (if a0 < 0 then (some true) else (if a1 < 0 then (some true) else ((numeral_Compare.f k 256 t534 t535).bind fun t539 => (some (t539 == (-1)))))) else (some false))) else (none)) else (none)) else (some false))) else (none)) else (none)) else (none)) else (some false))) else (none)) else (none)) else (none))) = some r := H
           have A90 := Aside0.mk A900
           clear A900
           replace H := Option.bind_eq_some_iff.mp H
           obtain ⟨t535, A910, H⟩ := H
           replace H : (if t534.size + 1 ≤ 9223372036854775807 then (if 2 + t535.size ≤ 9223372036854775807 then (if (2 + t535.size) + 1 ≤ 9223372036854775807 then ((numeral_Compare.f k 16 (t534 ++ (⟨#[120]⟩ : ByteArray)) (((⟨#[32, 32]⟩ : ByteArray) ++ t535) ++ (⟨#[47]⟩ : ByteArray))).bind fun t536 => (if t536 = (-1) then (if 1 + t534.size ≤ 9223372036854775807 then (if (1 + t534.size) + 1 ≤ 9223372036854775807 then (if t535.size + 1 ≤ 9223372036854775807 then ((numeral_Compare.f k 32 (((⟨#[9]⟩ : ByteArray) ++ t534) ++ (⟨#[120]⟩ : ByteArray)) (t535 ++ (⟨#[47]⟩ : ByteArray))).bind fun t537 => (if t537 = (-1) then (if 1 + t535.size ≤ 9223372036854775807 then (if (1 + t535.size) + 1 ≤ 9223372036854775807 then ((numeral_Compare.f k 64 (t534 ++ (⟨#[120]⟩ : ByteArray)) (((⟨#[32]⟩ : ByteArray) ++ t535) ++ (⟨#[47]⟩ : ByteArray))).bind fun t538 => (if t538 = (-1) then (if a0 < 0 then (some true) else (if a1 < 0 then (some true) else ((numeral_Compare.f k 256 t534 t535).bind fun t539 => (some (t539 == (-1)))))) else (some false))) else (none)) else (none)) else (some false))) else (none)) else (none)) else (none)) else (some false))) else (none)) else (none)) else (none)) = some r := H
           have A91 := Aside0.mk A910
           clear A910
           by_cases c92 : t534.size + 1 ≤ 9223372036854775807
           ·
            rw [if_pos c92] at H
            have c92b0 := eq_true c92
            have c92b1 : decide (t534.size + 1 ≤ 9223372036854775807) = true := decide_eq_true c92
            try have c92b2 : (9223372036854775807 < t534.size + 1) = False := eq_false (Nat.not_lt.2 c92)
            by_cases c93 : 2 + t535.size ≤ 9223372036854775807
            ·
             rw [if_pos c93] at H
             have c93b0 := eq_true c93
             have c93b1 : decide (2 + t535.size ≤ 9223372036854775807) = true := decide_eq_true c93
             try have c93b2 : (9223372036854775807 < 2 + t535.size) = False := eq_false (Nat.not_lt.2 c93)
             by_cases c94 : (2 + t535.size) + 1 ≤ 9223372036854775807
             ·
              rw [if_pos c94] at H
              have c94b0 := eq_true c94
              have c94b1 : decide ((2 + t535.size) + 1 ≤ 9223372036854775807) = true := decide_eq_true c94
              try have c94b2 : (9223372036854775807 < (2 + t535.size) + 1) = False := eq_false (Nat.not_lt.2 c94)
              replace H := Option.bind_eq_some_iff.mp H
              obtain ⟨t536, A950, H⟩ := H
              replace H : (if t536 = (-1) then (if 1 + t534.size ≤ 9223372036854775807 then (if (1 + t534.size) + 1 ≤ 9223372036854775807 then (if t535.size + 1 ≤ 9223372036854775807 then ((numeral_Compare.f k 32 (((⟨#[9]⟩ : ByteArray) ++ t534) ++ (⟨#[120]⟩ : ByteArray)) (t535 ++ (⟨#[47]⟩ : ByteArray))).bind fun t537 => (if t537 = (-1) then (if 1 + t535.size ≤ 9223372036854775807 then (if (1 + t535.size) + 1 ≤ 9223372036854775807 then ((numeral_Compare.f k 64 (t534 ++ (⟨#[120]⟩ : ByteArray)) (((⟨#[32]⟩ : ByteArray) ++ t535) ++ (⟨#[47]⟩ : ByteArray))).bind fun t538 => (if t538 = (-1) then (if a0 < 0 then (some true) else (if a1 < 0 then (some true) else ((numeral_Compare.f k 256 t534 t535).bind fun t539 => (some (t539 == (-1)))))) else (some false))) else (none)) else (none)) else (some false))) else (none)) else (none)) else (none)) else (some false)) = some r := H
              have A95 := Aside0.mk A950
              clear A950
              by_cases c96 : t536 = (-1)
              ·
               rw [if_pos c96] at H
               have c96b0 : (t536 == (-1)) = true := beq_iff_eq.mpr c96
               have c96b1 : (t536 != (-1)) = false := bne_eq_false_iff_eq.mpr c96
               clear c96
               by_cases c97 : 1 + t534.size ≤ 9223372036854775807
               ·
                rw [if_pos c97] at H
                have c97b0 := eq_true c97
                have c97b1 : decide (1 + t534.size ≤ 9223372036854775807) = true := decide_eq_true c97
                try have c97b2 : (9223372036854775807 < 1 + t534.size) = False := eq_false (Nat.not_lt.2 c97)
                by_cases c98 : (1 + t534.size) + 1 ≤ 9223372036854775807
                ·
                 rw [if_pos c98] at H
                 have c98b0 := eq_true c98
                 have c98b1 : decide ((1 + t534.size) + 1 ≤ 9223372036854775807) = true := decide_eq_true c98
                 try have c98b2 : (9223372036854775807 < (1 + t534.size) + 1) = False := eq_false (Nat.not_lt.2 c98)
                 by_cases c99 : t535.size + 1 ≤ 9223372036854775807
                 ·
                  rw [if_pos c99] at H
                  have c99b0 := eq_true c99
                  have c99b1 : decide (t535.size + 1 ≤ 9223372036854775807) = true := decide_eq_true c99
                  try have c99b2 : (9223372036854775807 < t535.size + 1) = False := eq_false (Nat.not_lt.2 c99)
                  replace H := Option.bind_eq_some_iff.mp H
                  obtain ⟨t537, A1000, H⟩ := H
                  replace H : (if t537 = (-1) then (if 1 + t535.size ≤ 9223372036854775807 then (if (1 + t535.size) + 1 ≤ 9223372036854775807 then ((numeral_Compare.f k 64 (t534 ++ (⟨#[120]⟩ : ByteArray)) (((⟨#[32]⟩ : ByteArray) ++ t535) ++ (⟨#[47]⟩ : ByteArray))).bind fun t538 => (if t538 = (-1) then (if a0 < 0 then (some true) else (if a1 < 0 then (some true) else ((numeral_Compare.f k 256 t534 t535).bind fun t539 => (some (t539 == (-1)))))) else (some false))) else (none)) else (none)) else (some false)) = some r := H
                  have A100 := Aside0.mk A1000
                  clear A1000
                  by_cases c101 : t537 = (-1)
                  ·
                   rw [if_pos c101] at H
                   have c101b0 : (t537 == (-1)) = true := beq_iff_eq.mpr c101
                   have c101b1 : (t537 != (-1)) = false := bne_eq_false_iff_eq.mpr c101
                   clear c101
                   by_cases c102 : 1 + t535.size ≤ 9223372036854775807
                   ·
                    rw [if_pos c102] at H
                    have c102b0 := eq_true c102
                    have c102b1 : decide (1 + t535.size ≤ 9223372036854775807) = true := decide_eq_true c102
                    try have c102b2 : (9223372036854775807 < 1 + t535.size) = False := eq_false (Nat.not_lt.2 c102)
                    by_cases c103 : (1 + t535.size) + 1 ≤ 9223372036854775807
                    ·
                     rw [if_pos c103] at H
                     have c103b0 := eq_true c103
                     have c103b1 : decide ((1 + t535.size) + 1 ≤ 9223372036854775807) = true := decide_eq_true c103
                     try have c103b2 : (9223372036854775807 < (1 + t535.size) + 1) = False := eq_false (Nat.not_lt.2 c103)
                     replace H := Option.bind_eq_some_iff.mp H
                     obtain ⟨t538, A1040, H⟩ := H
                     replace H : (if t538 = (-1) then (if a0 < 0 then (some true) else (if a1 < 0 then (some true) else ((numeral_Compare.f k 256 t534 t535).bind fun t539 => (some (t539 == (-1)))))) else (some false)) = some r := H
                     have A104 := Aside0.mk A1040
                     clear A1040
                     by_cases c105 : t538 = (-1)
                     ·
                      rw [if_pos c105] at H
                      have c105b0 : (t538 == (-1)) = true := beq_iff_eq.mpr c105
                      have c105b1 : (t538 != (-1)) = false := bne_eq_false_iff_eq.mpr c105
                      clear c105
                      by_cases c106 : a0 < 0
                      ·
                       rw [if_pos c106] at H
                       have c106b0 : decide (a0 < 0) = true := decide_eq_true c106
                       clear c106
                       obtain rfl := Option.some.inj H
                       go_enter Tryd.func8, Tryd.ntmps8
                       have tk112 : True := trivial; have tk113 : True := trivial; have tk114 : True := trivial; have tk115 : True := trivial; have tk116 : True := trivial
                       go_wp2_with (first | (have ztk112 := tk112; clear tk112 ztk112; (with_reducible refine gate_callee (f := 15) rfl ?_); refine goesL_ (some 50) rfl rfl Tryd.func15 (by kernel_rfl) rfl #[.int .i64 a0, .int .i64 a2] rfl qnw1_ ?_; (with_reducible refine (milllaw3_written.calls k a0 a2 t534 _ A90.out).mono ?_); rintro e w107 ⟨rfl, hb⟩; refine ⟨_, rfl, ?_⟩; have n0_ := Aside0.mk (below_step qnw0_ hb); clear HB; have HB := n0_; clear n0_; (try clear hb); (try clear hb2); (try clear hk); (try clear hi)) | (have ztk113 := tk113; clear tk113 ztk113; (with_reducible refine gate_callee (f := 15) rfl ?_); refine goesL_ (some 53) rfl rfl Tryd.func15 (by kernel_rfl) rfl #[.int .i64 a1, .int .i64 a3] rfl qnw1_ ?_; (with_reducible refine (milllaw3_written.calls k a1 a3 t535 _ A91.out).mono ?_); rintro e w108 ⟨rfl, hb⟩; refine ⟨_, rfl, ?_⟩; have n0_ := Aside0.mk (below_step qnw0_ hb); clear HB; have HB := n0_; clear n0_; (try clear hb); (try clear hb2); (try clear hk); (try clear hi)) | (have ztk114 := tk114; clear tk114 ztk114; (with_reducible refine gate_callee (f := 27) rfl ?_); refine goesL_ (some 59) rfl rfl Tryd.func27 (by kernel_rfl) rfl #[.int .u16 16, .string (t534 ++ (⟨#[120]⟩ : ByteArray)), .string (((⟨#[32, 32]⟩ : ByteArray) ++ t535) ++ (⟨#[47]⟩ : ByteArray))] rfl qnw1_ ?_; (with_reducible refine (numeral_Compare.calls k 16 (t534 ++ (⟨#[120]⟩ : ByteArray)) (((⟨#[32, 32]⟩ : ByteArray) ++ t535) ++ (⟨#[47]⟩ : ByteArray)) t536 _ ?side1 A95.out).mono ?_); (case side1 => exact GOK.below HGL.out qnw0_); rintro e w109 ⟨rfl, hb⟩; refine ⟨_, rfl, ?_⟩; have n0_ := Aside0.mk (below_step qnw0_ hb); clear HB; have HB := n0_; clear n0_; (try clear hb); (try clear hb2); (try clear hk); (try clear hi)) | (have ztk115 := tk115; clear tk115 ztk115; go_at_call 27; (with_reducible refine (numeral_Compare.calls k 32 (((⟨#[9]⟩ : ByteArray) ++ t534) ++ (⟨#[120]⟩ : ByteArray)) (t535 ++ (⟨#[47]⟩ : ByteArray)) t537 _ ?side1 A100.out).mono ?_); (case side1 => exact GOK.below HGL.out qnw0_); rintro e w110 ⟨rfl, hb⟩; have n0_ := Aside0.mk (below_step qnw0_ hb); clear HB; have HB := n0_; clear n0_; (try clear hb); (try clear hb2); (try clear hk); (try clear hi)) | (have ztk116 := tk116; clear tk116 ztk116; go_at_call 27; (with_reducible refine (numeral_Compare.calls k 64 (t534 ++ (⟨#[120]⟩ : ByteArray)) (((⟨#[32]⟩ : ByteArray) ++ t535) ++ (⟨#[47]⟩ : ByteArray)) t538 _ ?side1 A104.out).mono ?_); (case side1 => exact GOK.below HGL.out qnw0_); rintro e w111 ⟨rfl, hb⟩; have n0_ := Aside0.mk (below_step qnw0_ hb); clear HB; have HB := n0_; clear n0_; (try clear hb); (try clear hb2); (try clear hk); (try clear hi)))
                       go_ret
                       exact ⟨qnw3_, qnw0_⟩
                      ·
                       rw [if_neg c106] at H
                       have c106b0 : decide (a0 < 0) = false := decide_eq_false c106
                       clear c106
                       by_cases c117 : a1 < 0
                       ·
                        rw [if_pos c117] at H
                        have c117b0 : decide (a1 < 0) = true := decide_eq_true c117
                        clear c117
                        obtain rfl := Option.some.inj H
                        go_enter Tryd.func8, Tryd.ntmps8
                        have tk123 : True := trivial; have tk124 : True := trivial; have tk125 : True := trivial; have tk126 : True := trivial; have tk127 : True := trivial
                        go_wp2_with (first | (have ztk123 := tk123; clear tk123 ztk123; (with_reducible refine gate_callee (f := 15) rfl ?_); refine goesL_ (some 50) rfl rfl Tryd.func15 (by kernel_rfl) rfl #[.int .i64 a0, .int .i64 a2] rfl qnw1_ ?_; (with_reducible refine (milllaw3_written.calls k a0 a2 t534 _ A90.out).mono ?_); rintro e w118 ⟨rfl, hb⟩; refine ⟨_, rfl, ?_⟩; have n0_ := Aside0.mk (below_step qnw0_ hb); clear HB; have HB := n0_; clear n0_; (try clear hb); (try clear hb2); (try clear hk); (try clear hi)) | (have ztk124 := tk124; clear tk124 ztk124; (with_reducible refine gate_callee (f := 15) rfl ?_); refine goesL_ (some 53) rfl rfl Tryd.func15 (by kernel_rfl) rfl #[.int .i64 a1, .int .i64 a3] rfl qnw1_ ?_; (with_reducible refine (milllaw3_written.calls k a1 a3 t535 _ A91.out).mono ?_); rintro e w119 ⟨rfl, hb⟩; refine ⟨_, rfl, ?_⟩; have n0_ := Aside0.mk (below_step qnw0_ hb); clear HB; have HB := n0_; clear n0_; (try clear hb); (try clear hb2); (try clear hk); (try clear hi)) | (have ztk125 := tk125; clear tk125 ztk125; (with_reducible refine gate_callee (f := 27) rfl ?_); refine goesL_ (some 59) rfl rfl Tryd.func27 (by kernel_rfl) rfl #[.int .u16 16, .string (t534 ++ (⟨#[120]⟩ : ByteArray)), .string (((⟨#[32, 32]⟩ : ByteArray) ++ t535) ++ (⟨#[47]⟩ : ByteArray))] rfl qnw1_ ?_; (with_reducible refine (numeral_Compare.calls k 16 (t534 ++ (⟨#[120]⟩ : ByteArray)) (((⟨#[32, 32]⟩ : ByteArray) ++ t535) ++ (⟨#[47]⟩ : ByteArray)) t536 _ ?side1 A95.out).mono ?_); (case side1 => exact GOK.below HGL.out qnw0_); rintro e w120 ⟨rfl, hb⟩; refine ⟨_, rfl, ?_⟩; have n0_ := Aside0.mk (below_step qnw0_ hb); clear HB; have HB := n0_; clear n0_; (try clear hb); (try clear hb2); (try clear hk); (try clear hi)) | (have ztk126 := tk126; clear tk126 ztk126; go_at_call 27; (with_reducible refine (numeral_Compare.calls k 32 (((⟨#[9]⟩ : ByteArray) ++ t534) ++ (⟨#[120]⟩ : ByteArray)) (t535 ++ (⟨#[47]⟩ : ByteArray)) t537 _ ?side1 A100.out).mono ?_); (case side1 => exact GOK.below HGL.out qnw0_); rintro e w121 ⟨rfl, hb⟩; have n0_ := Aside0.mk (below_step qnw0_ hb); clear HB; have HB := n0_; clear n0_; (try clear hb); (try clear hb2); (try clear hk); (try clear hi)) | (have ztk127 := tk127; clear tk127 ztk127; go_at_call 27; (with_reducible refine (numeral_Compare.calls k 64 (t534 ++ (⟨#[120]⟩ : ByteArray)) (((⟨#[32]⟩ : ByteArray) ++ t535) ++ (⟨#[47]⟩ : ByteArray)) t538 _ ?side1 A104.out).mono ?_); (case side1 => exact GOK.below HGL.out qnw0_); rintro e w122 ⟨rfl, hb⟩; have n0_ := Aside0.mk (below_step qnw0_ hb); clear HB; have HB := n0_; clear n0_; (try clear hb); (try clear hb2); (try clear hk); (try clear hi)))
                        go_ret
                        exact ⟨qnw3_, qnw0_⟩
                       ·
                        rw [if_neg c117] at H
                        have c117b0 : decide (a1 < 0) = false := decide_eq_false c117
                        clear c117
                        replace H := Option.bind_eq_some_iff.mp H
                        obtain ⟨t539, A1280, H⟩ := H
                        replace H : (some (t539 == (-1))) = some r := H
                        have A128 := Aside0.mk A1280
                        clear A1280
                        obtain rfl := Option.some.inj H
                        go_enter Tryd.func8, Tryd.ntmps8
                        have tk135 : True := trivial; have tk136 : True := trivial; have tk137 : True := trivial; have tk138 : True := trivial; have tk139 : True := trivial; have tk140 : True := trivial
                        go_wp2_with (first | (have ztk135 := tk135; clear tk135 ztk135; (with_reducible refine gate_callee (f := 15) rfl ?_); refine goesL_ (some 50) rfl rfl Tryd.func15 (by kernel_rfl) rfl #[.int .i64 a0, .int .i64 a2] rfl qnw1_ ?_; (with_reducible refine (milllaw3_written.calls k a0 a2 t534 _ A90.out).mono ?_); rintro e w129 ⟨rfl, hb⟩; refine ⟨_, rfl, ?_⟩; have n0_ := Aside0.mk (below_step qnw0_ hb); clear HB; have HB := n0_; clear n0_; (try clear hb); (try clear hb2); (try clear hk); (try clear hi)) | (have ztk136 := tk136; clear tk136 ztk136; (with_reducible refine gate_callee (f := 15) rfl ?_); refine goesL_ (some 53) rfl rfl Tryd.func15 (by kernel_rfl) rfl #[.int .i64 a1, .int .i64 a3] rfl qnw1_ ?_; (with_reducible refine (milllaw3_written.calls k a1 a3 t535 _ A91.out).mono ?_); rintro e w130 ⟨rfl, hb⟩; refine ⟨_, rfl, ?_⟩; have n0_ := Aside0.mk (below_step qnw0_ hb); clear HB; have HB := n0_; clear n0_; (try clear hb); (try clear hb2); (try clear hk); (try clear hi)) | (have ztk137 := tk137; clear tk137 ztk137; (with_reducible refine gate_callee (f := 27) rfl ?_); refine goesL_ (some 59) rfl rfl Tryd.func27 (by kernel_rfl) rfl #[.int .u16 16, .string (t534 ++ (⟨#[120]⟩ : ByteArray)), .string (((⟨#[32, 32]⟩ : ByteArray) ++ t535) ++ (⟨#[47]⟩ : ByteArray))] rfl qnw1_ ?_; (with_reducible refine (numeral_Compare.calls k 16 (t534 ++ (⟨#[120]⟩ : ByteArray)) (((⟨#[32, 32]⟩ : ByteArray) ++ t535) ++ (⟨#[47]⟩ : ByteArray)) t536 _ ?side1 A95.out).mono ?_); (case side1 => exact GOK.below HGL.out qnw0_); rintro e w131 ⟨rfl, hb⟩; refine ⟨_, rfl, ?_⟩; have n0_ := Aside0.mk (below_step qnw0_ hb); clear HB; have HB := n0_; clear n0_; (try clear hb); (try clear hb2); (try clear hk); (try clear hi)) | (have ztk138 := tk138; clear tk138 ztk138; go_at_call 27; (with_reducible refine (numeral_Compare.calls k 32 (((⟨#[9]⟩ : ByteArray) ++ t534) ++ (⟨#[120]⟩ : ByteArray)) (t535 ++ (⟨#[47]⟩ : ByteArray)) t537 _ ?side1 A100.out).mono ?_); (case side1 => exact GOK.below HGL.out qnw0_); rintro e w132 ⟨rfl, hb⟩; have n0_ := Aside0.mk (below_step qnw0_ hb); clear HB; have HB := n0_; clear n0_; (try clear hb); (try clear hb2); (try clear hk); (try clear hi)) | (have ztk139 := tk139; clear tk139 ztk139; go_at_call 27; (with_reducible refine (numeral_Compare.calls k 64 (t534 ++ (⟨#[120]⟩ : ByteArray)) (((⟨#[32]⟩ : ByteArray) ++ t535) ++ (⟨#[47]⟩ : ByteArray)) t538 _ ?side1 A104.out).mono ?_); (case side1 => exact GOK.below HGL.out qnw0_); rintro e w133 ⟨rfl, hb⟩; have n0_ := Aside0.mk (below_step qnw0_ hb); clear HB; have HB := n0_; clear n0_; (try clear hb); (try clear hb2); (try clear hk); (try clear hi)) | (have ztk140 := tk140; clear tk140 ztk140; go_at_call 27; (with_reducible refine (numeral_Compare.calls k 256 t534 t535 t539 _ ?side1 A128.out).mono ?_); (case side1 => exact GOK.below HGL.out qnw0_); rintro e w134 ⟨rfl, hb⟩; have n0_ := Aside0.mk (below_step qnw0_ hb); clear HB; have HB := n0_; clear n0_; (try clear hb); (try clear hb2); (try clear hk); (try clear hi)))
                        go_ret
                        exact ⟨qnw3_, qnw0_⟩
                     ·
                      rw [if_neg c105] at H
                      have c105b0 : (t538 == (-1)) = false := beq_eq_false_iff_ne.mpr c105
                      have c105b1 : (t538 != (-1)) = true := bne_iff_ne.mpr c105
                      obtain rfl := Option.some.inj H
                      go_enter Tryd.func8, Tryd.ntmps8
                      have tk146 : True := trivial; have tk147 : True := trivial; have tk148 : True := trivial; have tk149 : True := trivial; have tk150 : True := trivial
                      go_wp2_with (first | (have ztk146 := tk146; clear tk146 ztk146; (with_reducible refine gate_callee (f := 15) rfl ?_); refine goesL_ (some 50) rfl rfl Tryd.func15 (by kernel_rfl) rfl #[.int .i64 a0, .int .i64 a2] rfl qnw1_ ?_; (with_reducible refine (milllaw3_written.calls k a0 a2 t534 _ A90.out).mono ?_); rintro e w141 ⟨rfl, hb⟩; refine ⟨_, rfl, ?_⟩; have n0_ := Aside0.mk (below_step qnw0_ hb); clear HB; have HB := n0_; clear n0_; (try clear hb); (try clear hb2); (try clear hk); (try clear hi)) | (have ztk147 := tk147; clear tk147 ztk147; (with_reducible refine gate_callee (f := 15) rfl ?_); refine goesL_ (some 53) rfl rfl Tryd.func15 (by kernel_rfl) rfl #[.int .i64 a1, .int .i64 a3] rfl qnw1_ ?_; (with_reducible refine (milllaw3_written.calls k a1 a3 t535 _ A91.out).mono ?_); rintro e w142 ⟨rfl, hb⟩; refine ⟨_, rfl, ?_⟩; have n0_ := Aside0.mk (below_step qnw0_ hb); clear HB; have HB := n0_; clear n0_; (try clear hb); (try clear hb2); (try clear hk); (try clear hi)) | (have ztk148 := tk148; clear tk148 ztk148; (with_reducible refine gate_callee (f := 27) rfl ?_); refine goesL_ (some 59) rfl rfl Tryd.func27 (by kernel_rfl) rfl #[.int .u16 16, .string (t534 ++ (⟨#[120]⟩ : ByteArray)), .string (((⟨#[32, 32]⟩ : ByteArray) ++ t535) ++ (⟨#[47]⟩ : ByteArray))] rfl qnw1_ ?_; (with_reducible refine (numeral_Compare.calls k 16 (t534 ++ (⟨#[120]⟩ : ByteArray)) (((⟨#[32, 32]⟩ : ByteArray) ++ t535) ++ (⟨#[47]⟩ : ByteArray)) t536 _ ?side1 A95.out).mono ?_); (case side1 => exact GOK.below HGL.out qnw0_); rintro e w143 ⟨rfl, hb⟩; refine ⟨_, rfl, ?_⟩; have n0_ := Aside0.mk (below_step qnw0_ hb); clear HB; have HB := n0_; clear n0_; (try clear hb); (try clear hb2); (try clear hk); (try clear hi)) | (have ztk149 := tk149; clear tk149 ztk149; go_at_call 27; (with_reducible refine (numeral_Compare.calls k 32 (((⟨#[9]⟩ : ByteArray) ++ t534) ++ (⟨#[120]⟩ : ByteArray)) (t535 ++ (⟨#[47]⟩ : ByteArray)) t537 _ ?side1 A100.out).mono ?_); (case side1 => exact GOK.below HGL.out qnw0_); rintro e w144 ⟨rfl, hb⟩; have n0_ := Aside0.mk (below_step qnw0_ hb); clear HB; have HB := n0_; clear n0_; (try clear hb); (try clear hb2); (try clear hk); (try clear hi)) | (have ztk150 := tk150; clear tk150 ztk150; go_at_call 27; (with_reducible refine (numeral_Compare.calls k 64 (t534 ++ (⟨#[120]⟩ : ByteArray)) (((⟨#[32]⟩ : ByteArray) ++ t535) ++ (⟨#[47]⟩ : ByteArray)) t538 _ ?side1 A104.out).mono ?_); (case side1 => exact GOK.below HGL.out qnw0_); rintro e w145 ⟨rfl, hb⟩; have n0_ := Aside0.mk (below_step qnw0_ hb); clear HB; have HB := n0_; clear n0_; (try clear hb); (try clear hb2); (try clear hk); (try clear hi)))
                      go_ret
                      exact ⟨qnw3_, qnw0_⟩
                    ·
                     rw [if_neg c103] at H
                     exact absurd H (by simp)
                   ·
                    rw [if_neg c102] at H
                    exact absurd H (by simp)
                  ·
                   rw [if_neg c101] at H
                   have c101b0 : (t537 == (-1)) = false := beq_eq_false_iff_ne.mpr c101
                   have c101b1 : (t537 != (-1)) = true := bne_iff_ne.mpr c101
                   obtain rfl := Option.some.inj H
                   go_enter Tryd.func8, Tryd.ntmps8
                   have tk155 : True := trivial; have tk156 : True := trivial; have tk157 : True := trivial; have tk158 : True := trivial
                   go_wp2_with (first | (have ztk155 := tk155; clear tk155 ztk155; (with_reducible refine gate_callee (f := 15) rfl ?_); refine goesL_ (some 50) rfl rfl Tryd.func15 (by kernel_rfl) rfl #[.int .i64 a0, .int .i64 a2] rfl qnw1_ ?_; (with_reducible refine (milllaw3_written.calls k a0 a2 t534 _ A90.out).mono ?_); rintro e w151 ⟨rfl, hb⟩; refine ⟨_, rfl, ?_⟩; have n0_ := Aside0.mk (below_step qnw0_ hb); clear HB; have HB := n0_; clear n0_; (try clear hb); (try clear hb2); (try clear hk); (try clear hi)) | (have ztk156 := tk156; clear tk156 ztk156; (with_reducible refine gate_callee (f := 15) rfl ?_); refine goesL_ (some 53) rfl rfl Tryd.func15 (by kernel_rfl) rfl #[.int .i64 a1, .int .i64 a3] rfl qnw1_ ?_; (with_reducible refine (milllaw3_written.calls k a1 a3 t535 _ A91.out).mono ?_); rintro e w152 ⟨rfl, hb⟩; refine ⟨_, rfl, ?_⟩; have n0_ := Aside0.mk (below_step qnw0_ hb); clear HB; have HB := n0_; clear n0_; (try clear hb); (try clear hb2); (try clear hk); (try clear hi)) | (have ztk157 := tk157; clear tk157 ztk157; (with_reducible refine gate_callee (f := 27) rfl ?_); refine goesL_ (some 59) rfl rfl Tryd.func27 (by kernel_rfl) rfl #[.int .u16 16, .string (t534 ++ (⟨#[120]⟩ : ByteArray)), .string (((⟨#[32, 32]⟩ : ByteArray) ++ t535) ++ (⟨#[47]⟩ : ByteArray))] rfl qnw1_ ?_; (with_reducible refine (numeral_Compare.calls k 16 (t534 ++ (⟨#[120]⟩ : ByteArray)) (((⟨#[32, 32]⟩ : ByteArray) ++ t535) ++ (⟨#[47]⟩ : ByteArray)) t536 _ ?side1 A95.out).mono ?_); (case side1 => exact GOK.below HGL.out qnw0_); rintro e w153 ⟨rfl, hb⟩; refine ⟨_, rfl, ?_⟩; have n0_ := Aside0.mk (below_step qnw0_ hb); clear HB; have HB := n0_; clear n0_; (try clear hb); (try clear hb2); (try clear hk); (try clear hi)) | (have ztk158 := tk158; clear tk158 ztk158; go_at_call 27; (with_reducible refine (numeral_Compare.calls k 32 (((⟨#[9]⟩ : ByteArray) ++ t534) ++ (⟨#[120]⟩ : ByteArray)) (t535 ++ (⟨#[47]⟩ : ByteArray)) t537 _ ?side1 A100.out).mono ?_); (case side1 => exact GOK.below HGL.out qnw0_); rintro e w154 ⟨rfl, hb⟩; have n0_ := Aside0.mk (below_step qnw0_ hb); clear HB; have HB := n0_; clear n0_; (try clear hb); (try clear hb2); (try clear hk); (try clear hi)))
                   go_ret
                   exact ⟨qnw3_, qnw0_⟩
                 ·
                  rw [if_neg c99] at H
                  exact absurd H (by simp)
                ·
                 rw [if_neg c98] at H
                 exact absurd H (by simp)
               ·
                rw [if_neg c97] at H
                exact absurd H (by simp)
              ·
               rw [if_neg c96] at H
               have c96b0 : (t536 == (-1)) = false := beq_eq_false_iff_ne.mpr c96
               have c96b1 : (t536 != (-1)) = true := bne_iff_ne.mpr c96
               obtain rfl := Option.some.inj H
               go_enter Tryd.func8, Tryd.ntmps8
               have tk162 : True := trivial; have tk163 : True := trivial; have tk164 : True := trivial
               go_wp2_with (first | (have ztk162 := tk162; clear tk162 ztk162; (with_reducible refine gate_callee (f := 15) rfl ?_); refine goesL_ (some 50) rfl rfl Tryd.func15 (by kernel_rfl) rfl #[.int .i64 a0, .int .i64 a2] rfl qnw1_ ?_; (with_reducible refine (milllaw3_written.calls k a0 a2 t534 _ A90.out).mono ?_); rintro e w159 ⟨rfl, hb⟩; refine ⟨_, rfl, ?_⟩; have n0_ := Aside0.mk (below_step qnw0_ hb); clear HB; have HB := n0_; clear n0_; (try clear hb); (try clear hb2); (try clear hk); (try clear hi)) | (have ztk163 := tk163; clear tk163 ztk163; (with_reducible refine gate_callee (f := 15) rfl ?_); refine goesL_ (some 53) rfl rfl Tryd.func15 (by kernel_rfl) rfl #[.int .i64 a1, .int .i64 a3] rfl qnw1_ ?_; (with_reducible refine (milllaw3_written.calls k a1 a3 t535 _ A91.out).mono ?_); rintro e w160 ⟨rfl, hb⟩; refine ⟨_, rfl, ?_⟩; have n0_ := Aside0.mk (below_step qnw0_ hb); clear HB; have HB := n0_; clear n0_; (try clear hb); (try clear hb2); (try clear hk); (try clear hi)) | (have ztk164 := tk164; clear tk164 ztk164; (with_reducible refine gate_callee (f := 27) rfl ?_); refine goesL_ (some 59) rfl rfl Tryd.func27 (by kernel_rfl) rfl #[.int .u16 16, .string (t534 ++ (⟨#[120]⟩ : ByteArray)), .string (((⟨#[32, 32]⟩ : ByteArray) ++ t535) ++ (⟨#[47]⟩ : ByteArray))] rfl qnw1_ ?_; (with_reducible refine (numeral_Compare.calls k 16 (t534 ++ (⟨#[120]⟩ : ByteArray)) (((⟨#[32, 32]⟩ : ByteArray) ++ t535) ++ (⟨#[47]⟩ : ByteArray)) t536 _ ?side1 A95.out).mono ?_); (case side1 => exact GOK.below HGL.out qnw0_); rintro e w161 ⟨rfl, hb⟩; refine ⟨_, rfl, ?_⟩; have n0_ := Aside0.mk (below_step qnw0_ hb); clear HB; have HB := n0_; clear n0_; (try clear hb); (try clear hb2); (try clear hk); (try clear hi)))
               go_ret
               exact ⟨qnw3_, qnw0_⟩
             ·
              rw [if_neg c94] at H
              exact absurd H (by simp)
            ·
             rw [if_neg c93] at H
             exact absurd H (by simp)
           ·
            rw [if_neg c92] at H
            exact absurd H (by simp)
         ·
          rw [if_neg c13] at H
          have c13b0 : decide (a0 < a1) = false := decide_eq_false c13
          clear c13
          by_cases c165 : a0 > a1
          ·
           rw [if_pos c165] at H
           have c165b0 : decide (a1 < a0) = true := decide_eq_true c165
           clear c165
           replace H := Option.bind_eq_some_iff.mp H
           obtain ⟨t540, A1660, H⟩ := H
           replace H : ((milllaw3_written.f k a1 a3).bind fun t541 => (if t540.size + 1 ≤ 9223372036854775807 then (if 2 + t541.size ≤ 9223372036854775807 then (if (2 + t541.size) + 1 ≤ 9223372036854775807 then ((numeral_Compare.f k 16 (t540 ++ (⟨#[120]⟩ : ByteArray)) (((⟨#[32, 32]⟩ : ByteArray) ++ t541) ++ (⟨#[47]⟩ : ByteArray))).bind fun t542 => (if t542 = 1 then (if 1 + t540.size ≤ 9223372036854775807 then (if (1 + t540.size) + 1 ≤ 9223372036854775807 then (if t541.size + 1 ≤ 9223372036854775807 then ((numeral_Compare.f k 32 (((⟨#[9]⟩ : ByteArray) ++ t540) ++ (⟨#[120]⟩ : ByteArray)) (t541 ++ (⟨#[47]⟩ : ByteArray))).bind fun t543 => (if t543 = 1 then (if 1 + t541.size ≤ 9223372036854775807 then (if (1 + t541.size) + 1 ≤ 9223372036854775807 then ((numeral_Compare.f k 64 (t540 ++ (⟨#[120]⟩ : ByteArray)) (((⟨#[32]⟩ : ByteArray) ++ t541) ++ (⟨#[47]⟩ : ByteArray))).bind fun t544 => (if t544 = 1 then (if a0 < 0 then (some true) else (if a1 < 0 then (some true) else ((numeral_Compare.f k 256 t540 t541).bind fun t545 => (some (t545 == 1))))) else (some false))) else (none)) else (none)) else (some false))) else (none)) else (none)) else (none)) else (some false))) else (none)) else (none)) else (none))) = some r := H
           have A166 := Aside0.mk A1660
           clear A1660
           replace H := Option.bind_eq_some_iff.mp H
           obtain ⟨t541, A1670, H⟩ := H
           replace H : (if t540.size + 1 ≤ 9223372036854775807 then (if 2 + t541.size ≤ 9223372036854775807 then (if (2 + t541.size) + 1 ≤ 9223372036854775807 then ((numeral_Compare.f k 16 (t540 ++ (⟨#[120]⟩ : ByteArray)) (((⟨#[32, 32]⟩ : ByteArray) ++ t541) ++ (⟨#[47]⟩ : ByteArray))).bind fun t542 => (if t542 = 1 then (if 1 + t540.size ≤ 9223372036854775807 then (if (1 + t540.size) + 1 ≤ 9223372036854775807 then (if t541.size + 1 ≤ 9223372036854775807 then ((numeral_Compare.f k 32 (((⟨#[9]⟩ : ByteArray) ++ t540) ++ (⟨#[120]⟩ : ByteArray)) (t541 ++ (⟨#[47]⟩ : ByteArray))).bind fun t543 => (if t543 = 1 then (if 1 + t541.size ≤ 9223372036854775807 then (if (1 + t541.size) + 1 ≤ 9223372036854775807 then ((numeral_Compare.f k 64 (t540 ++ (⟨#[120]⟩ : ByteArray)) (((⟨#[32]⟩ : ByteArray) ++ t541) ++ (⟨#[47]⟩ : ByteArray))).bind fun t544 => (if t544 = 1 then (if a0 < 0 then (some true) else (if a1 < 0 then (some true) else ((numeral_Compare.f k 256 t540 t541).bind fun t545 => (some (t545 == 1))))) else (some false))) else (none)) else (none)) else (some false))) else (none)) else (none)) else (none)) else (some false))) else (none)) else (none)) else (none)) = some r := H
           have A167 := Aside0.mk A1670
           clear A1670
           by_cases c168 : t540.size + 1 ≤ 9223372036854775807
           ·
            rw [if_pos c168] at H
            have c168b0 := eq_true c168
            have c168b1 : decide (t540.size + 1 ≤ 9223372036854775807) = true := decide_eq_true c168
            try have c168b2 : (9223372036854775807 < t540.size + 1) = False := eq_false (Nat.not_lt.2 c168)
            by_cases c169 : 2 + t541.size ≤ 9223372036854775807
            ·
             rw [if_pos c169] at H
             have c169b0 := eq_true c169
             have c169b1 : decide (2 + t541.size ≤ 9223372036854775807) = true := decide_eq_true c169
             try have c169b2 : (9223372036854775807 < 2 + t541.size) = False := eq_false (Nat.not_lt.2 c169)
             by_cases c170 : (2 + t541.size) + 1 ≤ 9223372036854775807
             ·
              rw [if_pos c170] at H
              have c170b0 := eq_true c170
              have c170b1 : decide ((2 + t541.size) + 1 ≤ 9223372036854775807) = true := decide_eq_true c170
              try have c170b2 : (9223372036854775807 < (2 + t541.size) + 1) = False := eq_false (Nat.not_lt.2 c170)
              replace H := Option.bind_eq_some_iff.mp H
              obtain ⟨t542, A1710, H⟩ := H
              replace H : (if t542 = 1 then (if 1 + t540.size ≤ 9223372036854775807 then (if (1 + t540.size) + 1 ≤ 9223372036854775807 then (if t541.size + 1 ≤ 9223372036854775807 then ((numeral_Compare.f k 32 (((⟨#[9]⟩ : ByteArray) ++ t540) ++ (⟨#[120]⟩ : ByteArray)) (t541 ++ (⟨#[47]⟩ : ByteArray))).bind fun t543 => (if t543 = 1 then (if 1 + t541.size ≤ 9223372036854775807 then (if (1 + t541.size) + 1 ≤ 9223372036854775807 then ((numeral_Compare.f k 64 (t540 ++ (⟨#[120]⟩ : ByteArray)) (((⟨#[32]⟩ : ByteArray) ++ t541) ++ (⟨#[47]⟩ : ByteArray))).bind fun t544 => (if t544 = 1 then (if a0 < 0 then (some true) else (if a1 < 0 then (some true) else ((numeral_Compare.f k 256 t540 t541).bind fun t545 => (some (t545 == 1))))) else (some false))) else (none)) else (none)) else (some false))) else (none)) else (none)) else (none)) else (some false)) = some r := H
              have A171 := Aside0.mk A1710
              clear A1710
              by_cases c172 : t542 = 1
              ·
               rw [if_pos c172] at H
               have c172b0 : (t542 == 1) = true := beq_iff_eq.mpr c172
               have c172b1 : (t542 != 1) = false := bne_eq_false_iff_eq.mpr c172
               clear c172
               by_cases c173 : 1 + t540.size ≤ 9223372036854775807
               ·
                rw [if_pos c173] at H
                have c173b0 := eq_true c173
                have c173b1 : decide (1 + t540.size ≤ 9223372036854775807) = true := decide_eq_true c173
                try have c173b2 : (9223372036854775807 < 1 + t540.size) = False := eq_false (Nat.not_lt.2 c173)
                by_cases c174 : (1 + t540.size) + 1 ≤ 9223372036854775807
                ·
                 rw [if_pos c174] at H
                 have c174b0 := eq_true c174
                 have c174b1 : decide ((1 + t540.size) + 1 ≤ 9223372036854775807) = true := decide_eq_true c174
                 try have c174b2 : (9223372036854775807 < (1 + t540.size) + 1) = False := eq_false (Nat.not_lt.2 c174)
                 by_cases c175 : t541.size + 1 ≤ 9223372036854775807
                 ·
                  rw [if_pos c175] at H
                  have c175b0 := eq_true c175
                  have c175b1 : decide (t541.size + 1 ≤ 9223372036854775807) = true := decide_eq_true c175
                  try have c175b2 : (9223372036854775807 < t541.size + 1) = False := eq_false (Nat.not_lt.2 c175)
                  replace H := Option.bind_eq_some_iff.mp H
                  obtain ⟨t543, A1760, H⟩ := H
                  replace H : (if t543 = 1 then (if 1 + t541.size ≤ 9223372036854775807 then (if (1 + t541.size) + 1 ≤ 9223372036854775807 then ((numeral_Compare.f k 64 (t540 ++ (⟨#[120]⟩ : ByteArray)) (((⟨#[32]⟩ : ByteArray) ++ t541) ++ (⟨#[47]⟩ : ByteArray))).bind fun t544 => (if t544 = 1 then (if a0 < 0 then (some true) else (if a1 < 0 then (some true) else ((numeral_Compare.f k 256 t540 t541).bind fun t545 => (some (t545 == 1))))) else (some false))) else (none)) else (none)) else (some false)) = some r := H
                  have A176 := Aside0.mk A1760
                  clear A1760
                  by_cases c177 : t543 = 1
                  ·
                   rw [if_pos c177] at H
                   have c177b0 : (t543 == 1) = true := beq_iff_eq.mpr c177
                   have c177b1 : (t543 != 1) = false := bne_eq_false_iff_eq.mpr c177
                   clear c177
                   by_cases c178 : 1 + t541.size ≤ 9223372036854775807
                   ·
                    rw [if_pos c178] at H
                    have c178b0 := eq_true c178
                    have c178b1 : decide (1 + t541.size ≤ 9223372036854775807) = true := decide_eq_true c178
                    try have c178b2 : (9223372036854775807 < 1 + t541.size) = False := eq_false (Nat.not_lt.2 c178)
                    by_cases c179 : (1 + t541.size) + 1 ≤ 9223372036854775807
                    ·
                     rw [if_pos c179] at H
                     have c179b0 := eq_true c179
                     have c179b1 : decide ((1 + t541.size) + 1 ≤ 9223372036854775807) = true := decide_eq_true c179
                     try have c179b2 : (9223372036854775807 < (1 + t541.size) + 1) = False := eq_false (Nat.not_lt.2 c179)
                     replace H := Option.bind_eq_some_iff.mp H
                     obtain ⟨t544, A1800, H⟩ := H
                     replace H : (if t544 = 1 then (if a0 < 0 then (some true) else (if a1 < 0 then (some true) else ((numeral_Compare.f k 256 t540 t541).bind fun t545 => (some (t545 == 1))))) else (some false)) = some r := H
                     have A180 := Aside0.mk A1800
                     clear A1800
                     by_cases c181 : t544 = 1
                     ·
                      rw [if_pos c181] at H
                      have c181b0 : (t544 == 1) = true := beq_iff_eq.mpr c181
                      have c181b1 : (t544 != 1) = false := bne_eq_false_iff_eq.mpr c181
                      clear c181
                      by_cases c182 : a0 < 0
                      ·
                       rw [if_pos c182] at H
                       have c182b0 : decide (a0 < 0) = true := decide_eq_true c182
                       clear c182
                       obtain rfl := Option.some.inj H
                       go_enter Tryd.func8, Tryd.ntmps8
                       have tk188 : True := trivial; have tk189 : True := trivial; have tk190 : True := trivial; have tk191 : True := trivial; have tk192 : True := trivial
                       go_wp2_with (first | (have ztk188 := tk188; clear tk188 ztk188; (with_reducible refine gate_callee (f := 15) rfl ?_); refine goesL_ (some 50) rfl rfl Tryd.func15 (by kernel_rfl) rfl #[.int .i64 a0, .int .i64 a2] rfl qnw1_ ?_; (with_reducible refine (milllaw3_written.calls k a0 a2 t540 _ A166.out).mono ?_); rintro e w183 ⟨rfl, hb⟩; refine ⟨_, rfl, ?_⟩; have n0_ := Aside0.mk (below_step qnw0_ hb); clear HB; have HB := n0_; clear n0_; (try clear hb); (try clear hb2); (try clear hk); (try clear hi)) | (have ztk189 := tk189; clear tk189 ztk189; (with_reducible refine gate_callee (f := 15) rfl ?_); refine goesL_ (some 53) rfl rfl Tryd.func15 (by kernel_rfl) rfl #[.int .i64 a1, .int .i64 a3] rfl qnw1_ ?_; (with_reducible refine (milllaw3_written.calls k a1 a3 t541 _ A167.out).mono ?_); rintro e w184 ⟨rfl, hb⟩; refine ⟨_, rfl, ?_⟩; have n0_ := Aside0.mk (below_step qnw0_ hb); clear HB; have HB := n0_; clear n0_; (try clear hb); (try clear hb2); (try clear hk); (try clear hi)) | (have ztk190 := tk190; clear tk190 ztk190; (with_reducible refine gate_callee (f := 27) rfl ?_); refine goesL_ (some 59) rfl rfl Tryd.func27 (by kernel_rfl) rfl #[.int .u16 16, .string (t540 ++ (⟨#[120]⟩ : ByteArray)), .string (((⟨#[32, 32]⟩ : ByteArray) ++ t541) ++ (⟨#[47]⟩ : ByteArray))] rfl qnw1_ ?_; (with_reducible refine (numeral_Compare.calls k 16 (t540 ++ (⟨#[120]⟩ : ByteArray)) (((⟨#[32, 32]⟩ : ByteArray) ++ t541) ++ (⟨#[47]⟩ : ByteArray)) t542 _ ?side1 A171.out).mono ?_); (case side1 => exact GOK.below HGL.out qnw0_); rintro e w185 ⟨rfl, hb⟩; refine ⟨_, rfl, ?_⟩; have n0_ := Aside0.mk (below_step qnw0_ hb); clear HB; have HB := n0_; clear n0_; (try clear hb); (try clear hb2); (try clear hk); (try clear hi)) | (have ztk191 := tk191; clear tk191 ztk191; go_at_call 27; (with_reducible refine (numeral_Compare.calls k 32 (((⟨#[9]⟩ : ByteArray) ++ t540) ++ (⟨#[120]⟩ : ByteArray)) (t541 ++ (⟨#[47]⟩ : ByteArray)) t543 _ ?side1 A176.out).mono ?_); (case side1 => exact GOK.below HGL.out qnw0_); rintro e w186 ⟨rfl, hb⟩; have n0_ := Aside0.mk (below_step qnw0_ hb); clear HB; have HB := n0_; clear n0_; (try clear hb); (try clear hb2); (try clear hk); (try clear hi)) | (have ztk192 := tk192; clear tk192 ztk192; go_at_call 27; (with_reducible refine (numeral_Compare.calls k 64 (t540 ++ (⟨#[120]⟩ : ByteArray)) (((⟨#[32]⟩ : ByteArray) ++ t541) ++ (⟨#[47]⟩ : ByteArray)) t544 _ ?side1 A180.out).mono ?_); (case side1 => exact GOK.below HGL.out qnw0_); rintro e w187 ⟨rfl, hb⟩; have n0_ := Aside0.mk (below_step qnw0_ hb); clear HB; have HB := n0_; clear n0_; (try clear hb); (try clear hb2); (try clear hk); (try clear hi)))
                       go_ret
                       exact ⟨qnw3_, qnw0_⟩
                      ·
                       rw [if_neg c182] at H
                       have c182b0 : decide (a0 < 0) = false := decide_eq_false c182
                       clear c182
                       by_cases c193 : a1 < 0
                       ·
                        rw [if_pos c193] at H
                        have c193b0 : decide (a1 < 0) = true := decide_eq_true c193
                        clear c193
                        obtain rfl := Option.some.inj H
                        go_enter Tryd.func8, Tryd.ntmps8
                        have tk199 : True := trivial; have tk200 : True := trivial; have tk201 : True := trivial; have tk202 : True := trivial; have tk203 : True := trivial
                        go_wp2_with (first | (have ztk199 := tk199; clear tk199 ztk199; (with_reducible refine gate_callee (f := 15) rfl ?_); refine goesL_ (some 50) rfl rfl Tryd.func15 (by kernel_rfl) rfl #[.int .i64 a0, .int .i64 a2] rfl qnw1_ ?_; (with_reducible refine (milllaw3_written.calls k a0 a2 t540 _ A166.out).mono ?_); rintro e w194 ⟨rfl, hb⟩; refine ⟨_, rfl, ?_⟩; have n0_ := Aside0.mk (below_step qnw0_ hb); clear HB; have HB := n0_; clear n0_; (try clear hb); (try clear hb2); (try clear hk); (try clear hi)) | (have ztk200 := tk200; clear tk200 ztk200; (with_reducible refine gate_callee (f := 15) rfl ?_); refine goesL_ (some 53) rfl rfl Tryd.func15 (by kernel_rfl) rfl #[.int .i64 a1, .int .i64 a3] rfl qnw1_ ?_; (with_reducible refine (milllaw3_written.calls k a1 a3 t541 _ A167.out).mono ?_); rintro e w195 ⟨rfl, hb⟩; refine ⟨_, rfl, ?_⟩; have n0_ := Aside0.mk (below_step qnw0_ hb); clear HB; have HB := n0_; clear n0_; (try clear hb); (try clear hb2); (try clear hk); (try clear hi)) | (have ztk201 := tk201; clear tk201 ztk201; (with_reducible refine gate_callee (f := 27) rfl ?_); refine goesL_ (some 59) rfl rfl Tryd.func27 (by kernel_rfl) rfl #[.int .u16 16, .string (t540 ++ (⟨#[120]⟩ : ByteArray)), .string (((⟨#[32, 32]⟩ : ByteArray) ++ t541) ++ (⟨#[47]⟩ : ByteArray))] rfl qnw1_ ?_; (with_reducible refine (numeral_Compare.calls k 16 (t540 ++ (⟨#[120]⟩ : ByteArray)) (((⟨#[32, 32]⟩ : ByteArray) ++ t541) ++ (⟨#[47]⟩ : ByteArray)) t542 _ ?side1 A171.out).mono ?_); (case side1 => exact GOK.below HGL.out qnw0_); rintro e w196 ⟨rfl, hb⟩; refine ⟨_, rfl, ?_⟩; have n0_ := Aside0.mk (below_step qnw0_ hb); clear HB; have HB := n0_; clear n0_; (try clear hb); (try clear hb2); (try clear hk); (try clear hi)) | (have ztk202 := tk202; clear tk202 ztk202; go_at_call 27; (with_reducible refine (numeral_Compare.calls k 32 (((⟨#[9]⟩ : ByteArray) ++ t540) ++ (⟨#[120]⟩ : ByteArray)) (t541 ++ (⟨#[47]⟩ : ByteArray)) t543 _ ?side1 A176.out).mono ?_); (case side1 => exact GOK.below HGL.out qnw0_); rintro e w197 ⟨rfl, hb⟩; have n0_ := Aside0.mk (below_step qnw0_ hb); clear HB; have HB := n0_; clear n0_; (try clear hb); (try clear hb2); (try clear hk); (try clear hi)) | (have ztk203 := tk203; clear tk203 ztk203; go_at_call 27; (with_reducible refine (numeral_Compare.calls k 64 (t540 ++ (⟨#[120]⟩ : ByteArray)) (((⟨#[32]⟩ : ByteArray) ++ t541) ++ (⟨#[47]⟩ : ByteArray)) t544 _ ?side1 A180.out).mono ?_); (case side1 => exact GOK.below HGL.out qnw0_); rintro e w198 ⟨rfl, hb⟩; have n0_ := Aside0.mk (below_step qnw0_ hb); clear HB; have HB := n0_; clear n0_; (try clear hb); (try clear hb2); (try clear hk); (try clear hi)))
                        go_ret
                        exact ⟨qnw3_, qnw0_⟩
                       ·
                        rw [if_neg c193] at H
                        have c193b0 : decide (a1 < 0) = false := decide_eq_false c193
                        clear c193
                        replace H := Option.bind_eq_some_iff.mp H
                        obtain ⟨t545, A2040, H⟩ := H
                        replace H : (some (t545 == 1)) = some r := H
                        have A204 := Aside0.mk A2040
                        clear A2040
                        obtain rfl := Option.some.inj H
                        go_enter Tryd.func8, Tryd.ntmps8
                        have tk211 : True := trivial; have tk212 : True := trivial; have tk213 : True := trivial; have tk214 : True := trivial; have tk215 : True := trivial; have tk216 : True := trivial
                        go_wp2_with (first | (have ztk211 := tk211; clear tk211 ztk211; (with_reducible refine gate_callee (f := 15) rfl ?_); refine goesL_ (some 50) rfl rfl Tryd.func15 (by kernel_rfl) rfl #[.int .i64 a0, .int .i64 a2] rfl qnw1_ ?_; (with_reducible refine (milllaw3_written.calls k a0 a2 t540 _ A166.out).mono ?_); rintro e w205 ⟨rfl, hb⟩; refine ⟨_, rfl, ?_⟩; have n0_ := Aside0.mk (below_step qnw0_ hb); clear HB; have HB := n0_; clear n0_; (try clear hb); (try clear hb2); (try clear hk); (try clear hi)) | (have ztk212 := tk212; clear tk212 ztk212; (with_reducible refine gate_callee (f := 15) rfl ?_); refine goesL_ (some 53) rfl rfl Tryd.func15 (by kernel_rfl) rfl #[.int .i64 a1, .int .i64 a3] rfl qnw1_ ?_; (with_reducible refine (milllaw3_written.calls k a1 a3 t541 _ A167.out).mono ?_); rintro e w206 ⟨rfl, hb⟩; refine ⟨_, rfl, ?_⟩; have n0_ := Aside0.mk (below_step qnw0_ hb); clear HB; have HB := n0_; clear n0_; (try clear hb); (try clear hb2); (try clear hk); (try clear hi)) | (have ztk213 := tk213; clear tk213 ztk213; (with_reducible refine gate_callee (f := 27) rfl ?_); refine goesL_ (some 59) rfl rfl Tryd.func27 (by kernel_rfl) rfl #[.int .u16 16, .string (t540 ++ (⟨#[120]⟩ : ByteArray)), .string (((⟨#[32, 32]⟩ : ByteArray) ++ t541) ++ (⟨#[47]⟩ : ByteArray))] rfl qnw1_ ?_; (with_reducible refine (numeral_Compare.calls k 16 (t540 ++ (⟨#[120]⟩ : ByteArray)) (((⟨#[32, 32]⟩ : ByteArray) ++ t541) ++ (⟨#[47]⟩ : ByteArray)) t542 _ ?side1 A171.out).mono ?_); (case side1 => exact GOK.below HGL.out qnw0_); rintro e w207 ⟨rfl, hb⟩; refine ⟨_, rfl, ?_⟩; have n0_ := Aside0.mk (below_step qnw0_ hb); clear HB; have HB := n0_; clear n0_; (try clear hb); (try clear hb2); (try clear hk); (try clear hi)) | (have ztk214 := tk214; clear tk214 ztk214; go_at_call 27; (with_reducible refine (numeral_Compare.calls k 32 (((⟨#[9]⟩ : ByteArray) ++ t540) ++ (⟨#[120]⟩ : ByteArray)) (t541 ++ (⟨#[47]⟩ : ByteArray)) t543 _ ?side1 A176.out).mono ?_); (case side1 => exact GOK.below HGL.out qnw0_); rintro e w208 ⟨rfl, hb⟩; have n0_ := Aside0.mk (below_step qnw0_ hb); clear HB; have HB := n0_; clear n0_; (try clear hb); (try clear hb2); (try clear hk); (try clear hi)) | (have ztk215 := tk215; clear tk215 ztk215; go_at_call 27; (with_reducible refine (numeral_Compare.calls k 64 (t540 ++ (⟨#[120]⟩ : ByteArray)) (((⟨#[32]⟩ : ByteArray) ++ t541) ++ (⟨#[47]⟩ : ByteArray)) t544 _ ?side1 A180.out).mono ?_); (case side1 => exact GOK.below HGL.out qnw0_); rintro e w209 ⟨rfl, hb⟩; have n0_ := Aside0.mk (below_step qnw0_ hb); clear HB; have HB := n0_; clear n0_; (try clear hb); (try clear hb2); (try clear hk); (try clear hi)) | (have ztk216 := tk216; clear tk216 ztk216; go_at_call 27; (with_reducible refine (numeral_Compare.calls k 256 t540 t541 t545 _ ?side1 A204.out).mono ?_); (case side1 => exact GOK.below HGL.out qnw0_); rintro e w210 ⟨rfl, hb⟩; have n0_ := Aside0.mk (below_step qnw0_ hb); clear HB; have HB := n0_; clear n0_; (try clear hb); (try clear hb2); (try clear hk); (try clear hi)))
                        go_ret
                        exact ⟨qnw3_, qnw0_⟩
                     ·
                      rw [if_neg c181] at H
                      have c181b0 : (t544 == 1) = false := beq_eq_false_iff_ne.mpr c181
                      have c181b1 : (t544 != 1) = true := bne_iff_ne.mpr c181
                      obtain rfl := Option.some.inj H
                      go_enter Tryd.func8, Tryd.ntmps8
                      have tk222 : True := trivial; have tk223 : True := trivial; have tk224 : True := trivial; have tk225 : True := trivial; have tk226 : True := trivial
                      go_wp2_with (first | (have ztk222 := tk222; clear tk222 ztk222; (with_reducible refine gate_callee (f := 15) rfl ?_); refine goesL_ (some 50) rfl rfl Tryd.func15 (by kernel_rfl) rfl #[.int .i64 a0, .int .i64 a2] rfl qnw1_ ?_; (with_reducible refine (milllaw3_written.calls k a0 a2 t540 _ A166.out).mono ?_); rintro e w217 ⟨rfl, hb⟩; refine ⟨_, rfl, ?_⟩; have n0_ := Aside0.mk (below_step qnw0_ hb); clear HB; have HB := n0_; clear n0_; (try clear hb); (try clear hb2); (try clear hk); (try clear hi)) | (have ztk223 := tk223; clear tk223 ztk223; (with_reducible refine gate_callee (f := 15) rfl ?_); refine goesL_ (some 53) rfl rfl Tryd.func15 (by kernel_rfl) rfl #[.int .i64 a1, .int .i64 a3] rfl qnw1_ ?_; (with_reducible refine (milllaw3_written.calls k a1 a3 t541 _ A167.out).mono ?_); rintro e w218 ⟨rfl, hb⟩; refine ⟨_, rfl, ?_⟩; have n0_ := Aside0.mk (below_step qnw0_ hb); clear HB; have HB := n0_; clear n0_; (try clear hb); (try clear hb2); (try clear hk); (try clear hi)) | (have ztk224 := tk224; clear tk224 ztk224; (with_reducible refine gate_callee (f := 27) rfl ?_); refine goesL_ (some 59) rfl rfl Tryd.func27 (by kernel_rfl) rfl #[.int .u16 16, .string (t540 ++ (⟨#[120]⟩ : ByteArray)), .string (((⟨#[32, 32]⟩ : ByteArray) ++ t541) ++ (⟨#[47]⟩ : ByteArray))] rfl qnw1_ ?_; (with_reducible refine (numeral_Compare.calls k 16 (t540 ++ (⟨#[120]⟩ : ByteArray)) (((⟨#[32, 32]⟩ : ByteArray) ++ t541) ++ (⟨#[47]⟩ : ByteArray)) t542 _ ?side1 A171.out).mono ?_); (case side1 => exact GOK.below HGL.out qnw0_); rintro e w219 ⟨rfl, hb⟩; refine ⟨_, rfl, ?_⟩; have n0_ := Aside0.mk (below_step qnw0_ hb); clear HB; have HB := n0_; clear n0_; (try clear hb); (try clear hb2); (try clear hk); (try clear hi)) | (have ztk225 := tk225; clear tk225 ztk225; go_at_call 27; (with_reducible refine (numeral_Compare.calls k 32 (((⟨#[9]⟩ : ByteArray) ++ t540) ++ (⟨#[120]⟩ : ByteArray)) (t541 ++ (⟨#[47]⟩ : ByteArray)) t543 _ ?side1 A176.out).mono ?_); (case side1 => exact GOK.below HGL.out qnw0_); rintro e w220 ⟨rfl, hb⟩; have n0_ := Aside0.mk (below_step qnw0_ hb); clear HB; have HB := n0_; clear n0_; (try clear hb); (try clear hb2); (try clear hk); (try clear hi)) | (have ztk226 := tk226; clear tk226 ztk226; go_at_call 27; (with_reducible refine (numeral_Compare.calls k 64 (t540 ++ (⟨#[120]⟩ : ByteArray)) (((⟨#[32]⟩ : ByteArray) ++ t541) ++ (⟨#[47]⟩ : ByteArray)) t544 _ ?side1 A180.out).mono ?_); (case side1 => exact GOK.below HGL.out qnw0_); rintro e w221 ⟨rfl, hb⟩; have n0_ := Aside0.mk (below_step qnw0_ hb); clear HB; have HB := n0_; clear n0_; (try clear hb); (try clear hb2); (try clear hk); (try clear hi)))
                      go_ret
                      exact ⟨qnw3_, qnw0_⟩
                    ·
                     rw [if_neg c179] at H
                     exact absurd H (by simp)
                   ·
                    rw [if_neg c178] at H
                    exact absurd H (by simp)
                  ·
                   rw [if_neg c177] at H
                   have c177b0 : (t543 == 1) = false := beq_eq_false_iff_ne.mpr c177
                   have c177b1 : (t543 != 1) = true := bne_iff_ne.mpr c177
                   obtain rfl := Option.some.inj H
                   go_enter Tryd.func8, Tryd.ntmps8
                   have tk231 : True := trivial; have tk232 : True := trivial; have tk233 : True := trivial; have tk234 : True := trivial
                   go_wp2_with (first | (have ztk231 := tk231; clear tk231 ztk231; (with_reducible refine gate_callee (f := 15) rfl ?_); refine goesL_ (some 50) rfl rfl Tryd.func15 (by kernel_rfl) rfl #[.int .i64 a0, .int .i64 a2] rfl qnw1_ ?_; (with_reducible refine (milllaw3_written.calls k a0 a2 t540 _ A166.out).mono ?_); rintro e w227 ⟨rfl, hb⟩; refine ⟨_, rfl, ?_⟩; have n0_ := Aside0.mk (below_step qnw0_ hb); clear HB; have HB := n0_; clear n0_; (try clear hb); (try clear hb2); (try clear hk); (try clear hi)) | (have ztk232 := tk232; clear tk232 ztk232; (with_reducible refine gate_callee (f := 15) rfl ?_); refine goesL_ (some 53) rfl rfl Tryd.func15 (by kernel_rfl) rfl #[.int .i64 a1, .int .i64 a3] rfl qnw1_ ?_; (with_reducible refine (milllaw3_written.calls k a1 a3 t541 _ A167.out).mono ?_); rintro e w228 ⟨rfl, hb⟩; refine ⟨_, rfl, ?_⟩; have n0_ := Aside0.mk (below_step qnw0_ hb); clear HB; have HB := n0_; clear n0_; (try clear hb); (try clear hb2); (try clear hk); (try clear hi)) | (have ztk233 := tk233; clear tk233 ztk233; (with_reducible refine gate_callee (f := 27) rfl ?_); refine goesL_ (some 59) rfl rfl Tryd.func27 (by kernel_rfl) rfl #[.int .u16 16, .string (t540 ++ (⟨#[120]⟩ : ByteArray)), .string (((⟨#[32, 32]⟩ : ByteArray) ++ t541) ++ (⟨#[47]⟩ : ByteArray))] rfl qnw1_ ?_; (with_reducible refine (numeral_Compare.calls k 16 (t540 ++ (⟨#[120]⟩ : ByteArray)) (((⟨#[32, 32]⟩ : ByteArray) ++ t541) ++ (⟨#[47]⟩ : ByteArray)) t542 _ ?side1 A171.out).mono ?_); (case side1 => exact GOK.below HGL.out qnw0_); rintro e w229 ⟨rfl, hb⟩; refine ⟨_, rfl, ?_⟩; have n0_ := Aside0.mk (below_step qnw0_ hb); clear HB; have HB := n0_; clear n0_; (try clear hb); (try clear hb2); (try clear hk); (try clear hi)) | (have ztk234 := tk234; clear tk234 ztk234; go_at_call 27; (with_reducible refine (numeral_Compare.calls k 32 (((⟨#[9]⟩ : ByteArray) ++ t540) ++ (⟨#[120]⟩ : ByteArray)) (t541 ++ (⟨#[47]⟩ : ByteArray)) t543 _ ?side1 A176.out).mono ?_); (case side1 => exact GOK.below HGL.out qnw0_); rintro e w230 ⟨rfl, hb⟩; have n0_ := Aside0.mk (below_step qnw0_ hb); clear HB; have HB := n0_; clear n0_; (try clear hb); (try clear hb2); (try clear hk); (try clear hi)))
                   go_ret
                   exact ⟨qnw3_, qnw0_⟩
                 ·
                  rw [if_neg c175] at H
                  exact absurd H (by simp)
                ·
                 rw [if_neg c174] at H
                 exact absurd H (by simp)
               ·
                rw [if_neg c173] at H
                exact absurd H (by simp)
              ·
               rw [if_neg c172] at H
               have c172b0 : (t542 == 1) = false := beq_eq_false_iff_ne.mpr c172
               have c172b1 : (t542 != 1) = true := bne_iff_ne.mpr c172
               obtain rfl := Option.some.inj H
               go_enter Tryd.func8, Tryd.ntmps8
               have tk238 : True := trivial; have tk239 : True := trivial; have tk240 : True := trivial
               go_wp2_with (first | (have ztk238 := tk238; clear tk238 ztk238; (with_reducible refine gate_callee (f := 15) rfl ?_); refine goesL_ (some 50) rfl rfl Tryd.func15 (by kernel_rfl) rfl #[.int .i64 a0, .int .i64 a2] rfl qnw1_ ?_; (with_reducible refine (milllaw3_written.calls k a0 a2 t540 _ A166.out).mono ?_); rintro e w235 ⟨rfl, hb⟩; refine ⟨_, rfl, ?_⟩; have n0_ := Aside0.mk (below_step qnw0_ hb); clear HB; have HB := n0_; clear n0_; (try clear hb); (try clear hb2); (try clear hk); (try clear hi)) | (have ztk239 := tk239; clear tk239 ztk239; (with_reducible refine gate_callee (f := 15) rfl ?_); refine goesL_ (some 53) rfl rfl Tryd.func15 (by kernel_rfl) rfl #[.int .i64 a1, .int .i64 a3] rfl qnw1_ ?_; (with_reducible refine (milllaw3_written.calls k a1 a3 t541 _ A167.out).mono ?_); rintro e w236 ⟨rfl, hb⟩; refine ⟨_, rfl, ?_⟩; have n0_ := Aside0.mk (below_step qnw0_ hb); clear HB; have HB := n0_; clear n0_; (try clear hb); (try clear hb2); (try clear hk); (try clear hi)) | (have ztk240 := tk240; clear tk240 ztk240; (with_reducible refine gate_callee (f := 27) rfl ?_); refine goesL_ (some 59) rfl rfl Tryd.func27 (by kernel_rfl) rfl #[.int .u16 16, .string (t540 ++ (⟨#[120]⟩ : ByteArray)), .string (((⟨#[32, 32]⟩ : ByteArray) ++ t541) ++ (⟨#[47]⟩ : ByteArray))] rfl qnw1_ ?_; (with_reducible refine (numeral_Compare.calls k 16 (t540 ++ (⟨#[120]⟩ : ByteArray)) (((⟨#[32, 32]⟩ : ByteArray) ++ t541) ++ (⟨#[47]⟩ : ByteArray)) t542 _ ?side1 A171.out).mono ?_); (case side1 => exact GOK.below HGL.out qnw0_); rintro e w237 ⟨rfl, hb⟩; refine ⟨_, rfl, ?_⟩; have n0_ := Aside0.mk (below_step qnw0_ hb); clear HB; have HB := n0_; clear n0_; (try clear hb); (try clear hb2); (try clear hk); (try clear hi)))
               go_ret
               exact ⟨qnw3_, qnw0_⟩
             ·
              rw [if_neg c170] at H
              exact absurd H (by simp)
            ·
             rw [if_neg c169] at H
             exact absurd H (by simp)
           ·
            rw [if_neg c168] at H
            exact absurd H (by simp)
          ·
           rw [if_neg c165] at H
           have c165b0 : decide (a1 < a0) = false := decide_eq_false c165
           clear c165
           replace H := Option.bind_eq_some_iff.mp H
           obtain ⟨t546, A2410, H⟩ := H
           replace H : ((milllaw3_written.f k a1 a3).bind fun t547 => (if t546.size + 1 ≤ 9223372036854775807 then (if 2 + t547.size ≤ 9223372036854775807 then (if (2 + t547.size) + 1 ≤ 9223372036854775807 then ((numeral_Compare.f k 16 (t546 ++ (⟨#[120]⟩ : ByteArray)) (((⟨#[32, 32]⟩ : ByteArray) ++ t547) ++ (⟨#[47]⟩ : ByteArray))).bind fun t548 => (if t548 = 0 then (if 1 + t546.size ≤ 9223372036854775807 then (if (1 + t546.size) + 1 ≤ 9223372036854775807 then (if t547.size + 1 ≤ 9223372036854775807 then ((numeral_Compare.f k 32 (((⟨#[9]⟩ : ByteArray) ++ t546) ++ (⟨#[120]⟩ : ByteArray)) (t547 ++ (⟨#[47]⟩ : ByteArray))).bind fun t549 => (if t549 = 0 then (if 1 + t547.size ≤ 9223372036854775807 then (if (1 + t547.size) + 1 ≤ 9223372036854775807 then ((numeral_Compare.f k 64 (t546 ++ (⟨#[120]⟩ : ByteArray)) (((⟨#[32]⟩ : ByteArray) ++ t547) ++ (⟨#[47]⟩ : ByteArray))).bind fun t550 => (if t550 = 0 then (if a0 < 0 then (some true) else (if a1 < 0 then (some true) else ((numeral_Compare.f k 256 t546 t547).bind fun t551 => (some (t551 == 0))))) else (some false))) else (none)) else (none)) else (some false))) else (none)) else (none)) else (none)) else (some false))) else (none)) else (none)) else (none))) = some r := H
           have A241 := Aside0.mk A2410
           clear A2410
           replace H := Option.bind_eq_some_iff.mp H
           obtain ⟨t547, A2420, H⟩ := H
           replace H : (if t546.size + 1 ≤ 9223372036854775807 then (if 2 + t547.size ≤ 9223372036854775807 then (if (2 + t547.size) + 1 ≤ 9223372036854775807 then ((numeral_Compare.f k 16 (t546 ++ (⟨#[120]⟩ : ByteArray)) (((⟨#[32, 32]⟩ : ByteArray) ++ t547) ++ (⟨#[47]⟩ : ByteArray))).bind fun t548 => (if t548 = 0 then (if 1 + t546.size ≤ 9223372036854775807 then (if (1 + t546.size) + 1 ≤ 9223372036854775807 then (if t547.size + 1 ≤ 9223372036854775807 then ((numeral_Compare.f k 32 (((⟨#[9]⟩ : ByteArray) ++ t546) ++ (⟨#[120]⟩ : ByteArray)) (t547 ++ (⟨#[47]⟩ : ByteArray))).bind fun t549 => (if t549 = 0 then (if 1 + t547.size ≤ 9223372036854775807 then (if (1 + t547.size) + 1 ≤ 9223372036854775807 then ((numeral_Compare.f k 64 (t546 ++ (⟨#[120]⟩ : ByteArray)) (((⟨#[32]⟩ : ByteArray) ++ t547) ++ (⟨#[47]⟩ : ByteArray))).bind fun t550 => (if t550 = 0 then (if a0 < 0 then (some true) else (if a1 < 0 then (some true) else ((numeral_Compare.f k 256 t546 t547).bind fun t551 => (some (t551 == 0))))) else (some false))) else (none)) else (none)) else (some false))) else (none)) else (none)) else (none)) else (some false))) else (none)) else (none)) else (none)) = some r := H
           have A242 := Aside0.mk A2420
           clear A2420
           by_cases c243 : t546.size + 1 ≤ 9223372036854775807
           ·
            rw [if_pos c243] at H
            have c243b0 := eq_true c243
            have c243b1 : decide (t546.size + 1 ≤ 9223372036854775807) = true := decide_eq_true c243
            try have c243b2 : (9223372036854775807 < t546.size + 1) = False := eq_false (Nat.not_lt.2 c243)
            by_cases c244 : 2 + t547.size ≤ 9223372036854775807
            ·
             rw [if_pos c244] at H
             have c244b0 := eq_true c244
             have c244b1 : decide (2 + t547.size ≤ 9223372036854775807) = true := decide_eq_true c244
             try have c244b2 : (9223372036854775807 < 2 + t547.size) = False := eq_false (Nat.not_lt.2 c244)
             by_cases c245 : (2 + t547.size) + 1 ≤ 9223372036854775807
             ·
              rw [if_pos c245] at H
              have c245b0 := eq_true c245
              have c245b1 : decide ((2 + t547.size) + 1 ≤ 9223372036854775807) = true := decide_eq_true c245
              try have c245b2 : (9223372036854775807 < (2 + t547.size) + 1) = False := eq_false (Nat.not_lt.2 c245)
              replace H := Option.bind_eq_some_iff.mp H
              obtain ⟨t548, A2460, H⟩ := H
              replace H : (if t548 = 0 then (if 1 + t546.size ≤ 9223372036854775807 then (if (1 + t546.size) + 1 ≤ 9223372036854775807 then (if t547.size + 1 ≤ 9223372036854775807 then ((numeral_Compare.f k 32 (((⟨#[9]⟩ : ByteArray) ++ t546) ++ (⟨#[120]⟩ : ByteArray)) (t547 ++ (⟨#[47]⟩ : ByteArray))).bind fun t549 => (if t549 = 0 then (if 1 + t547.size ≤ 9223372036854775807 then (if (1 + t547.size) + 1 ≤ 9223372036854775807 then ((numeral_Compare.f k 64 (t546 ++ (⟨#[120]⟩ : ByteArray)) (((⟨#[32]⟩ : ByteArray) ++ t547) ++ (⟨#[47]⟩ : ByteArray))).bind fun t550 => (if t550 = 0 then (if a0 < 0 then (some true) else (if a1 < 0 then (some true) else ((numeral_Compare.f k 256 t546 t547).bind fun t551 => (some (t551 == 0))))) else (some false))) else (none)) else (none)) else (some false))) else (none)) else (none)) else (none)) else (some false)) = some r := H
              have A246 := Aside0.mk A2460
              clear A2460
              by_cases c247 : t548 = 0
              ·
               rw [if_pos c247] at H
               have c247b0 : (t548 == 0) = true := beq_iff_eq.mpr c247
               have c247b1 : (t548 != 0) = false := bne_eq_false_iff_eq.mpr c247
               clear c247
               by_cases c248 : 1 + t546.size ≤ 9223372036854775807
               ·
                rw [if_pos c248] at H
                have c248b0 := eq_true c248
                have c248b1 : decide (1 + t546.size ≤ 9223372036854775807) = true := decide_eq_true c248
                try have c248b2 : (9223372036854775807 < 1 + t546.size) = False := eq_false (Nat.not_lt.2 c248)
                by_cases c249 : (1 + t546.size) + 1 ≤ 9223372036854775807
                ·
                 rw [if_pos c249] at H
                 have c249b0 := eq_true c249
                 have c249b1 : decide ((1 + t546.size) + 1 ≤ 9223372036854775807) = true := decide_eq_true c249
                 try have c249b2 : (9223372036854775807 < (1 + t546.size) + 1) = False := eq_false (Nat.not_lt.2 c249)
                 by_cases c250 : t547.size + 1 ≤ 9223372036854775807
                 ·
                  rw [if_pos c250] at H
                  have c250b0 := eq_true c250
                  have c250b1 : decide (t547.size + 1 ≤ 9223372036854775807) = true := decide_eq_true c250
                  try have c250b2 : (9223372036854775807 < t547.size + 1) = False := eq_false (Nat.not_lt.2 c250)
                  replace H := Option.bind_eq_some_iff.mp H
                  obtain ⟨t549, A2510, H⟩ := H
                  replace H : (if t549 = 0 then (if 1 + t547.size ≤ 9223372036854775807 then (if (1 + t547.size) + 1 ≤ 9223372036854775807 then ((numeral_Compare.f k 64 (t546 ++ (⟨#[120]⟩ : ByteArray)) (((⟨#[32]⟩ : ByteArray) ++ t547) ++ (⟨#[47]⟩ : ByteArray))).bind fun t550 => (if t550 = 0 then (if a0 < 0 then (some true) else (if a1 < 0 then (some true) else ((numeral_Compare.f k 256 t546 t547).bind fun t551 => (some (t551 == 0))))) else (some false))) else (none)) else (none)) else (some false)) = some r := H
                  have A251 := Aside0.mk A2510
                  clear A2510
                  by_cases c252 : t549 = 0
                  ·
                   rw [if_pos c252] at H
                   have c252b0 : (t549 == 0) = true := beq_iff_eq.mpr c252
                   have c252b1 : (t549 != 0) = false := bne_eq_false_iff_eq.mpr c252
                   clear c252
                   by_cases c253 : 1 + t547.size ≤ 9223372036854775807
                   ·
                    rw [if_pos c253] at H
                    have c253b0 := eq_true c253
                    have c253b1 : decide (1 + t547.size ≤ 9223372036854775807) = true := decide_eq_true c253
                    try have c253b2 : (9223372036854775807 < 1 + t547.size) = False := eq_false (Nat.not_lt.2 c253)
                    by_cases c254 : (1 + t547.size) + 1 ≤ 9223372036854775807
                    ·
                     rw [if_pos c254] at H
                     have c254b0 := eq_true c254
                     have c254b1 : decide ((1 + t547.size) + 1 ≤ 9223372036854775807) = true := decide_eq_true c254
                     try have c254b2 : (9223372036854775807 < (1 + t547.size) + 1) = False := eq_false (Nat.not_lt.2 c254)
                     replace H := Option.bind_eq_some_iff.mp H
                     obtain ⟨t550, A2550, H⟩ := H
                     replace H : (if t550 = 0 then (if a0 < 0 then (some true) else (if a1 < 0 then (some true) else ((numeral_Compare.f k 256 t546 t547).bind fun t551 => (some (t551 == 0))))) else (some false)) = some r := H
                     have A255 := Aside0.mk A2550
                     clear A2550
                     by_cases c256 : t550 = 0
                     ·
                      rw [if_pos c256] at H
                      have c256b0 : (t550 == 0) = true := beq_iff_eq.mpr c256
                      have c256b1 : (t550 != 0) = false := bne_eq_false_iff_eq.mpr c256
                      clear c256
                      by_cases c257 : a0 < 0
                      ·
                       rw [if_pos c257] at H
                       have c257b0 : decide (a0 < 0) = true := decide_eq_true c257
                       clear c257
                       obtain rfl := Option.some.inj H
                       go_enter Tryd.func8, Tryd.ntmps8
                       have tk263 : True := trivial; have tk264 : True := trivial; have tk265 : True := trivial; have tk266 : True := trivial; have tk267 : True := trivial
                       go_wp2_with (first | (have ztk263 := tk263; clear tk263 ztk263; (with_reducible refine gate_callee (f := 15) rfl ?_); refine goesL_ (some 50) rfl rfl Tryd.func15 (by kernel_rfl) rfl #[.int .i64 a0, .int .i64 a2] rfl qnw1_ ?_; (with_reducible refine (milllaw3_written.calls k a0 a2 t546 _ A241.out).mono ?_); rintro e w258 ⟨rfl, hb⟩; refine ⟨_, rfl, ?_⟩; have n0_ := Aside0.mk (below_step qnw0_ hb); clear HB; have HB := n0_; clear n0_; (try clear hb); (try clear hb2); (try clear hk); (try clear hi)) | (have ztk264 := tk264; clear tk264 ztk264; (with_reducible refine gate_callee (f := 15) rfl ?_); refine goesL_ (some 53) rfl rfl Tryd.func15 (by kernel_rfl) rfl #[.int .i64 a1, .int .i64 a3] rfl qnw1_ ?_; (with_reducible refine (milllaw3_written.calls k a1 a3 t547 _ A242.out).mono ?_); rintro e w259 ⟨rfl, hb⟩; refine ⟨_, rfl, ?_⟩; have n0_ := Aside0.mk (below_step qnw0_ hb); clear HB; have HB := n0_; clear n0_; (try clear hb); (try clear hb2); (try clear hk); (try clear hi)) | (have ztk265 := tk265; clear tk265 ztk265; (with_reducible refine gate_callee (f := 27) rfl ?_); refine goesL_ (some 59) rfl rfl Tryd.func27 (by kernel_rfl) rfl #[.int .u16 16, .string (t546 ++ (⟨#[120]⟩ : ByteArray)), .string (((⟨#[32, 32]⟩ : ByteArray) ++ t547) ++ (⟨#[47]⟩ : ByteArray))] rfl qnw1_ ?_; (with_reducible refine (numeral_Compare.calls k 16 (t546 ++ (⟨#[120]⟩ : ByteArray)) (((⟨#[32, 32]⟩ : ByteArray) ++ t547) ++ (⟨#[47]⟩ : ByteArray)) t548 _ ?side1 A246.out).mono ?_); (case side1 => exact GOK.below HGL.out qnw0_); rintro e w260 ⟨rfl, hb⟩; refine ⟨_, rfl, ?_⟩; have n0_ := Aside0.mk (below_step qnw0_ hb); clear HB; have HB := n0_; clear n0_; (try clear hb); (try clear hb2); (try clear hk); (try clear hi)) | (have ztk266 := tk266; clear tk266 ztk266; go_at_call 27; (with_reducible refine (numeral_Compare.calls k 32 (((⟨#[9]⟩ : ByteArray) ++ t546) ++ (⟨#[120]⟩ : ByteArray)) (t547 ++ (⟨#[47]⟩ : ByteArray)) t549 _ ?side1 A251.out).mono ?_); (case side1 => exact GOK.below HGL.out qnw0_); rintro e w261 ⟨rfl, hb⟩; have n0_ := Aside0.mk (below_step qnw0_ hb); clear HB; have HB := n0_; clear n0_; (try clear hb); (try clear hb2); (try clear hk); (try clear hi)) | (have ztk267 := tk267; clear tk267 ztk267; go_at_call 27; (with_reducible refine (numeral_Compare.calls k 64 (t546 ++ (⟨#[120]⟩ : ByteArray)) (((⟨#[32]⟩ : ByteArray) ++ t547) ++ (⟨#[47]⟩ : ByteArray)) t550 _ ?side1 A255.out).mono ?_); (case side1 => exact GOK.below HGL.out qnw0_); rintro e w262 ⟨rfl, hb⟩; have n0_ := Aside0.mk (below_step qnw0_ hb); clear HB; have HB := n0_; clear n0_; (try clear hb); (try clear hb2); (try clear hk); (try clear hi)))
                       go_ret
                       exact ⟨qnw3_, qnw0_⟩
                      ·
                       rw [if_neg c257] at H
                       have c257b0 : decide (a0 < 0) = false := decide_eq_false c257
                       clear c257
                       by_cases c268 : a1 < 0
                       ·
                        rw [if_pos c268] at H
                        have c268b0 : decide (a1 < 0) = true := decide_eq_true c268
                        clear c268
                        obtain rfl := Option.some.inj H
                        go_enter Tryd.func8, Tryd.ntmps8
                        have tk274 : True := trivial; have tk275 : True := trivial; have tk276 : True := trivial; have tk277 : True := trivial; have tk278 : True := trivial
                        go_wp2_with (first | (have ztk274 := tk274; clear tk274 ztk274; (with_reducible refine gate_callee (f := 15) rfl ?_); refine goesL_ (some 50) rfl rfl Tryd.func15 (by kernel_rfl) rfl #[.int .i64 a0, .int .i64 a2] rfl qnw1_ ?_; (with_reducible refine (milllaw3_written.calls k a0 a2 t546 _ A241.out).mono ?_); rintro e w269 ⟨rfl, hb⟩; refine ⟨_, rfl, ?_⟩; have n0_ := Aside0.mk (below_step qnw0_ hb); clear HB; have HB := n0_; clear n0_; (try clear hb); (try clear hb2); (try clear hk); (try clear hi)) | (have ztk275 := tk275; clear tk275 ztk275; (with_reducible refine gate_callee (f := 15) rfl ?_); refine goesL_ (some 53) rfl rfl Tryd.func15 (by kernel_rfl) rfl #[.int .i64 a1, .int .i64 a3] rfl qnw1_ ?_; (with_reducible refine (milllaw3_written.calls k a1 a3 t547 _ A242.out).mono ?_); rintro e w270 ⟨rfl, hb⟩; refine ⟨_, rfl, ?_⟩; have n0_ := Aside0.mk (below_step qnw0_ hb); clear HB; have HB := n0_; clear n0_; (try clear hb); (try clear hb2); (try clear hk); (try clear hi)) | (have ztk276 := tk276; clear tk276 ztk276; (with_reducible refine gate_callee (f := 27) rfl ?_); refine goesL_ (some 59) rfl rfl Tryd.func27 (by kernel_rfl) rfl #[.int .u16 16, .string (t546 ++ (⟨#[120]⟩ : ByteArray)), .string (((⟨#[32, 32]⟩ : ByteArray) ++ t547) ++ (⟨#[47]⟩ : ByteArray))] rfl qnw1_ ?_; (with_reducible refine (numeral_Compare.calls k 16 (t546 ++ (⟨#[120]⟩ : ByteArray)) (((⟨#[32, 32]⟩ : ByteArray) ++ t547) ++ (⟨#[47]⟩ : ByteArray)) t548 _ ?side1 A246.out).mono ?_); (case side1 => exact GOK.below HGL.out qnw0_); rintro e w271 ⟨rfl, hb⟩; refine ⟨_, rfl, ?_⟩; have n0_ := Aside0.mk (below_step qnw0_ hb); clear HB; have HB := n0_; clear n0_; (try clear hb); (try clear hb2); (try clear hk); (try clear hi)) | (have ztk277 := tk277; clear tk277 ztk277; go_at_call 27; (with_reducible refine (numeral_Compare.calls k 32 (((⟨#[9]⟩ : ByteArray) ++ t546) ++ (⟨#[120]⟩ : ByteArray)) (t547 ++ (⟨#[47]⟩ : ByteArray)) t549 _ ?side1 A251.out).mono ?_); (case side1 => exact GOK.below HGL.out qnw0_); rintro e w272 ⟨rfl, hb⟩; have n0_ := Aside0.mk (below_step qnw0_ hb); clear HB; have HB := n0_; clear n0_; (try clear hb); (try clear hb2); (try clear hk); (try clear hi)) | (have ztk278 := tk278; clear tk278 ztk278; go_at_call 27; (with_reducible refine (numeral_Compare.calls k 64 (t546 ++ (⟨#[120]⟩ : ByteArray)) (((⟨#[32]⟩ : ByteArray) ++ t547) ++ (⟨#[47]⟩ : ByteArray)) t550 _ ?side1 A255.out).mono ?_); (case side1 => exact GOK.below HGL.out qnw0_); rintro e w273 ⟨rfl, hb⟩; have n0_ := Aside0.mk (below_step qnw0_ hb); clear HB; have HB := n0_; clear n0_; (try clear hb); (try clear hb2); (try clear hk); (try clear hi)))
                        go_ret
                        exact ⟨qnw3_, qnw0_⟩
                       ·
                        rw [if_neg c268] at H
                        have c268b0 : decide (a1 < 0) = false := decide_eq_false c268
                        clear c268
                        replace H := Option.bind_eq_some_iff.mp H
                        obtain ⟨t551, A2790, H⟩ := H
                        replace H : (some (t551 == 0)) = some r := H
                        have A279 := Aside0.mk A2790
                        clear A2790
                        obtain rfl := Option.some.inj H
                        go_enter Tryd.func8, Tryd.ntmps8
                        have tk286 : True := trivial; have tk287 : True := trivial; have tk288 : True := trivial; have tk289 : True := trivial; have tk290 : True := trivial; have tk291 : True := trivial
                        go_wp2_with (first | (have ztk286 := tk286; clear tk286 ztk286; (with_reducible refine gate_callee (f := 15) rfl ?_); refine goesL_ (some 50) rfl rfl Tryd.func15 (by kernel_rfl) rfl #[.int .i64 a0, .int .i64 a2] rfl qnw1_ ?_; (with_reducible refine (milllaw3_written.calls k a0 a2 t546 _ A241.out).mono ?_); rintro e w280 ⟨rfl, hb⟩; refine ⟨_, rfl, ?_⟩; have n0_ := Aside0.mk (below_step qnw0_ hb); clear HB; have HB := n0_; clear n0_; (try clear hb); (try clear hb2); (try clear hk); (try clear hi)) | (have ztk287 := tk287; clear tk287 ztk287; (with_reducible refine gate_callee (f := 15) rfl ?_); refine goesL_ (some 53) rfl rfl Tryd.func15 (by kernel_rfl) rfl #[.int .i64 a1, .int .i64 a3] rfl qnw1_ ?_; (with_reducible refine (milllaw3_written.calls k a1 a3 t547 _ A242.out).mono ?_); rintro e w281 ⟨rfl, hb⟩; refine ⟨_, rfl, ?_⟩; have n0_ := Aside0.mk (below_step qnw0_ hb); clear HB; have HB := n0_; clear n0_; (try clear hb); (try clear hb2); (try clear hk); (try clear hi)) | (have ztk288 := tk288; clear tk288 ztk288; (with_reducible refine gate_callee (f := 27) rfl ?_); refine goesL_ (some 59) rfl rfl Tryd.func27 (by kernel_rfl) rfl #[.int .u16 16, .string (t546 ++ (⟨#[120]⟩ : ByteArray)), .string (((⟨#[32, 32]⟩ : ByteArray) ++ t547) ++ (⟨#[47]⟩ : ByteArray))] rfl qnw1_ ?_; (with_reducible refine (numeral_Compare.calls k 16 (t546 ++ (⟨#[120]⟩ : ByteArray)) (((⟨#[32, 32]⟩ : ByteArray) ++ t547) ++ (⟨#[47]⟩ : ByteArray)) t548 _ ?side1 A246.out).mono ?_); (case side1 => exact GOK.below HGL.out qnw0_); rintro e w282 ⟨rfl, hb⟩; refine ⟨_, rfl, ?_⟩; have n0_ := Aside0.mk (below_step qnw0_ hb); clear HB; have HB := n0_; clear n0_; (try clear hb); (try clear hb2); (try clear hk); (try clear hi)) | (have ztk289 := tk289; clear tk289 ztk289; go_at_call 27; (with_reducible refine (numeral_Compare.calls k 32 (((⟨#[9]⟩ : ByteArray) ++ t546) ++ (⟨#[120]⟩ : ByteArray)) (t547 ++ (⟨#[47]⟩ : ByteArray)) t549 _ ?side1 A251.out).mono ?_); (case side1 => exact GOK.below HGL.out qnw0_); rintro e w283 ⟨rfl, hb⟩; have n0_ := Aside0.mk (below_step qnw0_ hb); clear HB; have HB := n0_; clear n0_; (try clear hb); (try clear hb2); (try clear hk); (try clear hi)) | (have ztk290 := tk290; clear tk290 ztk290; go_at_call 27; (with_reducible refine (numeral_Compare.calls k 64 (t546 ++ (⟨#[120]⟩ : ByteArray)) (((⟨#[32]⟩ : ByteArray) ++ t547) ++ (⟨#[47]⟩ : ByteArray)) t550 _ ?side1 A255.out).mono ?_); (case side1 => exact GOK.below HGL.out qnw0_); rintro e w284 ⟨rfl, hb⟩; have n0_ := Aside0.mk (below_step qnw0_ hb); clear HB; have HB := n0_; clear n0_; (try clear hb); (try clear hb2); (try clear hk); (try clear hi)) | (have ztk291 := tk291; clear tk291 ztk291; go_at_call 27; (with_reducible refine (numeral_Compare.calls k 256 t546 t547 t551 _ ?side1 A279.out).mono ?_); (case side1 => exact GOK.below HGL.out qnw0_); rintro e w285 ⟨rfl, hb⟩; have n0_ := Aside0.mk (below_step qnw0_ hb); clear HB; have HB := n0_; clear n0_; (try clear hb); (try clear hb2); (try clear hk); (try clear hi)))
                        go_ret
                        exact ⟨qnw3_, qnw0_⟩
                     ·
                      rw [if_neg c256] at H
                      have c256b0 : (t550 == 0) = false := beq_eq_false_iff_ne.mpr c256
                      have c256b1 : (t550 != 0) = true := bne_iff_ne.mpr c256
                      obtain rfl := Option.some.inj H
                      go_enter Tryd.func8, Tryd.ntmps8
                      have tk297 : True := trivial; have tk298 : True := trivial; have tk299 : True := trivial; have tk300 : True := trivial; have tk301 : True := trivial
                      go_wp2_with (first | (have ztk297 := tk297; clear tk297 ztk297; (with_reducible refine gate_callee (f := 15) rfl ?_); refine goesL_ (some 50) rfl rfl Tryd.func15 (by kernel_rfl) rfl #[.int .i64 a0, .int .i64 a2] rfl qnw1_ ?_; (with_reducible refine (milllaw3_written.calls k a0 a2 t546 _ A241.out).mono ?_); rintro e w292 ⟨rfl, hb⟩; refine ⟨_, rfl, ?_⟩; have n0_ := Aside0.mk (below_step qnw0_ hb); clear HB; have HB := n0_; clear n0_; (try clear hb); (try clear hb2); (try clear hk); (try clear hi)) | (have ztk298 := tk298; clear tk298 ztk298; (with_reducible refine gate_callee (f := 15) rfl ?_); refine goesL_ (some 53) rfl rfl Tryd.func15 (by kernel_rfl) rfl #[.int .i64 a1, .int .i64 a3] rfl qnw1_ ?_; (with_reducible refine (milllaw3_written.calls k a1 a3 t547 _ A242.out).mono ?_); rintro e w293 ⟨rfl, hb⟩; refine ⟨_, rfl, ?_⟩; have n0_ := Aside0.mk (below_step qnw0_ hb); clear HB; have HB := n0_; clear n0_; (try clear hb); (try clear hb2); (try clear hk); (try clear hi)) | (have ztk299 := tk299; clear tk299 ztk299; (with_reducible refine gate_callee (f := 27) rfl ?_); refine goesL_ (some 59) rfl rfl Tryd.func27 (by kernel_rfl) rfl #[.int .u16 16, .string (t546 ++ (⟨#[120]⟩ : ByteArray)), .string (((⟨#[32, 32]⟩ : ByteArray) ++ t547) ++ (⟨#[47]⟩ : ByteArray))] rfl qnw1_ ?_; (with_reducible refine (numeral_Compare.calls k 16 (t546 ++ (⟨#[120]⟩ : ByteArray)) (((⟨#[32, 32]⟩ : ByteArray) ++ t547) ++ (⟨#[47]⟩ : ByteArray)) t548 _ ?side1 A246.out).mono ?_); (case side1 => exact GOK.below HGL.out qnw0_); rintro e w294 ⟨rfl, hb⟩; refine ⟨_, rfl, ?_⟩; have n0_ := Aside0.mk (below_step qnw0_ hb); clear HB; have HB := n0_; clear n0_; (try clear hb); (try clear hb2); (try clear hk); (try clear hi)) | (have ztk300 := tk300; clear tk300 ztk300; go_at_call 27; (with_reducible refine (numeral_Compare.calls k 32 (((⟨#[9]⟩ : ByteArray) ++ t546) ++ (⟨#[120]⟩ : ByteArray)) (t547 ++ (⟨#[47]⟩ : ByteArray)) t549 _ ?side1 A251.out).mono ?_); (case side1 => exact GOK.below HGL.out qnw0_); rintro e w295 ⟨rfl, hb⟩; have n0_ := Aside0.mk (below_step qnw0_ hb); clear HB; have HB := n0_; clear n0_; (try clear hb); (try clear hb2); (try clear hk); (try clear hi)) | (have ztk301 := tk301; clear tk301 ztk301; go_at_call 27; (with_reducible refine (numeral_Compare.calls k 64 (t546 ++ (⟨#[120]⟩ : ByteArray)) (((⟨#[32]⟩ : ByteArray) ++ t547) ++ (⟨#[47]⟩ : ByteArray)) t550 _ ?side1 A255.out).mono ?_); (case side1 => exact GOK.below HGL.out qnw0_); rintro e w296 ⟨rfl, hb⟩; have n0_ := Aside0.mk (below_step qnw0_ hb); clear HB; have HB := n0_; clear n0_; (try clear hb); (try clear hb2); (try clear hk); (try clear hi)))
                      go_ret
                      exact ⟨qnw3_, qnw0_⟩
                    ·
                     rw [if_neg c254] at H
                     exact absurd H (by simp)
                   ·
                    rw [if_neg c253] at H
                    exact absurd H (by simp)
                  ·
                   rw [if_neg c252] at H
                   have c252b0 : (t549 == 0) = false := beq_eq_false_iff_ne.mpr c252
                   have c252b1 : (t549 != 0) = true := bne_iff_ne.mpr c252
                   obtain rfl := Option.some.inj H
                   go_enter Tryd.func8, Tryd.ntmps8
                   have tk306 : True := trivial; have tk307 : True := trivial; have tk308 : True := trivial; have tk309 : True := trivial
                   go_wp2_with (first | (have ztk306 := tk306; clear tk306 ztk306; (with_reducible refine gate_callee (f := 15) rfl ?_); refine goesL_ (some 50) rfl rfl Tryd.func15 (by kernel_rfl) rfl #[.int .i64 a0, .int .i64 a2] rfl qnw1_ ?_; (with_reducible refine (milllaw3_written.calls k a0 a2 t546 _ A241.out).mono ?_); rintro e w302 ⟨rfl, hb⟩; refine ⟨_, rfl, ?_⟩; have n0_ := Aside0.mk (below_step qnw0_ hb); clear HB; have HB := n0_; clear n0_; (try clear hb); (try clear hb2); (try clear hk); (try clear hi)) | (have ztk307 := tk307; clear tk307 ztk307; (with_reducible refine gate_callee (f := 15) rfl ?_); refine goesL_ (some 53) rfl rfl Tryd.func15 (by kernel_rfl) rfl #[.int .i64 a1, .int .i64 a3] rfl qnw1_ ?_; (with_reducible refine (milllaw3_written.calls k a1 a3 t547 _ A242.out).mono ?_); rintro e w303 ⟨rfl, hb⟩; refine ⟨_, rfl, ?_⟩; have n0_ := Aside0.mk (below_step qnw0_ hb); clear HB; have HB := n0_; clear n0_; (try clear hb); (try clear hb2); (try clear hk); (try clear hi)) | (have ztk308 := tk308; clear tk308 ztk308; (with_reducible refine gate_callee (f := 27) rfl ?_); refine goesL_ (some 59) rfl rfl Tryd.func27 (by kernel_rfl) rfl #[.int .u16 16, .string (t546 ++ (⟨#[120]⟩ : ByteArray)), .string (((⟨#[32, 32]⟩ : ByteArray) ++ t547) ++ (⟨#[47]⟩ : ByteArray))] rfl qnw1_ ?_; (with_reducible refine (numeral_Compare.calls k 16 (t546 ++ (⟨#[120]⟩ : ByteArray)) (((⟨#[32, 32]⟩ : ByteArray) ++ t547) ++ (⟨#[47]⟩ : ByteArray)) t548 _ ?side1 A246.out).mono ?_); (case side1 => exact GOK.below HGL.out qnw0_); rintro e w304 ⟨rfl, hb⟩; refine ⟨_, rfl, ?_⟩; have n0_ := Aside0.mk (below_step qnw0_ hb); clear HB; have HB := n0_; clear n0_; (try clear hb); (try clear hb2); (try clear hk); (try clear hi)) | (have ztk309 := tk309; clear tk309 ztk309; go_at_call 27; (with_reducible refine (numeral_Compare.calls k 32 (((⟨#[9]⟩ : ByteArray) ++ t546) ++ (⟨#[120]⟩ : ByteArray)) (t547 ++ (⟨#[47]⟩ : ByteArray)) t549 _ ?side1 A251.out).mono ?_); (case side1 => exact GOK.below HGL.out qnw0_); rintro e w305 ⟨rfl, hb⟩; have n0_ := Aside0.mk (below_step qnw0_ hb); clear HB; have HB := n0_; clear n0_; (try clear hb); (try clear hb2); (try clear hk); (try clear hi)))
                   go_ret
                   exact ⟨qnw3_, qnw0_⟩
                 ·
                  rw [if_neg c250] at H
                  exact absurd H (by simp)
                ·
                 rw [if_neg c249] at H
                 exact absurd H (by simp)
               ·
                rw [if_neg c248] at H
                exact absurd H (by simp)
              ·
               rw [if_neg c247] at H
               have c247b0 : (t548 == 0) = false := beq_eq_false_iff_ne.mpr c247
               have c247b1 : (t548 != 0) = true := bne_iff_ne.mpr c247
               obtain rfl := Option.some.inj H
               go_enter Tryd.func8, Tryd.ntmps8
               have tk313 : True := trivial; have tk314 : True := trivial; have tk315 : True := trivial
               go_wp2_with (first | (have ztk313 := tk313; clear tk313 ztk313; (with_reducible refine gate_callee (f := 15) rfl ?_); refine goesL_ (some 50) rfl rfl Tryd.func15 (by kernel_rfl) rfl #[.int .i64 a0, .int .i64 a2] rfl qnw1_ ?_; (with_reducible refine (milllaw3_written.calls k a0 a2 t546 _ A241.out).mono ?_); rintro e w310 ⟨rfl, hb⟩; refine ⟨_, rfl, ?_⟩; have n0_ := Aside0.mk (below_step qnw0_ hb); clear HB; have HB := n0_; clear n0_; (try clear hb); (try clear hb2); (try clear hk); (try clear hi)) | (have ztk314 := tk314; clear tk314 ztk314; (with_reducible refine gate_callee (f := 15) rfl ?_); refine goesL_ (some 53) rfl rfl Tryd.func15 (by kernel_rfl) rfl #[.int .i64 a1, .int .i64 a3] rfl qnw1_ ?_; (with_reducible refine (milllaw3_written.calls k a1 a3 t547 _ A242.out).mono ?_); rintro e w311 ⟨rfl, hb⟩; refine ⟨_, rfl, ?_⟩; have n0_ := Aside0.mk (below_step qnw0_ hb); clear HB; have HB := n0_; clear n0_; (try clear hb); (try clear hb2); (try clear hk); (try clear hi)) | (have ztk315 := tk315; clear tk315 ztk315; (with_reducible refine gate_callee (f := 27) rfl ?_); refine goesL_ (some 59) rfl rfl Tryd.func27 (by kernel_rfl) rfl #[.int .u16 16, .string (t546 ++ (⟨#[120]⟩ : ByteArray)), .string (((⟨#[32, 32]⟩ : ByteArray) ++ t547) ++ (⟨#[47]⟩ : ByteArray))] rfl qnw1_ ?_; (with_reducible refine (numeral_Compare.calls k 16 (t546 ++ (⟨#[120]⟩ : ByteArray)) (((⟨#[32, 32]⟩ : ByteArray) ++ t547) ++ (⟨#[47]⟩ : ByteArray)) t548 _ ?side1 A246.out).mono ?_); (case side1 => exact GOK.below HGL.out qnw0_); rintro e w312 ⟨rfl, hb⟩; refine ⟨_, rfl, ?_⟩; have n0_ := Aside0.mk (below_step qnw0_ hb); clear HB; have HB := n0_; clear n0_; (try clear hb); (try clear hb2); (try clear hk); (try clear hi)))
               go_ret
               exact ⟨qnw3_, qnw0_⟩
             ·
              rw [if_neg c245] at H
              exact absurd H (by simp)
            ·
             rw [if_neg c244] at H
             exact absurd H (by simp)
           ·
            rw [if_neg c243] at H
            exact absurd H (by simp)

/-- THE ONE PURE STATEMENT of milllaw3_NumeralWhole: yours. -/
def milllaw3_NumeralWhole.Pure : Prop := ∀ (a0 : Int) (a1 : Int) (a2 : Int) (a3 : Int), (Lit.int .i64 a0).wf = true → (Lit.int .i64 a1).wf = true → (Lit.int .i64 a2).wf = true → (Lit.int .i64 a3).wf = true → ∃ k, milllaw3_NumeralWhole.f k a0 a1 a2 a3 = some true
theorem milllaw3_NumeralWhole.walk (P : milllaw3_NumeralWhole.Pure) (a0 : Int) (a1 : Int) (a2 : Int) (a3 : Int) (w : World) (hGL : GOK w) (w0 : (Lit.int .i64 a0).wf = true) (w1 : (Lit.int .i64 a1).wf = true) (w2 : (Lit.int .i64 a2).wf = true) (w3 : (Lit.int .i64 a3).wf = true) :
  Calls Tryd.prog 8 #[.int .i64 a0, .int .i64 a1, .int .i64 a2, .int .i64 a3] w fun e w' => e = .returned (.bool true) ∧ Below w.heap.size w w' := by
 obtain ⟨k, h⟩ := P a0 a1 a2 a3 w0 w1 w2 w3
 refine (milllaw3_NumeralWhole.calls k a0 a1 a2 a3 true w hGL h).mono ?_
 rintro e w' ⟨rfl, hd⟩
 exact ⟨rfl, hd⟩

end Go.Proofs.YtcdajedmlfhmeaaDoor.XN
