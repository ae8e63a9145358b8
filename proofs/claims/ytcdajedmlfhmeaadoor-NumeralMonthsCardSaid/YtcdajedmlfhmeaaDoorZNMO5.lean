import Derived.Test.YtcdajedmlfhmeaaDoorZNMO0
import Derived.Test.YtcdajedmlfhmeaaDoorZNMO1
import Derived.Test.YtcdajedmlfhmeaaDoorZNMO4
namespace Go.Proofs.YtcdajedmlfhmeaaDoor.XN
open Go.RowKit Go.Proofs.YtcdajedmlfhmeaaDoorW.PrintWords Go.Proofs.YtcdajedmlfhmeaaDoorW.PrintLast Go.Proofs.YtcdajedmlfhmeaaDoorW.PrintMore
attribute [local go_sem] max2_int min2_int max_two min_two max_three min_three max_four min_four
set_option linter.unusedVariables false
set_option linter.unusedSimpArgs false

/-! ### numeral_pair: function 74 -/
mutual
def numeral_pair.j1 : Nat → ByteArray → Int → Option (ByteArray × ByteArray × ByteArray)
 | 0, _, _ => none
 | k + 1, x0, x5 => numeral_pair.l1 k x0 x5 x5
def numeral_pair.l1 : Nat → ByteArray → Int → Int → Option (ByteArray × ByteArray × ByteArray)
 | 0, _, _, _ => none
 | k + 1, x0, x5, x6 => if x6 < (x0.size : Int) then (if 0 ≤ x6 then ((numeral_digit.f (bt x0 x6)).bind fun t264 => (if t264 = true then (numeral_pair.l1 k x0 x5 (wrap64 (x6 + 1))) else (if 0 ≤ x5 then (if x5 ≤ (x0.size : Int) then (if x5 ≤ x6 then (if x6 ≤ (x0.size : Int) then (some (x0.extract 0 (x5 : Int).toNat, x0.extract (x5 : Int).toNat (x6 : Int).toNat, x0.extract (x6 : Int).toNat x0.size)) else (none)) else (none)) else (none)) else (none)))) else (none)) else (if 0 ≤ x5 then (if x5 ≤ (x0.size : Int) then (if x5 ≤ x6 then (if x6 ≤ (x0.size : Int) then (if 0 ≤ x6 then (some (x0.extract 0 (x5 : Int).toNat, x0.extract (x5 : Int).toNat (x6 : Int).toNat, x0.extract (x6 : Int).toNat x0.size)) else (none)) else (none)) else (none)) else (none)) else (none))
def numeral_pair.l0 : Nat → ByteArray → Int → Option (ByteArray × ByteArray × ByteArray)
 | 0, _, _ => none
 | k + 1, x0, x5 => if x5 < (x0.size : Int) then (if 0 ≤ x5 then ((numeral_digit.f (bt x0 x5)).bind fun t263 => (if t263 = true then (numeral_pair.j1 k x0 x5) else (numeral_pair.l0 k x0 (wrap64 (x5 + 1))))) else (none)) else (numeral_pair.j1 k x0 x5)
end
def numeral_pair.f (k : Nat) (a0 : ByteArray) : Option (ByteArray × ByteArray × ByteArray) := numeral_pair.l0 k a0 0
set_option maxHeartbeats 8000000 in
set_option maxRecDepth 100000 in
theorem numeral_pair.calls (k : Nat) (a0 : ByteArray) (r1 : ByteArray) (r2 : ByteArray) (r3 : ByteArray) (w : World) (h : numeral_pair.f k a0 = some (r1, r2, r3)) :
  Calls Tryd.prog 74 #[.string a0] w fun e w' => e = .returned (.tuple #[.string r1, .string r2, .string r3]) ∧ Drawn0 w w' := by
 have H : (numeral_pair.l0 k a0 0) = some (r1, r2, r3) := h
 clear h
 have HC2 := Aside0.mk H
 clear H
 go_enter Tryd.func74, Tryd.ntmps74
 go_upto_block 0 with (fail)
 repeat (go_quiet (fail); go_upto_block 0 with (fail))
 go_cut [5] (fun v5 wc => ∃ (kq : Nat) (x5_1 : Int), v5 = .int .i64 x5_1 ∧ Aside0 (numeral_pair.j1 kq a0 x5_1 = some (r1, r2, r3)) ∧ Aside0 (kq ≤ k) ∧ Drawn0 w wc)
 case first =>
  have H := HC2.out
  clear HC2
  have H' := Aside0.mk H
  clear H
  go_wp2
  repeat (go_quiet (fail); try go_wp2)
  go_loopg [5] k (fun kq v5 w' => ∃ (x5_1 : Int), v5 = .int .i64 x5_1 ∧ Aside0 (numeral_pair.l0 kq a0 x5_1 = some (r1, r2, r3)) ∧ Aside0 (kq ≤ k) ∧ Drawn0 w w')
  case atStart => exact ⟨(0), qnmo2_, H', ⟨Nat.le_refl _⟩, qnmo11_⟩
  case round =>
   clear H'
   (try clear p2)
   obtain ⟨x5_1, rfl, HA, HK1, ⟨m1, rfl⟩⟩ := hrel
   cases gk with
   | zero => exact absurd HA.out (by simp [numeral_pair.l0])
   | succ k1 =>
    have H := HA.out
    clear HA
    simp only [numeral_pair.l0] at H
    by_cases c3 : x5_1 < (a0.size : Int)
    ·
     rw [if_pos c3] at H
     have c3b0 : decide (x5_1 < (a0.size : Int)) = true := decide_eq_true c3
     clear c3
     (first | rw [c3b0] | (simp only [i64_w, i32_w]; rw [c3b0]) | skip)
     by_cases c4 : 0 ≤ x5_1
     ·
      rw [if_pos c4] at H
      have c4b0 : decide (0 ≤ x5_1) = true := decide_eq_true c4
      clear c4
      replace H := Option.bind_eq_some_iff.mp H
      obtain ⟨t263, A60, H⟩ := H
      replace H : (if t263 = true then (numeral_pair.j1 k1 a0 x5_1) else (numeral_pair.l0 k1 a0 (wrap64 (x5_1 + 1)))) = some (r1, r2, r3) := H
      have A6 := Aside0.mk A60
      clear A60
      by_cases c7 : t263 = true
      ·
       subst c7
       have H1 : (numeral_pair.j1 k1 a0 x5_1) = some (r1, r2, r3) := by rw [if_pos rfl] at H; exact H
       clear H
       have H := H1
       clear H1
       have H' := Aside0.mk H
       clear H
       have p5 : 0 ≤ (x5_1 : Int) := of_decide_eq_true qnmo5_
       have q5 : x5_1 < (a0.size : Int) := of_decide_eq_true qnmo5_
       have hx5 := bt_at a0 x5_1
       replace p5 := eq_true p5
       replace q5 := eq_true q5
       go_wp2_with (first | (go_at_call 68; (with_reducible refine (numeral_digit.calls (bt a0 x5_1) true _ A6.out).mono ?_); rintro e w' ⟨rfl, ⟨nd, rfl⟩⟩; (try first | exact ⟨rfl, _, World.drewN_drewN _ _ _⟩ | exact ⟨rfl, _, Eq.trans (World.drewN_drewN _ _ _) (congrArg (World.drewN _) (Nat.add_assoc _ _ _))⟩)))
       repeat (go_quiet (first | (go_at_call 68; (with_reducible refine (numeral_digit.calls (bt a0 x5_1) true _ A6.out).mono ?_); rintro e w' ⟨rfl, ⟨nd, rfl⟩⟩; (try first | exact ⟨rfl, _, World.drewN_drewN _ _ _⟩ | exact ⟨rfl, _, Eq.trans (World.drewN_drewN _ _ _) (congrArg (World.drewN _) (Nat.add_assoc _ _ _))⟩))); try go_wp2_with (first | (go_at_call 68; (with_reducible refine (numeral_digit.calls (bt a0 x5_1) true _ A6.out).mono ?_); rintro e w' ⟨rfl, ⟨nd, rfl⟩⟩; (try first | exact ⟨rfl, _, World.drewN_drewN _ _ _⟩ | exact ⟨rfl, _, Eq.trans (World.drewN_drewN _ _ _) (congrArg (World.drewN _) (Nat.add_assoc _ _ _))⟩))))
       go_meet
       case rel => exact ⟨_, (x5_1), qnmo2_, H', ⟨by have := HK1.out; first | omega | exact Nat.le_refl _⟩, qnmo11_⟩
      ·
       replace c7 := Bool.eq_false_iff.mpr c7
       subst c7
       have H1 : (numeral_pair.l0 k1 a0 (wrap64 (x5_1 + 1))) = some (r1, r2, r3) := by rw [if_neg (show ¬ (false = true) by decide)] at H; exact H
       clear H
       have H := H1
       clear H1
       have H' := Aside0.mk H
       clear H
       have p5 : 0 ≤ (x5_1 : Int) := of_decide_eq_true qnmo5_
       have q5 : x5_1 < (a0.size : Int) := of_decide_eq_true qnmo5_
       have hx5 := bt_at a0 x5_1
       replace p5 := eq_true p5
       replace q5 := eq_true q5
       go_wp2_with (first | (go_at_call 68; (with_reducible refine (numeral_digit.calls (bt a0 x5_1) false _ A6.out).mono ?_); rintro e w' ⟨rfl, ⟨nd, rfl⟩⟩; (try first | exact ⟨rfl, _, World.drewN_drewN _ _ _⟩ | exact ⟨rfl, _, Eq.trans (World.drewN_drewN _ _ _) (congrArg (World.drewN _) (Nat.add_assoc _ _ _))⟩)))
       repeat (go_quiet (first | (go_at_call 68; (with_reducible refine (numeral_digit.calls (bt a0 x5_1) false _ A6.out).mono ?_); rintro e w' ⟨rfl, ⟨nd, rfl⟩⟩; (try first | exact ⟨rfl, _, World.drewN_drewN _ _ _⟩ | exact ⟨rfl, _, Eq.trans (World.drewN_drewN _ _ _) (congrArg (World.drewN _) (Nat.add_assoc _ _ _))⟩))); try go_wp2_with (first | (go_at_call 68; (with_reducible refine (numeral_digit.calls (bt a0 x5_1) false _ A6.out).mono ?_); rintro e w' ⟨rfl, ⟨nd, rfl⟩⟩; (try first | exact ⟨rfl, _, World.drewN_drewN _ _ _⟩ | exact ⟨rfl, _, Eq.trans (World.drewN_drewN _ _ _) (congrArg (World.drewN _) (Nat.add_assoc _ _ _))⟩))))
       go_roundg k1
       case measure => have := HK1.out; omega
       case rel => exact ⟨(wrap64 (x5_1 + 1)), qnmo2_, H', ⟨by have := HK1.out; omega⟩, qnmo11_⟩
     ·
      rw [if_neg c4] at H
      exact absurd H (by simp)
    ·
     rw [if_neg c3] at H
     have c3b0 : decide (x5_1 < (a0.size : Int)) = false := decide_eq_false c3
     clear c3
     (first | rw [c3b0] | (simp only [i64_w, i32_w]; rw [c3b0]) | skip)
     have H' := Aside0.mk H
     clear H
     go_wp2
     repeat (go_quiet (fail); try go_wp2)
     go_meet
     case rel => exact ⟨_, (x5_1), qnmo2_, H', ⟨by have := HK1.out; first | omega | exact Nat.le_refl _⟩, qnmo11_⟩
 case rest =>
  clear HC2
  (try clear p2); (try clear c3); (try clear c3b0); (try clear c4); (try clear c4b0); (try clear p5); (try clear q5); (try clear hx5); (try clear p6); (try clear c7); (try clear p2); (try clear p5); (try clear q5)
  obtain ⟨kq, x5_1, rfl, HA, HJ1, ⟨mc1, rfl⟩⟩ := hcut
  cases kq with
  | zero => exact absurd HA.out (by simp [numeral_pair.j1])
  | succ kj1 =>
   have H := HA.out
   clear HA
   simp only [numeral_pair.j1] at H
   have H' := Aside0.mk H
   clear H
   go_wp2
   repeat (go_quiet (fail); try go_wp2)
   go_loopg [6] kj1 (fun kq v6 w' => ∃ (x6_2 : Int), v6 = .int .i64 x6_2 ∧ Aside0 (numeral_pair.l1 kq a0 x5_1 x6_2 = some (r1, r2, r3)) ∧ Aside0 (kq ≤ kj1) ∧ Drawn0 w w')
   case atStart => exact ⟨(x5_1), qnmo2_, H', ⟨Nat.le_refl _⟩, qnmo11_⟩
   case round =>
    clear H'
    (try clear c1); (try clear p2); (try clear c3); (try clear c3b0); (try clear c4); (try clear c4b0); (try clear p5); (try clear q5); (try clear hx5); (try clear p6); (try clear c7); (try clear p2); (try clear p5); (try clear p6); (try clear q5)
    obtain ⟨x6_2, rfl, HA, HK2, ⟨m2, rfl⟩⟩ := hrel
    cases gk with
    | zero => exact absurd HA.out (by simp [numeral_pair.l1])
    | succ k2 =>
     have H := HA.out
     clear HA
     simp only [numeral_pair.l1] at H
     by_cases c8 : x6_2 < (a0.size : Int)
     ·
      rw [if_pos c8] at H
      have c8b0 : decide (x6_2 < (a0.size : Int)) = true := decide_eq_true c8
      clear c8
      by_cases c9 : 0 ≤ x6_2
      ·
       rw [if_pos c9] at H
       have c9b0 : decide (0 ≤ x6_2) = true := decide_eq_true c9
       clear c9
       replace H := Option.bind_eq_some_iff.mp H
       obtain ⟨t264, A110, H⟩ := H
       replace H : (if t264 = true then (numeral_pair.l1 k2 a0 x5_1 (wrap64 (x6_2 + 1))) else (if 0 ≤ x5_1 then (if x5_1 ≤ (a0.size : Int) then (if x5_1 ≤ x6_2 then (if x6_2 ≤ (a0.size : Int) then (some (a0.extract 0 (x5_1 : Int).toNat, a0.extract (x5_1 : Int).toNat (x6_2 : Int).toNat, a0.extract (x6_2 : Int).toNat a0.size)) else (none)) else (none)) else (none)) else (none))) = some (r1, r2, r3) := H
       have A11 := Aside0.mk A110
       clear A110
       by_cases c12 : t264 = true
       ·
        subst c12
        have H1 : (numeral_pair.l1 k2 a0 x5_1 (wrap64 (x6_2 + 1))) = some (r1, r2, r3) := by rw [if_pos rfl] at H; exact H
        clear H
        have H := H1
        clear H1
        have H' := Aside0.mk H
        clear H
        have p10 : 0 ≤ (x6_2 : Int) := of_decide_eq_true qnmo5_
        have q10 : x6_2 < (a0.size : Int) := of_decide_eq_true qnmo5_
        have hx10 := bt_at a0 x6_2
        replace p10 := eq_true p10
        replace q10 := eq_true q10
        go_wp2_with (first | (go_at_call 68; (with_reducible refine (numeral_digit.calls (bt a0 x6_2) true _ A11.out).mono ?_); rintro e w' ⟨rfl, ⟨nd, rfl⟩⟩; (try first | exact ⟨rfl, _, World.drewN_drewN _ _ _⟩ | exact ⟨rfl, _, Eq.trans (World.drewN_drewN _ _ _) (congrArg (World.drewN _) (Nat.add_assoc _ _ _))⟩)))
        repeat (go_quiet (first | (go_at_call 68; (with_reducible refine (numeral_digit.calls (bt a0 x6_2) true _ A11.out).mono ?_); rintro e w' ⟨rfl, ⟨nd, rfl⟩⟩; (try first | exact ⟨rfl, _, World.drewN_drewN _ _ _⟩ | exact ⟨rfl, _, Eq.trans (World.drewN_drewN _ _ _) (congrArg (World.drewN _) (Nat.add_assoc _ _ _))⟩))); try go_wp2_with (first | (go_at_call 68; (with_reducible refine (numeral_digit.calls (bt a0 x6_2) true _ A11.out).mono ?_); rintro e w' ⟨rfl, ⟨nd, rfl⟩⟩; (try first | exact ⟨rfl, _, World.drewN_drewN _ _ _⟩ | exact ⟨rfl, _, Eq.trans (World.drewN_drewN _ _ _) (congrArg (World.drewN _) (Nat.add_assoc _ _ _))⟩))))
        go_roundg k2
        case measure => have := HJ1.out; have := HK2.out; omega
        case rel => exact ⟨(wrap64 (x6_2 + 1)), qnmo2_, H', ⟨by have := HJ1.out; have := HK2.out; omega⟩, qnmo11_⟩
       ·
        replace c12 := Bool.eq_false_iff.mpr c12
        subst c12
        have H1 : (if 0 ≤ x5_1 then (if x5_1 ≤ (a0.size : Int) then (if x5_1 ≤ x6_2 then (if x6_2 ≤ (a0.size : Int) then (some (a0.extract 0 (x5_1 : Int).toNat, a0.extract (x5_1 : Int).toNat (x6_2 : Int).toNat, a0.extract (x6_2 : Int).toNat a0.size)) else (none)) else (none)) else (none)) else (none)) = some (r1, r2, r3) := by rw [if_neg (show ¬ (false = true) by decide)] at H; exact H
        clear H
        have H := H1
        clear H1
        by_cases c13 : 0 ≤ x5_1
        ·
         rw [if_pos c13] at H
         have c13b0 := eq_true c13
         have c13b1 : decide (0 ≤ x5_1) = true := decide_eq_true c13
         clear c13
         by_cases c14 : x5_1 ≤ (a0.size : Int)
         ·
          rw [if_pos c14] at H
          have c14b0 := eq_true c14
          have c14b1 : decide (x5_1 ≤ (a0.size : Int)) = true := decide_eq_true c14
          clear c14
          have c15b0 := eq_true (of_decide_eq_true qnmo5_ : 0 ≤ x5_1)
          by_cases c16 : x5_1 ≤ x6_2
          ·
           rw [if_pos c16] at H
           have c16b0 := eq_true c16
           have c16b1 : decide (x5_1 ≤ x6_2) = true := decide_eq_true c16
           clear c16
           by_cases c17 : x6_2 ≤ (a0.size : Int)
           ·
            rw [if_pos c17] at H
            have c17b0 := eq_true c17
            have c17b1 : decide (x6_2 ≤ (a0.size : Int)) = true := decide_eq_true c17
            clear c17
            have c18b0 := eq_true (of_decide_eq_true qnmo5_ : 0 ≤ x6_2)
            have c19b0 := eq_true (of_decide_eq_true qnmo5_ : x6_2 ≤ (a0.size : Int))
            simp only [Option.some.injEq, Prod.mk.injEq] at H
            obtain ⟨rfl, rfl, rfl⟩ := H
            have p10 : 0 ≤ (x6_2 : Int) := of_decide_eq_true qnmo5_
            have q10 : x6_2 < (a0.size : Int) := of_decide_eq_true qnmo5_
            have hx10 := bt_at a0 x6_2
            replace p10 := eq_true p10
            replace q10 := eq_true q10
            go_wp2_with (first | (go_at_call 68; (with_reducible refine (numeral_digit.calls (bt a0 x6_2) false _ A11.out).mono ?_); rintro e w' ⟨rfl, ⟨nd, rfl⟩⟩; (try first | exact ⟨rfl, _, World.drewN_drewN _ _ _⟩ | exact ⟨rfl, _, Eq.trans (World.drewN_drewN _ _ _) (congrArg (World.drewN _) (Nat.add_assoc _ _ _))⟩)))
            repeat (go_quiet (first | (go_at_call 68; (with_reducible refine (numeral_digit.calls (bt a0 x6_2) false _ A11.out).mono ?_); rintro e w' ⟨rfl, ⟨nd, rfl⟩⟩; (try first | exact ⟨rfl, _, World.drewN_drewN _ _ _⟩ | exact ⟨rfl, _, Eq.trans (World.drewN_drewN _ _ _) (congrArg (World.drewN _) (Nat.add_assoc _ _ _))⟩))); try go_wp2_with (first | (go_at_call 68; (with_reducible refine (numeral_digit.calls (bt a0 x6_2) false _ A11.out).mono ?_); rintro e w' ⟨rfl, ⟨nd, rfl⟩⟩; (try first | exact ⟨rfl, _, World.drewN_drewN _ _ _⟩ | exact ⟨rfl, _, Eq.trans (World.drewN_drewN _ _ _) (congrArg (World.drewN _) (Nat.add_assoc _ _ _))⟩))))
            go_ret3
            exact ⟨qnmo2_, qnmo11_⟩
           ·
            rw [if_neg c17] at H
            exact absurd H (by simp)
          ·
           rw [if_neg c16] at H
           exact absurd H (by simp)
         ·
          rw [if_neg c14] at H
          exact absurd H (by simp)
        ·
         rw [if_neg c13] at H
         exact absurd H (by simp)
      ·
       rw [if_neg c9] at H
       exact absurd H (by simp)
     ·
      rw [if_neg c8] at H
      have c8b0 : decide (x6_2 < (a0.size : Int)) = false := decide_eq_false c8
      clear c8
      by_cases c20 : 0 ≤ x5_1
      ·
       rw [if_pos c20] at H
       have c20b0 := eq_true c20
       have c20b1 : decide (0 ≤ x5_1) = true := decide_eq_true c20
       clear c20
       by_cases c21 : x5_1 ≤ (a0.size : Int)
       ·
        rw [if_pos c21] at H
        have c21b0 := eq_true c21
        have c21b1 : decide (x5_1 ≤ (a0.size : Int)) = true := decide_eq_true c21
        clear c21
        have c22b0 := eq_true (of_decide_eq_true qnmo5_ : 0 ≤ x5_1)
        by_cases c23 : x5_1 ≤ x6_2
        ·
         rw [if_pos c23] at H
         have c23b0 := eq_true c23
         have c23b1 : decide (x5_1 ≤ x6_2) = true := decide_eq_true c23
         clear c23
         by_cases c24 : x6_2 ≤ (a0.size : Int)
         ·
          rw [if_pos c24] at H
          have c24b0 := eq_true c24
          have c24b1 : decide (x6_2 ≤ (a0.size : Int)) = true := decide_eq_true c24
          clear c24
          by_cases c25 : 0 ≤ x6_2
          ·
           rw [if_pos c25] at H
           have c25b0 := eq_true c25
           have c25b1 : decide (0 ≤ x6_2) = true := decide_eq_true c25
           clear c25
           have c26b0 := eq_true (of_decide_eq_true qnmo5_ : x6_2 ≤ (a0.size : Int))
           simp only [Option.some.injEq, Prod.mk.injEq] at H
           obtain ⟨rfl, rfl, rfl⟩ := H
           go_wp2
           repeat (go_quiet (fail); try go_wp2)
           go_ret3
           exact ⟨qnmo2_, qnmo11_⟩
          ·
           rw [if_neg c25] at H
           exact absurd H (by simp)
         ·
          rw [if_neg c24] at H
          exact absurd H (by simp)
        ·
         rw [if_neg c23] at H
         exact absurd H (by simp)
       ·
        rw [if_neg c21] at H
        exact absurd H (by simp)
      ·
       rw [if_neg c20] at H
       exact absurd H (by simp)


/-! ### numeral_rank: function 84 (by hand) -/
/-- The place of a byte that has no rank of its own, the first k groups taken off. -/
def rankR (c : Int) (k : Nat) : Int := c + 55 - (if 0 < k ∧ 57 < c then 10 else 0) - (if 1 < k ∧ 90 < c then 26 else 0) - (if 2 < k ∧ 122 < c then 26 else 0) - (if 3 < k ∧ 126 < c then 1 else 0)
def rankF (c : Int) : Int := if c = 126 then 1 else if 65 ≤ c ∧ c ≤ 90 then c - 62 else if 97 ≤ c ∧ c ≤ 122 then c - 68 else rankR c 4
def numeral_rank.f (a0 : Int) : Option Int := if 0 ≤ a0 ∧ a0 ≤ 255 then some (rankF a0) else none
theorem numeral_rank_ret {a b : Int} (h : a = b) : Ending.returned (.int .u8 a) = .returned (.int .u8 b) := by rw [h]
def rankCells : Array Value := #[.int .u8 57, .int .i64 10, .int .u8 90, .int .i64 26, .int .u8 122, .int .i64 26, .int .u8 126, .int .i64 1]
set_option maxRecDepth 100000 in
set_option maxHeartbeats 4000000 in
theorem numeral_rank.calls (a0 : Int) (r : Int) (w : World) (hGL : GOK w) (h : numeral_rank.f a0 = some r) :
    Calls Tryd.prog 84 #[.int .u8 a0] w fun e w' => e = .returned (.int .u8 r) ∧ Below w.heap.size w w' := by
  unfold numeral_rank.f at h
  split at h
  · rename_i hh
    obtain ⟨h0, h1⟩ := hh
    have HR := Aside0.mk (Option.some.inj h)
    clear h
    obtain ⟨fr, hfr⟩ := hGL.g2
    have HG := Aside0.mk (show w.heap[2]? = some (.cells rankCells 116 fr) from hfr)
    have HB := Aside0.mk (Below.refl w.heap.size w)
    clear hGL hfr
    by_cases e1 : a0 = 126
    · subst e1
      go_enter Tryd.func84, Tryd.ntmps84
      go_wp2
      go_ret
      exact ⟨numeral_rank_ret (by rw [← HR.out]; rfl), HB.out⟩
    · have b1 : (a0 == 126) = false := by simpa using e1
      have E1 := Aside0.mk e1
      clear e1
      by_cases e2 : 65 ≤ a0 ∧ a0 ≤ 90
      · obtain ⟨e2, e3⟩ := e2
        go_enter Tryd.func84, Tryd.ntmps84
        go_wp2
        go_ret
        exact ⟨numeral_rank_ret (by rw [← HR.out]; unfold rankF; rw [if_neg E1.out, if_pos ⟨e2, e3⟩]; omega), HB.out⟩
      · by_cases e4 : 97 ≤ a0 ∧ a0 ≤ 122
        · obtain ⟨e4, e5⟩ := e4
          have n2 : ¬ a0 ≤ 90 := by omega
          have n1 : 65 ≤ a0 := by omega
          go_enter Tryd.func84, Tryd.ntmps84
          go_wp2
          go_ret
          exact ⟨numeral_rank_ret (by rw [← HR.out]; unfold rankF; rw [if_neg E1.out, if_neg e2, if_pos ⟨e4, e5⟩]; omega), HB.out⟩
        · have HF := Aside0.mk (show r = rankR a0 4 from by rw [← HR.out]; unfold rankF; rw [if_neg E1.out, if_neg e2, if_neg e4])
          have hi0 : ∀ W : World, (Instr.index 116 (.agg rankCells) (.int .i64 0)).run Tryd.prog W = .ok (.agg #[.int .u8 57, .int .i64 10]) W := fun _ => by kernel_rfl
          have hi1 : ∀ W : World, (Instr.index 116 (.agg rankCells) (.int .i64 1)).run Tryd.prog W = .ok (.agg #[.int .u8 90, .int .i64 26]) W := fun _ => by kernel_rfl
          have hi2 : ∀ W : World, (Instr.index 116 (.agg rankCells) (.int .i64 2)).run Tryd.prog W = .ok (.agg #[.int .u8 122, .int .i64 26]) W := fun _ => by kernel_rfl
          have hi3 : ∀ W : World, (Instr.index 116 (.agg rankCells) (.int .i64 3)).run Tryd.prog W = .ok (.agg #[.int .u8 126, .int .i64 1]) W := fun _ => by kernel_rfl
          have hu1 := Tryd.underlying116
          have hu2 := Tryd.underlying115
          have hcs : (65 ≤ a0 → ¬ a0 ≤ 90) ∧ (97 ≤ a0 → ¬ a0 ≤ 122) := by omega
          have HCS := Aside0.mk hcs
          clear hcs e2 e4
          by_cases n1 : 65 ≤ a0
          all_goals by_cases n2 : 97 ≤ a0
          all_goals first
            | (exfalso; omega)
            | skip
          all_goals (try have n3 : 90 < a0 := by have := HCS.out; omega)
          all_goals (try have n4 : 122 < a0 := by have := HCS.out; omega)
          all_goals (try have d90 : decide (a0 ≤ 90) = false := decide_eq_false (by have := HCS.out; omega))
          all_goals (try have d122 : decide (a0 ≤ 122) = false := decide_eq_false (by have := HCS.out; omega))
          all_goals
            go_enter Tryd.func84, Tryd.ntmps84
            go_wp2_with (refine wpList_load_row rfl 116 _ rfl 2 rfl _ rankCells fr _ HG.out hu1 rfl (by kernel_rfl) ?_)
            go_loopw [3, 33] (fun v3 v33 wr => ∃ (j x : Int), v33 = .int .i64 j ∧ v3 = .int .i64 x ∧ Aside0 (x = rankR a0 j.toNat ∧ 0 ≤ j ∧ j ≤ 4) ∧ 0 ≤ x ∧ x ≤ 400 ∧ Aside0 (Below w.heap.size w wr)) (fun _ v33 _ => 4 - (intOf v33).toNat)
            case atStart => exact ⟨0, a0 + 55, rfl, rfl, ⟨by simp [rankR], by omega, by omega⟩, by omega, by omega, HB⟩
            case round =>
            clear HB
            obtain ⟨j, x, rfl, rfl, hx, hx0, hx1, HB⟩ := hrel
            rcases (by have := hx.out; omega : j = 0 ∨ j = 1 ∨ j = 2 ∨ j = 3 ∨ j = 4) with rfl | rfl | rfl | rfl | rfl
            · by_cases hgt : 57 < a0
              · first
                | (exfalso; omega)
                | (have hge : decide (57 < a0) = true := decide_eq_true hgt
                   go_wp2
                   go_roundw
                   case rel => exact ⟨1, x - 10, rfl, (by first | rfl | (simp; omega)), ⟨by rw [hx.out.1]; simp [rankR]; omega, by omega, by omega⟩, by have := hx.out.1; simp [rankR] at this; omega, by omega, ⟨qnmo22_⟩⟩
                   case measure => simp [intOf])
              · first
                | (exfalso; omega)
                | (have hge : decide (57 < a0) = false := decide_eq_false hgt
                   go_wp2
                   go_roundw
                   case rel => exact ⟨1, x, rfl, rfl, ⟨by rw [hx.out.1]; simp [rankR]; omega, by omega, by omega⟩, by have := hx.out.1; simp [rankR] at this; omega, by omega, ⟨qnmo22_⟩⟩
                   case measure => simp [intOf])
            · by_cases hgt : 90 < a0
              · first
                | (exfalso; omega)
                | (have hge : decide (90 < a0) = true := decide_eq_true hgt
                   go_wp2
                   go_roundw
                   case rel => exact ⟨2, x - 26, rfl, (by first | rfl | (simp; omega)), ⟨by rw [hx.out.1]; simp [rankR]; omega, by omega, by omega⟩, by have := hx.out.1; simp [rankR] at this; omega, by omega, ⟨qnmo22_⟩⟩
                   case measure => simp [intOf])
              · first
                | (exfalso; omega)
                | (have hge : decide (90 < a0) = false := decide_eq_false hgt
                   go_wp2
                   go_roundw
                   case rel => exact ⟨2, x, rfl, rfl, ⟨by rw [hx.out.1]; simp [rankR]; omega, by omega, by omega⟩, by have := hx.out.1; simp [rankR] at this; omega, by omega, ⟨qnmo22_⟩⟩
                   case measure => simp [intOf])
            · by_cases hgt : 122 < a0
              · first
                | (exfalso; omega)
                | (have hge : decide (122 < a0) = true := decide_eq_true hgt
                   go_wp2
                   go_roundw
                   case rel => exact ⟨3, x - 26, rfl, (by first | rfl | (simp; omega)), ⟨by rw [hx.out.1]; simp [rankR]; omega, by omega, by omega⟩, by have := hx.out.1; simp [rankR] at this; omega, by omega, ⟨qnmo22_⟩⟩
                   case measure => simp [intOf])
              · first
                | (exfalso; omega)
                | (have hge : decide (122 < a0) = false := decide_eq_false hgt
                   go_wp2
                   go_roundw
                   case rel => exact ⟨3, x, rfl, rfl, ⟨by rw [hx.out.1]; simp [rankR]; omega, by omega, by omega⟩, by have := hx.out.1; simp [rankR] at this; omega, by omega, ⟨qnmo22_⟩⟩
                   case measure => simp [intOf])
            · by_cases hgt : 126 < a0
              · first
                | (exfalso; omega)
                | (have hge : decide (126 < a0) = true := decide_eq_true hgt
                   go_wp2
                   go_roundw
                   case rel => exact ⟨4, x - 1, rfl, (by first | rfl | (simp; omega)), ⟨by rw [hx.out.1]; simp [rankR]; omega, by omega, by omega⟩, by have := hx.out.1; simp [rankR] at this; omega, by omega, ⟨qnmo22_⟩⟩
                   case measure => simp [intOf])
              · first
                | (exfalso; omega)
                | (have hge : decide (126 < a0) = false := decide_eq_false hgt
                   go_wp2
                   go_roundw
                   case rel => exact ⟨4, x, rfl, rfl, ⟨by rw [hx.out.1]; simp [rankR]; omega, by omega, by omega⟩, by have := hx.out.1; simp [rankR] at this; omega, by omega, ⟨qnmo22_⟩⟩
                   case measure => simp [intOf])
            · go_wp2
              go_ret
              exact ⟨numeral_rank_ret (by rw [HF.out, hx.out.1]; simp [rankR]; omega), HB.out⟩
  · cases h


/-! ### cmp_isNaN_byte: function 106 -/
def cmp_isNaN_byte.f (a0 : Int) : Option (Bool) := some (a0 != a0)
set_option maxHeartbeats 8000000 in
set_option maxRecDepth 100000 in
theorem cmp_isNaN_byte.calls (a0 : Int) (r : Bool) (w : World) (h : cmp_isNaN_byte.f a0 = some r) :
  Calls Tryd.prog 106 #[.int .u8 a0] w fun e w' => e = .returned (.bool r) ∧ Drawn0 w w' := by
 have H : (some (a0 != a0)) = some r := h
 clear h
 obtain rfl := Option.some.inj H
 go_enter Tryd.func106, Tryd.ntmps106
 go_wp2
 go_ret
 exact ⟨qnmo2_, qnmo11_⟩


/-! ### cmp_Compare_byte: function 97 -/
def cmp_Compare_byte.f (a0 : Int) (a1 : Int) : Option (Int) := (cmp_isNaN_byte.f a0).bind fun t265 => ((cmp_isNaN_byte.f a1).bind fun t266 => (if t265 = true then (if t266 = true then (some 0) else (some (-1))) else (if t266 = true then (some 1) else (if a0 < a1 then (some (-1)) else (if a0 > a1 then (some 1) else (some 0))))))
set_option maxHeartbeats 8000000 in
set_option maxRecDepth 100000 in
theorem cmp_Compare_byte.calls (a0 : Int) (a1 : Int) (r : Int) (w : World) (h : cmp_Compare_byte.f a0 a1 = some r) :
  Calls Tryd.prog 97 #[.int .u8 a0, .int .u8 a1] w fun e w' => e = .returned (.int .i64 r) ∧ Drawn0 w w' := by
 have H : ((cmp_isNaN_byte.f a0).bind fun t265 => ((cmp_isNaN_byte.f a1).bind fun t266 => (if t265 = true then (if t266 = true then (some 0) else (some (-1))) else (if t266 = true then (some 1) else (if a0 < a1 then (some (-1)) else (if a0 > a1 then (some 1) else (some 0))))))) = some r := h
 clear h
 replace H := Option.bind_eq_some_iff.mp H
 obtain ⟨t265, A30, H⟩ := H
 replace H : ((cmp_isNaN_byte.f a1).bind fun t266 => (if t265 = true then (if t266 = true then (some 0) else (some (-1))) else (if t266 = true then (some 1) else (if a0 < a1 then (some (-1)) else (if a0 > a1 then (some 1) else (some 0)))))) = some r := H
 have A3 := Aside0.mk A30
 clear A30
 replace H := Option.bind_eq_some_iff.mp H
 obtain ⟨t266, A40, H⟩ := H
 replace H : (if t265 = true then (if t266 = true then (some 0) else (some (-1))) else (if t266 = true then (some 1) else (if a0 < a1 then (some (-1)) else (if a0 > a1 then (some 1) else (some 0))))) = some r := H
 have A4 := Aside0.mk A40
 clear A40
 by_cases c5 : t265 = true
 ·
  subst c5
  have H1 : (if t266 = true then (some 0) else (some (-1))) = some r := by rw [if_pos rfl] at H; exact H
  clear H
  have H := H1
  clear H1
  by_cases c6 : t266 = true
  ·
   subst c6
   have H1 : (some 0) = some r := by rw [if_pos rfl] at H; exact H
   clear H
   have H := H1
   clear H1
   obtain rfl := Option.some.inj H
   go_enter Tryd.func97, Tryd.ntmps97
   have tk7 : True := trivial; have tk8 : True := trivial
   go_wp2_with (first | (have ztk7 := tk7; clear tk7 ztk7; (with_reducible refine gate_callee (f := 106) rfl ?_); refine goesL_ (some 8) rfl rfl Tryd.func106 (by kernel_rfl) rfl #[.int .u8 a0] rfl qnmo0_ ?_; (with_reducible refine (cmp_isNaN_byte.calls a0 true _ A3.out).mono ?_); rintro e w' ⟨rfl, ⟨nd, rfl⟩⟩; refine ⟨_, rfl, ?_⟩) | (have ztk8 := tk8; clear tk8 ztk8; (with_reducible refine gate_callee (f := 106) rfl ?_); refine goesL_ (some 10) rfl rfl Tryd.func106 (by kernel_rfl) rfl #[.int .u8 a1] rfl qnmo0_ ?_; (with_reducible refine (cmp_isNaN_byte.calls a1 true _ A4.out).mono ?_); rintro e w' ⟨rfl, ⟨nd, rfl⟩⟩; refine ⟨_, rfl, ?_⟩))
   go_ret
   exact ⟨qnmo2_, qnmo11_⟩
  ·
   replace c6 := Bool.eq_false_iff.mpr c6
   subst c6
   have H1 : (some (-1)) = some r := by rw [if_neg (show ¬ (false = true) by decide)] at H; exact H
   clear H
   have H := H1
   clear H1
   obtain rfl := Option.some.inj H
   go_enter Tryd.func97, Tryd.ntmps97
   have tk9 : True := trivial; have tk10 : True := trivial
   go_wp2_with (first | (have ztk9 := tk9; clear tk9 ztk9; (with_reducible refine gate_callee (f := 106) rfl ?_); refine goesL_ (some 8) rfl rfl Tryd.func106 (by kernel_rfl) rfl #[.int .u8 a0] rfl qnmo0_ ?_; (with_reducible refine (cmp_isNaN_byte.calls a0 true _ A3.out).mono ?_); rintro e w' ⟨rfl, ⟨nd, rfl⟩⟩; refine ⟨_, rfl, ?_⟩) | (have ztk10 := tk10; clear tk10 ztk10; (with_reducible refine gate_callee (f := 106) rfl ?_); refine goesL_ (some 10) rfl rfl Tryd.func106 (by kernel_rfl) rfl #[.int .u8 a1] rfl qnmo0_ ?_; (with_reducible refine (cmp_isNaN_byte.calls a1 false _ A4.out).mono ?_); rintro e w' ⟨rfl, ⟨nd, rfl⟩⟩; refine ⟨_, rfl, ?_⟩))
   go_ret
   exact ⟨qnmo2_, qnmo11_⟩
 ·
  replace c5 := Bool.eq_false_iff.mpr c5
  subst c5
  have H1 : (if t266 = true then (some 1) else (if a0 < a1 then (some (-1)) else (if a0 > a1 then (some 1) else (some 0)))) = some r := by rw [if_neg (show ¬ (false = true) by decide)] at H; exact H
  clear H
  have H := H1
  clear H1
  by_cases c11 : t266 = true
  ·
   subst c11
   have H1 : (some 1) = some r := by rw [if_pos rfl] at H; exact H
   clear H
   have H := H1
   clear H1
   obtain rfl := Option.some.inj H
   go_enter Tryd.func97, Tryd.ntmps97
   have tk12 : True := trivial; have tk13 : True := trivial
   go_wp2_with (first | (have ztk12 := tk12; clear tk12 ztk12; (with_reducible refine gate_callee (f := 106) rfl ?_); refine goesL_ (some 8) rfl rfl Tryd.func106 (by kernel_rfl) rfl #[.int .u8 a0] rfl qnmo0_ ?_; (with_reducible refine (cmp_isNaN_byte.calls a0 false _ A3.out).mono ?_); rintro e w' ⟨rfl, ⟨nd, rfl⟩⟩; refine ⟨_, rfl, ?_⟩) | (have ztk13 := tk13; clear tk13 ztk13; (with_reducible refine gate_callee (f := 106) rfl ?_); refine goesL_ (some 10) rfl rfl Tryd.func106 (by kernel_rfl) rfl #[.int .u8 a1] rfl qnmo0_ ?_; (with_reducible refine (cmp_isNaN_byte.calls a1 true _ A4.out).mono ?_); rintro e w' ⟨rfl, ⟨nd, rfl⟩⟩; refine ⟨_, rfl, ?_⟩))
   go_ret
   exact ⟨qnmo2_, qnmo11_⟩
  ·
   replace c11 := Bool.eq_false_iff.mpr c11
   subst c11
   have H1 : (if a0 < a1 then (some (-1)) else (if a0 > a1 then (some 1) else (some 0))) = some r := by rw [if_neg (show ¬ (false = true) by decide)] at H; exact H
   clear H
   have H := H1
   clear H1
   by_cases c14 : a0 < a1
   ·
    rw [if_pos c14] at H
    have c14b0 : decide (a0 < a1) = true := decide_eq_true c14
    clear c14
    obtain rfl := Option.some.inj H
    go_enter Tryd.func97, Tryd.ntmps97
    have tk15 : True := trivial; have tk16 : True := trivial
    go_wp2_with (first | (have ztk15 := tk15; clear tk15 ztk15; (with_reducible refine gate_callee (f := 106) rfl ?_); refine goesL_ (some 8) rfl rfl Tryd.func106 (by kernel_rfl) rfl #[.int .u8 a0] rfl qnmo0_ ?_; (with_reducible refine (cmp_isNaN_byte.calls a0 false _ A3.out).mono ?_); rintro e w' ⟨rfl, ⟨nd, rfl⟩⟩; refine ⟨_, rfl, ?_⟩) | (have ztk16 := tk16; clear tk16 ztk16; (with_reducible refine gate_callee (f := 106) rfl ?_); refine goesL_ (some 10) rfl rfl Tryd.func106 (by kernel_rfl) rfl #[.int .u8 a1] rfl qnmo0_ ?_; (with_reducible refine (cmp_isNaN_byte.calls a1 false _ A4.out).mono ?_); rintro e w' ⟨rfl, ⟨nd, rfl⟩⟩; refine ⟨_, rfl, ?_⟩))
    go_ret
    exact ⟨qnmo2_, qnmo11_⟩
   ·
    rw [if_neg c14] at H
    have c14b0 : decide (a0 < a1) = false := decide_eq_false c14
    clear c14
    by_cases c17 : a0 > a1
    ·
     rw [if_pos c17] at H
     have c17b0 : decide (a1 < a0) = true := decide_eq_true c17
     clear c17
     obtain rfl := Option.some.inj H
     go_enter Tryd.func97, Tryd.ntmps97
     have tk18 : True := trivial; have tk19 : True := trivial
     go_wp2_with (first | (have ztk18 := tk18; clear tk18 ztk18; (with_reducible refine gate_callee (f := 106) rfl ?_); refine goesL_ (some 8) rfl rfl Tryd.func106 (by kernel_rfl) rfl #[.int .u8 a0] rfl qnmo0_ ?_; (with_reducible refine (cmp_isNaN_byte.calls a0 false _ A3.out).mono ?_); rintro e w' ⟨rfl, ⟨nd, rfl⟩⟩; refine ⟨_, rfl, ?_⟩) | (have ztk19 := tk19; clear tk19 ztk19; (with_reducible refine gate_callee (f := 106) rfl ?_); refine goesL_ (some 10) rfl rfl Tryd.func106 (by kernel_rfl) rfl #[.int .u8 a1] rfl qnmo0_ ?_; (with_reducible refine (cmp_isNaN_byte.calls a1 false _ A4.out).mono ?_); rintro e w' ⟨rfl, ⟨nd, rfl⟩⟩; refine ⟨_, rfl, ?_⟩))
     go_ret
     exact ⟨qnmo2_, qnmo11_⟩
    ·
     rw [if_neg c17] at H
     have c17b0 : decide (a1 < a0) = false := decide_eq_false c17
     clear c17
     obtain rfl := Option.some.inj H
     go_enter Tryd.func97, Tryd.ntmps97
     have tk20 : True := trivial; have tk21 : True := trivial
     go_wp2_with (first | (have ztk20 := tk20; clear tk20 ztk20; (with_reducible refine gate_callee (f := 106) rfl ?_); refine goesL_ (some 8) rfl rfl Tryd.func106 (by kernel_rfl) rfl #[.int .u8 a0] rfl qnmo0_ ?_; (with_reducible refine (cmp_isNaN_byte.calls a0 false _ A3.out).mono ?_); rintro e w' ⟨rfl, ⟨nd, rfl⟩⟩; refine ⟨_, rfl, ?_⟩) | (have ztk21 := tk21; clear tk21 ztk21; (with_reducible refine gate_callee (f := 106) rfl ?_); refine goesL_ (some 10) rfl rfl Tryd.func106 (by kernel_rfl) rfl #[.int .u8 a1] rfl qnmo0_ ?_; (with_reducible refine (cmp_isNaN_byte.calls a1 false _ A4.out).mono ?_); rintro e w' ⟨rfl, ⟨nd, rfl⟩⟩; refine ⟨_, rfl, ?_⟩))
     go_ret
     exact ⟨qnmo2_, qnmo11_⟩


/-! ### numeral_words: function 75 -/
mutual
def numeral_words.l0 : Nat → ByteArray → ByteArray → Int → Int → Option (Int)
 | 0, _, _, _, _ => none
 | k + 1, x0, x1, x12, x13 => if x13 < x12 then (if x13 < (x0.size : Int) then (if 0 ≤ x13 then ((numeral_rank.f (bt x0 x13)).bind fun t267 => (numeral_words.j1 k x0 x1 x13 t267 2 x12 x13)) else (none)) else (numeral_words.j1 k x0 x1 x13 2 2 x12 x13)) else (some 0)
def numeral_words.j1 : Nat → ByteArray → ByteArray → Int → Int → Int → Int → Int → Option (Int)
 | 0, _, _, _, _, _, _, _ => none
 | k + 1, x0, x1, x5, x6, x7, x12, x13 => if x5 < (x1.size : Int) then (if 0 ≤ x5 then ((numeral_rank.f (bt x1 x5)).bind fun t268 => (if x6 = t268 then (numeral_words.l0 k x0 x1 x12 (wrap64 (x13 + 1))) else ((cmp_Compare_byte.f x6 t268).bind fun t269 => (some t269)))) else (none)) else (if x6 = x7 then (numeral_words.l0 k x0 x1 x12 (wrap64 (x13 + 1))) else ((cmp_Compare_byte.f x6 x7).bind fun t270 => (some t270)))
end
def numeral_words.f (k : Nat) (a0 : ByteArray) (a1 : ByteArray) : Option (Int) := numeral_words.l0 k a0 a1 (mx (a0.size : Int) (a1.size : Int)) 0
set_option maxHeartbeats 8000000 in
set_option maxRecDepth 100000 in
theorem numeral_words.calls (k : Nat) (a0 : ByteArray) (a1 : ByteArray) (r : Int) (w : World) (hGL : GOK w) (h : numeral_words.f k a0 a1 = some r) :
  Calls Tryd.prog 75 #[.string a0, .string a1] w fun e w' => e = .returned (.int .i64 r) ∧ Below w.heap.size w w' := by
 have HGL := Aside0.mk hGL
 clear hGL
 have HB := Aside0.mk (Below.refl w.heap.size w)
 have H : (numeral_words.l0 k a0 a1 (mx (a0.size : Int) (a1.size : Int)) 0) = some r := h
 clear h
 obtain ⟨ji3, hji3⟩ : ∃ j_ : Int, (mx (a0.size : Int) (a1.size : Int)) = j_ := ⟨_, rfl⟩
 replace H : (numeral_words.l0 k a0 a1 ji3 0) = some r := by first | (rw [hji3] at H; exact H) | (simp only [hji3] at H ⊢; exact H)
 (try (have hji3l : 0 ≤ ji3 := by (rw [← hji3]; unfold mx; (repeat' split) <;> omega)))
 (try (have hji3m : 0 ≤ ji3 := by omega))
 have hji3_ : (if (a0.size : Int) < (a1.size : Int) then (a1.size : Int) else (a0.size : Int)) = ji3 := hji3
 (try have hji3N : (if a0.size < a1.size then (a1.size : Int) else (a0.size : Int)) = ji3 := by simpa only [Int.ofNat_lt] using hji3_)
 have H' := Aside0.mk H
 clear H
 go_enter Tryd.func75, Tryd.ntmps75
 go_wp2
 go_loopg [13] k (fun kq v13 w' => ∃ (x13_1 : Int), v13 = .int .i64 x13_1 ∧ Aside0 (numeral_words.l0 kq a0 a1 ji3 x13_1 = some r) ∧ Aside0 (kq ≤ k) ∧ Aside0 (Below w.heap.size w w'))
 case atStart => exact ⟨(0), qnmo2_, H', ⟨Nat.le_refl _⟩, ⟨qnmo1_⟩⟩
 case round =>
  clear H'
  (try clear p2)
  obtain ⟨x13_1, rfl, HA, HK1, HB⟩ := hrel
  cases gk with
  | zero => exact absurd HA.out (by simp [numeral_words.l0])
  | succ k1 =>
   have H := HA.out
   clear HA
   simp only [numeral_words.l0] at H
   by_cases c4 : x13_1 < ji3
   ·
    rw [if_pos c4] at H
    have c4b0 : decide (x13_1 < ji3) = true := decide_eq_true c4
    clear c4
    have HC5 := Aside0.mk H
    clear H
    go_upto_if 19 with (fail)
    go_cut [6] (fun v6 wc => ∃ (kq : Nat) (x6_4 : Int), v6 = .int .u8 x6_4 ∧ Aside0 (numeral_words.j1 kq a0 a1 x13_1 x6_4 2 ji3 x13_1 = some r) ∧ Aside0 (kq ≤ k1) ∧ Aside0 (Below w.heap.size w wc))
    case first =>
     have H := HC5.out
     clear HC5
     by_cases c6 : x13_1 < (a0.size : Int)
     ·
      rw [if_pos c6] at H
      have c6b0 : decide (x13_1 < (a0.size : Int)) = true := decide_eq_true c6
      clear c6
      (first | rw [c6b0] | (simp only [i64_w, i32_w]; rw [c6b0]) | skip)
      by_cases c7 : 0 ≤ x13_1
      ·
       rw [if_pos c7] at H
       have c7b0 : decide (0 ≤ x13_1) = true := decide_eq_true c7
       clear c7
       replace H := Option.bind_eq_some_iff.mp H
       obtain ⟨t267, A90, H⟩ := H
       replace H : (numeral_words.j1 k1 a0 a1 x13_1 t267 2 ji3 x13_1) = some r := H
       have A9 := Aside0.mk A90
       clear A90
       have H' := Aside0.mk H
       clear H
       have p8 : 0 ≤ (x13_1 : Int) := of_decide_eq_true qnmo5_
       have q8 : x13_1 < (a0.size : Int) := of_decide_eq_true qnmo5_
       have hx8 := bt_at a0 x13_1
       replace p8 := eq_true p8
       replace q8 := eq_true q8
       go_wp2_with (first | ((with_reducible refine gate_callee (f := 84) rfl ?_); refine goesL_ (some 23) rfl rfl Tryd.func84 (by kernel_rfl) rfl #[.int .u8 (bt a0 x13_1)] rfl qnmo0_ ?_; (with_reducible refine (numeral_rank.calls (bt a0 x13_1) t267 _ ?side1 A9.out).mono ?_); (case side1 => exact GOK.below HGL.out qnmo1_); rintro e w10 ⟨rfl, hb⟩; refine ⟨_, rfl, ?_⟩; have n0_ := Aside0.mk (below_step qnmo1_ hb); clear HB; have HB := n0_; clear n0_; (try clear hb); (try clear hb2); (try clear hk); (try clear hi)))
       go_meet
       case rel => exact ⟨_, (t267), qnmo2_, H', ⟨by have := HK1.out; first | omega | exact Nat.le_refl _⟩, ⟨qnmo1_⟩⟩
      ·
       rw [if_neg c7] at H
       exact absurd H (by simp)
     ·
      rw [if_neg c6] at H
      have c6b0 : decide (x13_1 < (a0.size : Int)) = false := decide_eq_false c6
      clear c6
      (first | rw [c6b0] | (simp only [i64_w, i32_w]; rw [c6b0]) | skip)
      have H' := Aside0.mk H
      clear H
      go_wp2
      go_meet
      case rel => exact ⟨_, (2), qnmo2_, H', ⟨by have := HK1.out; first | omega | exact Nat.le_refl _⟩, ⟨qnmo1_⟩⟩
    case rest =>
     clear HC5
     (try clear p2); (try clear c4); (try clear c4b0); (try clear c6); (try clear c6b0); (try clear c7); (try clear c7b0); (try clear c8); (try clear p8); (try clear q8); (try clear hx8); (try clear p2); (try clear p8); (try clear q8)
     obtain ⟨kq, x6_4, rfl, HA, HJ4, HB⟩ := hcut
     cases kq with
     | zero => exact absurd HA.out (by simp [numeral_words.j1])
     | succ kj4 =>
      have H := HA.out
      clear HA
      simp only [numeral_words.j1] at H
      by_cases c11 : x13_1 < (a1.size : Int)
      ·
       rw [if_pos c11] at H
       have c11b0 : decide (x13_1 < (a1.size : Int)) = true := decide_eq_true c11
       clear c11
       by_cases c12 : 0 ≤ x13_1
       ·
        rw [if_pos c12] at H
        have c12b0 : decide (0 ≤ x13_1) = true := decide_eq_true c12
        clear c12
        replace H := Option.bind_eq_some_iff.mp H
        obtain ⟨t268, A140, H⟩ := H
        replace H : (if x6_4 = t268 then (numeral_words.l0 kj4 a0 a1 ji3 (wrap64 (x13_1 + 1))) else ((cmp_Compare_byte.f x6_4 t268).bind fun t269 => (some t269))) = some r := H
        have A14 := Aside0.mk A140
        clear A140
        by_cases c15 : x6_4 = t268
        ·
         rw [if_pos c15] at H
         have c15b0 : (x6_4 == t268) = true := beq_iff_eq.mpr c15
         have c15b1 : (x6_4 != t268) = false := bne_eq_false_iff_eq.mpr c15
         clear c15
         have H' := Aside0.mk H
         clear H
         have p13 : 0 ≤ (x13_1 : Int) := of_decide_eq_true qnmo5_
         have q13 : x13_1 < (a1.size : Int) := of_decide_eq_true qnmo5_
         have hx13 := bt_at a1 x13_1
         replace p13 := eq_true p13
         replace q13 := eq_true q13
         go_wp2_with (first | ((with_reducible refine gate_callee (f := 84) rfl ?_); refine goesL_ (some 31) rfl rfl Tryd.func84 (by kernel_rfl) rfl #[.int .u8 (bt a1 x13_1)] rfl qnmo0_ ?_; (with_reducible refine (numeral_rank.calls (bt a1 x13_1) t268 _ ?side1 A14.out).mono ?_); (case side1 => exact GOK.below HGL.out qnmo1_); rintro e w16 ⟨rfl, hb⟩; refine ⟨_, rfl, ?_⟩; have n0_ := Aside0.mk (below_step qnmo1_ hb); clear HB; have HB := n0_; clear n0_; (try clear hb); (try clear hb2); (try clear hk); (try clear hi)))
         go_roundg kj4
         case measure => have := HK1.out; have := HJ4.out; omega
         case rel => exact ⟨(wrap64 (x13_1 + 1)), qnmo2_, H', ⟨by have := HK1.out; have := HJ4.out; omega⟩, ⟨qnmo1_⟩⟩
        ·
         rw [if_neg c15] at H
         have c15b0 : (x6_4 == t268) = false := beq_eq_false_iff_ne.mpr c15
         have c15b1 : (x6_4 != t268) = true := bne_iff_ne.mpr c15
         replace H := Option.bind_eq_some_iff.mp H
         obtain ⟨t269, A170, H⟩ := H
         replace H : (some t269) = some r := H
         have A17 := Aside0.mk A170
         clear A170
         obtain rfl := Option.some.inj H
         have p13 : 0 ≤ (x13_1 : Int) := of_decide_eq_true qnmo5_
         have q13 : x13_1 < (a1.size : Int) := of_decide_eq_true qnmo5_
         have hx13 := bt_at a1 x13_1
         replace p13 := eq_true p13
         replace q13 := eq_true q13
         have tk19 : True := trivial; have tk20 : True := trivial
         go_wp2_with (first | (have ztk19 := tk19; clear tk19 ztk19; (with_reducible refine gate_callee (f := 84) rfl ?_); refine goesL_ (some 31) rfl rfl Tryd.func84 (by kernel_rfl) rfl #[.int .u8 (bt a1 x13_1)] rfl qnmo0_ ?_; (with_reducible refine (numeral_rank.calls (bt a1 x13_1) t268 _ ?side1 A14.out).mono ?_); (case side1 => exact GOK.below HGL.out qnmo1_); rintro e w18 ⟨rfl, hb⟩; refine ⟨_, rfl, ?_⟩; have n0_ := Aside0.mk (below_step qnmo1_ hb); clear HB; have HB := n0_; clear n0_; (try clear hb); (try clear hb2); (try clear hk); (try clear hi)) | (have ztk20 := tk20; clear tk20 ztk20; (with_reducible refine gate_callee (f := 97) rfl ?_); refine goesL_ (some 37) rfl rfl Tryd.func97 (by kernel_rfl) rfl #[.int .u8 x6_4, .int .u8 t268] rfl qnmo0_ ?_; (with_reducible refine (cmp_Compare_byte.calls x6_4 t268 t269 _ A17.out).mono ?_); rintro e w' ⟨rfl, ⟨nd, rfl⟩⟩; refine ⟨_, rfl, ?_⟩))
         go_ret
         exact ⟨qnmo43_, qnmo1_⟩
       ·
        rw [if_neg c12] at H
        exact absurd H (by simp)
      ·
       rw [if_neg c11] at H
       have c11b0 : decide (x13_1 < (a1.size : Int)) = false := decide_eq_false c11
       clear c11
       by_cases c21 : x6_4 = 2
       ·
        rw [if_pos c21] at H
        have c21b0 : (x6_4 == 2) = true := beq_iff_eq.mpr c21
        have c21b1 : (x6_4 != 2) = false := bne_eq_false_iff_eq.mpr c21
        clear c21
        have H' := Aside0.mk H
        clear H
        go_wp2
        go_roundg kj4
        case measure => have := HK1.out; have := HJ4.out; omega
        case rel => exact ⟨(wrap64 (x13_1 + 1)), qnmo2_, H', ⟨by have := HK1.out; have := HJ4.out; omega⟩, ⟨qnmo1_⟩⟩
       ·
        rw [if_neg c21] at H
        have c21b0 : (x6_4 == 2) = false := beq_eq_false_iff_ne.mpr c21
        have c21b1 : (x6_4 != 2) = true := bne_iff_ne.mpr c21
        replace H := Option.bind_eq_some_iff.mp H
        obtain ⟨t270, A220, H⟩ := H
        replace H : (some t270) = some r := H
        have A22 := Aside0.mk A220
        clear A220
        obtain rfl := Option.some.inj H
        go_wp2_with (first | ((with_reducible refine gate_callee (f := 97) rfl ?_); refine goesL_ (some 37) rfl rfl Tryd.func97 (by kernel_rfl) rfl #[.int .u8 x6_4, .int .u8 2] rfl qnmo0_ ?_; (with_reducible refine (cmp_Compare_byte.calls x6_4 2 t270 _ A22.out).mono ?_); rintro e w' ⟨rfl, ⟨nd, rfl⟩⟩; refine ⟨_, rfl, ?_⟩))
        go_ret
        exact ⟨qnmo43_, qnmo1_⟩
   ·
    rw [if_neg c4] at H
    have c4b0 : decide (x13_1 < ji3) = false := decide_eq_false c4
    clear c4
    obtain rfl := Option.some.inj H
    go_wp2
    go_ret
    exact ⟨qnmo43_, qnmo1_⟩


/-! ### numeral_runs: function 76 -/
def numeral_runs.j0 : Nat → ByteArray → ByteArray → Bool → Option (Int)
 | 0, _, _, _ => none
 | k + 1, x0, x1, x10 => if x10 = true then ((cmp_Compare_int.f (mn (x0.size : Int) 1) (mn (x1.size : Int) 1)).bind fun t271 => (some t271)) else ((strings_TrimLeft.f k x0 (⟨#[48]⟩ : ByteArray)).bind fun t272 => ((strings_TrimLeft.f k x1 (⟨#[48]⟩ : ByteArray)).bind fun t273 => ((cmp_Compare_int.f (t272.size : Int) (t273.size : Int)).bind fun t274 => ((strings_Compare.f t272 t273).bind fun t275 => ((cmp_Or_int.f k (([t274, t275] : List Int))).bind fun t279 => (some t279))))))
def numeral_runs.f (k : Nat) (a0 : ByteArray) (a1 : ByteArray) : Option (Int) := if a0.toList = ([] : List UInt8) then (numeral_runs.j0 k a0 a1 true) else (numeral_runs.j0 k a0 a1 a1.toList.isEmpty)
set_option maxHeartbeats 8000000 in
set_option maxRecDepth 100000 in
theorem numeral_runs.calls (k : Nat) (a0 : ByteArray) (a1 : ByteArray) (r : Int) (w : World) (h : numeral_runs.f k a0 a1 = some r) :
  Calls Tryd.prog 76 #[.string a0, .string a1] w fun e w' => e = .returned (.int .i64 r) ∧ Below w.heap.size w w' := by
 have HB := Aside0.mk (Below.refl w.heap.size w)
 have H : (if a0.toList = ([] : List UInt8) then (numeral_runs.j0 k a0 a1 true) else (numeral_runs.j0 k a0 a1 a1.toList.isEmpty)) = some r := h
 clear h
 have HC3 := Aside0.mk H
 clear H
 go_enter Tryd.func76, Tryd.ntmps76
 go_upto_region 1 with (fail)
 go_cut [10] (fun v10 wc => ∃ (kq : Nat) (x10_2 : Bool), v10 = .bool x10_2 ∧ Aside0 (numeral_runs.j0 kq a0 a1 x10_2 = some r) ∧ Aside0 (kq ≤ k) ∧ Aside0 (Below w.heap.size w wc))
 case first =>
  have H := HC3.out
  clear HC3
  by_cases c4 : a0.toList = ([] : List UInt8)
  ·
   rw [if_pos c4] at H
   have c4b0 : (a0.toList == ([] : List UInt8)) = true := beq_iff_eq.mpr c4
   have c4b1 : (a0.toList != ([] : List UInt8)) = false := bne_eq_false_iff_eq.mpr c4
   clear c4
   (first | rw [c4b0] | (simp only [i64_w, i32_w]; rw [c4b0]) | skip)
   have H' := Aside0.mk H
   clear H
   go_wp2
   go_meet
   case rel => exact ⟨_, (true), qnmo2_, H', ⟨by first | omega | exact Nat.le_refl _⟩, ⟨qnmo1_⟩⟩
  ·
   rw [if_neg c4] at H
   have c4b0 : (a0.toList == ([] : List UInt8)) = false := beq_eq_false_iff_ne.mpr c4
   have c4b1 : (a0.toList != ([] : List UInt8)) = true := bne_iff_ne.mpr c4
   (first | rw [c4b0] | (simp only [i64_w, i32_w]; rw [c4b0]) | skip)
   have H' := Aside0.mk H
   clear H
   go_wp2
   go_meet
   case rel => exact ⟨_, (a1.toList.isEmpty), qnmo2_, H', ⟨by first | omega | exact Nat.le_refl _⟩, ⟨qnmo1_⟩⟩
 case rest =>
  clear HC3
  (try clear p2); (try clear c4); (try clear c4b0); (try clear c4b1)
  obtain ⟨kq, x10_2, rfl, HA, HJ2, HB⟩ := hcut
  cases kq with
  | zero => exact absurd HA.out (by simp [numeral_runs.j0])
  | succ kj2 =>
   have H := HA.out
   clear HA
   simp only [numeral_runs.j0] at H
   by_cases c5 : x10_2 = true
   ·
    subst c5
    have H1 : ((cmp_Compare_int.f (mn (a0.size : Int) 1) (mn (a1.size : Int) 1)).bind fun t271 => (some t271)) = some r := by rw [if_pos rfl] at H; exact H
    clear H
    have H := H1
    clear H1
    obtain ⟨ji6, hji6⟩ : ∃ j_ : Int, (mn (a0.size : Int) 1) = j_ := ⟨_, rfl⟩
    replace H : ((cmp_Compare_int.f (ji6) (mn (a1.size : Int) 1)).bind fun t271 => (some t271)) = some r := by first | (rw [hji6] at H; exact H) | (simp only [hji6] at H ⊢; exact H)
    have hji6_ : (if 1 < (a0.size : Int) then 1 else (a0.size : Int)) = ji6 := hji6
    obtain ⟨ji7, hji7⟩ : ∃ j_ : Int, (mn (a1.size : Int) 1) = j_ := ⟨_, rfl⟩
    replace H : ((cmp_Compare_int.f (ji6) (ji7)).bind fun t271 => (some t271)) = some r := by first | (rw [hji7] at H; exact H) | (simp only [hji7] at H ⊢; exact H)
    have hji7_ : (if 1 < (a1.size : Int) then 1 else (a1.size : Int)) = ji7 := hji7
    replace H := Option.bind_eq_some_iff.mp H
    obtain ⟨t271, A80, H⟩ := H
    replace H : (some t271) = some r := H
    have A8 := Aside0.mk A80
    clear A80
    obtain rfl := Option.some.inj H
    go_wp2_with (first | ((with_reducible refine gate_callee (f := 51) rfl ?_); refine goesL_ (some 17) rfl rfl Tryd.func51 (by kernel_rfl) rfl #[.int .i64 ji6, .int .i64 ji7] rfl (by (try simp only [List.map_toArray, List.map_cons, List.map_nil]); first | done | (simp only [hji6, hji7]; rfl) | rfl | (simp only [List.length_drop, List.length_take]; rfl) | (simp; done) | (simp; omega)) ?_; (with_reducible refine (cmp_Compare_int.calls ji6 ji7 t271 _ A8.out).mono ?_); rintro e w' ⟨rfl, ⟨nd, rfl⟩⟩; refine ⟨_, rfl, ?_⟩))
    go_ret
    exact ⟨by first | rfl | (simp [errW_none, errW_some] <;> rfl) | (simp only [← hji6, ← hji7]; first | rfl | (simp [errW_none, errW_some] <;> rfl)) | (simp [*, errW_none, errW_some] <;> rfl), qnmo1_⟩
   ·
    replace c5 := Bool.eq_false_iff.mpr c5
    subst c5
    have H1 : ((strings_TrimLeft.f kj2 a0 (⟨#[48]⟩ : ByteArray)).bind fun t272 => ((strings_TrimLeft.f kj2 a1 (⟨#[48]⟩ : ByteArray)).bind fun t273 => ((cmp_Compare_int.f (t272.size : Int) (t273.size : Int)).bind fun t274 => ((strings_Compare.f t272 t273).bind fun t275 => ((cmp_Or_int.f kj2 (([t274, t275] : List Int))).bind fun t279 => (some t279)))))) = some r := by rw [if_neg (show ¬ (false = true) by decide)] at H; exact H
    clear H
    have H := H1
    clear H1
    replace H := Option.bind_eq_some_iff.mp H
    obtain ⟨t272, A90, H⟩ := H
    replace H : ((strings_TrimLeft.f kj2 a1 (⟨#[48]⟩ : ByteArray)).bind fun t273 => ((cmp_Compare_int.f (t272.size : Int) (t273.size : Int)).bind fun t274 => ((strings_Compare.f t272 t273).bind fun t275 => ((cmp_Or_int.f kj2 (([t274, t275] : List Int))).bind fun t279 => (some t279))))) = some r := H
    have A9 := Aside0.mk A90
    clear A90
    replace H := Option.bind_eq_some_iff.mp H
    obtain ⟨t273, A100, H⟩ := H
    replace H : ((cmp_Compare_int.f (t272.size : Int) (t273.size : Int)).bind fun t274 => ((strings_Compare.f t272 t273).bind fun t275 => ((cmp_Or_int.f kj2 (([t274, t275] : List Int))).bind fun t279 => (some t279)))) = some r := H
    have A10 := Aside0.mk A100
    clear A100
    replace H := Option.bind_eq_some_iff.mp H
    obtain ⟨t274, A110, H⟩ := H
    replace H : ((strings_Compare.f t272 t273).bind fun t275 => ((cmp_Or_int.f kj2 (([t274, t275] : List Int))).bind fun t279 => (some t279))) = some r := H
    have A11 := Aside0.mk A110
    clear A110
    replace H := Option.bind_eq_some_iff.mp H
    obtain ⟨t275, A120, H⟩ := H
    replace H : ((cmp_Or_int.f kj2 (([t274, t275] : List Int))).bind fun t279 => (some t279)) = some r := H
    have A12 := Aside0.mk A120
    clear A120
    obtain ⟨y276, hy276⟩ : ∃ y_ : List Int, y_ = (([t274, t275] : List Int)) := ⟨_, rfl⟩
    replace H : ((cmp_Or_int.f kj2 y276).bind fun t279 => (some t279)) = some r := by first | (rw [hy276]; with_reducible exact H) | (have H2_ := (Option.bind_some _ _).symm.trans H; rw [hy276]; with_reducible exact H2_) | (have H2_ := (Option.bind_some _ _).symm.trans H; with_reducible exact H2_) | with_reducible exact H | (rw [hy276]; exact H) | exact H
    have Ny276 := Aside0.mk hy276
    clear hy276
    replace H := Option.bind_eq_some_iff.mp H
    obtain ⟨t279, A130, H⟩ := H
    replace H : (some t279) = some r := H
    have A13 := Aside0.mk A130
    clear A130
    obtain rfl := Option.some.inj H
    have tk19 : True := trivial; have tk20 : True := trivial; have tk21 : True := trivial; have tk22 : True := trivial; have tk23 : True := trivial; have tk24 : True := trivial
    go_wp2_with (first | (have ztk19 := tk19; clear tk19 ztk19; (with_reducible refine gate_callee (f := 66) rfl ?_); refine goesL_ (some 19) rfl rfl Tryd.func66 (by kernel_rfl) rfl #[.string a0, .string (⟨#[48]⟩ : ByteArray)] rfl qnmo0_ ?_; (with_reducible refine (strings_TrimLeft.calls kj2 a0 (⟨#[48]⟩ : ByteArray) t272 _ A9.out).mono ?_); rintro e w14 ⟨rfl, hb⟩; refine ⟨_, rfl, ?_⟩; have n0_ := Aside0.mk (below_step qnmo1_ hb); clear HB; have HB := n0_; clear n0_; (try clear hb); (try clear hb2); (try clear hk); (try clear hi)) | (have ztk20 := tk20; clear tk20 ztk20; (with_reducible refine gate_callee (f := 66) rfl ?_); refine goesL_ (some 21) rfl rfl Tryd.func66 (by kernel_rfl) rfl #[.string a1, .string (⟨#[48]⟩ : ByteArray)] rfl qnmo0_ ?_; (with_reducible refine (strings_TrimLeft.calls kj2 a1 (⟨#[48]⟩ : ByteArray) t273 _ A10.out).mono ?_); rintro e w15 ⟨rfl, hb⟩; refine ⟨_, rfl, ?_⟩; have n0_ := Aside0.mk (below_step qnmo1_ hb); clear HB; have HB := n0_; clear n0_; (try clear hb); (try clear hb2); (try clear hk); (try clear hi)) | (have ztk21 := tk21; clear tk21 ztk21; (with_reducible refine gate_callee (f := 51) rfl ?_); refine goesL_ (some 26) rfl rfl Tryd.func51 (by kernel_rfl) rfl #[.int .i64 (t272.size : Int), .int .i64 (t273.size : Int)] rfl qnmo0_ ?_; (with_reducible refine (cmp_Compare_int.calls (t272.size : Int) (t273.size : Int) t274 _ A11.out).mono ?_); rintro e w' ⟨rfl, ⟨nd, rfl⟩⟩; refine ⟨_, rfl, ?_⟩) | (have ztk22 := tk22; clear tk22 ztk22; (with_reducible refine gate_callee (f := 55) rfl ?_); refine goesL_ (some 29) rfl rfl Tryd.func55 (by kernel_rfl) rfl #[.string t272, .string t273] rfl qnmo0_ ?_; (with_reducible refine (strings_Compare.calls t272 t273 t275 _ A12.out).mono ?_); rintro e w' ⟨rfl, ⟨nd, rfl⟩⟩; refine ⟨_, rfl, ?_⟩) | (have ztk23 := tk23; clear tk23 ztk23; (with_reducible refine gate_dst (N := 30) rfl ?_); refine Kd.R_lit (Kd.int .i64) _ 3 ?hg (N := 30) ?hd (xs := ([t274, t275] : List Int)) (inner := [.int .i64 t274, .int .i64 t275]) (ok := fun _ => True) (okp := fun _ => True) ?hr ?hp (fun _ hk => hk) trivial (Below.refl _ _) (Nat.le_refl _) (by simp) ?_; (case hd => rfl); (case hg => rfl); (case hr => first | (go_simp; done) | (go_simp; rfl)); (case hp => exact (Reps.one (show Kd.M (Kd.int .i64) _ _ _ t274 [.int .i64 t274] from rfl) (Reps.one (show Kd.M (Kd.int .i64) _ _ _ t275 [.int .i64 t275] from rfl) (Reps.none _ _)))); intro v277 w16 ho17 hb hg_ hnew_; clear hg_ hnew_; (first | rw [← Ny276.out] at ho17 | (simp only [Int.reduceToNat] at ho17; rw [← Ny276.out] at ho17)); have n0_ := Aside0.mk (Kd.R_lower ho17 (below_size qnmo1_)); have n1_ := Aside0.mk (below_step qnmo1_ hb); clear HB; have HO278 := n0_; have HB := n1_; clear n0_ n1_; clear hb ho17; obtain ⟨Ao18, co18, eo18⟩ := Kd.R_slice HO278.out; subst eo18) | (have ztk24 := tk24; clear tk24 ztk24; (with_reducible refine gate_callee (f := 72) rfl ?_); refine goesL_ (some 31) rfl rfl Tryd.func72 (by kernel_rfl) rfl #[.slice Ao18 y276.length co18] rfl qnmo0_ ?_; (with_reducible refine (cmp_Or_int.calls kj2 _ _ y276 t279 _ ?side1 ?side2 A13.out).mono ?_); (case side1 => repeat (first | exact (Kd.R_reads' HO278.out).2.2 | (with_reducible refine Kd.C_alloc ?_ _) | (with_reducible refine Kd.C_drewN ?_ _) | (with_reducible refine Kd.C_drew ?_))); (case side2 => exact (Kd.R_reads' HO278.out).2.1); rintro e w' ⟨rfl, ⟨nd, rfl⟩⟩; refine ⟨_, rfl, ?_⟩))
    go_ret
    exact ⟨qnmo10_, qnmo1_⟩


/-! ### numeral_versions: function 52 -/
mutual
def numeral_versions.l0 : Nat → ByteArray → ByteArray → Option (Int)
 | 0, _, _ => none
 | k + 1, x0, x1 => if x0.toList = ([] : List UInt8) then (numeral_versions.j1 k x0 x1 (!x1.toList.isEmpty)) else (numeral_versions.j1 k x0 x1 true)
def numeral_versions.j1 : Nat → ByteArray → ByteArray → Bool → Option (Int)
 | 0, _, _, _ => none
 | k + 1, x0, x1, x17 => if x17 = true then ((numeral_pair.f k x0).bind fun bt280 => ((numeral_pair.f k x1).bind fun bt283 => ((numeral_words.f k bt280.1 bt283.1).bind fun t286 => ((numeral_runs.f k bt280.2.1 bt283.2.1).bind fun t287 => ((cmp_Or_int.f k (([t286, t287] : List Int))).bind fun t291 => (if t291 = 0 then (numeral_versions.l0 k bt280.2.2 bt283.2.2) else (some t291))))))) else (some 0)
end
def numeral_versions.f (k : Nat) (a0 : ByteArray) (a1 : ByteArray) : Option (Int) := numeral_versions.l0 k a0 a1
set_option maxHeartbeats 8000000 in
set_option maxRecDepth 100000 in
theorem numeral_versions.calls (k : Nat) (a0 : ByteArray) (a1 : ByteArray) (r : Int) (w : World) (hGL : GOK w) (h : numeral_versions.f k a0 a1 = some r) :
  Calls Tryd.prog 52 #[.string a0, .string a1] w fun e w' => e = .returned (.int .i64 r) ∧ Below w.heap.size w w' := by
 have HGL := Aside0.mk hGL
 clear hGL
 have HB := Aside0.mk (Below.refl w.heap.size w)
 have H : (numeral_versions.l0 k a0 a1) = some r := h
 clear h
 have H' := Aside0.mk H
 clear H
 go_enter Tryd.func52, Tryd.ntmps52
 go_wp2
 go_loopg [0, 1] k (fun kq v0 v1 w' => ∃ (x0_1 : ByteArray) (x1_1 : ByteArray), v0 = .string x0_1 ∧ v1 = .string x1_1 ∧ Aside0 (numeral_versions.l0 kq x0_1 x1_1 = some r) ∧ Aside0 (kq ≤ k) ∧ Aside0 (Below w.heap.size w w'))
 case atStart => exact ⟨(a0), (a1), qnmo2_, qnmo2_, H', ⟨Nat.le_refl _⟩, ⟨qnmo1_⟩⟩
 case round =>
  clear H'
  (try clear p2)
  obtain ⟨x0_1, x1_1, rfl, rfl, HA, HK1, HB⟩ := hrel
  cases gk with
  | zero => exact absurd HA.out (by simp [numeral_versions.l0])
  | succ k1 =>
   have H := HA.out
   clear HA
   simp only [numeral_versions.l0] at H
   have HC3 := Aside0.mk H
   clear H
   go_upto_region 1 with (fail)
   go_cut [17] (fun v17 wc => ∃ (kq : Nat) (x17_2 : Bool), v17 = .bool x17_2 ∧ Aside0 (numeral_versions.j1 kq x0_1 x1_1 x17_2 = some r) ∧ Aside0 (kq ≤ k1) ∧ Aside0 (Below w.heap.size w wc))
   case first =>
    have H := HC3.out
    clear HC3
    by_cases c4 : x0_1.toList = ([] : List UInt8)
    ·
     rw [if_pos c4] at H
     have c4b0 : (x0_1.toList == ([] : List UInt8)) = true := beq_iff_eq.mpr c4
     have c4b1 : (x0_1.toList != ([] : List UInt8)) = false := bne_eq_false_iff_eq.mpr c4
     clear c4
     (first | rw [c4b0] | (simp only [i64_w, i32_w]; rw [c4b0]) | skip)
     have H' := Aside0.mk H
     clear H
     go_wp2
     go_meet
     case rel => exact ⟨_, ((!x1_1.toList.isEmpty)), qnmo2_, H', ⟨by have := HK1.out; first | omega | exact Nat.le_refl _⟩, ⟨qnmo1_⟩⟩
    ·
     rw [if_neg c4] at H
     have c4b0 : (x0_1.toList == ([] : List UInt8)) = false := beq_eq_false_iff_ne.mpr c4
     have c4b1 : (x0_1.toList != ([] : List UInt8)) = true := bne_iff_ne.mpr c4
     (first | rw [c4b0] | (simp only [i64_w, i32_w]; rw [c4b0]) | skip)
     have H' := Aside0.mk H
     clear H
     go_wp2
     go_meet
     case rel => exact ⟨_, (true), qnmo2_, H', ⟨by have := HK1.out; first | omega | exact Nat.le_refl _⟩, ⟨qnmo1_⟩⟩
   case rest =>
    clear HC3
    (try clear p2); (try clear c4); (try clear c4b0); (try clear c4b1); (try clear p2)
    obtain ⟨kq, x17_2, rfl, HA, HJ2, HB⟩ := hcut
    cases kq with
    | zero => exact absurd HA.out (by simp [numeral_versions.j1])
    | succ kj2 =>
     have H := HA.out
     clear HA
     simp only [numeral_versions.j1] at H
     by_cases c5 : x17_2 = true
     ·
      subst c5
      have H1 : ((numeral_pair.f kj2 x0_1).bind fun bt280 => ((numeral_pair.f kj2 x1_1).bind fun bt283 => ((numeral_words.f kj2 bt280.1 bt283.1).bind fun t286 => ((numeral_runs.f kj2 bt280.2.1 bt283.2.1).bind fun t287 => ((cmp_Or_int.f kj2 (([t286, t287] : List Int))).bind fun t291 => (if t291 = 0 then (numeral_versions.l0 kj2 bt280.2.2 bt283.2.2) else (some t291))))))) = some r := by rw [if_pos rfl] at H; exact H
      clear H
      have H := H1
      clear H1
      replace H := Option.bind_eq_some_iff.mp H
      obtain ⟨⟨t280, t281, t282⟩, A60, H⟩ := H
      replace H : ((numeral_pair.f kj2 x1_1).bind fun bt283 => ((numeral_words.f kj2 t280 bt283.1).bind fun t286 => ((numeral_runs.f kj2 t281 bt283.2.1).bind fun t287 => ((cmp_Or_int.f kj2 (([t286, t287] : List Int))).bind fun t291 => (if t291 = 0 then (numeral_versions.l0 kj2 t282 bt283.2.2) else (some t291)))))) = some r := H
      have A6 := Aside0.mk A60
      clear A60
      replace H := Option.bind_eq_some_iff.mp H
      obtain ⟨⟨t283, t284, t285⟩, A70, H⟩ := H
      replace H : ((numeral_words.f kj2 t280 t283).bind fun t286 => ((numeral_runs.f kj2 t281 t284).bind fun t287 => ((cmp_Or_int.f kj2 (([t286, t287] : List Int))).bind fun t291 => (if t291 = 0 then (numeral_versions.l0 kj2 t282 t285) else (some t291))))) = some r := H
      have A7 := Aside0.mk A70
      clear A70
      replace H := Option.bind_eq_some_iff.mp H
      obtain ⟨t286, A80, H⟩ := H
      replace H : ((numeral_runs.f kj2 t281 t284).bind fun t287 => ((cmp_Or_int.f kj2 (([t286, t287] : List Int))).bind fun t291 => (if t291 = 0 then (numeral_versions.l0 kj2 t282 t285) else (some t291)))) = some r := H
      have A8 := Aside0.mk A80
      clear A80
      replace H := Option.bind_eq_some_iff.mp H
      obtain ⟨t287, A90, H⟩ := H
      replace H : ((cmp_Or_int.f kj2 (([t286, t287] : List Int))).bind fun t291 => (if t291 = 0 then (numeral_versions.l0 kj2 t282 t285) else (some t291))) = some r := H
      have A9 := Aside0.mk A90
      clear A90
      obtain ⟨y288, hy288⟩ : ∃ y_ : List Int, y_ = (([t286, t287] : List Int)) := ⟨_, rfl⟩
      replace H : ((cmp_Or_int.f kj2 y288).bind fun t291 => (if t291 = 0 then (numeral_versions.l0 kj2 t282 t285) else (some t291))) = some r := by first | (rw [hy288]; with_reducible exact H) | (have H2_ := (Option.bind_some _ _).symm.trans H; rw [hy288]; with_reducible exact H2_) | (have H2_ := (Option.bind_some _ _).symm.trans H; with_reducible exact H2_) | with_reducible exact H | (rw [hy288]; exact H) | exact H
      have Ny288 := Aside0.mk hy288
      clear hy288
      replace H := Option.bind_eq_some_iff.mp H
      obtain ⟨t291, A100, H⟩ := H
      replace H : (if t291 = 0 then (numeral_versions.l0 kj2 t282 t285) else (some t291)) = some r := H
      have A10 := Aside0.mk A100
      clear A100
      by_cases c11 : t291 = 0
      ·
       rw [if_pos c11] at H
       have c11b0 : (t291 == 0) = true := beq_iff_eq.mpr c11
       have c11b1 : (t291 != 0) = false := bne_eq_false_iff_eq.mpr c11
       clear c11
       have H' := Aside0.mk H
       clear H
       have tk17 : True := trivial; have tk18 : True := trivial; have tk19 : True := trivial; have tk20 : True := trivial; have tk21 : True := trivial; have tk22 : True := trivial
       go_wp2_with (first | (have ztk17 := tk17; clear tk17 ztk17; (with_reducible refine gate_callee (f := 74) rfl ?_); refine goesL_ (some 20) rfl rfl Tryd.func74 (by kernel_rfl) rfl #[.string x0_1] rfl qnmo0_ ?_; (with_reducible refine (numeral_pair.calls kj2 x0_1 t280 t281 t282 _ A6.out).mono ?_); rintro e w' ⟨rfl, ⟨nd, rfl⟩⟩; refine ⟨_, rfl, ?_⟩) | (have ztk18 := tk18; clear tk18 ztk18; (with_reducible refine gate_callee (f := 74) rfl ?_); refine goesL_ (some 26) rfl rfl Tryd.func74 (by kernel_rfl) rfl #[.string x1_1] rfl qnmo0_ ?_; (with_reducible refine (numeral_pair.calls kj2 x1_1 t283 t284 t285 _ A7.out).mono ?_); rintro e w' ⟨rfl, ⟨nd, rfl⟩⟩; refine ⟨_, rfl, ?_⟩) | (have ztk19 := tk19; clear tk19 ztk19; (with_reducible refine gate_callee (f := 75) rfl ?_); refine goesL_ (some 32) rfl rfl Tryd.func75 (by kernel_rfl) rfl #[.string t280, .string t283] rfl qnmo0_ ?_; (with_reducible refine (numeral_words.calls kj2 t280 t283 t286 _ ?side1 A8.out).mono ?_); (case side1 => exact GOK.below HGL.out qnmo1_); rintro e w12 ⟨rfl, hb⟩; refine ⟨_, rfl, ?_⟩; have n0_ := Aside0.mk (below_step qnmo1_ hb); clear HB; have HB := n0_; clear n0_; (try clear hb); (try clear hb2); (try clear hk); (try clear hi)) | (have ztk20 := tk20; clear tk20 ztk20; (with_reducible refine gate_callee (f := 76) rfl ?_); refine goesL_ (some 35) rfl rfl Tryd.func76 (by kernel_rfl) rfl #[.string t281, .string t284] rfl qnmo0_ ?_; (with_reducible refine (numeral_runs.calls kj2 t281 t284 t287 _ A9.out).mono ?_); rintro e w13 ⟨rfl, hb⟩; refine ⟨_, rfl, ?_⟩; have n0_ := Aside0.mk (below_step qnmo1_ hb); clear HB; have HB := n0_; clear n0_; (try clear hb); (try clear hb2); (try clear hk); (try clear hi)) | (have ztk21 := tk21; clear tk21 ztk21; (with_reducible refine gate_dst (N := 36) rfl ?_); refine Kd.R_lit (Kd.int .i64) _ 3 ?hg (N := 36) ?hd (xs := ([t286, t287] : List Int)) (inner := [.int .i64 t286, .int .i64 t287]) (ok := fun _ => True) (okp := fun _ => True) ?hr ?hp (fun _ hk => hk) trivial (Below.refl _ _) (Nat.le_refl _) (by simp) ?_; (case hd => rfl); (case hg => rfl); (case hr => first | (go_simp; done) | (go_simp; rfl)); (case hp => exact (Reps.one (show Kd.M (Kd.int .i64) _ _ _ t286 [.int .i64 t286] from rfl) (Reps.one (show Kd.M (Kd.int .i64) _ _ _ t287 [.int .i64 t287] from rfl) (Reps.none _ _)))); intro v289 w14 ho15 hb hg_ hnew_; clear hg_ hnew_; (first | rw [← Ny288.out] at ho15 | (simp only [Int.reduceToNat] at ho15; rw [← Ny288.out] at ho15)); have n0_ := Aside0.mk (Kd.R_lower ho15 (below_size qnmo1_)); have n1_ := Aside0.mk (below_step qnmo1_ hb); clear HB; have HO290 := n0_; have HB := n1_; clear n0_ n1_; clear hb ho15; obtain ⟨Ao16, co16, eo16⟩ := Kd.R_slice HO290.out; subst eo16) | (have ztk22 := tk22; clear tk22 ztk22; (with_reducible refine gate_callee (f := 72) rfl ?_); refine goesL_ (some 37) rfl rfl Tryd.func72 (by kernel_rfl) rfl #[.slice Ao16 y288.length co16] rfl qnmo0_ ?_; (with_reducible refine (cmp_Or_int.calls kj2 _ _ y288 t291 _ ?side1 ?side2 A10.out).mono ?_); (case side1 => repeat (first | exact (Kd.R_reads' HO290.out).2.2 | (with_reducible refine Kd.C_alloc ?_ _) | (with_reducible refine Kd.C_drewN ?_ _) | (with_reducible refine Kd.C_drew ?_))); (case side2 => exact (Kd.R_reads' HO290.out).2.1); rintro e w' ⟨rfl, ⟨nd, rfl⟩⟩; refine ⟨_, rfl, ?_⟩))
       go_roundg kj2
       case measure => have := HK1.out; have := HJ2.out; omega
       case rel => exact ⟨(t282), (t285), qnmo2_, qnmo2_, H', ⟨by have := HK1.out; have := HJ2.out; omega⟩, ⟨qnmo1_⟩⟩
      ·
       rw [if_neg c11] at H
       have c11b0 : (t291 == 0) = false := beq_eq_false_iff_ne.mpr c11
       have c11b1 : (t291 != 0) = true := bne_iff_ne.mpr c11
       obtain rfl := Option.some.inj H
       have tk28 : True := trivial; have tk29 : True := trivial; have tk30 : True := trivial; have tk31 : True := trivial; have tk32 : True := trivial; have tk33 : True := trivial
       go_wp2_with (first | (have ztk28 := tk28; clear tk28 ztk28; (with_reducible refine gate_callee (f := 74) rfl ?_); refine goesL_ (some 20) rfl rfl Tryd.func74 (by kernel_rfl) rfl #[.string x0_1] rfl qnmo0_ ?_; (with_reducible refine (numeral_pair.calls kj2 x0_1 t280 t281 t282 _ A6.out).mono ?_); rintro e w' ⟨rfl, ⟨nd, rfl⟩⟩; refine ⟨_, rfl, ?_⟩) | (have ztk29 := tk29; clear tk29 ztk29; (with_reducible refine gate_callee (f := 74) rfl ?_); refine goesL_ (some 26) rfl rfl Tryd.func74 (by kernel_rfl) rfl #[.string x1_1] rfl qnmo0_ ?_; (with_reducible refine (numeral_pair.calls kj2 x1_1 t283 t284 t285 _ A7.out).mono ?_); rintro e w' ⟨rfl, ⟨nd, rfl⟩⟩; refine ⟨_, rfl, ?_⟩) | (have ztk30 := tk30; clear tk30 ztk30; (with_reducible refine gate_callee (f := 75) rfl ?_); refine goesL_ (some 32) rfl rfl Tryd.func75 (by kernel_rfl) rfl #[.string t280, .string t283] rfl qnmo0_ ?_; (with_reducible refine (numeral_words.calls kj2 t280 t283 t286 _ ?side1 A8.out).mono ?_); (case side1 => exact GOK.below HGL.out qnmo1_); rintro e w23 ⟨rfl, hb⟩; refine ⟨_, rfl, ?_⟩; have n0_ := Aside0.mk (below_step qnmo1_ hb); clear HB; have HB := n0_; clear n0_; (try clear hb); (try clear hb2); (try clear hk); (try clear hi)) | (have ztk31 := tk31; clear tk31 ztk31; (with_reducible refine gate_callee (f := 76) rfl ?_); refine goesL_ (some 35) rfl rfl Tryd.func76 (by kernel_rfl) rfl #[.string t281, .string t284] rfl qnmo0_ ?_; (with_reducible refine (numeral_runs.calls kj2 t281 t284 t287 _ A9.out).mono ?_); rintro e w24 ⟨rfl, hb⟩; refine ⟨_, rfl, ?_⟩; have n0_ := Aside0.mk (below_step qnmo1_ hb); clear HB; have HB := n0_; clear n0_; (try clear hb); (try clear hb2); (try clear hk); (try clear hi)) | (have ztk32 := tk32; clear tk32 ztk32; (with_reducible refine gate_dst (N := 36) rfl ?_); refine Kd.R_lit (Kd.int .i64) _ 3 ?hg (N := 36) ?hd (xs := ([t286, t287] : List Int)) (inner := [.int .i64 t286, .int .i64 t287]) (ok := fun _ => True) (okp := fun _ => True) ?hr ?hp (fun _ hk => hk) trivial (Below.refl _ _) (Nat.le_refl _) (by simp) ?_; (case hd => rfl); (case hg => rfl); (case hr => first | (go_simp; done) | (go_simp; rfl)); (case hp => exact (Reps.one (show Kd.M (Kd.int .i64) _ _ _ t286 [.int .i64 t286] from rfl) (Reps.one (show Kd.M (Kd.int .i64) _ _ _ t287 [.int .i64 t287] from rfl) (Reps.none _ _)))); intro v289 w25 ho26 hb hg_ hnew_; clear hg_ hnew_; (first | rw [← Ny288.out] at ho26 | (simp only [Int.reduceToNat] at ho26; rw [← Ny288.out] at ho26)); have n0_ := Aside0.mk (Kd.R_lower ho26 (below_size qnmo1_)); have n1_ := Aside0.mk (below_step qnmo1_ hb); clear HB; have HO290 := n0_; have HB := n1_; clear n0_ n1_; clear hb ho26; obtain ⟨Ao27, co27, eo27⟩ := Kd.R_slice HO290.out; subst eo27) | (have ztk33 := tk33; clear tk33 ztk33; (with_reducible refine gate_callee (f := 72) rfl ?_); refine goesL_ (some 37) rfl rfl Tryd.func72 (by kernel_rfl) rfl #[.slice Ao27 y288.length co27] rfl qnmo0_ ?_; (with_reducible refine (cmp_Or_int.calls kj2 _ _ y288 t291 _ ?side1 ?side2 A10.out).mono ?_); (case side1 => repeat (first | exact (Kd.R_reads' HO290.out).2.2 | (with_reducible refine Kd.C_alloc ?_ _) | (with_reducible refine Kd.C_drewN ?_ _) | (with_reducible refine Kd.C_drew ?_))); (case side2 => exact (Kd.R_reads' HO290.out).2.1); rintro e w' ⟨rfl, ⟨nd, rfl⟩⟩; refine ⟨_, rfl, ?_⟩))
       go_ret
       exact ⟨qnmo10_, qnmo1_⟩
     ·
      replace c5 := Bool.eq_false_iff.mpr c5
      subst c5
      have H1 : (some 0) = some r := by rw [if_neg (show ¬ (false = true) by decide)] at H; exact H
      clear H
      have H := H1
      clear H1
      obtain rfl := Option.some.inj H
      go_wp2
      go_ret
      exact ⟨qnmo10_, qnmo1_⟩

end Go.Proofs.YtcdajedmlfhmeaaDoor.XN

section
/- Compare: what numeral computes. (by this session) -/
-- NEEDS numeral_digits cmp_isNaN_int cmp_Compare_int bytealg_CompareString strings_Compare cmp_Or_int numeral_order numeral_sizeOf numeral_human numeral_pair numeral_rank cmp_Compare_byte numeral_words numeral_runs numeral_versions
set_option linter.unusedVariables false
set_option linter.unusedSimpArgs false
namespace Go.Proofs.YtcdajedmlfhmeaaDoor.XN
open Go.RowKit Go.Proofs.YtcdajedmlfhmeaaDoorW.PrintWords Go.Proofs.YtcdajedmlfhmeaaDoorW.PrintMore

/-- A number as 0.DIGITS times ten to the Exp. -/
def digS (w f : List UInt8) (e : Int) : List UInt8 × Int :=
  if tl w = [] then if tr (tl f) = [] then ([], 0) else (tr (tl f), ((tl f).length : Int) - (f.length : Int) + e)
  else if tr (tl w ++ f) = [] then ([], 0) else (tr (tl w ++ f), ((tl w).length : Int) + e)
def cmpI (a b : Int) : Int := if a < b then -1 else if a > b then 1 else 0
theorem Compare_int_f (a b : Int) : cmp_Compare_int.f a b = some (cmpI a b) := by
  unfold cmp_Compare_int.f cmp_isNaN_int.f cmpI
  simp only [Option.bind_some, bne_self_eq_false, Bool.false_eq_true, if_false]
  split
  · rfl
  · split <;> rfl
def bcmp (l m : List UInt8) : Int := Lib.compareBytes l m
/-- The first that is no 0. -/
def orS : List Int → Int
  | [] => 0
  | x :: xs => if x = 0 then orS xs else x
/-- A number as it is compared: sign, rank, exponent, digits. -/
abbrev Sz := Int × Int × Int × List UInt8
def szS (n : Bool) (d : List UInt8) (x r : Int) : Sz := if d = [] then (0, 0, 0, []) else ((if n = true then -1 else 1), r, x, d)
def ordS (a b : Sz) : Int := if a.1 = b.1 ∧ ¬ a.1 = 0 then a.1 * orS [cmpI a.2.1 b.2.1, cmpI a.2.2.1 b.2.2.1, bcmp a.2.2.2 b.2.2.2] else cmpI a.1 b.1
/-- n's and h's number of a text. -/
def huS (kind : Int) (s : ByteArray) : Sz :=
  szS (humS s).1.1 (digS (humS s).1.2.1 (humS s).1.2.2.1 0).1 (digS (humS s).1.2.1 (humS s).1.2.2.1 0).2 (if kind = 16 then 0 else ((humS s).2 : Int))
/-! ### versions -/
def noDg (c : UInt8) : Bool := !isDg c
def pr1 (l : List UInt8) : List UInt8 := l.takeWhile noDg
def pr2 (l : List UInt8) : List UInt8 := (l.dropWhile noDg).takeWhile isDg
def pr3 (l : List UInt8) : List UInt8 := (l.dropWhile noDg).dropWhile isDg
def rkB (c : UInt8) : Int := rankF (c.toNat : Int)
/-- The order of two runs without digits. -/
def wdS : List UInt8 → List UInt8 → Int
  | [], [] => 0
  | a :: l, [] => if rkB a = 2 then wdS l [] else cmpI (rkB a) 2
  | [], b :: m => if 2 = rkB b then wdS [] m else cmpI 2 (rkB b)
  | a :: l, b :: m => if rkB a = rkB b then wdS l m else cmpI (rkB a) (rkB b)
/-- The order of two runs of digits. -/
def rnS (l m : List UInt8) : Int :=
  if l = [] ∨ m = [] then cmpI (if l = [] then 0 else 1) (if m = [] then 0 else 1) else orS [cmpI ((tl l).length : Int) ((tl m).length : Int), bcmp (tl l) (tl m)]
def vrF : Nat → List UInt8 → List UInt8 → Int
  | 0, _, _ => 0
  | n + 1, l, m => if l = [] ∧ m = [] then 0 else if orS [wdS (pr1 l) (pr1 m), rnS (pr2 l) (pr2 m)] = 0 then vrF n (pr3 l) (pr3 m) else orS [wdS (pr1 l) (pr1 m), rnS (pr2 l) (pr2 m)]
def vrS (l m : List UInt8) : Int := vrF (l.length + m.length + 1) l m
end Go.Proofs.YtcdajedmlfhmeaaDoor.XN
end

namespace Go.Proofs.YtcdajedmlfhmeaaDoor.XN
open Go.RowKit Go.Proofs.YtcdajedmlfhmeaaDoorW.PrintWords Go.Proofs.YtcdajedmlfhmeaaDoorW.PrintLast Go.Proofs.YtcdajedmlfhmeaaDoorW.PrintMore
attribute [local go_sem] max2_int min2_int max_two min_two max_three min_three max_four min_four
set_option linter.unusedVariables false
set_option linter.unusedSimpArgs false

/-! ### numeral_exponent: function 37 -/
def numeral_exponent.l0 : Nat → ByteArray → Int → Int → Int → Int → Option (Int × Int)
 | 0, _, _, _, _, _ => none
 | k + 1, x0, x1, x6, x7, x8 => if x1 < (x0.size : Int) then (if 0 ≤ x1 then ((numeral_digit.f (bt x0 x1)).bind fun t140 => (if t140 = true then (numeral_exponent.l0 k x0 (wrap64 (x1 + 1)) (wrap64 (x1 + 1)) x7 (mn (wrap64 ((wrap64 (x8 * 10)) + (((bt x0 x1) - 48) % 256))) 1099511627776)) else (some (wrap64 (x7 * x8), x6)))) else (none)) else (some (wrap64 (x7 * x8), x6))
def numeral_exponent.f (k : Nat) (a0 : ByteArray) (a1 : Int) : Option (Int × Int) := if a1 = (a0.size : Int) then (some (0, a1)) else (if 0 ≤ a1 then (if a1 < (a0.size : Int) then (if (Go.bits .or .u8 (bt a0 a1) 32) = 101 then (if (wrap64 (a1 + 1)) < (a0.size : Int) then (if 0 ≤ (wrap64 (a1 + 1)) then (if (bt a0 (wrap64 (a1 + 1))) = 45 then (numeral_exponent.l0 k a0 (wrap64 ((wrap64 (a1 + 1)) + 1)) a1 (-1) 0) else (if (bt a0 (wrap64 (a1 + 1))) = 43 then (numeral_exponent.l0 k a0 (wrap64 ((wrap64 (a1 + 1)) + 1)) a1 1 0) else (numeral_exponent.l0 k a0 (wrap64 (a1 + 1)) a1 1 0))) else (none)) else (numeral_exponent.l0 k a0 (wrap64 (a1 + 1)) a1 1 0)) else (some (0, a1))) else (none)) else (none))
set_option maxHeartbeats 8000000 in
set_option maxRecDepth 100000 in
theorem numeral_exponent.calls (k : Nat) (a0 : ByteArray) (a1 : Int) (r1 : Int) (r2 : Int) (w : World) (h : numeral_exponent.f k a0 a1 = some (r1, r2)) :
  Calls Tryd.prog 37 #[.string a0, .int .i64 a1] w fun e w' => e = .returned (.tuple #[.int .i64 r1, .int .i64 r2]) ∧ Below w.heap.size w w' := by
 have HB := Aside0.mk (Below.refl w.heap.size w)
 have H : (if a1 = (a0.size : Int) then (some (0, a1)) else (if 0 ≤ a1 then (if a1 < (a0.size : Int) then (if (Go.bits .or .u8 (bt a0 a1) 32) = 101 then (if (wrap64 (a1 + 1)) < (a0.size : Int) then (if 0 ≤ (wrap64 (a1 + 1)) then (if (bt a0 (wrap64 (a1 + 1))) = 45 then (numeral_exponent.l0 k a0 (wrap64 ((wrap64 (a1 + 1)) + 1)) a1 (-1) 0) else (if (bt a0 (wrap64 (a1 + 1))) = 43 then (numeral_exponent.l0 k a0 (wrap64 ((wrap64 (a1 + 1)) + 1)) a1 1 0) else (numeral_exponent.l0 k a0 (wrap64 (a1 + 1)) a1 1 0))) else (none)) else (numeral_exponent.l0 k a0 (wrap64 (a1 + 1)) a1 1 0)) else (some (0, a1))) else (none)) else (none))) = some (r1, r2) := h
 clear h
 by_cases c3 : a1 = (a0.size : Int)
 ·
  rw [if_pos c3] at H
  have c3b0 : (a1 == (a0.size : Int)) = true := beq_iff_eq.mpr c3
  have c3b1 : (a1 != (a0.size : Int)) = false := bne_eq_false_iff_eq.mpr c3
  clear c3
  simp only [Option.some.injEq, Prod.mk.injEq] at H
  obtain ⟨rfl, rfl⟩ := H
  go_enter Tryd.func37, Tryd.ntmps37
  go_wp2
  go_ret2
  exact ⟨qnmo10_, qnmo1_⟩
 ·
  rw [if_neg c3] at H
  have c3b0 : (a1 == (a0.size : Int)) = false := beq_eq_false_iff_ne.mpr c3
  have c3b1 : (a1 != (a0.size : Int)) = true := bne_iff_ne.mpr c3
  by_cases c4 : 0 ≤ a1
  ·
   rw [if_pos c4] at H
   have c4b0 : decide (0 ≤ a1) = true := decide_eq_true c4
   clear c4
   by_cases c5 : a1 < (a0.size : Int)
   ·
    rw [if_pos c5] at H
    have c5b0 : decide (a1 < (a0.size : Int)) = true := decide_eq_true c5
    clear c5
    by_cases c7 : (Go.bits .or .u8 (bt a0 a1) 32) = 101
    ·
     rw [if_pos c7] at H
     have c7b0 : ((Go.bits .or .u8 (bt a0 a1) 32) == 101) = true := beq_iff_eq.mpr c7
     have c7b1 : ((Go.bits .or .u8 (bt a0 a1) 32) != 101) = false := bne_eq_false_iff_eq.mpr c7
     clear c7
     by_cases c8 : (wrap64 (a1 + 1)) < (a0.size : Int)
     ·
      rw [if_pos c8] at H
      have c8b0 : decide ((wrap64 (a1 + 1)) < (a0.size : Int)) = true := decide_eq_true c8
      clear c8
      obtain ⟨ji9, hji9⟩ : ∃ j_ : Int, (wrap64 (a1 + 1)) = j_ := ⟨_, rfl⟩
      replace H : (if 0 ≤ (ji9) then (if (bt a0 (ji9)) = 45 then (numeral_exponent.l0 k a0 (wrap64 ((ji9) + 1)) a1 (-1) 0) else (if (bt a0 (ji9)) = 43 then (numeral_exponent.l0 k a0 (wrap64 ((ji9) + 1)) a1 1 0) else (numeral_exponent.l0 k a0 ji9 a1 1 0))) else (none)) = some (r1, r2) := by first | (rw [hji9] at H; exact H) | (simp only [hji9] at H ⊢; exact H)
      (try rw [hji9] at c8b0)
      have hji9w : (IntKind.i64.wrap (a1 + 1)) = ji9 := (i64_w _).trans hji9
      by_cases c10 : 0 ≤ (ji9)
      ·
       rw [if_pos c10] at H
       have c10b0 : decide (0 ≤ (ji9)) = true := decide_eq_true c10
       clear c10
       by_cases c12 : (bt a0 (ji9)) = 45
       ·
        rw [if_pos c12] at H
        have c12b0 : ((bt a0 (ji9)) == 45) = true := beq_iff_eq.mpr c12
        have c12b1 : ((bt a0 (ji9)) != 45) = false := bne_eq_false_iff_eq.mpr c12
        clear c12
        have H' := Aside0.mk H
        clear H
        have p6 : 0 ≤ (a1 : Int) := of_decide_eq_true qnmo5_
        have q6 : a1 < (a0.size : Int) := of_decide_eq_true qnmo5_
        have hx6 := bt_at a0 a1
        replace p6 := eq_true p6
        replace q6 := eq_true q6
        have p11 : 0 ≤ ((ji9) : Int) := of_decide_eq_true qnmo5_
        have q11 : (ji9) < (a0.size : Int) := of_decide_eq_true qnmo5_
        have hx11 := bt_at a0 (ji9)
        replace p11 := eq_true p11
        replace q11 := eq_true q11
        have p13 : 0 ≤ ((ji9) : Int) := of_decide_eq_true qnmo5_
        have q13 : (ji9) < (a0.size : Int) := of_decide_eq_true qnmo5_
        have hx13 := bt_at a0 (ji9)
        replace p13 := eq_true p13
        replace q13 := eq_true q13
        go_enter Tryd.func37, Tryd.ntmps37
        go_wp2
        go_loopg [1, 6, 8] k (fun kq v1 v6 v8 w' => ∃ (x1_1 : Int) (x6_1 : Int) (x8_1 : Int), v1 = .int .i64 x1_1 ∧ v6 = .int .i64 x6_1 ∧ v8 = .int .i64 x8_1 ∧ Aside0 (numeral_exponent.l0 kq a0 x1_1 x6_1 (-1) x8_1 = some (r1, r2)) ∧ Aside0 (kq ≤ k) ∧ Aside0 (Below w.heap.size w w'))
        case atStart => exact ⟨(wrap64 ((ji9) + 1)), (a1), (0), qnmo42_, qnmo2_, qnmo2_, H', ⟨Nat.le_refl _⟩, ⟨qnmo1_⟩⟩
        case round =>
         clear H'
         (try clear c1); (try clear p1); (try clear q1); (try clear hx1); (try clear p2); (try clear c3); (try clear c3b0); (try clear c3b1); (try clear c4); (try clear c4b0); (try clear c5); (try clear c5b0); (try clear p6); (try clear q6); (try clear hx6); (try clear c7); (try clear c7b0); (try clear c7b1); (try clear c8); (try clear c8b0); (try clear c10); (try clear c10b0); (try clear p11); (try clear q11)
         (try clear hx11); (try clear c12); (try clear c12b0); (try clear c12b1); (try clear p13); (try clear q13); (try clear hx13); (try clear p11); (try clear p13); (try clear p6); (try clear q11); (try clear q13); (try clear q6)
         obtain ⟨x1_1, x6_1, x8_1, rfl, rfl, rfl, HA, HK1, HB⟩ := hrel
         cases gk with
         | zero => exact absurd HA.out (by simp [numeral_exponent.l0])
         | succ k1 =>
          have H := HA.out
          clear HA
          simp only [numeral_exponent.l0] at H
          by_cases c14 : x1_1 < (a0.size : Int)
          ·
           rw [if_pos c14] at H
           have c14b0 : decide (x1_1 < (a0.size : Int)) = true := decide_eq_true c14
           clear c14
           by_cases c15 : 0 ≤ x1_1
           ·
            rw [if_pos c15] at H
            have c15b0 : decide (0 ≤ x1_1) = true := decide_eq_true c15
            clear c15
            replace H := Option.bind_eq_some_iff.mp H
            obtain ⟨t140, A170, H⟩ := H
            replace H : (if t140 = true then (numeral_exponent.l0 k1 a0 (wrap64 (x1_1 + 1)) (wrap64 (x1_1 + 1)) (-1) (mn (wrap64 ((wrap64 (x8_1 * 10)) + (((bt a0 x1_1) - 48) % 256))) 1099511627776)) else (some (wrap64 ((-1) * x8_1), x6_1))) = some (r1, r2) := H
            have A17 := Aside0.mk A170
            clear A170
            by_cases c18 : t140 = true
            ·
             subst c18
             have H1 : (numeral_exponent.l0 k1 a0 (wrap64 (x1_1 + 1)) (wrap64 (x1_1 + 1)) (-1) (mn (wrap64 ((wrap64 (x8_1 * 10)) + (((bt a0 x1_1) - 48) % 256))) 1099511627776)) = some (r1, r2) := by rw [if_pos rfl] at H; exact H
             clear H
             have H := H1
             clear H1
             obtain ⟨ji20, hji20⟩ : ∃ j_ : Int, (mn (wrap64 ((wrap64 (x8_1 * 10)) + (((bt a0 x1_1) - 48) % 256))) 1099511627776) = j_ := ⟨_, rfl⟩
             replace H : (numeral_exponent.l0 k1 a0 (wrap64 (x1_1 + 1)) (wrap64 (x1_1 + 1)) (-1) ji20) = some (r1, r2) := by first | (rw [hji20] at H; exact H) | (simp only [hji20] at H ⊢; exact H)
             (try rw [hji20] at A17)
             have hji20_ : (if 1099511627776 < (wrap64 ((wrap64 (x8_1 * 10)) + (((bt a0 x1_1) - 48) % 256))) then 1099511627776 else (wrap64 ((wrap64 (x8_1 * 10)) + (((bt a0 x1_1) - 48) % 256)))) = ji20 := hji20
             have H' := Aside0.mk H
             clear H
             have p16 : 0 ≤ (x1_1 : Int) := of_decide_eq_true qnmo5_
             have q16 : x1_1 < (a0.size : Int) := of_decide_eq_true qnmo5_
             have hx16 := bt_at a0 x1_1
             replace p16 := eq_true p16
             replace q16 := eq_true q16
             go_wp2_with (first | (go_at_call 68; (with_reducible refine (numeral_digit.calls (bt a0 x1_1) true _ A17.out).mono ?_); rintro e w' ⟨rfl, ⟨nd, rfl⟩⟩; have p19 : 0 ≤ (x1_1 : Int) := of_decide_eq_true qnmo5_; have q19 : x1_1 < (a0.size : Int) := of_decide_eq_true qnmo5_; have hx19 := bt_at a0 x1_1; replace p19 := eq_true p19; replace q19 := eq_true q19))
             go_roundg k1
             case measure => have := HK1.out; omega
             case rel => exact ⟨(wrap64 (x1_1 + 1)), (wrap64 (x1_1 + 1)), (ji20), qnmo2_, qnmo2_, (by first | rfl | (simp; done) | (simp only [← hji20] <;> (first | rfl | simp); done) | (simp [*]; done) | (simp; simp only [eq_iff_iff, iff_true] at *; omega) | (exfalso; simp_all; done)), H', ⟨by have := HK1.out; omega⟩, ⟨qnmo1_⟩⟩
            ·
             replace c18 := Bool.eq_false_iff.mpr c18
             subst c18
             have H1 : (some (wrap64 ((-1) * x8_1), x6_1)) = some (r1, r2) := by rw [if_neg (show ¬ (false = true) by decide)] at H; exact H
             clear H
             have H := H1
             clear H1
             simp only [Option.some.injEq, Prod.mk.injEq] at H
             obtain ⟨rfl, rfl⟩ := H
             have p16 : 0 ≤ (x1_1 : Int) := of_decide_eq_true qnmo5_
             have q16 : x1_1 < (a0.size : Int) := of_decide_eq_true qnmo5_
             have hx16 := bt_at a0 x1_1
             replace p16 := eq_true p16
             replace q16 := eq_true q16
             go_wp2_with (first | (go_at_call 68; (with_reducible refine (numeral_digit.calls (bt a0 x1_1) false _ A17.out).mono ?_); rintro e w' ⟨rfl, ⟨nd, rfl⟩⟩))
             go_ret2
             exact ⟨qnmo30_, qnmo1_⟩
           ·
            rw [if_neg c15] at H
            exact absurd H (by simp)
          ·
           rw [if_neg c14] at H
           have c14b0 : decide (x1_1 < (a0.size : Int)) = false := decide_eq_false c14
           clear c14
           simp only [Option.some.injEq, Prod.mk.injEq] at H
           obtain ⟨rfl, rfl⟩ := H
           go_wp2
           go_ret2
           exact ⟨qnmo30_, qnmo1_⟩
       ·
        rw [if_neg c12] at H
        have c12b0 : ((bt a0 (ji9)) == 45) = false := beq_eq_false_iff_ne.mpr c12
        have c12b1 : ((bt a0 (ji9)) != 45) = true := bne_iff_ne.mpr c12
        by_cases c22 : (bt a0 (ji9)) = 43
        ·
         rw [if_pos c22] at H
         have c22b0 : ((bt a0 (ji9)) == 43) = true := beq_iff_eq.mpr c22
         have c22b1 : ((bt a0 (ji9)) != 43) = false := bne_eq_false_iff_eq.mpr c22
         clear c22
         have H' := Aside0.mk H
         clear H
         have p6 : 0 ≤ (a1 : Int) := of_decide_eq_true qnmo5_
         have q6 : a1 < (a0.size : Int) := of_decide_eq_true qnmo5_
         have hx6 := bt_at a0 a1
         replace p6 := eq_true p6
         replace q6 := eq_true q6
         have p11 : 0 ≤ ((ji9) : Int) := of_decide_eq_true qnmo5_
         have q11 : (ji9) < (a0.size : Int) := of_decide_eq_true qnmo5_
         have hx11 := bt_at a0 (ji9)
         replace p11 := eq_true p11
         replace q11 := eq_true q11
         have p21 : 0 ≤ ((ji9) : Int) := of_decide_eq_true qnmo5_
         have q21 : (ji9) < (a0.size : Int) := of_decide_eq_true qnmo5_
         have hx21 := bt_at a0 (ji9)
         replace p21 := eq_true p21
         replace q21 := eq_true q21
         have p23 : 0 ≤ ((ji9) : Int) := of_decide_eq_true qnmo5_
         have q23 : (ji9) < (a0.size : Int) := of_decide_eq_true qnmo5_
         have hx23 := bt_at a0 (ji9)
         replace p23 := eq_true p23
         replace q23 := eq_true q23
         go_enter Tryd.func37, Tryd.ntmps37
         go_wp2
         go_loopg [1, 6, 8] k (fun kq v1 v6 v8 w' => ∃ (x1_1 : Int) (x6_1 : Int) (x8_1 : Int), v1 = .int .i64 x1_1 ∧ v6 = .int .i64 x6_1 ∧ v8 = .int .i64 x8_1 ∧ Aside0 (numeral_exponent.l0 kq a0 x1_1 x6_1 1 x8_1 = some (r1, r2)) ∧ Aside0 (kq ≤ k) ∧ Aside0 (Below w.heap.size w w'))
         case atStart => exact ⟨(wrap64 ((ji9) + 1)), (a1), (0), qnmo42_, qnmo2_, qnmo2_, H', ⟨Nat.le_refl _⟩, ⟨qnmo1_⟩⟩
         case round =>
          clear H'
          (try clear c1); (try clear p1); (try clear q1); (try clear hx1); (try clear c2); (try clear p2); (try clear q2); (try clear hx2); (try clear c3); (try clear c3b0); (try clear c3b1); (try clear c4); (try clear c4b0); (try clear c5); (try clear c5b0); (try clear p6); (try clear q6); (try clear hx6); (try clear c7); (try clear c7b0); (try clear c7b1); (try clear c8); (try clear c8b0); (try clear c10)
          (try clear c10b0); (try clear p11); (try clear q11); (try clear hx11); (try clear c12); (try clear c12b0); (try clear c12b1); (try clear p13); (try clear q13); (try clear hx13); (try clear c14); (try clear c14b0); (try clear c15); (try clear c15b0); (try clear p16); (try clear q16); (try clear hx16); (try clear c18); (try clear p19); (try clear q19); (try clear hx19); (try clear p21); (try clear q21)
          (try clear hx21); (try clear c22); (try clear c22b0); (try clear c22b1); (try clear p23); (try clear q23); (try clear hx23); (try clear p1); (try clear p11); (try clear p13); (try clear p16); (try clear p19); (try clear p2); (try clear p21); (try clear p23); (try clear p6); (try clear q1); (try clear q11); (try clear q13); (try clear q16); (try clear q19); (try clear q21); (try clear q23)
          (try clear q6)
          obtain ⟨x1_1, x6_1, x8_1, rfl, rfl, rfl, HA, HK1, HB⟩ := hrel
          cases gk with
          | zero => exact absurd HA.out (by simp [numeral_exponent.l0])
          | succ k1 =>
           have H := HA.out
           clear HA
           simp only [numeral_exponent.l0] at H
           by_cases c24 : x1_1 < (a0.size : Int)
           ·
            rw [if_pos c24] at H
            have c24b0 : decide (x1_1 < (a0.size : Int)) = true := decide_eq_true c24
            clear c24
            by_cases c25 : 0 ≤ x1_1
            ·
             rw [if_pos c25] at H
             have c25b0 : decide (0 ≤ x1_1) = true := decide_eq_true c25
             clear c25
             replace H := Option.bind_eq_some_iff.mp H
             obtain ⟨t140, A270, H⟩ := H
             replace H : (if t140 = true then (numeral_exponent.l0 k1 a0 (wrap64 (x1_1 + 1)) (wrap64 (x1_1 + 1)) 1 (mn (wrap64 ((wrap64 (x8_1 * 10)) + (((bt a0 x1_1) - 48) % 256))) 1099511627776)) else (some (wrap64 (1 * x8_1), x6_1))) = some (r1, r2) := H
             have A27 := Aside0.mk A270
             clear A270
             by_cases c28 : t140 = true
             ·
              subst c28
              have H1 : (numeral_exponent.l0 k1 a0 (wrap64 (x1_1 + 1)) (wrap64 (x1_1 + 1)) 1 (mn (wrap64 ((wrap64 (x8_1 * 10)) + (((bt a0 x1_1) - 48) % 256))) 1099511627776)) = some (r1, r2) := by rw [if_pos rfl] at H; exact H
              clear H
              have H := H1
              clear H1
              obtain ⟨ji30, hji30⟩ : ∃ j_ : Int, (mn (wrap64 ((wrap64 (x8_1 * 10)) + (((bt a0 x1_1) - 48) % 256))) 1099511627776) = j_ := ⟨_, rfl⟩
              replace H : (numeral_exponent.l0 k1 a0 (wrap64 (x1_1 + 1)) (wrap64 (x1_1 + 1)) 1 ji30) = some (r1, r2) := by first | (rw [hji30] at H; exact H) | (simp only [hji30] at H ⊢; exact H)
              (try rw [hji30] at A27)
              have hji30_ : (if 1099511627776 < (wrap64 ((wrap64 (x8_1 * 10)) + (((bt a0 x1_1) - 48) % 256))) then 1099511627776 else (wrap64 ((wrap64 (x8_1 * 10)) + (((bt a0 x1_1) - 48) % 256)))) = ji30 := hji30
              have H' := Aside0.mk H
              clear H
              have p26 : 0 ≤ (x1_1 : Int) := of_decide_eq_true qnmo5_
              have q26 : x1_1 < (a0.size : Int) := of_decide_eq_true qnmo5_
              have hx26 := bt_at a0 x1_1
              replace p26 := eq_true p26
              replace q26 := eq_true q26
              go_wp2_with (first | (go_at_call 68; (with_reducible refine (numeral_digit.calls (bt a0 x1_1) true _ A27.out).mono ?_); rintro e w' ⟨rfl, ⟨nd, rfl⟩⟩; have p29 : 0 ≤ (x1_1 : Int) := of_decide_eq_true qnmo5_; have q29 : x1_1 < (a0.size : Int) := of_decide_eq_true qnmo5_; have hx29 := bt_at a0 x1_1; replace p29 := eq_true p29; replace q29 := eq_true q29))
              go_roundg k1
              case measure => have := HK1.out; omega
              case rel => exact ⟨(wrap64 (x1_1 + 1)), (wrap64 (x1_1 + 1)), (ji30), qnmo2_, qnmo2_, (by first | rfl | (simp; done) | (simp only [← hji30] <;> (first | rfl | simp); done) | (simp [*]; done) | (simp; simp only [eq_iff_iff, iff_true] at *; omega) | (exfalso; simp_all; done)), H', ⟨by have := HK1.out; omega⟩, ⟨qnmo1_⟩⟩
             ·
              replace c28 := Bool.eq_false_iff.mpr c28
              subst c28
              have H1 : (some (wrap64 (1 * x8_1), x6_1)) = some (r1, r2) := by rw [if_neg (show ¬ (false = true) by decide)] at H; exact H
              clear H
              have H := H1
              clear H1
              simp only [Option.some.injEq, Prod.mk.injEq] at H
              obtain ⟨rfl, rfl⟩ := H
              have p26 : 0 ≤ (x1_1 : Int) := of_decide_eq_true qnmo5_
              have q26 : x1_1 < (a0.size : Int) := of_decide_eq_true qnmo5_
              have hx26 := bt_at a0 x1_1
              replace p26 := eq_true p26
              replace q26 := eq_true q26
              go_wp2_with (first | (go_at_call 68; (with_reducible refine (numeral_digit.calls (bt a0 x1_1) false _ A27.out).mono ?_); rintro e w' ⟨rfl, ⟨nd, rfl⟩⟩))
              go_ret2
              exact ⟨qnmo30_, qnmo1_⟩
            ·
             rw [if_neg c25] at H
             exact absurd H (by simp)
           ·
            rw [if_neg c24] at H
            have c24b0 : decide (x1_1 < (a0.size : Int)) = false := decide_eq_false c24
            clear c24
            simp only [Option.some.injEq, Prod.mk.injEq] at H
            obtain ⟨rfl, rfl⟩ := H
            go_wp2
            go_ret2
            exact ⟨qnmo30_, qnmo1_⟩
        ·
         rw [if_neg c22] at H
         have c22b0 : ((bt a0 (ji9)) == 43) = false := beq_eq_false_iff_ne.mpr c22
         have c22b1 : ((bt a0 (ji9)) != 43) = true := bne_iff_ne.mpr c22
         have H' := Aside0.mk H
         clear H
         have p6 : 0 ≤ (a1 : Int) := of_decide_eq_true qnmo5_
         have q6 : a1 < (a0.size : Int) := of_decide_eq_true qnmo5_
         have hx6 := bt_at a0 a1
         replace p6 := eq_true p6
         replace q6 := eq_true q6
         have p11 : 0 ≤ ((ji9) : Int) := of_decide_eq_true qnmo5_
         have q11 : (ji9) < (a0.size : Int) := of_decide_eq_true qnmo5_
         have hx11 := bt_at a0 (ji9)
         replace p11 := eq_true p11
         replace q11 := eq_true q11
         have p21 : 0 ≤ ((ji9) : Int) := of_decide_eq_true qnmo5_
         have q21 : (ji9) < (a0.size : Int) := of_decide_eq_true qnmo5_
         have hx21 := bt_at a0 (ji9)
         replace p21 := eq_true p21
         replace q21 := eq_true q21
         go_enter Tryd.func37, Tryd.ntmps37
         go_wp2
         go_loopg [1, 6, 8] k (fun kq v1 v6 v8 w' => ∃ (x1_1 : Int) (x6_1 : Int) (x8_1 : Int), v1 = .int .i64 x1_1 ∧ v6 = .int .i64 x6_1 ∧ v8 = .int .i64 x8_1 ∧ Aside0 (numeral_exponent.l0 kq a0 x1_1 x6_1 1 x8_1 = some (r1, r2)) ∧ Aside0 (kq ≤ k) ∧ Aside0 (Below w.heap.size w w'))
         case atStart => exact ⟨(ji9), (a1), (0), qnmo42_, qnmo2_, qnmo2_, H', ⟨Nat.le_refl _⟩, ⟨qnmo1_⟩⟩
         case round =>
          clear H'
          (try clear c1); (try clear p1); (try clear q1); (try clear hx1); (try clear c2); (try clear p2); (try clear q2); (try clear hx2); (try clear c3); (try clear c3b0); (try clear c3b1); (try clear c4); (try clear c4b0); (try clear c5); (try clear c5b0); (try clear p6); (try clear q6); (try clear hx6); (try clear c7); (try clear c7b0); (try clear c7b1); (try clear c8); (try clear c8b0); (try clear c10)
          (try clear c10b0); (try clear p11); (try clear q11); (try clear hx11); (try clear c12); (try clear c12b0); (try clear c12b1); (try clear p13); (try clear q13); (try clear hx13); (try clear c14); (try clear c14b0); (try clear c15); (try clear c15b0); (try clear p16); (try clear q16); (try clear hx16); (try clear c18); (try clear p19); (try clear q19); (try clear hx19); (try clear p21); (try clear q21)
          (try clear hx21); (try clear c22); (try clear c22b0); (try clear c22b1); (try clear p23); (try clear q23); (try clear hx23); (try clear c24); (try clear c24b0); (try clear c25); (try clear c25b0); (try clear p26); (try clear q26); (try clear hx26); (try clear c28); (try clear p29); (try clear q29); (try clear hx29); (try clear p1); (try clear p11); (try clear p13); (try clear p16); (try clear p19)
          (try clear p2); (try clear p21); (try clear p23); (try clear p26); (try clear p29); (try clear p6); (try clear q1); (try clear q11); (try clear q13); (try clear q16); (try clear q19); (try clear q2); (try clear q21); (try clear q23); (try clear q26); (try clear q29); (try clear q6)
          obtain ⟨x1_1, x6_1, x8_1, rfl, rfl, rfl, HA, HK1, HB⟩ := hrel
          cases gk with
          | zero => exact absurd HA.out (by simp [numeral_exponent.l0])
          | succ k1 =>
           have H := HA.out
           clear HA
           simp only [numeral_exponent.l0] at H
           by_cases c31 : x1_1 < (a0.size : Int)
           ·
            rw [if_pos c31] at H
            have c31b0 : decide (x1_1 < (a0.size : Int)) = true := decide_eq_true c31
            clear c31
            by_cases c32 : 0 ≤ x1_1
            ·
             rw [if_pos c32] at H
             have c32b0 : decide (0 ≤ x1_1) = true := decide_eq_true c32
             clear c32
             replace H := Option.bind_eq_some_iff.mp H
             obtain ⟨t140, A340, H⟩ := H
             replace H : (if t140 = true then (numeral_exponent.l0 k1 a0 (wrap64 (x1_1 + 1)) (wrap64 (x1_1 + 1)) 1 (mn (wrap64 ((wrap64 (x8_1 * 10)) + (((bt a0 x1_1) - 48) % 256))) 1099511627776)) else (some (wrap64 (1 * x8_1), x6_1))) = some (r1, r2) := H
             have A34 := Aside0.mk A340
             clear A340
             by_cases c35 : t140 = true
             ·
              subst c35
              have H1 : (numeral_exponent.l0 k1 a0 (wrap64 (x1_1 + 1)) (wrap64 (x1_1 + 1)) 1 (mn (wrap64 ((wrap64 (x8_1 * 10)) + (((bt a0 x1_1) - 48) % 256))) 1099511627776)) = some (r1, r2) := by rw [if_pos rfl] at H; exact H
              clear H
              have H := H1
              clear H1
              obtain ⟨ji37, hji37⟩ : ∃ j_ : Int, (mn (wrap64 ((wrap64 (x8_1 * 10)) + (((bt a0 x1_1) - 48) % 256))) 1099511627776) = j_ := ⟨_, rfl⟩
              replace H : (numeral_exponent.l0 k1 a0 (wrap64 (x1_1 + 1)) (wrap64 (x1_1 + 1)) 1 ji37) = some (r1, r2) := by first | (rw [hji37] at H; exact H) | (simp only [hji37] at H ⊢; exact H)
              (try rw [hji37] at A34)
              have hji37_ : (if 1099511627776 < (wrap64 ((wrap64 (x8_1 * 10)) + (((bt a0 x1_1) - 48) % 256))) then 1099511627776 else (wrap64 ((wrap64 (x8_1 * 10)) + (((bt a0 x1_1) - 48) % 256)))) = ji37 := hji37
              have H' := Aside0.mk H
              clear H
              have p33 : 0 ≤ (x1_1 : Int) := of_decide_eq_true qnmo5_
              have q33 : x1_1 < (a0.size : Int) := of_decide_eq_true qnmo5_
              have hx33 := bt_at a0 x1_1
              replace p33 := eq_true p33
              replace q33 := eq_true q33
              go_wp2_with (first | (go_at_call 68; (with_reducible refine (numeral_digit.calls (bt a0 x1_1) true _ A34.out).mono ?_); rintro e w' ⟨rfl, ⟨nd, rfl⟩⟩; have p36 : 0 ≤ (x1_1 : Int) := of_decide_eq_true qnmo5_; have q36 : x1_1 < (a0.size : Int) := of_decide_eq_true qnmo5_; have hx36 := bt_at a0 x1_1; replace p36 := eq_true p36; replace q36 := eq_true q36))
              go_roundg k1
              case measure => have := HK1.out; omega
              case rel => exact ⟨(wrap64 (x1_1 + 1)), (wrap64 (x1_1 + 1)), (ji37), qnmo2_, qnmo2_, (by first | rfl | (simp; done) | (simp only [← hji37] <;> (first | rfl | simp); done) | (simp [*]; done) | (simp; simp only [eq_iff_iff, iff_true] at *; omega) | (exfalso; simp_all; done)), H', ⟨by have := HK1.out; omega⟩, ⟨qnmo1_⟩⟩
             ·
              replace c35 := Bool.eq_false_iff.mpr c35
              subst c35
              have H1 : (some (wrap64 (1 * x8_1), x6_1)) = some (r1, r2) := by rw [if_neg (show ¬ (false = true) by decide)] at H; exact H
              clear H
              have H := H1
              clear H1
              simp only [Option.some.injEq, Prod.mk.injEq] at H
              obtain ⟨rfl, rfl⟩ := H
              have p33 : 0 ≤ (x1_1 : Int) := of_decide_eq_true qnmo5_
              have q33 : x1_1 < (a0.size : Int) := of_decide_eq_true qnmo5_
              have hx33 := bt_at a0 x1_1
              replace p33 := eq_true p33
              replace q33 := eq_true q33
              go_wp2_with (first | (go_at_call 68; (with_reducible refine (numeral_digit.calls (bt a0 x1_1) false _ A34.out).mono ?_); rintro e w' ⟨rfl, ⟨nd, rfl⟩⟩))
              go_ret2
              exact ⟨qnmo30_, qnmo1_⟩
            ·
             rw [if_neg c32] at H
             exact absurd H (by simp)
           ·
            rw [if_neg c31] at H
            have c31b0 : decide (x1_1 < (a0.size : Int)) = false := decide_eq_false c31
            clear c31
            simp only [Option.some.injEq, Prod.mk.injEq] at H
            obtain ⟨rfl, rfl⟩ := H
            go_wp2
            go_ret2
            exact ⟨qnmo30_, qnmo1_⟩
      ·
       rw [if_neg c10] at H
       exact absurd H (by simp)
     ·
      rw [if_neg c8] at H
      have c8b0 : decide ((wrap64 (a1 + 1)) < (a0.size : Int)) = false := decide_eq_false c8
      clear c8
      have H' := Aside0.mk H
      clear H
      have p6 : 0 ≤ (a1 : Int) := of_decide_eq_true qnmo5_
      have q6 : a1 < (a0.size : Int) := of_decide_eq_true qnmo5_
      have hx6 := bt_at a0 a1
      replace p6 := eq_true p6
      replace q6 := eq_true q6
      go_enter Tryd.func37, Tryd.ntmps37
      go_wp2
      go_loopg [1, 6, 8] k (fun kq v1 v6 v8 w' => ∃ (x1_1 : Int) (x6_1 : Int) (x8_1 : Int), v1 = .int .i64 x1_1 ∧ v6 = .int .i64 x6_1 ∧ v8 = .int .i64 x8_1 ∧ Aside0 (numeral_exponent.l0 kq a0 x1_1 x6_1 1 x8_1 = some (r1, r2)) ∧ Aside0 (kq ≤ k) ∧ Aside0 (Below w.heap.size w w'))
      case atStart => exact ⟨(wrap64 (a1 + 1)), (a1), (0), qnmo2_, qnmo2_, qnmo2_, H', ⟨Nat.le_refl _⟩, ⟨qnmo1_⟩⟩
      case round =>
       clear H'
       (try clear c1); (try clear p1); (try clear q1); (try clear hx1); (try clear c2); (try clear p2); (try clear q2); (try clear hx2); (try clear c3); (try clear c3b0); (try clear c3b1); (try clear p3); (try clear q3); (try clear hx3); (try clear c4); (try clear c4b0); (try clear c5); (try clear c5b0); (try clear p6); (try clear q6); (try clear hx6); (try clear c7); (try clear c7b0); (try clear c7b1)
       (try clear c8); (try clear c8b0); (try clear c10); (try clear c10b0); (try clear p11); (try clear q11); (try clear hx11); (try clear c12); (try clear c12b0); (try clear c12b1); (try clear p13); (try clear q13); (try clear hx13); (try clear c14); (try clear c14b0); (try clear c15); (try clear c15b0); (try clear p16); (try clear q16); (try clear hx16); (try clear c18); (try clear p19); (try clear q19)
       (try clear hx19); (try clear p21); (try clear q21); (try clear hx21); (try clear c22); (try clear c22b0); (try clear c22b1); (try clear p23); (try clear q23); (try clear hx23); (try clear c24); (try clear c24b0); (try clear c25); (try clear c25b0); (try clear p26); (try clear q26); (try clear hx26); (try clear c28); (try clear p29); (try clear q29); (try clear hx29); (try clear c31); (try clear c31b0)
       (try clear c32); (try clear c32b0); (try clear p33); (try clear q33); (try clear hx33); (try clear c35); (try clear p36); (try clear q36); (try clear hx36); (try clear c37); (try clear p1); (try clear p11); (try clear p13); (try clear p16); (try clear p19); (try clear p2); (try clear p21); (try clear p23); (try clear p26); (try clear p29); (try clear p33); (try clear p36); (try clear p6); (try clear q1)
       (try clear q11); (try clear q13); (try clear q16); (try clear q19); (try clear q2); (try clear q21); (try clear q23); (try clear q26); (try clear q29); (try clear q33); (try clear q36); (try clear q6)
       obtain ⟨x1_1, x6_1, x8_1, rfl, rfl, rfl, HA, HK1, HB⟩ := hrel
       cases gk with
       | zero => exact absurd HA.out (by simp [numeral_exponent.l0])
       | succ k1 =>
        have H := HA.out
        clear HA
        simp only [numeral_exponent.l0] at H
        by_cases c38 : x1_1 < (a0.size : Int)
        ·
         rw [if_pos c38] at H
         have c38b0 : decide (x1_1 < (a0.size : Int)) = true := decide_eq_true c38
         clear c38
         by_cases c39 : 0 ≤ x1_1
         ·
          rw [if_pos c39] at H
          have c39b0 : decide (0 ≤ x1_1) = true := decide_eq_true c39
          clear c39
          replace H := Option.bind_eq_some_iff.mp H
          obtain ⟨t140, A410, H⟩ := H
          replace H : (if t140 = true then (numeral_exponent.l0 k1 a0 (wrap64 (x1_1 + 1)) (wrap64 (x1_1 + 1)) 1 (mn (wrap64 ((wrap64 (x8_1 * 10)) + (((bt a0 x1_1) - 48) % 256))) 1099511627776)) else (some (wrap64 (1 * x8_1), x6_1))) = some (r1, r2) := H
          have A41 := Aside0.mk A410
          clear A410
          by_cases c42 : t140 = true
          ·
           subst c42
           have H1 : (numeral_exponent.l0 k1 a0 (wrap64 (x1_1 + 1)) (wrap64 (x1_1 + 1)) 1 (mn (wrap64 ((wrap64 (x8_1 * 10)) + (((bt a0 x1_1) - 48) % 256))) 1099511627776)) = some (r1, r2) := by rw [if_pos rfl] at H; exact H
           clear H
           have H := H1
           clear H1
           obtain ⟨ji44, hji44⟩ : ∃ j_ : Int, (mn (wrap64 ((wrap64 (x8_1 * 10)) + (((bt a0 x1_1) - 48) % 256))) 1099511627776) = j_ := ⟨_, rfl⟩
           replace H : (numeral_exponent.l0 k1 a0 (wrap64 (x1_1 + 1)) (wrap64 (x1_1 + 1)) 1 ji44) = some (r1, r2) := by first | (rw [hji44] at H; exact H) | (simp only [hji44] at H ⊢; exact H)
           (try rw [hji44] at A41)
           have hji44_ : (if 1099511627776 < (wrap64 ((wrap64 (x8_1 * 10)) + (((bt a0 x1_1) - 48) % 256))) then 1099511627776 else (wrap64 ((wrap64 (x8_1 * 10)) + (((bt a0 x1_1) - 48) % 256)))) = ji44 := hji44
           have H' := Aside0.mk H
           clear H
           have p40 : 0 ≤ (x1_1 : Int) := of_decide_eq_true qnmo5_
           have q40 : x1_1 < (a0.size : Int) := of_decide_eq_true qnmo5_
           have hx40 := bt_at a0 x1_1
           replace p40 := eq_true p40
           replace q40 := eq_true q40
           go_wp2_with (first | (go_at_call 68; (with_reducible refine (numeral_digit.calls (bt a0 x1_1) true _ A41.out).mono ?_); rintro e w' ⟨rfl, ⟨nd, rfl⟩⟩; have p43 : 0 ≤ (x1_1 : Int) := of_decide_eq_true qnmo5_; have q43 : x1_1 < (a0.size : Int) := of_decide_eq_true qnmo5_; have hx43 := bt_at a0 x1_1; replace p43 := eq_true p43; replace q43 := eq_true q43))
           go_roundg k1
           case measure => have := HK1.out; omega
           case rel => exact ⟨(wrap64 (x1_1 + 1)), (wrap64 (x1_1 + 1)), (ji44), qnmo2_, qnmo2_, (by first | rfl | (simp; done) | (simp only [← hji44] <;> (first | rfl | simp); done) | (simp [*]; done) | (simp; simp only [eq_iff_iff, iff_true] at *; omega) | (exfalso; simp_all; done)), H', ⟨by have := HK1.out; omega⟩, ⟨qnmo1_⟩⟩
          ·
           replace c42 := Bool.eq_false_iff.mpr c42
           subst c42
           have H1 : (some (wrap64 (1 * x8_1), x6_1)) = some (r1, r2) := by rw [if_neg (show ¬ (false = true) by decide)] at H; exact H
           clear H
           have H := H1
           clear H1
           simp only [Option.some.injEq, Prod.mk.injEq] at H
           obtain ⟨rfl, rfl⟩ := H
           have p40 : 0 ≤ (x1_1 : Int) := of_decide_eq_true qnmo5_
           have q40 : x1_1 < (a0.size : Int) := of_decide_eq_true qnmo5_
           have hx40 := bt_at a0 x1_1
           replace p40 := eq_true p40
           replace q40 := eq_true q40
           go_wp2_with (first | (go_at_call 68; (with_reducible refine (numeral_digit.calls (bt a0 x1_1) false _ A41.out).mono ?_); rintro e w' ⟨rfl, ⟨nd, rfl⟩⟩))
           go_ret2
           exact ⟨qnmo10_, qnmo1_⟩
         ·
          rw [if_neg c39] at H
          exact absurd H (by simp)
        ·
         rw [if_neg c38] at H
         have c38b0 : decide (x1_1 < (a0.size : Int)) = false := decide_eq_false c38
         clear c38
         simp only [Option.some.injEq, Prod.mk.injEq] at H
         obtain ⟨rfl, rfl⟩ := H
         go_wp2
         go_ret2
         exact ⟨qnmo10_, qnmo1_⟩
    ·
     rw [if_neg c7] at H
     have c7b0 : ((Go.bits .or .u8 (bt a0 a1) 32) == 101) = false := beq_eq_false_iff_ne.mpr c7
     have c7b1 : ((Go.bits .or .u8 (bt a0 a1) 32) != 101) = true := bne_iff_ne.mpr c7
     simp only [Option.some.injEq, Prod.mk.injEq] at H
     obtain ⟨rfl, rfl⟩ := H
     have p6 : 0 ≤ (a1 : Int) := of_decide_eq_true qnmo5_
     have q6 : a1 < (a0.size : Int) := of_decide_eq_true qnmo5_
     have hx6 := bt_at a0 a1
     replace p6 := eq_true p6
     replace q6 := eq_true q6
     go_enter Tryd.func37, Tryd.ntmps37
     go_wp2
     go_ret2
     exact ⟨qnmo10_, qnmo1_⟩
   ·
    rw [if_neg c5] at H
    exact absurd H (by simp)
  ·
   rw [if_neg c4] at H
   exact absurd H (by simp)

end Go.Proofs.YtcdajedmlfhmeaaDoor.XN
