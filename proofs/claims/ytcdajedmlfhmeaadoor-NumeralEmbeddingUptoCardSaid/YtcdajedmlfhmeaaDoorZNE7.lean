import Derived.Test.YtcdajedmlfhmeaaDoorZNE0
import Derived.Test.YtcdajedmlfhmeaaDoorZNE1
import Derived.Test.YtcdajedmlfhmeaaDoorZNE2
import Derived.Test.YtcdajedmlfhmeaaDoorZNE4
namespace Go.Proofs.YtcdajedmlfhmeaaDoor.XN
open Go.RowKit Go.Proofs.YtcdajedmlfhmeaaDoorW.PrintWords Go.Proofs.YtcdajedmlfhmeaaDoorW.PrintLast Go.Proofs.YtcdajedmlfhmeaaDoorW.PrintMore
attribute [local go_sem] max2_int min2_int max_two min_two max_three min_three max_four min_four
set_option linter.unusedVariables false
set_option linter.unusedSimpArgs false

/-! ### numeral_pair: function 74 -/
mutual
def numeral_pair.j1 : Nat → ByteArray → Int → Option (ByteArray × ByteArray × ByteArray)
 | 0, _, _ => none
 | k + 1, x0, x5 => numeral_pair.l1 k x0 x5 x5
def numeral_pair.l1 : Nat → ByteArray → Int → Int → Option (ByteArray × ByteArray × ByteArray)
 | 0, _, _, _ => none
 | k + 1, x0, x5, x6 => if x6 < (x0.size : Int) then (if 0 ≤ x6 then ((numeral_digit.f (bt x0 x6)).bind fun t264 => (if t264 = true then (numeral_pair.l1 k x0 x5 (wrap64 (x6 + 1))) else (if 0 ≤ x5 then (if x5 ≤ (x0.size : Int) then (if x5 ≤ x6 then (if x6 ≤ (x0.size : Int) then (some (x0.extract 0 (x5 : Int).toNat, x0.extract (x5 : Int).toNat (x6 : Int).toNat, x0.extract (x6 : Int).toNat x0.size)) else (none)) else (none)) else (none)) else (none)))) else (none)) else (if 0 ≤ x5 then (if x5 ≤ (x0.size : Int) then (if x5 ≤ x6 then (if x6 ≤ (x0.size : Int) then (if 0 ≤ x6 then (some (x0.extract 0 (x5 : Int).toNat, x0.extract (x5 : Int).toNat (x6 : Int).toNat, x0.extract (x6 : Int).toNat x0.size)) else (none)) else (none)) else (none)) else (none)) else (none))
def numeral_pair.l0 : Nat → ByteArray → Int → Option (ByteArray × ByteArray × ByteArray)
 | 0, _, _ => none
 | k + 1, x0, x5 => if x5 < (x0.size : Int) then (if 0 ≤ x5 then ((numeral_digit.f (bt x0 x5)).bind fun t263 => (if t263 = true then (numeral_pair.j1 k x0 x5) else (numeral_pair.l0 k x0 (wrap64 (x5 + 1))))) else (none)) else (numeral_pair.j1 k x0 x5)
end
def numeral_pair.f (k : Nat) (a0 : ByteArray) : Option (ByteArray × ByteArray × ByteArray) := numeral_pair.l0 k a0 0
set_option maxHeartbeats 8000000 in
set_option maxRecDepth 100000 in
theorem numeral_pair.calls (k : Nat) (a0 : ByteArray) (r1 : ByteArray) (r2 : ByteArray) (r3 : ByteArray) (w : World) (h : numeral_pair.f k a0 = some (r1, r2, r3)) :
  Calls Tryd.prog 74 #[.string a0] w fun e w' => e = .returned (.tuple #[.string r1, .string r2, .string r3]) ∧ Drawn0 w w' := by
 have H : (numeral_pair.l0 k a0 0) = some (r1, r2, r3) := h
 clear h
 have HC2 := Aside0.mk H
 clear H
 go_enter Tryd.func74, Tryd.ntmps74
 go_upto_block 0 with (fail)
 repeat (go_quiet (fail); go_upto_block 0 with (fail))
 go_cut [5] (fun v5 wc => ∃ (kq : Nat) (x5_1 : Int), v5 = .int .i64 x5_1 ∧ Aside0 (numeral_pair.j1 kq a0 x5_1 = some (r1, r2, r3)) ∧ Aside0 (kq ≤ k) ∧ Drawn0 w wc)
 case first =>
  have H := HC2.out
  clear HC2
  have H' := Aside0.mk H
  clear H
  go_wp2
  repeat (go_quiet (fail); try go_wp2)
  go_loopg [5] k (fun kq v5 w' => ∃ (x5_1 : Int), v5 = .int .i64 x5_1 ∧ Aside0 (numeral_pair.l0 kq a0 x5_1 = some (r1, r2, r3)) ∧ Aside0 (kq ≤ k) ∧ Drawn0 w w')
  case atStart => exact ⟨(0), qne2_, H', ⟨Nat.le_refl _⟩, qne12_⟩
  case round =>
   clear H'
   (try clear p2)
   obtain ⟨x5_1, rfl, HA, HK1, ⟨m1, rfl⟩⟩ := hrel
   cases gk with
   | zero => exact absurd HA.out (by simp [numeral_pair.l0])
   | succ k1 =>
    have H := HA.out
    clear HA
    simp only [numeral_pair.l0] at H
    by_cases c3 : x5_1 < (a0.size : Int)
    ·
     rw [if_pos c3] at H
     have c3b0 : decide (x5_1 < (a0.size : Int)) = true := decide_eq_true c3
     clear c3
     (first | rw [c3b0] | (simp only [i64_w, i32_w]; rw [c3b0]) | skip)
     by_cases c4 : 0 ≤ x5_1
     ·
      rw [if_pos c4] at H
      have c4b0 : decide (0 ≤ x5_1) = true := decide_eq_true c4
      clear c4
      replace H := Option.bind_eq_some_iff.mp H
      obtain ⟨t263, A60, H⟩ := H
      replace H : (if t263 = true then (numeral_pair.j1 k1 a0 x5_1) else (numeral_pair.l0 k1 a0 (wrap64 (x5_1 + 1)))) = some (r1, r2, r3) := H
      have A6 := Aside0.mk A60
      clear A60
      by_cases c7 : t263 = true
      ·
       subst c7
       have H1 : (numeral_pair.j1 k1 a0 x5_1) = some (r1, r2, r3) := by rw [if_pos rfl] at H; exact H
       clear H
       have H := H1
       clear H1
       have H' := Aside0.mk H
       clear H
       have p5 : 0 ≤ (x5_1 : Int) := of_decide_eq_true qne3_
       have q5 : x5_1 < (a0.size : Int) := of_decide_eq_true qne3_
       have hx5 := bt_at a0 x5_1
       replace p5 := eq_true p5
       replace q5 := eq_true q5
       go_wp2_with (first | (go_at_call 68; (with_reducible refine (numeral_digit.calls (bt a0 x5_1) true _ A6.out).mono ?_); rintro e w' ⟨rfl, ⟨nd, rfl⟩⟩; (try first | exact ⟨rfl, _, World.drewN_drewN _ _ _⟩ | exact ⟨rfl, _, Eq.trans (World.drewN_drewN _ _ _) (congrArg (World.drewN _) (Nat.add_assoc _ _ _))⟩)))
       repeat (go_quiet (first | (go_at_call 68; (with_reducible refine (numeral_digit.calls (bt a0 x5_1) true _ A6.out).mono ?_); rintro e w' ⟨rfl, ⟨nd, rfl⟩⟩; (try first | exact ⟨rfl, _, World.drewN_drewN _ _ _⟩ | exact ⟨rfl, _, Eq.trans (World.drewN_drewN _ _ _) (congrArg (World.drewN _) (Nat.add_assoc _ _ _))⟩))); try go_wp2_with (first | (go_at_call 68; (with_reducible refine (numeral_digit.calls (bt a0 x5_1) true _ A6.out).mono ?_); rintro e w' ⟨rfl, ⟨nd, rfl⟩⟩; (try first | exact ⟨rfl, _, World.drewN_drewN _ _ _⟩ | exact ⟨rfl, _, Eq.trans (World.drewN_drewN _ _ _) (congrArg (World.drewN _) (Nat.add_assoc _ _ _))⟩))))
       go_meet
       case rel => exact ⟨_, (x5_1), qne2_, H', ⟨by have := HK1.out; first | omega | exact Nat.le_refl _⟩, qne12_⟩
      ·
       replace c7 := Bool.eq_false_iff.mpr c7
       subst c7
       have H1 : (numeral_pair.l0 k1 a0 (wrap64 (x5_1 + 1))) = some (r1, r2, r3) := by rw [if_neg (show ¬ (false = true) by decide)] at H; exact H
       clear H
       have H := H1
       clear H1
       have H' := Aside0.mk H
       clear H
       have p5 : 0 ≤ (x5_1 : Int) := of_decide_eq_true qne3_
       have q5 : x5_1 < (a0.size : Int) := of_decide_eq_true qne3_
       have hx5 := bt_at a0 x5_1
       replace p5 := eq_true p5
       replace q5 := eq_true q5
       go_wp2_with (first | (go_at_call 68; (with_reducible refine (numeral_digit.calls (bt a0 x5_1) false _ A6.out).mono ?_); rintro e w' ⟨rfl, ⟨nd, rfl⟩⟩; (try first | exact ⟨rfl, _, World.drewN_drewN _ _ _⟩ | exact ⟨rfl, _, Eq.trans (World.drewN_drewN _ _ _) (congrArg (World.drewN _) (Nat.add_assoc _ _ _))⟩)))
       repeat (go_quiet (first | (go_at_call 68; (with_reducible refine (numeral_digit.calls (bt a0 x5_1) false _ A6.out).mono ?_); rintro e w' ⟨rfl, ⟨nd, rfl⟩⟩; (try first | exact ⟨rfl, _, World.drewN_drewN _ _ _⟩ | exact ⟨rfl, _, Eq.trans (World.drewN_drewN _ _ _) (congrArg (World.drewN _) (Nat.add_assoc _ _ _))⟩))); try go_wp2_with (first | (go_at_call 68; (with_reducible refine (numeral_digit.calls (bt a0 x5_1) false _ A6.out).mono ?_); rintro e w' ⟨rfl, ⟨nd, rfl⟩⟩; (try first | exact ⟨rfl, _, World.drewN_drewN _ _ _⟩ | exact ⟨rfl, _, Eq.trans (World.drewN_drewN _ _ _) (congrArg (World.drewN _) (Nat.add_assoc _ _ _))⟩))))
       go_roundg k1
       case measure => have := HK1.out; omega
       case rel => exact ⟨(wrap64 (x5_1 + 1)), qne2_, H', ⟨by have := HK1.out; omega⟩, qne12_⟩
     ·
      rw [if_neg c4] at H
      exact absurd H (by simp)
    ·
     rw [if_neg c3] at H
     have c3b0 : decide (x5_1 < (a0.size : Int)) = false := decide_eq_false c3
     clear c3
     (first | rw [c3b0] | (simp only [i64_w, i32_w]; rw [c3b0]) | skip)
     have H' := Aside0.mk H
     clear H
     go_wp2
     repeat (go_quiet (fail); try go_wp2)
     go_meet
     case rel => exact ⟨_, (x5_1), qne2_, H', ⟨by have := HK1.out; first | omega | exact Nat.le_refl _⟩, qne12_⟩
 case rest =>
  clear HC2
  (try clear p2); (try clear c3); (try clear c3b0); (try clear c4); (try clear c4b0); (try clear p5); (try clear q5); (try clear hx5); (try clear p6); (try clear c7); (try clear p2); (try clear p5); (try clear q5)
  obtain ⟨kq, x5_1, rfl, HA, HJ1, ⟨mc1, rfl⟩⟩ := hcut
  cases kq with
  | zero => exact absurd HA.out (by simp [numeral_pair.j1])
  | succ kj1 =>
   have H := HA.out
   clear HA
   simp only [numeral_pair.j1] at H
   have H' := Aside0.mk H
   clear H
   go_wp2
   repeat (go_quiet (fail); try go_wp2)
   go_loopg [6] kj1 (fun kq v6 w' => ∃ (x6_2 : Int), v6 = .int .i64 x6_2 ∧ Aside0 (numeral_pair.l1 kq a0 x5_1 x6_2 = some (r1, r2, r3)) ∧ Aside0 (kq ≤ kj1) ∧ Drawn0 w w')
   case atStart => exact ⟨(x5_1), qne2_, H', ⟨Nat.le_refl _⟩, qne12_⟩
   case round =>
    clear H'
    (try clear c1); (try clear p2); (try clear c3); (try clear c3b0); (try clear c4); (try clear c4b0); (try clear p5); (try clear q5); (try clear hx5); (try clear p6); (try clear c7); (try clear p2); (try clear p5); (try clear p6); (try clear q5)
    obtain ⟨x6_2, rfl, HA, HK2, ⟨m2, rfl⟩⟩ := hrel
    cases gk with
    | zero => exact absurd HA.out (by simp [numeral_pair.l1])
    | succ k2 =>
     have H := HA.out
     clear HA
     simp only [numeral_pair.l1] at H
     by_cases c8 : x6_2 < (a0.size : Int)
     ·
      rw [if_pos c8] at H
      have c8b0 : decide (x6_2 < (a0.size : Int)) = true := decide_eq_true c8
      clear c8
      by_cases c9 : 0 ≤ x6_2
      ·
       rw [if_pos c9] at H
       have c9b0 : decide (0 ≤ x6_2) = true := decide_eq_true c9
       clear c9
       replace H := Option.bind_eq_some_iff.mp H
       obtain ⟨t264, A110, H⟩ := H
       replace H : (if t264 = true then (numeral_pair.l1 k2 a0 x5_1 (wrap64 (x6_2 + 1))) else (if 0 ≤ x5_1 then (if x5_1 ≤ (a0.size : Int) then (if x5_1 ≤ x6_2 then (if x6_2 ≤ (a0.size : Int) then (some (a0.extract 0 (x5_1 : Int).toNat, a0.extract (x5_1 : Int).toNat (x6_2 : Int).toNat, a0.extract (x6_2 : Int).toNat a0.size)) else (none)) else (none)) else (none)) else (none))) = some (r1, r2, r3) := H
       have A11 := Aside0.mk A110
       clear A110
       by_cases c12 : t264 = true
       ·
        subst c12
        have H1 : (numeral_pair.l1 k2 a0 x5_1 (wrap64 (x6_2 + 1))) = some (r1, r2, r3) := by rw [if_pos rfl] at H; exact H
        clear H
        have H := H1
        clear H1
        have H' := Aside0.mk H
        clear H
        have p10 : 0 ≤ (x6_2 : Int) := of_decide_eq_true qne3_
        have q10 : x6_2 < (a0.size : Int) := of_decide_eq_true qne3_
        have hx10 := bt_at a0 x6_2
        replace p10 := eq_true p10
        replace q10 := eq_true q10
        go_wp2_with (first | (go_at_call 68; (with_reducible refine (numeral_digit.calls (bt a0 x6_2) true _ A11.out).mono ?_); rintro e w' ⟨rfl, ⟨nd, rfl⟩⟩; (try first | exact ⟨rfl, _, World.drewN_drewN _ _ _⟩ | exact ⟨rfl, _, Eq.trans (World.drewN_drewN _ _ _) (congrArg (World.drewN _) (Nat.add_assoc _ _ _))⟩)))
        repeat (go_quiet (first | (go_at_call 68; (with_reducible refine (numeral_digit.calls (bt a0 x6_2) true _ A11.out).mono ?_); rintro e w' ⟨rfl, ⟨nd, rfl⟩⟩; (try first | exact ⟨rfl, _, World.drewN_drewN _ _ _⟩ | exact ⟨rfl, _, Eq.trans (World.drewN_drewN _ _ _) (congrArg (World.drewN _) (Nat.add_assoc _ _ _))⟩))); try go_wp2_with (first | (go_at_call 68; (with_reducible refine (numeral_digit.calls (bt a0 x6_2) true _ A11.out).mono ?_); rintro e w' ⟨rfl, ⟨nd, rfl⟩⟩; (try first | exact ⟨rfl, _, World.drewN_drewN _ _ _⟩ | exact ⟨rfl, _, Eq.trans (World.drewN_drewN _ _ _) (congrArg (World.drewN _) (Nat.add_assoc _ _ _))⟩))))
        go_roundg k2
        case measure => have := HJ1.out; have := HK2.out; omega
        case rel => exact ⟨(wrap64 (x6_2 + 1)), qne2_, H', ⟨by have := HJ1.out; have := HK2.out; omega⟩, qne12_⟩
       ·
        replace c12 := Bool.eq_false_iff.mpr c12
        subst c12
        have H1 : (if 0 ≤ x5_1 then (if x5_1 ≤ (a0.size : Int) then (if x5_1 ≤ x6_2 then (if x6_2 ≤ (a0.size : Int) then (some (a0.extract 0 (x5_1 : Int).toNat, a0.extract (x5_1 : Int).toNat (x6_2 : Int).toNat, a0.extract (x6_2 : Int).toNat a0.size)) else (none)) else (none)) else (none)) else (none)) = some (r1, r2, r3) := by rw [if_neg (show ¬ (false = true) by decide)] at H; exact H
        clear H
        have H := H1
        clear H1
        by_cases c13 : 0 ≤ x5_1
        ·
         rw [if_pos c13] at H
         have c13b0 := eq_true c13
         have c13b1 : decide (0 ≤ x5_1) = true := decide_eq_true c13
         clear c13
         by_cases c14 : x5_1 ≤ (a0.size : Int)
         ·
          rw [if_pos c14] at H
          have c14b0 := eq_true c14
          have c14b1 : decide (x5_1 ≤ (a0.size : Int)) = true := decide_eq_true c14
          clear c14
          have c15b0 := eq_true (of_decide_eq_true qne3_ : 0 ≤ x5_1)
          by_cases c16 : x5_1 ≤ x6_2
          ·
           rw [if_pos c16] at H
           have c16b0 := eq_true c16
           have c16b1 : decide (x5_1 ≤ x6_2) = true := decide_eq_true c16
           clear c16
           by_cases c17 : x6_2 ≤ (a0.size : Int)
           ·
            rw [if_pos c17] at H
            have c17b0 := eq_true c17
            have c17b1 : decide (x6_2 ≤ (a0.size : Int)) = true := decide_eq_true c17
            clear c17
            have c18b0 := eq_true (of_decide_eq_true qne3_ : 0 ≤ x6_2)
            have c19b0 := eq_true (of_decide_eq_true qne3_ : x6_2 ≤ (a0.size : Int))
            simp only [Option.some.injEq, Prod.mk.injEq] at H
            obtain ⟨rfl, rfl, rfl⟩ := H
            have p10 : 0 ≤ (x6_2 : Int) := of_decide_eq_true qne3_
            have q10 : x6_2 < (a0.size : Int) := of_decide_eq_true qne3_
            have hx10 := bt_at a0 x6_2
            replace p10 := eq_true p10
            replace q10 := eq_true q10
            go_wp2_with (first | (go_at_call 68; (with_reducible refine (numeral_digit.calls (bt a0 x6_2) false _ A11.out).mono ?_); rintro e w' ⟨rfl, ⟨nd, rfl⟩⟩; (try first | exact ⟨rfl, _, World.drewN_drewN _ _ _⟩ | exact ⟨rfl, _, Eq.trans (World.drewN_drewN _ _ _) (congrArg (World.drewN _) (Nat.add_assoc _ _ _))⟩)))
            repeat (go_quiet (first | (go_at_call 68; (with_reducible refine (numeral_digit.calls (bt a0 x6_2) false _ A11.out).mono ?_); rintro e w' ⟨rfl, ⟨nd, rfl⟩⟩; (try first | exact ⟨rfl, _, World.drewN_drewN _ _ _⟩ | exact ⟨rfl, _, Eq.trans (World.drewN_drewN _ _ _) (congrArg (World.drewN _) (Nat.add_assoc _ _ _))⟩))); try go_wp2_with (first | (go_at_call 68; (with_reducible refine (numeral_digit.calls (bt a0 x6_2) false _ A11.out).mono ?_); rintro e w' ⟨rfl, ⟨nd, rfl⟩⟩; (try first | exact ⟨rfl, _, World.drewN_drewN _ _ _⟩ | exact ⟨rfl, _, Eq.trans (World.drewN_drewN _ _ _) (congrArg (World.drewN _) (Nat.add_assoc _ _ _))⟩))))
            go_ret3
            exact ⟨qne2_, qne12_⟩
           ·
            rw [if_neg c17] at H
            exact absurd H (by simp)
          ·
           rw [if_neg c16] at H
           exact absurd H (by simp)
         ·
          rw [if_neg c14] at H
          exact absurd H (by simp)
        ·
         rw [if_neg c13] at H
         exact absurd H (by simp)
      ·
       rw [if_neg c9] at H
       exact absurd H (by simp)
     ·
      rw [if_neg c8] at H
      have c8b0 : decide (x6_2 < (a0.size : Int)) = false := decide_eq_false c8
      clear c8
      by_cases c20 : 0 ≤ x5_1
      ·
       rw [if_pos c20] at H
       have c20b0 := eq_true c20
       have c20b1 : decide (0 ≤ x5_1) = true := decide_eq_true c20
       clear c20
       by_cases c21 : x5_1 ≤ (a0.size : Int)
       ·
        rw [if_pos c21] at H
        have c21b0 := eq_true c21
        have c21b1 : decide (x5_1 ≤ (a0.size : Int)) = true := decide_eq_true c21
        clear c21
        have c22b0 := eq_true (of_decide_eq_true qne3_ : 0 ≤ x5_1)
        by_cases c23 : x5_1 ≤ x6_2
        ·
         rw [if_pos c23] at H
         have c23b0 := eq_true c23
         have c23b1 : decide (x5_1 ≤ x6_2) = true := decide_eq_true c23
         clear c23
         by_cases c24 : x6_2 ≤ (a0.size : Int)
         ·
          rw [if_pos c24] at H
          have c24b0 := eq_true c24
          have c24b1 : decide (x6_2 ≤ (a0.size : Int)) = true := decide_eq_true c24
          clear c24
          by_cases c25 : 0 ≤ x6_2
          ·
           rw [if_pos c25] at H
           have c25b0 := eq_true c25
           have c25b1 : decide (0 ≤ x6_2) = true := decide_eq_true c25
           clear c25
           have c26b0 := eq_true (of_decide_eq_true qne3_ : x6_2 ≤ (a0.size : Int))
           simp only [Option.some.injEq, Prod.mk.injEq] at H
           obtain ⟨rfl, rfl, rfl⟩ := H
           go_wp2
           repeat (go_quiet (fail); try go_wp2)
           go_ret3
           exact ⟨qne2_, qne12_⟩
          ·
           rw [if_neg c25] at H
           exact absurd H (by simp)
         ·
          rw [if_neg c24] at H
          exact absurd H (by simp)
        ·
         rw [if_neg c23] at H
         exact absurd H (by simp)
       ·
        rw [if_neg c21] at H
        exact absurd H (by simp)
      ·
       rw [if_neg c20] at H
       exact absurd H (by simp)


/-! ### numeral_rank: function 84 (by hand) -/
/-- The place of a byte that has no rank of its own, the first k groups taken off. -/
def rankR (c : Int) (k : Nat) : Int := c + 55 - (if 0 < k ∧ 57 < c then 10 else 0) - (if 1 < k ∧ 90 < c then 26 else 0) - (if 2 < k ∧ 122 < c then 26 else 0) - (if 3 < k ∧ 126 < c then 1 else 0)
def rankF (c : Int) : Int := if c = 126 then 1 else if 65 ≤ c ∧ c ≤ 90 then c - 62 else if 97 ≤ c ∧ c ≤ 122 then c - 68 else rankR c 4
def numeral_rank.f (a0 : Int) : Option Int := if 0 ≤ a0 ∧ a0 ≤ 255 then some (rankF a0) else none
theorem numeral_rank_ret {a b : Int} (h : a = b) : Ending.returned (.int .u8 a) = .returned (.int .u8 b) := by rw [h]
def rankCells : Array Value := #[.int .u8 57, .int .i64 10, .int .u8 90, .int .i64 26, .int .u8 122, .int .i64 26, .int .u8 126, .int .i64 1]
set_option maxRecDepth 100000 in
set_option maxHeartbeats 4000000 in
theorem numeral_rank.calls (a0 : Int) (r : Int) (w : World) (hGL : GOK w) (h : numeral_rank.f a0 = some r) :
    Calls Tryd.prog 84 #[.int .u8 a0] w fun e w' => e = .returned (.int .u8 r) ∧ Below w.heap.size w w' := by
  unfold numeral_rank.f at h
  split at h
  · rename_i hh
    obtain ⟨h0, h1⟩ := hh
    have HR := Aside0.mk (Option.some.inj h)
    clear h
    obtain ⟨fr, hfr⟩ := hGL.g2
    have HG := Aside0.mk (show w.heap[2]? = some (.cells rankCells 116 fr) from hfr)
    have HB := Aside0.mk (Below.refl w.heap.size w)
    clear hGL hfr
    by_cases e1 : a0 = 126
    · subst e1
      go_enter Tryd.func84, Tryd.ntmps84
      go_wp2
      go_ret
      exact ⟨numeral_rank_ret (by rw [← HR.out]; rfl), HB.out⟩
    · have b1 : (a0 == 126) = false := by simpa using e1
      have E1 := Aside0.mk e1
      clear e1
      by_cases e2 : 65 ≤ a0 ∧ a0 ≤ 90
      · obtain ⟨e2, e3⟩ := e2
        go_enter Tryd.func84, Tryd.ntmps84
        go_wp2
        go_ret
        exact ⟨numeral_rank_ret (by rw [← HR.out]; unfold rankF; rw [if_neg E1.out, if_pos ⟨e2, e3⟩]; omega), HB.out⟩
      · by_cases e4 : 97 ≤ a0 ∧ a0 ≤ 122
        · obtain ⟨e4, e5⟩ := e4
          have n2 : ¬ a0 ≤ 90 := by omega
          have n1 : 65 ≤ a0 := by omega
          go_enter Tryd.func84, Tryd.ntmps84
          go_wp2
          go_ret
          exact ⟨numeral_rank_ret (by rw [← HR.out]; unfold rankF; rw [if_neg E1.out, if_neg e2, if_pos ⟨e4, e5⟩]; omega), HB.out⟩
        · have HF := Aside0.mk (show r = rankR a0 4 from by rw [← HR.out]; unfold rankF; rw [if_neg E1.out, if_neg e2, if_neg e4])
          have hi0 : ∀ W : World, (Instr.index 116 (.agg rankCells) (.int .i64 0)).run Tryd.prog W = .ok (.agg #[.int .u8 57, .int .i64 10]) W := fun _ => by kernel_rfl
          have hi1 : ∀ W : World, (Instr.index 116 (.agg rankCells) (.int .i64 1)).run Tryd.prog W = .ok (.agg #[.int .u8 90, .int .i64 26]) W := fun _ => by kernel_rfl
          have hi2 : ∀ W : World, (Instr.index 116 (.agg rankCells) (.int .i64 2)).run Tryd.prog W = .ok (.agg #[.int .u8 122, .int .i64 26]) W := fun _ => by kernel_rfl
          have hi3 : ∀ W : World, (Instr.index 116 (.agg rankCells) (.int .i64 3)).run Tryd.prog W = .ok (.agg #[.int .u8 126, .int .i64 1]) W := fun _ => by kernel_rfl
          have hu1 := Tryd.underlying116
          have hu2 := Tryd.underlying115
          have hcs : (65 ≤ a0 → ¬ a0 ≤ 90) ∧ (97 ≤ a0 → ¬ a0 ≤ 122) := by omega
          have HCS := Aside0.mk hcs
          clear hcs e2 e4
          by_cases n1 : 65 ≤ a0
          all_goals by_cases n2 : 97 ≤ a0
          all_goals first
            | (exfalso; omega)
            | skip
          all_goals (try have n3 : 90 < a0 := by have := HCS.out; omega)
          all_goals (try have n4 : 122 < a0 := by have := HCS.out; omega)
          all_goals (try have d90 : decide (a0 ≤ 90) = false := decide_eq_false (by have := HCS.out; omega))
          all_goals (try have d122 : decide (a0 ≤ 122) = false := decide_eq_false (by have := HCS.out; omega))
          all_goals
            go_enter Tryd.func84, Tryd.ntmps84
            go_wp2_with (refine wpList_load_row rfl 116 _ rfl 2 rfl _ rankCells fr _ HG.out hu1 rfl (by kernel_rfl) ?_)
            go_loopw [3, 33] (fun v3 v33 wr => ∃ (j x : Int), v33 = .int .i64 j ∧ v3 = .int .i64 x ∧ Aside0 (x = rankR a0 j.toNat ∧ 0 ≤ j ∧ j ≤ 4) ∧ 0 ≤ x ∧ x ≤ 400 ∧ Aside0 (Below w.heap.size w wr)) (fun _ v33 _ => 4 - (intOf v33).toNat)
            case atStart => exact ⟨0, a0 + 55, rfl, rfl, ⟨by simp [rankR], by omega, by omega⟩, by omega, by omega, HB⟩
            case round =>
            clear HB
            obtain ⟨j, x, rfl, rfl, hx, hx0, hx1, HB⟩ := hrel
            rcases (by have := hx.out; omega : j = 0 ∨ j = 1 ∨ j = 2 ∨ j = 3 ∨ j = 4) with rfl | rfl | rfl | rfl | rfl
            · by_cases hgt : 57 < a0
              · first
                | (exfalso; omega)
                | (have hge : decide (57 < a0) = true := decide_eq_true hgt
                   go_wp2
                   go_roundw
                   case rel => exact ⟨1, x - 10, rfl, (by first | rfl | (simp; omega)), ⟨by rw [hx.out.1]; simp [rankR]; omega, by omega, by omega⟩, by have := hx.out.1; simp [rankR] at this; omega, by omega, ⟨qne27_⟩⟩
                   case measure => simp [intOf])
              · first
                | (exfalso; omega)
                | (have hge : decide (57 < a0) = false := decide_eq_false hgt
                   go_wp2
                   go_roundw
                   case rel => exact ⟨1, x, rfl, rfl, ⟨by rw [hx.out.1]; simp [rankR]; omega, by omega, by omega⟩, by have := hx.out.1; simp [rankR] at this; omega, by omega, ⟨qne27_⟩⟩
                   case measure => simp [intOf])
            · by_cases hgt : 90 < a0
              · first
                | (exfalso; omega)
                | (have hge : decide (90 < a0) = true := decide_eq_true hgt
                   go_wp2
                   go_roundw
                   case rel => exact ⟨2, x - 26, rfl, (by first | rfl | (simp; omega)), ⟨by rw [hx.out.1]; simp [rankR]; omega, by omega, by omega⟩, by have := hx.out.1; simp [rankR] at this; omega, by omega, ⟨qne27_⟩⟩
                   case measure => simp [intOf])
              · first
                | (exfalso; omega)
                | (have hge : decide (90 < a0) = false := decide_eq_false hgt
                   go_wp2
                   go_roundw
                   case rel => exact ⟨2, x, rfl, rfl, ⟨by rw [hx.out.1]; simp [rankR]; omega, by omega, by omega⟩, by have := hx.out.1; simp [rankR] at this; omega, by omega, ⟨qne27_⟩⟩
                   case measure => simp [intOf])
            · by_cases hgt : 122 < a0
              · first
                | (exfalso; omega)
                | (have hge : decide (122 < a0) = true := decide_eq_true hgt
                   go_wp2
                   go_roundw
                   case rel => exact ⟨3, x - 26, rfl, (by first | rfl | (simp; omega)), ⟨by rw [hx.out.1]; simp [rankR]; omega, by omega, by omega⟩, by have := hx.out.1; simp [rankR] at this; omega, by omega, ⟨qne27_⟩⟩
                   case measure => simp [intOf])
              · first
                | (exfalso; omega)
                | (have hge : decide (122 < a0) = false := decide_eq_false hgt
                   go_wp2
                   go_roundw
                   case rel => exact ⟨3, x, rfl, rfl, ⟨by rw [hx.out.1]; simp [rankR]; omega, by omega, by omega⟩, by have := hx.out.1; simp [rankR] at this; omega, by omega, ⟨qne27_⟩⟩
                   case measure => simp [intOf])
            · by_cases hgt : 126 < a0
              · first
                | (exfalso; omega)
                | (have hge : decide (126 < a0) = true := decide_eq_true hgt
                   go_wp2
                   go_roundw
                   case rel => exact ⟨4, x - 1, rfl, (by first | rfl | (simp; omega)), ⟨by rw [hx.out.1]; simp [rankR]; omega, by omega, by omega⟩, by have := hx.out.1; simp [rankR] at this; omega, by omega, ⟨qne27_⟩⟩
                   case measure => simp [intOf])
              · first
                | (exfalso; omega)
                | (have hge : decide (126 < a0) = false := decide_eq_false hgt
                   go_wp2
                   go_roundw
                   case rel => exact ⟨4, x, rfl, rfl, ⟨by rw [hx.out.1]; simp [rankR]; omega, by omega, by omega⟩, by have := hx.out.1; simp [rankR] at this; omega, by omega, ⟨qne27_⟩⟩
                   case measure => simp [intOf])
            · go_wp2
              go_ret
              exact ⟨numeral_rank_ret (by rw [HF.out, hx.out.1]; simp [rankR]; omega), HB.out⟩
  · cases h


/-! ### cmp_isNaN_byte: function 106 -/
def cmp_isNaN_byte.f (a0 : Int) : Option (Bool) := some (a0 != a0)
set_option maxHeartbeats 8000000 in
set_option maxRecDepth 100000 in
theorem cmp_isNaN_byte.calls (a0 : Int) (r : Bool) (w : World) (h : cmp_isNaN_byte.f a0 = some r) :
  Calls Tryd.prog 106 #[.int .u8 a0] w fun e w' => e = .returned (.bool r) ∧ Drawn0 w w' := by
 have H : (some (a0 != a0)) = some r := h
 clear h
 obtain rfl := Option.some.inj H
 go_enter Tryd.func106, Tryd.ntmps106
 go_wp2
 go_ret
 exact ⟨qne2_, qne12_⟩


/-! ### cmp_Compare_byte: function 97 -/
def cmp_Compare_byte.f (a0 : Int) (a1 : Int) : Option (Int) := (cmp_isNaN_byte.f a0).bind fun t265 => ((cmp_isNaN_byte.f a1).bind fun t266 => (if t265 = true then (if t266 = true then (some 0) else (some (-1))) else (if t266 = true then (some 1) else (if a0 < a1 then (some (-1)) else (if a0 > a1 then (some 1) else (some 0))))))
set_option maxHeartbeats 8000000 in
set_option maxRecDepth 100000 in
theorem cmp_Compare_byte.calls (a0 : Int) (a1 : Int) (r : Int) (w : World) (h : cmp_Compare_byte.f a0 a1 = some r) :
  Calls Tryd.prog 97 #[.int .u8 a0, .int .u8 a1] w fun e w' => e = .returned (.int .i64 r) ∧ Drawn0 w w' := by
 have H : ((cmp_isNaN_byte.f a0).bind fun t265 => ((cmp_isNaN_byte.f a1).bind fun t266 => (if t265 = true then (if t266 = true then (some 0) else (some (-1))) else (if t266 = true then (some 1) else (if a0 < a1 then (some (-1)) else (if a0 > a1 then (some 1) else (some 0))))))) = some r := h
 clear h
 replace H := Option.bind_eq_some_iff.mp H
 obtain ⟨t265, A30, H⟩ := H
 replace H : ((cmp_isNaN_byte.f a1).bind fun t266 => (if t265 = true then (if t266 = true then (some 0) else (some (-1))) else (if t266 = true then (some 1) else (if a0 < a1 then (some (-1)) else (if a0 > a1 then (some 1) else (some 0)))))) = some r := H
 have A3 := Aside0.mk A30
 clear A30
 replace H := Option.bind_eq_some_iff.mp H
 obtain ⟨t266, A40, H⟩ := H
 replace H : (if t265 = true then (if t266 = true then (some 0) else (some (-1))) else (if t266 = true then (some 1) else (if a0 < a1 then (some (-1)) else (if a0 > a1 then (some 1) else (some 0))))) = some r := H
 have A4 := Aside0.mk A40
 clear A40
 by_cases c5 : t265 = true
 ·
  subst c5
  have H1 : (if t266 = true then (some 0) else (some (-1))) = some r := by rw [if_pos rfl] at H; exact H
  clear H
  have H := H1
  clear H1
  by_cases c6 : t266 = true
  ·
   subst c6
   have H1 : (some 0) = some r := by rw [if_pos rfl] at H; exact H
   clear H
   have H := H1
   clear H1
   obtain rfl := Option.some.inj H
   go_enter Tryd.func97, Tryd.ntmps97
   have tk7 : True := trivial; have tk8 : True := trivial
   go_wp2_with (first | (have ztk7 := tk7; clear tk7 ztk7; (with_reducible refine gate_callee (f := 106) rfl ?_); refine goesL_ (some 8) rfl rfl Tryd.func106 (by kernel_rfl) rfl #[.int .u8 a0] rfl qne1_ ?_; (with_reducible refine (cmp_isNaN_byte.calls a0 true _ A3.out).mono ?_); rintro e w' ⟨rfl, ⟨nd, rfl⟩⟩; refine ⟨_, rfl, ?_⟩) | (have ztk8 := tk8; clear tk8 ztk8; (with_reducible refine gate_callee (f := 106) rfl ?_); refine goesL_ (some 10) rfl rfl Tryd.func106 (by kernel_rfl) rfl #[.int .u8 a1] rfl qne1_ ?_; (with_reducible refine (cmp_isNaN_byte.calls a1 true _ A4.out).mono ?_); rintro e w' ⟨rfl, ⟨nd, rfl⟩⟩; refine ⟨_, rfl, ?_⟩))
   go_ret
   exact ⟨qne2_, qne12_⟩
  ·
   replace c6 := Bool.eq_false_iff.mpr c6
   subst c6
   have H1 : (some (-1)) = some r := by rw [if_neg (show ¬ (false = true) by decide)] at H; exact H
   clear H
   have H := H1
   clear H1
   obtain rfl := Option.some.inj H
   go_enter Tryd.func97, Tryd.ntmps97
   have tk9 : True := trivial; have tk10 : True := trivial
   go_wp2_with (first | (have ztk9 := tk9; clear tk9 ztk9; (with_reducible refine gate_callee (f := 106) rfl ?_); refine goesL_ (some 8) rfl rfl Tryd.func106 (by kernel_rfl) rfl #[.int .u8 a0] rfl qne1_ ?_; (with_reducible refine (cmp_isNaN_byte.calls a0 true _ A3.out).mono ?_); rintro e w' ⟨rfl, ⟨nd, rfl⟩⟩; refine ⟨_, rfl, ?_⟩) | (have ztk10 := tk10; clear tk10 ztk10; (with_reducible refine gate_callee (f := 106) rfl ?_); refine goesL_ (some 10) rfl rfl Tryd.func106 (by kernel_rfl) rfl #[.int .u8 a1] rfl qne1_ ?_; (with_reducible refine (cmp_isNaN_byte.calls a1 false _ A4.out).mono ?_); rintro e w' ⟨rfl, ⟨nd, rfl⟩⟩; refine ⟨_, rfl, ?_⟩))
   go_ret
   exact ⟨qne2_, qne12_⟩
 ·
  replace c5 := Bool.eq_false_iff.mpr c5
  subst c5
  have H1 : (if t266 = true then (some 1) else (if a0 < a1 then (some (-1)) else (if a0 > a1 then (some 1) else (some 0)))) = some r := by rw [if_neg (show ¬ (false = true) by decide)] at H; exact H
  clear H
  have H := H1
  clear H1
  by_cases c11 : t266 = true
  ·
   subst c11
   have H1 : (some 1) = some r := by rw [if_pos rfl] at H; exact H
   clear H
   have H := H1
   clear H1
   obtain rfl := Option.some.inj H
   go_enter Tryd.func97, Tryd.ntmps97
   have tk12 : True := trivial; have tk13 : True := trivial
   go_wp2_with (first | (have ztk12 := tk12; clear tk12 ztk12; (with_reducible refine gate_callee (f := 106) rfl ?_); refine goesL_ (some 8) rfl rfl Tryd.func106 (by kernel_rfl) rfl #[.int .u8 a0] rfl qne1_ ?_; (with_reducible refine (cmp_isNaN_byte.calls a0 false _ A3.out).mono ?_); rintro e w' ⟨rfl, ⟨nd, rfl⟩⟩; refine ⟨_, rfl, ?_⟩) | (have ztk13 := tk13; clear tk13 ztk13; (with_reducible refine gate_callee (f := 106) rfl ?_); refine goesL_ (some 10) rfl rfl Tryd.func106 (by kernel_rfl) rfl #[.int .u8 a1] rfl qne1_ ?_; (with_reducible refine (cmp_isNaN_byte.calls a1 true _ A4.out).mono ?_); rintro e w' ⟨rfl, ⟨nd, rfl⟩⟩; refine ⟨_, rfl, ?_⟩))
   go_ret
   exact ⟨qne2_, qne12_⟩
  ·
   replace c11 := Bool.eq_false_iff.mpr c11
   subst c11
   have H1 : (if a0 < a1 then (some (-1)) else (if a0 > a1 then (some 1) else (some 0))) = some r := by rw [if_neg (show ¬ (false = true) by decide)] at H; exact H
   clear H
   have H := H1
   clear H1
   by_cases c14 : a0 < a1
   ·
    rw [if_pos c14] at H
    have c14b0 : decide (a0 < a1) = true := decide_eq_true c14
    clear c14
    obtain rfl := Option.some.inj H
    go_enter Tryd.func97, Tryd.ntmps97
    have tk15 : True := trivial; have tk16 : True := trivial
    go_wp2_with (first | (have ztk15 := tk15; clear tk15 ztk15; (with_reducible refine gate_callee (f := 106) rfl ?_); refine goesL_ (some 8) rfl rfl Tryd.func106 (by kernel_rfl) rfl #[.int .u8 a0] rfl qne1_ ?_; (with_reducible refine (cmp_isNaN_byte.calls a0 false _ A3.out).mono ?_); rintro e w' ⟨rfl, ⟨nd, rfl⟩⟩; refine ⟨_, rfl, ?_⟩) | (have ztk16 := tk16; clear tk16 ztk16; (with_reducible refine gate_callee (f := 106) rfl ?_); refine goesL_ (some 10) rfl rfl Tryd.func106 (by kernel_rfl) rfl #[.int .u8 a1] rfl qne1_ ?_; (with_reducible refine (cmp_isNaN_byte.calls a1 false _ A4.out).mono ?_); rintro e w' ⟨rfl, ⟨nd, rfl⟩⟩; refine ⟨_, rfl, ?_⟩))
    go_ret
    exact ⟨qne2_, qne12_⟩
   ·
    rw [if_neg c14] at H
    have c14b0 : decide (a0 < a1) = false := decide_eq_false c14
    clear c14
    by_cases c17 : a0 > a1
    ·
     rw [if_pos c17] at H
     have c17b0 : decide (a1 < a0) = true := decide_eq_true c17
     clear c17
     obtain rfl := Option.some.inj H
     go_enter Tryd.func97, Tryd.ntmps97
     have tk18 : True := trivial; have tk19 : True := trivial
     go_wp2_with (first | (have ztk18 := tk18; clear tk18 ztk18; (with_reducible refine gate_callee (f := 106) rfl ?_); refine goesL_ (some 8) rfl rfl Tryd.func106 (by kernel_rfl) rfl #[.int .u8 a0] rfl qne1_ ?_; (with_reducible refine (cmp_isNaN_byte.calls a0 false _ A3.out).mono ?_); rintro e w' ⟨rfl, ⟨nd, rfl⟩⟩; refine ⟨_, rfl, ?_⟩) | (have ztk19 := tk19; clear tk19 ztk19; (with_reducible refine gate_callee (f := 106) rfl ?_); refine goesL_ (some 10) rfl rfl Tryd.func106 (by kernel_rfl) rfl #[.int .u8 a1] rfl qne1_ ?_; (with_reducible refine (cmp_isNaN_byte.calls a1 false _ A4.out).mono ?_); rintro e w' ⟨rfl, ⟨nd, rfl⟩⟩; refine ⟨_, rfl, ?_⟩))
     go_ret
     exact ⟨qne2_, qne12_⟩
    ·
     rw [if_neg c17] at H
     have c17b0 : decide (a1 < a0) = false := decide_eq_false c17
     clear c17
     obtain rfl := Option.some.inj H
     go_enter Tryd.func97, Tryd.ntmps97
     have tk20 : True := trivial; have tk21 : True := trivial
     go_wp2_with (first | (have ztk20 := tk20; clear tk20 ztk20; (with_reducible refine gate_callee (f := 106) rfl ?_); refine goesL_ (some 8) rfl rfl Tryd.func106 (by kernel_rfl) rfl #[.int .u8 a0] rfl qne1_ ?_; (with_reducible refine (cmp_isNaN_byte.calls a0 false _ A3.out).mono ?_); rintro e w' ⟨rfl, ⟨nd, rfl⟩⟩; refine ⟨_, rfl, ?_⟩) | (have ztk21 := tk21; clear tk21 ztk21; (with_reducible refine gate_callee (f := 106) rfl ?_); refine goesL_ (some 10) rfl rfl Tryd.func106 (by kernel_rfl) rfl #[.int .u8 a1] rfl qne1_ ?_; (with_reducible refine (cmp_isNaN_byte.calls a1 false _ A4.out).mono ?_); rintro e w' ⟨rfl, ⟨nd, rfl⟩⟩; refine ⟨_, rfl, ?_⟩))
     go_ret
     exact ⟨qne2_, qne12_⟩


/-! ### numeral_words: function 75 -/
mutual
def numeral_words.l0 : Nat → ByteArray → ByteArray → Int → Int → Option (Int)
 | 0, _, _, _, _ => none
 | k + 1, x0, x1, x12, x13 => if x13 < x12 then (if x13 < (x0.size : Int) then (if 0 ≤ x13 then ((numeral_rank.f (bt x0 x13)).bind fun t267 => (numeral_words.j1 k x0 x1 x13 t267 2 x12 x13)) else (none)) else (numeral_words.j1 k x0 x1 x13 2 2 x12 x13)) else (some 0)
def numeral_words.j1 : Nat → ByteArray → ByteArray → Int → Int → Int → Int → Int → Option (Int)
 | 0, _, _, _, _, _, _, _ => none
 | k + 1, x0, x1, x5, x6, x7, x12, x13 => if x5 < (x1.size : Int) then (if 0 ≤ x5 then ((numeral_rank.f (bt x1 x5)).bind fun t268 => (if x6 = t268 then (numeral_words.l0 k x0 x1 x12 (wrap64 (x13 + 1))) else ((cmp_Compare_byte.f x6 t268).bind fun t269 => (some t269)))) else (none)) else (if x6 = x7 then (numeral_words.l0 k x0 x1 x12 (wrap64 (x13 + 1))) else ((cmp_Compare_byte.f x6 x7).bind fun t270 => (some t270)))
end
def numeral_words.f (k : Nat) (a0 : ByteArray) (a1 : ByteArray) : Option (Int) := numeral_words.l0 k a0 a1 (mx (a0.size : Int) (a1.size : Int)) 0
set_option maxHeartbeats 8000000 in
set_option maxRecDepth 100000 in
theorem numeral_words.calls (k : Nat) (a0 : ByteArray) (a1 : ByteArray) (r : Int) (w : World) (hGL : GOK w) (h : numeral_words.f k a0 a1 = some r) :
  Calls Tryd.prog 75 #[.string a0, .string a1] w fun e w' => e = .returned (.int .i64 r) ∧ Below w.heap.size w w' := by
 have HGL := Aside0.mk hGL
 clear hGL
 have HB := Aside0.mk (Below.refl w.heap.size w)
 have H : (numeral_words.l0 k a0 a1 (mx (a0.size : Int) (a1.size : Int)) 0) = some r := h
 clear h
 obtain ⟨ji3, hji3⟩ : ∃ j_ : Int, (mx (a0.size : Int) (a1.size : Int)) = j_ := ⟨_, rfl⟩
 replace H : (numeral_words.l0 k a0 a1 ji3 0) = some r := by first | (rw [hji3] at H; exact H) | (simp only [hji3] at H ⊢; exact H)
 (try (have hji3l : 0 ≤ ji3 := by (rw [← hji3]; unfold mx; (repeat' split) <;> omega)))
 (try (have hji3m : 0 ≤ ji3 := by omega))
 have hji3_ : (if (a0.size : Int) < (a1.size : Int) then (a1.size : Int) else (a0.size : Int)) = ji3 := hji3
 (try have hji3N : (if a0.size < a1.size then (a1.size : Int) else (a0.size : Int)) = ji3 := by simpa only [Int.ofNat_lt] using hji3_)
 have H' := Aside0.mk H
 clear H
 go_enter Tryd.func75, Tryd.ntmps75
 go_wp2
 go_loopg [13] k (fun kq v13 w' => ∃ (x13_1 : Int), v13 = .int .i64 x13_1 ∧ Aside0 (numeral_words.l0 kq a0 a1 ji3 x13_1 = some r) ∧ Aside0 (kq ≤ k) ∧ Aside0 (Below w.heap.size w w'))
 case atStart => exact ⟨(0), qne2_, H', ⟨Nat.le_refl _⟩, ⟨qne0_⟩⟩
 case round =>
  clear H'
  (try clear p2)
  obtain ⟨x13_1, rfl, HA, HK1, HB⟩ := hrel
  cases gk with
  | zero => exact absurd HA.out (by simp [numeral_words.l0])
  | succ k1 =>
   have H := HA.out
   clear HA
   simp only [numeral_words.l0] at H
   by_cases c4 : x13_1 < ji3
   ·
    rw [if_pos c4] at H
    have c4b0 : decide (x13_1 < ji3) = true := decide_eq_true c4
    clear c4
    have HC5 := Aside0.mk H
    clear H
    go_upto_if 19 with (fail)
    go_cut [6] (fun v6 wc => ∃ (kq : Nat) (x6_4 : Int), v6 = .int .u8 x6_4 ∧ Aside0 (numeral_words.j1 kq a0 a1 x13_1 x6_4 2 ji3 x13_1 = some r) ∧ Aside0 (kq ≤ k1) ∧ Aside0 (Below w.heap.size w wc))
    case first =>
     have H := HC5.out
     clear HC5
     by_cases c6 : x13_1 < (a0.size : Int)
     ·
      rw [if_pos c6] at H
      have c6b0 : decide (x13_1 < (a0.size : Int)) = true := decide_eq_true c6
      clear c6
      (first | rw [c6b0] | (simp only [i64_w, i32_w]; rw [c6b0]) | skip)
      by_cases c7 : 0 ≤ x13_1
      ·
       rw [if_pos c7] at H
       have c7b0 : decide (0 ≤ x13_1) = true := decide_eq_true c7
       clear c7
       replace H := Option.bind_eq_some_iff.mp H
       obtain ⟨t267, A90, H⟩ := H
       replace H : (numeral_words.j1 k1 a0 a1 x13_1 t267 2 ji3 x13_1) = some r := H
       have A9 := Aside0.mk A90
       clear A90
       have H' := Aside0.mk H
       clear H
       have p8 : 0 ≤ (x13_1 : Int) := of_decide_eq_true qne3_
       have q8 : x13_1 < (a0.size : Int) := of_decide_eq_true qne3_
       have hx8 := bt_at a0 x13_1
       replace p8 := eq_true p8
       replace q8 := eq_true q8
       go_wp2_with (first | ((with_reducible refine gate_callee (f := 84) rfl ?_); refine goesL_ (some 23) rfl rfl Tryd.func84 (by kernel_rfl) rfl #[.int .u8 (bt a0 x13_1)] rfl qne1_ ?_; (with_reducible refine (numeral_rank.calls (bt a0 x13_1) t267 _ ?side1 A9.out).mono ?_); (case side1 => exact GOK.below HGL.out qne0_); rintro e w10 ⟨rfl, hb⟩; refine ⟨_, rfl, ?_⟩; have n0_ := Aside0.mk (below_step qne0_ hb); clear HB; have HB := n0_; clear n0_; (try clear hb); (try clear hb2); (try clear hk); (try clear hi)))
       go_meet
       case rel => exact ⟨_, (t267), qne2_, H', ⟨by have := HK1.out; first | omega | exact Nat.le_refl _⟩, ⟨qne0_⟩⟩
      ·
       rw [if_neg c7] at H
       exact absurd H (by simp)
     ·
      rw [if_neg c6] at H
      have c6b0 : decide (x13_1 < (a0.size : Int)) = false := decide_eq_false c6
      clear c6
      (first | rw [c6b0] | (simp only [i64_w, i32_w]; rw [c6b0]) | skip)
      have H' := Aside0.mk H
      clear H
      go_wp2
      go_meet
      case rel => exact ⟨_, (2), qne2_, H', ⟨by have := HK1.out; first | omega | exact Nat.le_refl _⟩, ⟨qne0_⟩⟩
    case rest =>
     clear HC5
     (try clear p2); (try clear c4); (try clear c4b0); (try clear c6); (try clear c6b0); (try clear c7); (try clear c7b0); (try clear c8); (try clear p8); (try clear q8); (try clear hx8); (try clear p2); (try clear p8); (try clear q8)
     obtain ⟨kq, x6_4, rfl, HA, HJ4, HB⟩ := hcut
     cases kq with
     | zero => exact absurd HA.out (by simp [numeral_words.j1])
     | succ kj4 =>
      have H := HA.out
      clear HA
      simp only [numeral_words.j1] at H
      by_cases c11 : x13_1 < (a1.size : Int)
      ·
       rw [if_pos c11] at H
       have c11b0 : decide (x13_1 < (a1.size : Int)) = true := decide_eq_true c11
       clear c11
       by_cases c12 : 0 ≤ x13_1
       ·
        rw [if_pos c12] at H
        have c12b0 : decide (0 ≤ x13_1) = true := decide_eq_true c12
        clear c12
        replace H := Option.bind_eq_some_iff.mp H
        obtain ⟨t268, A140, H⟩ := H
        replace H : (if x6_4 = t268 then (numeral_words.l0 kj4 a0 a1 ji3 (wrap64 (x13_1 + 1))) else ((cmp_Compare_byte.f x6_4 t268).bind fun t269 => (some t269))) = some r := H
        have A14 := Aside0.mk A140
        clear A140
        by_cases c15 : x6_4 = t268
        ·
         rw [if_pos c15] at H
         have c15b0 : (x6_4 == t268) = true := beq_iff_eq.mpr c15
         have c15b1 : (x6_4 != t268) = false := bne_eq_false_iff_eq.mpr c15
         clear c15
         have H' := Aside0.mk H
         clear H
         have p13 : 0 ≤ (x13_1 : Int) := of_decide_eq_true qne3_
         have q13 : x13_1 < (a1.size : Int) := of_decide_eq_true qne3_
         have hx13 := bt_at a1 x13_1
         replace p13 := eq_true p13
         replace q13 := eq_true q13
         go_wp2_with (first | ((with_reducible refine gate_callee (f := 84) rfl ?_); refine goesL_ (some 31) rfl rfl Tryd.func84 (by kernel_rfl) rfl #[.int .u8 (bt a1 x13_1)] rfl qne1_ ?_; (with_reducible refine (numeral_rank.calls (bt a1 x13_1) t268 _ ?side1 A14.out).mono ?_); (case side1 => exact GOK.below HGL.out qne0_); rintro e w16 ⟨rfl, hb⟩; refine ⟨_, rfl, ?_⟩; have n0_ := Aside0.mk (below_step qne0_ hb); clear HB; have HB := n0_; clear n0_; (try clear hb); (try clear hb2); (try clear hk); (try clear hi)))
         go_roundg kj4
         case measure => have := HK1.out; have := HJ4.out; omega
         case rel => exact ⟨(wrap64 (x13_1 + 1)), qne2_, H', ⟨by have := HK1.out; have := HJ4.out; omega⟩, ⟨qne0_⟩⟩
        ·
         rw [if_neg c15] at H
         have c15b0 : (x6_4 == t268) = false := beq_eq_false_iff_ne.mpr c15
         have c15b1 : (x6_4 != t268) = true := bne_iff_ne.mpr c15
         replace H := Option.bind_eq_some_iff.mp H
         obtain ⟨t269, A170, H⟩ := H
         replace H : (some t269) = some r := H
         have A17 := Aside0.mk A170
         clear A170
         obtain rfl := Option.some.inj H
         have p13 : 0 ≤ (x13_1 : Int) := of_decide_eq_true qne3_
         have q13 : x13_1 < (a1.size : Int) := of_decide_eq_true qne3_
         have hx13 := bt_at a1 x13_1
         replace p13 := eq_true p13
         replace q13 := eq_true q13
         have tk19 : True := trivial; have tk20 : True := trivial
         go_wp2_with (first | (have ztk19 := tk19; clear tk19 ztk19; (with_reducible refine gate_callee (f := 84) rfl ?_); refine goesL_ (some 31) rfl rfl Tryd.func84 (by kernel_rfl) rfl #[.int .u8 (bt a1 x13_1)] rfl qne1_ ?_; (with_reducible refine (numeral_rank.calls (bt a1 x13_1) t268 _ ?side1 A14.out).mono ?_); (case side1 => exact GOK.below HGL.out qne0_); rintro e w18 ⟨rfl, hb⟩; refine ⟨_, rfl, ?_⟩; have n0_ := Aside0.mk (below_step qne0_ hb); clear HB; have HB := n0_; clear n0_; (try clear hb); (try clear hb2); (try clear hk); (try clear hi)) | (have ztk20 := tk20; clear tk20 ztk20; (with_reducible refine gate_callee (f := 97) rfl ?_); refine goesL_ (some 37) rfl rfl Tryd.func97 (by kernel_rfl) rfl #[.int .u8 x6_4, .int .u8 t268] rfl qne1_ ?_; (with_reducible refine (cmp_Compare_byte.calls x6_4 t268 t269 _ A17.out).mono ?_); rintro e w' ⟨rfl, ⟨nd, rfl⟩⟩; refine ⟨_, rfl, ?_⟩))
         go_ret
         exact ⟨qne52_, qne0_⟩
       ·
        rw [if_neg c12] at H
        exact absurd H (by simp)
      ·
       rw [if_neg c11] at H
       have c11b0 : decide (x13_1 < (a1.size : Int)) = false := decide_eq_false c11
       clear c11
       by_cases c21 : x6_4 = 2
       ·
        rw [if_pos c21] at H
        have c21b0 : (x6_4 == 2) = true := beq_iff_eq.mpr c21
        have c21b1 : (x6_4 != 2) = false := bne_eq_false_iff_eq.mpr c21
        clear c21
        have H' := Aside0.mk H
        clear H
        go_wp2
        go_roundg kj4
        case measure => have := HK1.out; have := HJ4.out; omega
        case rel => exact ⟨(wrap64 (x13_1 + 1)), qne2_, H', ⟨by have := HK1.out; have := HJ4.out; omega⟩, ⟨qne0_⟩⟩
       ·
        rw [if_neg c21] at H
        have c21b0 : (x6_4 == 2) = false := beq_eq_false_iff_ne.mpr c21
        have c21b1 : (x6_4 != 2) = true := bne_iff_ne.mpr c21
        replace H := Option.bind_eq_some_iff.mp H
        obtain ⟨t270, A220, H⟩ := H
        replace H : (some t270) = some r := H
        have A22 := Aside0.mk A220
        clear A220
        obtain rfl := Option.some.inj H
        go_wp2_with (first | ((with_reducible refine gate_callee (f := 97) rfl ?_); refine goesL_ (some 37) rfl rfl Tryd.func97 (by kernel_rfl) rfl #[.int .u8 x6_4, .int .u8 2] rfl qne1_ ?_; (with_reducible refine (cmp_Compare_byte.calls x6_4 2 t270 _ A22.out).mono ?_); rintro e w' ⟨rfl, ⟨nd, rfl⟩⟩; refine ⟨_, rfl, ?_⟩))
        go_ret
        exact ⟨qne52_, qne0_⟩
   ·
    rw [if_neg c4] at H
    have c4b0 : decide (x13_1 < ji3) = false := decide_eq_false c4
    clear c4
    obtain rfl := Option.some.inj H
    go_wp2
    go_ret
    exact ⟨qne52_, qne0_⟩


/-! ### numeral_runs: function 76 -/
def numeral_runs.j0 : Nat → ByteArray → ByteArray → Bool → Option (Int)
 | 0, _, _, _ => none
 | k + 1, x0, x1, x10 => if x10 = true then ((cmp_Compare_int.f (mn (x0.size : Int) 1) (mn (x1.size : Int) 1)).bind fun t271 => (some t271)) else ((strings_TrimLeft.f k x0 (⟨#[48]⟩ : ByteArray)).bind fun t272 => ((strings_TrimLeft.f k x1 (⟨#[48]⟩ : ByteArray)).bind fun t273 => ((cmp_Compare_int.f (t272.size : Int) (t273.size : Int)).bind fun t274 => ((strings_Compare.f t272 t273).bind fun t275 => ((cmp_Or_int.f k (([t274, t275] : List Int))).bind fun t279 => (some t279))))))
def numeral_runs.f (k : Nat) (a0 : ByteArray) (a1 : ByteArray) : Option (Int) := if a0.toList = ([] : List UInt8) then (numeral_runs.j0 k a0 a1 true) else (numeral_runs.j0 k a0 a1 a1.toList.isEmpty)
set_option maxHeartbeats 8000000 in
set_option maxRecDepth 100000 in
theorem numeral_runs.calls (k : Nat) (a0 : ByteArray) (a1 : ByteArray) (r : Int) (w : World) (h : numeral_runs.f k a0 a1 = some r) :
  Calls Tryd.prog 76 #[.string a0, .string a1] w fun e w' => e = .returned (.int .i64 r) ∧ Below w.heap.size w w' := by
 have HB := Aside0.mk (Below.refl w.heap.size w)
 have H : (if a0.toList = ([] : List UInt8) then (numeral_runs.j0 k a0 a1 true) else (numeral_runs.j0 k a0 a1 a1.toList.isEmpty)) = some r := h
 clear h
 have HC3 := Aside0.mk H
 clear H
 go_enter Tryd.func76, Tryd.ntmps76
 go_upto_region 1 with (fail)
 go_cut [10] (fun v10 wc => ∃ (kq : Nat) (x10_2 : Bool), v10 = .bool x10_2 ∧ Aside0 (numeral_runs.j0 kq a0 a1 x10_2 = some r) ∧ Aside0 (kq ≤ k) ∧ Aside0 (Below w.heap.size w wc))
 case first =>
  have H := HC3.out
  clear HC3
  by_cases c4 : a0.toList = ([] : List UInt8)
  ·
   rw [if_pos c4] at H
   have c4b0 : (a0.toList == ([] : List UInt8)) = true := beq_iff_eq.mpr c4
   have c4b1 : (a0.toList != ([] : List UInt8)) = false := bne_eq_false_iff_eq.mpr c4
   clear c4
   (first | rw [c4b0] | (simp only [i64_w, i32_w]; rw [c4b0]) | skip)
   have H' := Aside0.mk H
   clear H
   go_wp2
   go_meet
   case rel => exact ⟨_, (true), qne2_, H', ⟨by first | omega | exact Nat.le_refl _⟩, ⟨qne0_⟩⟩
  ·
   rw [if_neg c4] at H
   have c4b0 : (a0.toList == ([] : List UInt8)) = false := beq_eq_false_iff_ne.mpr c4
   have c4b1 : (a0.toList != ([] : List UInt8)) = true := bne_iff_ne.mpr c4
   (first | rw [c4b0] | (simp only [i64_w, i32_w]; rw [c4b0]) | skip)
   have H' := Aside0.mk H
   clear H
   go_wp2
   go_meet
   case rel => exact ⟨_, (a1.toList.isEmpty), qne2_, H', ⟨by first | omega | exact Nat.le_refl _⟩, ⟨qne0_⟩⟩
 case rest =>
  clear HC3
  (try clear p2); (try clear c4); (try clear c4b0); (try clear c4b1)
  obtain ⟨kq, x10_2, rfl, HA, HJ2, HB⟩ := hcut
  cases kq with
  | zero => exact absurd HA.out (by simp [numeral_runs.j0])
  | succ kj2 =>
   have H := HA.out
   clear HA
   simp only [numeral_runs.j0] at H
   by_cases c5 : x10_2 = true
   ·
    subst c5
    have H1 : ((cmp_Compare_int.f (mn (a0.size : Int) 1) (mn (a1.size : Int) 1)).bind fun t271 => (some t271)) = some r := by rw [if_pos rfl] at H; exact H
    clear H
    have H := H1
    clear H1
    obtain ⟨ji6, hji6⟩ : ∃ j_ : Int, (mn (a0.size : Int) 1) = j_ := ⟨_, rfl⟩
    replace H : ((cmp_Compare_int.f (ji6) (mn (a1.size : Int) 1)).bind fun t271 => (some t271)) = some r := by first | (rw [hji6] at H; exact H) | (simp only [hji6] at H ⊢; exact H)
    have hji6_ : (if 1 < (a0.size : Int) then 1 else (a0.size : Int)) = ji6 := hji6
    obtain ⟨ji7, hji7⟩ : ∃ j_ : Int, (mn (a1.size : Int) 1) = j_ := ⟨_, rfl⟩
    replace H : ((cmp_Compare_int.f (ji6) (ji7)).bind fun t271 => (some t271)) = some r := by first | (rw [hji7] at H; exact H) | (simp only [hji7] at H ⊢; exact H)
    have hji7_ : (if 1 < (a1.size : Int) then 1 else (a1.size : Int)) = ji7 := hji7
    replace H := Option.bind_eq_some_iff.mp H
    obtain ⟨t271, A80, H⟩ := H
    replace H : (some t271) = some r := H
    have A8 := Aside0.mk A80
    clear A80
    obtain rfl := Option.some.inj H
    go_wp2_with (first | ((with_reducible refine gate_callee (f := 51) rfl ?_); refine goesL_ (some 17) rfl rfl Tryd.func51 (by kernel_rfl) rfl #[.int .i64 ji6, .int .i64 ji7] rfl (by (try simp only [List.map_toArray, List.map_cons, List.map_nil]); first | done | (simp only [hji6, hji7]; rfl) | rfl | (simp only [List.length_drop, List.length_take]; rfl) | (simp; done) | (simp; omega)) ?_; (with_reducible refine (cmp_Compare_int.calls ji6 ji7 t271 _ A8.out).mono ?_); rintro e w' ⟨rfl, ⟨nd, rfl⟩⟩; refine ⟨_, rfl, ?_⟩))
    go_ret
    exact ⟨by first | rfl | (simp [errW_none, errW_some] <;> rfl) | (simp only [← hji6, ← hji7]; first | rfl | (simp [errW_none, errW_some] <;> rfl)) | (simp [*, errW_none, errW_some] <;> rfl), qne0_⟩
   ·
    replace c5 := Bool.eq_false_iff.mpr c5
    subst c5
    have H1 : ((strings_TrimLeft.f kj2 a0 (⟨#[48]⟩ : ByteArray)).bind fun t272 => ((strings_TrimLeft.f kj2 a1 (⟨#[48]⟩ : ByteArray)).bind fun t273 => ((cmp_Compare_int.f (t272.size : Int) (t273.size : Int)).bind fun t274 => ((strings_Compare.f t272 t273).bind fun t275 => ((cmp_Or_int.f kj2 (([t274, t275] : List Int))).bind fun t279 => (some t279)))))) = some r := by rw [if_neg (show ¬ (false = true) by decide)] at H; exact H
    clear H
    have H := H1
    clear H1
    replace H := Option.bind_eq_some_iff.mp H
    obtain ⟨t272, A90, H⟩ := H
    replace H : ((strings_TrimLeft.f kj2 a1 (⟨#[48]⟩ : ByteArray)).bind fun t273 => ((cmp_Compare_int.f (t272.size : Int) (t273.size : Int)).bind fun t274 => ((strings_Compare.f t272 t273).bind fun t275 => ((cmp_Or_int.f kj2 (([t274, t275] : List Int))).bind fun t279 => (some t279))))) = some r := H
    have A9 := Aside0.mk A90
    clear A90
    replace H := Option.bind_eq_some_iff.mp H
    obtain ⟨t273, A100, H⟩ := H
    replace H : ((cmp_Compare_int.f (t272.size : Int) (t273.size : Int)).bind fun t274 => ((strings_Compare.f t272 t273).bind fun t275 => ((cmp_Or_int.f kj2 (([t274, t275] : List Int))).bind fun t279 => (some t279)))) = some r := H
    have A10 := Aside0.mk A100
    clear A100
    replace H := Option.bind_eq_some_iff.mp H
    obtain ⟨t274, A110, H⟩ := H
    replace H : ((strings_Compare.f t272 t273).bind fun t275 => ((cmp_Or_int.f kj2 (([t274, t275] : List Int))).bind fun t279 => (some t279))) = some r := H
    have A11 := Aside0.mk A110
    clear A110
    replace H := Option.bind_eq_some_iff.mp H
    obtain ⟨t275, A120, H⟩ := H
    replace H : ((cmp_Or_int.f kj2 (([t274, t275] : List Int))).bind fun t279 => (some t279)) = some r := H
    have A12 := Aside0.mk A120
    clear A120
    obtain ⟨y276, hy276⟩ : ∃ y_ : List Int, y_ = (([t274, t275] : List Int)) := ⟨_, rfl⟩
    replace H : ((cmp_Or_int.f kj2 y276).bind fun t279 => (some t279)) = some r := by first | (rw [hy276]; with_reducible exact H) | (have H2_ := (Option.bind_some _ _).symm.trans H; rw [hy276]; with_reducible exact H2_) | (have H2_ := (Option.bind_some _ _).symm.trans H; with_reducible exact H2_) | with_reducible exact H | (rw [hy276]; exact H) | exact H
    have Ny276 := Aside0.mk hy276
    clear hy276
    replace H := Option.bind_eq_some_iff.mp H
    obtain ⟨t279, A130, H⟩ := H
    replace H : (some t279) = some r := H
    have A13 := Aside0.mk A130
    clear A130
    obtain rfl := Option.some.inj H
    have tk19 : True := trivial; have tk20 : True := trivial; have tk21 : True := trivial; have tk22 : True := trivial; have tk23 : True := trivial; have tk24 : True := trivial
    go_wp2_with (first | (have ztk19 := tk19; clear tk19 ztk19; (with_reducible refine gate_callee (f := 66) rfl ?_); refine goesL_ (some 19) rfl rfl Tryd.func66 (by kernel_rfl) rfl #[.string a0, .string (⟨#[48]⟩ : ByteArray)] rfl qne1_ ?_; (with_reducible refine (strings_TrimLeft.calls kj2 a0 (⟨#[48]⟩ : ByteArray) t272 _ A9.out).mono ?_); rintro e w14 ⟨rfl, hb⟩; refine ⟨_, rfl, ?_⟩; have n0_ := Aside0.mk (below_step qne0_ hb); clear HB; have HB := n0_; clear n0_; (try clear hb); (try clear hb2); (try clear hk); (try clear hi)) | (have ztk20 := tk20; clear tk20 ztk20; (with_reducible refine gate_callee (f := 66) rfl ?_); refine goesL_ (some 21) rfl rfl Tryd.func66 (by kernel_rfl) rfl #[.string a1, .string (⟨#[48]⟩ : ByteArray)] rfl qne1_ ?_; (with_reducible refine (strings_TrimLeft.calls kj2 a1 (⟨#[48]⟩ : ByteArray) t273 _ A10.out).mono ?_); rintro e w15 ⟨rfl, hb⟩; refine ⟨_, rfl, ?_⟩; have n0_ := Aside0.mk (below_step qne0_ hb); clear HB; have HB := n0_; clear n0_; (try clear hb); (try clear hb2); (try clear hk); (try clear hi)) | (have ztk21 := tk21; clear tk21 ztk21; (with_reducible refine gate_callee (f := 51) rfl ?_); refine goesL_ (some 26) rfl rfl Tryd.func51 (by kernel_rfl) rfl #[.int .i64 (t272.size : Int), .int .i64 (t273.size : Int)] rfl qne1_ ?_; (with_reducible refine (cmp_Compare_int.calls (t272.size : Int) (t273.size : Int) t274 _ A11.out).mono ?_); rintro e w' ⟨rfl, ⟨nd, rfl⟩⟩; refine ⟨_, rfl, ?_⟩) | (have ztk22 := tk22; clear tk22 ztk22; (with_reducible refine gate_callee (f := 55) rfl ?_); refine goesL_ (some 29) rfl rfl Tryd.func55 (by kernel_rfl) rfl #[.string t272, .string t273] rfl qne1_ ?_; (with_reducible refine (strings_Compare.calls t272 t273 t275 _ A12.out).mono ?_); rintro e w' ⟨rfl, ⟨nd, rfl⟩⟩; refine ⟨_, rfl, ?_⟩) | (have ztk23 := tk23; clear tk23 ztk23; (with_reducible refine gate_dst (N := 30) rfl ?_); refine Kd.R_lit (Kd.int .i64) _ 3 ?hg (N := 30) ?hd (xs := ([t274, t275] : List Int)) (inner := [.int .i64 t274, .int .i64 t275]) (ok := fun _ => True) (okp := fun _ => True) ?hr ?hp (fun _ hk => hk) trivial (Below.refl _ _) (Nat.le_refl _) (by simp) ?_; (case hd => rfl); (case hg => rfl); (case hr => first | (go_simp; done) | (go_simp; rfl)); (case hp => exact (Reps.one (show Kd.M (Kd.int .i64) _ _ _ t274 [.int .i64 t274] from rfl) (Reps.one (show Kd.M (Kd.int .i64) _ _ _ t275 [.int .i64 t275] from rfl) (Reps.none _ _)))); intro v277 w16 ho17 hb hg_ hnew_; clear hg_ hnew_; (first | rw [← Ny276.out] at ho17 | (simp only [Int.reduceToNat] at ho17; rw [← Ny276.out] at ho17)); have n0_ := Aside0.mk (Kd.R_lower ho17 (below_size qne0_)); have n1_ := Aside0.mk (below_step qne0_ hb); clear HB; have HO278 := n0_; have HB := n1_; clear n0_ n1_; clear hb ho17; obtain ⟨Ao18, co18, eo18⟩ := Kd.R_slice HO278.out; subst eo18) | (have ztk24 := tk24; clear tk24 ztk24; (with_reducible refine gate_callee (f := 72) rfl ?_); refine goesL_ (some 31) rfl rfl Tryd.func72 (by kernel_rfl) rfl #[.slice Ao18 y276.length co18] rfl qne1_ ?_; (with_reducible refine (cmp_Or_int.calls kj2 _ _ y276 t279 _ ?side1 ?side2 A13.out).mono ?_); (case side1 => repeat (first | exact (Kd.R_reads' HO278.out).2.2 | (with_reducible refine Kd.C_alloc ?_ _) | (with_reducible refine Kd.C_drewN ?_ _) | (with_reducible refine Kd.C_drew ?_))); (case side2 => exact (Kd.R_reads' HO278.out).2.1); rintro e w' ⟨rfl, ⟨nd, rfl⟩⟩; refine ⟨_, rfl, ?_⟩))
    go_ret
    exact ⟨qne5_, qne0_⟩


/-! ### numeral_versions: function 52 -/
mutual
def numeral_versions.l0 : Nat → ByteArray → ByteArray → Option (Int)
 | 0, _, _ => none
 | k + 1, x0, x1 => if x0.toList = ([] : List UInt8) then (numeral_versions.j1 k x0 x1 (!x1.toList.isEmpty)) else (numeral_versions.j1 k x0 x1 true)
def numeral_versions.j1 : Nat → ByteArray → ByteArray → Bool → Option (Int)
 | 0, _, _, _ => none
 | k + 1, x0, x1, x17 => if x17 = true then ((numeral_pair.f k x0).bind fun bt280 => ((numeral_pair.f k x1).bind fun bt283 => ((numeral_words.f k bt280.1 bt283.1).bind fun t286 => ((numeral_runs.f k bt280.2.1 bt283.2.1).bind fun t287 => ((cmp_Or_int.f k (([t286, t287] : List Int))).bind fun t291 => (if t291 = 0 then (numeral_versions.l0 k bt280.2.2 bt283.2.2) else (some t291))))))) else (some 0)
end
def numeral_versions.f (k : Nat) (a0 : ByteArray) (a1 : ByteArray) : Option (Int) := numeral_versions.l0 k a0 a1
set_option maxHeartbeats 8000000 in
set_option maxRecDepth 100000 in
theorem numeral_versions.calls (k : Nat) (a0 : ByteArray) (a1 : ByteArray) (r : Int) (w : World) (hGL : GOK w) (h : numeral_versions.f k a0 a1 = some r) :
  Calls Tryd.prog 52 #[.string a0, .string a1] w fun e w' => e = .returned (.int .i64 r) ∧ Below w.heap.size w w' := by
 have HGL := Aside0.mk hGL
 clear hGL
 have HB := Aside0.mk (Below.refl w.heap.size w)
 have H : (numeral_versions.l0 k a0 a1) = some r := h
 clear h
 have H' := Aside0.mk H
 clear H
 go_enter Tryd.func52, Tryd.ntmps52
 go_wp2
 go_loopg [0, 1] k (fun kq v0 v1 w' => ∃ (x0_1 : ByteArray) (x1_1 : ByteArray), v0 = .string x0_1 ∧ v1 = .string x1_1 ∧ Aside0 (numeral_versions.l0 kq x0_1 x1_1 = some r) ∧ Aside0 (kq ≤ k) ∧ Aside0 (Below w.heap.size w w'))
 case atStart => exact ⟨(a0), (a1), qne2_, qne2_, H', ⟨Nat.le_refl _⟩, ⟨qne0_⟩⟩
 case round =>
  clear H'
  (try clear p2)
  obtain ⟨x0_1, x1_1, rfl, rfl, HA, HK1, HB⟩ := hrel
  cases gk with
  | zero => exact absurd HA.out (by simp [numeral_versions.l0])
  | succ k1 =>
   have H := HA.out
   clear HA
   simp only [numeral_versions.l0] at H
   have HC3 := Aside0.mk H
   clear H
   go_upto_region 1 with (fail)
   go_cut [17] (fun v17 wc => ∃ (kq : Nat) (x17_2 : Bool), v17 = .bool x17_2 ∧ Aside0 (numeral_versions.j1 kq x0_1 x1_1 x17_2 = some r) ∧ Aside0 (kq ≤ k1) ∧ Aside0 (Below w.heap.size w wc))
   case first =>
    have H := HC3.out
    clear HC3
    by_cases c4 : x0_1.toList = ([] : List UInt8)
    ·
     rw [if_pos c4] at H
     have c4b0 : (x0_1.toList == ([] : List UInt8)) = true := beq_iff_eq.mpr c4
     have c4b1 : (x0_1.toList != ([] : List UInt8)) = false := bne_eq_false_iff_eq.mpr c4
     clear c4
     (first | rw [c4b0] | (simp only [i64_w, i32_w]; rw [c4b0]) | skip)
     have H' := Aside0.mk H
     clear H
     go_wp2
     go_meet
     case rel => exact ⟨_, ((!x1_1.toList.isEmpty)), qne2_, H', ⟨by have := HK1.out; first | omega | exact Nat.le_refl _⟩, ⟨qne0_⟩⟩
    ·
     rw [if_neg c4] at H
     have c4b0 : (x0_1.toList == ([] : List UInt8)) = false := beq_eq_false_iff_ne.mpr c4
     have c4b1 : (x0_1.toList != ([] : List UInt8)) = true := bne_iff_ne.mpr c4
     (first | rw [c4b0] | (simp only [i64_w, i32_w]; rw [c4b0]) | skip)
     have H' := Aside0.mk H
     clear H
     go_wp2
     go_meet
     case rel => exact ⟨_, (true), qne2_, H', ⟨by have := HK1.out; first | omega | exact Nat.le_refl _⟩, ⟨qne0_⟩⟩
   case rest =>
    clear HC3
    (try clear p2); (try clear c4); (try clear c4b0); (try clear c4b1); (try clear p2)
    obtain ⟨kq, x17_2, rfl, HA, HJ2, HB⟩ := hcut
    cases kq with
    | zero => exact absurd HA.out (by simp [numeral_versions.j1])
    | succ kj2 =>
     have H := HA.out
     clear HA
     simp only [numeral_versions.j1] at H
     by_cases c5 : x17_2 = true
     ·
      subst c5
      have H1 : ((numeral_pair.f kj2 x0_1).bind fun bt280 => ((numeral_pair.f kj2 x1_1).bind fun bt283 => ((numeral_words.f kj2 bt280.1 bt283.1).bind fun t286 => ((numeral_runs.f kj2 bt280.2.1 bt283.2.1).bind fun t287 => ((cmp_Or_int.f kj2 (([t286, t287] : List Int))).bind fun t291 => (if t291 = 0 then (numeral_versions.l0 kj2 bt280.2.2 bt283.2.2) else (some t291))))))) = some r := by rw [if_pos rfl] at H; exact H
      clear H
      have H := H1
      clear H1
      replace H := Option.bind_eq_some_iff.mp H
      obtain ⟨⟨t280, t281, t282⟩, A60, H⟩ := H
      replace H : ((numeral_pair.f kj2 x1_1).bind fun bt283 => ((numeral_words.f kj2 t280 bt283.1).bind fun t286 => ((numeral_runs.f kj2 t281 bt283.2.1).bind fun t287 => ((cmp_Or_int.f kj2 (([t286, t287] : List Int))).bind fun t291 => (if t291 = 0 then (numeral_versions.l0 kj2 t282 bt283.2.2) else (some t291)))))) = some r := H
      have A6 := Aside0.mk A60
      clear A60
      replace H := Option.bind_eq_some_iff.mp H
      obtain ⟨⟨t283, t284, t285⟩, A70, H⟩ := H
      replace H : ((numeral_words.f kj2 t280 t283).bind fun t286 => ((numeral_runs.f kj2 t281 t284).bind fun t287 => ((cmp_Or_int.f kj2 (([t286, t287] : List Int))).bind fun t291 => (if t291 = 0 then (numeral_versions.l0 kj2 t282 t285) else (some t291))))) = some r := H
      have A7 := Aside0.mk A70
      clear A70
      replace H := Option.bind_eq_some_iff.mp H
      obtain ⟨t286, A80, H⟩ := H
      replace H : ((numeral_runs.f kj2 t281 t284).bind fun t287 => ((cmp_Or_int.f kj2 (([t286, t287] : List Int))).bind fun t291 => (if t291 = 0 then (numeral_versions.l0 kj2 t282 t285) else (some t291)))) = some r := H
      have A8 := Aside0.mk A80
      clear A80
      replace H := Option.bind_eq_some_iff.mp H
      obtain ⟨t287, A90, H⟩ := H
      replace H : ((cmp_Or_int.f kj2 (([t286, t287] : List Int))).bind fun t291 => (if t291 = 0 then (numeral_versions.l0 kj2 t282 t285) else (some t291))) = some r := H
      have A9 := Aside0.mk A90
      clear A90
      obtain ⟨y288, hy288⟩ : ∃ y_ : List Int, y_ = (([t286, t287] : List Int)) := ⟨_, rfl⟩
      replace H : ((cmp_Or_int.f kj2 y288).bind fun t291 => (if t291 = 0 then (numeral_versions.l0 kj2 t282 t285) else (some t291))) = some r := by first | (rw [hy288]; with_reducible exact H) | (have H2_ := (Option.bind_some _ _).symm.trans H; rw [hy288]; with_reducible exact H2_) | (have H2_ := (Option.bind_some _ _).symm.trans H; with_reducible exact H2_) | with_reducible exact H | (rw [hy288]; exact H) | exact H
      have Ny288 := Aside0.mk hy288
      clear hy288
      replace H := Option.bind_eq_some_iff.mp H
      obtain ⟨t291, A100, H⟩ := H
      replace H : (if t291 = 0 then (numeral_versions.l0 kj2 t282 t285) else (some t291)) = some r := H
      have A10 := Aside0.mk A100
      clear A100
      by_cases c11 : t291 = 0
      ·
       rw [if_pos c11] at H
       have c11b0 : (t291 == 0) = true := beq_iff_eq.mpr c11
       have c11b1 : (t291 != 0) = false := bne_eq_false_iff_eq.mpr c11
       clear c11
       have H' := Aside0.mk H
       clear H
       have tk17 : True := trivial; have tk18 : True := trivial; have tk19 : True := trivial; have tk20 : True := trivial; have tk21 : True := trivial; have tk22 : True := trivial
       go_wp2_with (first | (have ztk17 := tk17; clear tk17 ztk17; (with_reducible refine gate_callee (f := 74) rfl ?_); refine goesL_ (some 20) rfl rfl Tryd.func74 (by kernel_rfl) rfl #[.string x0_1] rfl qne1_ ?_; (with_reducible refine (numeral_pair.calls kj2 x0_1 t280 t281 t282 _ A6.out).mono ?_); rintro e w' ⟨rfl, ⟨nd, rfl⟩⟩; refine ⟨_, rfl, ?_⟩) | (have ztk18 := tk18; clear tk18 ztk18; (with_reducible refine gate_callee (f := 74) rfl ?_); refine goesL_ (some 26) rfl rfl Tryd.func74 (by kernel_rfl) rfl #[.string x1_1] rfl qne1_ ?_; (with_reducible refine (numeral_pair.calls kj2 x1_1 t283 t284 t285 _ A7.out).mono ?_); rintro e w' ⟨rfl, ⟨nd, rfl⟩⟩; refine ⟨_, rfl, ?_⟩) | (have ztk19 := tk19; clear tk19 ztk19; (with_reducible refine gate_callee (f := 75) rfl ?_); refine goesL_ (some 32) rfl rfl Tryd.func75 (by kernel_rfl) rfl #[.string t280, .string t283] rfl qne1_ ?_; (with_reducible refine (numeral_words.calls kj2 t280 t283 t286 _ ?side1 A8.out).mono ?_); (case side1 => exact GOK.below HGL.out qne0_); rintro e w12 ⟨rfl, hb⟩; refine ⟨_, rfl, ?_⟩; have n0_ := Aside0.mk (below_step qne0_ hb); clear HB; have HB := n0_; clear n0_; (try clear hb); (try clear hb2); (try clear hk); (try clear hi)) | (have ztk20 := tk20; clear tk20 ztk20; (with_reducible refine gate_callee (f := 76) rfl ?_); refine goesL_ (some 35) rfl rfl Tryd.func76 (by kernel_rfl) rfl #[.string t281, .string t284] rfl qne1_ ?_; (with_reducible refine (numeral_runs.calls kj2 t281 t284 t287 _ A9.out).mono ?_); rintro e w13 ⟨rfl, hb⟩; refine ⟨_, rfl, ?_⟩; have n0_ := Aside0.mk (below_step qne0_ hb); clear HB; have HB := n0_; clear n0_; (try clear hb); (try clear hb2); (try clear hk); (try clear hi)) | (have ztk21 := tk21; clear tk21 ztk21; (with_reducible refine gate_dst (N := 36) rfl ?_); refine Kd.R_lit (Kd.int .i64) _ 3 ?hg (N := 36) ?hd (xs := ([t286, t287] : List Int)) (inner := [.int .i64 t286, .int .i64 t287]) (ok := fun _ => True) (okp := fun _ => True) ?hr ?hp (fun _ hk => hk) trivial (Below.refl _ _) (Nat.le_refl _) (by simp) ?_; (case hd => rfl); (case hg => rfl); (case hr => first | (go_simp; done) | (go_simp; rfl)); (case hp => exact (Reps.one (show Kd.M (Kd.int .i64) _ _ _ t286 [.int .i64 t286] from rfl) (Reps.one (show Kd.M (Kd.int .i64) _ _ _ t287 [.int .i64 t287] from rfl) (Reps.none _ _)))); intro v289 w14 ho15 hb hg_ hnew_; clear hg_ hnew_; (first | rw [← Ny288.out] at ho15 | (simp only [Int.reduceToNat] at ho15; rw [← Ny288.out] at ho15)); have n0_ := Aside0.mk (Kd.R_lower ho15 (below_size qne0_)); have n1_ := Aside0.mk (below_step qne0_ hb); clear HB; have HO290 := n0_; have HB := n1_; clear n0_ n1_; clear hb ho15; obtain ⟨Ao16, co16, eo16⟩ := Kd.R_slice HO290.out; subst eo16) | (have ztk22 := tk22; clear tk22 ztk22; (with_reducible refine gate_callee (f := 72) rfl ?_); refine goesL_ (some 37) rfl rfl Tryd.func72 (by kernel_rfl) rfl #[.slice Ao16 y288.length co16] rfl qne1_ ?_; (with_reducible refine (cmp_Or_int.calls kj2 _ _ y288 t291 _ ?side1 ?side2 A10.out).mono ?_); (case side1 => repeat (first | exact (Kd.R_reads' HO290.out).2.2 | (with_reducible refine Kd.C_alloc ?_ _) | (with_reducible refine Kd.C_drewN ?_ _) | (with_reducible refine Kd.C_drew ?_))); (case side2 => exact (Kd.R_reads' HO290.out).2.1); rintro e w' ⟨rfl, ⟨nd, rfl⟩⟩; refine ⟨_, rfl, ?_⟩))
       go_roundg kj2
       case measure => have := HK1.out; have := HJ2.out; omega
       case rel => exact ⟨(t282), (t285), qne2_, qne2_, H', ⟨by have := HK1.out; have := HJ2.out; omega⟩, ⟨qne0_⟩⟩
      ·
       rw [if_neg c11] at H
       have c11b0 : (t291 == 0) = false := beq_eq_false_iff_ne.mpr c11
       have c11b1 : (t291 != 0) = true := bne_iff_ne.mpr c11
       obtain rfl := Option.some.inj H
       have tk28 : True := trivial; have tk29 : True := trivial; have tk30 : True := trivial; have tk31 : True := trivial; have tk32 : True := trivial; have tk33 : True := trivial
       go_wp2_with (first | (have ztk28 := tk28; clear tk28 ztk28; (with_reducible refine gate_callee (f := 74) rfl ?_); refine goesL_ (some 20) rfl rfl Tryd.func74 (by kernel_rfl) rfl #[.string x0_1] rfl qne1_ ?_; (with_reducible refine (numeral_pair.calls kj2 x0_1 t280 t281 t282 _ A6.out).mono ?_); rintro e w' ⟨rfl, ⟨nd, rfl⟩⟩; refine ⟨_, rfl, ?_⟩) | (have ztk29 := tk29; clear tk29 ztk29; (with_reducible refine gate_callee (f := 74) rfl ?_); refine goesL_ (some 26) rfl rfl Tryd.func74 (by kernel_rfl) rfl #[.string x1_1] rfl qne1_ ?_; (with_reducible refine (numeral_pair.calls kj2 x1_1 t283 t284 t285 _ A7.out).mono ?_); rintro e w' ⟨rfl, ⟨nd, rfl⟩⟩; refine ⟨_, rfl, ?_⟩) | (have ztk30 := tk30; clear tk30 ztk30; (with_reducible refine gate_callee (f := 75) rfl ?_); refine goesL_ (some 32) rfl rfl Tryd.func75 (by kernel_rfl) rfl #[.string t280, .string t283] rfl qne1_ ?_; (with_reducible refine (numeral_words.calls kj2 t280 t283 t286 _ ?side1 A8.out).mono ?_); (case side1 => exact GOK.below HGL.out qne0_); rintro e w23 ⟨rfl, hb⟩; refine ⟨_, rfl, ?_⟩; have n0_ := Aside0.mk (below_step qne0_ hb); clear HB; have HB := n0_; clear n0_; (try clear hb); (try clear hb2); (try clear hk); (try clear hi)) | (have ztk31 := tk31; clear tk31 ztk31; (with_reducible refine gate_callee (f := 76) rfl ?_); refine goesL_ (some 35) rfl rfl Tryd.func76 (by kernel_rfl) rfl #[.string t281, .string t284] rfl qne1_ ?_; (with_reducible refine (numeral_runs.calls kj2 t281 t284 t287 _ A9.out).mono ?_); rintro e w24 ⟨rfl, hb⟩; refine ⟨_, rfl, ?_⟩; have n0_ := Aside0.mk (below_step qne0_ hb); clear HB; have HB := n0_; clear n0_; (try clear hb); (try clear hb2); (try clear hk); (try clear hi)) | (have ztk32 := tk32; clear tk32 ztk32; (with_reducible refine gate_dst (N := 36) rfl ?_); refine Kd.R_lit (Kd.int .i64) _ 3 ?hg (N := 36) ?hd (xs := ([t286, t287] : List Int)) (inner := [.int .i64 t286, .int .i64 t287]) (ok := fun _ => True) (okp := fun _ => True) ?hr ?hp (fun _ hk => hk) trivial (Below.refl _ _) (Nat.le_refl _) (by simp) ?_; (case hd => rfl); (case hg => rfl); (case hr => first | (go_simp; done) | (go_simp; rfl)); (case hp => exact (Reps.one (show Kd.M (Kd.int .i64) _ _ _ t286 [.int .i64 t286] from rfl) (Reps.one (show Kd.M (Kd.int .i64) _ _ _ t287 [.int .i64 t287] from rfl) (Reps.none _ _)))); intro v289 w25 ho26 hb hg_ hnew_; clear hg_ hnew_; (first | rw [← Ny288.out] at ho26 | (simp only [Int.reduceToNat] at ho26; rw [← Ny288.out] at ho26)); have n0_ := Aside0.mk (Kd.R_lower ho26 (below_size qne0_)); have n1_ := Aside0.mk (below_step qne0_ hb); clear HB; have HO290 := n0_; have HB := n1_; clear n0_ n1_; clear hb ho26; obtain ⟨Ao27, co27, eo27⟩ := Kd.R_slice HO290.out; subst eo27) | (have ztk33 := tk33; clear tk33 ztk33; (with_reducible refine gate_callee (f := 72) rfl ?_); refine goesL_ (some 37) rfl rfl Tryd.func72 (by kernel_rfl) rfl #[.slice Ao27 y288.length co27] rfl qne1_ ?_; (with_reducible refine (cmp_Or_int.calls kj2 _ _ y288 t291 _ ?side1 ?side2 A10.out).mono ?_); (case side1 => repeat (first | exact (Kd.R_reads' HO290.out).2.2 | (with_reducible refine Kd.C_alloc ?_ _) | (with_reducible refine Kd.C_drewN ?_ _) | (with_reducible refine Kd.C_drew ?_))); (case side2 => exact (Kd.R_reads' HO290.out).2.1); rintro e w' ⟨rfl, ⟨nd, rfl⟩⟩; refine ⟨_, rfl, ?_⟩))
       go_ret
       exact ⟨qne5_, qne0_⟩
     ·
      replace c5 := Bool.eq_false_iff.mpr c5
      subst c5
      have H1 : (some 0) = some r := by rw [if_neg (show ¬ (false = true) by decide)] at H; exact H
      clear H
      have H := H1
      clear H1
      obtain rfl := Option.some.inj H
      go_wp2
      go_ret
      exact ⟨qne5_, qne0_⟩


/-! ### api_Class_77: function 77 -/
def api_Class_77.f (a0 : Int) : Option (Bool) := some (a0 != a0)
set_option maxHeartbeats 8000000 in
set_option maxRecDepth 100000 in
theorem api_Class_77.calls (a0 : Int) (r : Bool) (w : World) (h : api_Class_77.f a0 = some r) :
  Calls Tryd.prog 77 #[.int .u8 a0] w fun e w' => e = .returned (.bool r) ∧ Drawn0 w w' := by
 have H : (some (a0 != a0)) = some r := h
 clear h
 obtain rfl := Option.some.inj H
 go_enter Tryd.func77, Tryd.ntmps77
 go_wp2
 go_ret
 exact ⟨qne2_, qne12_⟩


/-! ### api_Class_53: function 53 -/
def api_Class_53.f (a0 : Int) (a1 : Int) : Option (Int) := (api_Class_77.f a0).bind fun t292 => ((api_Class_77.f a1).bind fun t293 => (if t292 = true then (if t293 = true then (some 0) else (some (-1))) else (if t293 = true then (some 1) else (if a0 < a1 then (some (-1)) else (if a0 > a1 then (some 1) else (some 0))))))
set_option maxHeartbeats 8000000 in
set_option maxRecDepth 100000 in
theorem api_Class_53.calls (a0 : Int) (a1 : Int) (r : Int) (w : World) (h : api_Class_53.f a0 a1 = some r) :
  Calls Tryd.prog 53 #[.int .u8 a0, .int .u8 a1] w fun e w' => e = .returned (.int .i64 r) ∧ Drawn0 w w' := by
 have H : ((api_Class_77.f a0).bind fun t292 => ((api_Class_77.f a1).bind fun t293 => (if t292 = true then (if t293 = true then (some 0) else (some (-1))) else (if t293 = true then (some 1) else (if a0 < a1 then (some (-1)) else (if a0 > a1 then (some 1) else (some 0))))))) = some r := h
 clear h
 replace H := Option.bind_eq_some_iff.mp H
 obtain ⟨t292, A30, H⟩ := H
 replace H : ((api_Class_77.f a1).bind fun t293 => (if t292 = true then (if t293 = true then (some 0) else (some (-1))) else (if t293 = true then (some 1) else (if a0 < a1 then (some (-1)) else (if a0 > a1 then (some 1) else (some 0)))))) = some r := H
 have A3 := Aside0.mk A30
 clear A30
 replace H := Option.bind_eq_some_iff.mp H
 obtain ⟨t293, A40, H⟩ := H
 replace H : (if t292 = true then (if t293 = true then (some 0) else (some (-1))) else (if t293 = true then (some 1) else (if a0 < a1 then (some (-1)) else (if a0 > a1 then (some 1) else (some 0))))) = some r := H
 have A4 := Aside0.mk A40
 clear A40
 by_cases c5 : t292 = true
 ·
  subst c5
  have H1 : (if t293 = true then (some 0) else (some (-1))) = some r := by rw [if_pos rfl] at H; exact H
  clear H
  have H := H1
  clear H1
  by_cases c6 : t293 = true
  ·
   subst c6
   have H1 : (some 0) = some r := by rw [if_pos rfl] at H; exact H
   clear H
   have H := H1
   clear H1
   obtain rfl := Option.some.inj H
   go_enter Tryd.func53, Tryd.ntmps53
   have tk7 : True := trivial; have tk8 : True := trivial
   go_wp2_with (first | (have ztk7 := tk7; clear tk7 ztk7; (with_reducible refine gate_callee (f := 77) rfl ?_); refine goesL_ (some 8) rfl rfl Tryd.func77 (by kernel_rfl) rfl #[.int .u8 a0] rfl qne1_ ?_; (with_reducible refine (api_Class_77.calls a0 true _ A3.out).mono ?_); rintro e w' ⟨rfl, ⟨nd, rfl⟩⟩; refine ⟨_, rfl, ?_⟩) | (have ztk8 := tk8; clear tk8 ztk8; (with_reducible refine gate_callee (f := 77) rfl ?_); refine goesL_ (some 10) rfl rfl Tryd.func77 (by kernel_rfl) rfl #[.int .u8 a1] rfl qne1_ ?_; (with_reducible refine (api_Class_77.calls a1 true _ A4.out).mono ?_); rintro e w' ⟨rfl, ⟨nd, rfl⟩⟩; refine ⟨_, rfl, ?_⟩))
   go_ret
   exact ⟨qne2_, qne12_⟩
  ·
   replace c6 := Bool.eq_false_iff.mpr c6
   subst c6
   have H1 : (some (-1)) = some r := by rw [if_neg (show ¬ (false = true) by decide)] at H; exact H
   clear H
   have H := H1
   clear H1
   obtain rfl := Option.some.inj H
   go_enter Tryd.func53, Tryd.ntmps53
   have tk9 : True := trivial; have tk10 : True := trivial
   go_wp2_with (first | (have ztk9 := tk9; clear tk9 ztk9; (with_reducible refine gate_callee (f := 77) rfl ?_); refine goesL_ (some 8) rfl rfl Tryd.func77 (by kernel_rfl) rfl #[.int .u8 a0] rfl qne1_ ?_; (with_reducible refine (api_Class_77.calls a0 true _ A3.out).mono ?_); rintro e w' ⟨rfl, ⟨nd, rfl⟩⟩; refine ⟨_, rfl, ?_⟩) | (have ztk10 := tk10; clear tk10 ztk10; (with_reducible refine gate_callee (f := 77) rfl ?_); refine goesL_ (some 10) rfl rfl Tryd.func77 (by kernel_rfl) rfl #[.int .u8 a1] rfl qne1_ ?_; (with_reducible refine (api_Class_77.calls a1 false _ A4.out).mono ?_); rintro e w' ⟨rfl, ⟨nd, rfl⟩⟩; refine ⟨_, rfl, ?_⟩))
   go_ret
   exact ⟨qne2_, qne12_⟩
 ·
  replace c5 := Bool.eq_false_iff.mpr c5
  subst c5
  have H1 : (if t293 = true then (some 1) else (if a0 < a1 then (some (-1)) else (if a0 > a1 then (some 1) else (some 0)))) = some r := by rw [if_neg (show ¬ (false = true) by decide)] at H; exact H
  clear H
  have H := H1
  clear H1
  by_cases c11 : t293 = true
  ·
   subst c11
   have H1 : (some 1) = some r := by rw [if_pos rfl] at H; exact H
   clear H
   have H := H1
   clear H1
   obtain rfl := Option.some.inj H
   go_enter Tryd.func53, Tryd.ntmps53
   have tk12 : True := trivial; have tk13 : True := trivial
   go_wp2_with (first | (have ztk12 := tk12; clear tk12 ztk12; (with_reducible refine gate_callee (f := 77) rfl ?_); refine goesL_ (some 8) rfl rfl Tryd.func77 (by kernel_rfl) rfl #[.int .u8 a0] rfl qne1_ ?_; (with_reducible refine (api_Class_77.calls a0 false _ A3.out).mono ?_); rintro e w' ⟨rfl, ⟨nd, rfl⟩⟩; refine ⟨_, rfl, ?_⟩) | (have ztk13 := tk13; clear tk13 ztk13; (with_reducible refine gate_callee (f := 77) rfl ?_); refine goesL_ (some 10) rfl rfl Tryd.func77 (by kernel_rfl) rfl #[.int .u8 a1] rfl qne1_ ?_; (with_reducible refine (api_Class_77.calls a1 true _ A4.out).mono ?_); rintro e w' ⟨rfl, ⟨nd, rfl⟩⟩; refine ⟨_, rfl, ?_⟩))
   go_ret
   exact ⟨qne2_, qne12_⟩
  ·
   replace c11 := Bool.eq_false_iff.mpr c11
   subst c11
   have H1 : (if a0 < a1 then (some (-1)) else (if a0 > a1 then (some 1) else (some 0))) = some r := by rw [if_neg (show ¬ (false = true) by decide)] at H; exact H
   clear H
   have H := H1
   clear H1
   by_cases c14 : a0 < a1
   ·
    rw [if_pos c14] at H
    have c14b0 : decide (a0 < a1) = true := decide_eq_true c14
    clear c14
    obtain rfl := Option.some.inj H
    go_enter Tryd.func53, Tryd.ntmps53
    have tk15 : True := trivial; have tk16 : True := trivial
    go_wp2_with (first | (have ztk15 := tk15; clear tk15 ztk15; (with_reducible refine gate_callee (f := 77) rfl ?_); refine goesL_ (some 8) rfl rfl Tryd.func77 (by kernel_rfl) rfl #[.int .u8 a0] rfl qne1_ ?_; (with_reducible refine (api_Class_77.calls a0 false _ A3.out).mono ?_); rintro e w' ⟨rfl, ⟨nd, rfl⟩⟩; refine ⟨_, rfl, ?_⟩) | (have ztk16 := tk16; clear tk16 ztk16; (with_reducible refine gate_callee (f := 77) rfl ?_); refine goesL_ (some 10) rfl rfl Tryd.func77 (by kernel_rfl) rfl #[.int .u8 a1] rfl qne1_ ?_; (with_reducible refine (api_Class_77.calls a1 false _ A4.out).mono ?_); rintro e w' ⟨rfl, ⟨nd, rfl⟩⟩; refine ⟨_, rfl, ?_⟩))
    go_ret
    exact ⟨qne2_, qne12_⟩
   ·
    rw [if_neg c14] at H
    have c14b0 : decide (a0 < a1) = false := decide_eq_false c14
    clear c14
    by_cases c17 : a0 > a1
    ·
     rw [if_pos c17] at H
     have c17b0 : decide (a1 < a0) = true := decide_eq_true c17
     clear c17
     obtain rfl := Option.some.inj H
     go_enter Tryd.func53, Tryd.ntmps53
     have tk18 : True := trivial; have tk19 : True := trivial
     go_wp2_with (first | (have ztk18 := tk18; clear tk18 ztk18; (with_reducible refine gate_callee (f := 77) rfl ?_); refine goesL_ (some 8) rfl rfl Tryd.func77 (by kernel_rfl) rfl #[.int .u8 a0] rfl qne1_ ?_; (with_reducible refine (api_Class_77.calls a0 false _ A3.out).mono ?_); rintro e w' ⟨rfl, ⟨nd, rfl⟩⟩; refine ⟨_, rfl, ?_⟩) | (have ztk19 := tk19; clear tk19 ztk19; (with_reducible refine gate_callee (f := 77) rfl ?_); refine goesL_ (some 10) rfl rfl Tryd.func77 (by kernel_rfl) rfl #[.int .u8 a1] rfl qne1_ ?_; (with_reducible refine (api_Class_77.calls a1 false _ A4.out).mono ?_); rintro e w' ⟨rfl, ⟨nd, rfl⟩⟩; refine ⟨_, rfl, ?_⟩))
     go_ret
     exact ⟨qne2_, qne12_⟩
    ·
     rw [if_neg c17] at H
     have c17b0 : decide (a1 < a0) = false := decide_eq_false c17
     clear c17
     obtain rfl := Option.some.inj H
     go_enter Tryd.func53, Tryd.ntmps53
     have tk20 : True := trivial; have tk21 : True := trivial
     go_wp2_with (first | (have ztk20 := tk20; clear tk20 ztk20; (with_reducible refine gate_callee (f := 77) rfl ?_); refine goesL_ (some 8) rfl rfl Tryd.func77 (by kernel_rfl) rfl #[.int .u8 a0] rfl qne1_ ?_; (with_reducible refine (api_Class_77.calls a0 false _ A3.out).mono ?_); rintro e w' ⟨rfl, ⟨nd, rfl⟩⟩; refine ⟨_, rfl, ?_⟩) | (have ztk21 := tk21; clear tk21 ztk21; (with_reducible refine gate_callee (f := 77) rfl ?_); refine goesL_ (some 10) rfl rfl Tryd.func77 (by kernel_rfl) rfl #[.int .u8 a1] rfl qne1_ ?_; (with_reducible refine (api_Class_77.calls a1 false _ A4.out).mono ?_); rintro e w' ⟨rfl, ⟨nd, rfl⟩⟩; refine ⟨_, rfl, ?_⟩))
     go_ret
     exact ⟨qne2_, qne12_⟩

end Go.Proofs.YtcdajedmlfhmeaaDoor.XN
