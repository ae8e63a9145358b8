import Derived.Test.YtcdajedmlfhmeaaDoorZNP0
namespace Go.Proofs.YtcdajedmlfhmeaaDoor.XN
open Go.RowKit Go.Proofs.YtcdajedmlfhmeaaDoorW.PrintWords Go.Proofs.YtcdajedmlfhmeaaDoorW.PrintLast Go.Proofs.YtcdajedmlfhmeaaDoorW.PrintMore
attribute [local go_sem] max2_int min2_int max_two min_two max_three min_three max_four min_four
set_option linter.unusedVariables false
set_option linter.unusedSimpArgs false

/-! ### strings_TrimRight: function 67 -/
mutual
def strings_TrimRight.j0 : Nat → ByteArray → ByteArray → Bool → Option (ByteArray)
 | 0, _, _, _ => none
 | k + 1, x0, x1, x12 => if x12 = true then (some x0) else (if (x1.size : Int) = 1 then (if 0 < (x1.size : Int) then (strings_TrimRight.j1 k x0 x1 (decide ((bt x1 0) < 128))) else (none)) else (strings_TrimRight.j1 k x0 x1 false))
def strings_TrimRight.j1 : Nat → ByteArray → ByteArray → Bool → Option (ByteArray)
 | 0, _, _, _ => none
 | k + 1, x0, x1, x21 => if x21 = true then (if 0 < (x1.size : Int) then ((strings_trimRightByte.f k x0 (bt x1 0)).bind fun t108 => (some t108)) else (none)) else (none)
end
def strings_TrimRight.f (k : Nat) (a0 : ByteArray) (a1 : ByteArray) : Option (ByteArray) := if a0.toList = ([] : List UInt8) then (strings_TrimRight.j0 k a0 a1 true) else (strings_TrimRight.j0 k a0 a1 a1.toList.isEmpty)
set_option maxHeartbeats 8000000 in
set_option maxRecDepth 100000 in
theorem strings_TrimRight.calls (k : Nat) (a0 : ByteArray) (a1 : ByteArray) (r : ByteArray) (w : World) (h : strings_TrimRight.f k a0 a1 = some r) :
  Calls Tryd.prog 67 #[.string a0, .string a1] w fun e w' => e = .returned (.string r) ∧ Below w.heap.size w w' := by
 have HB := Aside0.mk (Below.refl w.heap.size w)
 have H : (if a0.toList = ([] : List UInt8) then (strings_TrimRight.j0 k a0 a1 true) else (strings_TrimRight.j0 k a0 a1 a1.toList.isEmpty)) = some r := h
 clear h
 have HC3 := Aside0.mk H
 clear H
 go_enter Tryd.func67, Tryd.ntmps67
 go_upto_region 1 with (fail)
 go_cut [12] (fun v12 wc => ∃ (kq : Nat) (x12_2 : Bool), v12 = .bool x12_2 ∧ Aside0 (strings_TrimRight.j0 kq a0 a1 x12_2 = some r) ∧ Aside0 (kq ≤ k) ∧ Aside0 (Below w.heap.size w wc))
 case first =>
  have H := HC3.out
  clear HC3
  by_cases c4 : a0.toList = ([] : List UInt8)
  ·
   rw [if_pos c4] at H
   have c4b0 : (a0.toList == ([] : List UInt8)) = true := beq_iff_eq.mpr c4
   have c4b1 : (a0.toList != ([] : List UInt8)) = false := bne_eq_false_iff_eq.mpr c4
   clear c4
   (first | rw [c4b0] | (simp only [i64_w, i32_w]; rw [c4b0]) | skip)
   have H' := Aside0.mk H
   clear H
   go_wp2
   go_meet
   case rel => exact ⟨_, (true), qnp2_, H', ⟨by first | omega | exact Nat.le_refl _⟩, ⟨qnp1_⟩⟩
  ·
   rw [if_neg c4] at H
   have c4b0 : (a0.toList == ([] : List UInt8)) = false := beq_eq_false_iff_ne.mpr c4
   have c4b1 : (a0.toList != ([] : List UInt8)) = true := bne_iff_ne.mpr c4
   (first | rw [c4b0] | (simp only [i64_w, i32_w]; rw [c4b0]) | skip)
   have H' := Aside0.mk H
   clear H
   go_wp2
   go_meet
   case rel => exact ⟨_, (a1.toList.isEmpty), qnp2_, H', ⟨by first | omega | exact Nat.le_refl _⟩, ⟨qnp1_⟩⟩
 case rest =>
  clear HC3
  (try clear p2); (try clear c4); (try clear c4b0); (try clear c4b1)
  obtain ⟨kq, x12_2, rfl, HA, HJ2, HB⟩ := hcut
  cases kq with
  | zero => exact absurd HA.out (by simp [strings_TrimRight.j0])
  | succ kj2 =>
   have H := HA.out
   clear HA
   simp only [strings_TrimRight.j0] at H
   by_cases c5 : x12_2 = true
   ·
    subst c5
    have H1 : (some a0) = some r := by rw [if_pos rfl] at H; exact H
    clear H
    have H := H1
    clear H1
    obtain rfl := Option.some.inj H
    go_wp2
    go_ret
    exact ⟨qnp5_, qnp1_⟩
   ·
    replace c5 := Bool.eq_false_iff.mpr c5
    subst c5
    have H1 : (if (a1.size : Int) = 1 then (if 0 < (a1.size : Int) then (strings_TrimRight.j1 kj2 a0 a1 (decide ((bt a1 0) < 128))) else (none)) else (strings_TrimRight.j1 kj2 a0 a1 false)) = some r := by rw [if_neg (show ¬ (false = true) by decide)] at H; exact H
    clear H
    have H := H1
    clear H1
    have HC6 := Aside0.mk H
    clear H
    go_upto_region 3 with (fail)
    go_cut [21] (fun v21 wc => ∃ (kq : Nat) (x21_5 : Bool), v21 = .bool x21_5 ∧ Aside0 (strings_TrimRight.j1 kq a0 a1 x21_5 = some r) ∧ Aside0 (kq ≤ kj2) ∧ Aside0 (Below w.heap.size w wc))
    case first =>
     have H := HC6.out
     clear HC6
     by_cases c7 : (a1.size : Int) = 1
     ·
      rw [if_pos c7] at H
      have c7b0 : ((a1.size : Int) == 1) = true := beq_iff_eq.mpr c7
      have c7b1 : ((a1.size : Int) != 1) = false := bne_eq_false_iff_eq.mpr c7
      clear c7
      (first | rw [c7b0] | (simp only [i64_w, i32_w]; rw [c7b0]) | skip)
      by_cases c8 : 0 < (a1.size : Int)
      ·
       rw [if_pos c8] at H
       have c8b0 : decide (0 < (a1.size : Int)) = true := decide_eq_true c8
       have c8b1 : decide (0 < a1.size) = true := decide_eq_true (by omega)
       clear c8
       have H' := Aside0.mk H
       clear H
       have p9 : 0 ≤ (0 : Int) := (by omega)
       have q9 : 0 < a1.size := qnp74_
       have hx9 : ∀ h : 0 < a1.size, ((a1[0]'h).toNat : Int) = bt a1 0 := bt_at a1 0
       clear p9
       have qi9 : (0 < (a1.size : Int)) = True := eq_true (of_decide_eq_true qnp3_)
       replace q9 := eq_true q9
       go_wp2
       go_meet
       case rel => exact ⟨_, (decide ((bt a1 0) < 128)), qnp2_, H', ⟨by have := HJ2.out; first | omega | exact Nat.le_refl _⟩, ⟨qnp1_⟩⟩
      ·
       rw [if_neg c8] at H
       exact absurd H (by simp)
     ·
      rw [if_neg c7] at H
      have c7b0 : ((a1.size : Int) == 1) = false := beq_eq_false_iff_ne.mpr c7
      have c7b1 : ((a1.size : Int) != 1) = true := bne_iff_ne.mpr c7
      (first | rw [c7b0] | (simp only [i64_w, i32_w]; rw [c7b0]) | skip)
      have H' := Aside0.mk H
      clear H
      go_wp2
      go_meet
      case rel => exact ⟨_, (false), qnp2_, H', ⟨by have := HJ2.out; first | omega | exact Nat.le_refl _⟩, ⟨qnp1_⟩⟩
    case rest =>
     clear HC6
     (try clear p2); (try clear c4); (try clear c4b0); (try clear c4b1); (try clear c5); (try clear c6); (try clear c7); (try clear c7b0); (try clear c7b1); (try clear c8); (try clear c8b0); (try clear c8b1); (try clear p9); (try clear q9); (try clear hx9); (try clear qi9); (try clear p2); (try clear p9); (try clear q9)
     obtain ⟨kq, x21_5, rfl, HA, HJ5, HB⟩ := hcut
     cases kq with
     | zero => exact absurd HA.out (by simp [strings_TrimRight.j1])
     | succ kj5 =>
      have H := HA.out
      clear HA
      simp only [strings_TrimRight.j1] at H
      by_cases c10 : x21_5 = true
      ·
       subst c10
       have H1 : (if 0 < (a1.size : Int) then ((strings_trimRightByte.f kj5 a0 (bt a1 0)).bind fun t108 => (some t108)) else (none)) = some r := by rw [if_pos rfl] at H; exact H
       clear H
       have H := H1
       clear H1
       by_cases c11 : 0 < (a1.size : Int)
       ·
        rw [if_pos c11] at H
        have c11b0 : decide (0 < (a1.size : Int)) = true := decide_eq_true c11
        have c11b1 : decide (0 < a1.size) = true := decide_eq_true (by omega)
        clear c11
        replace H := Option.bind_eq_some_iff.mp H
        obtain ⟨t108, A130, H⟩ := H
        replace H : (some t108) = some r := H
        have A13 := Aside0.mk A130
        clear A130
        obtain rfl := Option.some.inj H
        have p12 : 0 ≤ (0 : Int) := (by omega)
        have q12 : 0 < a1.size := qnp74_
        have hx12 : ∀ h : 0 < a1.size, ((a1[0]'h).toNat : Int) = bt a1 0 := bt_at a1 0
        clear p12
        have qi12 : (0 < (a1.size : Int)) = True := eq_true (of_decide_eq_true qnp3_)
        replace q12 := eq_true q12
        go_wp2_with (first | ((with_reducible refine gate_callee (f := 92) rfl ?_); refine goesL_ (some 25) rfl rfl Tryd.func92 (by kernel_rfl) rfl #[.string a0, .int .u8 (bt a1 0)] rfl qnp0_ ?_; (with_reducible refine (strings_trimRightByte.calls kj5 a0 (bt a1 0) t108 _ A13.out).mono ?_); rintro e w' ⟨rfl, ⟨nd, rfl⟩⟩; refine ⟨_, rfl, ?_⟩))
        go_ret
        exact ⟨qnp5_, qnp1_⟩
       ·
        rw [if_neg c11] at H
        exact absurd H (by simp)
      ·
       replace c10 := Bool.eq_false_iff.mpr c10
       subst c10
       have H1 : (none) = some r := by rw [if_neg (show ¬ (false = true) by decide)] at H; exact H
       clear H
       have H := H1
       clear H1
       exact absurd H (by simp)


/-! ### numeral_digits: function 38 -/
def numeral_digits.f (k : Nat) (a0 : ByteArray) (a1 : ByteArray) (a2 : Int) : Option (ByteArray × Int) := (strings_TrimLeft.f k a0 (⟨#[48]⟩ : ByteArray)).bind fun t141 => (if t141.toList = ([] : List UInt8) then ((strings_TrimLeft.f k a1 (⟨#[48]⟩ : ByteArray)).bind fun t142 => ((strings_TrimRight.f k t142 (⟨#[48]⟩ : ByteArray)).bind fun t143 => (if t143.toList = ([] : List UInt8) then (some ((⟨#[]⟩ : ByteArray), 0)) else (some (t143, wrap64 ((wrap64 ((t142.size : Int) - (a1.size : Int))) + a2)))))) else (if t141.size + a1.size ≤ 9223372036854775807 then ((strings_TrimRight.f k (t141 ++ a1) (⟨#[48]⟩ : ByteArray)).bind fun t144 => (if t144.toList = ([] : List UInt8) then (some ((⟨#[]⟩ : ByteArray), 0)) else (some (t144, wrap64 ((t141.size : Int) + a2))))) else (none)))
set_option maxHeartbeats 8000000 in
set_option maxRecDepth 100000 in
theorem numeral_digits.calls (k : Nat) (a0 : ByteArray) (a1 : ByteArray) (a2 : Int) (r1 : ByteArray) (r2 : Int) (w : World) (h : numeral_digits.f k a0 a1 a2 = some (r1, r2)) :
  Calls Tryd.prog 38 #[.string a0, .string a1, .int .i64 a2] w fun e w' => e = .returned (.tuple #[.string r1, .int .i64 r2]) ∧ Below w.heap.size w w' := by
 have HB := Aside0.mk (Below.refl w.heap.size w)
 have H : ((strings_TrimLeft.f k a0 (⟨#[48]⟩ : ByteArray)).bind fun t141 => (if t141.toList = ([] : List UInt8) then ((strings_TrimLeft.f k a1 (⟨#[48]⟩ : ByteArray)).bind fun t142 => ((strings_TrimRight.f k t142 (⟨#[48]⟩ : ByteArray)).bind fun t143 => (if t143.toList = ([] : List UInt8) then (some ((⟨#[]⟩ : ByteArray), 0)) else (some (t143, wrap64 ((wrap64 ((t142.size : Int) - (a1.size : Int))) + a2)))))) else (if t141.size + a1.size ≤ 9223372036854775807 then ((strings_TrimRight.f k (t141 ++ a1) (⟨#[48]⟩ : ByteArray)).bind fun t144 => (if t144.toList = ([] : List UInt8) then (some ((⟨#[]⟩ : ByteArray), 0)) else (some (t144, wrap64 ((t141.size : Int) + a2))))) else (none)))) = some (r1, r2) := h
 clear h
 replace H := Option.bind_eq_some_iff.mp H
 obtain ⟨t141, A40, H⟩ := H
 replace H : (if t141.toList = ([] : List UInt8) then ((strings_TrimLeft.f k a1 (⟨#[48]⟩ : ByteArray)).bind fun t142 => ((strings_TrimRight.f k t142 (⟨#[48]⟩ : ByteArray)).bind fun t143 => (if t143.toList = ([] : List UInt8) then (some ((⟨#[]⟩ : ByteArray), 0)) else (some (t143, wrap64 ((wrap64 ((t142.size : Int) - (a1.size : Int))) + a2)))))) else (if t141.size + a1.size ≤ 9223372036854775807 then ((strings_TrimRight.f k (t141 ++ a1) (⟨#[48]⟩ : ByteArray)).bind fun t144 => (if t144.toList = ([] : List UInt8) then (some ((⟨#[]⟩ : ByteArray), 0)) else (some (t144, wrap64 ((t141.size : Int) + a2))))) else (none))) = some (r1, r2) := H
 have A4 := Aside0.mk A40
 clear A40
 by_cases c5 : t141.toList = ([] : List UInt8)
 ·
  rw [if_pos c5] at H
  have c5b0 : (t141.toList == ([] : List UInt8)) = true := beq_iff_eq.mpr c5
  have c5b1 : (t141.toList != ([] : List UInt8)) = false := bne_eq_false_iff_eq.mpr c5
  clear c5
  replace H := Option.bind_eq_some_iff.mp H
  obtain ⟨t142, A60, H⟩ := H
  replace H : ((strings_TrimRight.f k t142 (⟨#[48]⟩ : ByteArray)).bind fun t143 => (if t143.toList = ([] : List UInt8) then (some ((⟨#[]⟩ : ByteArray), 0)) else (some (t143, wrap64 ((wrap64 ((t142.size : Int) - (a1.size : Int))) + a2))))) = some (r1, r2) := H
  have A6 := Aside0.mk A60
  clear A60
  replace H := Option.bind_eq_some_iff.mp H
  obtain ⟨t143, A70, H⟩ := H
  replace H : (if t143.toList = ([] : List UInt8) then (some ((⟨#[]⟩ : ByteArray), 0)) else (some (t143, wrap64 ((wrap64 ((t142.size : Int) - (a1.size : Int))) + a2)))) = some (r1, r2) := H
  have A7 := Aside0.mk A70
  clear A70
  by_cases c8 : t143.toList = ([] : List UInt8)
  ·
   rw [if_pos c8] at H
   have c8b0 : (t143.toList == ([] : List UInt8)) = true := beq_iff_eq.mpr c8
   have c8b1 : (t143.toList != ([] : List UInt8)) = false := bne_eq_false_iff_eq.mpr c8
   clear c8
   simp only [Option.some.injEq, Prod.mk.injEq] at H
   obtain ⟨rfl, rfl⟩ := H
   go_enter Tryd.func38, Tryd.ntmps38
   have tk12 : True := trivial; have tk13 : True := trivial; have tk14 : True := trivial
   go_wp2_with (first | (have ztk12 := tk12; clear tk12 ztk12; (with_reducible refine gate_callee (f := 66) rfl ?_); refine goesL_ (some 12) rfl rfl Tryd.func66 (by kernel_rfl) rfl #[.string a0, .string (⟨#[48]⟩ : ByteArray)] rfl qnp0_ ?_; (with_reducible refine (strings_TrimLeft.calls k a0 (⟨#[48]⟩ : ByteArray) t141 _ A4.out).mono ?_); rintro e w9 ⟨rfl, hb⟩; refine ⟨_, rfl, ?_⟩; have n0_ := Aside0.mk (below_step qnp1_ hb); clear HB; have HB := n0_; clear n0_; (try clear hb); (try clear hb2); (try clear hk); (try clear hi)) | (have ztk13 := tk13; clear tk13 ztk13; (with_reducible refine gate_callee (f := 66) rfl ?_); refine goesL_ (some 18) rfl rfl Tryd.func66 (by kernel_rfl) rfl #[.string a1, .string (⟨#[48]⟩ : ByteArray)] rfl qnp0_ ?_; (with_reducible refine (strings_TrimLeft.calls k a1 (⟨#[48]⟩ : ByteArray) t142 _ A6.out).mono ?_); rintro e w10 ⟨rfl, hb⟩; refine ⟨_, rfl, ?_⟩; have n0_ := Aside0.mk (below_step qnp1_ hb); clear HB; have HB := n0_; clear n0_; (try clear hb); (try clear hb2); (try clear hk); (try clear hi)) | (have ztk14 := tk14; clear tk14 ztk14; (with_reducible refine gate_callee (f := 67) rfl ?_); refine goesL_ (some 29) rfl rfl Tryd.func67 (by kernel_rfl) rfl #[.string t142, .string (⟨#[48]⟩ : ByteArray)] rfl qnp0_ ?_; (with_reducible refine (strings_TrimRight.calls k t142 (⟨#[48]⟩ : ByteArray) t143 _ A7.out).mono ?_); rintro e w11 ⟨rfl, hb⟩; refine ⟨_, rfl, ?_⟩; have n0_ := Aside0.mk (below_step qnp1_ hb); clear HB; have HB := n0_; clear n0_; (try clear hb); (try clear hb2); (try clear hk); (try clear hi)))
   go_ret2
   exact ⟨qnp5_, qnp1_⟩
  ·
   rw [if_neg c8] at H
   have c8b0 : (t143.toList == ([] : List UInt8)) = false := beq_eq_false_iff_ne.mpr c8
   have c8b1 : (t143.toList != ([] : List UInt8)) = true := bne_iff_ne.mpr c8
   simp only [Option.some.injEq, Prod.mk.injEq] at H
   obtain ⟨rfl, rfl⟩ := H
   go_enter Tryd.func38, Tryd.ntmps38
   have tk18 : True := trivial; have tk19 : True := trivial; have tk20 : True := trivial
   go_wp2_with (first | (have ztk18 := tk18; clear tk18 ztk18; (with_reducible refine gate_callee (f := 66) rfl ?_); refine goesL_ (some 12) rfl rfl Tryd.func66 (by kernel_rfl) rfl #[.string a0, .string (⟨#[48]⟩ : ByteArray)] rfl qnp0_ ?_; (with_reducible refine (strings_TrimLeft.calls k a0 (⟨#[48]⟩ : ByteArray) t141 _ A4.out).mono ?_); rintro e w15 ⟨rfl, hb⟩; refine ⟨_, rfl, ?_⟩; have n0_ := Aside0.mk (below_step qnp1_ hb); clear HB; have HB := n0_; clear n0_; (try clear hb); (try clear hb2); (try clear hk); (try clear hi)) | (have ztk19 := tk19; clear tk19 ztk19; (with_reducible refine gate_callee (f := 66) rfl ?_); refine goesL_ (some 18) rfl rfl Tryd.func66 (by kernel_rfl) rfl #[.string a1, .string (⟨#[48]⟩ : ByteArray)] rfl qnp0_ ?_; (with_reducible refine (strings_TrimLeft.calls k a1 (⟨#[48]⟩ : ByteArray) t142 _ A6.out).mono ?_); rintro e w16 ⟨rfl, hb⟩; refine ⟨_, rfl, ?_⟩; have n0_ := Aside0.mk (below_step qnp1_ hb); clear HB; have HB := n0_; clear n0_; (try clear hb); (try clear hb2); (try clear hk); (try clear hi)) | (have ztk20 := tk20; clear tk20 ztk20; (with_reducible refine gate_callee (f := 67) rfl ?_); refine goesL_ (some 29) rfl rfl Tryd.func67 (by kernel_rfl) rfl #[.string t142, .string (⟨#[48]⟩ : ByteArray)] rfl qnp0_ ?_; (with_reducible refine (strings_TrimRight.calls k t142 (⟨#[48]⟩ : ByteArray) t143 _ A7.out).mono ?_); rintro e w17 ⟨rfl, hb⟩; refine ⟨_, rfl, ?_⟩; have n0_ := Aside0.mk (below_step qnp1_ hb); clear HB; have HB := n0_; clear n0_; (try clear hb); (try clear hb2); (try clear hk); (try clear hi)))
   go_ret2
   exact ⟨qnp5_, qnp1_⟩
 ·
  rw [if_neg c5] at H
  have c5b0 : (t141.toList == ([] : List UInt8)) = false := beq_eq_false_iff_ne.mpr c5
  have c5b1 : (t141.toList != ([] : List UInt8)) = true := bne_iff_ne.mpr c5
  by_cases c21 : t141.size + a1.size ≤ 9223372036854775807
  ·
   rw [if_pos c21] at H
   have c21b0 := eq_true c21
   have c21b1 : decide (t141.size + a1.size ≤ 9223372036854775807) = true := decide_eq_true c21
   try have c21b2 : (9223372036854775807 < t141.size + a1.size) = False := eq_false (Nat.not_lt.2 c21)
   replace H := Option.bind_eq_some_iff.mp H
   obtain ⟨t144, A220, H⟩ := H
   replace H : (if t144.toList = ([] : List UInt8) then (some ((⟨#[]⟩ : ByteArray), 0)) else (some (t144, wrap64 ((t141.size : Int) + a2)))) = some (r1, r2) := H
   have A22 := Aside0.mk A220
   clear A220
   by_cases c23 : t144.toList = ([] : List UInt8)
   ·
    rw [if_pos c23] at H
    have c23b0 : (t144.toList == ([] : List UInt8)) = true := beq_iff_eq.mpr c23
    have c23b1 : (t144.toList != ([] : List UInt8)) = false := bne_eq_false_iff_eq.mpr c23
    clear c23
    simp only [Option.some.injEq, Prod.mk.injEq] at H
    obtain ⟨rfl, rfl⟩ := H
    go_enter Tryd.func38, Tryd.ntmps38
    have tk26 : True := trivial; have tk27 : True := trivial
    go_wp2_with (first | (have ztk26 := tk26; clear tk26 ztk26; (with_reducible refine gate_callee (f := 66) rfl ?_); refine goesL_ (some 12) rfl rfl Tryd.func66 (by kernel_rfl) rfl #[.string a0, .string (⟨#[48]⟩ : ByteArray)] rfl qnp0_ ?_; (with_reducible refine (strings_TrimLeft.calls k a0 (⟨#[48]⟩ : ByteArray) t141 _ A4.out).mono ?_); rintro e w24 ⟨rfl, hb⟩; refine ⟨_, rfl, ?_⟩; have n0_ := Aside0.mk (below_step qnp1_ hb); clear HB; have HB := n0_; clear n0_; (try clear hb); (try clear hb2); (try clear hk); (try clear hi)) | (have ztk27 := tk27; clear tk27 ztk27; (with_reducible refine gate_callee (f := 67) rfl ?_); refine goesL_ (some 29) rfl rfl Tryd.func67 (by kernel_rfl) rfl #[.string (t141 ++ a1), .string (⟨#[48]⟩ : ByteArray)] rfl qnp0_ ?_; (with_reducible refine (strings_TrimRight.calls k (t141 ++ a1) (⟨#[48]⟩ : ByteArray) t144 _ A22.out).mono ?_); rintro e w25 ⟨rfl, hb⟩; refine ⟨_, rfl, ?_⟩; have n0_ := Aside0.mk (below_step qnp1_ hb); clear HB; have HB := n0_; clear n0_; (try clear hb); (try clear hb2); (try clear hk); (try clear hi)))
    go_ret2
    exact ⟨qnp5_, qnp1_⟩
   ·
    rw [if_neg c23] at H
    have c23b0 : (t144.toList == ([] : List UInt8)) = false := beq_eq_false_iff_ne.mpr c23
    have c23b1 : (t144.toList != ([] : List UInt8)) = true := bne_iff_ne.mpr c23
    simp only [Option.some.injEq, Prod.mk.injEq] at H
    obtain ⟨rfl, rfl⟩ := H
    go_enter Tryd.func38, Tryd.ntmps38
    have tk30 : True := trivial; have tk31 : True := trivial
    go_wp2_with (first | (have ztk30 := tk30; clear tk30 ztk30; (with_reducible refine gate_callee (f := 66) rfl ?_); refine goesL_ (some 12) rfl rfl Tryd.func66 (by kernel_rfl) rfl #[.string a0, .string (⟨#[48]⟩ : ByteArray)] rfl qnp0_ ?_; (with_reducible refine (strings_TrimLeft.calls k a0 (⟨#[48]⟩ : ByteArray) t141 _ A4.out).mono ?_); rintro e w28 ⟨rfl, hb⟩; refine ⟨_, rfl, ?_⟩; have n0_ := Aside0.mk (below_step qnp1_ hb); clear HB; have HB := n0_; clear n0_; (try clear hb); (try clear hb2); (try clear hk); (try clear hi)) | (have ztk31 := tk31; clear tk31 ztk31; (with_reducible refine gate_callee (f := 67) rfl ?_); refine goesL_ (some 29) rfl rfl Tryd.func67 (by kernel_rfl) rfl #[.string (t141 ++ a1), .string (⟨#[48]⟩ : ByteArray)] rfl qnp0_ ?_; (with_reducible refine (strings_TrimRight.calls k (t141 ++ a1) (⟨#[48]⟩ : ByteArray) t144 _ A22.out).mono ?_); rintro e w29 ⟨rfl, hb⟩; refine ⟨_, rfl, ?_⟩; have n0_ := Aside0.mk (below_step qnp1_ hb); clear HB; have HB := n0_; clear n0_; (try clear hb); (try clear hb2); (try clear hk); (try clear hi)))
    go_ret2
    exact ⟨qnp5_, qnp1_⟩
  ·
   rw [if_neg c21] at H
   exact absurd H (by simp)


/-! ### numeral_General: function 17 -/
mutual
def numeral_General.j0 : Nat → ByteArray → Int → Bool → Option (Int × Bool × ByteArray × Int × Int)
 | 0, _, _, _ => none
 | k + 1, x0, x3, x4 => if x4 = true then (numeral_General.j1 k x0 x3 x4 true) else (if x3 < (x0.size : Int) then (if 0 ≤ x3 then (numeral_General.j1 k x0 x3 x4 ((bt x0 x3) == 43)) else (none)) else (numeral_General.j1 k x0 x3 x4 false))
def numeral_General.j1 : Nat → ByteArray → Int → Bool → Bool → Option (Int × Bool × ByteArray × Int × Int)
 | 0, _, _, _, _ => none
 | k + 1, x0, x3, x4, x36 => if x36 = true then (numeral_General.j2 k x0 (wrap64 (x3 + 1)) x4) else (numeral_General.j2 k x0 x3 x4)
def numeral_General.j2 : Nat → ByteArray → Int → Bool → Option (Int × Bool × ByteArray × Int × Int)
 | 0, _, _, _ => none
 | k + 1, x0, x3, x4 => numeral_General.l0 k x0 x3 x4 0
def numeral_General.l0 : Nat → ByteArray → Int → Bool → Int → Option (Int × Bool × ByteArray × Int × Int)
 | 0, _, _, _, _ => none
 | k + 1, x0, x3, x4, x40 => if x40 < 3 then (if x40 = 0 then ((numeral_begins.f k x0 x3 (⟨#[105, 110, 102, 105, 110, 105, 116, 121]⟩ : ByteArray)).bind fun t148 => (if t148 = true then (if x4 = true then (numeral_General.j4 k (⟨#[105, 110, 102, 105, 110, 105, 116, 121]⟩ : ByteArray) 2 false (⟨#[]⟩ : ByteArray) 0 (wrap64 (x3 + 8))) else (numeral_General.j4 k (⟨#[105, 110, 102, 105, 110, 105, 116, 121]⟩ : ByteArray) 4 false (⟨#[]⟩ : ByteArray) 0 (wrap64 (x3 + 8)))) else (numeral_General.l0 k x0 x3 x4 (wrap64 (x40 + 1))))) else (if x40 = 1 then ((numeral_begins.f k x0 x3 (⟨#[105, 110, 102]⟩ : ByteArray)).bind fun t151 => (if t151 = true then (if x4 = true then (numeral_General.j5 k (⟨#[105, 110, 102]⟩ : ByteArray) 2 false (⟨#[]⟩ : ByteArray) 0 (wrap64 (x3 + 3))) else (numeral_General.j5 k (⟨#[105, 110, 102]⟩ : ByteArray) 4 false (⟨#[]⟩ : ByteArray) 0 (wrap64 (x3 + 3)))) else (numeral_General.l0 k x0 x3 x4 (wrap64 (x40 + 1))))) else (if x40 = 2 then ((numeral_begins.f k x0 x3 (⟨#[110, 97, 110]⟩ : ByteArray)).bind fun t154 => (if t154 = true then (if x4 = true then (numeral_General.j6 k (⟨#[110, 97, 110]⟩ : ByteArray) 2 false (⟨#[]⟩ : ByteArray) 0 (wrap64 (x3 + 3))) else (numeral_General.j6 k (⟨#[110, 97, 110]⟩ : ByteArray) 4 false (⟨#[]⟩ : ByteArray) 0 (wrap64 (x3 + 3)))) else (numeral_General.l0 k x0 x3 x4 (wrap64 (x40 + 1))))) else (none)))) else ((numeral_plain.f x0 x3).bind fun bt156 => (if bt156.2.2.2 = 0 then (some (0, false, (⟨#[]⟩ : ByteArray), 0, 0)) else ((numeral_exponent.f k x0 bt156.2.2.2).bind fun bt161 => ((numeral_digits.f k bt156.2.1 bt156.2.2.1 bt161.1).bind fun bt164 => (if x4 = true then (some (3, (!bt164.1.toList.isEmpty), bt164.1, bt164.2, bt161.2)) else (some (3, false, bt164.1, bt164.2, bt161.2)))))))
def numeral_General.j4 : Nat → ByteArray → Int → Bool → ByteArray → Int → Int → Option (Int × Bool × ByteArray × Int × Int)
 | 0, _, _, _, _, _, _ => none
 | k + 1, x6, x150000, x150001, x150002, x150003, x150004 => if x6.toList = ([110, 97, 110] : List UInt8) then (some (1, x150001, x150002, x150003, x150004)) else (some (x150000, x150001, x150002, x150003, x150004))
def numeral_General.j5 : Nat → ByteArray → Int → Bool → ByteArray → Int → Int → Option (Int × Bool × ByteArray × Int × Int)
 | 0, _, _, _, _, _, _ => none
 | k + 1, x6, x153000, x153001, x153002, x153003, x153004 => if x6.toList = ([110, 97, 110] : List UInt8) then (some (1, x153001, x153002, x153003, x153004)) else (some (x153000, x153001, x153002, x153003, x153004))
def numeral_General.j6 : Nat → ByteArray → Int → Bool → ByteArray → Int → Int → Option (Int × Bool × ByteArray × Int × Int)
 | 0, _, _, _, _, _, _ => none
 | k + 1, x6, x156000, x156001, x156002, x156003, x156004 => if x6.toList = ([110, 97, 110] : List UInt8) then (some (1, x156001, x156002, x156003, x156004)) else (some (x156000, x156001, x156002, x156003, x156004))
end
def numeral_General.f (k : Nat) (a0 : ByteArray) : Option (Int × Bool × ByteArray × Int × Int) := (numeral_blanks.f k a0).bind fun t146 => (if t146 < (a0.size : Int) then (if 0 ≤ t146 then (numeral_General.j0 k a0 t146 ((bt a0 t146) == 45)) else (none)) else (numeral_General.j0 k a0 t146 false))
set_option maxHeartbeats 8000000 in
set_option maxRecDepth 100000 in
theorem numeral_General.calls (k : Nat) (a0 : ByteArray) (r1 : Int) (r2 : Bool) (r3 : ByteArray) (r4 : Int) (r5 : Int) (w : World) (h : numeral_General.f k a0 = some (r1, r2, r3, r4, r5)) :
  Calls Tryd.prog 17 #[.string a0] w fun e w' => e = .returned (.agg #[.int .u8 r1, .bool r2, .string r3, .int .i64 r4, .int .i64 r5]) ∧ Below w.heap.size w w' := by
 have hu29 := Tryd.underlying29
 have hu57 := Tryd.underlying57
 have hu55 := Tryd.underlying55
 have HB := Aside0.mk (Below.refl w.heap.size w)
 have H : ((numeral_blanks.f k a0).bind fun t146 => (if t146 < (a0.size : Int) then (if 0 ≤ t146 then (numeral_General.j0 k a0 t146 ((bt a0 t146) == 45)) else (none)) else (numeral_General.j0 k a0 t146 false))) = some (r1, r2, r3, r4, r5) := h
 clear h
 replace H := Option.bind_eq_some_iff.mp H
 obtain ⟨t146, A20, H⟩ := H
 replace H : (if t146 < (a0.size : Int) then (if 0 ≤ t146 then (numeral_General.j0 k a0 t146 ((bt a0 t146) == 45)) else (none)) else (numeral_General.j0 k a0 t146 false)) = some (r1, r2, r3, r4, r5) := H
 have A2 := Aside0.mk A20
 clear A20
 have HC3 := Aside0.mk H
 clear H
 go_enter Tryd.func17, Tryd.ntmps17
 have tk5 : True := trivial; have tk6 : True := trivial
 go_upto_region 2 with (first | (have ztk5 := tk5; clear tk5 ztk5; (with_reducible refine gate_dst (N := 2) rfl ?_); (try (refine gate_guard (by rfl) ?_; dsimp only)); refine box_event ?hg (N := 2) ?hd (cs := #[.int .u8 0, .bool false, .string (⟨#[]⟩ : ByteArray), .int .i64 0, .int .i64 0]) (t := 29) ?hr ?_; (case hd => rfl); (case hg => rfl); (case hr => first | (go_simp; done) | (go_simp; rfl)); intro gb145 hg w4 hbox hb; have n0_ := Aside0.mk (below_step qnp1_ hb); have n1_ := Aside0.mk (hbox); have n2_ := Aside0.mk ((by rw [hg]; exact (below_size qnp1_) : w.heap.size ≤ gb145)); have n3_ := Aside0.mk ((by rw [hg]; exact (below_size qnp1_) : w.heap.size ≤ gb145)); clear HB; have HB := n0_; have BK145 := n1_; have GW145 := n2_; have GE145 := n3_; clear n0_ n1_ n2_ n3_; clear hb hbox hg) | (have ztk6 := tk6; clear tk6 ztk6; (with_reducible refine gate_callee (f := 34) rfl ?_); refine goesL_ (some 13) rfl rfl Tryd.func34 (by kernel_rfl) rfl #[.string a0] rfl qnp0_ ?_; (with_reducible refine (numeral_blanks.calls k a0 t146 _ A2.out).mono ?_); rintro e w' ⟨rfl, ⟨nd, rfl⟩⟩; refine ⟨_, rfl, ?_⟩))
 (try simp only [Act.put, List.setIfInBounds_toArray, List.set_cons_zero, List.set_cons_succ])
 go_cut [4] (fun v4 wc => ∃ (kq : Nat) (x4_2 : Bool), v4 = .bool x4_2 ∧ Aside0 (numeral_General.j0 kq a0 t146 x4_2 = some (r1, r2, r3, r4, r5)) ∧ Aside0 (kq ≤ k) ∧ Aside0 (wc.heap[gb145]? = some (.cells #[.int .u8 0, .bool false, .string (⟨#[]⟩ : ByteArray), .int .i64 0, .int .i64 0] 29 (0, 0))) ∧ Aside0 (Below w.heap.size w wc))
 case first =>
  have H := HC3.out
  clear HC3
  by_cases c7 : t146 < (a0.size : Int)
  ·
   rw [if_pos c7] at H
   have c7b0 : decide (t146 < (a0.size : Int)) = true := decide_eq_true c7
   clear c7
   (first | rw [c7b0] | (simp only [i64_w, i32_w]; rw [c7b0]) | skip)
   by_cases c8 : 0 ≤ t146
   ·
    rw [if_pos c8] at H
    have c8b0 : decide (0 ≤ t146) = true := decide_eq_true c8
    clear c8
    have H' := Aside0.mk H
    clear H
    have p9 : 0 ≤ (t146 : Int) := of_decide_eq_true qnp3_
    have q9 : t146 < (a0.size : Int) := of_decide_eq_true qnp3_
    have hx9 := bt_at a0 t146
    replace p9 := eq_true p9
    replace q9 := eq_true q9
    go_wp2
    go_meet
    case rel => exact ⟨_, (((bt a0 t146) == 45)), qnp2_, H', ⟨by first | omega | exact Nat.le_refl _⟩, ⟨qnp10_⟩, ⟨qnp9_⟩⟩
   ·
    rw [if_neg c8] at H
    exact absurd H (by simp)
  ·
   rw [if_neg c7] at H
   have c7b0 : decide (t146 < (a0.size : Int)) = false := decide_eq_false c7
   clear c7
   (first | rw [c7b0] | (simp only [i64_w, i32_w]; rw [c7b0]) | skip)
   have H' := Aside0.mk H
   clear H
   go_wp2
   go_meet
   case rel => exact ⟨_, (false), qnp2_, H', ⟨by first | omega | exact Nat.le_refl _⟩, ⟨qnp10_⟩, ⟨qnp9_⟩⟩
 case rest =>
  clear HC3
  (try clear c1); (try clear p2); (try clear c3); (try clear c7); (try clear c7b0); (try clear c8); (try clear c8b0); (try clear p9); (try clear q9); (try clear hx9); (try clear p9); (try clear q9)
  obtain ⟨kq, x4_2, rfl, HA, HJ2, BK145, HB⟩ := hcut
  cases kq with
  | zero => exact absurd HA.out (by simp [numeral_General.j0])
  | succ kj2 =>
   have H := HA.out
   clear HA
   simp only [numeral_General.j0] at H
   have HC10 := Aside0.mk H
   clear H
   go_upto_region 3 with (fail)
   go_cut [36] (fun v36 wc => ∃ (kq : Nat) (x36_9 : Bool), v36 = .bool x36_9 ∧ Aside0 (numeral_General.j1 kq a0 t146 x4_2 x36_9 = some (r1, r2, r3, r4, r5)) ∧ Aside0 (kq ≤ kj2) ∧ Aside0 (wc.heap[gb145]? = some (.cells #[.int .u8 0, .bool false, .string (⟨#[]⟩ : ByteArray), .int .i64 0, .int .i64 0] 29 (0, 0))) ∧ Aside0 (Below w.heap.size w wc))
   case first =>
    have H := HC10.out
    clear HC10
    by_cases c11 : x4_2 = true
    ·
     subst c11
     have H1 : (numeral_General.j1 kj2 a0 t146 true true) = some (r1, r2, r3, r4, r5) := by rw [if_pos rfl] at H; exact H
     clear H
     have H := H1
     clear H1
     have H' := Aside0.mk H
     clear H
     go_wp2
     go_meet
     case rel => exact ⟨_, (true), qnp2_, H', ⟨by have := HJ2.out; first | omega | exact Nat.le_refl _⟩, ⟨qnp10_⟩, ⟨qnp9_⟩⟩
    ·
     replace c11 := Bool.eq_false_iff.mpr c11
     subst c11
     have H1 : (if t146 < (a0.size : Int) then (if 0 ≤ t146 then (numeral_General.j1 kj2 a0 t146 false ((bt a0 t146) == 43)) else (none)) else (numeral_General.j1 kj2 a0 t146 false false)) = some (r1, r2, r3, r4, r5) := by rw [if_neg (show ¬ (false = true) by decide)] at H; exact H
     clear H
     have H := H1
     clear H1
     by_cases c12 : t146 < (a0.size : Int)
     ·
      rw [if_pos c12] at H
      have c12b0 : decide (t146 < (a0.size : Int)) = true := decide_eq_true c12
      clear c12
      (first | rw [c12b0] | (simp only [i64_w, i32_w]; rw [c12b0]) | skip)
      by_cases c13 : 0 ≤ t146
      ·
       rw [if_pos c13] at H
       have c13b0 : decide (0 ≤ t146) = true := decide_eq_true c13
       clear c13
       have H' := Aside0.mk H
       clear H
       have p14 : 0 ≤ (t146 : Int) := of_decide_eq_true qnp3_
       have q14 : t146 < (a0.size : Int) := of_decide_eq_true qnp3_
       have hx14 := bt_at a0 t146
       replace p14 := eq_true p14
       replace q14 := eq_true q14
       go_wp2
       go_meet
       case rel => exact ⟨_, (((bt a0 t146) == 43)), qnp2_, H', ⟨by have := HJ2.out; first | omega | exact Nat.le_refl _⟩, ⟨qnp10_⟩, ⟨qnp9_⟩⟩
      ·
       rw [if_neg c13] at H
       exact absurd H (by simp)
     ·
      rw [if_neg c12] at H
      have c12b0 : decide (t146 < (a0.size : Int)) = false := decide_eq_false c12
      clear c12
      (first | rw [c12b0] | (simp only [i64_w, i32_w]; rw [c12b0]) | skip)
      have H' := Aside0.mk H
      clear H
      go_wp2
      go_meet
      case rel => exact ⟨_, (false), qnp2_, H', ⟨by have := HJ2.out; first | omega | exact Nat.le_refl _⟩, ⟨qnp10_⟩, ⟨qnp9_⟩⟩
   case rest =>
    clear HC10
    (try clear c1); (try clear p1); (try clear q1); (try clear hx1); (try clear p2); (try clear c3); (try clear c7); (try clear c7b0); (try clear c8); (try clear c8b0); (try clear p9); (try clear q9); (try clear hx9); (try clear c11); (try clear c12); (try clear c12b0); (try clear c13); (try clear c13b0); (try clear p14); (try clear q14); (try clear hx14); (try clear p14); (try clear p2); (try clear p9)
    (try clear q14); (try clear q9)
    obtain ⟨kq, x36_9, rfl, HA, HJ9, BK145, HB⟩ := hcut
    cases kq with
    | zero => exact absurd HA.out (by simp [numeral_General.j1])
    | succ kj9 =>
     have H := HA.out
     clear HA
     simp only [numeral_General.j1] at H
     have HC15 := Aside0.mk H
     clear H
     go_upto_if 36 with (fail)
     go_cut [3] (fun v3 wc => ∃ (kq : Nat) (x3_14 : Int), v3 = .int .i64 x3_14 ∧ Aside0 (numeral_General.j2 kq a0 x3_14 x4_2 = some (r1, r2, r3, r4, r5)) ∧ Aside0 (kq ≤ kj9) ∧ Aside0 (wc.heap[gb145]? = some (.cells #[.int .u8 0, .bool false, .string (⟨#[]⟩ : ByteArray), .int .i64 0, .int .i64 0] 29 (0, 0))) ∧ Aside0 (Below w.heap.size w wc))
     case first =>
      have H := HC15.out
      clear HC15
      by_cases c16 : x36_9 = true
      ·
       subst c16
       have H1 : (numeral_General.j2 kj9 a0 (wrap64 (t146 + 1)) x4_2) = some (r1, r2, r3, r4, r5) := by rw [if_pos rfl] at H; exact H
       clear H
       have H := H1
       clear H1
       have H' := Aside0.mk H
       clear H
       go_wp2
       go_meet
       case rel => exact ⟨_, (wrap64 (t146 + 1)), qnp2_, H', ⟨by have := HJ2.out; have := HJ9.out; first | omega | exact Nat.le_refl _⟩, ⟨qnp10_⟩, ⟨qnp9_⟩⟩
      ·
       replace c16 := Bool.eq_false_iff.mpr c16
       subst c16
       have H1 : (numeral_General.j2 kj9 a0 t146 x4_2) = some (r1, r2, r3, r4, r5) := by rw [if_neg (show ¬ (false = true) by decide)] at H; exact H
       clear H
       have H := H1
       clear H1
       have H' := Aside0.mk H
       clear H
       go_wp2
       go_meet
       case rel => exact ⟨_, (t146), qnp2_, H', ⟨by have := HJ2.out; have := HJ9.out; first | omega | exact Nat.le_refl _⟩, ⟨qnp10_⟩, ⟨qnp9_⟩⟩
     case rest =>
      clear HC15
      (try clear c1); (try clear p1); (try clear q1); (try clear hx1); (try clear p2); (try clear c3); (try clear p6); (try clear c7); (try clear c7b0); (try clear c8); (try clear c8b0); (try clear p9); (try clear q9); (try clear hx9); (try clear c11); (try clear c12); (try clear c12b0); (try clear c13); (try clear c13b0); (try clear p14); (try clear q14); (try clear hx14); (try clear c16); (try clear p1)
      (try clear p14); (try clear p2); (try clear p9); (try clear q1); (try clear q14); (try clear q9)
      obtain ⟨kq, x3_14, rfl, HA, HJ14, BK145, HB⟩ := hcut
      cases kq with
      | zero => exact absurd HA.out (by simp [numeral_General.j2])
      | succ kj14 =>
       have H := HA.out
       clear HA
       simp only [numeral_General.j2] at H
       have H' := Aside0.mk H
       clear H
       go_wp2
       go_loopg [40] kj14 (fun kq v40 w' => ∃ (x40_4 : Int) (x146000_4 : Int) (x146001_4 : Bool) (x146002_4 : ByteArray) (x146003_4 : Int) (x146004_4 : Int), v40 = .int .i64 x40_4 ∧ Aside0 (numeral_General.l0 kq a0 x3_14 x4_2 x40_4 = some (r1, r2, r3, r4, r5)) ∧ Aside0 (kq ≤ kj14) ∧ Aside0 (w'.heap[gb145]? = some (.cells #[.int .u8 x146000_4, .bool x146001_4, .string x146002_4, .int .i64 x146003_4, .int .i64 x146004_4] 29 (0, 0))) ∧ Aside0 (Below w.heap.size w w'))
       case atStart => exact ⟨(0), (0), (false), ((⟨#[]⟩ : ByteArray)), (0), (0), qnp2_, H', ⟨Nat.le_refl _⟩, ⟨qnp10_⟩, ⟨qnp9_⟩⟩
       case round =>
        clear H'
        (try clear c1); (try clear p1); (try clear q1); (try clear hx1); (try clear p2); (try clear c3); (try clear p6); (try clear c7); (try clear c7b0); (try clear c8); (try clear c8b0); (try clear p9); (try clear q9); (try clear hx9); (try clear c11); (try clear c12); (try clear c12b0); (try clear c13); (try clear c13b0); (try clear p14); (try clear q14); (try clear hx14); (try clear c16); (try clear p1)
        (try clear p14); (try clear p2); (try clear p6); (try clear p9); (try clear q1); (try clear q14); (try clear q9)
        obtain ⟨x40_4, x146000_4, x146001_4, x146002_4, x146003_4, x146004_4, rfl, HA, HK4, BK145, HB⟩ := hrel
        cases gk with
        | zero => exact absurd HA.out (by simp [numeral_General.l0])
        | succ k4 =>
         have H := HA.out
         clear HA
         simp only [numeral_General.l0] at H
         by_cases c17 : x40_4 < 3
         ·
          rw [if_pos c17] at H
          have c17b0 : decide (x40_4 < 3) = true := decide_eq_true c17
          clear c17
          by_cases c18 : x40_4 = 0
          ·
           rw [if_pos c18] at H
           have c18b0 : (x40_4 == 0) = true := beq_iff_eq.mpr c18
           have c18b1 : (x40_4 != 0) = false := bne_eq_false_iff_eq.mpr c18
           clear c18
           have ix147 : ∀ W_ : World, (Instr.index 57 (.agg #[.string (⟨#[105, 110, 102, 105, 110, 105, 116, 121]⟩ : ByteArray), .string (⟨#[105, 110, 102]⟩ : ByteArray), .string (⟨#[110, 97, 110]⟩ : ByteArray)]) (.int .i64 x40_4)).run Tryd.prog W_ = .ok (.string (⟨#[105, 110, 102, 105, 110, 105, 116, 121]⟩ : ByteArray)) W_ := by rw [show x40_4 = 0 from beq_iff_eq.mp qnp3_]; exact fun _ => by kernel_rfl
           replace H := Option.bind_eq_some_iff.mp H
           obtain ⟨t148, A190, H⟩ := H
           replace H : (if t148 = true then (if x4_2 = true then (numeral_General.j4 k4 (⟨#[105, 110, 102, 105, 110, 105, 116, 121]⟩ : ByteArray) 2 false (⟨#[]⟩ : ByteArray) 0 (wrap64 (x3_14 + 8))) else (numeral_General.j4 k4 (⟨#[105, 110, 102, 105, 110, 105, 116, 121]⟩ : ByteArray) 4 false (⟨#[]⟩ : ByteArray) 0 (wrap64 (x3_14 + 8)))) else (numeral_General.l0 k4 a0 x3_14 x4_2 (wrap64 (x40_4 + 1)))) = some (r1, r2, r3, r4, r5) := H
           have A19 := Aside0.mk A190
           clear A190
           by_cases c20 : t148 = true
           ·
            subst c20
            have H1 : (if x4_2 = true then (numeral_General.j4 k4 (⟨#[105, 110, 102, 105, 110, 105, 116, 121]⟩ : ByteArray) 2 false (⟨#[]⟩ : ByteArray) 0 (wrap64 (x3_14 + 8))) else (numeral_General.j4 k4 (⟨#[105, 110, 102, 105, 110, 105, 116, 121]⟩ : ByteArray) 4 false (⟨#[]⟩ : ByteArray) 0 (wrap64 (x3_14 + 8)))) = some (r1, r2, r3, r4, r5) := by rw [if_pos rfl] at H; exact H
            clear H
            have H := H1
            clear H1
            have HC21 := Aside0.mk H
            clear H
            have tk26 : True := trivial; have tk27 : True := trivial
            go_upto_if 53 with (first | (have ztk26 := tk26; clear tk26 ztk26; (with_reducible refine gate_callee (f := 35) rfl ?_); refine goesL_ (some 46) rfl rfl Tryd.func35 (by kernel_rfl) rfl #[.string a0, .int .i64 x3_14, .string (⟨#[105, 110, 102, 105, 110, 105, 116, 121]⟩ : ByteArray)] rfl qnp0_ ?_; (with_reducible refine (numeral_begins.calls k4 a0 x3_14 (⟨#[105, 110, 102, 105, 110, 105, 116, 121]⟩ : ByteArray) true _ A19.out).mono ?_); rintro e w' ⟨rfl, ⟨nd, rfl⟩⟩; refine ⟨_, rfl, ?_⟩; (try (rw [drewN_self wr]; generalize hq_ : World.drewN wr _ = wr; have n0_ : Aside0 (wr.heap[gb145]? = some (.cells #[.int .u8 x146000_4, .bool x146001_4, .string x146002_4, .int .i64 x146003_4, .int .i64 x146004_4] 29 (0, 0))) := ⟨by rw [← hq_]; exact qnp10_⟩; have n1_ : Aside0 (Below w.heap.size w wr) := ⟨by rw [← hq_]; exact qnp9_⟩; clear BK145 HB hq_; have BK145 := n0_; have HB := n1_; clear n0_ n1_)); (try (have hcu22_0 : wr.cell? ⟨gb145, 0, none⟩ = some (.int .u8 x146000_4) := (blk_cell BK145.out 0).trans rfl; have hfu22_0 := blk_frozen BK145.out 0; have hcu22_1 : wr.cell? ⟨gb145, 1, none⟩ = some (.bool x146001_4) := (blk_cell BK145.out 1).trans rfl; have hfu22_1 := blk_frozen BK145.out 1; have hcu22_2 : wr.cell? ⟨gb145, 2, none⟩ = some (.string x146002_4) := (blk_cell BK145.out 2).trans rfl; have hfu22_2 := blk_frozen BK145.out 2; have hcu22_3 : wr.cell? ⟨gb145, 3, none⟩ = some (.int .i64 x146003_4) := (blk_cell BK145.out 3).trans rfl; have hfu22_3 := blk_frozen BK145.out 3; have hcu22_4 : wr.cell? ⟨gb145, 4, none⟩ = some (.int .i64 x146004_4) := (blk_cell BK145.out 4).trans rfl; have hfu22_4 := blk_frozen BK145.out 4))) | (have ztk27 := tk27; clear tk27 ztk27; (with_reducible refine gate_dst (N := 7) rfl ?_); (try (refine gate_guard (by rfl) ?_; dsimp only)); refine box_event ?hg (N := 7) ?hd (cs := #[.int .u8 0, .bool false, .string (⟨#[]⟩ : ByteArray), .int .i64 0, .int .i64 0]) (t := 29) ?hr ?_; (case hd => rfl); (case hg => rfl); (case hr => first | (go_simp; done) | (go_simp; rfl)); intro gb149 hg w23 hbox hb; have n0_ := Aside0.mk (blk_below (g := gb145) (o := .cells #[.int .u8 x146000_4, .bool x146001_4, .string x146002_4, .int .i64 x146003_4, .int .i64 x146004_4] 29 (0, 0)) qnp10_ hb); have n1_ := Aside0.mk (below_step qnp9_ hb); have n2_ := Aside0.mk (hbox); have n3_ := Aside0.mk ((by rw [hg]; exact (below_size qnp9_) : w.heap.size ≤ gb149)); have n4_ := Aside0.mk ((by rw [hg]; exact (below_size qnp9_) : w.heap.size ≤ gb149)); have n5_ := Aside0.mk ((by rw [hg]; exact Nat.ne_of_lt (blk_lt (g := gb145) (o := .cells #[.int .u8 x146000_4, .bool x146001_4, .string x146002_4, .int .i64 x146003_4, .int .i64 x146004_4] 29 (0, 0)) qnp10_) : gb145 ≠ gb149)); have n6_ := Aside0.mk ((by rw [hg]; exact Nat.ne_of_gt (blk_lt (g := gb145) (o := .cells #[.int .u8 x146000_4, .bool x146001_4, .string x146002_4, .int .i64 x146003_4, .int .i64 x146004_4] 29 (0, 0)) qnp10_) : gb149 ≠ gb145)); clear BK145; clear HB; have BK145 := n0_; have HB := n1_; have BK149 := n2_; have GW149 := n3_; have GE149 := n4_; have NB145_149 := n5_; have NB149_145 := n6_; clear n0_ n1_ n2_ n3_ n4_ n5_ n6_; clear hb hbox hg; have hnb24 := NB149_145.out; have hnc24 := NB145_149.out; have hcz25_0 : w23.cell? ⟨gb149, 0, none⟩ = some (.int .u8 0) := (blk_cell BK149.out 0).trans rfl; have hcz25_1 : w23.cell? ⟨gb149, 1, none⟩ = some (.bool false) := (blk_cell BK149.out 1).trans rfl; have hcz25_2 : w23.cell? ⟨gb149, 2, none⟩ = some (.string (⟨#[]⟩ : ByteArray)) := (blk_cell BK149.out 2).trans rfl; have hcz25_3 : w23.cell? ⟨gb149, 3, none⟩ = some (.int .i64 0) := (blk_cell BK149.out 3).trans rfl; have hcz25_4 : w23.cell? ⟨gb149, 4, none⟩ = some (.int .i64 0) := (blk_cell BK149.out 4).trans rfl; have hfz25_0 := blk_frozen BK149.out 0; have hfz25_1 := blk_frozen BK149.out 1; have hfz25_2 := blk_frozen BK149.out 2; have hfz25_3 := blk_frozen BK149.out 3; have hfz25_4 := blk_frozen BK149.out 4))
            (try simp only [Act.put, List.setIfInBounds_toArray, List.set_cons_zero, List.set_cons_succ])
            go_cut [] (fun wc => ∃ (kq : Nat) (x150000_20 : Int), Aside0 (numeral_General.j4 kq (⟨#[105, 110, 102, 105, 110, 105, 116, 121]⟩ : ByteArray) x150000_20 false (⟨#[]⟩ : ByteArray) 0 (wrap64 (x3_14 + 8)) = some (r1, r2, r3, r4, r5)) ∧ Aside0 (kq ≤ k4) ∧ Aside0 (wc.heap[gb145]? = some (.cells #[.int .u8 x146000_4, .bool x146001_4, .string x146002_4, .int .i64 x146003_4, .int .i64 x146004_4] 29 (0, 0))) ∧ Aside0 (wc.heap[gb149]? = some (.cells #[.int .u8 x150000_20, .bool false, .string (⟨#[]⟩ : ByteArray), .int .i64 0, .int .i64 (wrap64 (x3_14 + 8))] 29 (0, 0))) ∧ Aside0 (Below w.heap.size w wc))
            case first =>
             have H := HC21.out
             clear HC21
             by_cases c28 : x4_2 = true
             ·
              subst c28
              have H1 : (numeral_General.j4 k4 (⟨#[105, 110, 102, 105, 110, 105, 116, 121]⟩ : ByteArray) 2 false (⟨#[]⟩ : ByteArray) 0 (wrap64 (x3_14 + 8))) = some (r1, r2, r3, r4, r5) := by rw [if_pos rfl] at H; exact H
              clear H
              have H := H1
              clear H1
              have H' := Aside0.mk H
              clear H
              have hnb29 := NB149_145.out
              have hnc29 := NB145_149.out
              have hcz30_0 : w23.cell? ⟨gb149, 0, none⟩ = some (.int .u8 0) := (blk_cell BK149.out 0).trans rfl
              have hcz30_1 : w23.cell? ⟨gb149, 1, none⟩ = some (.bool false) := (blk_cell BK149.out 1).trans rfl
              have hcz30_2 : w23.cell? ⟨gb149, 2, none⟩ = some (.string (⟨#[]⟩ : ByteArray)) := (blk_cell BK149.out 2).trans rfl
              have hcz30_3 : w23.cell? ⟨gb149, 3, none⟩ = some (.int .i64 0) := (blk_cell BK149.out 3).trans rfl
              have hcz30_4 : w23.cell? ⟨gb149, 4, none⟩ = some (.int .i64 0) := (blk_cell BK149.out 4).trans rfl
              have hfz30_0 := blk_frozen BK149.out 0
              have hfz30_1 := blk_frozen BK149.out 1
              have hfz30_2 := blk_frozen BK149.out 2
              have hfz30_3 := blk_frozen BK149.out 3
              have hfz30_4 := blk_frozen BK149.out 4
              go_wp2
              go_meet
              case rel => exact ⟨_, (2), H', ⟨by have := HJ2.out; have := HJ9.out; have := HJ14.out; have := HK4.out; first | omega | exact Nat.le_refl _⟩, ⟨by (with_reducible repeat (first | refine blk_drewN ?_ _ | refine blk_drew ?_ | refine blk_alloc ?_ _)); refine blk_far ?_ NB145_149.out _; (with_reducible repeat (first | refine blk_drewN ?_ _ | refine blk_drew ?_ | refine blk_alloc ?_ _)); refine blk_far ?_ NB145_149.out _; (with_reducible repeat (first | refine blk_drewN ?_ _ | refine blk_drew ?_ | refine blk_alloc ?_ _)); refine blk_far ?_ NB145_149.out _; (with_reducible repeat (first | refine blk_drewN ?_ _ | refine blk_drew ?_ | refine blk_alloc ?_ _)); refine blk_far ?_ NB145_149.out _; (with_reducible repeat (first | refine blk_drewN ?_ _ | refine blk_drew ?_ | refine blk_alloc ?_ _)); refine blk_far ?_ NB145_149.out _; (with_reducible repeat (first | refine blk_drewN ?_ _ | refine blk_drew ?_ | refine blk_alloc ?_ _)); refine blk_far ?_ NB145_149.out _; (with_reducible repeat (first | refine blk_drewN ?_ _ | refine blk_drew ?_ | refine blk_alloc ?_ _)); exact BK145.out⟩, ⟨by (with_reducible repeat (first | refine blk_drewN ?_ _ | refine blk_drew ?_ | refine blk_alloc ?_ _)); refine blk_put (cs := #[.int .u8 4, .bool false, .string (⟨#[]⟩ : ByteArray), .int .i64 0, .int .i64 (wrap64 (x3_14 + 8))]) ?_ 0 _ rfl; (with_reducible repeat (first | refine blk_drewN ?_ _ | refine blk_drew ?_ | refine blk_alloc ?_ _)); refine blk_put (cs := #[.int .u8 4, .bool false, .string (⟨#[]⟩ : ByteArray), .int .i64 0, .int .i64 0]) ?_ 4 _ rfl; (with_reducible repeat (first | refine blk_drewN ?_ _ | refine blk_drew ?_ | refine blk_alloc ?_ _)); refine blk_put (cs := #[.int .u8 4, .bool false, .string (⟨#[]⟩ : ByteArray), .int .i64 0, .int .i64 0]) ?_ 3 _ rfl; (with_reducible repeat (first | refine blk_drewN ?_ _ | refine blk_drew ?_ | refine blk_alloc ?_ _)); refine blk_put (cs := #[.int .u8 4, .bool false, .string (⟨#[]⟩ : ByteArray), .int .i64 0, .int .i64 0]) ?_ 2 _ rfl; (with_reducible repeat (first | refine blk_drewN ?_ _ | refine blk_drew ?_ | refine blk_alloc ?_ _)); refine blk_put (cs := #[.int .u8 4, .bool false, .string (⟨#[]⟩ : ByteArray), .int .i64 0, .int .i64 0]) ?_ 1 _ rfl; (with_reducible repeat (first | refine blk_drewN ?_ _ | refine blk_drew ?_ | refine blk_alloc ?_ _)); refine blk_put (cs := #[.int .u8 0, .bool false, .string (⟨#[]⟩ : ByteArray), .int .i64 0, .int .i64 0]) ?_ 0 _ rfl; (with_reducible repeat (first | refine blk_drewN ?_ _ | refine blk_drew ?_ | refine blk_alloc ?_ _)); exact BK149.out⟩, ⟨qnp64_⟩⟩
             ·
              replace c28 := Bool.eq_false_iff.mpr c28
              subst c28
              have H1 : (numeral_General.j4 k4 (⟨#[105, 110, 102, 105, 110, 105, 116, 121]⟩ : ByteArray) 4 false (⟨#[]⟩ : ByteArray) 0 (wrap64 (x3_14 + 8))) = some (r1, r2, r3, r4, r5) := by rw [if_neg (show ¬ (false = true) by decide)] at H; exact H
              clear H
              have H := H1
              clear H1
              have H' := Aside0.mk H
              clear H
              go_wp2
              go_meet
              case rel => exact ⟨_, (4), H', ⟨by have := HJ2.out; have := HJ9.out; have := HJ14.out; have := HK4.out; first | omega | exact Nat.le_refl _⟩, ⟨by (with_reducible repeat (first | refine blk_drewN ?_ _ | refine blk_drew ?_ | refine blk_alloc ?_ _)); refine blk_far ?_ NB145_149.out _; (with_reducible repeat (first | refine blk_drewN ?_ _ | refine blk_drew ?_ | refine blk_alloc ?_ _)); refine blk_far ?_ NB145_149.out _; (with_reducible repeat (first | refine blk_drewN ?_ _ | refine blk_drew ?_ | refine blk_alloc ?_ _)); refine blk_far ?_ NB145_149.out _; (with_reducible repeat (first | refine blk_drewN ?_ _ | refine blk_drew ?_ | refine blk_alloc ?_ _)); refine blk_far ?_ NB145_149.out _; (with_reducible repeat (first | refine blk_drewN ?_ _ | refine blk_drew ?_ | refine blk_alloc ?_ _)); refine blk_far ?_ NB145_149.out _; (with_reducible repeat (first | refine blk_drewN ?_ _ | refine blk_drew ?_ | refine blk_alloc ?_ _)); exact BK145.out⟩, ⟨by (with_reducible repeat (first | refine blk_drewN ?_ _ | refine blk_drew ?_ | refine blk_alloc ?_ _)); refine blk_put (cs := #[.int .u8 4, .bool false, .string (⟨#[]⟩ : ByteArray), .int .i64 0, .int .i64 0]) ?_ 4 _ rfl; (with_reducible repeat (first | refine blk_drewN ?_ _ | refine blk_drew ?_ | refine blk_alloc ?_ _)); refine blk_put (cs := #[.int .u8 4, .bool false, .string (⟨#[]⟩ : ByteArray), .int .i64 0, .int .i64 0]) ?_ 3 _ rfl; (with_reducible repeat (first | refine blk_drewN ?_ _ | refine blk_drew ?_ | refine blk_alloc ?_ _)); refine blk_put (cs := #[.int .u8 4, .bool false, .string (⟨#[]⟩ : ByteArray), .int .i64 0, .int .i64 0]) ?_ 2 _ rfl; (with_reducible repeat (first | refine blk_drewN ?_ _ | refine blk_drew ?_ | refine blk_alloc ?_ _)); refine blk_put (cs := #[.int .u8 4, .bool false, .string (⟨#[]⟩ : ByteArray), .int .i64 0, .int .i64 0]) ?_ 1 _ rfl; (with_reducible repeat (first | refine blk_drewN ?_ _ | refine blk_drew ?_ | refine blk_alloc ?_ _)); refine blk_put (cs := #[.int .u8 0, .bool false, .string (⟨#[]⟩ : ByteArray), .int .i64 0, .int .i64 0]) ?_ 0 _ rfl; (with_reducible repeat (first | refine blk_drewN ?_ _ | refine blk_drew ?_ | refine blk_alloc ?_ _)); exact BK149.out⟩, ⟨qnp64_⟩⟩
            case rest =>
             clear HC21
             (try clear c1); (try clear p1); (try clear q1); (try clear hx1); (try clear c2); (try clear p2); (try clear c3); (try clear p6); (try clear c7); (try clear c7b0); (try clear c8); (try clear c8b0); (try clear p9); (try clear q9); (try clear hx9); (try clear c11); (try clear c12); (try clear c12b0); (try clear c13); (try clear c13b0); (try clear p14); (try clear q14); (try clear hx14); (try clear c16)
             (try clear c17); (try clear c17b0); (try clear c18); (try clear c18b0); (try clear c18b1); (try clear c20); (try clear c24); (try clear c28); (try clear c29); (try clear hcz25_0); (try clear hcz25_1); (try clear hcz25_2); (try clear hcz25_3); (try clear hcz25_4); (try clear hcz30_0); (try clear hcz30_1); (try clear hcz30_2); (try clear hcz30_3); (try clear hcz30_4); (try clear hfz25_0)
             (try clear hfz25_1); (try clear hfz25_2); (try clear hfz25_3); (try clear hfz25_4); (try clear hfz30_0); (try clear hfz30_1); (try clear hfz30_2); (try clear hfz30_3); (try clear hfz30_4); (try clear p1); (try clear p14); (try clear p2); (try clear p6); (try clear p9); (try clear q1); (try clear q14); (try clear q9)
             obtain ⟨kq, x150000_20, HA, HJ20, BK145, BK149, HB⟩ := hcut
             cases kq with
             | zero => exact absurd HA.out (by simp [numeral_General.j4])
             | succ kj20 =>
              have H := HA.out
              clear HA
              simp only [numeral_General.j4] at H
              by_cases c31 : (⟨#[105, 110, 102, 105, 110, 105, 116, 121]⟩ : ByteArray).toList = ([110, 97, 110] : List UInt8)
              ·
                exact absurd ((ByteArray.toList_eq _).symm.trans c31) (by decide)
              ·
               rw [if_neg c31] at H
               have c31b0 : ((⟨#[105, 110, 102, 105, 110, 105, 116, 121]⟩ : ByteArray).toList == ([110, 97, 110] : List UInt8)) = false := beq_eq_false_iff_ne.mpr c31
               have c31b1 : ((⟨#[105, 110, 102, 105, 110, 105, 116, 121]⟩ : ByteArray).toList != ([110, 97, 110] : List UInt8)) = true := bne_iff_ne.mpr c31
               simp only [Option.some.injEq, Prod.mk.injEq] at H
               obtain ⟨rfl, rfl, rfl, rfl, rfl⟩ := H
               have hnb35 := NB149_145.out
               have hnc35 := NB145_149.out
               have hcz36_0 : wc.cell? ⟨gb149, 0, none⟩ = some (.int .u8 x150000_20) := (blk_cell BK149.out 0).trans rfl
               have hcz36_1 : wc.cell? ⟨gb149, 1, none⟩ = some (.bool false) := (blk_cell BK149.out 1).trans rfl
               have hcz36_2 : wc.cell? ⟨gb149, 2, none⟩ = some (.string (⟨#[]⟩ : ByteArray)) := (blk_cell BK149.out 2).trans rfl
               have hcz36_3 : wc.cell? ⟨gb149, 3, none⟩ = some (.int .i64 0) := (blk_cell BK149.out 3).trans rfl
               have hcz36_4 : wc.cell? ⟨gb149, 4, none⟩ = some (.int .i64 (wrap64 (x3_14 + 8))) := (blk_cell BK149.out 4).trans rfl
               have hfz36_0 := blk_frozen BK149.out 0
               have hfz36_1 := blk_frozen BK149.out 1
               have hfz36_2 := blk_frozen BK149.out 2
               have hfz36_3 := blk_frozen BK149.out 3
               have hfz36_4 := blk_frozen BK149.out 4
               have hcz37_0 : wc.cell? ⟨gb145, 0, none⟩ = some (.int .u8 x146000_4) := (blk_cell BK145.out 0).trans rfl
               have hcz37_1 : wc.cell? ⟨gb145, 1, none⟩ = some (.bool x146001_4) := (blk_cell BK145.out 1).trans rfl
               have hcz37_2 : wc.cell? ⟨gb145, 2, none⟩ = some (.string x146002_4) := (blk_cell BK145.out 2).trans rfl
               have hcz37_3 : wc.cell? ⟨gb145, 3, none⟩ = some (.int .i64 x146003_4) := (blk_cell BK145.out 3).trans rfl
               have hcz37_4 : wc.cell? ⟨gb145, 4, none⟩ = some (.int .i64 x146004_4) := (blk_cell BK145.out 4).trans rfl
               have hfz37_0 := blk_frozen BK145.out 0
               have hfz37_1 := blk_frozen BK145.out 1
               have hfz37_2 := blk_frozen BK145.out 2
               have hfz37_3 := blk_frozen BK145.out 3
               have hfz37_4 := blk_frozen BK145.out 4
               go_wp2
               refine bodyPost_ret (results_cell_row rfl _ _ gb145 29 #[.int .u8 x150000_20, .bool false, .string (⟨#[]⟩ : ByteArray), .int .i64 0, .int .i64 (wrap64 (x3_14 + 8))] (0, 0) _ rfl (by (with_reducible repeat (first | refine blk_drewN ?_ _ | refine blk_drew ?_ | refine blk_alloc ?_ _)); refine blk_put (cs := #[.int .u8 x150000_20, .bool false, .string (⟨#[]⟩ : ByteArray), .int .i64 0, .int .i64 x146004_4]) ?_ 4 _ rfl; (with_reducible repeat (first | refine blk_drewN ?_ _ | refine blk_drew ?_ | refine blk_alloc ?_ _)); refine blk_put (cs := #[.int .u8 x150000_20, .bool false, .string (⟨#[]⟩ : ByteArray), .int .i64 x146003_4, .int .i64 x146004_4]) ?_ 3 _ rfl; (with_reducible repeat (first | refine blk_drewN ?_ _ | refine blk_drew ?_ | refine blk_alloc ?_ _)); refine blk_put (cs := #[.int .u8 x150000_20, .bool false, .string x146002_4, .int .i64 x146003_4, .int .i64 x146004_4]) ?_ 2 _ rfl; (with_reducible repeat (first | refine blk_drewN ?_ _ | refine blk_drew ?_ | refine blk_alloc ?_ _)); refine blk_put (cs := #[.int .u8 x150000_20, .bool x146001_4, .string x146002_4, .int .i64 x146003_4, .int .i64 x146004_4]) ?_ 1 _ rfl; (with_reducible repeat (first | refine blk_drewN ?_ _ | refine blk_drew ?_ | refine blk_alloc ?_ _)); refine blk_put (cs := #[.int .u8 x146000_4, .bool x146001_4, .string x146002_4, .int .i64 x146003_4, .int .i64 x146004_4]) ?_ 0 _ rfl; (with_reducible repeat (first | refine blk_drewN ?_ _ | refine blk_drew ?_ | refine blk_alloc ?_ _)); exact BK145.out) Tryd.underlying29 rfl (by kernel_rfl)) rfl ?_
               exact ⟨qnp5_, qnp64_⟩
           ·
            replace c20 := Bool.eq_false_iff.mpr c20
            subst c20
            have H1 : (numeral_General.l0 k4 a0 x3_14 x4_2 (wrap64 (x40_4 + 1))) = some (r1, r2, r3, r4, r5) := by rw [if_neg (show ¬ (false = true) by decide)] at H; exact H
            clear H
            have H := H1
            clear H1
            have H' := Aside0.mk H
            clear H
            go_wp2_with (first | ((with_reducible refine gate_callee (f := 35) rfl ?_); refine goesL_ (some 46) rfl rfl Tryd.func35 (by kernel_rfl) rfl #[.string a0, .int .i64 x3_14, .string (⟨#[105, 110, 102, 105, 110, 105, 116, 121]⟩ : ByteArray)] rfl qnp0_ ?_; (with_reducible refine (numeral_begins.calls k4 a0 x3_14 (⟨#[105, 110, 102, 105, 110, 105, 116, 121]⟩ : ByteArray) false _ A19.out).mono ?_); rintro e w' ⟨rfl, ⟨nd, rfl⟩⟩; refine ⟨_, rfl, ?_⟩))
            go_roundg k4
            case measure => have := HJ2.out; have := HJ9.out; have := HJ14.out; have := HK4.out; omega
            case rel => exact ⟨(wrap64 (x40_4 + 1)), (x146000_4), (x146001_4), (x146002_4), (x146003_4), (x146004_4), qnp2_, H', ⟨by have := HJ2.out; have := HJ9.out; have := HJ14.out; have := HK4.out; omega⟩, ⟨qnp10_⟩, ⟨qnp9_⟩⟩
          ·
           rw [if_neg c18] at H
           have c18b0 : (x40_4 == 0) = false := beq_eq_false_iff_ne.mpr c18
           have c18b1 : (x40_4 != 0) = true := bne_iff_ne.mpr c18
           by_cases c38 : x40_4 = 1
           ·
            rw [if_pos c38] at H
            have c38b0 : (x40_4 == 1) = true := beq_iff_eq.mpr c38
            have c38b1 : (x40_4 != 1) = false := bne_eq_false_iff_eq.mpr c38
            clear c38
            have ix150 : ∀ W_ : World, (Instr.index 57 (.agg #[.string (⟨#[105, 110, 102, 105, 110, 105, 116, 121]⟩ : ByteArray), .string (⟨#[105, 110, 102]⟩ : ByteArray), .string (⟨#[110, 97, 110]⟩ : ByteArray)]) (.int .i64 x40_4)).run Tryd.prog W_ = .ok (.string (⟨#[105, 110, 102]⟩ : ByteArray)) W_ := by rw [show x40_4 = 1 from beq_iff_eq.mp qnp3_]; exact fun _ => by kernel_rfl
            replace H := Option.bind_eq_some_iff.mp H
            obtain ⟨t151, A390, H⟩ := H
            replace H : (if t151 = true then (if x4_2 = true then (numeral_General.j5 k4 (⟨#[105, 110, 102]⟩ : ByteArray) 2 false (⟨#[]⟩ : ByteArray) 0 (wrap64 (x3_14 + 3))) else (numeral_General.j5 k4 (⟨#[105, 110, 102]⟩ : ByteArray) 4 false (⟨#[]⟩ : ByteArray) 0 (wrap64 (x3_14 + 3)))) else (numeral_General.l0 k4 a0 x3_14 x4_2 (wrap64 (x40_4 + 1)))) = some (r1, r2, r3, r4, r5) := H
            have A39 := Aside0.mk A390
            clear A390
            by_cases c40 : t151 = true
            ·
             subst c40
             have H1 : (if x4_2 = true then (numeral_General.j5 k4 (⟨#[105, 110, 102]⟩ : ByteArray) 2 false (⟨#[]⟩ : ByteArray) 0 (wrap64 (x3_14 + 3))) else (numeral_General.j5 k4 (⟨#[105, 110, 102]⟩ : ByteArray) 4 false (⟨#[]⟩ : ByteArray) 0 (wrap64 (x3_14 + 3)))) = some (r1, r2, r3, r4, r5) := by rw [if_pos rfl] at H; exact H
             clear H
             have H := H1
             clear H1
             have HC41 := Aside0.mk H
             clear H
             have tk46 : True := trivial; have tk47 : True := trivial
             go_upto_if 53 with (first | (have ztk46 := tk46; clear tk46 ztk46; (with_reducible refine gate_callee (f := 35) rfl ?_); refine goesL_ (some 46) rfl rfl Tryd.func35 (by kernel_rfl) rfl #[.string a0, .int .i64 x3_14, .string (⟨#[105, 110, 102]⟩ : ByteArray)] rfl qnp0_ ?_; (with_reducible refine (numeral_begins.calls k4 a0 x3_14 (⟨#[105, 110, 102]⟩ : ByteArray) true _ A39.out).mono ?_); rintro e w' ⟨rfl, ⟨nd, rfl⟩⟩; refine ⟨_, rfl, ?_⟩; (try (rw [drewN_self wr]; generalize hq_ : World.drewN wr _ = wr; have n0_ : Aside0 (wr.heap[gb145]? = some (.cells #[.int .u8 x146000_4, .bool x146001_4, .string x146002_4, .int .i64 x146003_4, .int .i64 x146004_4] 29 (0, 0))) := ⟨by rw [← hq_]; exact qnp10_⟩; have n1_ : Aside0 (Below w.heap.size w wr) := ⟨by rw [← hq_]; exact qnp9_⟩; clear BK145 HB hq_; have BK145 := n0_; have HB := n1_; clear n0_ n1_)); (try (have hcu42_0 : wr.cell? ⟨gb145, 0, none⟩ = some (.int .u8 x146000_4) := (blk_cell BK145.out 0).trans rfl; have hfu42_0 := blk_frozen BK145.out 0; have hcu42_1 : wr.cell? ⟨gb145, 1, none⟩ = some (.bool x146001_4) := (blk_cell BK145.out 1).trans rfl; have hfu42_1 := blk_frozen BK145.out 1; have hcu42_2 : wr.cell? ⟨gb145, 2, none⟩ = some (.string x146002_4) := (blk_cell BK145.out 2).trans rfl; have hfu42_2 := blk_frozen BK145.out 2; have hcu42_3 : wr.cell? ⟨gb145, 3, none⟩ = some (.int .i64 x146003_4) := (blk_cell BK145.out 3).trans rfl; have hfu42_3 := blk_frozen BK145.out 3; have hcu42_4 : wr.cell? ⟨gb145, 4, none⟩ = some (.int .i64 x146004_4) := (blk_cell BK145.out 4).trans rfl; have hfu42_4 := blk_frozen BK145.out 4))) | (have ztk47 := tk47; clear tk47 ztk47; (with_reducible refine gate_dst (N := 7) rfl ?_); (try (refine gate_guard (by rfl) ?_; dsimp only)); refine box_event ?hg (N := 7) ?hd (cs := #[.int .u8 0, .bool false, .string (⟨#[]⟩ : ByteArray), .int .i64 0, .int .i64 0]) (t := 29) ?hr ?_; (case hd => rfl); (case hg => rfl); (case hr => first | (go_simp; done) | (go_simp; rfl)); intro gb152 hg w43 hbox hb; have n0_ := Aside0.mk (blk_below (g := gb145) (o := .cells #[.int .u8 x146000_4, .bool x146001_4, .string x146002_4, .int .i64 x146003_4, .int .i64 x146004_4] 29 (0, 0)) qnp10_ hb); have n1_ := Aside0.mk (below_step qnp9_ hb); have n2_ := Aside0.mk (hbox); have n3_ := Aside0.mk ((by rw [hg]; exact (below_size qnp9_) : w.heap.size ≤ gb152)); have n4_ := Aside0.mk ((by rw [hg]; exact (below_size qnp9_) : w.heap.size ≤ gb152)); have n5_ := Aside0.mk ((by rw [hg]; exact Nat.ne_of_lt (blk_lt (g := gb145) (o := .cells #[.int .u8 x146000_4, .bool x146001_4, .string x146002_4, .int .i64 x146003_4, .int .i64 x146004_4] 29 (0, 0)) qnp10_) : gb145 ≠ gb152)); have n6_ := Aside0.mk ((by rw [hg]; exact Nat.ne_of_gt (blk_lt (g := gb145) (o := .cells #[.int .u8 x146000_4, .bool x146001_4, .string x146002_4, .int .i64 x146003_4, .int .i64 x146004_4] 29 (0, 0)) qnp10_) : gb152 ≠ gb145)); clear BK145; clear HB; have BK145 := n0_; have HB := n1_; have BK152 := n2_; have GW152 := n3_; have GE152 := n4_; have NB145_152 := n5_; have NB152_145 := n6_; clear n0_ n1_ n2_ n3_ n4_ n5_ n6_; clear hb hbox hg; have hnb44 := NB152_145.out; have hnc44 := NB145_152.out; have hcz45_0 : w43.cell? ⟨gb152, 0, none⟩ = some (.int .u8 0) := (blk_cell BK152.out 0).trans rfl; have hcz45_1 : w43.cell? ⟨gb152, 1, none⟩ = some (.bool false) := (blk_cell BK152.out 1).trans rfl; have hcz45_2 : w43.cell? ⟨gb152, 2, none⟩ = some (.string (⟨#[]⟩ : ByteArray)) := (blk_cell BK152.out 2).trans rfl; have hcz45_3 : w43.cell? ⟨gb152, 3, none⟩ = some (.int .i64 0) := (blk_cell BK152.out 3).trans rfl; have hcz45_4 : w43.cell? ⟨gb152, 4, none⟩ = some (.int .i64 0) := (blk_cell BK152.out 4).trans rfl; have hfz45_0 := blk_frozen BK152.out 0; have hfz45_1 := blk_frozen BK152.out 1; have hfz45_2 := blk_frozen BK152.out 2; have hfz45_3 := blk_frozen BK152.out 3; have hfz45_4 := blk_frozen BK152.out 4))
             (try simp only [Act.put, List.setIfInBounds_toArray, List.set_cons_zero, List.set_cons_succ])
             go_cut [] (fun wc => ∃ (kq : Nat) (x153000_40 : Int), Aside0 (numeral_General.j5 kq (⟨#[105, 110, 102]⟩ : ByteArray) x153000_40 false (⟨#[]⟩ : ByteArray) 0 (wrap64 (x3_14 + 3)) = some (r1, r2, r3, r4, r5)) ∧ Aside0 (kq ≤ k4) ∧ Aside0 (wc.heap[gb145]? = some (.cells #[.int .u8 x146000_4, .bool x146001_4, .string x146002_4, .int .i64 x146003_4, .int .i64 x146004_4] 29 (0, 0))) ∧ Aside0 (wc.heap[gb152]? = some (.cells #[.int .u8 x153000_40, .bool false, .string (⟨#[]⟩ : ByteArray), .int .i64 0, .int .i64 (wrap64 (x3_14 + 3))] 29 (0, 0))) ∧ Aside0 (Below w.heap.size w wc))
             case first =>
              have H := HC41.out
              clear HC41
              by_cases c48 : x4_2 = true
              ·
               subst c48
               have H1 : (numeral_General.j5 k4 (⟨#[105, 110, 102]⟩ : ByteArray) 2 false (⟨#[]⟩ : ByteArray) 0 (wrap64 (x3_14 + 3))) = some (r1, r2, r3, r4, r5) := by rw [if_pos rfl] at H; exact H
               clear H
               have H := H1
               clear H1
               have H' := Aside0.mk H
               clear H
               have hnb49 := NB152_145.out
               have hnc49 := NB145_152.out
               have hcz50_0 : w43.cell? ⟨gb152, 0, none⟩ = some (.int .u8 0) := (blk_cell BK152.out 0).trans rfl
               have hcz50_1 : w43.cell? ⟨gb152, 1, none⟩ = some (.bool false) := (blk_cell BK152.out 1).trans rfl
               have hcz50_2 : w43.cell? ⟨gb152, 2, none⟩ = some (.string (⟨#[]⟩ : ByteArray)) := (blk_cell BK152.out 2).trans rfl
               have hcz50_3 : w43.cell? ⟨gb152, 3, none⟩ = some (.int .i64 0) := (blk_cell BK152.out 3).trans rfl
               have hcz50_4 : w43.cell? ⟨gb152, 4, none⟩ = some (.int .i64 0) := (blk_cell BK152.out 4).trans rfl
               have hfz50_0 := blk_frozen BK152.out 0
               have hfz50_1 := blk_frozen BK152.out 1
               have hfz50_2 := blk_frozen BK152.out 2
               have hfz50_3 := blk_frozen BK152.out 3
               have hfz50_4 := blk_frozen BK152.out 4
               go_wp2
               go_meet
               case rel => exact ⟨_, (2), H', ⟨by have := HJ2.out; have := HJ9.out; have := HJ14.out; have := HK4.out; first | omega | exact Nat.le_refl _⟩, ⟨by (with_reducible repeat (first | refine blk_drewN ?_ _ | refine blk_drew ?_ | refine blk_alloc ?_ _)); refine blk_far ?_ NB145_152.out _; (with_reducible repeat (first | refine blk_drewN ?_ _ | refine blk_drew ?_ | refine blk_alloc ?_ _)); refine blk_far ?_ NB145_152.out _; (with_reducible repeat (first | refine blk_drewN ?_ _ | refine blk_drew ?_ | refine blk_alloc ?_ _)); refine blk_far ?_ NB145_152.out _; (with_reducible repeat (first | refine blk_drewN ?_ _ | refine blk_drew ?_ | refine blk_alloc ?_ _)); refine blk_far ?_ NB145_152.out _; (with_reducible repeat (first | refine blk_drewN ?_ _ | refine blk_drew ?_ | refine blk_alloc ?_ _)); refine blk_far ?_ NB145_152.out _; (with_reducible repeat (first | refine blk_drewN ?_ _ | refine blk_drew ?_ | refine blk_alloc ?_ _)); refine blk_far ?_ NB145_152.out _; (with_reducible repeat (first | refine blk_drewN ?_ _ | refine blk_drew ?_ | refine blk_alloc ?_ _)); exact BK145.out⟩, ⟨by (with_reducible repeat (first | refine blk_drewN ?_ _ | refine blk_drew ?_ | refine blk_alloc ?_ _)); refine blk_put (cs := #[.int .u8 4, .bool false, .string (⟨#[]⟩ : ByteArray), .int .i64 0, .int .i64 (wrap64 (x3_14 + 3))]) ?_ 0 _ rfl; (with_reducible repeat (first | refine blk_drewN ?_ _ | refine blk_drew ?_ | refine blk_alloc ?_ _)); refine blk_put (cs := #[.int .u8 4, .bool false, .string (⟨#[]⟩ : ByteArray), .int .i64 0, .int .i64 0]) ?_ 4 _ rfl; (with_reducible repeat (first | refine blk_drewN ?_ _ | refine blk_drew ?_ | refine blk_alloc ?_ _)); refine blk_put (cs := #[.int .u8 4, .bool false, .string (⟨#[]⟩ : ByteArray), .int .i64 0, .int .i64 0]) ?_ 3 _ rfl; (with_reducible repeat (first | refine blk_drewN ?_ _ | refine blk_drew ?_ | refine blk_alloc ?_ _)); refine blk_put (cs := #[.int .u8 4, .bool false, .string (⟨#[]⟩ : ByteArray), .int .i64 0, .int .i64 0]) ?_ 2 _ rfl; (with_reducible repeat (first | refine blk_drewN ?_ _ | refine blk_drew ?_ | refine blk_alloc ?_ _)); refine blk_put (cs := #[.int .u8 4, .bool false, .string (⟨#[]⟩ : ByteArray), .int .i64 0, .int .i64 0]) ?_ 1 _ rfl; (with_reducible repeat (first | refine blk_drewN ?_ _ | refine blk_drew ?_ | refine blk_alloc ?_ _)); refine blk_put (cs := #[.int .u8 0, .bool false, .string (⟨#[]⟩ : ByteArray), .int .i64 0, .int .i64 0]) ?_ 0 _ rfl; (with_reducible repeat (first | refine blk_drewN ?_ _ | refine blk_drew ?_ | refine blk_alloc ?_ _)); exact BK152.out⟩, ⟨qnp63_⟩⟩
              ·
               replace c48 := Bool.eq_false_iff.mpr c48
               subst c48
               have H1 : (numeral_General.j5 k4 (⟨#[105, 110, 102]⟩ : ByteArray) 4 false (⟨#[]⟩ : ByteArray) 0 (wrap64 (x3_14 + 3))) = some (r1, r2, r3, r4, r5) := by rw [if_neg (show ¬ (false = true) by decide)] at H; exact H
               clear H
               have H := H1
               clear H1
               have H' := Aside0.mk H
               clear H
               go_wp2
               go_meet
               case rel => exact ⟨_, (4), H', ⟨by have := HJ2.out; have := HJ9.out; have := HJ14.out; have := HK4.out; first | omega | exact Nat.le_refl _⟩, ⟨by (with_reducible repeat (first | refine blk_drewN ?_ _ | refine blk_drew ?_ | refine blk_alloc ?_ _)); refine blk_far ?_ NB145_152.out _; (with_reducible repeat (first | refine blk_drewN ?_ _ | refine blk_drew ?_ | refine blk_alloc ?_ _)); refine blk_far ?_ NB145_152.out _; (with_reducible repeat (first | refine blk_drewN ?_ _ | refine blk_drew ?_ | refine blk_alloc ?_ _)); refine blk_far ?_ NB145_152.out _; (with_reducible repeat (first | refine blk_drewN ?_ _ | refine blk_drew ?_ | refine blk_alloc ?_ _)); refine blk_far ?_ NB145_152.out _; (with_reducible repeat (first | refine blk_drewN ?_ _ | refine blk_drew ?_ | refine blk_alloc ?_ _)); refine blk_far ?_ NB145_152.out _; (with_reducible repeat (first | refine blk_drewN ?_ _ | refine blk_drew ?_ | refine blk_alloc ?_ _)); exact BK145.out⟩, ⟨by (with_reducible repeat (first | refine blk_drewN ?_ _ | refine blk_drew ?_ | refine blk_alloc ?_ _)); refine blk_put (cs := #[.int .u8 4, .bool false, .string (⟨#[]⟩ : ByteArray), .int .i64 0, .int .i64 0]) ?_ 4 _ rfl; (with_reducible repeat (first | refine blk_drewN ?_ _ | refine blk_drew ?_ | refine blk_alloc ?_ _)); refine blk_put (cs := #[.int .u8 4, .bool false, .string (⟨#[]⟩ : ByteArray), .int .i64 0, .int .i64 0]) ?_ 3 _ rfl; (with_reducible repeat (first | refine blk_drewN ?_ _ | refine blk_drew ?_ | refine blk_alloc ?_ _)); refine blk_put (cs := #[.int .u8 4, .bool false, .string (⟨#[]⟩ : ByteArray), .int .i64 0, .int .i64 0]) ?_ 2 _ rfl; (with_reducible repeat (first | refine blk_drewN ?_ _ | refine blk_drew ?_ | refine blk_alloc ?_ _)); refine blk_put (cs := #[.int .u8 4, .bool false, .string (⟨#[]⟩ : ByteArray), .int .i64 0, .int .i64 0]) ?_ 1 _ rfl; (with_reducible repeat (first | refine blk_drewN ?_ _ | refine blk_drew ?_ | refine blk_alloc ?_ _)); refine blk_put (cs := #[.int .u8 0, .bool false, .string (⟨#[]⟩ : ByteArray), .int .i64 0, .int .i64 0]) ?_ 0 _ rfl; (with_reducible repeat (first | refine blk_drewN ?_ _ | refine blk_drew ?_ | refine blk_alloc ?_ _)); exact BK152.out⟩, ⟨qnp63_⟩⟩
             case rest =>
              clear HC41
              (try clear c1); (try clear p1); (try clear q1); (try clear hx1); (try clear c2); (try clear p2); (try clear c3); (try clear c4); (try clear p6); (try clear c7); (try clear c7b0); (try clear c8); (try clear c8b0); (try clear p9); (try clear q9); (try clear hx9); (try clear c11); (try clear c12); (try clear c12b0); (try clear c13); (try clear c13b0); (try clear p14); (try clear q14); (try clear hx14)
              (try clear c16); (try clear c17); (try clear c17b0); (try clear c18); (try clear c18b0); (try clear c18b1); (try clear c20); (try clear c24); (try clear c28); (try clear c29); (try clear c31); (try clear c31b0); (try clear c31b1); (try clear c32); (try clear c34); (try clear c35); (try clear c38); (try clear c38b0); (try clear c38b1); (try clear c40); (try clear c44); (try clear c48)
              (try clear c49); (try clear hcz25_0); (try clear hcz25_1); (try clear hcz25_2); (try clear hcz25_3); (try clear hcz25_4); (try clear hcz30_0); (try clear hcz30_1); (try clear hcz30_2); (try clear hcz30_3); (try clear hcz30_4); (try clear hcz33_0); (try clear hcz33_1); (try clear hcz33_2); (try clear hcz33_3); (try clear hcz33_4); (try clear hcz34_0); (try clear hcz34_1); (try clear hcz34_2)
              (try clear hcz34_3); (try clear hcz34_4); (try clear hcz36_0); (try clear hcz36_1); (try clear hcz36_2); (try clear hcz36_3); (try clear hcz36_4); (try clear hcz37_0); (try clear hcz37_1); (try clear hcz37_2); (try clear hcz37_3); (try clear hcz37_4); (try clear hcz45_0); (try clear hcz45_1); (try clear hcz45_2); (try clear hcz45_3); (try clear hcz45_4); (try clear hcz50_0); (try clear hcz50_1)
              (try clear hcz50_2); (try clear hcz50_3); (try clear hcz50_4); (try clear hfz25_0); (try clear hfz25_1); (try clear hfz25_2); (try clear hfz25_3); (try clear hfz25_4); (try clear hfz30_0); (try clear hfz30_1); (try clear hfz30_2); (try clear hfz30_3); (try clear hfz30_4); (try clear hfz33_0); (try clear hfz33_1); (try clear hfz33_2); (try clear hfz33_3); (try clear hfz33_4); (try clear hfz34_0)
              (try clear hfz34_1); (try clear hfz34_2); (try clear hfz34_3); (try clear hfz34_4); (try clear hfz36_0); (try clear hfz36_1); (try clear hfz36_2); (try clear hfz36_3); (try clear hfz36_4); (try clear hfz37_0); (try clear hfz37_1); (try clear hfz37_2); (try clear hfz37_3); (try clear hfz37_4); (try clear hfz45_0); (try clear hfz45_1); (try clear hfz45_2); (try clear hfz45_3); (try clear hfz45_4)
              (try clear hfz50_0); (try clear hfz50_1); (try clear hfz50_2); (try clear hfz50_3); (try clear hfz50_4); (try clear p1); (try clear p14); (try clear p2); (try clear p6); (try clear p9); (try clear q1); (try clear q14); (try clear q9)
              obtain ⟨kq, x153000_40, HA, HJ40, BK145, BK152, HB⟩ := hcut
              cases kq with
              | zero => exact absurd HA.out (by simp [numeral_General.j5])
              | succ kj40 =>
               have H := HA.out
               clear HA
               simp only [numeral_General.j5] at H
               by_cases c51 : (⟨#[105, 110, 102]⟩ : ByteArray).toList = ([110, 97, 110] : List UInt8)
               ·
                 exact absurd ((ByteArray.toList_eq _).symm.trans c51) (by decide)
               ·
                rw [if_neg c51] at H
                have c51b0 : ((⟨#[105, 110, 102]⟩ : ByteArray).toList == ([110, 97, 110] : List UInt8)) = false := beq_eq_false_iff_ne.mpr c51
                have c51b1 : ((⟨#[105, 110, 102]⟩ : ByteArray).toList != ([110, 97, 110] : List UInt8)) = true := bne_iff_ne.mpr c51
                simp only [Option.some.injEq, Prod.mk.injEq] at H
                obtain ⟨rfl, rfl, rfl, rfl, rfl⟩ := H
                have hnb55 := NB152_145.out
                have hnc55 := NB145_152.out
                have hcz56_0 : wc.cell? ⟨gb152, 0, none⟩ = some (.int .u8 x153000_40) := (blk_cell BK152.out 0).trans rfl
                have hcz56_1 : wc.cell? ⟨gb152, 1, none⟩ = some (.bool false) := (blk_cell BK152.out 1).trans rfl
                have hcz56_2 : wc.cell? ⟨gb152, 2, none⟩ = some (.string (⟨#[]⟩ : ByteArray)) := (blk_cell BK152.out 2).trans rfl
                have hcz56_3 : wc.cell? ⟨gb152, 3, none⟩ = some (.int .i64 0) := (blk_cell BK152.out 3).trans rfl
                have hcz56_4 : wc.cell? ⟨gb152, 4, none⟩ = some (.int .i64 (wrap64 (x3_14 + 3))) := (blk_cell BK152.out 4).trans rfl
                have hfz56_0 := blk_frozen BK152.out 0
                have hfz56_1 := blk_frozen BK152.out 1
                have hfz56_2 := blk_frozen BK152.out 2
                have hfz56_3 := blk_frozen BK152.out 3
                have hfz56_4 := blk_frozen BK152.out 4
                have hcz57_0 : wc.cell? ⟨gb145, 0, none⟩ = some (.int .u8 x146000_4) := (blk_cell BK145.out 0).trans rfl
                have hcz57_1 : wc.cell? ⟨gb145, 1, none⟩ = some (.bool x146001_4) := (blk_cell BK145.out 1).trans rfl
                have hcz57_2 : wc.cell? ⟨gb145, 2, none⟩ = some (.string x146002_4) := (blk_cell BK145.out 2).trans rfl
                have hcz57_3 : wc.cell? ⟨gb145, 3, none⟩ = some (.int .i64 x146003_4) := (blk_cell BK145.out 3).trans rfl
                have hcz57_4 : wc.cell? ⟨gb145, 4, none⟩ = some (.int .i64 x146004_4) := (blk_cell BK145.out 4).trans rfl
                have hfz57_0 := blk_frozen BK145.out 0
                have hfz57_1 := blk_frozen BK145.out 1
                have hfz57_2 := blk_frozen BK145.out 2
                have hfz57_3 := blk_frozen BK145.out 3
                have hfz57_4 := blk_frozen BK145.out 4
                go_wp2
                refine bodyPost_ret (results_cell_row rfl _ _ gb145 29 #[.int .u8 x153000_40, .bool false, .string (⟨#[]⟩ : ByteArray), .int .i64 0, .int .i64 (wrap64 (x3_14 + 3))] (0, 0) _ rfl (by (with_reducible repeat (first | refine blk_drewN ?_ _ | refine blk_drew ?_ | refine blk_alloc ?_ _)); refine blk_put (cs := #[.int .u8 x153000_40, .bool false, .string (⟨#[]⟩ : ByteArray), .int .i64 0, .int .i64 x146004_4]) ?_ 4 _ rfl; (with_reducible repeat (first | refine blk_drewN ?_ _ | refine blk_drew ?_ | refine blk_alloc ?_ _)); refine blk_put (cs := #[.int .u8 x153000_40, .bool false, .string (⟨#[]⟩ : ByteArray), .int .i64 x146003_4, .int .i64 x146004_4]) ?_ 3 _ rfl; (with_reducible repeat (first | refine blk_drewN ?_ _ | refine blk_drew ?_ | refine blk_alloc ?_ _)); refine blk_put (cs := #[.int .u8 x153000_40, .bool false, .string x146002_4, .int .i64 x146003_4, .int .i64 x146004_4]) ?_ 2 _ rfl; (with_reducible repeat (first | refine blk_drewN ?_ _ | refine blk_drew ?_ | refine blk_alloc ?_ _)); refine blk_put (cs := #[.int .u8 x153000_40, .bool x146001_4, .string x146002_4, .int .i64 x146003_4, .int .i64 x146004_4]) ?_ 1 _ rfl; (with_reducible repeat (first | refine blk_drewN ?_ _ | refine blk_drew ?_ | refine blk_alloc ?_ _)); refine blk_put (cs := #[.int .u8 x146000_4, .bool x146001_4, .string x146002_4, .int .i64 x146003_4, .int .i64 x146004_4]) ?_ 0 _ rfl; (with_reducible repeat (first | refine blk_drewN ?_ _ | refine blk_drew ?_ | refine blk_alloc ?_ _)); exact BK145.out) Tryd.underlying29 rfl (by kernel_rfl)) rfl ?_
                exact ⟨qnp5_, qnp63_⟩
            ·
             replace c40 := Bool.eq_false_iff.mpr c40
             subst c40
             have H1 : (numeral_General.l0 k4 a0 x3_14 x4_2 (wrap64 (x40_4 + 1))) = some (r1, r2, r3, r4, r5) := by rw [if_neg (show ¬ (false = true) by decide)] at H; exact H
             clear H
             have H := H1
             clear H1
             have H' := Aside0.mk H
             clear H
             go_wp2_with (first | ((with_reducible refine gate_callee (f := 35) rfl ?_); refine goesL_ (some 46) rfl rfl Tryd.func35 (by kernel_rfl) rfl #[.string a0, .int .i64 x3_14, .string (⟨#[105, 110, 102]⟩ : ByteArray)] rfl qnp0_ ?_; (with_reducible refine (numeral_begins.calls k4 a0 x3_14 (⟨#[105, 110, 102]⟩ : ByteArray) false _ A39.out).mono ?_); rintro e w' ⟨rfl, ⟨nd, rfl⟩⟩; refine ⟨_, rfl, ?_⟩))
             go_roundg k4
             case measure => have := HJ2.out; have := HJ9.out; have := HJ14.out; have := HK4.out; omega
             case rel => exact ⟨(wrap64 (x40_4 + 1)), (x146000_4), (x146001_4), (x146002_4), (x146003_4), (x146004_4), qnp2_, H', ⟨by have := HJ2.out; have := HJ9.out; have := HJ14.out; have := HK4.out; omega⟩, ⟨qnp10_⟩, ⟨qnp9_⟩⟩
           ·
            rw [if_neg c38] at H
            have c38b0 : (x40_4 == 1) = false := beq_eq_false_iff_ne.mpr c38
            have c38b1 : (x40_4 != 1) = true := bne_iff_ne.mpr c38
            by_cases c58 : x40_4 = 2
            ·
             rw [if_pos c58] at H
             have c58b0 : (x40_4 == 2) = true := beq_iff_eq.mpr c58
             have c58b1 : (x40_4 != 2) = false := bne_eq_false_iff_eq.mpr c58
             clear c58
             have ix153 : ∀ W_ : World, (Instr.index 57 (.agg #[.string (⟨#[105, 110, 102, 105, 110, 105, 116, 121]⟩ : ByteArray), .string (⟨#[105, 110, 102]⟩ : ByteArray), .string (⟨#[110, 97, 110]⟩ : ByteArray)]) (.int .i64 x40_4)).run Tryd.prog W_ = .ok (.string (⟨#[110, 97, 110]⟩ : ByteArray)) W_ := by rw [show x40_4 = 2 from beq_iff_eq.mp qnp3_]; exact fun _ => by kernel_rfl
             replace H := Option.bind_eq_some_iff.mp H
             obtain ⟨t154, A590, H⟩ := H
             replace H : (if t154 = true then (if x4_2 = true then (numeral_General.j6 k4 (⟨#[110, 97, 110]⟩ : ByteArray) 2 false (⟨#[]⟩ : ByteArray) 0 (wrap64 (x3_14 + 3))) else (numeral_General.j6 k4 (⟨#[110, 97, 110]⟩ : ByteArray) 4 false (⟨#[]⟩ : ByteArray) 0 (wrap64 (x3_14 + 3)))) else (numeral_General.l0 k4 a0 x3_14 x4_2 (wrap64 (x40_4 + 1)))) = some (r1, r2, r3, r4, r5) := H
             have A59 := Aside0.mk A590
             clear A590
             by_cases c60 : t154 = true
             ·
              subst c60
              have H1 : (if x4_2 = true then (numeral_General.j6 k4 (⟨#[110, 97, 110]⟩ : ByteArray) 2 false (⟨#[]⟩ : ByteArray) 0 (wrap64 (x3_14 + 3))) else (numeral_General.j6 k4 (⟨#[110, 97, 110]⟩ : ByteArray) 4 false (⟨#[]⟩ : ByteArray) 0 (wrap64 (x3_14 + 3)))) = some (r1, r2, r3, r4, r5) := by rw [if_pos rfl] at H; exact H
              clear H
              have H := H1
              clear H1
              have HC61 := Aside0.mk H
              clear H
              have tk66 : True := trivial; have tk67 : True := trivial
              go_upto_if 53 with (first | (have ztk66 := tk66; clear tk66 ztk66; (with_reducible refine gate_callee (f := 35) rfl ?_); refine goesL_ (some 46) rfl rfl Tryd.func35 (by kernel_rfl) rfl #[.string a0, .int .i64 x3_14, .string (⟨#[110, 97, 110]⟩ : ByteArray)] rfl qnp0_ ?_; (with_reducible refine (numeral_begins.calls k4 a0 x3_14 (⟨#[110, 97, 110]⟩ : ByteArray) true _ A59.out).mono ?_); rintro e w' ⟨rfl, ⟨nd, rfl⟩⟩; refine ⟨_, rfl, ?_⟩; (try (rw [drewN_self wr]; generalize hq_ : World.drewN wr _ = wr; have n0_ : Aside0 (wr.heap[gb145]? = some (.cells #[.int .u8 x146000_4, .bool x146001_4, .string x146002_4, .int .i64 x146003_4, .int .i64 x146004_4] 29 (0, 0))) := ⟨by rw [← hq_]; exact qnp10_⟩; have n1_ : Aside0 (Below w.heap.size w wr) := ⟨by rw [← hq_]; exact qnp9_⟩; clear BK145 HB hq_; have BK145 := n0_; have HB := n1_; clear n0_ n1_)); (try (have hcu62_0 : wr.cell? ⟨gb145, 0, none⟩ = some (.int .u8 x146000_4) := (blk_cell BK145.out 0).trans rfl; have hfu62_0 := blk_frozen BK145.out 0; have hcu62_1 : wr.cell? ⟨gb145, 1, none⟩ = some (.bool x146001_4) := (blk_cell BK145.out 1).trans rfl; have hfu62_1 := blk_frozen BK145.out 1; have hcu62_2 : wr.cell? ⟨gb145, 2, none⟩ = some (.string x146002_4) := (blk_cell BK145.out 2).trans rfl; have hfu62_2 := blk_frozen BK145.out 2; have hcu62_3 : wr.cell? ⟨gb145, 3, none⟩ = some (.int .i64 x146003_4) := (blk_cell BK145.out 3).trans rfl; have hfu62_3 := blk_frozen BK145.out 3; have hcu62_4 : wr.cell? ⟨gb145, 4, none⟩ = some (.int .i64 x146004_4) := (blk_cell BK145.out 4).trans rfl; have hfu62_4 := blk_frozen BK145.out 4))) | (have ztk67 := tk67; clear tk67 ztk67; (with_reducible refine gate_dst (N := 7) rfl ?_); (try (refine gate_guard (by rfl) ?_; dsimp only)); refine box_event ?hg (N := 7) ?hd (cs := #[.int .u8 0, .bool false, .string (⟨#[]⟩ : ByteArray), .int .i64 0, .int .i64 0]) (t := 29) ?hr ?_; (case hd => rfl); (case hg => rfl); (case hr => first | (go_simp; done) | (go_simp; rfl)); intro gb155 hg w63 hbox hb; have n0_ := Aside0.mk (blk_below (g := gb145) (o := .cells #[.int .u8 x146000_4, .bool x146001_4, .string x146002_4, .int .i64 x146003_4, .int .i64 x146004_4] 29 (0, 0)) qnp10_ hb); have n1_ := Aside0.mk (below_step qnp9_ hb); have n2_ := Aside0.mk (hbox); have n3_ := Aside0.mk ((by rw [hg]; exact (below_size qnp9_) : w.heap.size ≤ gb155)); have n4_ := Aside0.mk ((by rw [hg]; exact (below_size qnp9_) : w.heap.size ≤ gb155)); have n5_ := Aside0.mk ((by rw [hg]; exact Nat.ne_of_lt (blk_lt (g := gb145) (o := .cells #[.int .u8 x146000_4, .bool x146001_4, .string x146002_4, .int .i64 x146003_4, .int .i64 x146004_4] 29 (0, 0)) qnp10_) : gb145 ≠ gb155)); have n6_ := Aside0.mk ((by rw [hg]; exact Nat.ne_of_gt (blk_lt (g := gb145) (o := .cells #[.int .u8 x146000_4, .bool x146001_4, .string x146002_4, .int .i64 x146003_4, .int .i64 x146004_4] 29 (0, 0)) qnp10_) : gb155 ≠ gb145)); clear BK145; clear HB; have BK145 := n0_; have HB := n1_; have BK155 := n2_; have GW155 := n3_; have GE155 := n4_; have NB145_155 := n5_; have NB155_145 := n6_; clear n0_ n1_ n2_ n3_ n4_ n5_ n6_; clear hb hbox hg; have hnb64 := NB155_145.out; have hnc64 := NB145_155.out; have hcz65_0 : w63.cell? ⟨gb155, 0, none⟩ = some (.int .u8 0) := (blk_cell BK155.out 0).trans rfl; have hcz65_1 : w63.cell? ⟨gb155, 1, none⟩ = some (.bool false) := (blk_cell BK155.out 1).trans rfl; have hcz65_2 : w63.cell? ⟨gb155, 2, none⟩ = some (.string (⟨#[]⟩ : ByteArray)) := (blk_cell BK155.out 2).trans rfl; have hcz65_3 : w63.cell? ⟨gb155, 3, none⟩ = some (.int .i64 0) := (blk_cell BK155.out 3).trans rfl; have hcz65_4 : w63.cell? ⟨gb155, 4, none⟩ = some (.int .i64 0) := (blk_cell BK155.out 4).trans rfl; have hfz65_0 := blk_frozen BK155.out 0; have hfz65_1 := blk_frozen BK155.out 1; have hfz65_2 := blk_frozen BK155.out 2; have hfz65_3 := blk_frozen BK155.out 3; have hfz65_4 := blk_frozen BK155.out 4))
              (try simp only [Act.put, List.setIfInBounds_toArray, List.set_cons_zero, List.set_cons_succ])
              go_cut [] (fun wc => ∃ (kq : Nat) (x156000_60 : Int), Aside0 (numeral_General.j6 kq (⟨#[110, 97, 110]⟩ : ByteArray) x156000_60 false (⟨#[]⟩ : ByteArray) 0 (wrap64 (x3_14 + 3)) = some (r1, r2, r3, r4, r5)) ∧ Aside0 (kq ≤ k4) ∧ Aside0 (wc.heap[gb145]? = some (.cells #[.int .u8 x146000_4, .bool x146001_4, .string x146002_4, .int .i64 x146003_4, .int .i64 x146004_4] 29 (0, 0))) ∧ Aside0 (wc.heap[gb155]? = some (.cells #[.int .u8 x156000_60, .bool false, .string (⟨#[]⟩ : ByteArray), .int .i64 0, .int .i64 (wrap64 (x3_14 + 3))] 29 (0, 0))) ∧ Aside0 (Below w.heap.size w wc))
              case first =>
               have H := HC61.out
               clear HC61
               by_cases c68 : x4_2 = true
               ·
                subst c68
                have H1 : (numeral_General.j6 k4 (⟨#[110, 97, 110]⟩ : ByteArray) 2 false (⟨#[]⟩ : ByteArray) 0 (wrap64 (x3_14 + 3))) = some (r1, r2, r3, r4, r5) := by rw [if_pos rfl] at H; exact H
                clear H
                have H := H1
                clear H1
                have H' := Aside0.mk H
                clear H
                have hnb69 := NB155_145.out
                have hnc69 := NB145_155.out
                have hcz70_0 : w63.cell? ⟨gb155, 0, none⟩ = some (.int .u8 0) := (blk_cell BK155.out 0).trans rfl
                have hcz70_1 : w63.cell? ⟨gb155, 1, none⟩ = some (.bool false) := (blk_cell BK155.out 1).trans rfl
                have hcz70_2 : w63.cell? ⟨gb155, 2, none⟩ = some (.string (⟨#[]⟩ : ByteArray)) := (blk_cell BK155.out 2).trans rfl
                have hcz70_3 : w63.cell? ⟨gb155, 3, none⟩ = some (.int .i64 0) := (blk_cell BK155.out 3).trans rfl
                have hcz70_4 : w63.cell? ⟨gb155, 4, none⟩ = some (.int .i64 0) := (blk_cell BK155.out 4).trans rfl
                have hfz70_0 := blk_frozen BK155.out 0
                have hfz70_1 := blk_frozen BK155.out 1
                have hfz70_2 := blk_frozen BK155.out 2
                have hfz70_3 := blk_frozen BK155.out 3
                have hfz70_4 := blk_frozen BK155.out 4
                go_wp2
                go_meet
                case rel => exact ⟨_, (2), H', ⟨by have := HJ2.out; have := HJ9.out; have := HJ14.out; have := HK4.out; first | omega | exact Nat.le_refl _⟩, ⟨by (with_reducible repeat (first | refine blk_drewN ?_ _ | refine blk_drew ?_ | refine blk_alloc ?_ _)); refine blk_far ?_ NB145_155.out _; (with_reducible repeat (first | refine blk_drewN ?_ _ | refine blk_drew ?_ | refine blk_alloc ?_ _)); refine blk_far ?_ NB145_155.out _; (with_reducible repeat (first | refine blk_drewN ?_ _ | refine blk_drew ?_ | refine blk_alloc ?_ _)); refine blk_far ?_ NB145_155.out _; (with_reducible repeat (first | refine blk_drewN ?_ _ | refine blk_drew ?_ | refine blk_alloc ?_ _)); refine blk_far ?_ NB145_155.out _; (with_reducible repeat (first | refine blk_drewN ?_ _ | refine blk_drew ?_ | refine blk_alloc ?_ _)); refine blk_far ?_ NB145_155.out _; (with_reducible repeat (first | refine blk_drewN ?_ _ | refine blk_drew ?_ | refine blk_alloc ?_ _)); refine blk_far ?_ NB145_155.out _; (with_reducible repeat (first | refine blk_drewN ?_ _ | refine blk_drew ?_ | refine blk_alloc ?_ _)); exact BK145.out⟩, ⟨by (with_reducible repeat (first | refine blk_drewN ?_ _ | refine blk_drew ?_ | refine blk_alloc ?_ _)); refine blk_put (cs := #[.int .u8 4, .bool false, .string (⟨#[]⟩ : ByteArray), .int .i64 0, .int .i64 (wrap64 (x3_14 + 3))]) ?_ 0 _ rfl; (with_reducible repeat (first | refine blk_drewN ?_ _ | refine blk_drew ?_ | refine blk_alloc ?_ _)); refine blk_put (cs := #[.int .u8 4, .bool false, .string (⟨#[]⟩ : ByteArray), .int .i64 0, .int .i64 0]) ?_ 4 _ rfl; (with_reducible repeat (first | refine blk_drewN ?_ _ | refine blk_drew ?_ | refine blk_alloc ?_ _)); refine blk_put (cs := #[.int .u8 4, .bool false, .string (⟨#[]⟩ : ByteArray), .int .i64 0, .int .i64 0]) ?_ 3 _ rfl; (with_reducible repeat (first | refine blk_drewN ?_ _ | refine blk_drew ?_ | refine blk_alloc ?_ _)); refine blk_put (cs := #[.int .u8 4, .bool false, .string (⟨#[]⟩ : ByteArray), .int .i64 0, .int .i64 0]) ?_ 2 _ rfl; (with_reducible repeat (first | refine blk_drewN ?_ _ | refine blk_drew ?_ | refine blk_alloc ?_ _)); refine blk_put (cs := #[.int .u8 4, .bool false, .string (⟨#[]⟩ : ByteArray), .int .i64 0, .int .i64 0]) ?_ 1 _ rfl; (with_reducible repeat (first | refine blk_drewN ?_ _ | refine blk_drew ?_ | refine blk_alloc ?_ _)); refine blk_put (cs := #[.int .u8 0, .bool false, .string (⟨#[]⟩ : ByteArray), .int .i64 0, .int .i64 0]) ?_ 0 _ rfl; (with_reducible repeat (first | refine blk_drewN ?_ _ | refine blk_drew ?_ | refine blk_alloc ?_ _)); exact BK155.out⟩, ⟨qnp62_⟩⟩
               ·
                replace c68 := Bool.eq_false_iff.mpr c68
                subst c68
                have H1 : (numeral_General.j6 k4 (⟨#[110, 97, 110]⟩ : ByteArray) 4 false (⟨#[]⟩ : ByteArray) 0 (wrap64 (x3_14 + 3))) = some (r1, r2, r3, r4, r5) := by rw [if_neg (show ¬ (false = true) by decide)] at H; exact H
                clear H
                have H := H1
                clear H1
                have H' := Aside0.mk H
                clear H
                go_wp2
                go_meet
                case rel => exact ⟨_, (4), H', ⟨by have := HJ2.out; have := HJ9.out; have := HJ14.out; have := HK4.out; first | omega | exact Nat.le_refl _⟩, ⟨by (with_reducible repeat (first | refine blk_drewN ?_ _ | refine blk_drew ?_ | refine blk_alloc ?_ _)); refine blk_far ?_ NB145_155.out _; (with_reducible repeat (first | refine blk_drewN ?_ _ | refine blk_drew ?_ | refine blk_alloc ?_ _)); refine blk_far ?_ NB145_155.out _; (with_reducible repeat (first | refine blk_drewN ?_ _ | refine blk_drew ?_ | refine blk_alloc ?_ _)); refine blk_far ?_ NB145_155.out _; (with_reducible repeat (first | refine blk_drewN ?_ _ | refine blk_drew ?_ | refine blk_alloc ?_ _)); refine blk_far ?_ NB145_155.out _; (with_reducible repeat (first | refine blk_drewN ?_ _ | refine blk_drew ?_ | refine blk_alloc ?_ _)); refine blk_far ?_ NB145_155.out _; (with_reducible repeat (first | refine blk_drewN ?_ _ | refine blk_drew ?_ | refine blk_alloc ?_ _)); exact BK145.out⟩, ⟨by (with_reducible repeat (first | refine blk_drewN ?_ _ | refine blk_drew ?_ | refine blk_alloc ?_ _)); refine blk_put (cs := #[.int .u8 4, .bool false, .string (⟨#[]⟩ : ByteArray), .int .i64 0, .int .i64 0]) ?_ 4 _ rfl; (with_reducible repeat (first | refine blk_drewN ?_ _ | refine blk_drew ?_ | refine blk_alloc ?_ _)); refine blk_put (cs := #[.int .u8 4, .bool false, .string (⟨#[]⟩ : ByteArray), .int .i64 0, .int .i64 0]) ?_ 3 _ rfl; (with_reducible repeat (first | refine blk_drewN ?_ _ | refine blk_drew ?_ | refine blk_alloc ?_ _)); refine blk_put (cs := #[.int .u8 4, .bool false, .string (⟨#[]⟩ : ByteArray), .int .i64 0, .int .i64 0]) ?_ 2 _ rfl; (with_reducible repeat (first | refine blk_drewN ?_ _ | refine blk_drew ?_ | refine blk_alloc ?_ _)); refine blk_put (cs := #[.int .u8 4, .bool false, .string (⟨#[]⟩ : ByteArray), .int .i64 0, .int .i64 0]) ?_ 1 _ rfl; (with_reducible repeat (first | refine blk_drewN ?_ _ | refine blk_drew ?_ | refine blk_alloc ?_ _)); refine blk_put (cs := #[.int .u8 0, .bool false, .string (⟨#[]⟩ : ByteArray), .int .i64 0, .int .i64 0]) ?_ 0 _ rfl; (with_reducible repeat (first | refine blk_drewN ?_ _ | refine blk_drew ?_ | refine blk_alloc ?_ _)); exact BK155.out⟩, ⟨qnp62_⟩⟩
              case rest =>
               clear HC61
               (try clear c1); (try clear p1); (try clear q1); (try clear hx1); (try clear c2); (try clear p2); (try clear c3); (try clear c4); (try clear c5); (try clear c6); (try clear p6); (try clear c7); (try clear c7b0); (try clear c8); (try clear c8b0); (try clear p9); (try clear q9); (try clear hx9); (try clear c11); (try clear c12); (try clear c12b0); (try clear c13); (try clear c13b0); (try clear p14)
               (try clear q14); (try clear hx14); (try clear c16); (try clear c17); (try clear c17b0); (try clear c18); (try clear c18b0); (try clear c18b1); (try clear c20); (try clear c24); (try clear c28); (try clear c29); (try clear c31); (try clear c31b0); (try clear c31b1); (try clear c32); (try clear c34); (try clear c35); (try clear c38); (try clear c38b0); (try clear c38b1); (try clear c40)
               (try clear c44); (try clear c48); (try clear c49); (try clear c51); (try clear c51b0); (try clear c51b1); (try clear c52); (try clear c55); (try clear c58); (try clear c58b0); (try clear c58b1); (try clear c60); (try clear c64); (try clear p64); (try clear c68); (try clear c69); (try clear hcz25_0); (try clear hcz25_1); (try clear hcz25_2); (try clear hcz25_3); (try clear hcz25_4); (try clear hcz30_0)
               (try clear hcz30_1); (try clear hcz30_2); (try clear hcz30_3); (try clear hcz30_4); (try clear hcz33_0); (try clear hcz33_1); (try clear hcz33_2); (try clear hcz33_3); (try clear hcz33_4); (try clear hcz34_0); (try clear hcz34_1); (try clear hcz34_2); (try clear hcz34_3); (try clear hcz34_4); (try clear hcz36_0); (try clear hcz36_1); (try clear hcz36_2); (try clear hcz36_3); (try clear hcz36_4)
               (try clear hcz37_0); (try clear hcz37_1); (try clear hcz37_2); (try clear hcz37_3); (try clear hcz37_4); (try clear hcz45_0); (try clear hcz45_1); (try clear hcz45_2); (try clear hcz45_3); (try clear hcz45_4); (try clear hcz50_0); (try clear hcz50_1); (try clear hcz50_2); (try clear hcz50_3); (try clear hcz50_4); (try clear hcz53_0); (try clear hcz53_1); (try clear hcz53_2); (try clear hcz53_3)
               (try clear hcz53_4); (try clear hcz54_0); (try clear hcz54_1); (try clear hcz54_2); (try clear hcz54_3); (try clear hcz54_4); (try clear hcz56_0); (try clear hcz56_1); (try clear hcz56_2); (try clear hcz56_3); (try clear hcz56_4); (try clear hcz57_0); (try clear hcz57_1); (try clear hcz57_2); (try clear hcz57_3); (try clear hcz57_4); (try clear hcz65_0); (try clear hcz65_1); (try clear hcz65_2)
               (try clear hcz65_3); (try clear hcz65_4); (try clear hcz70_0); (try clear hcz70_1); (try clear hcz70_2); (try clear hcz70_3); (try clear hcz70_4); (try clear hfz25_0); (try clear hfz25_1); (try clear hfz25_2); (try clear hfz25_3); (try clear hfz25_4); (try clear hfz30_0); (try clear hfz30_1); (try clear hfz30_2); (try clear hfz30_3); (try clear hfz30_4); (try clear hfz33_0); (try clear hfz33_1)
               (try clear hfz33_2); (try clear hfz33_3); (try clear hfz33_4); (try clear hfz34_0); (try clear hfz34_1); (try clear hfz34_2); (try clear hfz34_3); (try clear hfz34_4); (try clear hfz36_0); (try clear hfz36_1); (try clear hfz36_2); (try clear hfz36_3); (try clear hfz36_4); (try clear hfz37_0); (try clear hfz37_1); (try clear hfz37_2); (try clear hfz37_3); (try clear hfz37_4); (try clear hfz45_0)
               (try clear hfz45_1); (try clear hfz45_2); (try clear hfz45_3); (try clear hfz45_4); (try clear hfz50_0); (try clear hfz50_1); (try clear hfz50_2); (try clear hfz50_3); (try clear hfz50_4); (try clear hfz53_0); (try clear hfz53_1); (try clear hfz53_2); (try clear hfz53_3); (try clear hfz53_4); (try clear hfz54_0); (try clear hfz54_1); (try clear hfz54_2); (try clear hfz54_3); (try clear hfz54_4)
               (try clear hfz56_0); (try clear hfz56_1); (try clear hfz56_2); (try clear hfz56_3); (try clear hfz56_4); (try clear hfz57_0); (try clear hfz57_1); (try clear hfz57_2); (try clear hfz57_3); (try clear hfz57_4); (try clear hfz65_0); (try clear hfz65_1); (try clear hfz65_2); (try clear hfz65_3); (try clear hfz65_4); (try clear hfz70_0); (try clear hfz70_1); (try clear hfz70_2); (try clear hfz70_3)
               (try clear hfz70_4); (try clear p1); (try clear p14); (try clear p2); (try clear p6); (try clear p9); (try clear q1); (try clear q14); (try clear q9)
               obtain ⟨kq, x156000_60, HA, HJ60, BK145, BK155, HB⟩ := hcut
               cases kq with
               | zero => exact absurd HA.out (by simp [numeral_General.j6])
               | succ kj60 =>
                have H := HA.out
                clear HA
                simp only [numeral_General.j6] at H
                by_cases c71 : (⟨#[110, 97, 110]⟩ : ByteArray).toList = ([110, 97, 110] : List UInt8)
                ·
                 rw [if_pos c71] at H
                 have c71b0 : ((⟨#[110, 97, 110]⟩ : ByteArray).toList == ([110, 97, 110] : List UInt8)) = true := beq_iff_eq.mpr c71
                 have c71b1 : ((⟨#[110, 97, 110]⟩ : ByteArray).toList != ([110, 97, 110] : List UInt8)) = false := bne_eq_false_iff_eq.mpr c71
                 clear c71
                 simp only [Option.some.injEq, Prod.mk.injEq] at H
                 obtain ⟨rfl, rfl, rfl, rfl, rfl⟩ := H
                 have hnb72 := NB155_145.out
                 have hnc72 := NB145_155.out
                 have hcz73_0 : wc.cell? ⟨gb155, 0, none⟩ = some (.int .u8 x156000_60) := (blk_cell BK155.out 0).trans rfl
                 have hcz73_1 : wc.cell? ⟨gb155, 1, none⟩ = some (.bool false) := (blk_cell BK155.out 1).trans rfl
                 have hcz73_2 : wc.cell? ⟨gb155, 2, none⟩ = some (.string (⟨#[]⟩ : ByteArray)) := (blk_cell BK155.out 2).trans rfl
                 have hcz73_3 : wc.cell? ⟨gb155, 3, none⟩ = some (.int .i64 0) := (blk_cell BK155.out 3).trans rfl
                 have hcz73_4 : wc.cell? ⟨gb155, 4, none⟩ = some (.int .i64 (wrap64 (x3_14 + 3))) := (blk_cell BK155.out 4).trans rfl
                 have hfz73_0 := blk_frozen BK155.out 0
                 have hfz73_1 := blk_frozen BK155.out 1
                 have hfz73_2 := blk_frozen BK155.out 2
                 have hfz73_3 := blk_frozen BK155.out 3
                 have hfz73_4 := blk_frozen BK155.out 4
                 have hcz74_0 : wc.cell? ⟨gb145, 0, none⟩ = some (.int .u8 x146000_4) := (blk_cell BK145.out 0).trans rfl
                 have hcz74_1 : wc.cell? ⟨gb145, 1, none⟩ = some (.bool x146001_4) := (blk_cell BK145.out 1).trans rfl
                 have hcz74_2 : wc.cell? ⟨gb145, 2, none⟩ = some (.string x146002_4) := (blk_cell BK145.out 2).trans rfl
                 have hcz74_3 : wc.cell? ⟨gb145, 3, none⟩ = some (.int .i64 x146003_4) := (blk_cell BK145.out 3).trans rfl
                 have hcz74_4 : wc.cell? ⟨gb145, 4, none⟩ = some (.int .i64 x146004_4) := (blk_cell BK145.out 4).trans rfl
                 have hfz74_0 := blk_frozen BK145.out 0
                 have hfz74_1 := blk_frozen BK145.out 1
                 have hfz74_2 := blk_frozen BK145.out 2
                 have hfz74_3 := blk_frozen BK145.out 3
                 have hfz74_4 := blk_frozen BK145.out 4
                 go_wp2
                 refine bodyPost_ret (results_cell_row rfl _ _ gb145 29 #[.int .u8 1, .bool false, .string (⟨#[]⟩ : ByteArray), .int .i64 0, .int .i64 (wrap64 (x3_14 + 3))] (0, 0) _ rfl (by (with_reducible repeat (first | refine blk_drewN ?_ _ | refine blk_drew ?_ | refine blk_alloc ?_ _)); refine blk_put (cs := #[.int .u8 1, .bool false, .string (⟨#[]⟩ : ByteArray), .int .i64 0, .int .i64 x146004_4]) ?_ 4 _ rfl; (with_reducible repeat (first | refine blk_drewN ?_ _ | refine blk_drew ?_ | refine blk_alloc ?_ _)); refine blk_put (cs := #[.int .u8 1, .bool false, .string (⟨#[]⟩ : ByteArray), .int .i64 x146003_4, .int .i64 x146004_4]) ?_ 3 _ rfl; (with_reducible repeat (first | refine blk_drewN ?_ _ | refine blk_drew ?_ | refine blk_alloc ?_ _)); refine blk_put (cs := #[.int .u8 1, .bool false, .string x146002_4, .int .i64 x146003_4, .int .i64 x146004_4]) ?_ 2 _ rfl; (with_reducible repeat (first | refine blk_drewN ?_ _ | refine blk_drew ?_ | refine blk_alloc ?_ _)); refine blk_put (cs := #[.int .u8 1, .bool x146001_4, .string x146002_4, .int .i64 x146003_4, .int .i64 x146004_4]) ?_ 1 _ rfl; (with_reducible repeat (first | refine blk_drewN ?_ _ | refine blk_drew ?_ | refine blk_alloc ?_ _)); refine blk_put (cs := #[.int .u8 x146000_4, .bool x146001_4, .string x146002_4, .int .i64 x146003_4, .int .i64 x146004_4]) ?_ 0 _ rfl; (with_reducible repeat (first | refine blk_drewN ?_ _ | refine blk_drew ?_ | refine blk_alloc ?_ _)); refine blk_far ?_ NB145_155.out _; (with_reducible repeat (first | refine blk_drewN ?_ _ | refine blk_drew ?_ | refine blk_alloc ?_ _)); exact BK145.out) Tryd.underlying29 rfl (by kernel_rfl)) rfl ?_
                 exact ⟨qnp5_, qnp62_⟩
                ·
                  exact absurd ((ByteArray.toList_eq _).trans rfl) c71
             ·
              replace c60 := Bool.eq_false_iff.mpr c60
              subst c60
              have H1 : (numeral_General.l0 k4 a0 x3_14 x4_2 (wrap64 (x40_4 + 1))) = some (r1, r2, r3, r4, r5) := by rw [if_neg (show ¬ (false = true) by decide)] at H; exact H
              clear H
              have H := H1
              clear H1
              have H' := Aside0.mk H
              clear H
              go_wp2_with (first | ((with_reducible refine gate_callee (f := 35) rfl ?_); refine goesL_ (some 46) rfl rfl Tryd.func35 (by kernel_rfl) rfl #[.string a0, .int .i64 x3_14, .string (⟨#[110, 97, 110]⟩ : ByteArray)] rfl qnp0_ ?_; (with_reducible refine (numeral_begins.calls k4 a0 x3_14 (⟨#[110, 97, 110]⟩ : ByteArray) false _ A59.out).mono ?_); rintro e w' ⟨rfl, ⟨nd, rfl⟩⟩; refine ⟨_, rfl, ?_⟩))
              go_roundg k4
              case measure => have := HJ2.out; have := HJ9.out; have := HJ14.out; have := HK4.out; omega
              case rel => exact ⟨(wrap64 (x40_4 + 1)), (x146000_4), (x146001_4), (x146002_4), (x146003_4), (x146004_4), qnp2_, H', ⟨by have := HJ2.out; have := HJ9.out; have := HJ14.out; have := HK4.out; omega⟩, ⟨qnp10_⟩, ⟨qnp9_⟩⟩
            ·
             rw [if_neg c58] at H
             exact absurd H (by simp)
         ·
          rw [if_neg c17] at H
          have c17b0 : decide (x40_4 < 3) = false := decide_eq_false c17
          clear c17
          replace H := Option.bind_eq_some_iff.mp H
          obtain ⟨⟨t156, t157, t158, t159⟩, A780, H⟩ := H
          replace H : (if t159 = 0 then (some (0, false, (⟨#[]⟩ : ByteArray), 0, 0)) else ((numeral_exponent.f k4 a0 t159).bind fun bt161 => ((numeral_digits.f k4 t157 t158 bt161.1).bind fun bt164 => (if x4_2 = true then (some (3, (!bt164.1.toList.isEmpty), bt164.1, bt164.2, bt161.2)) else (some (3, false, bt164.1, bt164.2, bt161.2)))))) = some (r1, r2, r3, r4, r5) := H
          have A78 := Aside0.mk A780
          clear A780
          by_cases c79 : t159 = 0
          ·
           rw [if_pos c79] at H
           have c79b0 : (t159 == 0) = true := beq_iff_eq.mpr c79
           have c79b1 : (t159 != 0) = false := bne_eq_false_iff_eq.mpr c79
           clear c79
           simp only [Option.some.injEq, Prod.mk.injEq] at H
           obtain ⟨rfl, rfl, rfl, rfl, rfl⟩ := H
           have tk85 : True := trivial; have tk86 : True := trivial
           go_wp2_with (first | (have ztk85 := tk85; clear tk85 ztk85; (with_reducible refine gate_callee (f := 36) rfl ?_); refine goesL_ (some 62) rfl rfl Tryd.func36 (by kernel_rfl) rfl #[.string a0, .int .i64 x3_14] rfl qnp0_ ?_; (with_reducible refine (numeral_plain.calls a0 x3_14 t156 t157 t158 t159 _ A78.out).mono ?_); rintro e w80 ⟨rfl, hb⟩; refine ⟨_, rfl, ?_⟩; have n0_ := Aside0.mk (blk_below (g := gb145) (o := .cells #[.int .u8 x146000_4, .bool x146001_4, .string x146002_4, .int .i64 x146003_4, .int .i64 x146004_4] 29 (0, 0)) qnp10_ hb); have n1_ := Aside0.mk (below_step qnp9_ hb); clear BK145; clear HB; have BK145 := n0_; have HB := n1_; clear n0_ n1_; (try clear hb); (try clear hb2); (try clear hk); (try clear hi)) | (have ztk86 := tk86; clear tk86 ztk86; (with_reducible refine gate_dst (N := 8) rfl ?_); (try (refine gate_guard (by rfl) ?_; dsimp only)); refine box_event ?hg (N := 8) ?hd (cs := #[.bool false, .string (⟨#[]⟩ : ByteArray), .string (⟨#[]⟩ : ByteArray), .int .i64 0]) (t := 55) ?hr ?_; (case hd => rfl); (case hg => rfl); (case hr => first | (go_simp; done) | (go_simp; rfl)); intro gb160 hg w81 hbox hb; have n0_ := Aside0.mk (blk_below (g := gb145) (o := .cells #[.int .u8 x146000_4, .bool x146001_4, .string x146002_4, .int .i64 x146003_4, .int .i64 x146004_4] 29 (0, 0)) qnp10_ hb); have n1_ := Aside0.mk (below_step qnp9_ hb); have n2_ := Aside0.mk (hbox); have n3_ := Aside0.mk ((by rw [hg]; exact (below_size qnp9_) : w.heap.size ≤ gb160)); have n4_ := Aside0.mk ((by rw [hg]; exact (below_size qnp9_) : w.heap.size ≤ gb160)); have n5_ := Aside0.mk ((by rw [hg]; exact Nat.ne_of_lt (blk_lt (g := gb145) (o := .cells #[.int .u8 x146000_4, .bool x146001_4, .string x146002_4, .int .i64 x146003_4, .int .i64 x146004_4] 29 (0, 0)) qnp10_) : gb145 ≠ gb160)); have n6_ := Aside0.mk ((by rw [hg]; exact Nat.ne_of_gt (blk_lt (g := gb145) (o := .cells #[.int .u8 x146000_4, .bool x146001_4, .string x146002_4, .int .i64 x146003_4, .int .i64 x146004_4] 29 (0, 0)) qnp10_) : gb160 ≠ gb145)); clear BK145; clear HB; have BK145 := n0_; have HB := n1_; have BK160 := n2_; have GW160 := n3_; have GE160 := n4_; have NB145_160 := n5_; have NB160_145 := n6_; clear n0_ n1_ n2_ n3_ n4_ n5_ n6_; clear hb hbox hg; have hnb82 := NB160_145.out; have hnc82 := NB145_160.out; have hcz83_0 : w81.cell? ⟨gb160, 0, none⟩ = some (.bool false) := (blk_cell BK160.out 0).trans rfl; have hcz83_1 : w81.cell? ⟨gb160, 1, none⟩ = some (.string (⟨#[]⟩ : ByteArray)) := (blk_cell BK160.out 1).trans rfl; have hcz83_2 : w81.cell? ⟨gb160, 2, none⟩ = some (.string (⟨#[]⟩ : ByteArray)) := (blk_cell BK160.out 2).trans rfl; have hcz83_3 : w81.cell? ⟨gb160, 3, none⟩ = some (.int .i64 0) := (blk_cell BK160.out 3).trans rfl; have hfz83_0 := blk_frozen BK160.out 0; have hfz83_1 := blk_frozen BK160.out 1; have hfz83_2 := blk_frozen BK160.out 2; have hfz83_3 := blk_frozen BK160.out 3; have hcz84_0 : w81.cell? ⟨gb145, 0, none⟩ = some (.int .u8 x146000_4) := (blk_cell BK145.out 0).trans rfl; have hcz84_1 : w81.cell? ⟨gb145, 1, none⟩ = some (.bool x146001_4) := (blk_cell BK145.out 1).trans rfl; have hcz84_2 : w81.cell? ⟨gb145, 2, none⟩ = some (.string x146002_4) := (blk_cell BK145.out 2).trans rfl; have hcz84_3 : w81.cell? ⟨gb145, 3, none⟩ = some (.int .i64 x146003_4) := (blk_cell BK145.out 3).trans rfl; have hcz84_4 : w81.cell? ⟨gb145, 4, none⟩ = some (.int .i64 x146004_4) := (blk_cell BK145.out 4).trans rfl; have hfz84_0 := blk_frozen BK145.out 0; have hfz84_1 := blk_frozen BK145.out 1; have hfz84_2 := blk_frozen BK145.out 2; have hfz84_3 := blk_frozen BK145.out 3; have hfz84_4 := blk_frozen BK145.out 4))
           refine bodyPost_ret (results_cell_row rfl _ _ gb145 29 #[.int .u8 0, .bool false, .string (⟨#[]⟩ : ByteArray), .int .i64 0, .int .i64 0] (0, 0) _ rfl (by (with_reducible repeat (first | refine blk_drewN ?_ _ | refine blk_drew ?_ | refine blk_alloc ?_ _)); refine blk_put (cs := #[.int .u8 0, .bool false, .string (⟨#[]⟩ : ByteArray), .int .i64 0, .int .i64 x146004_4]) ?_ 4 _ rfl; (with_reducible repeat (first | refine blk_drewN ?_ _ | refine blk_drew ?_ | refine blk_alloc ?_ _)); refine blk_put (cs := #[.int .u8 0, .bool false, .string (⟨#[]⟩ : ByteArray), .int .i64 x146003_4, .int .i64 x146004_4]) ?_ 3 _ rfl; (with_reducible repeat (first | refine blk_drewN ?_ _ | refine blk_drew ?_ | refine blk_alloc ?_ _)); refine blk_put (cs := #[.int .u8 0, .bool false, .string x146002_4, .int .i64 x146003_4, .int .i64 x146004_4]) ?_ 2 _ rfl; (with_reducible repeat (first | refine blk_drewN ?_ _ | refine blk_drew ?_ | refine blk_alloc ?_ _)); refine blk_put (cs := #[.int .u8 0, .bool x146001_4, .string x146002_4, .int .i64 x146003_4, .int .i64 x146004_4]) ?_ 1 _ rfl; (with_reducible repeat (first | refine blk_drewN ?_ _ | refine blk_drew ?_ | refine blk_alloc ?_ _)); refine blk_put (cs := #[.int .u8 x146000_4, .bool x146001_4, .string x146002_4, .int .i64 x146003_4, .int .i64 x146004_4]) ?_ 0 _ rfl; (with_reducible repeat (first | refine blk_drewN ?_ _ | refine blk_drew ?_ | refine blk_alloc ?_ _)); refine blk_far ?_ NB145_160.out _; (with_reducible repeat (first | refine blk_drewN ?_ _ | refine blk_drew ?_ | refine blk_alloc ?_ _)); refine blk_far ?_ NB145_160.out _; (with_reducible repeat (first | refine blk_drewN ?_ _ | refine blk_drew ?_ | refine blk_alloc ?_ _)); refine blk_far ?_ NB145_160.out _; (with_reducible repeat (first | refine blk_drewN ?_ _ | refine blk_drew ?_ | refine blk_alloc ?_ _)); refine blk_far ?_ NB145_160.out _; (with_reducible repeat (first | refine blk_drewN ?_ _ | refine blk_drew ?_ | refine blk_alloc ?_ _)); exact BK145.out) Tryd.underlying29 rfl (by kernel_rfl)) rfl ?_
           exact ⟨qnp5_, qnp29_⟩
          ·
           rw [if_neg c79] at H
           have c79b0 : (t159 == 0) = false := beq_eq_false_iff_ne.mpr c79
           have c79b1 : (t159 != 0) = true := bne_iff_ne.mpr c79
           replace H := Option.bind_eq_some_iff.mp H
           obtain ⟨⟨t161, t162⟩, A870, H⟩ := H
           replace H : ((numeral_digits.f k4 t157 t158 t161).bind fun bt164 => (if x4_2 = true then (some (3, (!bt164.1.toList.isEmpty), bt164.1, bt164.2, t162)) else (some (3, false, bt164.1, bt164.2, t162)))) = some (r1, r2, r3, r4, r5) := H
           have A87 := Aside0.mk A870
           clear A870
           replace H := Option.bind_eq_some_iff.mp H
           obtain ⟨⟨t164, t165⟩, A880, H⟩ := H
           replace H : (if x4_2 = true then (some (3, (!t164.toList.isEmpty), t164, t165, t162)) else (some (3, false, t164, t165, t162))) = some (r1, r2, r3, r4, r5) := H
           have A88 := Aside0.mk A880
           clear A880
           by_cases c89 : x4_2 = true
           ·
            subst c89
            have H1 : (some (3, (!t164.toList.isEmpty), t164, t165, t162)) = some (r1, r2, r3, r4, r5) := by rw [if_pos rfl] at H; exact H
            clear H
            have H := H1
            clear H1
            simp only [Option.some.injEq, Prod.mk.injEq] at H
            obtain ⟨rfl, rfl, rfl, rfl, rfl⟩ := H
            have tk103 : True := trivial; have tk104 : True := trivial; have tk105 : True := trivial; have tk106 : True := trivial; have tk107 : True := trivial
            go_wp2_with (first | (have ztk103 := tk103; clear tk103 ztk103; (with_reducible refine gate_callee (f := 36) rfl ?_); refine goesL_ (some 62) rfl rfl Tryd.func36 (by kernel_rfl) rfl #[.string a0, .int .i64 x3_14] rfl qnp0_ ?_; (with_reducible refine (numeral_plain.calls a0 x3_14 t156 t157 t158 t159 _ A78.out).mono ?_); rintro e w90 ⟨rfl, hb⟩; refine ⟨_, rfl, ?_⟩; have n0_ := Aside0.mk (blk_below (g := gb145) (o := .cells #[.int .u8 x146000_4, .bool x146001_4, .string x146002_4, .int .i64 x146003_4, .int .i64 x146004_4] 29 (0, 0)) qnp10_ hb); have n1_ := Aside0.mk (below_step qnp9_ hb); clear BK145; clear HB; have BK145 := n0_; have HB := n1_; clear n0_ n1_; (try clear hb); (try clear hb2); (try clear hk); (try clear hi)) | (have ztk104 := tk104; clear tk104 ztk104; (with_reducible refine gate_dst (N := 8) rfl ?_); (try (refine gate_guard (by rfl) ?_; dsimp only)); refine box_event ?hg (N := 8) ?hd (cs := #[.bool false, .string (⟨#[]⟩ : ByteArray), .string (⟨#[]⟩ : ByteArray), .int .i64 0]) (t := 55) ?hr ?_; (case hd => rfl); (case hg => rfl); (case hr => first | (go_simp; done) | (go_simp; rfl)); intro gb160 hg w91 hbox hb; have n0_ := Aside0.mk (blk_below (g := gb145) (o := .cells #[.int .u8 x146000_4, .bool x146001_4, .string x146002_4, .int .i64 x146003_4, .int .i64 x146004_4] 29 (0, 0)) qnp10_ hb); have n1_ := Aside0.mk (below_step qnp9_ hb); have n2_ := Aside0.mk (hbox); have n3_ := Aside0.mk ((by rw [hg]; exact (below_size qnp9_) : w.heap.size ≤ gb160)); have n4_ := Aside0.mk ((by rw [hg]; exact (below_size qnp9_) : w.heap.size ≤ gb160)); have n5_ := Aside0.mk ((by rw [hg]; exact Nat.ne_of_lt (blk_lt (g := gb145) (o := .cells #[.int .u8 x146000_4, .bool x146001_4, .string x146002_4, .int .i64 x146003_4, .int .i64 x146004_4] 29 (0, 0)) qnp10_) : gb145 ≠ gb160)); have n6_ := Aside0.mk ((by rw [hg]; exact Nat.ne_of_gt (blk_lt (g := gb145) (o := .cells #[.int .u8 x146000_4, .bool x146001_4, .string x146002_4, .int .i64 x146003_4, .int .i64 x146004_4] 29 (0, 0)) qnp10_) : gb160 ≠ gb145)); clear BK145; clear HB; have BK145 := n0_; have HB := n1_; have BK160 := n2_; have GW160 := n3_; have GE160 := n4_; have NB145_160 := n5_; have NB160_145 := n6_; clear n0_ n1_ n2_ n3_ n4_ n5_ n6_; clear hb hbox hg; have hnb92 := NB160_145.out; have hnc92 := NB145_160.out; have hcz93_0 : w91.cell? ⟨gb160, 0, none⟩ = some (.bool false) := (blk_cell BK160.out 0).trans rfl; have hcz93_1 : w91.cell? ⟨gb160, 1, none⟩ = some (.string (⟨#[]⟩ : ByteArray)) := (blk_cell BK160.out 1).trans rfl; have hcz93_2 : w91.cell? ⟨gb160, 2, none⟩ = some (.string (⟨#[]⟩ : ByteArray)) := (blk_cell BK160.out 2).trans rfl; have hcz93_3 : w91.cell? ⟨gb160, 3, none⟩ = some (.int .i64 0) := (blk_cell BK160.out 3).trans rfl; have hfz93_0 := blk_frozen BK160.out 0; have hfz93_1 := blk_frozen BK160.out 1; have hfz93_2 := blk_frozen BK160.out 2; have hfz93_3 := blk_frozen BK160.out 3) | (have ztk105 := tk105; clear tk105 ztk105; (with_reducible refine gate_callee (f := 37) rfl ?_); refine goesL_ (some 71) rfl rfl Tryd.func37 (by kernel_rfl) rfl #[.string a0, .int .i64 t159] rfl qnp0_ ?_; (with_reducible refine (numeral_exponent.calls k4 a0 t159 t161 t162 _ A87.out).mono ?_); rintro e w94 ⟨rfl, hb⟩; refine ⟨_, rfl, ?_⟩; have n0_ := Aside0.mk (blk_below (g := gb145) (o := .cells #[.int .u8 x146000_4, .bool x146001_4, .string x146002_4, .int .i64 x146003_4, .int .i64 x146004_4] 29 (0, 0)) (by (with_reducible repeat (first | refine blk_drewN ?_ _ | refine blk_drew ?_ | refine blk_alloc ?_ _)); refine blk_far ?_ NB145_160.out _; (with_reducible repeat (first | refine blk_drewN ?_ _ | refine blk_drew ?_ | refine blk_alloc ?_ _)); refine blk_far ?_ NB145_160.out _; (with_reducible repeat (first | refine blk_drewN ?_ _ | refine blk_drew ?_ | refine blk_alloc ?_ _)); refine blk_far ?_ NB145_160.out _; (with_reducible repeat (first | refine blk_drewN ?_ _ | refine blk_drew ?_ | refine blk_alloc ?_ _)); refine blk_far ?_ NB145_160.out _; (with_reducible repeat (first | refine blk_drewN ?_ _ | refine blk_drew ?_ | refine blk_alloc ?_ _)); exact BK145.out) hb); have n1_ := Aside0.mk (blk_below (g := gb160) (o := .cells #[.bool t156, .string t157, .string t158, .int .i64 t159] 55 (0, 0)) (by (with_reducible repeat (first | refine blk_drewN ?_ _ | refine blk_drew ?_ | refine blk_alloc ?_ _)); refine blk_put (cs := #[.bool t156, .string t157, .string t158, .int .i64 0]) ?_ 3 _ rfl; (with_reducible repeat (first | refine blk_drewN ?_ _ | refine blk_drew ?_ | refine blk_alloc ?_ _)); refine blk_put (cs := #[.bool t156, .string t157, .string (⟨#[]⟩ : ByteArray), .int .i64 0]) ?_ 2 _ rfl; (with_reducible repeat (first | refine blk_drewN ?_ _ | refine blk_drew ?_ | refine blk_alloc ?_ _)); refine blk_put (cs := #[.bool t156, .string (⟨#[]⟩ : ByteArray), .string (⟨#[]⟩ : ByteArray), .int .i64 0]) ?_ 1 _ rfl; (with_reducible repeat (first | refine blk_drewN ?_ _ | refine blk_drew ?_ | refine blk_alloc ?_ _)); refine blk_put (cs := #[.bool false, .string (⟨#[]⟩ : ByteArray), .string (⟨#[]⟩ : ByteArray), .int .i64 0]) ?_ 0 _ rfl; (with_reducible repeat (first | refine blk_drewN ?_ _ | refine blk_drew ?_ | refine blk_alloc ?_ _)); exact BK160.out) hb); have n2_ := Aside0.mk (below_step qnp29_ hb); clear BK145; clear BK160; clear HB; have BK145 := n0_; have BK160 := n1_; have HB := n2_; clear n0_ n1_ n2_; (try clear hb); (try clear hb2); (try clear hk); (try clear hi)) | (have ztk106 := tk106; clear tk106 ztk106; (with_reducible refine gate_dst (N := 11) rfl ?_); (try (refine gate_guard (by rfl) ?_; dsimp only)); refine box_event ?hg (N := 11) ?hd (cs := #[.int .u8 0, .bool false, .string (⟨#[]⟩ : ByteArray), .int .i64 0, .int .i64 0]) (t := 29) ?hr ?_; (case hd => rfl); (case hg => rfl); (case hr => first | (go_simp; done) | (go_simp; rfl)); intro gb163 hg w95 hbox hb; have n0_ := Aside0.mk (blk_below (g := gb145) (o := .cells #[.int .u8 x146000_4, .bool x146001_4, .string x146002_4, .int .i64 x146003_4, .int .i64 x146004_4] 29 (0, 0)) qnp10_ hb); have n1_ := Aside0.mk (blk_below (g := gb160) (o := .cells #[.bool t156, .string t157, .string t158, .int .i64 t159] 55 (0, 0)) qnp58_ hb); have n2_ := Aside0.mk (below_step qnp29_ hb); have n3_ := Aside0.mk (hbox); have n4_ := Aside0.mk ((by rw [hg]; exact (below_size qnp29_) : w.heap.size ≤ gb163)); have n5_ := Aside0.mk ((by rw [hg]; exact (below_size qnp29_) : w.heap.size ≤ gb163)); have n6_ := Aside0.mk ((by rw [hg]; exact Nat.ne_of_lt (blk_lt (g := gb145) (o := .cells #[.int .u8 x146000_4, .bool x146001_4, .string x146002_4, .int .i64 x146003_4, .int .i64 x146004_4] 29 (0, 0)) qnp10_) : gb145 ≠ gb163)); have n7_ := Aside0.mk ((by rw [hg]; exact Nat.ne_of_gt (blk_lt (g := gb145) (o := .cells #[.int .u8 x146000_4, .bool x146001_4, .string x146002_4, .int .i64 x146003_4, .int .i64 x146004_4] 29 (0, 0)) qnp10_) : gb163 ≠ gb145)); have n8_ := Aside0.mk ((by rw [hg]; exact Nat.ne_of_lt (blk_lt (g := gb160) (o := .cells #[.bool t156, .string t157, .string t158, .int .i64 t159] 55 (0, 0)) qnp58_) : gb160 ≠ gb163)); have n9_ := Aside0.mk ((by rw [hg]; exact Nat.ne_of_gt (blk_lt (g := gb160) (o := .cells #[.bool t156, .string t157, .string t158, .int .i64 t159] 55 (0, 0)) qnp58_) : gb163 ≠ gb160)); clear BK145; clear BK160; clear HB; have BK145 := n0_; have BK160 := n1_; have HB := n2_; have BK163 := n3_; have GW163 := n4_; have GE163 := n5_; have NB145_163 := n6_; have NB163_145 := n7_; have NB160_163 := n8_; have NB163_160 := n9_; clear n0_ n1_ n2_ n3_ n4_ n5_ n6_ n7_ n8_ n9_; clear hb hbox hg; have hnb96 := NB163_145.out; have hnc96 := NB145_163.out; have hnb97 := NB163_160.out; have hnc97 := NB160_163.out; have hcz98_0 : w95.cell? ⟨gb163, 0, none⟩ = some (.int .u8 0) := (blk_cell BK163.out 0).trans rfl; have hcz98_1 : w95.cell? ⟨gb163, 1, none⟩ = some (.bool false) := (blk_cell BK163.out 1).trans rfl; have hcz98_2 : w95.cell? ⟨gb163, 2, none⟩ = some (.string (⟨#[]⟩ : ByteArray)) := (blk_cell BK163.out 2).trans rfl; have hcz98_3 : w95.cell? ⟨gb163, 3, none⟩ = some (.int .i64 0) := (blk_cell BK163.out 3).trans rfl; have hcz98_4 : w95.cell? ⟨gb163, 4, none⟩ = some (.int .i64 0) := (blk_cell BK163.out 4).trans rfl; have hfz98_0 := blk_frozen BK163.out 0; have hfz98_1 := blk_frozen BK163.out 1; have hfz98_2 := blk_frozen BK163.out 2; have hfz98_3 := blk_frozen BK163.out 3; have hfz98_4 := blk_frozen BK163.out 4; have hcz99_0 : w95.cell? ⟨gb160, 0, none⟩ = some (.bool t156) := (blk_cell BK160.out 0).trans rfl; have hcz99_1 : w95.cell? ⟨gb160, 1, none⟩ = some (.string t157) := (blk_cell BK160.out 1).trans rfl; have hcz99_2 : w95.cell? ⟨gb160, 2, none⟩ = some (.string t158) := (blk_cell BK160.out 2).trans rfl; have hcz99_3 : w95.cell? ⟨gb160, 3, none⟩ = some (.int .i64 t159) := (blk_cell BK160.out 3).trans rfl; have hfz99_0 := blk_frozen BK160.out 0; have hfz99_1 := blk_frozen BK160.out 1; have hfz99_2 := blk_frozen BK160.out 2; have hfz99_3 := blk_frozen BK160.out 3) | (have ztk107 := tk107; clear tk107 ztk107; (with_reducible refine gate_callee (f := 38) rfl ?_); refine goesL_ (some 82) rfl rfl Tryd.func38 (by kernel_rfl) rfl #[.string t157, .string t158, .int .i64 t161] rfl qnp0_ ?_; (with_reducible refine (numeral_digits.calls k4 t157 t158 t161 t164 t165 _ A88.out).mono ?_); rintro e w100 ⟨rfl, hb⟩; refine ⟨_, rfl, ?_⟩; have n0_ := Aside0.mk (blk_below (g := gb145) (o := .cells #[.int .u8 x146000_4, .bool x146001_4, .string x146002_4, .int .i64 x146003_4, .int .i64 x146004_4] 29 (0, 0)) (by (with_reducible repeat (first | refine blk_drewN ?_ _ | refine blk_drew ?_ | refine blk_alloc ?_ _)); refine blk_far ?_ NB145_163.out _; (with_reducible repeat (first | refine blk_drewN ?_ _ | refine blk_drew ?_ | refine blk_alloc ?_ _)); refine blk_far ?_ NB145_163.out _; (with_reducible repeat (first | refine blk_drewN ?_ _ | refine blk_drew ?_ | refine blk_alloc ?_ _)); refine blk_far ?_ NB145_163.out _; (with_reducible repeat (first | refine blk_drewN ?_ _ | refine blk_drew ?_ | refine blk_alloc ?_ _)); refine blk_far ?_ NB145_163.out _; (with_reducible repeat (first | refine blk_drewN ?_ _ | refine blk_drew ?_ | refine blk_alloc ?_ _)); refine blk_far ?_ NB145_163.out _; (with_reducible repeat (first | refine blk_drewN ?_ _ | refine blk_drew ?_ | refine blk_alloc ?_ _)); exact BK145.out) hb); have n1_ := Aside0.mk (blk_below (g := gb160) (o := .cells #[.bool t156, .string t157, .string t158, .int .i64 t159] 55 (0, 0)) (by (with_reducible repeat (first | refine blk_drewN ?_ _ | refine blk_drew ?_ | refine blk_alloc ?_ _)); refine blk_far ?_ NB160_163.out _; (with_reducible repeat (first | refine blk_drewN ?_ _ | refine blk_drew ?_ | refine blk_alloc ?_ _)); refine blk_far ?_ NB160_163.out _; (with_reducible repeat (first | refine blk_drewN ?_ _ | refine blk_drew ?_ | refine blk_alloc ?_ _)); refine blk_far ?_ NB160_163.out _; (with_reducible repeat (first | refine blk_drewN ?_ _ | refine blk_drew ?_ | refine blk_alloc ?_ _)); refine blk_far ?_ NB160_163.out _; (with_reducible repeat (first | refine blk_drewN ?_ _ | refine blk_drew ?_ | refine blk_alloc ?_ _)); refine blk_far ?_ NB160_163.out _; (with_reducible repeat (first | refine blk_drewN ?_ _ | refine blk_drew ?_ | refine blk_alloc ?_ _)); exact BK160.out) hb); have n2_ := Aside0.mk (blk_below (g := gb163) (o := .cells #[.int .u8 3, .bool false, .string (⟨#[]⟩ : ByteArray), .int .i64 0, .int .i64 t162] 29 (0, 0)) (by (with_reducible repeat (first | refine blk_drewN ?_ _ | refine blk_drew ?_ | refine blk_alloc ?_ _)); refine blk_put (cs := #[.int .u8 3, .bool false, .string (⟨#[]⟩ : ByteArray), .int .i64 0, .int .i64 0]) ?_ 4 _ rfl; (with_reducible repeat (first | refine blk_drewN ?_ _ | refine blk_drew ?_ | refine blk_alloc ?_ _)); refine blk_put (cs := #[.int .u8 3, .bool false, .string (⟨#[]⟩ : ByteArray), .int .i64 0, .int .i64 0]) ?_ 3 _ rfl; (with_reducible repeat (first | refine blk_drewN ?_ _ | refine blk_drew ?_ | refine blk_alloc ?_ _)); refine blk_put (cs := #[.int .u8 3, .bool false, .string (⟨#[]⟩ : ByteArray), .int .i64 0, .int .i64 0]) ?_ 2 _ rfl; (with_reducible repeat (first | refine blk_drewN ?_ _ | refine blk_drew ?_ | refine blk_alloc ?_ _)); refine blk_put (cs := #[.int .u8 3, .bool false, .string (⟨#[]⟩ : ByteArray), .int .i64 0, .int .i64 0]) ?_ 1 _ rfl; (with_reducible repeat (first | refine blk_drewN ?_ _ | refine blk_drew ?_ | refine blk_alloc ?_ _)); refine blk_put (cs := #[.int .u8 0, .bool false, .string (⟨#[]⟩ : ByteArray), .int .i64 0, .int .i64 0]) ?_ 0 _ rfl; (with_reducible repeat (first | refine blk_drewN ?_ _ | refine blk_drew ?_ | refine blk_alloc ?_ _)); exact BK163.out) hb); have n3_ := Aside0.mk (below_step qnp53_ hb); clear BK145; clear BK160; clear BK163; clear HB; have BK145 := n0_; have BK160 := n1_; have BK163 := n2_; have HB := n3_; clear n0_ n1_ n2_ n3_; (try clear hb); (try clear hb2); (try clear hk); (try clear hi); have hcz101_0 : w100.cell? ⟨gb163, 0, none⟩ = some (.int .u8 3) := (blk_cell BK163.out 0).trans rfl; have hcz101_1 : w100.cell? ⟨gb163, 1, none⟩ = some (.bool false) := (blk_cell BK163.out 1).trans rfl; have hcz101_2 : w100.cell? ⟨gb163, 2, none⟩ = some (.string (⟨#[]⟩ : ByteArray)) := (blk_cell BK163.out 2).trans rfl; have hcz101_3 : w100.cell? ⟨gb163, 3, none⟩ = some (.int .i64 0) := (blk_cell BK163.out 3).trans rfl; have hcz101_4 : w100.cell? ⟨gb163, 4, none⟩ = some (.int .i64 t162) := (blk_cell BK163.out 4).trans rfl; have hfz101_0 := blk_frozen BK163.out 0; have hfz101_1 := blk_frozen BK163.out 1; have hfz101_2 := blk_frozen BK163.out 2; have hfz101_3 := blk_frozen BK163.out 3; have hfz101_4 := blk_frozen BK163.out 4; have hcz102_0 : w100.cell? ⟨gb145, 0, none⟩ = some (.int .u8 x146000_4) := (blk_cell BK145.out 0).trans rfl; have hcz102_1 : w100.cell? ⟨gb145, 1, none⟩ = some (.bool x146001_4) := (blk_cell BK145.out 1).trans rfl; have hcz102_2 : w100.cell? ⟨gb145, 2, none⟩ = some (.string x146002_4) := (blk_cell BK145.out 2).trans rfl; have hcz102_3 : w100.cell? ⟨gb145, 3, none⟩ = some (.int .i64 x146003_4) := (blk_cell BK145.out 3).trans rfl; have hcz102_4 : w100.cell? ⟨gb145, 4, none⟩ = some (.int .i64 x146004_4) := (blk_cell BK145.out 4).trans rfl; have hfz102_0 := blk_frozen BK145.out 0; have hfz102_1 := blk_frozen BK145.out 1; have hfz102_2 := blk_frozen BK145.out 2; have hfz102_3 := blk_frozen BK145.out 3; have hfz102_4 := blk_frozen BK145.out 4))
            refine bodyPost_ret (results_cell_row rfl _ _ gb145 29 #[.int .u8 3, .bool (!t164.toList.isEmpty), .string t164, .int .i64 t165, .int .i64 t162] (0, 0) _ rfl (by (with_reducible repeat (first | refine blk_drewN ?_ _ | refine blk_drew ?_ | refine blk_alloc ?_ _)); refine blk_put (cs := #[.int .u8 3, .bool (!t164.toList.isEmpty), .string t164, .int .i64 t165, .int .i64 x146004_4]) ?_ 4 _ rfl; (with_reducible repeat (first | refine blk_drewN ?_ _ | refine blk_drew ?_ | refine blk_alloc ?_ _)); refine blk_put (cs := #[.int .u8 3, .bool (!t164.toList.isEmpty), .string t164, .int .i64 x146003_4, .int .i64 x146004_4]) ?_ 3 _ rfl; (with_reducible repeat (first | refine blk_drewN ?_ _ | refine blk_drew ?_ | refine blk_alloc ?_ _)); refine blk_put (cs := #[.int .u8 3, .bool (!t164.toList.isEmpty), .string x146002_4, .int .i64 x146003_4, .int .i64 x146004_4]) ?_ 2 _ rfl; (with_reducible repeat (first | refine blk_drewN ?_ _ | refine blk_drew ?_ | refine blk_alloc ?_ _)); refine blk_put (cs := #[.int .u8 3, .bool x146001_4, .string x146002_4, .int .i64 x146003_4, .int .i64 x146004_4]) ?_ 1 _ rfl; (with_reducible repeat (first | refine blk_drewN ?_ _ | refine blk_drew ?_ | refine blk_alloc ?_ _)); refine blk_put (cs := #[.int .u8 x146000_4, .bool x146001_4, .string x146002_4, .int .i64 x146003_4, .int .i64 x146004_4]) ?_ 0 _ rfl; (with_reducible repeat (first | refine blk_drewN ?_ _ | refine blk_drew ?_ | refine blk_alloc ?_ _)); refine blk_far ?_ NB145_163.out _; (with_reducible repeat (first | refine blk_drewN ?_ _ | refine blk_drew ?_ | refine blk_alloc ?_ _)); refine blk_far ?_ NB145_163.out _; (with_reducible repeat (first | refine blk_drewN ?_ _ | refine blk_drew ?_ | refine blk_alloc ?_ _)); refine blk_far ?_ NB145_163.out _; (with_reducible repeat (first | refine blk_drewN ?_ _ | refine blk_drew ?_ | refine blk_alloc ?_ _)); exact BK145.out) Tryd.underlying29 rfl (by kernel_rfl)) rfl ?_
            exact ⟨qnp5_, qnp53_⟩
           ·
            replace c89 := Bool.eq_false_iff.mpr c89
            subst c89
            have H1 : (some (3, false, t164, t165, t162)) = some (r1, r2, r3, r4, r5) := by rw [if_neg (show ¬ (false = true) by decide)] at H; exact H
            clear H
            have H := H1
            clear H1
            simp only [Option.some.injEq, Prod.mk.injEq] at H
            obtain ⟨rfl, rfl, rfl, rfl, rfl⟩ := H
            have tk121 : True := trivial; have tk122 : True := trivial; have tk123 : True := trivial; have tk124 : True := trivial; have tk125 : True := trivial
            go_wp2_with (first | (have ztk121 := tk121; clear tk121 ztk121; (with_reducible refine gate_callee (f := 36) rfl ?_); refine goesL_ (some 62) rfl rfl Tryd.func36 (by kernel_rfl) rfl #[.string a0, .int .i64 x3_14] rfl qnp0_ ?_; (with_reducible refine (numeral_plain.calls a0 x3_14 t156 t157 t158 t159 _ A78.out).mono ?_); rintro e w108 ⟨rfl, hb⟩; refine ⟨_, rfl, ?_⟩; have n0_ := Aside0.mk (blk_below (g := gb145) (o := .cells #[.int .u8 x146000_4, .bool x146001_4, .string x146002_4, .int .i64 x146003_4, .int .i64 x146004_4] 29 (0, 0)) qnp10_ hb); have n1_ := Aside0.mk (below_step qnp9_ hb); clear BK145; clear HB; have BK145 := n0_; have HB := n1_; clear n0_ n1_; (try clear hb); (try clear hb2); (try clear hk); (try clear hi)) | (have ztk122 := tk122; clear tk122 ztk122; (with_reducible refine gate_dst (N := 8) rfl ?_); (try (refine gate_guard (by rfl) ?_; dsimp only)); refine box_event ?hg (N := 8) ?hd (cs := #[.bool false, .string (⟨#[]⟩ : ByteArray), .string (⟨#[]⟩ : ByteArray), .int .i64 0]) (t := 55) ?hr ?_; (case hd => rfl); (case hg => rfl); (case hr => first | (go_simp; done) | (go_simp; rfl)); intro gb160 hg w109 hbox hb; have n0_ := Aside0.mk (blk_below (g := gb145) (o := .cells #[.int .u8 x146000_4, .bool x146001_4, .string x146002_4, .int .i64 x146003_4, .int .i64 x146004_4] 29 (0, 0)) qnp10_ hb); have n1_ := Aside0.mk (below_step qnp9_ hb); have n2_ := Aside0.mk (hbox); have n3_ := Aside0.mk ((by rw [hg]; exact (below_size qnp9_) : w.heap.size ≤ gb160)); have n4_ := Aside0.mk ((by rw [hg]; exact (below_size qnp9_) : w.heap.size ≤ gb160)); have n5_ := Aside0.mk ((by rw [hg]; exact Nat.ne_of_lt (blk_lt (g := gb145) (o := .cells #[.int .u8 x146000_4, .bool x146001_4, .string x146002_4, .int .i64 x146003_4, .int .i64 x146004_4] 29 (0, 0)) qnp10_) : gb145 ≠ gb160)); have n6_ := Aside0.mk ((by rw [hg]; exact Nat.ne_of_gt (blk_lt (g := gb145) (o := .cells #[.int .u8 x146000_4, .bool x146001_4, .string x146002_4, .int .i64 x146003_4, .int .i64 x146004_4] 29 (0, 0)) qnp10_) : gb160 ≠ gb145)); clear BK145; clear HB; have BK145 := n0_; have HB := n1_; have BK160 := n2_; have GW160 := n3_; have GE160 := n4_; have NB145_160 := n5_; have NB160_145 := n6_; clear n0_ n1_ n2_ n3_ n4_ n5_ n6_; clear hb hbox hg; have hnb110 := NB160_145.out; have hnc110 := NB145_160.out; have hcz111_0 : w109.cell? ⟨gb160, 0, none⟩ = some (.bool false) := (blk_cell BK160.out 0).trans rfl; have hcz111_1 : w109.cell? ⟨gb160, 1, none⟩ = some (.string (⟨#[]⟩ : ByteArray)) := (blk_cell BK160.out 1).trans rfl; have hcz111_2 : w109.cell? ⟨gb160, 2, none⟩ = some (.string (⟨#[]⟩ : ByteArray)) := (blk_cell BK160.out 2).trans rfl; have hcz111_3 : w109.cell? ⟨gb160, 3, none⟩ = some (.int .i64 0) := (blk_cell BK160.out 3).trans rfl; have hfz111_0 := blk_frozen BK160.out 0; have hfz111_1 := blk_frozen BK160.out 1; have hfz111_2 := blk_frozen BK160.out 2; have hfz111_3 := blk_frozen BK160.out 3) | (have ztk123 := tk123; clear tk123 ztk123; (with_reducible refine gate_callee (f := 37) rfl ?_); refine goesL_ (some 71) rfl rfl Tryd.func37 (by kernel_rfl) rfl #[.string a0, .int .i64 t159] rfl qnp0_ ?_; (with_reducible refine (numeral_exponent.calls k4 a0 t159 t161 t162 _ A87.out).mono ?_); rintro e w112 ⟨rfl, hb⟩; refine ⟨_, rfl, ?_⟩; have n0_ := Aside0.mk (blk_below (g := gb145) (o := .cells #[.int .u8 x146000_4, .bool x146001_4, .string x146002_4, .int .i64 x146003_4, .int .i64 x146004_4] 29 (0, 0)) (by (with_reducible repeat (first | refine blk_drewN ?_ _ | refine blk_drew ?_ | refine blk_alloc ?_ _)); refine blk_far ?_ NB145_160.out _; (with_reducible repeat (first | refine blk_drewN ?_ _ | refine blk_drew ?_ | refine blk_alloc ?_ _)); refine blk_far ?_ NB145_160.out _; (with_reducible repeat (first | refine blk_drewN ?_ _ | refine blk_drew ?_ | refine blk_alloc ?_ _)); refine blk_far ?_ NB145_160.out _; (with_reducible repeat (first | refine blk_drewN ?_ _ | refine blk_drew ?_ | refine blk_alloc ?_ _)); refine blk_far ?_ NB145_160.out _; (with_reducible repeat (first | refine blk_drewN ?_ _ | refine blk_drew ?_ | refine blk_alloc ?_ _)); exact BK145.out) hb); have n1_ := Aside0.mk (blk_below (g := gb160) (o := .cells #[.bool t156, .string t157, .string t158, .int .i64 t159] 55 (0, 0)) (by (with_reducible repeat (first | refine blk_drewN ?_ _ | refine blk_drew ?_ | refine blk_alloc ?_ _)); refine blk_put (cs := #[.bool t156, .string t157, .string t158, .int .i64 0]) ?_ 3 _ rfl; (with_reducible repeat (first | refine blk_drewN ?_ _ | refine blk_drew ?_ | refine blk_alloc ?_ _)); refine blk_put (cs := #[.bool t156, .string t157, .string (⟨#[]⟩ : ByteArray), .int .i64 0]) ?_ 2 _ rfl; (with_reducible repeat (first | refine blk_drewN ?_ _ | refine blk_drew ?_ | refine blk_alloc ?_ _)); refine blk_put (cs := #[.bool t156, .string (⟨#[]⟩ : ByteArray), .string (⟨#[]⟩ : ByteArray), .int .i64 0]) ?_ 1 _ rfl; (with_reducible repeat (first | refine blk_drewN ?_ _ | refine blk_drew ?_ | refine blk_alloc ?_ _)); refine blk_put (cs := #[.bool false, .string (⟨#[]⟩ : ByteArray), .string (⟨#[]⟩ : ByteArray), .int .i64 0]) ?_ 0 _ rfl; (with_reducible repeat (first | refine blk_drewN ?_ _ | refine blk_drew ?_ | refine blk_alloc ?_ _)); exact BK160.out) hb); have n2_ := Aside0.mk (below_step qnp29_ hb); clear BK145; clear BK160; clear HB; have BK145 := n0_; have BK160 := n1_; have HB := n2_; clear n0_ n1_ n2_; (try clear hb); (try clear hb2); (try clear hk); (try clear hi)) | (have ztk124 := tk124; clear tk124 ztk124; (with_reducible refine gate_dst (N := 11) rfl ?_); (try (refine gate_guard (by rfl) ?_; dsimp only)); refine box_event ?hg (N := 11) ?hd (cs := #[.int .u8 0, .bool false, .string (⟨#[]⟩ : ByteArray), .int .i64 0, .int .i64 0]) (t := 29) ?hr ?_; (case hd => rfl); (case hg => rfl); (case hr => first | (go_simp; done) | (go_simp; rfl)); intro gb163 hg w113 hbox hb; have n0_ := Aside0.mk (blk_below (g := gb145) (o := .cells #[.int .u8 x146000_4, .bool x146001_4, .string x146002_4, .int .i64 x146003_4, .int .i64 x146004_4] 29 (0, 0)) qnp10_ hb); have n1_ := Aside0.mk (blk_below (g := gb160) (o := .cells #[.bool t156, .string t157, .string t158, .int .i64 t159] 55 (0, 0)) qnp58_ hb); have n2_ := Aside0.mk (below_step qnp29_ hb); have n3_ := Aside0.mk (hbox); have n4_ := Aside0.mk ((by rw [hg]; exact (below_size qnp29_) : w.heap.size ≤ gb163)); have n5_ := Aside0.mk ((by rw [hg]; exact (below_size qnp29_) : w.heap.size ≤ gb163)); have n6_ := Aside0.mk ((by rw [hg]; exact Nat.ne_of_lt (blk_lt (g := gb145) (o := .cells #[.int .u8 x146000_4, .bool x146001_4, .string x146002_4, .int .i64 x146003_4, .int .i64 x146004_4] 29 (0, 0)) qnp10_) : gb145 ≠ gb163)); have n7_ := Aside0.mk ((by rw [hg]; exact Nat.ne_of_gt (blk_lt (g := gb145) (o := .cells #[.int .u8 x146000_4, .bool x146001_4, .string x146002_4, .int .i64 x146003_4, .int .i64 x146004_4] 29 (0, 0)) qnp10_) : gb163 ≠ gb145)); have n8_ := Aside0.mk ((by rw [hg]; exact Nat.ne_of_lt (blk_lt (g := gb160) (o := .cells #[.bool t156, .string t157, .string t158, .int .i64 t159] 55 (0, 0)) qnp58_) : gb160 ≠ gb163)); have n9_ := Aside0.mk ((by rw [hg]; exact Nat.ne_of_gt (blk_lt (g := gb160) (o := .cells #[.bool t156, .string t157, .string t158, .int .i64 t159] 55 (0, 0)) qnp58_) : gb163 ≠ gb160)); clear BK145; clear BK160; clear HB; have BK145 := n0_; have BK160 := n1_; have HB := n2_; have BK163 := n3_; have GW163 := n4_; have GE163 := n5_; have NB145_163 := n6_; have NB163_145 := n7_; have NB160_163 := n8_; have NB163_160 := n9_; clear n0_ n1_ n2_ n3_ n4_ n5_ n6_ n7_ n8_ n9_; clear hb hbox hg; have hnb114 := NB163_145.out; have hnc114 := NB145_163.out; have hnb115 := NB163_160.out; have hnc115 := NB160_163.out; have hcz116_0 : w113.cell? ⟨gb163, 0, none⟩ = some (.int .u8 0) := (blk_cell BK163.out 0).trans rfl; have hcz116_1 : w113.cell? ⟨gb163, 1, none⟩ = some (.bool false) := (blk_cell BK163.out 1).trans rfl; have hcz116_2 : w113.cell? ⟨gb163, 2, none⟩ = some (.string (⟨#[]⟩ : ByteArray)) := (blk_cell BK163.out 2).trans rfl; have hcz116_3 : w113.cell? ⟨gb163, 3, none⟩ = some (.int .i64 0) := (blk_cell BK163.out 3).trans rfl; have hcz116_4 : w113.cell? ⟨gb163, 4, none⟩ = some (.int .i64 0) := (blk_cell BK163.out 4).trans rfl; have hfz116_0 := blk_frozen BK163.out 0; have hfz116_1 := blk_frozen BK163.out 1; have hfz116_2 := blk_frozen BK163.out 2; have hfz116_3 := blk_frozen BK163.out 3; have hfz116_4 := blk_frozen BK163.out 4; have hcz117_0 : w113.cell? ⟨gb160, 0, none⟩ = some (.bool t156) := (blk_cell BK160.out 0).trans rfl; have hcz117_1 : w113.cell? ⟨gb160, 1, none⟩ = some (.string t157) := (blk_cell BK160.out 1).trans rfl; have hcz117_2 : w113.cell? ⟨gb160, 2, none⟩ = some (.string t158) := (blk_cell BK160.out 2).trans rfl; have hcz117_3 : w113.cell? ⟨gb160, 3, none⟩ = some (.int .i64 t159) := (blk_cell BK160.out 3).trans rfl; have hfz117_0 := blk_frozen BK160.out 0; have hfz117_1 := blk_frozen BK160.out 1; have hfz117_2 := blk_frozen BK160.out 2; have hfz117_3 := blk_frozen BK160.out 3) | (have ztk125 := tk125; clear tk125 ztk125; (with_reducible refine gate_callee (f := 38) rfl ?_); refine goesL_ (some 82) rfl rfl Tryd.func38 (by kernel_rfl) rfl #[.string t157, .string t158, .int .i64 t161] rfl qnp0_ ?_; (with_reducible refine (numeral_digits.calls k4 t157 t158 t161 t164 t165 _ A88.out).mono ?_); rintro e w118 ⟨rfl, hb⟩; refine ⟨_, rfl, ?_⟩; have n0_ := Aside0.mk (blk_below (g := gb145) (o := .cells #[.int .u8 x146000_4, .bool x146001_4, .string x146002_4, .int .i64 x146003_4, .int .i64 x146004_4] 29 (0, 0)) (by (with_reducible repeat (first | refine blk_drewN ?_ _ | refine blk_drew ?_ | refine blk_alloc ?_ _)); refine blk_far ?_ NB145_163.out _; (with_reducible repeat (first | refine blk_drewN ?_ _ | refine blk_drew ?_ | refine blk_alloc ?_ _)); refine blk_far ?_ NB145_163.out _; (with_reducible repeat (first | refine blk_drewN ?_ _ | refine blk_drew ?_ | refine blk_alloc ?_ _)); refine blk_far ?_ NB145_163.out _; (with_reducible repeat (first | refine blk_drewN ?_ _ | refine blk_drew ?_ | refine blk_alloc ?_ _)); refine blk_far ?_ NB145_163.out _; (with_reducible repeat (first | refine blk_drewN ?_ _ | refine blk_drew ?_ | refine blk_alloc ?_ _)); refine blk_far ?_ NB145_163.out _; (with_reducible repeat (first | refine blk_drewN ?_ _ | refine blk_drew ?_ | refine blk_alloc ?_ _)); exact BK145.out) hb); have n1_ := Aside0.mk (blk_below (g := gb160) (o := .cells #[.bool t156, .string t157, .string t158, .int .i64 t159] 55 (0, 0)) (by (with_reducible repeat (first | refine blk_drewN ?_ _ | refine blk_drew ?_ | refine blk_alloc ?_ _)); refine blk_far ?_ NB160_163.out _; (with_reducible repeat (first | refine blk_drewN ?_ _ | refine blk_drew ?_ | refine blk_alloc ?_ _)); refine blk_far ?_ NB160_163.out _; (with_reducible repeat (first | refine blk_drewN ?_ _ | refine blk_drew ?_ | refine blk_alloc ?_ _)); refine blk_far ?_ NB160_163.out _; (with_reducible repeat (first | refine blk_drewN ?_ _ | refine blk_drew ?_ | refine blk_alloc ?_ _)); refine blk_far ?_ NB160_163.out _; (with_reducible repeat (first | refine blk_drewN ?_ _ | refine blk_drew ?_ | refine blk_alloc ?_ _)); refine blk_far ?_ NB160_163.out _; (with_reducible repeat (first | refine blk_drewN ?_ _ | refine blk_drew ?_ | refine blk_alloc ?_ _)); exact BK160.out) hb); have n2_ := Aside0.mk (blk_below (g := gb163) (o := .cells #[.int .u8 3, .bool false, .string (⟨#[]⟩ : ByteArray), .int .i64 0, .int .i64 t162] 29 (0, 0)) (by (with_reducible repeat (first | refine blk_drewN ?_ _ | refine blk_drew ?_ | refine blk_alloc ?_ _)); refine blk_put (cs := #[.int .u8 3, .bool false, .string (⟨#[]⟩ : ByteArray), .int .i64 0, .int .i64 0]) ?_ 4 _ rfl; (with_reducible repeat (first | refine blk_drewN ?_ _ | refine blk_drew ?_ | refine blk_alloc ?_ _)); refine blk_put (cs := #[.int .u8 3, .bool false, .string (⟨#[]⟩ : ByteArray), .int .i64 0, .int .i64 0]) ?_ 3 _ rfl; (with_reducible repeat (first | refine blk_drewN ?_ _ | refine blk_drew ?_ | refine blk_alloc ?_ _)); refine blk_put (cs := #[.int .u8 3, .bool false, .string (⟨#[]⟩ : ByteArray), .int .i64 0, .int .i64 0]) ?_ 2 _ rfl; (with_reducible repeat (first | refine blk_drewN ?_ _ | refine blk_drew ?_ | refine blk_alloc ?_ _)); refine blk_put (cs := #[.int .u8 3, .bool false, .string (⟨#[]⟩ : ByteArray), .int .i64 0, .int .i64 0]) ?_ 1 _ rfl; (with_reducible repeat (first | refine blk_drewN ?_ _ | refine blk_drew ?_ | refine blk_alloc ?_ _)); refine blk_put (cs := #[.int .u8 0, .bool false, .string (⟨#[]⟩ : ByteArray), .int .i64 0, .int .i64 0]) ?_ 0 _ rfl; (with_reducible repeat (first | refine blk_drewN ?_ _ | refine blk_drew ?_ | refine blk_alloc ?_ _)); exact BK163.out) hb); have n3_ := Aside0.mk (below_step qnp53_ hb); clear BK145; clear BK160; clear BK163; clear HB; have BK145 := n0_; have BK160 := n1_; have BK163 := n2_; have HB := n3_; clear n0_ n1_ n2_ n3_; (try clear hb); (try clear hb2); (try clear hk); (try clear hi); have hcz119_0 : w118.cell? ⟨gb163, 0, none⟩ = some (.int .u8 3) := (blk_cell BK163.out 0).trans rfl; have hcz119_1 : w118.cell? ⟨gb163, 1, none⟩ = some (.bool false) := (blk_cell BK163.out 1).trans rfl; have hcz119_2 : w118.cell? ⟨gb163, 2, none⟩ = some (.string (⟨#[]⟩ : ByteArray)) := (blk_cell BK163.out 2).trans rfl; have hcz119_3 : w118.cell? ⟨gb163, 3, none⟩ = some (.int .i64 0) := (blk_cell BK163.out 3).trans rfl; have hcz119_4 : w118.cell? ⟨gb163, 4, none⟩ = some (.int .i64 t162) := (blk_cell BK163.out 4).trans rfl; have hfz119_0 := blk_frozen BK163.out 0; have hfz119_1 := blk_frozen BK163.out 1; have hfz119_2 := blk_frozen BK163.out 2; have hfz119_3 := blk_frozen BK163.out 3; have hfz119_4 := blk_frozen BK163.out 4; have hcz120_0 : w118.cell? ⟨gb145, 0, none⟩ = some (.int .u8 x146000_4) := (blk_cell BK145.out 0).trans rfl; have hcz120_1 : w118.cell? ⟨gb145, 1, none⟩ = some (.bool x146001_4) := (blk_cell BK145.out 1).trans rfl; have hcz120_2 : w118.cell? ⟨gb145, 2, none⟩ = some (.string x146002_4) := (blk_cell BK145.out 2).trans rfl; have hcz120_3 : w118.cell? ⟨gb145, 3, none⟩ = some (.int .i64 x146003_4) := (blk_cell BK145.out 3).trans rfl; have hcz120_4 : w118.cell? ⟨gb145, 4, none⟩ = some (.int .i64 x146004_4) := (blk_cell BK145.out 4).trans rfl; have hfz120_0 := blk_frozen BK145.out 0; have hfz120_1 := blk_frozen BK145.out 1; have hfz120_2 := blk_frozen BK145.out 2; have hfz120_3 := blk_frozen BK145.out 3; have hfz120_4 := blk_frozen BK145.out 4))
            refine bodyPost_ret (results_cell_row rfl _ _ gb145 29 #[.int .u8 3, .bool false, .string t164, .int .i64 t165, .int .i64 t162] (0, 0) _ rfl (by (with_reducible repeat (first | refine blk_drewN ?_ _ | refine blk_drew ?_ | refine blk_alloc ?_ _)); refine blk_put (cs := #[.int .u8 3, .bool false, .string t164, .int .i64 t165, .int .i64 x146004_4]) ?_ 4 _ rfl; (with_reducible repeat (first | refine blk_drewN ?_ _ | refine blk_drew ?_ | refine blk_alloc ?_ _)); refine blk_put (cs := #[.int .u8 3, .bool false, .string t164, .int .i64 x146003_4, .int .i64 x146004_4]) ?_ 3 _ rfl; (with_reducible repeat (first | refine blk_drewN ?_ _ | refine blk_drew ?_ | refine blk_alloc ?_ _)); refine blk_put (cs := #[.int .u8 3, .bool false, .string x146002_4, .int .i64 x146003_4, .int .i64 x146004_4]) ?_ 2 _ rfl; (with_reducible repeat (first | refine blk_drewN ?_ _ | refine blk_drew ?_ | refine blk_alloc ?_ _)); refine blk_put (cs := #[.int .u8 3, .bool x146001_4, .string x146002_4, .int .i64 x146003_4, .int .i64 x146004_4]) ?_ 1 _ rfl; (with_reducible repeat (first | refine blk_drewN ?_ _ | refine blk_drew ?_ | refine blk_alloc ?_ _)); refine blk_put (cs := #[.int .u8 x146000_4, .bool x146001_4, .string x146002_4, .int .i64 x146003_4, .int .i64 x146004_4]) ?_ 0 _ rfl; (with_reducible repeat (first | refine blk_drewN ?_ _ | refine blk_drew ?_ | refine blk_alloc ?_ _)); refine blk_far ?_ NB145_163.out _; (with_reducible repeat (first | refine blk_drewN ?_ _ | refine blk_drew ?_ | refine blk_alloc ?_ _)); refine blk_far ?_ NB145_163.out _; (with_reducible repeat (first | refine blk_drewN ?_ _ | refine blk_drew ?_ | refine blk_alloc ?_ _)); refine blk_far ?_ NB145_163.out _; (with_reducible repeat (first | refine blk_drewN ?_ _ | refine blk_drew ?_ | refine blk_alloc ?_ _)); exact BK145.out) Tryd.underlying29 rfl (by kernel_rfl)) rfl ?_
            exact ⟨qnp5_, qnp53_⟩


/-! ### numeral_Month: function 23 -/
def numeral_Month.l0 : Nat → ByteArray → Int → Int → Option (Int)
 | 0, _, _, _ => none
 | k + 1, x0, x3, x7 => if x7 < 12 then (if 0 ≤ x7 then ((numeral_begins.f k x0 x3 (rdOf ByteArray.empty G_months x7)).bind fun t224 => (if t224 = true then (some (wrap64 (x7 + 1))) else (numeral_Month.l0 k x0 x3 (wrap64 (x7 + 1))))) else (none)) else (some 0)
def numeral_Month.f (k : Nat) (a0 : ByteArray) : Option (Int) := (numeral_blanks.f k a0).bind fun t222 => (numeral_Month.l0 k a0 t222 0)
set_option maxHeartbeats 8000000 in
set_option maxRecDepth 100000 in
theorem numeral_Month.calls (k : Nat) (a0 : ByteArray) (r : Int) (w : World) (hGL : GOK w) (h : numeral_Month.f k a0 = some r) :
  Calls Tryd.prog 23 #[.string a0] w fun e w' => e = .returned (.int .i64 r) ∧ Drawn0 w w' := by
 have HRg0 := Aside0.mk hGL.g0
 have HGL := Aside0.mk hGL
 clear hGL
 have H : ((numeral_blanks.f k a0).bind fun t222 => (numeral_Month.l0 k a0 t222 0)) = some r := h
 clear h
 replace H := Option.bind_eq_some_iff.mp H
 obtain ⟨t222, A20, H⟩ := H
 replace H : (numeral_Month.l0 k a0 t222 0) = some r := H
 have A2 := Aside0.mk A20
 clear A20
 have H' := Aside0.mk H
 clear H
 go_enter Tryd.func23, Tryd.ntmps23
 go_wp2_with (first | ((with_reducible refine gate_callee (f := 34) rfl ?_); refine goesL_ (some 6) rfl rfl Tryd.func34 (by kernel_rfl) rfl #[.string a0] rfl qnp0_ ?_; (with_reducible refine (numeral_blanks.calls k a0 t222 _ A2.out).mono ?_); rintro e w' ⟨rfl, ⟨nd, rfl⟩⟩; refine ⟨_, rfl, ?_⟩))
 go_loopg [7] k (fun kq v7 w' => ∃ (x7_1 : Int), v7 = .int .i64 x7_1 ∧ Aside0 (numeral_Month.l0 kq a0 t222 x7_1 = some r) ∧ Aside0 (kq ≤ k) ∧ Drawn0 w w')
 case atStart => exact ⟨(0), qnp2_, H', ⟨Nat.le_refl _⟩, qnp4_⟩
 case round =>
  clear H'
  (try clear c2); (try clear p2)
  obtain ⟨x7_1, rfl, HA, HK1, ⟨m1, rfl⟩⟩ := hrel
  cases gk with
  | zero => exact absurd HA.out (by simp [numeral_Month.l0])
  | succ k1 =>
   have H := HA.out
   clear HA
   simp only [numeral_Month.l0] at H
   by_cases c3 : x7_1 < 12
   ·
    rw [if_pos c3] at H
    have c3b0 : decide (x7_1 < 12) = true := decide_eq_true c3
    clear c3
    by_cases c4 : 0 ≤ x7_1
    ·
     rw [if_pos c4] at H
     have c4b0 : decide (0 ≤ x7_1) = true := decide_eq_true c4
     clear c4
     replace H := Option.bind_eq_some_iff.mp H
     obtain ⟨t224, A50, H⟩ := H
     replace H : (if t224 = true then (some (wrap64 (x7_1 + 1))) else (numeral_Month.l0 k1 a0 t222 (wrap64 (x7_1 + 1)))) = some r := H
     have A5 := Aside0.mk A50
     clear A50
     by_cases c6 : t224 = true
     ·
      subst c6
      have H1 : (some (wrap64 (x7_1 + 1))) = some r := by rw [if_pos rfl] at H; exact H
      clear H
      have H := H1
      clear H1
      obtain rfl := Option.some.inj H
      have p223 : 0 ≤ (x7_1 : Int) := of_decide_eq_true qnp3_
      have q223 : x7_1 < (G_months.length : Int) := (show (x7_1 : Int) < 12 from of_decide_eq_true qnp3_)
      have qg223 : ((x7_1 : Int) < 12) = True := eq_true q223
      obtain ⟨ad223, e223, hx223_0⟩ := Kd.at_string HRg0.out x7_1 p223 q223
      obtain rfl : (⟨0, 0, none⟩ : Addr) = ad223 := (by injection e223)
      (first | simp only [add_plain] at hx223_0 | simp only [add_at] at hx223_0 | simp only [Addr.add, Nat.zero_add] at hx223_0 | skip)
      replace p223 := eq_true p223
      replace q223 := eq_true q223
      go_wp2_with (first | ((with_reducible refine gate_callee (f := 35) rfl ?_); refine goesL_ (some 15) rfl rfl Tryd.func35 (by kernel_rfl) rfl #[.string a0, .int .i64 t222, .string (rdOf ByteArray.empty G_months x7_1)] rfl qnp0_ ?_; (with_reducible refine (numeral_begins.calls k1 a0 t222 (rdOf ByteArray.empty G_months x7_1) true _ A5.out).mono ?_); rintro e w' ⟨rfl, ⟨nd, rfl⟩⟩; refine ⟨_, rfl, ?_⟩))
      go_ret
      exact ⟨qnp2_, qnp4_⟩
     ·
      replace c6 := Bool.eq_false_iff.mpr c6
      subst c6
      have H1 : (numeral_Month.l0 k1 a0 t222 (wrap64 (x7_1 + 1))) = some r := by rw [if_neg (show ¬ (false = true) by decide)] at H; exact H
      clear H
      have H := H1
      clear H1
      have H' := Aside0.mk H
      clear H
      have p223 : 0 ≤ (x7_1 : Int) := of_decide_eq_true qnp3_
      have q223 : x7_1 < (G_months.length : Int) := (show (x7_1 : Int) < 12 from of_decide_eq_true qnp3_)
      have qg223 : ((x7_1 : Int) < 12) = True := eq_true q223
      obtain ⟨ad223, e223, hx223_0⟩ := Kd.at_string HRg0.out x7_1 p223 q223
      obtain rfl : (⟨0, 0, none⟩ : Addr) = ad223 := (by injection e223)
      (first | simp only [add_plain] at hx223_0 | simp only [add_at] at hx223_0 | simp only [Addr.add, Nat.zero_add] at hx223_0 | skip)
      replace p223 := eq_true p223
      replace q223 := eq_true q223
      go_wp2_with (first | ((with_reducible refine gate_callee (f := 35) rfl ?_); refine goesL_ (some 15) rfl rfl Tryd.func35 (by kernel_rfl) rfl #[.string a0, .int .i64 t222, .string (rdOf ByteArray.empty G_months x7_1)] rfl qnp0_ ?_; (with_reducible refine (numeral_begins.calls k1 a0 t222 (rdOf ByteArray.empty G_months x7_1) false _ A5.out).mono ?_); rintro e w' ⟨rfl, ⟨nd, rfl⟩⟩; refine ⟨_, rfl, ?_⟩))
      go_roundg k1
      case measure => have := HK1.out; omega
      case rel => exact ⟨(wrap64 (x7_1 + 1)), qnp2_, H', ⟨by have := HK1.out; omega⟩, qnp4_⟩
    ·
     rw [if_neg c4] at H
     exact absurd H (by simp)
   ·
    rw [if_neg c3] at H
    have c3b0 : decide (x7_1 < 12) = false := decide_eq_false c3
    clear c3
    obtain rfl := Option.some.inj H
    go_wp2
    go_ret
    exact ⟨qnp2_, qnp4_⟩


/-! ### cmp_isNaN_int: function 73 -/
def cmp_isNaN_int.f (a0 : Int) : Option (Bool) := some (a0 != a0)
set_option maxHeartbeats 8000000 in
set_option maxRecDepth 100000 in
theorem cmp_isNaN_int.calls (a0 : Int) (r : Bool) (w : World) (h : cmp_isNaN_int.f a0 = some r) :
  Calls Tryd.prog 73 #[.int .i64 a0] w fun e w' => e = .returned (.bool r) ∧ Drawn0 w w' := by
 have H : (some (a0 != a0)) = some r := h
 clear h
 obtain rfl := Option.some.inj H
 go_enter Tryd.func73, Tryd.ntmps73
 go_wp2
 go_ret
 exact ⟨qnp2_, qnp4_⟩


/-! ### cmp_Compare_int: function 51 -/
def cmp_Compare_int.f (a0 : Int) (a1 : Int) : Option (Int) := (cmp_isNaN_int.f a0).bind fun t228 => ((cmp_isNaN_int.f a1).bind fun t229 => (if t228 = true then (if t229 = true then (some 0) else (some (-1))) else (if t229 = true then (some 1) else (if a0 < a1 then (some (-1)) else (if a0 > a1 then (some 1) else (some 0))))))
set_option maxHeartbeats 8000000 in
set_option maxRecDepth 100000 in
theorem cmp_Compare_int.calls (a0 : Int) (a1 : Int) (r : Int) (w : World) (h : cmp_Compare_int.f a0 a1 = some r) :
  Calls Tryd.prog 51 #[.int .i64 a0, .int .i64 a1] w fun e w' => e = .returned (.int .i64 r) ∧ Drawn0 w w' := by
 have H : ((cmp_isNaN_int.f a0).bind fun t228 => ((cmp_isNaN_int.f a1).bind fun t229 => (if t228 = true then (if t229 = true then (some 0) else (some (-1))) else (if t229 = true then (some 1) else (if a0 < a1 then (some (-1)) else (if a0 > a1 then (some 1) else (some 0))))))) = some r := h
 clear h
 replace H := Option.bind_eq_some_iff.mp H
 obtain ⟨t228, A30, H⟩ := H
 replace H : ((cmp_isNaN_int.f a1).bind fun t229 => (if t228 = true then (if t229 = true then (some 0) else (some (-1))) else (if t229 = true then (some 1) else (if a0 < a1 then (some (-1)) else (if a0 > a1 then (some 1) else (some 0)))))) = some r := H
 have A3 := Aside0.mk A30
 clear A30
 replace H := Option.bind_eq_some_iff.mp H
 obtain ⟨t229, A40, H⟩ := H
 replace H : (if t228 = true then (if t229 = true then (some 0) else (some (-1))) else (if t229 = true then (some 1) else (if a0 < a1 then (some (-1)) else (if a0 > a1 then (some 1) else (some 0))))) = some r := H
 have A4 := Aside0.mk A40
 clear A40
 by_cases c5 : t228 = true
 ·
  subst c5
  have H1 : (if t229 = true then (some 0) else (some (-1))) = some r := by rw [if_pos rfl] at H; exact H
  clear H
  have H := H1
  clear H1
  by_cases c6 : t229 = true
  ·
   subst c6
   have H1 : (some 0) = some r := by rw [if_pos rfl] at H; exact H
   clear H
   have H := H1
   clear H1
   obtain rfl := Option.some.inj H
   go_enter Tryd.func51, Tryd.ntmps51
   have tk7 : True := trivial; have tk8 : True := trivial
   go_wp2_with (first | (have ztk7 := tk7; clear tk7 ztk7; (with_reducible refine gate_callee (f := 73) rfl ?_); refine goesL_ (some 8) rfl rfl Tryd.func73 (by kernel_rfl) rfl #[.int .i64 a0] rfl qnp0_ ?_; (with_reducible refine (cmp_isNaN_int.calls a0 true _ A3.out).mono ?_); rintro e w' ⟨rfl, ⟨nd, rfl⟩⟩; refine ⟨_, rfl, ?_⟩) | (have ztk8 := tk8; clear tk8 ztk8; (with_reducible refine gate_callee (f := 73) rfl ?_); refine goesL_ (some 10) rfl rfl Tryd.func73 (by kernel_rfl) rfl #[.int .i64 a1] rfl qnp0_ ?_; (with_reducible refine (cmp_isNaN_int.calls a1 true _ A4.out).mono ?_); rintro e w' ⟨rfl, ⟨nd, rfl⟩⟩; refine ⟨_, rfl, ?_⟩))
   go_ret
   exact ⟨qnp2_, qnp4_⟩
  ·
   replace c6 := Bool.eq_false_iff.mpr c6
   subst c6
   have H1 : (some (-1)) = some r := by rw [if_neg (show ¬ (false = true) by decide)] at H; exact H
   clear H
   have H := H1
   clear H1
   obtain rfl := Option.some.inj H
   go_enter Tryd.func51, Tryd.ntmps51
   have tk9 : True := trivial; have tk10 : True := trivial
   go_wp2_with (first | (have ztk9 := tk9; clear tk9 ztk9; (with_reducible refine gate_callee (f := 73) rfl ?_); refine goesL_ (some 8) rfl rfl Tryd.func73 (by kernel_rfl) rfl #[.int .i64 a0] rfl qnp0_ ?_; (with_reducible refine (cmp_isNaN_int.calls a0 true _ A3.out).mono ?_); rintro e w' ⟨rfl, ⟨nd, rfl⟩⟩; refine ⟨_, rfl, ?_⟩) | (have ztk10 := tk10; clear tk10 ztk10; (with_reducible refine gate_callee (f := 73) rfl ?_); refine goesL_ (some 10) rfl rfl Tryd.func73 (by kernel_rfl) rfl #[.int .i64 a1] rfl qnp0_ ?_; (with_reducible refine (cmp_isNaN_int.calls a1 false _ A4.out).mono ?_); rintro e w' ⟨rfl, ⟨nd, rfl⟩⟩; refine ⟨_, rfl, ?_⟩))
   go_ret
   exact ⟨qnp2_, qnp4_⟩
 ·
  replace c5 := Bool.eq_false_iff.mpr c5
  subst c5
  have H1 : (if t229 = true then (some 1) else (if a0 < a1 then (some (-1)) else (if a0 > a1 then (some 1) else (some 0)))) = some r := by rw [if_neg (show ¬ (false = true) by decide)] at H; exact H
  clear H
  have H := H1
  clear H1
  by_cases c11 : t229 = true
  ·
   subst c11
   have H1 : (some 1) = some r := by rw [if_pos rfl] at H; exact H
   clear H
   have H := H1
   clear H1
   obtain rfl := Option.some.inj H
   go_enter Tryd.func51, Tryd.ntmps51
   have tk12 : True := trivial; have tk13 : True := trivial
   go_wp2_with (first | (have ztk12 := tk12; clear tk12 ztk12; (with_reducible refine gate_callee (f := 73) rfl ?_); refine goesL_ (some 8) rfl rfl Tryd.func73 (by kernel_rfl) rfl #[.int .i64 a0] rfl qnp0_ ?_; (with_reducible refine (cmp_isNaN_int.calls a0 false _ A3.out).mono ?_); rintro e w' ⟨rfl, ⟨nd, rfl⟩⟩; refine ⟨_, rfl, ?_⟩) | (have ztk13 := tk13; clear tk13 ztk13; (with_reducible refine gate_callee (f := 73) rfl ?_); refine goesL_ (some 10) rfl rfl Tryd.func73 (by kernel_rfl) rfl #[.int .i64 a1] rfl qnp0_ ?_; (with_reducible refine (cmp_isNaN_int.calls a1 true _ A4.out).mono ?_); rintro e w' ⟨rfl, ⟨nd, rfl⟩⟩; refine ⟨_, rfl, ?_⟩))
   go_ret
   exact ⟨qnp2_, qnp4_⟩
  ·
   replace c11 := Bool.eq_false_iff.mpr c11
   subst c11
   have H1 : (if a0 < a1 then (some (-1)) else (if a0 > a1 then (some 1) else (some 0))) = some r := by rw [if_neg (show ¬ (false = true) by decide)] at H; exact H
   clear H
   have H := H1
   clear H1
   by_cases c14 : a0 < a1
   ·
    rw [if_pos c14] at H
    have c14b0 : decide (a0 < a1) = true := decide_eq_true c14
    clear c14
    obtain rfl := Option.some.inj H
    go_enter Tryd.func51, Tryd.ntmps51
    have tk15 : True := trivial; have tk16 : True := trivial
    go_wp2_with (first | (have ztk15 := tk15; clear tk15 ztk15; (with_reducible refine gate_callee (f := 73) rfl ?_); refine goesL_ (some 8) rfl rfl Tryd.func73 (by kernel_rfl) rfl #[.int .i64 a0] rfl qnp0_ ?_; (with_reducible refine (cmp_isNaN_int.calls a0 false _ A3.out).mono ?_); rintro e w' ⟨rfl, ⟨nd, rfl⟩⟩; refine ⟨_, rfl, ?_⟩) | (have ztk16 := tk16; clear tk16 ztk16; (with_reducible refine gate_callee (f := 73) rfl ?_); refine goesL_ (some 10) rfl rfl Tryd.func73 (by kernel_rfl) rfl #[.int .i64 a1] rfl qnp0_ ?_; (with_reducible refine (cmp_isNaN_int.calls a1 false _ A4.out).mono ?_); rintro e w' ⟨rfl, ⟨nd, rfl⟩⟩; refine ⟨_, rfl, ?_⟩))
    go_ret
    exact ⟨qnp2_, qnp4_⟩
   ·
    rw [if_neg c14] at H
    have c14b0 : decide (a0 < a1) = false := decide_eq_false c14
    clear c14
    by_cases c17 : a0 > a1
    ·
     rw [if_pos c17] at H
     have c17b0 : decide (a1 < a0) = true := decide_eq_true c17
     clear c17
     obtain rfl := Option.some.inj H
     go_enter Tryd.func51, Tryd.ntmps51
     have tk18 : True := trivial; have tk19 : True := trivial
     go_wp2_with (first | (have ztk18 := tk18; clear tk18 ztk18; (with_reducible refine gate_callee (f := 73) rfl ?_); refine goesL_ (some 8) rfl rfl Tryd.func73 (by kernel_rfl) rfl #[.int .i64 a0] rfl qnp0_ ?_; (with_reducible refine (cmp_isNaN_int.calls a0 false _ A3.out).mono ?_); rintro e w' ⟨rfl, ⟨nd, rfl⟩⟩; refine ⟨_, rfl, ?_⟩) | (have ztk19 := tk19; clear tk19 ztk19; (with_reducible refine gate_callee (f := 73) rfl ?_); refine goesL_ (some 10) rfl rfl Tryd.func73 (by kernel_rfl) rfl #[.int .i64 a1] rfl qnp0_ ?_; (with_reducible refine (cmp_isNaN_int.calls a1 false _ A4.out).mono ?_); rintro e w' ⟨rfl, ⟨nd, rfl⟩⟩; refine ⟨_, rfl, ?_⟩))
     go_ret
     exact ⟨qnp2_, qnp4_⟩
    ·
     rw [if_neg c17] at H
     have c17b0 : decide (a1 < a0) = false := decide_eq_false c17
     clear c17
     obtain rfl := Option.some.inj H
     go_enter Tryd.func51, Tryd.ntmps51
     have tk20 : True := trivial; have tk21 : True := trivial
     go_wp2_with (first | (have ztk20 := tk20; clear tk20 ztk20; (with_reducible refine gate_callee (f := 73) rfl ?_); refine goesL_ (some 8) rfl rfl Tryd.func73 (by kernel_rfl) rfl #[.int .i64 a0] rfl qnp0_ ?_; (with_reducible refine (cmp_isNaN_int.calls a0 false _ A3.out).mono ?_); rintro e w' ⟨rfl, ⟨nd, rfl⟩⟩; refine ⟨_, rfl, ?_⟩) | (have ztk21 := tk21; clear tk21 ztk21; (with_reducible refine gate_callee (f := 73) rfl ?_); refine goesL_ (some 10) rfl rfl Tryd.func73 (by kernel_rfl) rfl #[.int .i64 a1] rfl qnp0_ ?_; (with_reducible refine (cmp_isNaN_int.calls a1 false _ A4.out).mono ?_); rintro e w' ⟨rfl, ⟨nd, rfl⟩⟩; refine ⟨_, rfl, ?_⟩))
     go_ret
     exact ⟨qnp2_, qnp4_⟩


/-! ### bytealg_CompareString: function 78 (by hand) -/
def bytealg_CompareString.f (a0 : ByteArray) (a1 : ByteArray) : Option (Int) := some (Lib.compareBytes a0.data.toList a1.data.toList)
set_option maxHeartbeats 1000000 in
set_option maxRecDepth 100000 in
theorem bytealg_CompareString.calls (a0 : ByteArray) (a1 : ByteArray) (r : Int) (w : World) (h : bytealg_CompareString.f a0 a1 = some r) :
    Calls Tryd.prog 78 #[.string a0, .string a1] w fun e w' => e = .returned (.int .i64 r) ∧ Drawn0 w w' := by
  obtain rfl := Option.some.inj h
  clear h
  go_enter Tryd.func78, Tryd.ntmps78
  go_wp2
  rw [run_callFunc_extern Tryd.func98 (by kernel_rfl) (by kernel_rfl) (by kernel_rfl) (e := Extern.BytealgCompare.compare) (by kernel_rfl), Lib.run_compareString]
  simp only [Result.andThen]
  rw [Oper.upon_value]
  go_wp2
  go_ret
  exact ⟨rfl, Drawn0.refl _⟩


/-! ### strings_Compare: function 55 -/
def strings_Compare.f (a0 : ByteArray) (a1 : ByteArray) : Option (Int) := (bytealg_CompareString.f a0 a1).bind fun t230 => (some t230)
set_option maxHeartbeats 8000000 in
set_option maxRecDepth 100000 in
theorem strings_Compare.calls (a0 : ByteArray) (a1 : ByteArray) (r : Int) (w : World) (h : strings_Compare.f a0 a1 = some r) :
  Calls Tryd.prog 55 #[.string a0, .string a1] w fun e w' => e = .returned (.int .i64 r) ∧ Drawn0 w w' := by
 have H : ((bytealg_CompareString.f a0 a1).bind fun t230 => (some t230)) = some r := h
 clear h
 replace H := Option.bind_eq_some_iff.mp H
 obtain ⟨t230, A30, H⟩ := H
 replace H : (some t230) = some r := H
 have A3 := Aside0.mk A30
 clear A30
 obtain rfl := Option.some.inj H
 go_enter Tryd.func55, Tryd.ntmps55
 go_wp2_with (first | ((with_reducible refine gate_callee (f := 78) rfl ?_); refine goesL_ (some 7) rfl rfl Tryd.func78 (by kernel_rfl) rfl #[.string a0, .string a1] rfl qnp0_ ?_; (with_reducible refine (bytealg_CompareString.calls a0 a1 t230 _ A3.out).mono ?_); rintro e w' ⟨rfl, ⟨nd, rfl⟩⟩; refine ⟨_, rfl, ?_⟩))
 go_ret
 exact ⟨qnp2_, qnp4_⟩


/-! ### cmp_Or_int: function 72 -/
def cmp_Or_int.l0 : Nat → Int → List Int → Int → Int → Option (Int)
 | 0, _, _, _, _ => none
 | k + 1, x3, x6, x7, x8 => if x8 < x7 then (if 0 ≤ x8 then (if x8 < (x6.length : Int) then (if (rd x6 x8) = x3 then (cmp_Or_int.l0 k x3 x6 x7 (wrap64 (x8 + 1))) else (some (rd x6 x8))) else (none)) else (none)) else (some x3)
def cmp_Or_int.f (k : Nat) (l0 : List Int) : Option (Int) := cmp_Or_int.l0 k 0 l0 (l0.length : Int) 0
set_option maxHeartbeats 8000000 in
set_option maxRecDepth 100000 in
theorem cmp_Or_int.calls (k : Nat) (A0 : Option Addr) (c0 : Nat) (l0 : List Int) (r : Int) (w : World) (hr0 : Kd.C (Kd.int .i64) w A0 l0.length l0) (hc0 : l0.length ≤ c0) (h : cmp_Or_int.f k l0 = some r) :
  Calls Tryd.prog 72 #[.slice A0 l0.length c0] w fun e w' => e = .returned (.int .i64 r) ∧ Drawn0 w w' := by
 have HR0 := Aside0.mk hr0
 have HC0 := Aside0.mk hc0
 clear hr0 hc0
 have H : (cmp_Or_int.l0 k 0 l0 (l0.length : Int) 0) = some r := h
 clear h
 have H' := Aside0.mk H
 clear H
 go_enter Tryd.func72, Tryd.ntmps72
 go_wp2
 go_loopg [8] k (fun kq v8 w' => ∃ (x8_1 : Int), v8 = .int .i64 x8_1 ∧ Aside0 (cmp_Or_int.l0 kq 0 l0 (l0.length : Int) x8_1 = some r) ∧ Aside0 (kq ≤ k) ∧ Drawn0 w w')
 case atStart => exact ⟨(0), qnp2_, H', ⟨Nat.le_refl _⟩, qnp4_⟩
 case round =>
  clear H'
  obtain ⟨x8_1, rfl, HA, HK1, ⟨m1, rfl⟩⟩ := hrel
  cases gk with
  | zero => exact absurd HA.out (by simp [cmp_Or_int.l0])
  | succ k1 =>
   have H := HA.out
   clear HA
   simp only [cmp_Or_int.l0] at H
   by_cases c2 : x8_1 < (l0.length : Int)
   ·
    rw [if_pos c2] at H
    have c2b0 : decide (x8_1 < (l0.length : Int)) = true := decide_eq_true c2
    clear c2
    by_cases c3 : 0 ≤ x8_1
    ·
     rw [if_pos c3] at H
     have c3b0 : decide (0 ≤ x8_1) = true := decide_eq_true c3
     clear c3
     by_cases c4 : x8_1 < (l0.length : Int)
     ·
      rw [if_pos c4] at H
      have c4b0 : decide (x8_1 < (l0.length : Int)) = true := decide_eq_true c4
      clear c4
      by_cases c5 : (rd l0 x8_1) = 0
      ·
       rw [if_pos c5] at H
       have c5b0 : ((rd l0 x8_1) == 0) = true := beq_iff_eq.mpr c5
       have c5b1 : ((rd l0 x8_1) != 0) = false := bne_eq_false_iff_eq.mpr c5
       clear c5
       have H' := Aside0.mk H
       clear H
       have p231 : 0 ≤ (x8_1 : Int) := of_decide_eq_true qnp3_
       have q231 : x8_1 < (l0.length : Int) := of_decide_eq_true qnp3_
       obtain ⟨ad231, e231, hx231_0⟩ := Kd.at_int HR0.out x8_1 p231 q231
       cases e231
       replace p231 := eq_true p231
       replace q231 := eq_true q231
       go_wp2
       go_roundg k1
       case measure => have := HK1.out; omega
       case rel => exact ⟨(wrap64 (x8_1 + 1)), qnp2_, H', ⟨by have := HK1.out; omega⟩, qnp4_⟩
      ·
       rw [if_neg c5] at H
       have c5b0 : ((rd l0 x8_1) == 0) = false := beq_eq_false_iff_ne.mpr c5
       have c5b1 : ((rd l0 x8_1) != 0) = true := bne_iff_ne.mpr c5
       obtain rfl := Option.some.inj H
       have p231 : 0 ≤ (x8_1 : Int) := of_decide_eq_true qnp3_
       have q231 : x8_1 < (l0.length : Int) := of_decide_eq_true qnp3_
       obtain ⟨ad231, e231, hx231_0⟩ := Kd.at_int HR0.out x8_1 p231 q231
       cases e231
       replace p231 := eq_true p231
       replace q231 := eq_true q231
       go_wp2
       go_ret
       exact ⟨qnp2_, qnp4_⟩
     ·
      rw [if_neg c4] at H
      exact absurd H (by simp)
    ·
     rw [if_neg c3] at H
     exact absurd H (by simp)
   ·
    rw [if_neg c2] at H
    have c2b0 : decide (x8_1 < (l0.length : Int)) = false := decide_eq_false c2
    clear c2
    obtain rfl := Option.some.inj H
    go_wp2
    go_ret
    exact ⟨qnp2_, qnp4_⟩


/-! ### numeral_order: function 49 -/
def numeral_order.j0 : Nat → Bool → Int → Int → Int → ByteArray → Int → Int → Int → ByteArray → Option (Int)
 | 0, _, _, _, _, _, _, _, _, _ => none
 | k + 1, x14, x233000, x233001, x233002, x233003, x234000, x234001, x234002, x234003 => if x14 = true then ((cmp_Compare_int.f x233000 x234000).bind fun t234 => (some t234)) else ((cmp_Compare_int.f x233001 x234001).bind fun t235 => ((cmp_Compare_int.f x233002 x234002).bind fun t236 => ((strings_Compare.f x233003 x234003).bind fun t237 => ((cmp_Or_int.f k (([t235, t236, t237] : List Int))).bind fun t241 => (some (wrap64 (x233000 * t241)))))))
def numeral_order.f (k : Nat) (a0_0 : Int) (a0_1 : Int) (a0_2 : Int) (a0_3 : ByteArray) (a1_0 : Int) (a1_1 : Int) (a1_2 : Int) (a1_3 : ByteArray) : Option (Int) := if a0_0 = a1_0 then (numeral_order.j0 k (a0_0 == 0) a0_0 a0_1 a0_2 a0_3 a1_0 a1_1 a1_2 a1_3) else (numeral_order.j0 k true a0_0 a0_1 a0_2 a0_3 a1_0 a1_1 a1_2 a1_3)
def numeral_order.T3 : Bool × List (List Nat × List Nat) := (true, [([], []), ([0], [0]), ([], []), ([2], [2]), ([], []), ([4], [4]), ([3, 5], [3, 5]), ([], []), ([7], [7]), ([], []), ([9], [9]), ([8, 10, 6], [8, 10]), ([], []), ([12], [12]), ([], []), ([14], [14]), ([13, 15, 11], [13, 15]), ([6, 11, 16], [6, 11, 16]), ([17, 16], [17]), ([1, 18], [1, 18]), ([19, 18, 0, 1, 2, 3, 4, 5, 6, 7, 8, 9, 10, 11, 12, 13, 14, 15, 16, 17, 18, 19], [19])])
def numeral_order.B3 : List Nat := [0, 1, 0, 4, 0, 16, 60, 0, 128, 0, 512, 2044, 0, 4096, 0, 16384, 65532, 131068, 262140, 524287, 1048575]
theorem numeral_order.tab3 : rtab .any (opsOf Tryd.f49 3) = numeral_order.T3 := by kernel_rfl
theorem numeral_order.bits3 : waitsOk numeral_order.T3.2 numeral_order.B3 = true := by kernel_rfl
set_option maxHeartbeats 8000000 in
set_option maxRecDepth 100000 in
theorem numeral_order.calls (k : Nat) (a0_0 : Int) (a0_1 : Int) (a0_2 : Int) (a0_3 : ByteArray) (a1_0 : Int) (a1_1 : Int) (a1_2 : Int) (a1_3 : ByteArray) (r : Int) (w : World) (h : numeral_order.f k a0_0 a0_1 a0_2 a0_3 a1_0 a1_1 a1_2 a1_3 = some r) :
  Calls Tryd.prog 49 #[.agg #[.int .i64 a0_0, .int .i64 a0_1, .int .i64 a0_2, .string a0_3], .agg #[.int .i64 a1_0, .int .i64 a1_1, .int .i64 a1_2, .string a1_3]] w fun e w' => e = .returned (.int .i64 r) ∧ Below w.heap.size w w' := by
 have hu77 := Tryd.underlying77
 have HB := Aside0.mk (Below.refl w.heap.size w)
 have H : (if a0_0 = a1_0 then (numeral_order.j0 k (a0_0 == 0) a0_0 a0_1 a0_2 a0_3 a1_0 a1_1 a1_2 a1_3) else (numeral_order.j0 k true a0_0 a0_1 a0_2 a0_3 a1_0 a1_1 a1_2 a1_3)) = some r := h
 clear h
 have HC3 := Aside0.mk H
 clear H
 go_enter Tryd.func49, Tryd.ntmps49
 have tk6 : True := trivial; have tk7 : True := trivial
 go_upto_region 1 with (first | (have ztk6 := tk6; clear tk6 ztk6; (with_reducible refine gate_dst (N := 2) rfl ?_); refine box_event ?hg (N := 2) ?hd (cs := #[.int .i64 a0_0, .int .i64 a0_1, .int .i64 a0_2, .string a0_3]) (t := 77) ?hr ?_; (case hd => rfl); (case hg => rfl); (case hr => first | (go_simp; done) | (go_simp; rfl)); intro gb232 hg w4 hbox hb; have n0_ := Aside0.mk (below_step qnp1_ hb); have n1_ := Aside0.mk (hbox); have n2_ := Aside0.mk ((by rw [hg]; exact (below_size qnp1_) : w.heap.size ≤ gb232)); have n3_ := Aside0.mk ((by rw [hg]; exact (below_size qnp1_) : w.heap.size ≤ gb232)); clear HB; have HB := n0_; have BK232 := n1_; have GW232 := n2_; have GE232 := n3_; clear n0_ n1_ n2_ n3_; clear hb hbox hg) | (have ztk7 := tk7; clear tk7 ztk7; (with_reducible refine gate_dst (N := 3) rfl ?_); refine box_event ?hg (N := 3) ?hd (cs := #[.int .i64 a1_0, .int .i64 a1_1, .int .i64 a1_2, .string a1_3]) (t := 77) ?hr ?_; (case hd => rfl); (case hg => rfl); (case hr => first | (go_simp; done) | (go_simp; rfl)); intro gb233 hg w5 hbox hb; have n0_ := Aside0.mk (blk_below (g := gb232) (o := .cells #[.int .i64 a0_0, .int .i64 a0_1, .int .i64 a0_2, .string a0_3] 77 (0, 0)) qnp54_ hb); have n1_ := Aside0.mk (below_step qnp70_ hb); have n2_ := Aside0.mk (hbox); have n3_ := Aside0.mk ((by rw [hg]; exact (below_size qnp70_) : w.heap.size ≤ gb233)); have n4_ := Aside0.mk ((by rw [hg]; exact (below_size qnp70_) : w.heap.size ≤ gb233)); have n5_ := Aside0.mk ((by rw [hg]; exact Nat.ne_of_lt (blk_lt (g := gb232) (o := .cells #[.int .i64 a0_0, .int .i64 a0_1, .int .i64 a0_2, .string a0_3] 77 (0, 0)) qnp54_) : gb232 ≠ gb233)); have n6_ := Aside0.mk ((by rw [hg]; exact Nat.ne_of_gt (blk_lt (g := gb232) (o := .cells #[.int .i64 a0_0, .int .i64 a0_1, .int .i64 a0_2, .string a0_3] 77 (0, 0)) qnp54_) : gb233 ≠ gb232)); clear BK232; clear HB; have BK232 := n0_; have HB := n1_; have BK233 := n2_; have GW233 := n3_; have GE233 := n4_; have NB232_233 := n5_; have NB233_232 := n6_; clear n0_ n1_ n2_ n3_ n4_ n5_ n6_; clear hb hbox hg))
 (try simp only [Act.put, List.setIfInBounds_toArray, List.set_cons_zero, List.set_cons_succ])
 go_cut [14] (fun v14 wc => ∃ (kq : Nat) (x14_2 : Bool), v14 = .bool x14_2 ∧ Aside0 (numeral_order.j0 kq x14_2 a0_0 a0_1 a0_2 a0_3 a1_0 a1_1 a1_2 a1_3 = some r) ∧ Aside0 (kq ≤ k) ∧ Aside0 (wc.heap[gb232]? = some (.cells #[.int .i64 a0_0, .int .i64 a0_1, .int .i64 a0_2, .string a0_3] 77 (0, 0))) ∧ Aside0 (wc.heap[gb233]? = some (.cells #[.int .i64 a1_0, .int .i64 a1_1, .int .i64 a1_2, .string a1_3] 77 (0, 0))) ∧ Aside0 (Below w.heap.size w wc))
 case first =>
  have H := HC3.out
  clear HC3
  by_cases c8 : a0_0 = a1_0
  ·
   rw [if_pos c8] at H
   have c8b0 : (a0_0 == a1_0) = true := beq_iff_eq.mpr c8
   have c8b1 : (a0_0 != a1_0) = false := bne_eq_false_iff_eq.mpr c8
   clear c8
   (first | rw [c8b0] | (simp only [i64_w, i32_w]; rw [c8b0]) | skip)
   have H' := Aside0.mk H
   clear H
   have hnb9 := NB232_233.out
   have hnc9 := NB233_232.out
   have hcz10_0 : w5.cell? ⟨gb232, 0, none⟩ = some (.int .i64 a0_0) := (blk_cell BK232.out 0).trans rfl
   have hcz10_1 : w5.cell? ⟨gb232, 1, none⟩ = some (.int .i64 a0_1) := (blk_cell BK232.out 1).trans rfl
   have hcz10_2 : w5.cell? ⟨gb232, 2, none⟩ = some (.int .i64 a0_2) := (blk_cell BK232.out 2).trans rfl
   have hcz10_3 : w5.cell? ⟨gb232, 3, none⟩ = some (.string a0_3) := (blk_cell BK232.out 3).trans rfl
   have hfz10_0 := blk_frozen BK232.out 0
   have hfz10_1 := blk_frozen BK232.out 1
   have hfz10_2 := blk_frozen BK232.out 2
   have hfz10_3 := blk_frozen BK232.out 3
   have hcz11_0 : w5.cell? ⟨gb233, 0, none⟩ = some (.int .i64 a1_0) := (blk_cell BK233.out 0).trans rfl
   have hcz11_1 : w5.cell? ⟨gb233, 1, none⟩ = some (.int .i64 a1_1) := (blk_cell BK233.out 1).trans rfl
   have hcz11_2 : w5.cell? ⟨gb233, 2, none⟩ = some (.int .i64 a1_2) := (blk_cell BK233.out 2).trans rfl
   have hcz11_3 : w5.cell? ⟨gb233, 3, none⟩ = some (.string a1_3) := (blk_cell BK233.out 3).trans rfl
   have hfz11_0 := blk_frozen BK233.out 0
   have hfz11_1 := blk_frozen BK233.out 1
   have hfz11_2 := blk_frozen BK233.out 2
   have hfz11_3 := blk_frozen BK233.out 3
   go_wp2
   go_meet
   case rel => exact ⟨_, ((a0_0 == 0)), qnp2_, H', ⟨by first | omega | exact Nat.le_refl _⟩, ⟨qnp54_⟩, ⟨qnp73_⟩, ⟨qnp45_⟩⟩
  ·
   rw [if_neg c8] at H
   have c8b0 : (a0_0 == a1_0) = false := beq_eq_false_iff_ne.mpr c8
   have c8b1 : (a0_0 != a1_0) = true := bne_iff_ne.mpr c8
   (first | rw [c8b0] | (simp only [i64_w, i32_w]; rw [c8b0]) | skip)
   have H' := Aside0.mk H
   clear H
   have hnb12 := NB232_233.out
   have hnc12 := NB233_232.out
   have hcz13_0 : w5.cell? ⟨gb232, 0, none⟩ = some (.int .i64 a0_0) := (blk_cell BK232.out 0).trans rfl
   have hcz13_1 : w5.cell? ⟨gb232, 1, none⟩ = some (.int .i64 a0_1) := (blk_cell BK232.out 1).trans rfl
   have hcz13_2 : w5.cell? ⟨gb232, 2, none⟩ = some (.int .i64 a0_2) := (blk_cell BK232.out 2).trans rfl
   have hcz13_3 : w5.cell? ⟨gb232, 3, none⟩ = some (.string a0_3) := (blk_cell BK232.out 3).trans rfl
   have hfz13_0 := blk_frozen BK232.out 0
   have hfz13_1 := blk_frozen BK232.out 1
   have hfz13_2 := blk_frozen BK232.out 2
   have hfz13_3 := blk_frozen BK232.out 3
   have hcz14_0 : w5.cell? ⟨gb233, 0, none⟩ = some (.int .i64 a1_0) := (blk_cell BK233.out 0).trans rfl
   have hcz14_1 : w5.cell? ⟨gb233, 1, none⟩ = some (.int .i64 a1_1) := (blk_cell BK233.out 1).trans rfl
   have hcz14_2 : w5.cell? ⟨gb233, 2, none⟩ = some (.int .i64 a1_2) := (blk_cell BK233.out 2).trans rfl
   have hcz14_3 : w5.cell? ⟨gb233, 3, none⟩ = some (.string a1_3) := (blk_cell BK233.out 3).trans rfl
   have hfz14_0 := blk_frozen BK233.out 0
   have hfz14_1 := blk_frozen BK233.out 1
   have hfz14_2 := blk_frozen BK233.out 2
   have hfz14_3 := blk_frozen BK233.out 3
   go_wp2
   go_meet
   case rel => exact ⟨_, (true), qnp2_, H', ⟨by first | omega | exact Nat.le_refl _⟩, ⟨qnp54_⟩, ⟨qnp73_⟩, ⟨qnp45_⟩⟩
 case rest =>
  clear HC3
  (try clear c1); (try clear p2); (try clear c4); (try clear c8); (try clear c8b0); (try clear c8b1); (try clear c9); (try clear c12); (try clear hcz10_0); (try clear hcz10_1); (try clear hcz10_2); (try clear hcz10_3); (try clear hcz11_0); (try clear hcz11_1); (try clear hcz11_2); (try clear hcz11_3); (try clear hcz13_0); (try clear hcz13_1); (try clear hcz13_2); (try clear hcz13_3); (try clear hcz14_0)
  (try clear hcz14_1); (try clear hcz14_2); (try clear hcz14_3); (try clear hfz10_0); (try clear hfz10_1); (try clear hfz10_2); (try clear hfz10_3); (try clear hfz11_0); (try clear hfz11_1); (try clear hfz11_2); (try clear hfz11_3); (try clear hfz13_0); (try clear hfz13_1); (try clear hfz13_2); (try clear hfz13_3); (try clear hfz14_0); (try clear hfz14_1); (try clear hfz14_2); (try clear hfz14_3)
  obtain ⟨kq, x14_2, rfl, HA, HJ2, BK232, BK233, HB⟩ := hcut
  cases kq with
  | zero => exact absurd HA.out (by simp [numeral_order.j0])
  | succ kj2 =>
   have H := HA.out
   clear HA
   simp only [numeral_order.j0] at H
   by_cases c15 : x14_2 = true
   ·
    subst c15
    have H1 : ((cmp_Compare_int.f a0_0 a1_0).bind fun t234 => (some t234)) = some r := by rw [if_pos rfl] at H; exact H
    clear H
    have H := H1
    clear H1
    replace H := Option.bind_eq_some_iff.mp H
    obtain ⟨t234, A160, H⟩ := H
    replace H : (some t234) = some r := H
    have A16 := Aside0.mk A160
    clear A160
    obtain rfl := Option.some.inj H
    have hnb17 := NB232_233.out
    have hnc17 := NB233_232.out
    have hcz18_0 : wc.cell? ⟨gb232, 0, none⟩ = some (.int .i64 a0_0) := (blk_cell BK232.out 0).trans rfl
    have hcz18_1 : wc.cell? ⟨gb232, 1, none⟩ = some (.int .i64 a0_1) := (blk_cell BK232.out 1).trans rfl
    have hcz18_2 : wc.cell? ⟨gb232, 2, none⟩ = some (.int .i64 a0_2) := (blk_cell BK232.out 2).trans rfl
    have hcz18_3 : wc.cell? ⟨gb232, 3, none⟩ = some (.string a0_3) := (blk_cell BK232.out 3).trans rfl
    have hfz18_0 := blk_frozen BK232.out 0
    have hfz18_1 := blk_frozen BK232.out 1
    have hfz18_2 := blk_frozen BK232.out 2
    have hfz18_3 := blk_frozen BK232.out 3
    have hcz19_0 : wc.cell? ⟨gb233, 0, none⟩ = some (.int .i64 a1_0) := (blk_cell BK233.out 0).trans rfl
    have hcz19_1 : wc.cell? ⟨gb233, 1, none⟩ = some (.int .i64 a1_1) := (blk_cell BK233.out 1).trans rfl
    have hcz19_2 : wc.cell? ⟨gb233, 2, none⟩ = some (.int .i64 a1_2) := (blk_cell BK233.out 2).trans rfl
    have hcz19_3 : wc.cell? ⟨gb233, 3, none⟩ = some (.string a1_3) := (blk_cell BK233.out 3).trans rfl
    have hfz19_0 := blk_frozen BK233.out 0
    have hfz19_1 := blk_frozen BK233.out 1
    have hfz19_2 := blk_frozen BK233.out 2
    have hfz19_3 := blk_frozen BK233.out 3
    go_wp2_with (first | ((with_reducible refine gate_callee (f := 51) rfl ?_); refine goesL_ (some 19) rfl rfl Tryd.func51 (by kernel_rfl) rfl #[.int .i64 a0_0, .int .i64 a1_0] rfl qnp0_ ?_; (with_reducible refine (cmp_Compare_int.calls a0_0 a1_0 t234 _ A16.out).mono ?_); rintro e w' ⟨rfl, ⟨nd, rfl⟩⟩; refine ⟨_, rfl, ?_⟩))
    go_ret
    exact ⟨qnp5_, qnp45_⟩
   ·
    replace c15 := Bool.eq_false_iff.mpr c15
    subst c15
    have H1 : ((cmp_Compare_int.f a0_1 a1_1).bind fun t235 => ((cmp_Compare_int.f a0_2 a1_2).bind fun t236 => ((strings_Compare.f a0_3 a1_3).bind fun t237 => ((cmp_Or_int.f kj2 (([t235, t236, t237] : List Int))).bind fun t241 => (some (wrap64 (a0_0 * t241))))))) = some r := by rw [if_neg (show ¬ (false = true) by decide)] at H; exact H
    clear H
    have H := H1
    clear H1
    replace H := Option.bind_eq_some_iff.mp H
    obtain ⟨t235, A200, H⟩ := H
    replace H : ((cmp_Compare_int.f a0_2 a1_2).bind fun t236 => ((strings_Compare.f a0_3 a1_3).bind fun t237 => ((cmp_Or_int.f kj2 (([t235, t236, t237] : List Int))).bind fun t241 => (some (wrap64 (a0_0 * t241)))))) = some r := H
    have A20 := Aside0.mk A200
    clear A200
    replace H := Option.bind_eq_some_iff.mp H
    obtain ⟨t236, A210, H⟩ := H
    replace H : ((strings_Compare.f a0_3 a1_3).bind fun t237 => ((cmp_Or_int.f kj2 (([t235, t236, t237] : List Int))).bind fun t241 => (some (wrap64 (a0_0 * t241))))) = some r := H
    have A21 := Aside0.mk A210
    clear A210
    replace H := Option.bind_eq_some_iff.mp H
    obtain ⟨t237, A220, H⟩ := H
    replace H : ((cmp_Or_int.f kj2 (([t235, t236, t237] : List Int))).bind fun t241 => (some (wrap64 (a0_0 * t241)))) = some r := H
    have A22 := Aside0.mk A220
    clear A220
    obtain ⟨y238, hy238⟩ : ∃ y_ : List Int, y_ = (([t235, t236, t237] : List Int)) := ⟨_, rfl⟩
    replace H : ((cmp_Or_int.f kj2 y238).bind fun t241 => (some (wrap64 (a0_0 * t241)))) = some r := by first | (rw [hy238]; with_reducible exact H) | (have H2_ := (Option.bind_some _ _).symm.trans H; rw [hy238]; with_reducible exact H2_) | (have H2_ := (Option.bind_some _ _).symm.trans H; with_reducible exact H2_) | with_reducible exact H | (rw [hy238]; exact H) | exact H
    have Ny238 := Aside0.mk hy238
    clear hy238
    replace H := Option.bind_eq_some_iff.mp H
    obtain ⟨t241, A230, H⟩ := H
    replace H : (some (wrap64 (a0_0 * t241))) = some r := H
    have A23 := Aside0.mk A230
    clear A230
    obtain rfl := Option.some.inj H
    try go_wp2
    have n0_ := Aside0.mk (blk_drew BK232.out)
    have n1_ := Aside0.mk (blk_drew BK233.out)
    have n2_ := Aside0.mk (below_drew1 HB.out)
    clear BK232
    clear BK233
    clear HB
    have BK232 := n0_
    have BK233 := n1_
    have HB := n2_
    clear n0_ n1_ n2_
    refine start_ (n := 21) (S := fun w' => w'.cell? ⟨gb232, 0, none⟩ = some (.int .i64 a0_0) ∧ w'.cell? ⟨gb232, 1, none⟩ = some (.int .i64 a0_1) ∧ w'.cell? ⟨gb232, 2, none⟩ = some (.int .i64 a0_2) ∧ w'.cell? ⟨gb232, 3, none⟩ = some (.string a0_3) ∧ w'.cell? ⟨gb233, 0, none⟩ = some (.int .i64 a1_0) ∧ w'.cell? ⟨gb233, 1, none⟩ = some (.int .i64 a1_1) ∧ w'.cell? ⟨gb233, 2, none⟩ = some (.int .i64 a1_2) ∧ w'.cell? ⟨gb233, 3, none⟩ = some (.string a1_3)) (ds := []) #[false, false, false, false, false, false, false, false, false, false, false, false, false, false, false, false, false, false, false, false, false] (by kernel_rfl) rfl rfl ⟨(blk_cell BK232.out 0).trans rfl, (blk_cell BK232.out 1).trans rfl, (blk_cell BK232.out 2).trans rfl, (blk_cell BK232.out 3).trans rfl, (blk_cell BK233.out 0).trans rfl, (blk_cell BK233.out 1).trans rfl, (blk_cell BK233.out 2).trans rfl, (blk_cell BK233.out 3).trans rfl⟩ (fun hHeld => ?_); refine with_tabW numeral_order.tab3 numeral_order.bits3 (fun HT_ HW_ => ?_)
    generalize wc.drew = w24 at BK232 BK233 HB hHeld ⊢
    refine pure_ (i := 0) (N := some 20) (v := ?_) (a' := ?_) #[true, false, false, false, false, false, false, false, false, false, false, false, false, false, false, false, false, false, false, false, false] rfl rfl (any_of HT_.out (by kernel_rfl)) (fun _ _ _ h => h) (Or.inl ⟨by rfl, ?_⟩) ?_ ?_
    rotate_left
    ·
     intro w'
     go_simp
     with_reducible rfl
    rotate_left
    ·
     simp only [Act.put, List.setIfInBounds_toArray, List.set_cons_zero, List.set_cons_succ, i64_w, i32_w]
     rfl
    refine pure_ (i := 2) (N := some 22) (v := ?_) (a' := ?_) #[true, false, true, false, false, false, false, false, false, false, false, false, false, false, false, false, false, false, false, false, false] rfl rfl (any_of HT_.out (by kernel_rfl)) (fun _ _ _ h => h) (Or.inl ⟨by rfl, ?_⟩) ?_ ?_
    rotate_left
    ·
     intro w'
     go_simp
     with_reducible rfl
    rotate_left
    ·
     simp only [Act.put, List.setIfInBounds_toArray, List.set_cons_zero, List.set_cons_succ, i64_w, i32_w]
     rfl
    refine pure_ (i := 4) (N := some 24) (v := ?_) (a' := ?_) #[true, false, true, false, true, false, false, false, false, false, false, false, false, false, false, false, false, false, false, false, false] rfl rfl (any_of HT_.out (by kernel_rfl)) (fun _ _ _ h => h) (Or.inl ⟨by rfl, ?_⟩) ?_ ?_
    rotate_left
    ·
     intro w'
     go_simp
     with_reducible rfl
    rotate_left
    ·
     simp only [Act.put, List.setIfInBounds_toArray, List.set_cons_zero, List.set_cons_succ, i64_w, i32_w]
     rfl
    refine pure_ (i := 7) (N := some 27) (v := ?_) (a' := ?_) #[true, false, true, false, true, false, false, true, false, false, false, false, false, false, false, false, false, false, false, false, false] rfl rfl (any_of HT_.out (by kernel_rfl)) (fun _ _ _ h => h) (Or.inl ⟨by rfl, ?_⟩) ?_ ?_
    rotate_left
    ·
     intro w'
     go_simp
     with_reducible rfl
    rotate_left
    ·
     simp only [Act.put, List.setIfInBounds_toArray, List.set_cons_zero, List.set_cons_succ, i64_w, i32_w]
     rfl
    refine pure_ (i := 9) (N := some 29) (v := ?_) (a' := ?_) #[true, false, true, false, true, false, false, true, false, true, false, false, false, false, false, false, false, false, false, false, false] rfl rfl (any_of HT_.out (by kernel_rfl)) (fun _ _ _ h => h) (Or.inl ⟨by rfl, ?_⟩) ?_ ?_
    rotate_left
    ·
     intro w'
     go_simp
     with_reducible rfl
    rotate_left
    ·
     simp only [Act.put, List.setIfInBounds_toArray, List.set_cons_zero, List.set_cons_succ, i64_w, i32_w]
     rfl
    refine pure_ (i := 12) (N := some 32) (v := ?_) (a' := ?_) #[true, false, true, false, true, false, false, true, false, true, false, false, true, false, false, false, false, false, false, false, false] rfl rfl (any_of HT_.out (by kernel_rfl)) (fun _ _ _ h => h) (Or.inl ⟨by rfl, ?_⟩) ?_ ?_
    rotate_left
    ·
     intro w'
     go_simp
     with_reducible rfl
    rotate_left
    ·
     simp only [Act.put, List.setIfInBounds_toArray, List.set_cons_zero, List.set_cons_succ, i64_w, i32_w]
     rfl
    refine pure_ (i := 14) (N := some 34) (v := ?_) (a' := ?_) #[true, false, true, false, true, false, false, true, false, true, false, false, true, false, true, false, false, false, false, false, false] rfl rfl (any_of HT_.out (by kernel_rfl)) (fun _ _ _ h => h) (Or.inl ⟨by rfl, ?_⟩) ?_ ?_
    rotate_left
    ·
     intro w'
     go_simp
     with_reducible rfl
    rotate_left
    ·
     simp only [Act.put, List.setIfInBounds_toArray, List.set_cons_zero, List.set_cons_succ, i64_w, i32_w]
     rfl
    refine take_ (i := 1) (N := some 21) (v := ?_) (a' := ?_) #[true, true, true, false, true, false, false, true, false, true, false, false, true, false, true, false, false, false, false, false, false] rfl rfl (take_ofW HT_.out HW_.out (by kernel_rfl)) (fun _ _ _ h => h) (Or.inl ⟨by rfl, ?_⟩) hHeld ?_ ?_
    rotate_left
    ·
     rintro w' ⟨s0, s1, s2, s3, s4, s5, s6, s7⟩
     go_simp
     with_reducible rfl
    rotate_left
    ·
     simp only [Act.put, List.setIfInBounds_toArray, List.set_cons_zero, List.set_cons_succ, i64_w, i32_w]
     rfl
    refine take_ (i := 3) (N := some 23) (v := ?_) (a' := ?_) #[true, true, true, true, true, false, false, true, false, true, false, false, true, false, true, false, false, false, false, false, false] rfl rfl (take_ofW HT_.out HW_.out (by kernel_rfl)) (fun _ _ _ h => h) (Or.inl ⟨by rfl, ?_⟩) hHeld ?_ ?_
    rotate_left
    ·
     rintro w' ⟨s0, s1, s2, s3, s4, s5, s6, s7⟩
     go_simp
     with_reducible rfl
    rotate_left
    ·
     simp only [Act.put, List.setIfInBounds_toArray, List.set_cons_zero, List.set_cons_succ, i64_w, i32_w]
     rfl
    refine take_ (i := 5) (N := some 25) (v := ?_) (a' := ?_) #[true, true, true, true, true, true, false, true, false, true, false, false, true, false, true, false, false, false, false, false, false] rfl rfl (take_ofW HT_.out HW_.out (by kernel_rfl)) (fun _ _ _ h => h) (Or.inl ⟨by rfl, ?_⟩) hHeld ?_ ?_
    rotate_left
    ·
     rintro w' ⟨s0, s1, s2, s3, s4, s5, s6, s7⟩
     go_simp
     with_reducible rfl
    rotate_left
    ·
     simp only [Act.put, List.setIfInBounds_toArray, List.set_cons_zero, List.set_cons_succ, i64_w, i32_w]
     rfl
    refine take_ (i := 8) (N := some 28) (v := ?_) (a' := ?_) #[true, true, true, true, true, true, false, true, true, true, false, false, true, false, true, false, false, false, false, false, false] rfl rfl (take_ofW HT_.out HW_.out (by kernel_rfl)) (fun _ _ _ h => h) (Or.inl ⟨by rfl, ?_⟩) hHeld ?_ ?_
    rotate_left
    ·
     rintro w' ⟨s0, s1, s2, s3, s4, s5, s6, s7⟩
     go_simp
     with_reducible rfl
    rotate_left
    ·
     simp only [Act.put, List.setIfInBounds_toArray, List.set_cons_zero, List.set_cons_succ, i64_w, i32_w]
     rfl
    refine take_ (i := 10) (N := some 30) (v := ?_) (a' := ?_) #[true, true, true, true, true, true, false, true, true, true, true, false, true, false, true, false, false, false, false, false, false] rfl rfl (take_ofW HT_.out HW_.out (by kernel_rfl)) (fun _ _ _ h => h) (Or.inl ⟨by rfl, ?_⟩) hHeld ?_ ?_
    rotate_left
    ·
     rintro w' ⟨s0, s1, s2, s3, s4, s5, s6, s7⟩
     go_simp
     with_reducible rfl
    rotate_left
    ·
     simp only [Act.put, List.setIfInBounds_toArray, List.set_cons_zero, List.set_cons_succ, i64_w, i32_w]
     rfl
    refine take_ (i := 13) (N := some 33) (v := ?_) (a' := ?_) #[true, true, true, true, true, true, false, true, true, true, true, false, true, true, true, false, false, false, false, false, false] rfl rfl (take_ofW HT_.out HW_.out (by kernel_rfl)) (fun _ _ _ h => h) (Or.inl ⟨by rfl, ?_⟩) hHeld ?_ ?_
    rotate_left
    ·
     rintro w' ⟨s0, s1, s2, s3, s4, s5, s6, s7⟩
     go_simp
     with_reducible rfl
    rotate_left
    ·
     simp only [Act.put, List.setIfInBounds_toArray, List.set_cons_zero, List.set_cons_succ, i64_w, i32_w]
     rfl
    refine take_ (i := 15) (N := some 35) (v := ?_) (a' := ?_) #[true, true, true, true, true, true, false, true, true, true, true, false, true, true, true, true, false, false, false, false, false] rfl rfl (take_ofW HT_.out HW_.out (by kernel_rfl)) (fun _ _ _ h => h) (Or.inl ⟨by rfl, ?_⟩) hHeld ?_ ?_
    rotate_left
    ·
     rintro w' ⟨s0, s1, s2, s3, s4, s5, s6, s7⟩
     go_simp
     with_reducible rfl
    rotate_left
    ·
     simp only [Act.put, List.setIfInBounds_toArray, List.set_cons_zero, List.set_cons_succ, i64_w, i32_w]
     rfl
    refine one_ (i := 6) (N := some 26) #[true, true, true, true, true, true, true, true, true, true, true, false, true, true, true, true, false, false, false, false, false] rfl rfl (one_of HT_.out (by kernel_rfl)) (by decide) (fun K hK => ?_)
    refine goes_ Tryd.func51 (by kernel_rfl) rfl #[.int .i64 a0_1, .int .i64 a1_1] (by rfl) rfl rfl qnp0_ ?_
    with_reducible refine (cmp_Compare_int.calls a0_1 a1_1 t235 _ A20.out).mono ?_
    rintro e w' ⟨rfl, ⟨nd, rfl⟩⟩
    refine ⟨_, rfl, ?_⟩
    refine hK.out _ _ ⟨(blk_cell BK232.out 0).trans rfl, (blk_cell BK232.out 1).trans rfl, (blk_cell BK232.out 2).trans rfl, (blk_cell BK232.out 3).trans rfl, (blk_cell BK233.out 0).trans rfl, (blk_cell BK233.out 1).trans rfl, (blk_cell BK233.out 2).trans rfl, (blk_cell BK233.out 3).trans rfl⟩ (fun hHeld => ?_)
    clear hK K
    refine norm_ (a' := ?_) ?_ ?_
    rotate_left
    ·
     show Act.put _ (some 26) _ = _
     simp only [Act.put, List.setIfInBounds_toArray, List.set_cons_zero, List.set_cons_succ, i64_w, i32_w]
     rfl
    refine one_ (i := 11) (N := some 31) #[true, true, true, true, true, true, true, true, true, true, true, true, true, true, true, true, false, false, false, false, false] rfl rfl (one_of HT_.out (by kernel_rfl)) (by decide) (fun K hK => ?_)
    refine goes_ Tryd.func51 (by kernel_rfl) rfl #[.int .i64 a0_2, .int .i64 a1_2] (by rfl) rfl rfl qnp0_ ?_
    with_reducible refine (cmp_Compare_int.calls a0_2 a1_2 t236 _ A21.out).mono ?_
    rintro e w' ⟨rfl, ⟨nd, rfl⟩⟩
    refine ⟨_, rfl, ?_⟩
    refine hK.out _ _ ⟨(blk_cell BK232.out 0).trans rfl, (blk_cell BK232.out 1).trans rfl, (blk_cell BK232.out 2).trans rfl, (blk_cell BK232.out 3).trans rfl, (blk_cell BK233.out 0).trans rfl, (blk_cell BK233.out 1).trans rfl, (blk_cell BK233.out 2).trans rfl, (blk_cell BK233.out 3).trans rfl⟩ (fun hHeld => ?_)
    clear hK K
    refine norm_ (a' := ?_) ?_ ?_
    rotate_left
    ·
     show Act.put _ (some 31) _ = _
     simp only [Act.put, List.setIfInBounds_toArray, List.set_cons_zero, List.set_cons_succ, i64_w, i32_w]
     rfl
    refine one_ (i := 16) (N := some 36) #[true, true, true, true, true, true, true, true, true, true, true, true, true, true, true, true, true, false, false, false, false] rfl rfl (one_of HT_.out (by kernel_rfl)) (by decide) (fun K hK => ?_)
    refine goes_ Tryd.func55 (by kernel_rfl) rfl #[.string a0_3, .string a1_3] (by rfl) rfl rfl qnp0_ ?_
    with_reducible refine (strings_Compare.calls a0_3 a1_3 t237 _ A22.out).mono ?_
    rintro e w' ⟨rfl, ⟨nd, rfl⟩⟩
    refine ⟨_, rfl, ?_⟩
    refine hK.out _ _ ⟨(blk_cell BK232.out 0).trans rfl, (blk_cell BK232.out 1).trans rfl, (blk_cell BK232.out 2).trans rfl, (blk_cell BK232.out 3).trans rfl, (blk_cell BK233.out 0).trans rfl, (blk_cell BK233.out 1).trans rfl, (blk_cell BK233.out 2).trans rfl, (blk_cell BK233.out 3).trans rfl⟩ (fun hHeld => ?_)
    clear hK K
    refine norm_ (a' := ?_) ?_ ?_
    rotate_left
    ·
     show Act.put _ (some 36) _ = _
     simp only [Act.put, List.setIfInBounds_toArray, List.set_cons_zero, List.set_cons_succ, i64_w, i32_w]
     rfl
    refine one_ (i := 17) (N := some 37) #[true, true, true, true, true, true, true, true, true, true, true, true, true, true, true, true, true, true, false, false, false] rfl rfl (one_of HT_.out (by kernel_rfl)) (by decide) (fun K hK => ?_)
    refine Kd.R_lit_step (Kd.int .i64) _ 3 ?hg (N := 37) ?hd (xs := ([t235, t236, t237] : List Int)) (inner := [.int .i64 t235, .int .i64 t236, .int .i64 t237]) (ok := fun _ => True) (okp := fun _ => True) ?hr ?hp (fun _ hk => hk) trivial (Below.refl _ _) (Nat.le_refl _) (by simp) ?_; (case hd => rfl); (case hg => rfl); (case hr => first | (go_simp; done) | (go_simp; rfl)); (case hp => exact (Reps.one (show Kd.M (Kd.int .i64) _ _ _ t235 [.int .i64 t235] from rfl) (Reps.one (show Kd.M (Kd.int .i64) _ _ _ t236 [.int .i64 t236] from rfl) (Reps.one (show Kd.M (Kd.int .i64) _ _ _ t237 [.int .i64 t237] from rfl) (Reps.none _ _)))))
    intro v239 w25 ho26 hb hg_ hnew_
    clear hg_ hnew_
    (first | rw [← Ny238.out] at ho26 | (simp only [Int.reduceToNat] at ho26; rw [← Ny238.out] at ho26))
    have n0_ := Aside0.mk (Kd.R_lower ho26 (below_size qnp45_))
    have n1_ := Aside0.mk (blk_below (g := gb232) (o := .cells #[.int .i64 a0_0, .int .i64 a0_1, .int .i64 a0_2, .string a0_3] 77 (0, 0)) qnp54_ hb)
    have n2_ := Aside0.mk (blk_below (g := gb233) (o := .cells #[.int .i64 a1_0, .int .i64 a1_1, .int .i64 a1_2, .string a1_3] 77 (0, 0)) qnp73_ hb)
    have n3_ := Aside0.mk (below_step qnp45_ hb)
    clear BK232
    clear BK233
    clear HB
    have HO240 := n0_
    have BK232 := n1_
    have BK233 := n2_
    have HB := n3_
    clear n0_ n1_ n2_ n3_
    clear hb ho26
    obtain ⟨Ao27, co27, eo27⟩ := Kd.R_slice HO240.out
    (first | subst eo27 | (injection eo27 with f1_ f2_ f3_; have f4_ := f1_.symm; have f5_ := f3_.symm; clear f1_ f2_ f3_; subst f4_; subst f5_))
    refine hK.out _ _ ⟨(blk_cell BK232.out 0).trans rfl, (blk_cell BK232.out 1).trans rfl, (blk_cell BK232.out 2).trans rfl, (blk_cell BK232.out 3).trans rfl, (blk_cell BK233.out 0).trans rfl, (blk_cell BK233.out 1).trans rfl, (blk_cell BK233.out 2).trans rfl, (blk_cell BK233.out 3).trans rfl⟩ (fun hHeld => ?_)
    clear hK K
    refine norm_ (a' := ?_) ?_ ?_
    rotate_left
    ·
     show Act.put _ (some 37) _ = _
     simp only [Act.put, List.setIfInBounds_toArray, List.set_cons_zero, List.set_cons_succ, i64_w, i32_w]
     rfl
    refine one_ (i := 18) (N := some 38) #[true, true, true, true, true, true, true, true, true, true, true, true, true, true, true, true, true, true, true, false, false] rfl rfl (one_of HT_.out (by kernel_rfl)) (by decide) (fun K hK => ?_)
    refine goes_ Tryd.func72 (by kernel_rfl) rfl #[.slice Ao27 y238.length co27] (by rfl) rfl rfl qnp0_ ?_
    with_reducible refine (cmp_Or_int.calls kj2 _ _ y238 t241 _ ?side1 ?side2 A23.out).mono ?_
    (case side1 => repeat (first | exact (Kd.R_reads' HO240.out).2.2 | (with_reducible refine Kd.C_alloc ?_ _) | (with_reducible refine Kd.C_drewN ?_ _) | (with_reducible refine Kd.C_drew ?_)))
    (case side2 => exact (Kd.R_reads' HO240.out).2.1)
    rintro e w' ⟨rfl, ⟨nd, rfl⟩⟩
    refine ⟨_, rfl, ?_⟩
    refine hK.out _ _ ⟨(blk_cell BK232.out 0).trans rfl, (blk_cell BK232.out 1).trans rfl, (blk_cell BK232.out 2).trans rfl, (blk_cell BK232.out 3).trans rfl, (blk_cell BK233.out 0).trans rfl, (blk_cell BK233.out 1).trans rfl, (blk_cell BK233.out 2).trans rfl, (blk_cell BK233.out 3).trans rfl⟩ (fun hHeld => ?_)
    clear hK K
    refine norm_ (a' := ?_) ?_ ?_
    rotate_left
    ·
     show Act.put _ (some 38) _ = _
     simp only [Act.put, List.setIfInBounds_toArray, List.set_cons_zero, List.set_cons_succ, i64_w, i32_w]
     rfl
    refine pure_ (i := 19) (N := some 39) (v := ?_) (a' := ?_) #[true, true, true, true, true, true, true, true, true, true, true, true, true, true, true, true, true, true, true, true, false] rfl rfl (any_of HT_.out (by kernel_rfl)) (fun _ _ _ h => h) (Or.inl ⟨by rfl, ?_⟩) ?_ ?_
    rotate_left
    ·
     intro w'
     go_simp
     with_reducible rfl
    rotate_left
    ·
     simp only [Act.put, List.setIfInBounds_toArray, List.set_cons_zero, List.set_cons_succ, i64_w, i32_w]
     rfl
    refine pure_ (i := 20) (N := some 4) (v := ?_) (a' := ?_) #[true, true, true, true, true, true, true, true, true, true, true, true, true, true, true, true, true, true, true, true, true] rfl rfl (any_of HT_.out (by kernel_rfl)) (fun _ _ _ h => h) (Or.inl ⟨by rfl, ?_⟩) ?_ ?_
    rotate_left
    ·
     intro w'
     go_simp
     with_reducible rfl
    rotate_left
    ·
     simp only [Act.put, List.setIfInBounds_toArray, List.set_cons_zero, List.set_cons_succ, i64_w, i32_w]
     rfl
    refine done_ (done_of HT_.out (by kernel_rfl)) ?_
    try go_wp2
    go_ret
    exact ⟨qnp5_, qnp45_⟩


/-! ### numeral_sizeOf: function 54 -/
def numeral_sizeOf.f (a0 : Bool) (a1 : ByteArray) (a2 : Int) (a3 : Int) : Option (Int × Int × Int × ByteArray) := if a1.toList = ([] : List UInt8) then (some (0, 0, 0, (⟨#[]⟩ : ByteArray))) else (if a0 = true then (some ((-1), a3, a2, a1)) else (some (1, a3, a2, a1)))
set_option maxHeartbeats 8000000 in
set_option maxRecDepth 100000 in
theorem numeral_sizeOf.calls (a0 : Bool) (a1 : ByteArray) (a2 : Int) (a3 : Int) (r1 : Int) (r2 : Int) (r3 : Int) (r4 : ByteArray) (w : World) (h : numeral_sizeOf.f a0 a1 a2 a3 = some (r1, r2, r3, r4)) :
  Calls Tryd.prog 54 #[.bool a0, .string a1, .int .i64 a2, .int .i64 a3] w fun e w' => e = .returned (.agg #[.int .i64 r1, .int .i64 r2, .int .i64 r3, .string r4]) ∧ Below w.heap.size w w' := by
 have hu77 := Tryd.underlying77
 have HB := Aside0.mk (Below.refl w.heap.size w)
 have H : (if a1.toList = ([] : List UInt8) then (some (0, 0, 0, (⟨#[]⟩ : ByteArray))) else (if a0 = true then (some ((-1), a3, a2, a1)) else (some (1, a3, a2, a1)))) = some (r1, r2, r3, r4) := h
 clear h
 by_cases c5 : a1.toList = ([] : List UInt8)
 ·
  rw [if_pos c5] at H
  have c5b0 : (a1.toList == ([] : List UInt8)) = true := beq_iff_eq.mpr c5
  have c5b1 : (a1.toList != ([] : List UInt8)) = false := bne_eq_false_iff_eq.mpr c5
  clear c5
  simp only [Option.some.injEq, Prod.mk.injEq] at H
  obtain ⟨rfl, rfl, rfl, rfl⟩ := H
  go_enter Tryd.func54, Tryd.ntmps54
  have tk11 : True := trivial; have tk12 : True := trivial
  go_wp2_with (first | (have ztk11 := tk11; clear tk11 ztk11; (with_reducible refine gate_dst (N := 8) rfl ?_); refine box_event ?hg (N := 8) ?hd (cs := #[.int .i64 0, .int .i64 0, .int .i64 0, .string (⟨#[]⟩ : ByteArray)]) (t := 77) ?hr ?_; (case hd => rfl); (case hg => rfl); (case hr => first | (go_simp; done) | (go_simp; rfl)); intro gb242 hg w6 hbox hb; have n0_ := Aside0.mk (below_step qnp1_ hb); have n1_ := Aside0.mk (hbox); have n2_ := Aside0.mk ((by rw [hg]; exact (below_size qnp1_) : w.heap.size ≤ gb242)); have n3_ := Aside0.mk ((by rw [hg]; exact (below_size qnp1_) : w.heap.size ≤ gb242)); clear HB; have HB := n0_; have BK242 := n1_; have GW242 := n2_; have GE242 := n3_; clear n0_ n1_ n2_ n3_; clear hb hbox hg) | (have ztk12 := tk12; clear tk12 ztk12; (with_reducible refine gate_dst (N := 9) rfl ?_); refine box_event ?hg (N := 9) ?hd (cs := #[.int .i64 0, .int .i64 0, .int .i64 0, .string (⟨#[]⟩ : ByteArray)]) (t := 77) ?hr ?_; (case hd => rfl); (case hg => rfl); (case hr => first | (go_simp; done) | (go_simp; rfl)); intro gb243 hg w7 hbox hb; have n0_ := Aside0.mk (blk_below (g := gb242) (o := .cells #[.int .i64 0, .int .i64 0, .int .i64 0, .string (⟨#[]⟩ : ByteArray)] 77 (0, 0)) qnp47_ hb); have n1_ := Aside0.mk (below_step qnp33_ hb); have n2_ := Aside0.mk (hbox); have n3_ := Aside0.mk ((by rw [hg]; exact (below_size qnp33_) : w.heap.size ≤ gb243)); have n4_ := Aside0.mk ((by rw [hg]; exact (below_size qnp33_) : w.heap.size ≤ gb243)); have n5_ := Aside0.mk ((by rw [hg]; exact Nat.ne_of_lt (blk_lt (g := gb242) (o := .cells #[.int .i64 0, .int .i64 0, .int .i64 0, .string (⟨#[]⟩ : ByteArray)] 77 (0, 0)) qnp47_) : gb242 ≠ gb243)); have n6_ := Aside0.mk ((by rw [hg]; exact Nat.ne_of_gt (blk_lt (g := gb242) (o := .cells #[.int .i64 0, .int .i64 0, .int .i64 0, .string (⟨#[]⟩ : ByteArray)] 77 (0, 0)) qnp47_) : gb243 ≠ gb242)); clear BK242; clear HB; have BK242 := n0_; have HB := n1_; have BK243 := n2_; have GW243 := n3_; have GE243 := n4_; have NB242_243 := n5_; have NB243_242 := n6_; clear n0_ n1_ n2_ n3_ n4_ n5_ n6_; clear hb hbox hg; have hnb8 := NB243_242.out; have hnc8 := NB242_243.out; have hcz9_0 : w7.cell? ⟨gb243, 0, none⟩ = some (.int .i64 0) := (blk_cell BK243.out 0).trans rfl; have hcz9_1 : w7.cell? ⟨gb243, 1, none⟩ = some (.int .i64 0) := (blk_cell BK243.out 1).trans rfl; have hcz9_2 : w7.cell? ⟨gb243, 2, none⟩ = some (.int .i64 0) := (blk_cell BK243.out 2).trans rfl; have hcz9_3 : w7.cell? ⟨gb243, 3, none⟩ = some (.string (⟨#[]⟩ : ByteArray)) := (blk_cell BK243.out 3).trans rfl; have hfz9_0 := blk_frozen BK243.out 0; have hfz9_1 := blk_frozen BK243.out 1; have hfz9_2 := blk_frozen BK243.out 2; have hfz9_3 := blk_frozen BK243.out 3; have hcz10_0 : w7.cell? ⟨gb242, 0, none⟩ = some (.int .i64 0) := (blk_cell BK242.out 0).trans rfl; have hcz10_1 : w7.cell? ⟨gb242, 1, none⟩ = some (.int .i64 0) := (blk_cell BK242.out 1).trans rfl; have hcz10_2 : w7.cell? ⟨gb242, 2, none⟩ = some (.int .i64 0) := (blk_cell BK242.out 2).trans rfl; have hcz10_3 : w7.cell? ⟨gb242, 3, none⟩ = some (.string (⟨#[]⟩ : ByteArray)) := (blk_cell BK242.out 3).trans rfl; have hfz10_0 := blk_frozen BK242.out 0; have hfz10_1 := blk_frozen BK242.out 1; have hfz10_2 := blk_frozen BK242.out 2; have hfz10_3 := blk_frozen BK242.out 3))
  refine bodyPost_ret (results_cell_row rfl _ _ gb242 77 #[.int .i64 0, .int .i64 0, .int .i64 0, .string (⟨#[]⟩ : ByteArray)] (0, 0) _ rfl (by (with_reducible repeat (first | refine blk_drewN ?_ _ | refine blk_drew ?_ | refine blk_alloc ?_ _)); refine blk_put (cs := #[.int .i64 0, .int .i64 0, .int .i64 0, .string (⟨#[]⟩ : ByteArray)]) ?_ 3 _ rfl; (with_reducible repeat (first | refine blk_drewN ?_ _ | refine blk_drew ?_ | refine blk_alloc ?_ _)); refine blk_put (cs := #[.int .i64 0, .int .i64 0, .int .i64 0, .string (⟨#[]⟩ : ByteArray)]) ?_ 2 _ rfl; (with_reducible repeat (first | refine blk_drewN ?_ _ | refine blk_drew ?_ | refine blk_alloc ?_ _)); refine blk_put (cs := #[.int .i64 0, .int .i64 0, .int .i64 0, .string (⟨#[]⟩ : ByteArray)]) ?_ 1 _ rfl; (with_reducible repeat (first | refine blk_drewN ?_ _ | refine blk_drew ?_ | refine blk_alloc ?_ _)); refine blk_put (cs := #[.int .i64 0, .int .i64 0, .int .i64 0, .string (⟨#[]⟩ : ByteArray)]) ?_ 0 _ rfl; (with_reducible repeat (first | refine blk_drewN ?_ _ | refine blk_drew ?_ | refine blk_alloc ?_ _)); refine blk_far ?_ NB242_243.out _; (with_reducible repeat (first | refine blk_drewN ?_ _ | refine blk_drew ?_ | refine blk_alloc ?_ _)); refine blk_far ?_ NB242_243.out _; (with_reducible repeat (first | refine blk_drewN ?_ _ | refine blk_drew ?_ | refine blk_alloc ?_ _)); refine blk_far ?_ NB242_243.out _; (with_reducible repeat (first | refine blk_drewN ?_ _ | refine blk_drew ?_ | refine blk_alloc ?_ _)); refine blk_far ?_ NB242_243.out _; (with_reducible repeat (first | refine blk_drewN ?_ _ | refine blk_drew ?_ | refine blk_alloc ?_ _)); exact BK242.out) Tryd.underlying77 rfl (by kernel_rfl)) rfl ?_
  exact ⟨qnp5_, qnp61_⟩
 ·
  rw [if_neg c5] at H
  have c5b0 : (a1.toList == ([] : List UInt8)) = false := beq_eq_false_iff_ne.mpr c5
  have c5b1 : (a1.toList != ([] : List UInt8)) = true := bne_iff_ne.mpr c5
  by_cases c13 : a0 = true
  ·
   subst c13
   have H1 : (some ((-1), a3, a2, a1)) = some (r1, r2, r3, r4) := by rw [if_pos rfl] at H; exact H
   clear H
   have H := H1
   clear H1
   simp only [Option.some.injEq, Prod.mk.injEq] at H
   obtain ⟨rfl, rfl, rfl, rfl⟩ := H
   go_enter Tryd.func54, Tryd.ntmps54
   have tk19 : True := trivial; have tk20 : True := trivial
   go_wp2_with (first | (have ztk19 := tk19; clear tk19 ztk19; (with_reducible refine gate_dst (N := 8) rfl ?_); refine box_event ?hg (N := 8) ?hd (cs := #[.int .i64 0, .int .i64 0, .int .i64 0, .string (⟨#[]⟩ : ByteArray)]) (t := 77) ?hr ?_; (case hd => rfl); (case hg => rfl); (case hr => first | (go_simp; done) | (go_simp; rfl)); intro gb242 hg w14 hbox hb; have n0_ := Aside0.mk (below_step qnp1_ hb); have n1_ := Aside0.mk (hbox); have n2_ := Aside0.mk ((by rw [hg]; exact (below_size qnp1_) : w.heap.size ≤ gb242)); have n3_ := Aside0.mk ((by rw [hg]; exact (below_size qnp1_) : w.heap.size ≤ gb242)); clear HB; have HB := n0_; have BK242 := n1_; have GW242 := n2_; have GE242 := n3_; clear n0_ n1_ n2_ n3_; clear hb hbox hg) | (have ztk20 := tk20; clear tk20 ztk20; (with_reducible refine gate_dst (N := 9) rfl ?_); refine box_event ?hg (N := 9) ?hd (cs := #[.int .i64 0, .int .i64 0, .int .i64 0, .string (⟨#[]⟩ : ByteArray)]) (t := 77) ?hr ?_; (case hd => rfl); (case hg => rfl); (case hr => first | (go_simp; done) | (go_simp; rfl)); intro gb243 hg w15 hbox hb; have n0_ := Aside0.mk (blk_below (g := gb242) (o := .cells #[.int .i64 0, .int .i64 0, .int .i64 0, .string (⟨#[]⟩ : ByteArray)] 77 (0, 0)) qnp47_ hb); have n1_ := Aside0.mk (below_step qnp33_ hb); have n2_ := Aside0.mk (hbox); have n3_ := Aside0.mk ((by rw [hg]; exact (below_size qnp33_) : w.heap.size ≤ gb243)); have n4_ := Aside0.mk ((by rw [hg]; exact (below_size qnp33_) : w.heap.size ≤ gb243)); have n5_ := Aside0.mk ((by rw [hg]; exact Nat.ne_of_lt (blk_lt (g := gb242) (o := .cells #[.int .i64 0, .int .i64 0, .int .i64 0, .string (⟨#[]⟩ : ByteArray)] 77 (0, 0)) qnp47_) : gb242 ≠ gb243)); have n6_ := Aside0.mk ((by rw [hg]; exact Nat.ne_of_gt (blk_lt (g := gb242) (o := .cells #[.int .i64 0, .int .i64 0, .int .i64 0, .string (⟨#[]⟩ : ByteArray)] 77 (0, 0)) qnp47_) : gb243 ≠ gb242)); clear BK242; clear HB; have BK242 := n0_; have HB := n1_; have BK243 := n2_; have GW243 := n3_; have GE243 := n4_; have NB242_243 := n5_; have NB243_242 := n6_; clear n0_ n1_ n2_ n3_ n4_ n5_ n6_; clear hb hbox hg; have hnb16 := NB243_242.out; have hnc16 := NB242_243.out; have hcz17_0 : w15.cell? ⟨gb243, 0, none⟩ = some (.int .i64 0) := (blk_cell BK243.out 0).trans rfl; have hcz17_1 : w15.cell? ⟨gb243, 1, none⟩ = some (.int .i64 0) := (blk_cell BK243.out 1).trans rfl; have hcz17_2 : w15.cell? ⟨gb243, 2, none⟩ = some (.int .i64 0) := (blk_cell BK243.out 2).trans rfl; have hcz17_3 : w15.cell? ⟨gb243, 3, none⟩ = some (.string (⟨#[]⟩ : ByteArray)) := (blk_cell BK243.out 3).trans rfl; have hfz17_0 := blk_frozen BK243.out 0; have hfz17_1 := blk_frozen BK243.out 1; have hfz17_2 := blk_frozen BK243.out 2; have hfz17_3 := blk_frozen BK243.out 3; have hcz18_0 : w15.cell? ⟨gb242, 0, none⟩ = some (.int .i64 0) := (blk_cell BK242.out 0).trans rfl; have hcz18_1 : w15.cell? ⟨gb242, 1, none⟩ = some (.int .i64 0) := (blk_cell BK242.out 1).trans rfl; have hcz18_2 : w15.cell? ⟨gb242, 2, none⟩ = some (.int .i64 0) := (blk_cell BK242.out 2).trans rfl; have hcz18_3 : w15.cell? ⟨gb242, 3, none⟩ = some (.string (⟨#[]⟩ : ByteArray)) := (blk_cell BK242.out 3).trans rfl; have hfz18_0 := blk_frozen BK242.out 0; have hfz18_1 := blk_frozen BK242.out 1; have hfz18_2 := blk_frozen BK242.out 2; have hfz18_3 := blk_frozen BK242.out 3))
   refine bodyPost_ret (results_cell_row rfl _ _ gb242 77 #[.int .i64 (-1), .int .i64 a3, .int .i64 a2, .string a1] (0, 0) _ rfl (by (with_reducible repeat (first | refine blk_drewN ?_ _ | refine blk_drew ?_ | refine blk_alloc ?_ _)); refine blk_put (cs := #[.int .i64 (-1), .int .i64 a3, .int .i64 a2, .string (⟨#[]⟩ : ByteArray)]) ?_ 3 _ rfl; (with_reducible repeat (first | refine blk_drewN ?_ _ | refine blk_drew ?_ | refine blk_alloc ?_ _)); refine blk_put (cs := #[.int .i64 (-1), .int .i64 a3, .int .i64 0, .string (⟨#[]⟩ : ByteArray)]) ?_ 2 _ rfl; (with_reducible repeat (first | refine blk_drewN ?_ _ | refine blk_drew ?_ | refine blk_alloc ?_ _)); refine blk_put (cs := #[.int .i64 (-1), .int .i64 0, .int .i64 0, .string (⟨#[]⟩ : ByteArray)]) ?_ 1 _ rfl; (with_reducible repeat (first | refine blk_drewN ?_ _ | refine blk_drew ?_ | refine blk_alloc ?_ _)); refine blk_put (cs := #[.int .i64 0, .int .i64 0, .int .i64 0, .string (⟨#[]⟩ : ByteArray)]) ?_ 0 _ rfl; (with_reducible repeat (first | refine blk_drewN ?_ _ | refine blk_drew ?_ | refine blk_alloc ?_ _)); refine blk_far ?_ NB242_243.out _; (with_reducible repeat (first | refine blk_drewN ?_ _ | refine blk_drew ?_ | refine blk_alloc ?_ _)); refine blk_far ?_ NB242_243.out _; (with_reducible repeat (first | refine blk_drewN ?_ _ | refine blk_drew ?_ | refine blk_alloc ?_ _)); refine blk_far ?_ NB242_243.out _; (with_reducible repeat (first | refine blk_drewN ?_ _ | refine blk_drew ?_ | refine blk_alloc ?_ _)); refine blk_far ?_ NB242_243.out _; (with_reducible repeat (first | refine blk_drewN ?_ _ | refine blk_drew ?_ | refine blk_alloc ?_ _)); refine blk_far ?_ NB242_243.out _; (with_reducible repeat (first | refine blk_drewN ?_ _ | refine blk_drew ?_ | refine blk_alloc ?_ _)); exact BK242.out) Tryd.underlying77 rfl (by kernel_rfl)) rfl ?_
   exact ⟨qnp5_, qnp61_⟩
  ·
   replace c13 := Bool.eq_false_iff.mpr c13
   subst c13
   have H1 : (some (1, a3, a2, a1)) = some (r1, r2, r3, r4) := by rw [if_neg (show ¬ (false = true) by decide)] at H; exact H
   clear H
   have H := H1
   clear H1
   simp only [Option.some.injEq, Prod.mk.injEq] at H
   obtain ⟨rfl, rfl, rfl, rfl⟩ := H
   go_enter Tryd.func54, Tryd.ntmps54
   have tk26 : True := trivial; have tk27 : True := trivial
   go_wp2_with (first | (have ztk26 := tk26; clear tk26 ztk26; (with_reducible refine gate_dst (N := 8) rfl ?_); refine box_event ?hg (N := 8) ?hd (cs := #[.int .i64 0, .int .i64 0, .int .i64 0, .string (⟨#[]⟩ : ByteArray)]) (t := 77) ?hr ?_; (case hd => rfl); (case hg => rfl); (case hr => first | (go_simp; done) | (go_simp; rfl)); intro gb242 hg w21 hbox hb; have n0_ := Aside0.mk (below_step qnp1_ hb); have n1_ := Aside0.mk (hbox); have n2_ := Aside0.mk ((by rw [hg]; exact (below_size qnp1_) : w.heap.size ≤ gb242)); have n3_ := Aside0.mk ((by rw [hg]; exact (below_size qnp1_) : w.heap.size ≤ gb242)); clear HB; have HB := n0_; have BK242 := n1_; have GW242 := n2_; have GE242 := n3_; clear n0_ n1_ n2_ n3_; clear hb hbox hg) | (have ztk27 := tk27; clear tk27 ztk27; (with_reducible refine gate_dst (N := 9) rfl ?_); refine box_event ?hg (N := 9) ?hd (cs := #[.int .i64 0, .int .i64 0, .int .i64 0, .string (⟨#[]⟩ : ByteArray)]) (t := 77) ?hr ?_; (case hd => rfl); (case hg => rfl); (case hr => first | (go_simp; done) | (go_simp; rfl)); intro gb243 hg w22 hbox hb; have n0_ := Aside0.mk (blk_below (g := gb242) (o := .cells #[.int .i64 0, .int .i64 0, .int .i64 0, .string (⟨#[]⟩ : ByteArray)] 77 (0, 0)) qnp47_ hb); have n1_ := Aside0.mk (below_step qnp33_ hb); have n2_ := Aside0.mk (hbox); have n3_ := Aside0.mk ((by rw [hg]; exact (below_size qnp33_) : w.heap.size ≤ gb243)); have n4_ := Aside0.mk ((by rw [hg]; exact (below_size qnp33_) : w.heap.size ≤ gb243)); have n5_ := Aside0.mk ((by rw [hg]; exact Nat.ne_of_lt (blk_lt (g := gb242) (o := .cells #[.int .i64 0, .int .i64 0, .int .i64 0, .string (⟨#[]⟩ : ByteArray)] 77 (0, 0)) qnp47_) : gb242 ≠ gb243)); have n6_ := Aside0.mk ((by rw [hg]; exact Nat.ne_of_gt (blk_lt (g := gb242) (o := .cells #[.int .i64 0, .int .i64 0, .int .i64 0, .string (⟨#[]⟩ : ByteArray)] 77 (0, 0)) qnp47_) : gb243 ≠ gb242)); clear BK242; clear HB; have BK242 := n0_; have HB := n1_; have BK243 := n2_; have GW243 := n3_; have GE243 := n4_; have NB242_243 := n5_; have NB243_242 := n6_; clear n0_ n1_ n2_ n3_ n4_ n5_ n6_; clear hb hbox hg; have hnb23 := NB243_242.out; have hnc23 := NB242_243.out; have hcz24_0 : w22.cell? ⟨gb243, 0, none⟩ = some (.int .i64 0) := (blk_cell BK243.out 0).trans rfl; have hcz24_1 : w22.cell? ⟨gb243, 1, none⟩ = some (.int .i64 0) := (blk_cell BK243.out 1).trans rfl; have hcz24_2 : w22.cell? ⟨gb243, 2, none⟩ = some (.int .i64 0) := (blk_cell BK243.out 2).trans rfl; have hcz24_3 : w22.cell? ⟨gb243, 3, none⟩ = some (.string (⟨#[]⟩ : ByteArray)) := (blk_cell BK243.out 3).trans rfl; have hfz24_0 := blk_frozen BK243.out 0; have hfz24_1 := blk_frozen BK243.out 1; have hfz24_2 := blk_frozen BK243.out 2; have hfz24_3 := blk_frozen BK243.out 3; have hcz25_0 : w22.cell? ⟨gb242, 0, none⟩ = some (.int .i64 0) := (blk_cell BK242.out 0).trans rfl; have hcz25_1 : w22.cell? ⟨gb242, 1, none⟩ = some (.int .i64 0) := (blk_cell BK242.out 1).trans rfl; have hcz25_2 : w22.cell? ⟨gb242, 2, none⟩ = some (.int .i64 0) := (blk_cell BK242.out 2).trans rfl; have hcz25_3 : w22.cell? ⟨gb242, 3, none⟩ = some (.string (⟨#[]⟩ : ByteArray)) := (blk_cell BK242.out 3).trans rfl; have hfz25_0 := blk_frozen BK242.out 0; have hfz25_1 := blk_frozen BK242.out 1; have hfz25_2 := blk_frozen BK242.out 2; have hfz25_3 := blk_frozen BK242.out 3))
   refine bodyPost_ret (results_cell_row rfl _ _ gb242 77 #[.int .i64 1, .int .i64 a3, .int .i64 a2, .string a1] (0, 0) _ rfl (by (with_reducible repeat (first | refine blk_drewN ?_ _ | refine blk_drew ?_ | refine blk_alloc ?_ _)); refine blk_put (cs := #[.int .i64 1, .int .i64 a3, .int .i64 a2, .string (⟨#[]⟩ : ByteArray)]) ?_ 3 _ rfl; (with_reducible repeat (first | refine blk_drewN ?_ _ | refine blk_drew ?_ | refine blk_alloc ?_ _)); refine blk_put (cs := #[.int .i64 1, .int .i64 a3, .int .i64 0, .string (⟨#[]⟩ : ByteArray)]) ?_ 2 _ rfl; (with_reducible repeat (first | refine blk_drewN ?_ _ | refine blk_drew ?_ | refine blk_alloc ?_ _)); refine blk_put (cs := #[.int .i64 1, .int .i64 0, .int .i64 0, .string (⟨#[]⟩ : ByteArray)]) ?_ 1 _ rfl; (with_reducible repeat (first | refine blk_drewN ?_ _ | refine blk_drew ?_ | refine blk_alloc ?_ _)); refine blk_put (cs := #[.int .i64 0, .int .i64 0, .int .i64 0, .string (⟨#[]⟩ : ByteArray)]) ?_ 0 _ rfl; (with_reducible repeat (first | refine blk_drewN ?_ _ | refine blk_drew ?_ | refine blk_alloc ?_ _)); refine blk_far ?_ NB242_243.out _; (with_reducible repeat (first | refine blk_drewN ?_ _ | refine blk_drew ?_ | refine blk_alloc ?_ _)); refine blk_far ?_ NB242_243.out _; (with_reducible repeat (first | refine blk_drewN ?_ _ | refine blk_drew ?_ | refine blk_alloc ?_ _)); refine blk_far ?_ NB242_243.out _; (with_reducible repeat (first | refine blk_drewN ?_ _ | refine blk_drew ?_ | refine blk_alloc ?_ _)); refine blk_far ?_ NB242_243.out _; (with_reducible repeat (first | refine blk_drewN ?_ _ | refine blk_drew ?_ | refine blk_alloc ?_ _)); exact BK242.out) Tryd.underlying77 rfl (by kernel_rfl)) rfl ?_
   exact ⟨qnp5_, qnp61_⟩

end Go.Proofs.YtcdajedmlfhmeaaDoor.XN
