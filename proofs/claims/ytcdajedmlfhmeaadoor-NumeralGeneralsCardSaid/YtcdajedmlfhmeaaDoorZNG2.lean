import Derived.Test.YtcdajedmlfhmeaaDoorZNG0
import Derived.Test.YtcdajedmlfhmeaaDoorZNG1
namespace Go.Proofs.YtcdajedmlfhmeaaDoor.XN
open Go.RowKit Go.Proofs.YtcdajedmlfhmeaaDoorW.PrintWords Go.Proofs.YtcdajedmlfhmeaaDoorW.PrintLast Go.Proofs.YtcdajedmlfhmeaaDoorW.PrintMore
attribute [local go_sem] max2_int min2_int max_two min_two max_three min_three max_four min_four
set_option linter.unusedVariables false
set_option linter.unusedSimpArgs false

/-! ### numeral_Month: function 23 -/
def numeral_Month.l0 : Nat → ByteArray → Int → Int → Option (Int)
 | 0, _, _, _ => none
 | k + 1, x0, x3, x7 => if x7 < 12 then (if 0 ≤ x7 then ((numeral_begins.f k x0 x3 (rdOf ByteArray.empty G_months x7)).bind fun t224 => (if t224 = true then (some (wrap64 (x7 + 1))) else (numeral_Month.l0 k x0 x3 (wrap64 (x7 + 1))))) else (none)) else (some 0)
def numeral_Month.f (k : Nat) (a0 : ByteArray) : Option (Int) := (numeral_blanks.f k a0).bind fun t222 => (numeral_Month.l0 k a0 t222 0)
set_option maxHeartbeats 8000000 in
set_option maxRecDepth 100000 in
theorem numeral_Month.calls (k : Nat) (a0 : ByteArray) (r : Int) (w : World) (hGL : GOK w) (h : numeral_Month.f k a0 = some r) :
  Calls Tryd.prog 23 #[.string a0] w fun e w' => e = .returned (.int .i64 r) ∧ Drawn0 w w' := by
 have HRg0 := Aside0.mk hGL.g0
 have HGL := Aside0.mk hGL
 clear hGL
 have H : ((numeral_blanks.f k a0).bind fun t222 => (numeral_Month.l0 k a0 t222 0)) = some r := h
 clear h
 replace H := Option.bind_eq_some_iff.mp H
 obtain ⟨t222, A20, H⟩ := H
 replace H : (numeral_Month.l0 k a0 t222 0) = some r := H
 have A2 := Aside0.mk A20
 clear A20
 have H' := Aside0.mk H
 clear H
 go_enter Tryd.func23, Tryd.ntmps23
 go_wp2_with (first | ((with_reducible refine gate_callee (f := 34) rfl ?_); refine goesL_ (some 6) rfl rfl Tryd.func34 (by kernel_rfl) rfl #[.string a0] rfl qng0_ ?_; (with_reducible refine (numeral_blanks.calls k a0 t222 _ A2.out).mono ?_); rintro e w' ⟨rfl, ⟨nd, rfl⟩⟩; refine ⟨_, rfl, ?_⟩))
 go_loopg [7] k (fun kq v7 w' => ∃ (x7_1 : Int), v7 = .int .i64 x7_1 ∧ Aside0 (numeral_Month.l0 kq a0 t222 x7_1 = some r) ∧ Aside0 (kq ≤ k) ∧ Drawn0 w w')
 case atStart => exact ⟨(0), qng2_, H', ⟨Nat.le_refl _⟩, qng4_⟩
 case round =>
  clear H'
  (try clear c2); (try clear p2)
  obtain ⟨x7_1, rfl, HA, HK1, ⟨m1, rfl⟩⟩ := hrel
  cases gk with
  | zero => exact absurd HA.out (by simp [numeral_Month.l0])
  | succ k1 =>
   have H := HA.out
   clear HA
   simp only [numeral_Month.l0] at H
   by_cases c3 : x7_1 < 12
   ·
    rw [if_pos c3] at H
    have c3b0 : decide (x7_1 < 12) = true := decide_eq_true c3
    clear c3
    by_cases c4 : 0 ≤ x7_1
    ·
     rw [if_pos c4] at H
     have c4b0 : decide (0 ≤ x7_1) = true := decide_eq_true c4
     clear c4
     replace H := Option.bind_eq_some_iff.mp H
     obtain ⟨t224, A50, H⟩ := H
     replace H : (if t224 = true then (some (wrap64 (x7_1 + 1))) else (numeral_Month.l0 k1 a0 t222 (wrap64 (x7_1 + 1)))) = some r := H
     have A5 := Aside0.mk A50
     clear A50
     by_cases c6 : t224 = true
     ·
      subst c6
      have H1 : (some (wrap64 (x7_1 + 1))) = some r := by rw [if_pos rfl] at H; exact H
      clear H
      have H := H1
      clear H1
      obtain rfl := Option.some.inj H
      have p223 : 0 ≤ (x7_1 : Int) := of_decide_eq_true qng3_
      have q223 : x7_1 < (G_months.length : Int) := (show (x7_1 : Int) < 12 from of_decide_eq_true qng3_)
      have qg223 : ((x7_1 : Int) < 12) = True := eq_true q223
      obtain ⟨ad223, e223, hx223_0⟩ := Kd.at_string HRg0.out x7_1 p223 q223
      obtain rfl : (⟨0, 0, none⟩ : Addr) = ad223 := (by injection e223)
      (first | simp only [add_plain] at hx223_0 | simp only [add_at] at hx223_0 | simp only [Addr.add, Nat.zero_add] at hx223_0 | skip)
      replace p223 := eq_true p223
      replace q223 := eq_true q223
      go_wp2_with (first | ((with_reducible refine gate_callee (f := 35) rfl ?_); refine goesL_ (some 15) rfl rfl Tryd.func35 (by kernel_rfl) rfl #[.string a0, .int .i64 t222, .string (rdOf ByteArray.empty G_months x7_1)] rfl qng0_ ?_; (with_reducible refine (numeral_begins.calls k1 a0 t222 (rdOf ByteArray.empty G_months x7_1) true _ A5.out).mono ?_); rintro e w' ⟨rfl, ⟨nd, rfl⟩⟩; refine ⟨_, rfl, ?_⟩))
      go_ret
      exact ⟨qng2_, qng4_⟩
     ·
      replace c6 := Bool.eq_false_iff.mpr c6
      subst c6
      have H1 : (numeral_Month.l0 k1 a0 t222 (wrap64 (x7_1 + 1))) = some r := by rw [if_neg (show ¬ (false = true) by decide)] at H; exact H
      clear H
      have H := H1
      clear H1
      have H' := Aside0.mk H
      clear H
      have p223 : 0 ≤ (x7_1 : Int) := of_decide_eq_true qng3_
      have q223 : x7_1 < (G_months.length : Int) := (show (x7_1 : Int) < 12 from of_decide_eq_true qng3_)
      have qg223 : ((x7_1 : Int) < 12) = True := eq_true q223
      obtain ⟨ad223, e223, hx223_0⟩ := Kd.at_string HRg0.out x7_1 p223 q223
      obtain rfl : (⟨0, 0, none⟩ : Addr) = ad223 := (by injection e223)
      (first | simp only [add_plain] at hx223_0 | simp only [add_at] at hx223_0 | simp only [Addr.add, Nat.zero_add] at hx223_0 | skip)
      replace p223 := eq_true p223
      replace q223 := eq_true q223
      go_wp2_with (first | ((with_reducible refine gate_callee (f := 35) rfl ?_); refine goesL_ (some 15) rfl rfl Tryd.func35 (by kernel_rfl) rfl #[.string a0, .int .i64 t222, .string (rdOf ByteArray.empty G_months x7_1)] rfl qng0_ ?_; (with_reducible refine (numeral_begins.calls k1 a0 t222 (rdOf ByteArray.empty G_months x7_1) false _ A5.out).mono ?_); rintro e w' ⟨rfl, ⟨nd, rfl⟩⟩; refine ⟨_, rfl, ?_⟩))
      go_roundg k1
      case measure => have := HK1.out; omega
      case rel => exact ⟨(wrap64 (x7_1 + 1)), qng2_, H', ⟨by have := HK1.out; omega⟩, qng4_⟩
    ·
     rw [if_neg c4] at H
     exact absurd H (by simp)
   ·
    rw [if_neg c3] at H
    have c3b0 : decide (x7_1 < 12) = false := decide_eq_false c3
    clear c3
    obtain rfl := Option.some.inj H
    go_wp2
    go_ret
    exact ⟨qng2_, qng4_⟩


/-! ### cmp_isNaN_int: function 73 -/
def cmp_isNaN_int.f (a0 : Int) : Option (Bool) := some (a0 != a0)
set_option maxHeartbeats 8000000 in
set_option maxRecDepth 100000 in
theorem cmp_isNaN_int.calls (a0 : Int) (r : Bool) (w : World) (h : cmp_isNaN_int.f a0 = some r) :
  Calls Tryd.prog 73 #[.int .i64 a0] w fun e w' => e = .returned (.bool r) ∧ Drawn0 w w' := by
 have H : (some (a0 != a0)) = some r := h
 clear h
 obtain rfl := Option.some.inj H
 go_enter Tryd.func73, Tryd.ntmps73
 go_wp2
 go_ret
 exact ⟨qng2_, qng4_⟩


/-! ### cmp_Compare_int: function 51 -/
def cmp_Compare_int.f (a0 : Int) (a1 : Int) : Option (Int) := (cmp_isNaN_int.f a0).bind fun t228 => ((cmp_isNaN_int.f a1).bind fun t229 => (if t228 = true then (if t229 = true then (some 0) else (some (-1))) else (if t229 = true then (some 1) else (if a0 < a1 then (some (-1)) else (if a0 > a1 then (some 1) else (some 0))))))
set_option maxHeartbeats 8000000 in
set_option maxRecDepth 100000 in
theorem cmp_Compare_int.calls (a0 : Int) (a1 : Int) (r : Int) (w : World) (h : cmp_Compare_int.f a0 a1 = some r) :
  Calls Tryd.prog 51 #[.int .i64 a0, .int .i64 a1] w fun e w' => e = .returned (.int .i64 r) ∧ Drawn0 w w' := by
 have H : ((cmp_isNaN_int.f a0).bind fun t228 => ((cmp_isNaN_int.f a1).bind fun t229 => (if t228 = true then (if t229 = true then (some 0) else (some (-1))) else (if t229 = true then (some 1) else (if a0 < a1 then (some (-1)) else (if a0 > a1 then (some 1) else (some 0))))))) = some r := h
 clear h
 replace H := Option.bind_eq_some_iff.mp H
 obtain ⟨t228, A30, H⟩ := H
 replace H : ((cmp_isNaN_int.f a1).bind fun t229 => (if t228 = true then (if t229 = true then (some 0) else (some (-1))) else (if t229 = true then (some 1) else (if a0 < a1 then (some (-1)) else (if a0 > a1 then (some 1) else (some 0)))))) = some r := H
 have A3 := Aside0.mk A30
 clear A30
 replace H := Option.bind_eq_some_iff.mp H
 obtain ⟨t229, A40, H⟩ := H
 replace H : (if t228 = true then (if t229 = true then (some 0) else (some (-1))) else (if t229 = true then (some 1) else (if a0 < a1 then (some (-1)) else (if a0 > a1 then (some 1) else (some 0))))) = some r := H
 have A4 := Aside0.mk A40
 clear A40
 by_cases c5 : t228 = true
 ·
  subst c5
  have H1 : (if t229 = true then (some 0) else (some (-1))) = some r := by rw [if_pos rfl] at H; exact H
  clear H
  have H := H1
  clear H1
  by_cases c6 : t229 = true
  ·
   subst c6
   have H1 : (some 0) = some r := by rw [if_pos rfl] at H; exact H
   clear H
   have H := H1
   clear H1
   obtain rfl := Option.some.inj H
   go_enter Tryd.func51, Tryd.ntmps51
   have tk7 : True := trivial; have tk8 : True := trivial
   go_wp2_with (first | (have ztk7 := tk7; clear tk7 ztk7; (with_reducible refine gate_callee (f := 73) rfl ?_); refine goesL_ (some 8) rfl rfl Tryd.func73 (by kernel_rfl) rfl #[.int .i64 a0] rfl qng0_ ?_; (with_reducible refine (cmp_isNaN_int.calls a0 true _ A3.out).mono ?_); rintro e w' ⟨rfl, ⟨nd, rfl⟩⟩; refine ⟨_, rfl, ?_⟩) | (have ztk8 := tk8; clear tk8 ztk8; (with_reducible refine gate_callee (f := 73) rfl ?_); refine goesL_ (some 10) rfl rfl Tryd.func73 (by kernel_rfl) rfl #[.int .i64 a1] rfl qng0_ ?_; (with_reducible refine (cmp_isNaN_int.calls a1 true _ A4.out).mono ?_); rintro e w' ⟨rfl, ⟨nd, rfl⟩⟩; refine ⟨_, rfl, ?_⟩))
   go_ret
   exact ⟨qng2_, qng4_⟩
  ·
   replace c6 := Bool.eq_false_iff.mpr c6
   subst c6
   have H1 : (some (-1)) = some r := by rw [if_neg (show ¬ (false = true) by decide)] at H; exact H
   clear H
   have H := H1
   clear H1
   obtain rfl := Option.some.inj H
   go_enter Tryd.func51, Tryd.ntmps51
   have tk9 : True := trivial; have tk10 : True := trivial
   go_wp2_with (first | (have ztk9 := tk9; clear tk9 ztk9; (with_reducible refine gate_callee (f := 73) rfl ?_); refine goesL_ (some 8) rfl rfl Tryd.func73 (by kernel_rfl) rfl #[.int .i64 a0] rfl qng0_ ?_; (with_reducible refine (cmp_isNaN_int.calls a0 true _ A3.out).mono ?_); rintro e w' ⟨rfl, ⟨nd, rfl⟩⟩; refine ⟨_, rfl, ?_⟩) | (have ztk10 := tk10; clear tk10 ztk10; (with_reducible refine gate_callee (f := 73) rfl ?_); refine goesL_ (some 10) rfl rfl Tryd.func73 (by kernel_rfl) rfl #[.int .i64 a1] rfl qng0_ ?_; (with_reducible refine (cmp_isNaN_int.calls a1 false _ A4.out).mono ?_); rintro e w' ⟨rfl, ⟨nd, rfl⟩⟩; refine ⟨_, rfl, ?_⟩))
   go_ret
   exact ⟨qng2_, qng4_⟩
 ·
  replace c5 := Bool.eq_false_iff.mpr c5
  subst c5
  have H1 : (if t229 = true then (some 1) else (if a0 < a1 then (some (-1)) else (if a0 > a1 then (some 1) else (some 0)))) = some r := by rw [if_neg (show ¬ (false = true) by decide)] at H; exact H
  clear H
  have H := H1
  clear H1
  by_cases c11 : t229 = true
  ·
   subst c11
   have H1 : (some 1) = some r := by rw [if_pos rfl] at H; exact H
   clear H
   have H := H1
   clear H1
   obtain rfl := Option.some.inj H
   go_enter Tryd.func51, Tryd.ntmps51
   have tk12 : True := trivial; have tk13 : True := trivial
   go_wp2_with (first | (have ztk12 := tk12; clear tk12 ztk12; (with_reducible refine gate_callee (f := 73) rfl ?_); refine goesL_ (some 8) rfl rfl Tryd.func73 (by kernel_rfl) rfl #[.int .i64 a0] rfl qng0_ ?_; (with_reducible refine (cmp_isNaN_int.calls a0 false _ A3.out).mono ?_); rintro e w' ⟨rfl, ⟨nd, rfl⟩⟩; refine ⟨_, rfl, ?_⟩) | (have ztk13 := tk13; clear tk13 ztk13; (with_reducible refine gate_callee (f := 73) rfl ?_); refine goesL_ (some 10) rfl rfl Tryd.func73 (by kernel_rfl) rfl #[.int .i64 a1] rfl qng0_ ?_; (with_reducible refine (cmp_isNaN_int.calls a1 true _ A4.out).mono ?_); rintro e w' ⟨rfl, ⟨nd, rfl⟩⟩; refine ⟨_, rfl, ?_⟩))
   go_ret
   exact ⟨qng2_, qng4_⟩
  ·
   replace c11 := Bool.eq_false_iff.mpr c11
   subst c11
   have H1 : (if a0 < a1 then (some (-1)) else (if a0 > a1 then (some 1) else (some 0))) = some r := by rw [if_neg (show ¬ (false = true) by decide)] at H; exact H
   clear H
   have H := H1
   clear H1
   by_cases c14 : a0 < a1
   ·
    rw [if_pos c14] at H
    have c14b0 : decide (a0 < a1) = true := decide_eq_true c14
    clear c14
    obtain rfl := Option.some.inj H
    go_enter Tryd.func51, Tryd.ntmps51
    have tk15 : True := trivial; have tk16 : True := trivial
    go_wp2_with (first | (have ztk15 := tk15; clear tk15 ztk15; (with_reducible refine gate_callee (f := 73) rfl ?_); refine goesL_ (some 8) rfl rfl Tryd.func73 (by kernel_rfl) rfl #[.int .i64 a0] rfl qng0_ ?_; (with_reducible refine (cmp_isNaN_int.calls a0 false _ A3.out).mono ?_); rintro e w' ⟨rfl, ⟨nd, rfl⟩⟩; refine ⟨_, rfl, ?_⟩) | (have ztk16 := tk16; clear tk16 ztk16; (with_reducible refine gate_callee (f := 73) rfl ?_); refine goesL_ (some 10) rfl rfl Tryd.func73 (by kernel_rfl) rfl #[.int .i64 a1] rfl qng0_ ?_; (with_reducible refine (cmp_isNaN_int.calls a1 false _ A4.out).mono ?_); rintro e w' ⟨rfl, ⟨nd, rfl⟩⟩; refine ⟨_, rfl, ?_⟩))
    go_ret
    exact ⟨qng2_, qng4_⟩
   ·
    rw [if_neg c14] at H
    have c14b0 : decide (a0 < a1) = false := decide_eq_false c14
    clear c14
    by_cases c17 : a0 > a1
    ·
     rw [if_pos c17] at H
     have c17b0 : decide (a1 < a0) = true := decide_eq_true c17
     clear c17
     obtain rfl := Option.some.inj H
     go_enter Tryd.func51, Tryd.ntmps51
     have tk18 : True := trivial; have tk19 : True := trivial
     go_wp2_with (first | (have ztk18 := tk18; clear tk18 ztk18; (with_reducible refine gate_callee (f := 73) rfl ?_); refine goesL_ (some 8) rfl rfl Tryd.func73 (by kernel_rfl) rfl #[.int .i64 a0] rfl qng0_ ?_; (with_reducible refine (cmp_isNaN_int.calls a0 false _ A3.out).mono ?_); rintro e w' ⟨rfl, ⟨nd, rfl⟩⟩; refine ⟨_, rfl, ?_⟩) | (have ztk19 := tk19; clear tk19 ztk19; (with_reducible refine gate_callee (f := 73) rfl ?_); refine goesL_ (some 10) rfl rfl Tryd.func73 (by kernel_rfl) rfl #[.int .i64 a1] rfl qng0_ ?_; (with_reducible refine (cmp_isNaN_int.calls a1 false _ A4.out).mono ?_); rintro e w' ⟨rfl, ⟨nd, rfl⟩⟩; refine ⟨_, rfl, ?_⟩))
     go_ret
     exact ⟨qng2_, qng4_⟩
    ·
     rw [if_neg c17] at H
     have c17b0 : decide (a1 < a0) = false := decide_eq_false c17
     clear c17
     obtain rfl := Option.some.inj H
     go_enter Tryd.func51, Tryd.ntmps51
     have tk20 : True := trivial; have tk21 : True := trivial
     go_wp2_with (first | (have ztk20 := tk20; clear tk20 ztk20; (with_reducible refine gate_callee (f := 73) rfl ?_); refine goesL_ (some 8) rfl rfl Tryd.func73 (by kernel_rfl) rfl #[.int .i64 a0] rfl qng0_ ?_; (with_reducible refine (cmp_isNaN_int.calls a0 false _ A3.out).mono ?_); rintro e w' ⟨rfl, ⟨nd, rfl⟩⟩; refine ⟨_, rfl, ?_⟩) | (have ztk21 := tk21; clear tk21 ztk21; (with_reducible refine gate_callee (f := 73) rfl ?_); refine goesL_ (some 10) rfl rfl Tryd.func73 (by kernel_rfl) rfl #[.int .i64 a1] rfl qng0_ ?_; (with_reducible refine (cmp_isNaN_int.calls a1 false _ A4.out).mono ?_); rintro e w' ⟨rfl, ⟨nd, rfl⟩⟩; refine ⟨_, rfl, ?_⟩))
     go_ret
     exact ⟨qng2_, qng4_⟩


/-! ### bytealg_CompareString: function 78 (by hand) -/
def bytealg_CompareString.f (a0 : ByteArray) (a1 : ByteArray) : Option (Int) := some (Lib.compareBytes a0.data.toList a1.data.toList)
set_option maxHeartbeats 1000000 in
set_option maxRecDepth 100000 in
theorem bytealg_CompareString.calls (a0 : ByteArray) (a1 : ByteArray) (r : Int) (w : World) (h : bytealg_CompareString.f a0 a1 = some r) :
    Calls Tryd.prog 78 #[.string a0, .string a1] w fun e w' => e = .returned (.int .i64 r) ∧ Drawn0 w w' := by
  obtain rfl := Option.some.inj h
  clear h
  go_enter Tryd.func78, Tryd.ntmps78
  go_wp2
  rw [run_callFunc_extern Tryd.func98 (by kernel_rfl) (by kernel_rfl) (by kernel_rfl) (e := Extern.BytealgCompare.compare) (by kernel_rfl), Lib.run_compareString]
  simp only [Result.andThen]
  rw [Oper.upon_value]
  go_wp2
  go_ret
  exact ⟨rfl, Drawn0.refl _⟩


/-! ### strings_Compare: function 55 -/
def strings_Compare.f (a0 : ByteArray) (a1 : ByteArray) : Option (Int) := (bytealg_CompareString.f a0 a1).bind fun t230 => (some t230)
set_option maxHeartbeats 8000000 in
set_option maxRecDepth 100000 in
theorem strings_Compare.calls (a0 : ByteArray) (a1 : ByteArray) (r : Int) (w : World) (h : strings_Compare.f a0 a1 = some r) :
  Calls Tryd.prog 55 #[.string a0, .string a1] w fun e w' => e = .returned (.int .i64 r) ∧ Drawn0 w w' := by
 have H : ((bytealg_CompareString.f a0 a1).bind fun t230 => (some t230)) = some r := h
 clear h
 replace H := Option.bind_eq_some_iff.mp H
 obtain ⟨t230, A30, H⟩ := H
 replace H : (some t230) = some r := H
 have A3 := Aside0.mk A30
 clear A30
 obtain rfl := Option.some.inj H
 go_enter Tryd.func55, Tryd.ntmps55
 go_wp2_with (first | ((with_reducible refine gate_callee (f := 78) rfl ?_); refine goesL_ (some 7) rfl rfl Tryd.func78 (by kernel_rfl) rfl #[.string a0, .string a1] rfl qng0_ ?_; (with_reducible refine (bytealg_CompareString.calls a0 a1 t230 _ A3.out).mono ?_); rintro e w' ⟨rfl, ⟨nd, rfl⟩⟩; refine ⟨_, rfl, ?_⟩))
 go_ret
 exact ⟨qng2_, qng4_⟩


/-! ### cmp_Or_int: function 72 -/
def cmp_Or_int.l0 : Nat → Int → List Int → Int → Int → Option (Int)
 | 0, _, _, _, _ => none
 | k + 1, x3, x6, x7, x8 => if x8 < x7 then (if 0 ≤ x8 then (if x8 < (x6.length : Int) then (if (rd x6 x8) = x3 then (cmp_Or_int.l0 k x3 x6 x7 (wrap64 (x8 + 1))) else (some (rd x6 x8))) else (none)) else (none)) else (some x3)
def cmp_Or_int.f (k : Nat) (l0 : List Int) : Option (Int) := cmp_Or_int.l0 k 0 l0 (l0.length : Int) 0
set_option maxHeartbeats 8000000 in
set_option maxRecDepth 100000 in
theorem cmp_Or_int.calls (k : Nat) (A0 : Option Addr) (c0 : Nat) (l0 : List Int) (r : Int) (w : World) (hr0 : Kd.C (Kd.int .i64) w A0 l0.length l0) (hc0 : l0.length ≤ c0) (h : cmp_Or_int.f k l0 = some r) :
  Calls Tryd.prog 72 #[.slice A0 l0.length c0] w fun e w' => e = .returned (.int .i64 r) ∧ Drawn0 w w' := by
 have HR0 := Aside0.mk hr0
 have HC0 := Aside0.mk hc0
 clear hr0 hc0
 have H : (cmp_Or_int.l0 k 0 l0 (l0.length : Int) 0) = some r := h
 clear h
 have H' := Aside0.mk H
 clear H
 go_enter Tryd.func72, Tryd.ntmps72
 go_wp2
 go_loopg [8] k (fun kq v8 w' => ∃ (x8_1 : Int), v8 = .int .i64 x8_1 ∧ Aside0 (cmp_Or_int.l0 kq 0 l0 (l0.length : Int) x8_1 = some r) ∧ Aside0 (kq ≤ k) ∧ Drawn0 w w')
 case atStart => exact ⟨(0), qng2_, H', ⟨Nat.le_refl _⟩, qng4_⟩
 case round =>
  clear H'
  obtain ⟨x8_1, rfl, HA, HK1, ⟨m1, rfl⟩⟩ := hrel
  cases gk with
  | zero => exact absurd HA.out (by simp [cmp_Or_int.l0])
  | succ k1 =>
   have H := HA.out
   clear HA
   simp only [cmp_Or_int.l0] at H
   by_cases c2 : x8_1 < (l0.length : Int)
   ·
    rw [if_pos c2] at H
    have c2b0 : decide (x8_1 < (l0.length : Int)) = true := decide_eq_true c2
    clear c2
    by_cases c3 : 0 ≤ x8_1
    ·
     rw [if_pos c3] at H
     have c3b0 : decide (0 ≤ x8_1) = true := decide_eq_true c3
     clear c3
     by_cases c4 : x8_1 < (l0.length : Int)
     ·
      rw [if_pos c4] at H
      have c4b0 : decide (x8_1 < (l0.length : Int)) = true := decide_eq_true c4
      clear c4
      by_cases c5 : (rd l0 x8_1) = 0
      ·
       rw [if_pos c5] at H
       have c5b0 : ((rd l0 x8_1) == 0) = true := beq_iff_eq.mpr c5
       have c5b1 : ((rd l0 x8_1) != 0) = false := bne_eq_false_iff_eq.mpr c5
       clear c5
       have H' := Aside0.mk H
       clear H
       have p231 : 0 ≤ (x8_1 : Int) := of_decide_eq_true qng3_
       have q231 : x8_1 < (l0.length : Int) := of_decide_eq_true qng3_
       obtain ⟨ad231, e231, hx231_0⟩ := Kd.at_int HR0.out x8_1 p231 q231
       cases e231
       replace p231 := eq_true p231
       replace q231 := eq_true q231
       go_wp2
       go_roundg k1
       case measure => have := HK1.out; omega
       case rel => exact ⟨(wrap64 (x8_1 + 1)), qng2_, H', ⟨by have := HK1.out; omega⟩, qng4_⟩
      ·
       rw [if_neg c5] at H
       have c5b0 : ((rd l0 x8_1) == 0) = false := beq_eq_false_iff_ne.mpr c5
       have c5b1 : ((rd l0 x8_1) != 0) = true := bne_iff_ne.mpr c5
       obtain rfl := Option.some.inj H
       have p231 : 0 ≤ (x8_1 : Int) := of_decide_eq_true qng3_
       have q231 : x8_1 < (l0.length : Int) := of_decide_eq_true qng3_
       obtain ⟨ad231, e231, hx231_0⟩ := Kd.at_int HR0.out x8_1 p231 q231
       cases e231
       replace p231 := eq_true p231
       replace q231 := eq_true q231
       go_wp2
       go_ret
       exact ⟨qng2_, qng4_⟩
     ·
      rw [if_neg c4] at H
      exact absurd H (by simp)
    ·
     rw [if_neg c3] at H
     exact absurd H (by simp)
   ·
    rw [if_neg c2] at H
    have c2b0 : decide (x8_1 < (l0.length : Int)) = false := decide_eq_false c2
    clear c2
    obtain rfl := Option.some.inj H
    go_wp2
    go_ret
    exact ⟨qng2_, qng4_⟩


/-! ### numeral_order: function 49 -/
def numeral_order.j0 : Nat → Bool → Int → Int → Int → ByteArray → Int → Int → Int → ByteArray → Option (Int)
 | 0, _, _, _, _, _, _, _, _, _ => none
 | k + 1, x14, x233000, x233001, x233002, x233003, x234000, x234001, x234002, x234003 => if x14 = true then ((cmp_Compare_int.f x233000 x234000).bind fun t234 => (some t234)) else ((cmp_Compare_int.f x233001 x234001).bind fun t235 => ((cmp_Compare_int.f x233002 x234002).bind fun t236 => ((strings_Compare.f x233003 x234003).bind fun t237 => ((cmp_Or_int.f k (([t235, t236, t237] : List Int))).bind fun t241 => (some (wrap64 (x233000 * t241)))))))
def numeral_order.f (k : Nat) (a0_0 : Int) (a0_1 : Int) (a0_2 : Int) (a0_3 : ByteArray) (a1_0 : Int) (a1_1 : Int) (a1_2 : Int) (a1_3 : ByteArray) : Option (Int) := if a0_0 = a1_0 then (numeral_order.j0 k (a0_0 == 0) a0_0 a0_1 a0_2 a0_3 a1_0 a1_1 a1_2 a1_3) else (numeral_order.j0 k true a0_0 a0_1 a0_2 a0_3 a1_0 a1_1 a1_2 a1_3)
def numeral_order.T3 : Bool × List (List Nat × List Nat) := (true, [([], []), ([0], [0]), ([], []), ([2], [2]), ([], []), ([4], [4]), ([3, 5], [3, 5]), ([], []), ([7], [7]), ([], []), ([9], [9]), ([8, 10, 6], [8, 10]), ([], []), ([12], [12]), ([], []), ([14], [14]), ([13, 15, 11], [13, 15]), ([6, 11, 16], [6, 11, 16]), ([17, 16], [17]), ([1, 18], [1, 18]), ([19, 18, 0, 1, 2, 3, 4, 5, 6, 7, 8, 9, 10, 11, 12, 13, 14, 15, 16, 17, 18, 19], [19])])
def numeral_order.B3 : List Nat := [0, 1, 0, 4, 0, 16, 60, 0, 128, 0, 512, 2044, 0, 4096, 0, 16384, 65532, 131068, 262140, 524287, 1048575]
theorem numeral_order.tab3 : rtab .any (opsOf Tryd.f49 3) = numeral_order.T3 := by kernel_rfl
theorem numeral_order.bits3 : waitsOk numeral_order.T3.2 numeral_order.B3 = true := by kernel_rfl
set_option maxHeartbeats 8000000 in
set_option maxRecDepth 100000 in
theorem numeral_order.calls (k : Nat) (a0_0 : Int) (a0_1 : Int) (a0_2 : Int) (a0_3 : ByteArray) (a1_0 : Int) (a1_1 : Int) (a1_2 : Int) (a1_3 : ByteArray) (r : Int) (w : World) (h : numeral_order.f k a0_0 a0_1 a0_2 a0_3 a1_0 a1_1 a1_2 a1_3 = some r) :
  Calls Tryd.prog 49 #[.agg #[.int .i64 a0_0, .int .i64 a0_1, .int .i64 a0_2, .string a0_3], .agg #[.int .i64 a1_0, .int .i64 a1_1, .int .i64 a1_2, .string a1_3]] w fun e w' => e = .returned (.int .i64 r) ∧ Below w.heap.size w w' := by
 have hu77 := Tryd.underlying77
 have HB := Aside0.mk (Below.refl w.heap.size w)
 have H : (if a0_0 = a1_0 then (numeral_order.j0 k (a0_0 == 0) a0_0 a0_1 a0_2 a0_3 a1_0 a1_1 a1_2 a1_3) else (numeral_order.j0 k true a0_0 a0_1 a0_2 a0_3 a1_0 a1_1 a1_2 a1_3)) = some r := h
 clear h
 have HC3 := Aside0.mk H
 clear H
 go_enter Tryd.func49, Tryd.ntmps49
 have tk6 : True := trivial; have tk7 : True := trivial
 go_upto_region 1 with (first | (have ztk6 := tk6; clear tk6 ztk6; (with_reducible refine gate_dst (N := 2) rfl ?_); refine box_event ?hg (N := 2) ?hd (cs := #[.int .i64 a0_0, .int .i64 a0_1, .int .i64 a0_2, .string a0_3]) (t := 77) ?hr ?_; (case hd => rfl); (case hg => rfl); (case hr => first | (go_simp; done) | (go_simp; rfl)); intro gb232 hg w4 hbox hb; have n0_ := Aside0.mk (below_step qng1_ hb); have n1_ := Aside0.mk (hbox); have n2_ := Aside0.mk ((by rw [hg]; exact (below_size qng1_) : w.heap.size ≤ gb232)); have n3_ := Aside0.mk ((by rw [hg]; exact (below_size qng1_) : w.heap.size ≤ gb232)); clear HB; have HB := n0_; have BK232 := n1_; have GW232 := n2_; have GE232 := n3_; clear n0_ n1_ n2_ n3_; clear hb hbox hg) | (have ztk7 := tk7; clear tk7 ztk7; (with_reducible refine gate_dst (N := 3) rfl ?_); refine box_event ?hg (N := 3) ?hd (cs := #[.int .i64 a1_0, .int .i64 a1_1, .int .i64 a1_2, .string a1_3]) (t := 77) ?hr ?_; (case hd => rfl); (case hg => rfl); (case hr => first | (go_simp; done) | (go_simp; rfl)); intro gb233 hg w5 hbox hb; have n0_ := Aside0.mk (blk_below (g := gb232) (o := .cells #[.int .i64 a0_0, .int .i64 a0_1, .int .i64 a0_2, .string a0_3] 77 (0, 0)) qng54_ hb); have n1_ := Aside0.mk (below_step qng70_ hb); have n2_ := Aside0.mk (hbox); have n3_ := Aside0.mk ((by rw [hg]; exact (below_size qng70_) : w.heap.size ≤ gb233)); have n4_ := Aside0.mk ((by rw [hg]; exact (below_size qng70_) : w.heap.size ≤ gb233)); have n5_ := Aside0.mk ((by rw [hg]; exact Nat.ne_of_lt (blk_lt (g := gb232) (o := .cells #[.int .i64 a0_0, .int .i64 a0_1, .int .i64 a0_2, .string a0_3] 77 (0, 0)) qng54_) : gb232 ≠ gb233)); have n6_ := Aside0.mk ((by rw [hg]; exact Nat.ne_of_gt (blk_lt (g := gb232) (o := .cells #[.int .i64 a0_0, .int .i64 a0_1, .int .i64 a0_2, .string a0_3] 77 (0, 0)) qng54_) : gb233 ≠ gb232)); clear BK232; clear HB; have BK232 := n0_; have HB := n1_; have BK233 := n2_; have GW233 := n3_; have GE233 := n4_; have NB232_233 := n5_; have NB233_232 := n6_; clear n0_ n1_ n2_ n3_ n4_ n5_ n6_; clear hb hbox hg))
 (try simp only [Act.put, List.setIfInBounds_toArray, List.set_cons_zero, List.set_cons_succ])
 go_cut [14] (fun v14 wc => ∃ (kq : Nat) (x14_2 : Bool), v14 = .bool x14_2 ∧ Aside0 (numeral_order.j0 kq x14_2 a0_0 a0_1 a0_2 a0_3 a1_0 a1_1 a1_2 a1_3 = some r) ∧ Aside0 (kq ≤ k) ∧ Aside0 (wc.heap[gb232]? = some (.cells #[.int .i64 a0_0, .int .i64 a0_1, .int .i64 a0_2, .string a0_3] 77 (0, 0))) ∧ Aside0 (wc.heap[gb233]? = some (.cells #[.int .i64 a1_0, .int .i64 a1_1, .int .i64 a1_2, .string a1_3] 77 (0, 0))) ∧ Aside0 (Below w.heap.size w wc))
 case first =>
  have H := HC3.out
  clear HC3
  by_cases c8 : a0_0 = a1_0
  ·
   rw [if_pos c8] at H
   have c8b0 : (a0_0 == a1_0) = true := beq_iff_eq.mpr c8
   have c8b1 : (a0_0 != a1_0) = false := bne_eq_false_iff_eq.mpr c8
   clear c8
   (first | rw [c8b0] | (simp only [i64_w, i32_w]; rw [c8b0]) | skip)
   have H' := Aside0.mk H
   clear H
   have hnb9 := NB232_233.out
   have hnc9 := NB233_232.out
   have hcz10_0 : w5.cell? ⟨gb232, 0, none⟩ = some (.int .i64 a0_0) := (blk_cell BK232.out 0).trans rfl
   have hcz10_1 : w5.cell? ⟨gb232, 1, none⟩ = some (.int .i64 a0_1) := (blk_cell BK232.out 1).trans rfl
   have hcz10_2 : w5.cell? ⟨gb232, 2, none⟩ = some (.int .i64 a0_2) := (blk_cell BK232.out 2).trans rfl
   have hcz10_3 : w5.cell? ⟨gb232, 3, none⟩ = some (.string a0_3) := (blk_cell BK232.out 3).trans rfl
   have hfz10_0 := blk_frozen BK232.out 0
   have hfz10_1 := blk_frozen BK232.out 1
   have hfz10_2 := blk_frozen BK232.out 2
   have hfz10_3 := blk_frozen BK232.out 3
   have hcz11_0 : w5.cell? ⟨gb233, 0, none⟩ = some (.int .i64 a1_0) := (blk_cell BK233.out 0).trans rfl
   have hcz11_1 : w5.cell? ⟨gb233, 1, none⟩ = some (.int .i64 a1_1) := (blk_cell BK233.out 1).trans rfl
   have hcz11_2 : w5.cell? ⟨gb233, 2, none⟩ = some (.int .i64 a1_2) := (blk_cell BK233.out 2).trans rfl
   have hcz11_3 : w5.cell? ⟨gb233, 3, none⟩ = some (.string a1_3) := (blk_cell BK233.out 3).trans rfl
   have hfz11_0 := blk_frozen BK233.out 0
   have hfz11_1 := blk_frozen BK233.out 1
   have hfz11_2 := blk_frozen BK233.out 2
   have hfz11_3 := blk_frozen BK233.out 3
   go_wp2
   go_meet
   case rel => exact ⟨_, ((a0_0 == 0)), qng2_, H', ⟨by first | omega | exact Nat.le_refl _⟩, ⟨qng54_⟩, ⟨qng73_⟩, ⟨qng45_⟩⟩
  ·
   rw [if_neg c8] at H
   have c8b0 : (a0_0 == a1_0) = false := beq_eq_false_iff_ne.mpr c8
   have c8b1 : (a0_0 != a1_0) = true := bne_iff_ne.mpr c8
   (first | rw [c8b0] | (simp only [i64_w, i32_w]; rw [c8b0]) | skip)
   have H' := Aside0.mk H
   clear H
   have hnb12 := NB232_233.out
   have hnc12 := NB233_232.out
   have hcz13_0 : w5.cell? ⟨gb232, 0, none⟩ = some (.int .i64 a0_0) := (blk_cell BK232.out 0).trans rfl
   have hcz13_1 : w5.cell? ⟨gb232, 1, none⟩ = some (.int .i64 a0_1) := (blk_cell BK232.out 1).trans rfl
   have hcz13_2 : w5.cell? ⟨gb232, 2, none⟩ = some (.int .i64 a0_2) := (blk_cell BK232.out 2).trans rfl
   have hcz13_3 : w5.cell? ⟨gb232, 3, none⟩ = some (.string a0_3) := (blk_cell BK232.out 3).trans rfl
   have hfz13_0 := blk_frozen BK232.out 0
   have hfz13_1 := blk_frozen BK232.out 1
   have hfz13_2 := blk_frozen BK232.out 2
   have hfz13_3 := blk_frozen BK232.out 3
   have hcz14_0 : w5.cell? ⟨gb233, 0, none⟩ = some (.int .i64 a1_0) := (blk_cell BK233.out 0).trans rfl
   have hcz14_1 : w5.cell? ⟨gb233, 1, none⟩ = some (.int .i64 a1_1) := (blk_cell BK233.out 1).trans rfl
   have hcz14_2 : w5.cell? ⟨gb233, 2, none⟩ = some (.int .i64 a1_2) := (blk_cell BK233.out 2).trans rfl
   have hcz14_3 : w5.cell? ⟨gb233, 3, none⟩ = some (.string a1_3) := (blk_cell BK233.out 3).trans rfl
   have hfz14_0 := blk_frozen BK233.out 0
   have hfz14_1 := blk_frozen BK233.out 1
   have hfz14_2 := blk_frozen BK233.out 2
   have hfz14_3 := blk_frozen BK233.out 3
   go_wp2
   go_meet
   case rel => exact ⟨_, (true), qng2_, H', ⟨by first | omega | exact Nat.le_refl _⟩, ⟨qng54_⟩, ⟨qng73_⟩, ⟨qng45_⟩⟩
 case rest =>
  clear HC3
  (try clear c1); (try clear p2); (try clear c4); (try clear c8); (try clear c8b0); (try clear c8b1); (try clear c9); (try clear c12); (try clear hcz10_0); (try clear hcz10_1); (try clear hcz10_2); (try clear hcz10_3); (try clear hcz11_0); (try clear hcz11_1); (try clear hcz11_2); (try clear hcz11_3); (try clear hcz13_0); (try clear hcz13_1); (try clear hcz13_2); (try clear hcz13_3); (try clear hcz14_0)
  (try clear hcz14_1); (try clear hcz14_2); (try clear hcz14_3); (try clear hfz10_0); (try clear hfz10_1); (try clear hfz10_2); (try clear hfz10_3); (try clear hfz11_0); (try clear hfz11_1); (try clear hfz11_2); (try clear hfz11_3); (try clear hfz13_0); (try clear hfz13_1); (try clear hfz13_2); (try clear hfz13_3); (try clear hfz14_0); (try clear hfz14_1); (try clear hfz14_2); (try clear hfz14_3)
  obtain ⟨kq, x14_2, rfl, HA, HJ2, BK232, BK233, HB⟩ := hcut
  cases kq with
  | zero => exact absurd HA.out (by simp [numeral_order.j0])
  | succ kj2 =>
   have H := HA.out
   clear HA
   simp only [numeral_order.j0] at H
   by_cases c15 : x14_2 = true
   ·
    subst c15
    have H1 : ((cmp_Compare_int.f a0_0 a1_0).bind fun t234 => (some t234)) = some r := by rw [if_pos rfl] at H; exact H
    clear H
    have H := H1
    clear H1
    replace H := Option.bind_eq_some_iff.mp H
    obtain ⟨t234, A160, H⟩ := H
    replace H : (some t234) = some r := H
    have A16 := Aside0.mk A160
    clear A160
    obtain rfl := Option.some.inj H
    have hnb17 := NB232_233.out
    have hnc17 := NB233_232.out
    have hcz18_0 : wc.cell? ⟨gb232, 0, none⟩ = some (.int .i64 a0_0) := (blk_cell BK232.out 0).trans rfl
    have hcz18_1 : wc.cell? ⟨gb232, 1, none⟩ = some (.int .i64 a0_1) := (blk_cell BK232.out 1).trans rfl
    have hcz18_2 : wc.cell? ⟨gb232, 2, none⟩ = some (.int .i64 a0_2) := (blk_cell BK232.out 2).trans rfl
    have hcz18_3 : wc.cell? ⟨gb232, 3, none⟩ = some (.string a0_3) := (blk_cell BK232.out 3).trans rfl
    have hfz18_0 := blk_frozen BK232.out 0
    have hfz18_1 := blk_frozen BK232.out 1
    have hfz18_2 := blk_frozen BK232.out 2
    have hfz18_3 := blk_frozen BK232.out 3
    have hcz19_0 : wc.cell? ⟨gb233, 0, none⟩ = some (.int .i64 a1_0) := (blk_cell BK233.out 0).trans rfl
    have hcz19_1 : wc.cell? ⟨gb233, 1, none⟩ = some (.int .i64 a1_1) := (blk_cell BK233.out 1).trans rfl
    have hcz19_2 : wc.cell? ⟨gb233, 2, none⟩ = some (.int .i64 a1_2) := (blk_cell BK233.out 2).trans rfl
    have hcz19_3 : wc.cell? ⟨gb233, 3, none⟩ = some (.string a1_3) := (blk_cell BK233.out 3).trans rfl
    have hfz19_0 := blk_frozen BK233.out 0
    have hfz19_1 := blk_frozen BK233.out 1
    have hfz19_2 := blk_frozen BK233.out 2
    have hfz19_3 := blk_frozen BK233.out 3
    go_wp2_with (first | ((with_reducible refine gate_callee (f := 51) rfl ?_); refine goesL_ (some 19) rfl rfl Tryd.func51 (by kernel_rfl) rfl #[.int .i64 a0_0, .int .i64 a1_0] rfl qng0_ ?_; (with_reducible refine (cmp_Compare_int.calls a0_0 a1_0 t234 _ A16.out).mono ?_); rintro e w' ⟨rfl, ⟨nd, rfl⟩⟩; refine ⟨_, rfl, ?_⟩))
    go_ret
    exact ⟨qng6_, qng45_⟩
   ·
    replace c15 := Bool.eq_false_iff.mpr c15
    subst c15
    have H1 : ((cmp_Compare_int.f a0_1 a1_1).bind fun t235 => ((cmp_Compare_int.f a0_2 a1_2).bind fun t236 => ((strings_Compare.f a0_3 a1_3).bind fun t237 => ((cmp_Or_int.f kj2 (([t235, t236, t237] : List Int))).bind fun t241 => (some (wrap64 (a0_0 * t241))))))) = some r := by rw [if_neg (show ¬ (false = true) by decide)] at H; exact H
    clear H
    have H := H1
    clear H1
    replace H := Option.bind_eq_some_iff.mp H
    obtain ⟨t235, A200, H⟩ := H
    replace H : ((cmp_Compare_int.f a0_2 a1_2).bind fun t236 => ((strings_Compare.f a0_3 a1_3).bind fun t237 => ((cmp_Or_int.f kj2 (([t235, t236, t237] : List Int))).bind fun t241 => (some (wrap64 (a0_0 * t241)))))) = some r := H
    have A20 := Aside0.mk A200
    clear A200
    replace H := Option.bind_eq_some_iff.mp H
    obtain ⟨t236, A210, H⟩ := H
    replace H : ((strings_Compare.f a0_3 a1_3).bind fun t237 => ((cmp_Or_int.f kj2 (([t235, t236, t237] : List Int))).bind fun t241 => (some (wrap64 (a0_0 * t241))))) = some r := H
    have A21 := Aside0.mk A210
    clear A210
    replace H := Option.bind_eq_some_iff.mp H
    obtain ⟨t237, A220, H⟩ := H
    replace H : ((cmp_Or_int.f kj2 (([t235, t236, t237] : List Int))).bind fun t241 => (some (wrap64 (a0_0 * t241)))) = some r := H
    have A22 := Aside0.mk A220
    clear A220
    obtain ⟨y238, hy238⟩ : ∃ y_ : List Int, y_ = (([t235, t236, t237] : List Int)) := ⟨_, rfl⟩
    replace H : ((cmp_Or_int.f kj2 y238).bind fun t241 => (some (wrap64 (a0_0 * t241)))) = some r := by first | (rw [hy238]; with_reducible exact H) | (have H2_ := (Option.bind_some _ _).symm.trans H; rw [hy238]; with_reducible exact H2_) | (have H2_ := (Option.bind_some _ _).symm.trans H; with_reducible exact H2_) | with_reducible exact H | (rw [hy238]; exact H) | exact H
    have Ny238 := Aside0.mk hy238
    clear hy238
    replace H := Option.bind_eq_some_iff.mp H
    obtain ⟨t241, A230, H⟩ := H
    replace H : (some (wrap64 (a0_0 * t241))) = some r := H
    have A23 := Aside0.mk A230
    clear A230
    obtain rfl := Option.some.inj H
    try go_wp2
    have n0_ := Aside0.mk (blk_drew BK232.out)
    have n1_ := Aside0.mk (blk_drew BK233.out)
    have n2_ := Aside0.mk (below_drew1 HB.out)
    clear BK232
    clear BK233
    clear HB
    have BK232 := n0_
    have BK233 := n1_
    have HB := n2_
    clear n0_ n1_ n2_
    refine start_ (n := 21) (S := fun w' => w'.cell? ⟨gb232, 0, none⟩ = some (.int .i64 a0_0) ∧ w'.cell? ⟨gb232, 1, none⟩ = some (.int .i64 a0_1) ∧ w'.cell? ⟨gb232, 2, none⟩ = some (.int .i64 a0_2) ∧ w'.cell? ⟨gb232, 3, none⟩ = some (.string a0_3) ∧ w'.cell? ⟨gb233, 0, none⟩ = some (.int .i64 a1_0) ∧ w'.cell? ⟨gb233, 1, none⟩ = some (.int .i64 a1_1) ∧ w'.cell? ⟨gb233, 2, none⟩ = some (.int .i64 a1_2) ∧ w'.cell? ⟨gb233, 3, none⟩ = some (.string a1_3)) (ds := []) #[false, false, false, false, false, false, false, false, false, false, false, false, false, false, false, false, false, false, false, false, false] (by kernel_rfl) rfl rfl ⟨(blk_cell BK232.out 0).trans rfl, (blk_cell BK232.out 1).trans rfl, (blk_cell BK232.out 2).trans rfl, (blk_cell BK232.out 3).trans rfl, (blk_cell BK233.out 0).trans rfl, (blk_cell BK233.out 1).trans rfl, (blk_cell BK233.out 2).trans rfl, (blk_cell BK233.out 3).trans rfl⟩ (fun hHeld => ?_); refine with_tabW numeral_order.tab3 numeral_order.bits3 (fun HT_ HW_ => ?_)
    generalize wc.drew = w24 at BK232 BK233 HB hHeld ⊢
    refine pure_ (i := 0) (N := some 20) (v := ?_) (a' := ?_) #[true, false, false, false, false, false, false, false, false, false, false, false, false, false, false, false, false, false, false, false, false] rfl rfl (any_of HT_.out (by kernel_rfl)) (fun _ _ _ h => h) (Or.inl ⟨by rfl, ?_⟩) ?_ ?_
    rotate_left
    ·
     intro w'
     go_simp
     with_reducible rfl
    rotate_left
    ·
     simp only [Act.put, List.setIfInBounds_toArray, List.set_cons_zero, List.set_cons_succ, i64_w, i32_w]
     rfl
    refine pure_ (i := 2) (N := some 22) (v := ?_) (a' := ?_) #[true, false, true, false, false, false, false, false, false, false, false, false, false, false, false, false, false, false, false, false, false] rfl rfl (any_of HT_.out (by kernel_rfl)) (fun _ _ _ h => h) (Or.inl ⟨by rfl, ?_⟩) ?_ ?_
    rotate_left
    ·
     intro w'
     go_simp
     with_reducible rfl
    rotate_left
    ·
     simp only [Act.put, List.setIfInBounds_toArray, List.set_cons_zero, List.set_cons_succ, i64_w, i32_w]
     rfl
    refine pure_ (i := 4) (N := some 24) (v := ?_) (a' := ?_) #[true, false, true, false, true, false, false, false, false, false, false, false, false, false, false, false, false, false, false, false, false] rfl rfl (any_of HT_.out (by kernel_rfl)) (fun _ _ _ h => h) (Or.inl ⟨by rfl, ?_⟩) ?_ ?_
    rotate_left
    ·
     intro w'
     go_simp
     with_reducible rfl
    rotate_left
    ·
     simp only [Act.put, List.setIfInBounds_toArray, List.set_cons_zero, List.set_cons_succ, i64_w, i32_w]
     rfl
    refine pure_ (i := 7) (N := some 27) (v := ?_) (a' := ?_) #[true, false, true, false, true, false, false, true, false, false, false, false, false, false, false, false, false, false, false, false, false] rfl rfl (any_of HT_.out (by kernel_rfl)) (fun _ _ _ h => h) (Or.inl ⟨by rfl, ?_⟩) ?_ ?_
    rotate_left
    ·
     intro w'
     go_simp
     with_reducible rfl
    rotate_left
    ·
     simp only [Act.put, List.setIfInBounds_toArray, List.set_cons_zero, List.set_cons_succ, i64_w, i32_w]
     rfl
    refine pure_ (i := 9) (N := some 29) (v := ?_) (a' := ?_) #[true, false, true, false, true, false, false, true, false, true, false, false, false, false, false, false, false, false, false, false, false] rfl rfl (any_of HT_.out (by kernel_rfl)) (fun _ _ _ h => h) (Or.inl ⟨by rfl, ?_⟩) ?_ ?_
    rotate_left
    ·
     intro w'
     go_simp
     with_reducible rfl
    rotate_left
    ·
     simp only [Act.put, List.setIfInBounds_toArray, List.set_cons_zero, List.set_cons_succ, i64_w, i32_w]
     rfl
    refine pure_ (i := 12) (N := some 32) (v := ?_) (a' := ?_) #[true, false, true, false, true, false, false, true, false, true, false, false, true, false, false, false, false, false, false, false, false] rfl rfl (any_of HT_.out (by kernel_rfl)) (fun _ _ _ h => h) (Or.inl ⟨by rfl, ?_⟩) ?_ ?_
    rotate_left
    ·
     intro w'
     go_simp
     with_reducible rfl
    rotate_left
    ·
     simp only [Act.put, List.setIfInBounds_toArray, List.set_cons_zero, List.set_cons_succ, i64_w, i32_w]
     rfl
    refine pure_ (i := 14) (N := some 34) (v := ?_) (a' := ?_) #[true, false, true, false, true, false, false, true, false, true, false, false, true, false, true, false, false, false, false, false, false] rfl rfl (any_of HT_.out (by kernel_rfl)) (fun _ _ _ h => h) (Or.inl ⟨by rfl, ?_⟩) ?_ ?_
    rotate_left
    ·
     intro w'
     go_simp
     with_reducible rfl
    rotate_left
    ·
     simp only [Act.put, List.setIfInBounds_toArray, List.set_cons_zero, List.set_cons_succ, i64_w, i32_w]
     rfl
    refine take_ (i := 1) (N := some 21) (v := ?_) (a' := ?_) #[true, true, true, false, true, false, false, true, false, true, false, false, true, false, true, false, false, false, false, false, false] rfl rfl (take_ofW HT_.out HW_.out (by kernel_rfl)) (fun _ _ _ h => h) (Or.inl ⟨by rfl, ?_⟩) hHeld ?_ ?_
    rotate_left
    ·
     rintro w' ⟨s0, s1, s2, s3, s4, s5, s6, s7⟩
     go_simp
     with_reducible rfl
    rotate_left
    ·
     simp only [Act.put, List.setIfInBounds_toArray, List.set_cons_zero, List.set_cons_succ, i64_w, i32_w]
     rfl
    refine take_ (i := 3) (N := some 23) (v := ?_) (a' := ?_) #[true, true, true, true, true, false, false, true, false, true, false, false, true, false, true, false, false, false, false, false, false] rfl rfl (take_ofW HT_.out HW_.out (by kernel_rfl)) (fun _ _ _ h => h) (Or.inl ⟨by rfl, ?_⟩) hHeld ?_ ?_
    rotate_left
    ·
     rintro w' ⟨s0, s1, s2, s3, s4, s5, s6, s7⟩
     go_simp
     with_reducible rfl
    rotate_left
    ·
     simp only [Act.put, List.setIfInBounds_toArray, List.set_cons_zero, List.set_cons_succ, i64_w, i32_w]
     rfl
    refine take_ (i := 5) (N := some 25) (v := ?_) (a' := ?_) #[true, true, true, true, true, true, false, true, false, true, false, false, true, false, true, false, false, false, false, false, false] rfl rfl (take_ofW HT_.out HW_.out (by kernel_rfl)) (fun _ _ _ h => h) (Or.inl ⟨by rfl, ?_⟩) hHeld ?_ ?_
    rotate_left
    ·
     rintro w' ⟨s0, s1, s2, s3, s4, s5, s6, s7⟩
     go_simp
     with_reducible rfl
    rotate_left
    ·
     simp only [Act.put, List.setIfInBounds_toArray, List.set_cons_zero, List.set_cons_succ, i64_w, i32_w]
     rfl
    refine take_ (i := 8) (N := some 28) (v := ?_) (a' := ?_) #[true, true, true, true, true, true, false, true, true, true, false, false, true, false, true, false, false, false, false, false, false] rfl rfl (take_ofW HT_.out HW_.out (by kernel_rfl)) (fun _ _ _ h => h) (Or.inl ⟨by rfl, ?_⟩) hHeld ?_ ?_
    rotate_left
    ·
     rintro w' ⟨s0, s1, s2, s3, s4, s5, s6, s7⟩
     go_simp
     with_reducible rfl
    rotate_left
    ·
     simp only [Act.put, List.setIfInBounds_toArray, List.set_cons_zero, List.set_cons_succ, i64_w, i32_w]
     rfl
    refine take_ (i := 10) (N := some 30) (v := ?_) (a' := ?_) #[true, true, true, true, true, true, false, true, true, true, true, false, true, false, true, false, false, false, false, false, false] rfl rfl (take_ofW HT_.out HW_.out (by kernel_rfl)) (fun _ _ _ h => h) (Or.inl ⟨by rfl, ?_⟩) hHeld ?_ ?_
    rotate_left
    ·
     rintro w' ⟨s0, s1, s2, s3, s4, s5, s6, s7⟩
     go_simp
     with_reducible rfl
    rotate_left
    ·
     simp only [Act.put, List.setIfInBounds_toArray, List.set_cons_zero, List.set_cons_succ, i64_w, i32_w]
     rfl
    refine take_ (i := 13) (N := some 33) (v := ?_) (a' := ?_) #[true, true, true, true, true, true, false, true, true, true, true, false, true, true, true, false, false, false, false, false, false] rfl rfl (take_ofW HT_.out HW_.out (by kernel_rfl)) (fun _ _ _ h => h) (Or.inl ⟨by rfl, ?_⟩) hHeld ?_ ?_
    rotate_left
    ·
     rintro w' ⟨s0, s1, s2, s3, s4, s5, s6, s7⟩
     go_simp
     with_reducible rfl
    rotate_left
    ·
     simp only [Act.put, List.setIfInBounds_toArray, List.set_cons_zero, List.set_cons_succ, i64_w, i32_w]
     rfl
    refine take_ (i := 15) (N := some 35) (v := ?_) (a' := ?_) #[true, true, true, true, true, true, false, true, true, true, true, false, true, true, true, true, false, false, false, false, false] rfl rfl (take_ofW HT_.out HW_.out (by kernel_rfl)) (fun _ _ _ h => h) (Or.inl ⟨by rfl, ?_⟩) hHeld ?_ ?_
    rotate_left
    ·
     rintro w' ⟨s0, s1, s2, s3, s4, s5, s6, s7⟩
     go_simp
     with_reducible rfl
    rotate_left
    ·
     simp only [Act.put, List.setIfInBounds_toArray, List.set_cons_zero, List.set_cons_succ, i64_w, i32_w]
     rfl
    refine one_ (i := 6) (N := some 26) #[true, true, true, true, true, true, true, true, true, true, true, false, true, true, true, true, false, false, false, false, false] rfl rfl (one_of HT_.out (by kernel_rfl)) (by decide) (fun K hK => ?_)
    refine goes_ Tryd.func51 (by kernel_rfl) rfl #[.int .i64 a0_1, .int .i64 a1_1] (by rfl) rfl rfl qng0_ ?_
    with_reducible refine (cmp_Compare_int.calls a0_1 a1_1 t235 _ A20.out).mono ?_
    rintro e w' ⟨rfl, ⟨nd, rfl⟩⟩
    refine ⟨_, rfl, ?_⟩
    refine hK.out _ _ ⟨(blk_cell BK232.out 0).trans rfl, (blk_cell BK232.out 1).trans rfl, (blk_cell BK232.out 2).trans rfl, (blk_cell BK232.out 3).trans rfl, (blk_cell BK233.out 0).trans rfl, (blk_cell BK233.out 1).trans rfl, (blk_cell BK233.out 2).trans rfl, (blk_cell BK233.out 3).trans rfl⟩ (fun hHeld => ?_)
    clear hK K
    refine norm_ (a' := ?_) ?_ ?_
    rotate_left
    ·
     show Act.put _ (some 26) _ = _
     simp only [Act.put, List.setIfInBounds_toArray, List.set_cons_zero, List.set_cons_succ, i64_w, i32_w]
     rfl
    refine one_ (i := 11) (N := some 31) #[true, true, true, true, true, true, true, true, true, true, true, true, true, true, true, true, false, false, false, false, false] rfl rfl (one_of HT_.out (by kernel_rfl)) (by decide) (fun K hK => ?_)
    refine goes_ Tryd.func51 (by kernel_rfl) rfl #[.int .i64 a0_2, .int .i64 a1_2] (by rfl) rfl rfl qng0_ ?_
    with_reducible refine (cmp_Compare_int.calls a0_2 a1_2 t236 _ A21.out).mono ?_
    rintro e w' ⟨rfl, ⟨nd, rfl⟩⟩
    refine ⟨_, rfl, ?_⟩
    refine hK.out _ _ ⟨(blk_cell BK232.out 0).trans rfl, (blk_cell BK232.out 1).trans rfl, (blk_cell BK232.out 2).trans rfl, (blk_cell BK232.out 3).trans rfl, (blk_cell BK233.out 0).trans rfl, (blk_cell BK233.out 1).trans rfl, (blk_cell BK233.out 2).trans rfl, (blk_cell BK233.out 3).trans rfl⟩ (fun hHeld => ?_)
    clear hK K
    refine norm_ (a' := ?_) ?_ ?_
    rotate_left
    ·
     show Act.put _ (some 31) _ = _
     simp only [Act.put, List.setIfInBounds_toArray, List.set_cons_zero, List.set_cons_succ, i64_w, i32_w]
     rfl
    refine one_ (i := 16) (N := some 36) #[true, true, true, true, true, true, true, true, true, true, true, true, true, true, true, true, true, false, false, false, false] rfl rfl (one_of HT_.out (by kernel_rfl)) (by decide) (fun K hK => ?_)
    refine goes_ Tryd.func55 (by kernel_rfl) rfl #[.string a0_3, .string a1_3] (by rfl) rfl rfl qng0_ ?_
    with_reducible refine (strings_Compare.calls a0_3 a1_3 t237 _ A22.out).mono ?_
    rintro e w' ⟨rfl, ⟨nd, rfl⟩⟩
    refine ⟨_, rfl, ?_⟩
    refine hK.out _ _ ⟨(blk_cell BK232.out 0).trans rfl, (blk_cell BK232.out 1).trans rfl, (blk_cell BK232.out 2).trans rfl, (blk_cell BK232.out 3).trans rfl, (blk_cell BK233.out 0).trans rfl, (blk_cell BK233.out 1).trans rfl, (blk_cell BK233.out 2).trans rfl, (blk_cell BK233.out 3).trans rfl⟩ (fun hHeld => ?_)
    clear hK K
    refine norm_ (a' := ?_) ?_ ?_
    rotate_left
    ·
     show Act.put _ (some 36) _ = _
     simp only [Act.put, List.setIfInBounds_toArray, List.set_cons_zero, List.set_cons_succ, i64_w, i32_w]
     rfl
    refine one_ (i := 17) (N := some 37) #[true, true, true, true, true, true, true, true, true, true, true, true, true, true, true, true, true, true, false, false, false] rfl rfl (one_of HT_.out (by kernel_rfl)) (by decide) (fun K hK => ?_)
    refine Kd.R_lit_step (Kd.int .i64) _ 3 ?hg (N := 37) ?hd (xs := ([t235, t236, t237] : List Int)) (inner := [.int .i64 t235, .int .i64 t236, .int .i64 t237]) (ok := fun _ => True) (okp := fun _ => True) ?hr ?hp (fun _ hk => hk) trivial (Below.refl _ _) (Nat.le_refl _) (by simp) ?_; (case hd => rfl); (case hg => rfl); (case hr => first | (go_simp; done) | (go_simp; rfl)); (case hp => exact (Reps.one (show Kd.M (Kd.int .i64) _ _ _ t235 [.int .i64 t235] from rfl) (Reps.one (show Kd.M (Kd.int .i64) _ _ _ t236 [.int .i64 t236] from rfl) (Reps.one (show Kd.M (Kd.int .i64) _ _ _ t237 [.int .i64 t237] from rfl) (Reps.none _ _)))))
    intro v239 w25 ho26 hb hg_ hnew_
    clear hg_ hnew_
    (first | rw [← Ny238.out] at ho26 | (simp only [Int.reduceToNat] at ho26; rw [← Ny238.out] at ho26))
    have n0_ := Aside0.mk (Kd.R_lower ho26 (below_size qng45_))
    have n1_ := Aside0.mk (blk_below (g := gb232) (o := .cells #[.int .i64 a0_0, .int .i64 a0_1, .int .i64 a0_2, .string a0_3] 77 (0, 0)) qng54_ hb)
    have n2_ := Aside0.mk (blk_below (g := gb233) (o := .cells #[.int .i64 a1_0, .int .i64 a1_1, .int .i64 a1_2, .string a1_3] 77 (0, 0)) qng73_ hb)
    have n3_ := Aside0.mk (below_step qng45_ hb)
    clear BK232
    clear BK233
    clear HB
    have HO240 := n0_
    have BK232 := n1_
    have BK233 := n2_
    have HB := n3_
    clear n0_ n1_ n2_ n3_
    clear hb ho26
    obtain ⟨Ao27, co27, eo27⟩ := Kd.R_slice HO240.out
    (first | subst eo27 | (injection eo27 with f1_ f2_ f3_; have f4_ := f1_.symm; have f5_ := f3_.symm; clear f1_ f2_ f3_; subst f4_; subst f5_))
    refine hK.out _ _ ⟨(blk_cell BK232.out 0).trans rfl, (blk_cell BK232.out 1).trans rfl, (blk_cell BK232.out 2).trans rfl, (blk_cell BK232.out 3).trans rfl, (blk_cell BK233.out 0).trans rfl, (blk_cell BK233.out 1).trans rfl, (blk_cell BK233.out 2).trans rfl, (blk_cell BK233.out 3).trans rfl⟩ (fun hHeld => ?_)
    clear hK K
    refine norm_ (a' := ?_) ?_ ?_
    rotate_left
    ·
     show Act.put _ (some 37) _ = _
     simp only [Act.put, List.setIfInBounds_toArray, List.set_cons_zero, List.set_cons_succ, i64_w, i32_w]
     rfl
    refine one_ (i := 18) (N := some 38) #[true, true, true, true, true, true, true, true, true, true, true, true, true, true, true, true, true, true, true, false, false] rfl rfl (one_of HT_.out (by kernel_rfl)) (by decide) (fun K hK => ?_)
    refine goes_ Tryd.func72 (by kernel_rfl) rfl #[.slice Ao27 y238.length co27] (by rfl) rfl rfl qng0_ ?_
    with_reducible refine (cmp_Or_int.calls kj2 _ _ y238 t241 _ ?side1 ?side2 A23.out).mono ?_
    (case side1 => repeat (first | exact (Kd.R_reads' HO240.out).2.2 | (with_reducible refine Kd.C_alloc ?_ _) | (with_reducible refine Kd.C_drewN ?_ _) | (with_reducible refine Kd.C_drew ?_)))
    (case side2 => exact (Kd.R_reads' HO240.out).2.1)
    rintro e w' ⟨rfl, ⟨nd, rfl⟩⟩
    refine ⟨_, rfl, ?_⟩
    refine hK.out _ _ ⟨(blk_cell BK232.out 0).trans rfl, (blk_cell BK232.out 1).trans rfl, (blk_cell BK232.out 2).trans rfl, (blk_cell BK232.out 3).trans rfl, (blk_cell BK233.out 0).trans rfl, (blk_cell BK233.out 1).trans rfl, (blk_cell BK233.out 2).trans rfl, (blk_cell BK233.out 3).trans rfl⟩ (fun hHeld => ?_)
    clear hK K
    refine norm_ (a' := ?_) ?_ ?_
    rotate_left
    ·
     show Act.put _ (some 38) _ = _
     simp only [Act.put, List.setIfInBounds_toArray, List.set_cons_zero, List.set_cons_succ, i64_w, i32_w]
     rfl
    refine pure_ (i := 19) (N := some 39) (v := ?_) (a' := ?_) #[true, true, true, true, true, true, true, true, true, true, true, true, true, true, true, true, true, true, true, true, false] rfl rfl (any_of HT_.out (by kernel_rfl)) (fun _ _ _ h => h) (Or.inl ⟨by rfl, ?_⟩) ?_ ?_
    rotate_left
    ·
     intro w'
     go_simp
     with_reducible rfl
    rotate_left
    ·
     simp only [Act.put, List.setIfInBounds_toArray, List.set_cons_zero, List.set_cons_succ, i64_w, i32_w]
     rfl
    refine pure_ (i := 20) (N := some 4) (v := ?_) (a' := ?_) #[true, true, true, true, true, true, true, true, true, true, true, true, true, true, true, true, true, true, true, true, true] rfl rfl (any_of HT_.out (by kernel_rfl)) (fun _ _ _ h => h) (Or.inl ⟨by rfl, ?_⟩) ?_ ?_
    rotate_left
    ·
     intro w'
     go_simp
     with_reducible rfl
    rotate_left
    ·
     simp only [Act.put, List.setIfInBounds_toArray, List.set_cons_zero, List.set_cons_succ, i64_w, i32_w]
     rfl
    refine done_ (done_of HT_.out (by kernel_rfl)) ?_
    try go_wp2
    go_ret
    exact ⟨qng6_, qng45_⟩


/-! ### numeral_sizeOf: function 54 -/
def numeral_sizeOf.f (a0 : Bool) (a1 : ByteArray) (a2 : Int) (a3 : Int) : Option (Int × Int × Int × ByteArray) := if a1.toList = ([] : List UInt8) then (some (0, 0, 0, (⟨#[]⟩ : ByteArray))) else (if a0 = true then (some ((-1), a3, a2, a1)) else (some (1, a3, a2, a1)))
set_option maxHeartbeats 8000000 in
set_option maxRecDepth 100000 in
theorem numeral_sizeOf.calls (a0 : Bool) (a1 : ByteArray) (a2 : Int) (a3 : Int) (r1 : Int) (r2 : Int) (r3 : Int) (r4 : ByteArray) (w : World) (h : numeral_sizeOf.f a0 a1 a2 a3 = some (r1, r2, r3, r4)) :
  Calls Tryd.prog 54 #[.bool a0, .string a1, .int .i64 a2, .int .i64 a3] w fun e w' => e = .returned (.agg #[.int .i64 r1, .int .i64 r2, .int .i64 r3, .string r4]) ∧ Below w.heap.size w w' := by
 have hu77 := Tryd.underlying77
 have HB := Aside0.mk (Below.refl w.heap.size w)
 have H : (if a1.toList = ([] : List UInt8) then (some (0, 0, 0, (⟨#[]⟩ : ByteArray))) else (if a0 = true then (some ((-1), a3, a2, a1)) else (some (1, a3, a2, a1)))) = some (r1, r2, r3, r4) := h
 clear h
 by_cases c5 : a1.toList = ([] : List UInt8)
 ·
  rw [if_pos c5] at H
  have c5b0 : (a1.toList == ([] : List UInt8)) = true := beq_iff_eq.mpr c5
  have c5b1 : (a1.toList != ([] : List UInt8)) = false := bne_eq_false_iff_eq.mpr c5
  clear c5
  simp only [Option.some.injEq, Prod.mk.injEq] at H
  obtain ⟨rfl, rfl, rfl, rfl⟩ := H
  go_enter Tryd.func54, Tryd.ntmps54
  have tk11 : True := trivial; have tk12 : True := trivial
  go_wp2_with (first | (have ztk11 := tk11; clear tk11 ztk11; (with_reducible refine gate_dst (N := 8) rfl ?_); refine box_event ?hg (N := 8) ?hd (cs := #[.int .i64 0, .int .i64 0, .int .i64 0, .string (⟨#[]⟩ : ByteArray)]) (t := 77) ?hr ?_; (case hd => rfl); (case hg => rfl); (case hr => first | (go_simp; done) | (go_simp; rfl)); intro gb242 hg w6 hbox hb; have n0_ := Aside0.mk (below_step qng1_ hb); have n1_ := Aside0.mk (hbox); have n2_ := Aside0.mk ((by rw [hg]; exact (below_size qng1_) : w.heap.size ≤ gb242)); have n3_ := Aside0.mk ((by rw [hg]; exact (below_size qng1_) : w.heap.size ≤ gb242)); clear HB; have HB := n0_; have BK242 := n1_; have GW242 := n2_; have GE242 := n3_; clear n0_ n1_ n2_ n3_; clear hb hbox hg) | (have ztk12 := tk12; clear tk12 ztk12; (with_reducible refine gate_dst (N := 9) rfl ?_); refine box_event ?hg (N := 9) ?hd (cs := #[.int .i64 0, .int .i64 0, .int .i64 0, .string (⟨#[]⟩ : ByteArray)]) (t := 77) ?hr ?_; (case hd => rfl); (case hg => rfl); (case hr => first | (go_simp; done) | (go_simp; rfl)); intro gb243 hg w7 hbox hb; have n0_ := Aside0.mk (blk_below (g := gb242) (o := .cells #[.int .i64 0, .int .i64 0, .int .i64 0, .string (⟨#[]⟩ : ByteArray)] 77 (0, 0)) qng47_ hb); have n1_ := Aside0.mk (below_step qng33_ hb); have n2_ := Aside0.mk (hbox); have n3_ := Aside0.mk ((by rw [hg]; exact (below_size qng33_) : w.heap.size ≤ gb243)); have n4_ := Aside0.mk ((by rw [hg]; exact (below_size qng33_) : w.heap.size ≤ gb243)); have n5_ := Aside0.mk ((by rw [hg]; exact Nat.ne_of_lt (blk_lt (g := gb242) (o := .cells #[.int .i64 0, .int .i64 0, .int .i64 0, .string (⟨#[]⟩ : ByteArray)] 77 (0, 0)) qng47_) : gb242 ≠ gb243)); have n6_ := Aside0.mk ((by rw [hg]; exact Nat.ne_of_gt (blk_lt (g := gb242) (o := .cells #[.int .i64 0, .int .i64 0, .int .i64 0, .string (⟨#[]⟩ : ByteArray)] 77 (0, 0)) qng47_) : gb243 ≠ gb242)); clear BK242; clear HB; have BK242 := n0_; have HB := n1_; have BK243 := n2_; have GW243 := n3_; have GE243 := n4_; have NB242_243 := n5_; have NB243_242 := n6_; clear n0_ n1_ n2_ n3_ n4_ n5_ n6_; clear hb hbox hg; have hnb8 := NB243_242.out; have hnc8 := NB242_243.out; have hcz9_0 : w7.cell? ⟨gb243, 0, none⟩ = some (.int .i64 0) := (blk_cell BK243.out 0).trans rfl; have hcz9_1 : w7.cell? ⟨gb243, 1, none⟩ = some (.int .i64 0) := (blk_cell BK243.out 1).trans rfl; have hcz9_2 : w7.cell? ⟨gb243, 2, none⟩ = some (.int .i64 0) := (blk_cell BK243.out 2).trans rfl; have hcz9_3 : w7.cell? ⟨gb243, 3, none⟩ = some (.string (⟨#[]⟩ : ByteArray)) := (blk_cell BK243.out 3).trans rfl; have hfz9_0 := blk_frozen BK243.out 0; have hfz9_1 := blk_frozen BK243.out 1; have hfz9_2 := blk_frozen BK243.out 2; have hfz9_3 := blk_frozen BK243.out 3; have hcz10_0 : w7.cell? ⟨gb242, 0, none⟩ = some (.int .i64 0) := (blk_cell BK242.out 0).trans rfl; have hcz10_1 : w7.cell? ⟨gb242, 1, none⟩ = some (.int .i64 0) := (blk_cell BK242.out 1).trans rfl; have hcz10_2 : w7.cell? ⟨gb242, 2, none⟩ = some (.int .i64 0) := (blk_cell BK242.out 2).trans rfl; have hcz10_3 : w7.cell? ⟨gb242, 3, none⟩ = some (.string (⟨#[]⟩ : ByteArray)) := (blk_cell BK242.out 3).trans rfl; have hfz10_0 := blk_frozen BK242.out 0; have hfz10_1 := blk_frozen BK242.out 1; have hfz10_2 := blk_frozen BK242.out 2; have hfz10_3 := blk_frozen BK242.out 3))
  refine bodyPost_ret (results_cell_row rfl _ _ gb242 77 #[.int .i64 0, .int .i64 0, .int .i64 0, .string (⟨#[]⟩ : ByteArray)] (0, 0) _ rfl (by (with_reducible repeat (first | refine blk_drewN ?_ _ | refine blk_drew ?_ | refine blk_alloc ?_ _)); refine blk_put (cs := #[.int .i64 0, .int .i64 0, .int .i64 0, .string (⟨#[]⟩ : ByteArray)]) ?_ 3 _ rfl; (with_reducible repeat (first | refine blk_drewN ?_ _ | refine blk_drew ?_ | refine blk_alloc ?_ _)); refine blk_put (cs := #[.int .i64 0, .int .i64 0, .int .i64 0, .string (⟨#[]⟩ : ByteArray)]) ?_ 2 _ rfl; (with_reducible repeat (first | refine blk_drewN ?_ _ | refine blk_drew ?_ | refine blk_alloc ?_ _)); refine blk_put (cs := #[.int .i64 0, .int .i64 0, .int .i64 0, .string (⟨#[]⟩ : ByteArray)]) ?_ 1 _ rfl; (with_reducible repeat (first | refine blk_drewN ?_ _ | refine blk_drew ?_ | refine blk_alloc ?_ _)); refine blk_put (cs := #[.int .i64 0, .int .i64 0, .int .i64 0, .string (⟨#[]⟩ : ByteArray)]) ?_ 0 _ rfl; (with_reducible repeat (first | refine blk_drewN ?_ _ | refine blk_drew ?_ | refine blk_alloc ?_ _)); refine blk_far ?_ NB242_243.out _; (with_reducible repeat (first | refine blk_drewN ?_ _ | refine blk_drew ?_ | refine blk_alloc ?_ _)); refine blk_far ?_ NB242_243.out _; (with_reducible repeat (first | refine blk_drewN ?_ _ | refine blk_drew ?_ | refine blk_alloc ?_ _)); refine blk_far ?_ NB242_243.out _; (with_reducible repeat (first | refine blk_drewN ?_ _ | refine blk_drew ?_ | refine blk_alloc ?_ _)); refine blk_far ?_ NB242_243.out _; (with_reducible repeat (first | refine blk_drewN ?_ _ | refine blk_drew ?_ | refine blk_alloc ?_ _)); exact BK242.out) Tryd.underlying77 rfl (by kernel_rfl)) rfl ?_
  exact ⟨qng6_, qng61_⟩
 ·
  rw [if_neg c5] at H
  have c5b0 : (a1.toList == ([] : List UInt8)) = false := beq_eq_false_iff_ne.mpr c5
  have c5b1 : (a1.toList != ([] : List UInt8)) = true := bne_iff_ne.mpr c5
  by_cases c13 : a0 = true
  ·
   subst c13
   have H1 : (some ((-1), a3, a2, a1)) = some (r1, r2, r3, r4) := by rw [if_pos rfl] at H; exact H
   clear H
   have H := H1
   clear H1
   simp only [Option.some.injEq, Prod.mk.injEq] at H
   obtain ⟨rfl, rfl, rfl, rfl⟩ := H
   go_enter Tryd.func54, Tryd.ntmps54
   have tk19 : True := trivial; have tk20 : True := trivial
   go_wp2_with (first | (have ztk19 := tk19; clear tk19 ztk19; (with_reducible refine gate_dst (N := 8) rfl ?_); refine box_event ?hg (N := 8) ?hd (cs := #[.int .i64 0, .int .i64 0, .int .i64 0, .string (⟨#[]⟩ : ByteArray)]) (t := 77) ?hr ?_; (case hd => rfl); (case hg => rfl); (case hr => first | (go_simp; done) | (go_simp; rfl)); intro gb242 hg w14 hbox hb; have n0_ := Aside0.mk (below_step qng1_ hb); have n1_ := Aside0.mk (hbox); have n2_ := Aside0.mk ((by rw [hg]; exact (below_size qng1_) : w.heap.size ≤ gb242)); have n3_ := Aside0.mk ((by rw [hg]; exact (below_size qng1_) : w.heap.size ≤ gb242)); clear HB; have HB := n0_; have BK242 := n1_; have GW242 := n2_; have GE242 := n3_; clear n0_ n1_ n2_ n3_; clear hb hbox hg) | (have ztk20 := tk20; clear tk20 ztk20; (with_reducible refine gate_dst (N := 9) rfl ?_); refine box_event ?hg (N := 9) ?hd (cs := #[.int .i64 0, .int .i64 0, .int .i64 0, .string (⟨#[]⟩ : ByteArray)]) (t := 77) ?hr ?_; (case hd => rfl); (case hg => rfl); (case hr => first | (go_simp; done) | (go_simp; rfl)); intro gb243 hg w15 hbox hb; have n0_ := Aside0.mk (blk_below (g := gb242) (o := .cells #[.int .i64 0, .int .i64 0, .int .i64 0, .string (⟨#[]⟩ : ByteArray)] 77 (0, 0)) qng47_ hb); have n1_ := Aside0.mk (below_step qng33_ hb); have n2_ := Aside0.mk (hbox); have n3_ := Aside0.mk ((by rw [hg]; exact (below_size qng33_) : w.heap.size ≤ gb243)); have n4_ := Aside0.mk ((by rw [hg]; exact (below_size qng33_) : w.heap.size ≤ gb243)); have n5_ := Aside0.mk ((by rw [hg]; exact Nat.ne_of_lt (blk_lt (g := gb242) (o := .cells #[.int .i64 0, .int .i64 0, .int .i64 0, .string (⟨#[]⟩ : ByteArray)] 77 (0, 0)) qng47_) : gb242 ≠ gb243)); have n6_ := Aside0.mk ((by rw [hg]; exact Nat.ne_of_gt (blk_lt (g := gb242) (o := .cells #[.int .i64 0, .int .i64 0, .int .i64 0, .string (⟨#[]⟩ : ByteArray)] 77 (0, 0)) qng47_) : gb243 ≠ gb242)); clear BK242; clear HB; have BK242 := n0_; have HB := n1_; have BK243 := n2_; have GW243 := n3_; have GE243 := n4_; have NB242_243 := n5_; have NB243_242 := n6_; clear n0_ n1_ n2_ n3_ n4_ n5_ n6_; clear hb hbox hg; have hnb16 := NB243_242.out; have hnc16 := NB242_243.out; have hcz17_0 : w15.cell? ⟨gb243, 0, none⟩ = some (.int .i64 0) := (blk_cell BK243.out 0).trans rfl; have hcz17_1 : w15.cell? ⟨gb243, 1, none⟩ = some (.int .i64 0) := (blk_cell BK243.out 1).trans rfl; have hcz17_2 : w15.cell? ⟨gb243, 2, none⟩ = some (.int .i64 0) := (blk_cell BK243.out 2).trans rfl; have hcz17_3 : w15.cell? ⟨gb243, 3, none⟩ = some (.string (⟨#[]⟩ : ByteArray)) := (blk_cell BK243.out 3).trans rfl; have hfz17_0 := blk_frozen BK243.out 0; have hfz17_1 := blk_frozen BK243.out 1; have hfz17_2 := blk_frozen BK243.out 2; have hfz17_3 := blk_frozen BK243.out 3; have hcz18_0 : w15.cell? ⟨gb242, 0, none⟩ = some (.int .i64 0) := (blk_cell BK242.out 0).trans rfl; have hcz18_1 : w15.cell? ⟨gb242, 1, none⟩ = some (.int .i64 0) := (blk_cell BK242.out 1).trans rfl; have hcz18_2 : w15.cell? ⟨gb242, 2, none⟩ = some (.int .i64 0) := (blk_cell BK242.out 2).trans rfl; have hcz18_3 : w15.cell? ⟨gb242, 3, none⟩ = some (.string (⟨#[]⟩ : ByteArray)) := (blk_cell BK242.out 3).trans rfl; have hfz18_0 := blk_frozen BK242.out 0; have hfz18_1 := blk_frozen BK242.out 1; have hfz18_2 := blk_frozen BK242.out 2; have hfz18_3 := blk_frozen BK242.out 3))
   refine bodyPost_ret (results_cell_row rfl _ _ gb242 77 #[.int .i64 (-1), .int .i64 a3, .int .i64 a2, .string a1] (0, 0) _ rfl (by (with_reducible repeat (first | refine blk_drewN ?_ _ | refine blk_drew ?_ | refine blk_alloc ?_ _)); refine blk_put (cs := #[.int .i64 (-1), .int .i64 a3, .int .i64 a2, .string (⟨#[]⟩ : ByteArray)]) ?_ 3 _ rfl; (with_reducible repeat (first | refine blk_drewN ?_ _ | refine blk_drew ?_ | refine blk_alloc ?_ _)); refine blk_put (cs := #[.int .i64 (-1), .int .i64 a3, .int .i64 0, .string (⟨#[]⟩ : ByteArray)]) ?_ 2 _ rfl; (with_reducible repeat (first | refine blk_drewN ?_ _ | refine blk_drew ?_ | refine blk_alloc ?_ _)); refine blk_put (cs := #[.int .i64 (-1), .int .i64 0, .int .i64 0, .string (⟨#[]⟩ : ByteArray)]) ?_ 1 _ rfl; (with_reducible repeat (first | refine blk_drewN ?_ _ | refine blk_drew ?_ | refine blk_alloc ?_ _)); refine blk_put (cs := #[.int .i64 0, .int .i64 0, .int .i64 0, .string (⟨#[]⟩ : ByteArray)]) ?_ 0 _ rfl; (with_reducible repeat (first | refine blk_drewN ?_ _ | refine blk_drew ?_ | refine blk_alloc ?_ _)); refine blk_far ?_ NB242_243.out _; (with_reducible repeat (first | refine blk_drewN ?_ _ | refine blk_drew ?_ | refine blk_alloc ?_ _)); refine blk_far ?_ NB242_243.out _; (with_reducible repeat (first | refine blk_drewN ?_ _ | refine blk_drew ?_ | refine blk_alloc ?_ _)); refine blk_far ?_ NB242_243.out _; (with_reducible repeat (first | refine blk_drewN ?_ _ | refine blk_drew ?_ | refine blk_alloc ?_ _)); refine blk_far ?_ NB242_243.out _; (with_reducible repeat (first | refine blk_drewN ?_ _ | refine blk_drew ?_ | refine blk_alloc ?_ _)); refine blk_far ?_ NB242_243.out _; (with_reducible repeat (first | refine blk_drewN ?_ _ | refine blk_drew ?_ | refine blk_alloc ?_ _)); exact BK242.out) Tryd.underlying77 rfl (by kernel_rfl)) rfl ?_
   exact ⟨qng6_, qng61_⟩
  ·
   replace c13 := Bool.eq_false_iff.mpr c13
   subst c13
   have H1 : (some (1, a3, a2, a1)) = some (r1, r2, r3, r4) := by rw [if_neg (show ¬ (false = true) by decide)] at H; exact H
   clear H
   have H := H1
   clear H1
   simp only [Option.some.injEq, Prod.mk.injEq] at H
   obtain ⟨rfl, rfl, rfl, rfl⟩ := H
   go_enter Tryd.func54, Tryd.ntmps54
   have tk26 : True := trivial; have tk27 : True := trivial
   go_wp2_with (first | (have ztk26 := tk26; clear tk26 ztk26; (with_reducible refine gate_dst (N := 8) rfl ?_); refine box_event ?hg (N := 8) ?hd (cs := #[.int .i64 0, .int .i64 0, .int .i64 0, .string (⟨#[]⟩ : ByteArray)]) (t := 77) ?hr ?_; (case hd => rfl); (case hg => rfl); (case hr => first | (go_simp; done) | (go_simp; rfl)); intro gb242 hg w21 hbox hb; have n0_ := Aside0.mk (below_step qng1_ hb); have n1_ := Aside0.mk (hbox); have n2_ := Aside0.mk ((by rw [hg]; exact (below_size qng1_) : w.heap.size ≤ gb242)); have n3_ := Aside0.mk ((by rw [hg]; exact (below_size qng1_) : w.heap.size ≤ gb242)); clear HB; have HB := n0_; have BK242 := n1_; have GW242 := n2_; have GE242 := n3_; clear n0_ n1_ n2_ n3_; clear hb hbox hg) | (have ztk27 := tk27; clear tk27 ztk27; (with_reducible refine gate_dst (N := 9) rfl ?_); refine box_event ?hg (N := 9) ?hd (cs := #[.int .i64 0, .int .i64 0, .int .i64 0, .string (⟨#[]⟩ : ByteArray)]) (t := 77) ?hr ?_; (case hd => rfl); (case hg => rfl); (case hr => first | (go_simp; done) | (go_simp; rfl)); intro gb243 hg w22 hbox hb; have n0_ := Aside0.mk (blk_below (g := gb242) (o := .cells #[.int .i64 0, .int .i64 0, .int .i64 0, .string (⟨#[]⟩ : ByteArray)] 77 (0, 0)) qng47_ hb); have n1_ := Aside0.mk (below_step qng33_ hb); have n2_ := Aside0.mk (hbox); have n3_ := Aside0.mk ((by rw [hg]; exact (below_size qng33_) : w.heap.size ≤ gb243)); have n4_ := Aside0.mk ((by rw [hg]; exact (below_size qng33_) : w.heap.size ≤ gb243)); have n5_ := Aside0.mk ((by rw [hg]; exact Nat.ne_of_lt (blk_lt (g := gb242) (o := .cells #[.int .i64 0, .int .i64 0, .int .i64 0, .string (⟨#[]⟩ : ByteArray)] 77 (0, 0)) qng47_) : gb242 ≠ gb243)); have n6_ := Aside0.mk ((by rw [hg]; exact Nat.ne_of_gt (blk_lt (g := gb242) (o := .cells #[.int .i64 0, .int .i64 0, .int .i64 0, .string (⟨#[]⟩ : ByteArray)] 77 (0, 0)) qng47_) : gb243 ≠ gb242)); clear BK242; clear HB; have BK242 := n0_; have HB := n1_; have BK243 := n2_; have GW243 := n3_; have GE243 := n4_; have NB242_243 := n5_; have NB243_242 := n6_; clear n0_ n1_ n2_ n3_ n4_ n5_ n6_; clear hb hbox hg; have hnb23 := NB243_242.out; have hnc23 := NB242_243.out; have hcz24_0 : w22.cell? ⟨gb243, 0, none⟩ = some (.int .i64 0) := (blk_cell BK243.out 0).trans rfl; have hcz24_1 : w22.cell? ⟨gb243, 1, none⟩ = some (.int .i64 0) := (blk_cell BK243.out 1).trans rfl; have hcz24_2 : w22.cell? ⟨gb243, 2, none⟩ = some (.int .i64 0) := (blk_cell BK243.out 2).trans rfl; have hcz24_3 : w22.cell? ⟨gb243, 3, none⟩ = some (.string (⟨#[]⟩ : ByteArray)) := (blk_cell BK243.out 3).trans rfl; have hfz24_0 := blk_frozen BK243.out 0; have hfz24_1 := blk_frozen BK243.out 1; have hfz24_2 := blk_frozen BK243.out 2; have hfz24_3 := blk_frozen BK243.out 3; have hcz25_0 : w22.cell? ⟨gb242, 0, none⟩ = some (.int .i64 0) := (blk_cell BK242.out 0).trans rfl; have hcz25_1 : w22.cell? ⟨gb242, 1, none⟩ = some (.int .i64 0) := (blk_cell BK242.out 1).trans rfl; have hcz25_2 : w22.cell? ⟨gb242, 2, none⟩ = some (.int .i64 0) := (blk_cell BK242.out 2).trans rfl; have hcz25_3 : w22.cell? ⟨gb242, 3, none⟩ = some (.string (⟨#[]⟩ : ByteArray)) := (blk_cell BK242.out 3).trans rfl; have hfz25_0 := blk_frozen BK242.out 0; have hfz25_1 := blk_frozen BK242.out 1; have hfz25_2 := blk_frozen BK242.out 2; have hfz25_3 := blk_frozen BK242.out 3))
   refine bodyPost_ret (results_cell_row rfl _ _ gb242 77 #[.int .i64 1, .int .i64 a3, .int .i64 a2, .string a1] (0, 0) _ rfl (by (with_reducible repeat (first | refine blk_drewN ?_ _ | refine blk_drew ?_ | refine blk_alloc ?_ _)); refine blk_put (cs := #[.int .i64 1, .int .i64 a3, .int .i64 a2, .string (⟨#[]⟩ : ByteArray)]) ?_ 3 _ rfl; (with_reducible repeat (first | refine blk_drewN ?_ _ | refine blk_drew ?_ | refine blk_alloc ?_ _)); refine blk_put (cs := #[.int .i64 1, .int .i64 a3, .int .i64 0, .string (⟨#[]⟩ : ByteArray)]) ?_ 2 _ rfl; (with_reducible repeat (first | refine blk_drewN ?_ _ | refine blk_drew ?_ | refine blk_alloc ?_ _)); refine blk_put (cs := #[.int .i64 1, .int .i64 0, .int .i64 0, .string (⟨#[]⟩ : ByteArray)]) ?_ 1 _ rfl; (with_reducible repeat (first | refine blk_drewN ?_ _ | refine blk_drew ?_ | refine blk_alloc ?_ _)); refine blk_put (cs := #[.int .i64 0, .int .i64 0, .int .i64 0, .string (⟨#[]⟩ : ByteArray)]) ?_ 0 _ rfl; (with_reducible repeat (first | refine blk_drewN ?_ _ | refine blk_drew ?_ | refine blk_alloc ?_ _)); refine blk_far ?_ NB242_243.out _; (with_reducible repeat (first | refine blk_drewN ?_ _ | refine blk_drew ?_ | refine blk_alloc ?_ _)); refine blk_far ?_ NB242_243.out _; (with_reducible repeat (first | refine blk_drewN ?_ _ | refine blk_drew ?_ | refine blk_alloc ?_ _)); refine blk_far ?_ NB242_243.out _; (with_reducible repeat (first | refine blk_drewN ?_ _ | refine blk_drew ?_ | refine blk_alloc ?_ _)); refine blk_far ?_ NB242_243.out _; (with_reducible repeat (first | refine blk_drewN ?_ _ | refine blk_drew ?_ | refine blk_alloc ?_ _)); exact BK242.out) Tryd.underlying77 rfl (by kernel_rfl)) rfl ?_
   exact ⟨qng6_, qng61_⟩


/-! ### stringslite_IndexByte: function 69 (by hand) -/
def stringslite_IndexByte.f (a0 : ByteArray) (a1 : Int) : Option (Int) := some (Lib.indexByte a0.data.toList a1.toNat.toUInt8)
set_option maxHeartbeats 1000000 in
set_option maxRecDepth 100000 in
theorem stringslite_IndexByte.calls (a0 : ByteArray) (a1 : Int) (r : Int) (w : World) (h : stringslite_IndexByte.f a0 a1 = some r) :
    Calls Tryd.prog 69 #[.string a0, .int .u8 a1] w fun e w' => e = .returned (.int .i64 r) ∧ Drawn0 w w' := by
  obtain rfl := Option.some.inj h
  clear h
  go_enter Tryd.func69, Tryd.ntmps69
  go_wp2
  rw [run_callFunc_extern Tryd.func95 (by kernel_rfl) (by kernel_rfl) (by kernel_rfl) (e := Extern.BytealgIndexByte.indexByte) (by kernel_rfl), Lib.run_indexByteString]
  simp only [Result.andThen]
  rw [Oper.upon_value]
  go_wp2
  go_ret
  exact ⟨rfl, Drawn0.refl _⟩


/-! ### strings_IndexByte: function 39 -/
def strings_IndexByte.f (a0 : ByteArray) (a1 : Int) : Option (Int) := (stringslite_IndexByte.f a0 a1).bind fun t186 => (some t186)
set_option maxHeartbeats 8000000 in
set_option maxRecDepth 100000 in
theorem strings_IndexByte.calls (a0 : ByteArray) (a1 : Int) (r : Int) (w : World) (h : strings_IndexByte.f a0 a1 = some r) :
  Calls Tryd.prog 39 #[.string a0, .int .u8 a1] w fun e w' => e = .returned (.int .i64 r) ∧ Drawn0 w w' := by
 have H : ((stringslite_IndexByte.f a0 a1).bind fun t186 => (some t186)) = some r := h
 clear h
 replace H := Option.bind_eq_some_iff.mp H
 obtain ⟨t186, A30, H⟩ := H
 replace H : (some t186) = some r := H
 have A3 := Aside0.mk A30
 clear A30
 obtain rfl := Option.some.inj H
 go_enter Tryd.func39, Tryd.ntmps39
 go_wp2_with (first | ((with_reducible refine gate_callee (f := 69) rfl ?_); refine goesL_ (some 7) rfl rfl Tryd.func69 (by kernel_rfl) rfl #[.string a0, .int .u8 a1] rfl qng0_ ?_; (with_reducible refine (stringslite_IndexByte.calls a0 a1 t186 _ A3.out).mono ?_); rintro e w' ⟨rfl, ⟨nd, rfl⟩⟩; refine ⟨_, rfl, ?_⟩))
 go_ret
 exact ⟨qng2_, qng4_⟩


/-! ### numeral_Human: function 20 -/
mutual
def numeral_Human.j0 : Nat → ByteArray → Bool → Bool → ByteArray → ByteArray → Int → Option (Bool × ByteArray × ByteArray × Int × Int)
 | 0, _, _, _, _, _, _ => none
 | k + 1, x0, x18, x193000, x193001, x193002, x193003 => if x18 = true then (some (x193000, x193001, x193002, x193003, 0)) else (if 0 ≤ x193003 then (if x193003 < (x0.size : Int) then (if (bt x0 x193003) = 107 then (numeral_Human.j1 k 75 x193000 x193001 x193002 x193003) else (numeral_Human.j1 k (bt x0 x193003) x193000 x193001 x193002 x193003)) else (none)) else (none))
def numeral_Human.j1 : Nat → Int → Bool → ByteArray → ByteArray → Int → Option (Bool × ByteArray × ByteArray × Int × Int)
 | 0, _, _, _, _, _ => none
 | k + 1, x5, x193000, x193001, x193002, x193003 => (strings_IndexByte.f (⟨#[75, 77, 71, 84, 80, 69, 90, 89, 82, 81]⟩ : ByteArray) x5).bind fun t193 => (if (wrap64 (t193 + 1)) > 0 then (if x193001.toList = ([] : List UInt8) then (if x193002.toList = ([] : List UInt8) then (some (x193000, x193001, x193002, wrap64 (x193003 + 1), 0)) else (some (x193000, x193001, x193002, wrap64 (x193003 + 1), wrap64 (t193 + 1)))) else (some (x193000, x193001, x193002, wrap64 (x193003 + 1), wrap64 (t193 + 1)))) else (if x193001.toList = ([] : List UInt8) then (if x193002.toList = ([] : List UInt8) then (some (x193000, x193001, x193002, x193003, 0)) else (some (x193000, x193001, x193002, x193003, wrap64 (t193 + 1)))) else (some (x193000, x193001, x193002, x193003, wrap64 (t193 + 1)))))
end
def numeral_Human.f (k : Nat) (a0 : ByteArray) : Option (Bool × ByteArray × ByteArray × Int × Int) := (numeral_Decimal.f k a0).bind fun bt188 => (if bt188.2.2.2 = 0 then (numeral_Human.j0 k a0 true bt188.1 bt188.2.1 bt188.2.2.1 bt188.2.2.2) else (numeral_Human.j0 k a0 (bt188.2.2.2 == (a0.size : Int)) bt188.1 bt188.2.1 bt188.2.2.1 bt188.2.2.2))
set_option maxHeartbeats 8000000 in
set_option maxRecDepth 100000 in
theorem numeral_Human.calls (k : Nat) (a0 : ByteArray) (r1 : Bool) (r2 : ByteArray) (r3 : ByteArray) (r4 : Int) (r5 : Int) (w : World) (h : numeral_Human.f k a0 = some (r1, r2, r3, r4, r5)) :
  Calls Tryd.prog 20 #[.string a0] w fun e w' => e = .returned (.tuple #[.agg #[.bool r1, .string r2, .string r3, .int .i64 r4], .int .i64 r5]) ∧ Below w.heap.size w w' := by
 have hu25 := Tryd.underlying25
 have HB := Aside0.mk (Below.refl w.heap.size w)
 have H : ((numeral_Decimal.f k a0).bind fun bt188 => (if bt188.2.2.2 = 0 then (numeral_Human.j0 k a0 true bt188.1 bt188.2.1 bt188.2.2.1 bt188.2.2.2) else (numeral_Human.j0 k a0 (bt188.2.2.2 == (a0.size : Int)) bt188.1 bt188.2.1 bt188.2.2.1 bt188.2.2.2))) = some (r1, r2, r3, r4, r5) := h
 clear h
 replace H := Option.bind_eq_some_iff.mp H
 obtain ⟨⟨t188, t189, t190, t191⟩, A20, H⟩ := H
 replace H : (if t191 = 0 then (numeral_Human.j0 k a0 true t188 t189 t190 t191) else (numeral_Human.j0 k a0 (t191 == (a0.size : Int)) t188 t189 t190 t191)) = some (r1, r2, r3, r4, r5) := H
 have A2 := Aside0.mk A20
 clear A20
 have HC3 := Aside0.mk H
 clear H
 go_enter Tryd.func20, Tryd.ntmps20
 have tk9 : True := trivial; have tk10 : True := trivial; have tk11 : True := trivial
 go_upto_region 2 with (first | (have ztk9 := tk9; clear tk9 ztk9; (with_reducible refine gate_dst (N := 2) rfl ?_); (try (refine gate_guard (by rfl) ?_; dsimp only)); refine box_event ?hg (N := 2) ?hd (cs := #[.bool false, .string (⟨#[]⟩ : ByteArray), .string (⟨#[]⟩ : ByteArray), .int .i64 0]) (t := 25) ?hr ?_; (case hd => rfl); (case hg => rfl); (case hr => first | (go_simp; done) | (go_simp; rfl)); intro gb187 hg w4 hbox hb; have n0_ := Aside0.mk (below_step qng1_ hb); have n1_ := Aside0.mk (hbox); have n2_ := Aside0.mk ((by rw [hg]; exact (below_size qng1_) : w.heap.size ≤ gb187)); have n3_ := Aside0.mk ((by rw [hg]; exact (below_size qng1_) : w.heap.size ≤ gb187)); clear HB; have HB := n0_; have BK187 := n1_; have GW187 := n2_; have GE187 := n3_; clear n0_ n1_ n2_ n3_; clear hb hbox hg) | (have ztk10 := tk10; clear tk10 ztk10; (with_reducible refine gate_callee (f := 16) rfl ?_); refine goesL_ (some 8) rfl rfl Tryd.func16 (by kernel_rfl) rfl #[.string a0] rfl qng0_ ?_; (with_reducible refine (numeral_Decimal.calls k a0 t188 t189 t190 t191 _ A2.out).mono ?_); rintro e w5 ⟨rfl, hb⟩; refine ⟨_, rfl, ?_⟩; have n0_ := Aside0.mk (blk_below (g := gb187) (o := .cells #[.bool false, .string (⟨#[]⟩ : ByteArray), .string (⟨#[]⟩ : ByteArray), .int .i64 0] 25 (0, 0)) qng35_ hb); have n1_ := Aside0.mk (below_step qng60_ hb); clear BK187; clear HB; have BK187 := n0_; have HB := n1_; clear n0_ n1_; (try clear hb); (try clear hb2); (try clear hk); (try clear hi)) | (have ztk11 := tk11; clear tk11 ztk11; (with_reducible refine gate_dst (N := 4) rfl ?_); (try (refine gate_guard (by rfl) ?_; dsimp only)); refine box_event ?hg (N := 4) ?hd (cs := #[.bool false, .string (⟨#[]⟩ : ByteArray), .string (⟨#[]⟩ : ByteArray), .int .i64 0]) (t := 25) ?hr ?_; (case hd => rfl); (case hg => rfl); (case hr => first | (go_simp; done) | (go_simp; rfl)); intro gb192 hg w6 hbox hb; have n0_ := Aside0.mk (blk_below (g := gb187) (o := .cells #[.bool false, .string (⟨#[]⟩ : ByteArray), .string (⟨#[]⟩ : ByteArray), .int .i64 0] 25 (0, 0)) qng35_ hb); have n1_ := Aside0.mk (below_step qng60_ hb); have n2_ := Aside0.mk (hbox); have n3_ := Aside0.mk ((by rw [hg]; exact (below_size qng60_) : w.heap.size ≤ gb192)); have n4_ := Aside0.mk ((by rw [hg]; exact (below_size qng60_) : w.heap.size ≤ gb192)); have n5_ := Aside0.mk ((by rw [hg]; exact Nat.ne_of_lt (blk_lt (g := gb187) (o := .cells #[.bool false, .string (⟨#[]⟩ : ByteArray), .string (⟨#[]⟩ : ByteArray), .int .i64 0] 25 (0, 0)) qng35_) : gb187 ≠ gb192)); have n6_ := Aside0.mk ((by rw [hg]; exact Nat.ne_of_gt (blk_lt (g := gb187) (o := .cells #[.bool false, .string (⟨#[]⟩ : ByteArray), .string (⟨#[]⟩ : ByteArray), .int .i64 0] 25 (0, 0)) qng35_) : gb192 ≠ gb187)); clear BK187; clear HB; have BK187 := n0_; have HB := n1_; have BK192 := n2_; have GW192 := n3_; have GE192 := n4_; have NB187_192 := n5_; have NB192_187 := n6_; clear n0_ n1_ n2_ n3_ n4_ n5_ n6_; clear hb hbox hg; have hnb7 := NB192_187.out; have hnc7 := NB187_192.out; have hcz8_0 : w6.cell? ⟨gb192, 0, none⟩ = some (.bool false) := (blk_cell BK192.out 0).trans rfl; have hcz8_1 : w6.cell? ⟨gb192, 1, none⟩ = some (.string (⟨#[]⟩ : ByteArray)) := (blk_cell BK192.out 1).trans rfl; have hcz8_2 : w6.cell? ⟨gb192, 2, none⟩ = some (.string (⟨#[]⟩ : ByteArray)) := (blk_cell BK192.out 2).trans rfl; have hcz8_3 : w6.cell? ⟨gb192, 3, none⟩ = some (.int .i64 0) := (blk_cell BK192.out 3).trans rfl; have hfz8_0 := blk_frozen BK192.out 0; have hfz8_1 := blk_frozen BK192.out 1; have hfz8_2 := blk_frozen BK192.out 2; have hfz8_3 := blk_frozen BK192.out 3))
 (try simp only [Act.put, List.setIfInBounds_toArray, List.set_cons_zero, List.set_cons_succ])
 go_cut [18] (fun v18 wc => ∃ (kq : Nat) (x18_2 : Bool), v18 = .bool x18_2 ∧ Aside0 (numeral_Human.j0 kq a0 x18_2 t188 t189 t190 t191 = some (r1, r2, r3, r4, r5)) ∧ Aside0 (kq ≤ k) ∧ Aside0 (wc.heap[gb187]? = some (.cells #[.bool false, .string (⟨#[]⟩ : ByteArray), .string (⟨#[]⟩ : ByteArray), .int .i64 0] 25 (0, 0))) ∧ Aside0 (wc.heap[gb192]? = some (.cells #[.bool t188, .string t189, .string t190, .int .i64 t191] 25 (0, 0))) ∧ Aside0 (Below w.heap.size w wc))
 case first =>
  have H := HC3.out
  clear HC3
  by_cases c12 : t191 = 0
  ·
   rw [if_pos c12] at H
   have c12b0 : (t191 == 0) = true := beq_iff_eq.mpr c12
   have c12b1 : (t191 != 0) = false := bne_eq_false_iff_eq.mpr c12
   clear c12
   (first | rw [c12b0] | (simp only [i64_w, i32_w]; rw [c12b0]) | skip)
   have H' := Aside0.mk H
   clear H
   have hnb13 := NB192_187.out
   have hnc13 := NB187_192.out
   have hcz14_0 : w6.cell? ⟨gb192, 0, none⟩ = some (.bool false) := (blk_cell BK192.out 0).trans rfl
   have hcz14_1 : w6.cell? ⟨gb192, 1, none⟩ = some (.string (⟨#[]⟩ : ByteArray)) := (blk_cell BK192.out 1).trans rfl
   have hcz14_2 : w6.cell? ⟨gb192, 2, none⟩ = some (.string (⟨#[]⟩ : ByteArray)) := (blk_cell BK192.out 2).trans rfl
   have hcz14_3 : w6.cell? ⟨gb192, 3, none⟩ = some (.int .i64 0) := (blk_cell BK192.out 3).trans rfl
   have hfz14_0 := blk_frozen BK192.out 0
   have hfz14_1 := blk_frozen BK192.out 1
   have hfz14_2 := blk_frozen BK192.out 2
   have hfz14_3 := blk_frozen BK192.out 3
   go_wp2
   go_meet
   case rel => exact ⟨_, (true), qng2_, H', ⟨by first | omega | exact Nat.le_refl _⟩, ⟨by (with_reducible repeat (first | refine blk_drewN ?_ _ | refine blk_drew ?_ | refine blk_alloc ?_ _)); refine blk_far ?_ NB187_192.out _; (with_reducible repeat (first | refine blk_drewN ?_ _ | refine blk_drew ?_ | refine blk_alloc ?_ _)); refine blk_far ?_ NB187_192.out _; (with_reducible repeat (first | refine blk_drewN ?_ _ | refine blk_drew ?_ | refine blk_alloc ?_ _)); refine blk_far ?_ NB187_192.out _; (with_reducible repeat (first | refine blk_drewN ?_ _ | refine blk_drew ?_ | refine blk_alloc ?_ _)); refine blk_far ?_ NB187_192.out _; (with_reducible repeat (first | refine blk_drewN ?_ _ | refine blk_drew ?_ | refine blk_alloc ?_ _)); exact BK187.out⟩, ⟨by (with_reducible repeat (first | refine blk_drewN ?_ _ | refine blk_drew ?_ | refine blk_alloc ?_ _)); refine blk_put (cs := #[.bool t188, .string t189, .string t190, .int .i64 0]) ?_ 3 _ rfl; (with_reducible repeat (first | refine blk_drewN ?_ _ | refine blk_drew ?_ | refine blk_alloc ?_ _)); refine blk_put (cs := #[.bool t188, .string t189, .string (⟨#[]⟩ : ByteArray), .int .i64 0]) ?_ 2 _ rfl; (with_reducible repeat (first | refine blk_drewN ?_ _ | refine blk_drew ?_ | refine blk_alloc ?_ _)); refine blk_put (cs := #[.bool t188, .string (⟨#[]⟩ : ByteArray), .string (⟨#[]⟩ : ByteArray), .int .i64 0]) ?_ 1 _ rfl; (with_reducible repeat (first | refine blk_drewN ?_ _ | refine blk_drew ?_ | refine blk_alloc ?_ _)); refine blk_put (cs := #[.bool false, .string (⟨#[]⟩ : ByteArray), .string (⟨#[]⟩ : ByteArray), .int .i64 0]) ?_ 0 _ rfl; (with_reducible repeat (first | refine blk_drewN ?_ _ | refine blk_drew ?_ | refine blk_alloc ?_ _)); exact BK192.out⟩, ⟨qng15_⟩⟩
  ·
   rw [if_neg c12] at H
   have c12b0 : (t191 == 0) = false := beq_eq_false_iff_ne.mpr c12
   have c12b1 : (t191 != 0) = true := bne_iff_ne.mpr c12
   (first | rw [c12b0] | (simp only [i64_w, i32_w]; rw [c12b0]) | skip)
   have H' := Aside0.mk H
   clear H
   have hnb15 := NB192_187.out
   have hnc15 := NB187_192.out
   have hcz16_0 : w6.cell? ⟨gb192, 0, none⟩ = some (.bool false) := (blk_cell BK192.out 0).trans rfl
   have hcz16_1 : w6.cell? ⟨gb192, 1, none⟩ = some (.string (⟨#[]⟩ : ByteArray)) := (blk_cell BK192.out 1).trans rfl
   have hcz16_2 : w6.cell? ⟨gb192, 2, none⟩ = some (.string (⟨#[]⟩ : ByteArray)) := (blk_cell BK192.out 2).trans rfl
   have hcz16_3 : w6.cell? ⟨gb192, 3, none⟩ = some (.int .i64 0) := (blk_cell BK192.out 3).trans rfl
   have hfz16_0 := blk_frozen BK192.out 0
   have hfz16_1 := blk_frozen BK192.out 1
   have hfz16_2 := blk_frozen BK192.out 2
   have hfz16_3 := blk_frozen BK192.out 3
   go_wp2
   go_meet
   case rel => exact ⟨_, ((t191 == (a0.size : Int))), qng2_, H', ⟨by first | omega | exact Nat.le_refl _⟩, ⟨by (with_reducible repeat (first | refine blk_drewN ?_ _ | refine blk_drew ?_ | refine blk_alloc ?_ _)); refine blk_far ?_ NB187_192.out _; (with_reducible repeat (first | refine blk_drewN ?_ _ | refine blk_drew ?_ | refine blk_alloc ?_ _)); refine blk_far ?_ NB187_192.out _; (with_reducible repeat (first | refine blk_drewN ?_ _ | refine blk_drew ?_ | refine blk_alloc ?_ _)); refine blk_far ?_ NB187_192.out _; (with_reducible repeat (first | refine blk_drewN ?_ _ | refine blk_drew ?_ | refine blk_alloc ?_ _)); refine blk_far ?_ NB187_192.out _; (with_reducible repeat (first | refine blk_drewN ?_ _ | refine blk_drew ?_ | refine blk_alloc ?_ _)); exact BK187.out⟩, ⟨by (with_reducible repeat (first | refine blk_drewN ?_ _ | refine blk_drew ?_ | refine blk_alloc ?_ _)); refine blk_put (cs := #[.bool t188, .string t189, .string t190, .int .i64 0]) ?_ 3 _ rfl; (with_reducible repeat (first | refine blk_drewN ?_ _ | refine blk_drew ?_ | refine blk_alloc ?_ _)); refine blk_put (cs := #[.bool t188, .string t189, .string (⟨#[]⟩ : ByteArray), .int .i64 0]) ?_ 2 _ rfl; (with_reducible repeat (first | refine blk_drewN ?_ _ | refine blk_drew ?_ | refine blk_alloc ?_ _)); refine blk_put (cs := #[.bool t188, .string (⟨#[]⟩ : ByteArray), .string (⟨#[]⟩ : ByteArray), .int .i64 0]) ?_ 1 _ rfl; (with_reducible repeat (first | refine blk_drewN ?_ _ | refine blk_drew ?_ | refine blk_alloc ?_ _)); refine blk_put (cs := #[.bool false, .string (⟨#[]⟩ : ByteArray), .string (⟨#[]⟩ : ByteArray), .int .i64 0]) ?_ 0 _ rfl; (with_reducible repeat (first | refine blk_drewN ?_ _ | refine blk_drew ?_ | refine blk_alloc ?_ _)); exact BK192.out⟩, ⟨qng15_⟩⟩
 case rest =>
  clear HC3
  (try clear c1); (try clear c2); (try clear p2); (try clear c7); (try clear c12); (try clear c12b0); (try clear c12b1); (try clear c13); (try clear c15); (try clear c16); (try clear hcz14_0); (try clear hcz14_1); (try clear hcz14_2); (try clear hcz14_3); (try clear hcz16_0); (try clear hcz16_1); (try clear hcz16_2); (try clear hcz16_3); (try clear hcz8_0); (try clear hcz8_1); (try clear hcz8_2); (try clear hcz8_3)
  (try clear hfz14_0); (try clear hfz14_1); (try clear hfz14_2); (try clear hfz14_3); (try clear hfz16_0); (try clear hfz16_1); (try clear hfz16_2); (try clear hfz16_3); (try clear hfz8_0); (try clear hfz8_1); (try clear hfz8_2); (try clear hfz8_3)
  obtain ⟨kq, x18_2, rfl, HA, HJ2, BK187, BK192, HB⟩ := hcut
  cases kq with
  | zero => exact absurd HA.out (by simp [numeral_Human.j0])
  | succ kj2 =>
   have H := HA.out
   clear HA
   simp only [numeral_Human.j0] at H
   by_cases c17 : x18_2 = true
   ·
    subst c17
    have H1 : (some (t188, t189, t190, t191, 0)) = some (r1, r2, r3, r4, r5) := by rw [if_pos rfl] at H; exact H
    clear H
    have H := H1
    clear H1
    simp only [Option.some.injEq, Prod.mk.injEq] at H
    obtain ⟨rfl, rfl, rfl, rfl, rfl⟩ := H
    have hnb18 := NB192_187.out
    have hnc18 := NB187_192.out
    have hcz19_0 : wc.cell? ⟨gb192, 0, none⟩ = some (.bool t188) := (blk_cell BK192.out 0).trans rfl
    have hcz19_1 : wc.cell? ⟨gb192, 1, none⟩ = some (.string t189) := (blk_cell BK192.out 1).trans rfl
    have hcz19_2 : wc.cell? ⟨gb192, 2, none⟩ = some (.string t190) := (blk_cell BK192.out 2).trans rfl
    have hcz19_3 : wc.cell? ⟨gb192, 3, none⟩ = some (.int .i64 t191) := (blk_cell BK192.out 3).trans rfl
    have hfz19_0 := blk_frozen BK192.out 0
    have hfz19_1 := blk_frozen BK192.out 1
    have hfz19_2 := blk_frozen BK192.out 2
    have hfz19_3 := blk_frozen BK192.out 3
    have hcz20_0 : wc.cell? ⟨gb187, 0, none⟩ = some (.bool false) := (blk_cell BK187.out 0).trans rfl
    have hcz20_1 : wc.cell? ⟨gb187, 1, none⟩ = some (.string (⟨#[]⟩ : ByteArray)) := (blk_cell BK187.out 1).trans rfl
    have hcz20_2 : wc.cell? ⟨gb187, 2, none⟩ = some (.string (⟨#[]⟩ : ByteArray)) := (blk_cell BK187.out 2).trans rfl
    have hcz20_3 : wc.cell? ⟨gb187, 3, none⟩ = some (.int .i64 0) := (blk_cell BK187.out 3).trans rfl
    have hfz20_0 := blk_frozen BK187.out 0
    have hfz20_1 := blk_frozen BK187.out 1
    have hfz20_2 := blk_frozen BK187.out 2
    have hfz20_3 := blk_frozen BK187.out 3
    go_wp2
    refine bodyPost_ret (results_ct rfl _ _ gb187 25 #[.bool t188, .string t189, .string t190, .int .i64 t191] (0, 0) _ rfl qng16_ Tryd.underlying25 rfl (by kernel_rfl)) rfl ?_
    exact ⟨qng6_, qng15_⟩
   ·
    replace c17 := Bool.eq_false_iff.mpr c17
    subst c17
    have H1 : (if 0 ≤ t191 then (if t191 < (a0.size : Int) then (if (bt a0 t191) = 107 then (numeral_Human.j1 kj2 75 t188 t189 t190 t191) else (numeral_Human.j1 kj2 (bt a0 t191) t188 t189 t190 t191)) else (none)) else (none)) = some (r1, r2, r3, r4, r5) := by rw [if_neg (show ¬ (false = true) by decide)] at H; exact H
    clear H
    have H := H1
    clear H1
    by_cases c21 : 0 ≤ t191
    ·
     rw [if_pos c21] at H
     have c21b0 : decide (0 ≤ t191) = true := decide_eq_true c21
     clear c21
     by_cases c22 : t191 < (a0.size : Int)
     ·
      rw [if_pos c22] at H
      have c22b0 : decide (t191 < (a0.size : Int)) = true := decide_eq_true c22
      clear c22
      have HC24 := Aside0.mk H
      clear H
      have hnb25 := NB192_187.out
      have hnc25 := NB187_192.out
      have hcz26_0 : wc.cell? ⟨gb192, 0, none⟩ = some (.bool t188) := (blk_cell BK192.out 0).trans rfl
      have hcz26_1 : wc.cell? ⟨gb192, 1, none⟩ = some (.string t189) := (blk_cell BK192.out 1).trans rfl
      have hcz26_2 : wc.cell? ⟨gb192, 2, none⟩ = some (.string t190) := (blk_cell BK192.out 2).trans rfl
      have hcz26_3 : wc.cell? ⟨gb192, 3, none⟩ = some (.int .i64 t191) := (blk_cell BK192.out 3).trans rfl
      have hfz26_0 := blk_frozen BK192.out 0
      have hfz26_1 := blk_frozen BK192.out 1
      have hfz26_2 := blk_frozen BK192.out 2
      have hfz26_3 := blk_frozen BK192.out 3
      have p23 : 0 ≤ (t191 : Int) := of_decide_eq_true qng3_
      have q23 : t191 < (a0.size : Int) := of_decide_eq_true qng3_
      have hx23 := bt_at a0 t191
      replace p23 := eq_true p23
      replace q23 := eq_true q23
      go_upto_if 25 with (fail)
      go_cut [5] (fun v5 wc => ∃ (kq : Nat) (x5_23 : Int), v5 = .int .u8 x5_23 ∧ Aside0 (numeral_Human.j1 kq x5_23 t188 t189 t190 t191 = some (r1, r2, r3, r4, r5)) ∧ Aside0 (kq ≤ kj2) ∧ Aside0 (wc.heap[gb187]? = some (.cells #[.bool false, .string (⟨#[]⟩ : ByteArray), .string (⟨#[]⟩ : ByteArray), .int .i64 0] 25 (0, 0))) ∧ Aside0 (wc.heap[gb192]? = some (.cells #[.bool t188, .string t189, .string t190, .int .i64 t191] 25 (0, 0))) ∧ Aside0 (Below w.heap.size w wc))
      case first =>
       have H := HC24.out
       clear HC24
       by_cases c27 : (bt a0 t191) = 107
       ·
        rw [if_pos c27] at H
        have c27b0 : ((bt a0 t191) == 107) = true := beq_iff_eq.mpr c27
        have c27b1 : ((bt a0 t191) != 107) = false := bne_eq_false_iff_eq.mpr c27
        clear c27
        (first | rw [c27b0] | (simp only [i64_w, i32_w]; rw [c27b0]) | skip)
        have H' := Aside0.mk H
        clear H
        go_wp2
        go_meet
        case rel => exact ⟨_, (75), qng2_, H', ⟨by have := HJ2.out; first | omega | exact Nat.le_refl _⟩, ⟨qng35_⟩, ⟨qng51_⟩, ⟨qng15_⟩⟩
       ·
        rw [if_neg c27] at H
        have c27b0 : ((bt a0 t191) == 107) = false := beq_eq_false_iff_ne.mpr c27
        have c27b1 : ((bt a0 t191) != 107) = true := bne_iff_ne.mpr c27
        (first | rw [c27b0] | (simp only [i64_w, i32_w]; rw [c27b0]) | skip)
        have H' := Aside0.mk H
        clear H
        go_wp2
        go_meet
        case rel => exact ⟨_, (bt a0 t191), qng2_, H', ⟨by have := HJ2.out; first | omega | exact Nat.le_refl _⟩, ⟨qng35_⟩, ⟨qng51_⟩, ⟨qng15_⟩⟩
      case rest =>
       clear HC24
       (try clear c1); (try clear c2); (try clear p2); (try clear q2); (try clear hx2); (try clear c7); (try clear c12); (try clear c12b0); (try clear c12b1); (try clear c13); (try clear c15); (try clear c16); (try clear c17); (try clear c18); (try clear c20); (try clear c21); (try clear c21b0); (try clear c22); (try clear c22b0); (try clear p23); (try clear q23); (try clear hx23); (try clear c25)
       (try clear c27); (try clear c27b0); (try clear c27b1); (try clear hcz14_0); (try clear hcz14_1); (try clear hcz14_2); (try clear hcz14_3); (try clear hcz16_0); (try clear hcz16_1); (try clear hcz16_2); (try clear hcz16_3); (try clear hcz19_0); (try clear hcz19_1); (try clear hcz19_2); (try clear hcz19_3); (try clear hcz20_0); (try clear hcz20_1); (try clear hcz20_2); (try clear hcz20_3); (try clear hcz26_0)
       (try clear hcz26_1); (try clear hcz26_2); (try clear hcz26_3); (try clear hcz8_0); (try clear hcz8_1); (try clear hcz8_2); (try clear hcz8_3); (try clear hfz14_0); (try clear hfz14_1); (try clear hfz14_2); (try clear hfz14_3); (try clear hfz16_0); (try clear hfz16_1); (try clear hfz16_2); (try clear hfz16_3); (try clear hfz19_0); (try clear hfz19_1); (try clear hfz19_2); (try clear hfz19_3)
       (try clear hfz20_0); (try clear hfz20_1); (try clear hfz20_2); (try clear hfz20_3); (try clear hfz26_0); (try clear hfz26_1); (try clear hfz26_2); (try clear hfz26_3); (try clear hfz8_0); (try clear hfz8_1); (try clear hfz8_2); (try clear hfz8_3); (try clear p2); (try clear p23); (try clear q23)
       obtain ⟨kq, x5_23, rfl, HA, HJ23, BK187, BK192, HB⟩ := hcut
       cases kq with
       | zero => exact absurd HA.out (by simp [numeral_Human.j1])
       | succ kj23 =>
        have H := HA.out
        clear HA
        simp only [numeral_Human.j1] at H
        replace H := Option.bind_eq_some_iff.mp H
        obtain ⟨t193, A280, H⟩ := H
        replace H : (if (wrap64 (t193 + 1)) > 0 then (if t189.toList = ([] : List UInt8) then (if t190.toList = ([] : List UInt8) then (some (t188, t189, t190, wrap64 (t191 + 1), 0)) else (some (t188, t189, t190, wrap64 (t191 + 1), wrap64 (t193 + 1)))) else (some (t188, t189, t190, wrap64 (t191 + 1), wrap64 (t193 + 1)))) else (if t189.toList = ([] : List UInt8) then (if t190.toList = ([] : List UInt8) then (some (t188, t189, t190, t191, 0)) else (some (t188, t189, t190, t191, wrap64 (t193 + 1)))) else (some (t188, t189, t190, t191, wrap64 (t193 + 1))))) = some (r1, r2, r3, r4, r5) := H
        have A28 := Aside0.mk A280
        clear A280
        by_cases c29 : (wrap64 (t193 + 1)) > 0
        ·
         rw [if_pos c29] at H
         have c29b0 : decide (0 < (wrap64 (t193 + 1))) = true := decide_eq_true c29
         clear c29
         by_cases c30 : t189.toList = ([] : List UInt8)
         ·
          rw [if_pos c30] at H
          have c30b0 : (t189.toList == ([] : List UInt8)) = true := beq_iff_eq.mpr c30
          have c30b1 : (t189.toList != ([] : List UInt8)) = false := bne_eq_false_iff_eq.mpr c30
          clear c30
          by_cases c31 : t190.toList = ([] : List UInt8)
          ·
           rw [if_pos c31] at H
           have c31b0 : (t190.toList == ([] : List UInt8)) = true := beq_iff_eq.mpr c31
           have c31b1 : (t190.toList != ([] : List UInt8)) = false := bne_eq_false_iff_eq.mpr c31
           clear c31
           simp only [Option.some.injEq, Prod.mk.injEq] at H
           obtain ⟨rfl, rfl, rfl, rfl, rfl⟩ := H
           go_wp2_with (first | ((with_reducible refine gate_callee (f := 39) rfl ?_); refine goesL_ (some 27) rfl rfl Tryd.func39 (by kernel_rfl) rfl #[.string (⟨#[75, 77, 71, 84, 80, 69, 90, 89, 82, 81]⟩ : ByteArray), .int .u8 x5_23] rfl qng0_ ?_; (with_reducible refine (strings_IndexByte.calls (⟨#[75, 77, 71, 84, 80, 69, 90, 89, 82, 81]⟩ : ByteArray) x5_23 t193 _ A28.out).mono ?_); rintro e w' ⟨rfl, ⟨nd, rfl⟩⟩; refine ⟨_, rfl, ?_⟩; (try (rw [drewN_self wc]; generalize hq_ : World.drewN wc _ = wc; have n0_ : Aside0 (wc.heap[gb187]? = some (.cells #[.bool false, .string (⟨#[]⟩ : ByteArray), .string (⟨#[]⟩ : ByteArray), .int .i64 0] 25 (0, 0))) := ⟨by rw [← hq_]; exact qng35_⟩; have n1_ : Aside0 (wc.heap[gb192]? = some (.cells #[.bool t188, .string t189, .string t190, .int .i64 t191] 25 (0, 0))) := ⟨by rw [← hq_]; exact qng51_⟩; have n2_ : Aside0 (Below w.heap.size w wc) := ⟨by rw [← hq_]; exact qng15_⟩; clear BK187 BK192 HB hq_; have BK187 := n0_; have BK192 := n1_; have HB := n2_; clear n0_ n1_ n2_)); (try (have hcu32_0 : wc.cell? ⟨gb187, 0, none⟩ = some (.bool false) := (blk_cell BK187.out 0).trans rfl; have hfu32_0 := blk_frozen BK187.out 0; have hcu32_1 : wc.cell? ⟨gb187, 1, none⟩ = some (.string (⟨#[]⟩ : ByteArray)) := (blk_cell BK187.out 1).trans rfl; have hfu32_1 := blk_frozen BK187.out 1; have hcu32_2 : wc.cell? ⟨gb187, 2, none⟩ = some (.string (⟨#[]⟩ : ByteArray)) := (blk_cell BK187.out 2).trans rfl; have hfu32_2 := blk_frozen BK187.out 2; have hcu32_3 : wc.cell? ⟨gb187, 3, none⟩ = some (.int .i64 0) := (blk_cell BK187.out 3).trans rfl; have hfu32_3 := blk_frozen BK187.out 3)); (try (have hcu33_0 : wc.cell? ⟨gb192, 0, none⟩ = some (.bool t188) := (blk_cell BK192.out 0).trans rfl; have hfu33_0 := blk_frozen BK192.out 0; have hcu33_1 : wc.cell? ⟨gb192, 1, none⟩ = some (.string t189) := (blk_cell BK192.out 1).trans rfl; have hfu33_1 := blk_frozen BK192.out 1; have hcu33_2 : wc.cell? ⟨gb192, 2, none⟩ = some (.string t190) := (blk_cell BK192.out 2).trans rfl; have hfu33_2 := blk_frozen BK192.out 2; have hcu33_3 : wc.cell? ⟨gb192, 3, none⟩ = some (.int .i64 t191) := (blk_cell BK192.out 3).trans rfl; have hfu33_3 := blk_frozen BK192.out 3)); have hnb34 := NB192_187.out; have hnc34 := NB187_192.out; have hcz35_0 : wc.cell? ⟨gb192, 0, none⟩ = some (.bool t188) := (blk_cell BK192.out 0).trans rfl; have hcz35_1 : wc.cell? ⟨gb192, 1, none⟩ = some (.string t189) := (blk_cell BK192.out 1).trans rfl; have hcz35_2 : wc.cell? ⟨gb192, 2, none⟩ = some (.string t190) := (blk_cell BK192.out 2).trans rfl; have hcz35_3 : wc.cell? ⟨gb192, 3, none⟩ = some (.int .i64 t191) := (blk_cell BK192.out 3).trans rfl; have hfz35_0 := blk_frozen BK192.out 0; have hfz35_1 := blk_frozen BK192.out 1; have hfz35_2 := blk_frozen BK192.out 2; have hfz35_3 := blk_frozen BK192.out 3; have hcz36_0 : wc.cell? ⟨gb187, 0, none⟩ = some (.bool false) := (blk_cell BK187.out 0).trans rfl; have hcz36_1 : wc.cell? ⟨gb187, 1, none⟩ = some (.string (⟨#[]⟩ : ByteArray)) := (blk_cell BK187.out 1).trans rfl; have hcz36_2 : wc.cell? ⟨gb187, 2, none⟩ = some (.string (⟨#[]⟩ : ByteArray)) := (blk_cell BK187.out 2).trans rfl; have hcz36_3 : wc.cell? ⟨gb187, 3, none⟩ = some (.int .i64 0) := (blk_cell BK187.out 3).trans rfl; have hfz36_0 := blk_frozen BK187.out 0; have hfz36_1 := blk_frozen BK187.out 1; have hfz36_2 := blk_frozen BK187.out 2; have hfz36_3 := blk_frozen BK187.out 3))
           refine bodyPost_ret (results_ct rfl _ _ gb187 25 #[.bool t188, .string t189, .string t190, .int .i64 (wrap64 (t191 + 1))] (0, 0) _ rfl qng20_ Tryd.underlying25 rfl (by kernel_rfl)) rfl ?_
           exact ⟨qng6_, qng15_⟩
          ·
           rw [if_neg c31] at H
           have c31b0 : (t190.toList == ([] : List UInt8)) = false := beq_eq_false_iff_ne.mpr c31
           have c31b1 : (t190.toList != ([] : List UInt8)) = true := bne_iff_ne.mpr c31
           simp only [Option.some.injEq, Prod.mk.injEq] at H
           obtain ⟨rfl, rfl, rfl, rfl, rfl⟩ := H
           go_wp2_with (first | ((with_reducible refine gate_callee (f := 39) rfl ?_); refine goesL_ (some 27) rfl rfl Tryd.func39 (by kernel_rfl) rfl #[.string (⟨#[75, 77, 71, 84, 80, 69, 90, 89, 82, 81]⟩ : ByteArray), .int .u8 x5_23] rfl qng0_ ?_; (with_reducible refine (strings_IndexByte.calls (⟨#[75, 77, 71, 84, 80, 69, 90, 89, 82, 81]⟩ : ByteArray) x5_23 t193 _ A28.out).mono ?_); rintro e w' ⟨rfl, ⟨nd, rfl⟩⟩; refine ⟨_, rfl, ?_⟩; (try (rw [drewN_self wc]; generalize hq_ : World.drewN wc _ = wc; have n0_ : Aside0 (wc.heap[gb187]? = some (.cells #[.bool false, .string (⟨#[]⟩ : ByteArray), .string (⟨#[]⟩ : ByteArray), .int .i64 0] 25 (0, 0))) := ⟨by rw [← hq_]; exact qng35_⟩; have n1_ : Aside0 (wc.heap[gb192]? = some (.cells #[.bool t188, .string t189, .string t190, .int .i64 t191] 25 (0, 0))) := ⟨by rw [← hq_]; exact qng51_⟩; have n2_ : Aside0 (Below w.heap.size w wc) := ⟨by rw [← hq_]; exact qng15_⟩; clear BK187 BK192 HB hq_; have BK187 := n0_; have BK192 := n1_; have HB := n2_; clear n0_ n1_ n2_)); (try (have hcu37_0 : wc.cell? ⟨gb187, 0, none⟩ = some (.bool false) := (blk_cell BK187.out 0).trans rfl; have hfu37_0 := blk_frozen BK187.out 0; have hcu37_1 : wc.cell? ⟨gb187, 1, none⟩ = some (.string (⟨#[]⟩ : ByteArray)) := (blk_cell BK187.out 1).trans rfl; have hfu37_1 := blk_frozen BK187.out 1; have hcu37_2 : wc.cell? ⟨gb187, 2, none⟩ = some (.string (⟨#[]⟩ : ByteArray)) := (blk_cell BK187.out 2).trans rfl; have hfu37_2 := blk_frozen BK187.out 2; have hcu37_3 : wc.cell? ⟨gb187, 3, none⟩ = some (.int .i64 0) := (blk_cell BK187.out 3).trans rfl; have hfu37_3 := blk_frozen BK187.out 3)); (try (have hcu38_0 : wc.cell? ⟨gb192, 0, none⟩ = some (.bool t188) := (blk_cell BK192.out 0).trans rfl; have hfu38_0 := blk_frozen BK192.out 0; have hcu38_1 : wc.cell? ⟨gb192, 1, none⟩ = some (.string t189) := (blk_cell BK192.out 1).trans rfl; have hfu38_1 := blk_frozen BK192.out 1; have hcu38_2 : wc.cell? ⟨gb192, 2, none⟩ = some (.string t190) := (blk_cell BK192.out 2).trans rfl; have hfu38_2 := blk_frozen BK192.out 2; have hcu38_3 : wc.cell? ⟨gb192, 3, none⟩ = some (.int .i64 t191) := (blk_cell BK192.out 3).trans rfl; have hfu38_3 := blk_frozen BK192.out 3)); have hnb39 := NB192_187.out; have hnc39 := NB187_192.out; have hcz40_0 : wc.cell? ⟨gb192, 0, none⟩ = some (.bool t188) := (blk_cell BK192.out 0).trans rfl; have hcz40_1 : wc.cell? ⟨gb192, 1, none⟩ = some (.string t189) := (blk_cell BK192.out 1).trans rfl; have hcz40_2 : wc.cell? ⟨gb192, 2, none⟩ = some (.string t190) := (blk_cell BK192.out 2).trans rfl; have hcz40_3 : wc.cell? ⟨gb192, 3, none⟩ = some (.int .i64 t191) := (blk_cell BK192.out 3).trans rfl; have hfz40_0 := blk_frozen BK192.out 0; have hfz40_1 := blk_frozen BK192.out 1; have hfz40_2 := blk_frozen BK192.out 2; have hfz40_3 := blk_frozen BK192.out 3; have hcz41_0 : wc.cell? ⟨gb187, 0, none⟩ = some (.bool false) := (blk_cell BK187.out 0).trans rfl; have hcz41_1 : wc.cell? ⟨gb187, 1, none⟩ = some (.string (⟨#[]⟩ : ByteArray)) := (blk_cell BK187.out 1).trans rfl; have hcz41_2 : wc.cell? ⟨gb187, 2, none⟩ = some (.string (⟨#[]⟩ : ByteArray)) := (blk_cell BK187.out 2).trans rfl; have hcz41_3 : wc.cell? ⟨gb187, 3, none⟩ = some (.int .i64 0) := (blk_cell BK187.out 3).trans rfl; have hfz41_0 := blk_frozen BK187.out 0; have hfz41_1 := blk_frozen BK187.out 1; have hfz41_2 := blk_frozen BK187.out 2; have hfz41_3 := blk_frozen BK187.out 3))
           refine bodyPost_ret (results_ct rfl _ _ gb187 25 #[.bool t188, .string t189, .string t190, .int .i64 (wrap64 (t191 + 1))] (0, 0) _ rfl qng20_ Tryd.underlying25 rfl (by kernel_rfl)) rfl ?_
           exact ⟨qng6_, qng15_⟩
         ·
          rw [if_neg c30] at H
          have c30b0 : (t189.toList == ([] : List UInt8)) = false := beq_eq_false_iff_ne.mpr c30
          have c30b1 : (t189.toList != ([] : List UInt8)) = true := bne_iff_ne.mpr c30
          simp only [Option.some.injEq, Prod.mk.injEq] at H
          obtain ⟨rfl, rfl, rfl, rfl, rfl⟩ := H
          go_wp2_with (first | ((with_reducible refine gate_callee (f := 39) rfl ?_); refine goesL_ (some 27) rfl rfl Tryd.func39 (by kernel_rfl) rfl #[.string (⟨#[75, 77, 71, 84, 80, 69, 90, 89, 82, 81]⟩ : ByteArray), .int .u8 x5_23] rfl qng0_ ?_; (with_reducible refine (strings_IndexByte.calls (⟨#[75, 77, 71, 84, 80, 69, 90, 89, 82, 81]⟩ : ByteArray) x5_23 t193 _ A28.out).mono ?_); rintro e w' ⟨rfl, ⟨nd, rfl⟩⟩; refine ⟨_, rfl, ?_⟩; (try (rw [drewN_self wc]; generalize hq_ : World.drewN wc _ = wc; have n0_ : Aside0 (wc.heap[gb187]? = some (.cells #[.bool false, .string (⟨#[]⟩ : ByteArray), .string (⟨#[]⟩ : ByteArray), .int .i64 0] 25 (0, 0))) := ⟨by rw [← hq_]; exact qng35_⟩; have n1_ : Aside0 (wc.heap[gb192]? = some (.cells #[.bool t188, .string t189, .string t190, .int .i64 t191] 25 (0, 0))) := ⟨by rw [← hq_]; exact qng51_⟩; have n2_ : Aside0 (Below w.heap.size w wc) := ⟨by rw [← hq_]; exact qng15_⟩; clear BK187 BK192 HB hq_; have BK187 := n0_; have BK192 := n1_; have HB := n2_; clear n0_ n1_ n2_)); (try (have hcu42_0 : wc.cell? ⟨gb187, 0, none⟩ = some (.bool false) := (blk_cell BK187.out 0).trans rfl; have hfu42_0 := blk_frozen BK187.out 0; have hcu42_1 : wc.cell? ⟨gb187, 1, none⟩ = some (.string (⟨#[]⟩ : ByteArray)) := (blk_cell BK187.out 1).trans rfl; have hfu42_1 := blk_frozen BK187.out 1; have hcu42_2 : wc.cell? ⟨gb187, 2, none⟩ = some (.string (⟨#[]⟩ : ByteArray)) := (blk_cell BK187.out 2).trans rfl; have hfu42_2 := blk_frozen BK187.out 2; have hcu42_3 : wc.cell? ⟨gb187, 3, none⟩ = some (.int .i64 0) := (blk_cell BK187.out 3).trans rfl; have hfu42_3 := blk_frozen BK187.out 3)); (try (have hcu43_0 : wc.cell? ⟨gb192, 0, none⟩ = some (.bool t188) := (blk_cell BK192.out 0).trans rfl; have hfu43_0 := blk_frozen BK192.out 0; have hcu43_1 : wc.cell? ⟨gb192, 1, none⟩ = some (.string t189) := (blk_cell BK192.out 1).trans rfl; have hfu43_1 := blk_frozen BK192.out 1; have hcu43_2 : wc.cell? ⟨gb192, 2, none⟩ = some (.string t190) := (blk_cell BK192.out 2).trans rfl; have hfu43_2 := blk_frozen BK192.out 2; have hcu43_3 : wc.cell? ⟨gb192, 3, none⟩ = some (.int .i64 t191) := (blk_cell BK192.out 3).trans rfl; have hfu43_3 := blk_frozen BK192.out 3)); have hnb44 := NB192_187.out; have hnc44 := NB187_192.out; have hcz45_0 : wc.cell? ⟨gb192, 0, none⟩ = some (.bool t188) := (blk_cell BK192.out 0).trans rfl; have hcz45_1 : wc.cell? ⟨gb192, 1, none⟩ = some (.string t189) := (blk_cell BK192.out 1).trans rfl; have hcz45_2 : wc.cell? ⟨gb192, 2, none⟩ = some (.string t190) := (blk_cell BK192.out 2).trans rfl; have hcz45_3 : wc.cell? ⟨gb192, 3, none⟩ = some (.int .i64 t191) := (blk_cell BK192.out 3).trans rfl; have hfz45_0 := blk_frozen BK192.out 0; have hfz45_1 := blk_frozen BK192.out 1; have hfz45_2 := blk_frozen BK192.out 2; have hfz45_3 := blk_frozen BK192.out 3; have hcz46_0 : wc.cell? ⟨gb187, 0, none⟩ = some (.bool false) := (blk_cell BK187.out 0).trans rfl; have hcz46_1 : wc.cell? ⟨gb187, 1, none⟩ = some (.string (⟨#[]⟩ : ByteArray)) := (blk_cell BK187.out 1).trans rfl; have hcz46_2 : wc.cell? ⟨gb187, 2, none⟩ = some (.string (⟨#[]⟩ : ByteArray)) := (blk_cell BK187.out 2).trans rfl; have hcz46_3 : wc.cell? ⟨gb187, 3, none⟩ = some (.int .i64 0) := (blk_cell BK187.out 3).trans rfl; have hfz46_0 := blk_frozen BK187.out 0; have hfz46_1 := blk_frozen BK187.out 1; have hfz46_2 := blk_frozen BK187.out 2; have hfz46_3 := blk_frozen BK187.out 3))
          refine bodyPost_ret (results_ct rfl _ _ gb187 25 #[.bool t188, .string t189, .string t190, .int .i64 (wrap64 (t191 + 1))] (0, 0) _ rfl qng20_ Tryd.underlying25 rfl (by kernel_rfl)) rfl ?_
          exact ⟨qng6_, qng15_⟩
        ·
         rw [if_neg c29] at H
         have c29b0 : decide (0 < (wrap64 (t193 + 1))) = false := decide_eq_false c29
         clear c29
         by_cases c47 : t189.toList = ([] : List UInt8)
         ·
          rw [if_pos c47] at H
          have c47b0 : (t189.toList == ([] : List UInt8)) = true := beq_iff_eq.mpr c47
          have c47b1 : (t189.toList != ([] : List UInt8)) = false := bne_eq_false_iff_eq.mpr c47
          clear c47
          by_cases c48 : t190.toList = ([] : List UInt8)
          ·
           rw [if_pos c48] at H
           have c48b0 : (t190.toList == ([] : List UInt8)) = true := beq_iff_eq.mpr c48
           have c48b1 : (t190.toList != ([] : List UInt8)) = false := bne_eq_false_iff_eq.mpr c48
           clear c48
           simp only [Option.some.injEq, Prod.mk.injEq] at H
           obtain ⟨rfl, rfl, rfl, rfl, rfl⟩ := H
           go_wp2_with (first | ((with_reducible refine gate_callee (f := 39) rfl ?_); refine goesL_ (some 27) rfl rfl Tryd.func39 (by kernel_rfl) rfl #[.string (⟨#[75, 77, 71, 84, 80, 69, 90, 89, 82, 81]⟩ : ByteArray), .int .u8 x5_23] rfl qng0_ ?_; (with_reducible refine (strings_IndexByte.calls (⟨#[75, 77, 71, 84, 80, 69, 90, 89, 82, 81]⟩ : ByteArray) x5_23 t193 _ A28.out).mono ?_); rintro e w' ⟨rfl, ⟨nd, rfl⟩⟩; refine ⟨_, rfl, ?_⟩; (try (rw [drewN_self wc]; generalize hq_ : World.drewN wc _ = wc; have n0_ : Aside0 (wc.heap[gb187]? = some (.cells #[.bool false, .string (⟨#[]⟩ : ByteArray), .string (⟨#[]⟩ : ByteArray), .int .i64 0] 25 (0, 0))) := ⟨by rw [← hq_]; exact qng35_⟩; have n1_ : Aside0 (wc.heap[gb192]? = some (.cells #[.bool t188, .string t189, .string t190, .int .i64 t191] 25 (0, 0))) := ⟨by rw [← hq_]; exact qng51_⟩; have n2_ : Aside0 (Below w.heap.size w wc) := ⟨by rw [← hq_]; exact qng15_⟩; clear BK187 BK192 HB hq_; have BK187 := n0_; have BK192 := n1_; have HB := n2_; clear n0_ n1_ n2_)); (try (have hcu49_0 : wc.cell? ⟨gb187, 0, none⟩ = some (.bool false) := (blk_cell BK187.out 0).trans rfl; have hfu49_0 := blk_frozen BK187.out 0; have hcu49_1 : wc.cell? ⟨gb187, 1, none⟩ = some (.string (⟨#[]⟩ : ByteArray)) := (blk_cell BK187.out 1).trans rfl; have hfu49_1 := blk_frozen BK187.out 1; have hcu49_2 : wc.cell? ⟨gb187, 2, none⟩ = some (.string (⟨#[]⟩ : ByteArray)) := (blk_cell BK187.out 2).trans rfl; have hfu49_2 := blk_frozen BK187.out 2; have hcu49_3 : wc.cell? ⟨gb187, 3, none⟩ = some (.int .i64 0) := (blk_cell BK187.out 3).trans rfl; have hfu49_3 := blk_frozen BK187.out 3)); (try (have hcu50_0 : wc.cell? ⟨gb192, 0, none⟩ = some (.bool t188) := (blk_cell BK192.out 0).trans rfl; have hfu50_0 := blk_frozen BK192.out 0; have hcu50_1 : wc.cell? ⟨gb192, 1, none⟩ = some (.string t189) := (blk_cell BK192.out 1).trans rfl; have hfu50_1 := blk_frozen BK192.out 1; have hcu50_2 : wc.cell? ⟨gb192, 2, none⟩ = some (.string t190) := (blk_cell BK192.out 2).trans rfl; have hfu50_2 := blk_frozen BK192.out 2; have hcu50_3 : wc.cell? ⟨gb192, 3, none⟩ = some (.int .i64 t191) := (blk_cell BK192.out 3).trans rfl; have hfu50_3 := blk_frozen BK192.out 3)); have hnb51 := NB192_187.out; have hnc51 := NB187_192.out; have hcz52_0 : wc.cell? ⟨gb192, 0, none⟩ = some (.bool t188) := (blk_cell BK192.out 0).trans rfl; have hcz52_1 : wc.cell? ⟨gb192, 1, none⟩ = some (.string t189) := (blk_cell BK192.out 1).trans rfl; have hcz52_2 : wc.cell? ⟨gb192, 2, none⟩ = some (.string t190) := (blk_cell BK192.out 2).trans rfl; have hcz52_3 : wc.cell? ⟨gb192, 3, none⟩ = some (.int .i64 t191) := (blk_cell BK192.out 3).trans rfl; have hfz52_0 := blk_frozen BK192.out 0; have hfz52_1 := blk_frozen BK192.out 1; have hfz52_2 := blk_frozen BK192.out 2; have hfz52_3 := blk_frozen BK192.out 3; have hcz53_0 : wc.cell? ⟨gb187, 0, none⟩ = some (.bool false) := (blk_cell BK187.out 0).trans rfl; have hcz53_1 : wc.cell? ⟨gb187, 1, none⟩ = some (.string (⟨#[]⟩ : ByteArray)) := (blk_cell BK187.out 1).trans rfl; have hcz53_2 : wc.cell? ⟨gb187, 2, none⟩ = some (.string (⟨#[]⟩ : ByteArray)) := (blk_cell BK187.out 2).trans rfl; have hcz53_3 : wc.cell? ⟨gb187, 3, none⟩ = some (.int .i64 0) := (blk_cell BK187.out 3).trans rfl; have hfz53_0 := blk_frozen BK187.out 0; have hfz53_1 := blk_frozen BK187.out 1; have hfz53_2 := blk_frozen BK187.out 2; have hfz53_3 := blk_frozen BK187.out 3))
           refine bodyPost_ret (results_ct rfl _ _ gb187 25 #[.bool t188, .string t189, .string t190, .int .i64 t191] (0, 0) _ rfl qng16_ Tryd.underlying25 rfl (by kernel_rfl)) rfl ?_
           exact ⟨qng6_, qng15_⟩
          ·
           rw [if_neg c48] at H
           have c48b0 : (t190.toList == ([] : List UInt8)) = false := beq_eq_false_iff_ne.mpr c48
           have c48b1 : (t190.toList != ([] : List UInt8)) = true := bne_iff_ne.mpr c48
           simp only [Option.some.injEq, Prod.mk.injEq] at H
           obtain ⟨rfl, rfl, rfl, rfl, rfl⟩ := H
           go_wp2_with (first | ((with_reducible refine gate_callee (f := 39) rfl ?_); refine goesL_ (some 27) rfl rfl Tryd.func39 (by kernel_rfl) rfl #[.string (⟨#[75, 77, 71, 84, 80, 69, 90, 89, 82, 81]⟩ : ByteArray), .int .u8 x5_23] rfl qng0_ ?_; (with_reducible refine (strings_IndexByte.calls (⟨#[75, 77, 71, 84, 80, 69, 90, 89, 82, 81]⟩ : ByteArray) x5_23 t193 _ A28.out).mono ?_); rintro e w' ⟨rfl, ⟨nd, rfl⟩⟩; refine ⟨_, rfl, ?_⟩; (try (rw [drewN_self wc]; generalize hq_ : World.drewN wc _ = wc; have n0_ : Aside0 (wc.heap[gb187]? = some (.cells #[.bool false, .string (⟨#[]⟩ : ByteArray), .string (⟨#[]⟩ : ByteArray), .int .i64 0] 25 (0, 0))) := ⟨by rw [← hq_]; exact qng35_⟩; have n1_ : Aside0 (wc.heap[gb192]? = some (.cells #[.bool t188, .string t189, .string t190, .int .i64 t191] 25 (0, 0))) := ⟨by rw [← hq_]; exact qng51_⟩; have n2_ : Aside0 (Below w.heap.size w wc) := ⟨by rw [← hq_]; exact qng15_⟩; clear BK187 BK192 HB hq_; have BK187 := n0_; have BK192 := n1_; have HB := n2_; clear n0_ n1_ n2_)); (try (have hcu54_0 : wc.cell? ⟨gb187, 0, none⟩ = some (.bool false) := (blk_cell BK187.out 0).trans rfl; have hfu54_0 := blk_frozen BK187.out 0; have hcu54_1 : wc.cell? ⟨gb187, 1, none⟩ = some (.string (⟨#[]⟩ : ByteArray)) := (blk_cell BK187.out 1).trans rfl; have hfu54_1 := blk_frozen BK187.out 1; have hcu54_2 : wc.cell? ⟨gb187, 2, none⟩ = some (.string (⟨#[]⟩ : ByteArray)) := (blk_cell BK187.out 2).trans rfl; have hfu54_2 := blk_frozen BK187.out 2; have hcu54_3 : wc.cell? ⟨gb187, 3, none⟩ = some (.int .i64 0) := (blk_cell BK187.out 3).trans rfl; have hfu54_3 := blk_frozen BK187.out 3)); (try (have hcu55_0 : wc.cell? ⟨gb192, 0, none⟩ = some (.bool t188) := (blk_cell BK192.out 0).trans rfl; have hfu55_0 := blk_frozen BK192.out 0; have hcu55_1 : wc.cell? ⟨gb192, 1, none⟩ = some (.string t189) := (blk_cell BK192.out 1).trans rfl; have hfu55_1 := blk_frozen BK192.out 1; have hcu55_2 : wc.cell? ⟨gb192, 2, none⟩ = some (.string t190) := (blk_cell BK192.out 2).trans rfl; have hfu55_2 := blk_frozen BK192.out 2; have hcu55_3 : wc.cell? ⟨gb192, 3, none⟩ = some (.int .i64 t191) := (blk_cell BK192.out 3).trans rfl; have hfu55_3 := blk_frozen BK192.out 3)); have hnb56 := NB192_187.out; have hnc56 := NB187_192.out; have hcz57_0 : wc.cell? ⟨gb192, 0, none⟩ = some (.bool t188) := (blk_cell BK192.out 0).trans rfl; have hcz57_1 : wc.cell? ⟨gb192, 1, none⟩ = some (.string t189) := (blk_cell BK192.out 1).trans rfl; have hcz57_2 : wc.cell? ⟨gb192, 2, none⟩ = some (.string t190) := (blk_cell BK192.out 2).trans rfl; have hcz57_3 : wc.cell? ⟨gb192, 3, none⟩ = some (.int .i64 t191) := (blk_cell BK192.out 3).trans rfl; have hfz57_0 := blk_frozen BK192.out 0; have hfz57_1 := blk_frozen BK192.out 1; have hfz57_2 := blk_frozen BK192.out 2; have hfz57_3 := blk_frozen BK192.out 3; have hcz58_0 : wc.cell? ⟨gb187, 0, none⟩ = some (.bool false) := (blk_cell BK187.out 0).trans rfl; have hcz58_1 : wc.cell? ⟨gb187, 1, none⟩ = some (.string (⟨#[]⟩ : ByteArray)) := (blk_cell BK187.out 1).trans rfl; have hcz58_2 : wc.cell? ⟨gb187, 2, none⟩ = some (.string (⟨#[]⟩ : ByteArray)) := (blk_cell BK187.out 2).trans rfl; have hcz58_3 : wc.cell? ⟨gb187, 3, none⟩ = some (.int .i64 0) := (blk_cell BK187.out 3).trans rfl; have hfz58_0 := blk_frozen BK187.out 0; have hfz58_1 := blk_frozen BK187.out 1; have hfz58_2 := blk_frozen BK187.out 2; have hfz58_3 := blk_frozen BK187.out 3))
           refine bodyPost_ret (results_ct rfl _ _ gb187 25 #[.bool t188, .string t189, .string t190, .int .i64 t191] (0, 0) _ rfl qng16_ Tryd.underlying25 rfl (by kernel_rfl)) rfl ?_
           exact ⟨qng6_, qng15_⟩
         ·
          rw [if_neg c47] at H
          have c47b0 : (t189.toList == ([] : List UInt8)) = false := beq_eq_false_iff_ne.mpr c47
          have c47b1 : (t189.toList != ([] : List UInt8)) = true := bne_iff_ne.mpr c47
          simp only [Option.some.injEq, Prod.mk.injEq] at H
          obtain ⟨rfl, rfl, rfl, rfl, rfl⟩ := H
          go_wp2_with (first | ((with_reducible refine gate_callee (f := 39) rfl ?_); refine goesL_ (some 27) rfl rfl Tryd.func39 (by kernel_rfl) rfl #[.string (⟨#[75, 77, 71, 84, 80, 69, 90, 89, 82, 81]⟩ : ByteArray), .int .u8 x5_23] rfl qng0_ ?_; (with_reducible refine (strings_IndexByte.calls (⟨#[75, 77, 71, 84, 80, 69, 90, 89, 82, 81]⟩ : ByteArray) x5_23 t193 _ A28.out).mono ?_); rintro e w' ⟨rfl, ⟨nd, rfl⟩⟩; refine ⟨_, rfl, ?_⟩; (try (rw [drewN_self wc]; generalize hq_ : World.drewN wc _ = wc; have n0_ : Aside0 (wc.heap[gb187]? = some (.cells #[.bool false, .string (⟨#[]⟩ : ByteArray), .string (⟨#[]⟩ : ByteArray), .int .i64 0] 25 (0, 0))) := ⟨by rw [← hq_]; exact qng35_⟩; have n1_ : Aside0 (wc.heap[gb192]? = some (.cells #[.bool t188, .string t189, .string t190, .int .i64 t191] 25 (0, 0))) := ⟨by rw [← hq_]; exact qng51_⟩; have n2_ : Aside0 (Below w.heap.size w wc) := ⟨by rw [← hq_]; exact qng15_⟩; clear BK187 BK192 HB hq_; have BK187 := n0_; have BK192 := n1_; have HB := n2_; clear n0_ n1_ n2_)); (try (have hcu59_0 : wc.cell? ⟨gb187, 0, none⟩ = some (.bool false) := (blk_cell BK187.out 0).trans rfl; have hfu59_0 := blk_frozen BK187.out 0; have hcu59_1 : wc.cell? ⟨gb187, 1, none⟩ = some (.string (⟨#[]⟩ : ByteArray)) := (blk_cell BK187.out 1).trans rfl; have hfu59_1 := blk_frozen BK187.out 1; have hcu59_2 : wc.cell? ⟨gb187, 2, none⟩ = some (.string (⟨#[]⟩ : ByteArray)) := (blk_cell BK187.out 2).trans rfl; have hfu59_2 := blk_frozen BK187.out 2; have hcu59_3 : wc.cell? ⟨gb187, 3, none⟩ = some (.int .i64 0) := (blk_cell BK187.out 3).trans rfl; have hfu59_3 := blk_frozen BK187.out 3)); (try (have hcu60_0 : wc.cell? ⟨gb192, 0, none⟩ = some (.bool t188) := (blk_cell BK192.out 0).trans rfl; have hfu60_0 := blk_frozen BK192.out 0; have hcu60_1 : wc.cell? ⟨gb192, 1, none⟩ = some (.string t189) := (blk_cell BK192.out 1).trans rfl; have hfu60_1 := blk_frozen BK192.out 1; have hcu60_2 : wc.cell? ⟨gb192, 2, none⟩ = some (.string t190) := (blk_cell BK192.out 2).trans rfl; have hfu60_2 := blk_frozen BK192.out 2; have hcu60_3 : wc.cell? ⟨gb192, 3, none⟩ = some (.int .i64 t191) := (blk_cell BK192.out 3).trans rfl; have hfu60_3 := blk_frozen BK192.out 3)); have hnb61 := NB192_187.out; have hnc61 := NB187_192.out; have hcz62_0 : wc.cell? ⟨gb192, 0, none⟩ = some (.bool t188) := (blk_cell BK192.out 0).trans rfl; have hcz62_1 : wc.cell? ⟨gb192, 1, none⟩ = some (.string t189) := (blk_cell BK192.out 1).trans rfl; have hcz62_2 : wc.cell? ⟨gb192, 2, none⟩ = some (.string t190) := (blk_cell BK192.out 2).trans rfl; have hcz62_3 : wc.cell? ⟨gb192, 3, none⟩ = some (.int .i64 t191) := (blk_cell BK192.out 3).trans rfl; have hfz62_0 := blk_frozen BK192.out 0; have hfz62_1 := blk_frozen BK192.out 1; have hfz62_2 := blk_frozen BK192.out 2; have hfz62_3 := blk_frozen BK192.out 3; have hcz63_0 : wc.cell? ⟨gb187, 0, none⟩ = some (.bool false) := (blk_cell BK187.out 0).trans rfl; have hcz63_1 : wc.cell? ⟨gb187, 1, none⟩ = some (.string (⟨#[]⟩ : ByteArray)) := (blk_cell BK187.out 1).trans rfl; have hcz63_2 : wc.cell? ⟨gb187, 2, none⟩ = some (.string (⟨#[]⟩ : ByteArray)) := (blk_cell BK187.out 2).trans rfl; have hcz63_3 : wc.cell? ⟨gb187, 3, none⟩ = some (.int .i64 0) := (blk_cell BK187.out 3).trans rfl; have hfz63_0 := blk_frozen BK187.out 0; have hfz63_1 := blk_frozen BK187.out 1; have hfz63_2 := blk_frozen BK187.out 2; have hfz63_3 := blk_frozen BK187.out 3))
          refine bodyPost_ret (results_ct rfl _ _ gb187 25 #[.bool t188, .string t189, .string t190, .int .i64 t191] (0, 0) _ rfl qng16_ Tryd.underlying25 rfl (by kernel_rfl)) rfl ?_
          exact ⟨qng6_, qng15_⟩
     ·
      rw [if_neg c22] at H
      exact absurd H (by simp)
    ·
     rw [if_neg c21] at H
     exact absurd H (by simp)


/-! ### numeral_human: function 50 -/
def numeral_human.f (k : Nat) (a0 : Int) (a1 : ByteArray) : Option (Int × Int × Int × ByteArray) := (numeral_Human.f k a1).bind fun bt245 => (if a0 = 16 then ((numeral_digits.f k bt245.2.1 bt245.2.2.1 0).bind fun bt251 => ((numeral_sizeOf.f bt245.1 bt251.1 bt251.2 0).bind fun bt253 => (some (bt253.1, bt253.2.1, bt253.2.2.1, bt253.2.2.2)))) else ((numeral_digits.f k bt245.2.1 bt245.2.2.1 0).bind fun bt257 => ((numeral_sizeOf.f bt245.1 bt257.1 bt257.2 bt245.2.2.2.2).bind fun bt259 => (some (bt259.1, bt259.2.1, bt259.2.2.1, bt259.2.2.2)))))
set_option maxHeartbeats 8000000 in
set_option maxRecDepth 100000 in
theorem numeral_human.calls (k : Nat) (a0 : Int) (a1 : ByteArray) (r1 : Int) (r2 : Int) (r3 : Int) (r4 : ByteArray) (w : World) (h : numeral_human.f k a0 a1 = some (r1, r2, r3, r4)) :
  Calls Tryd.prog 50 #[.int .u16 a0, .string a1] w fun e w' => e = .returned (.agg #[.int .i64 r1, .int .i64 r2, .int .i64 r3, .string r4]) ∧ Below w.heap.size w w' := by
 have hu77 := Tryd.underlying77
 have hu25 := Tryd.underlying25
 have HB := Aside0.mk (Below.refl w.heap.size w)
 have H : ((numeral_Human.f k a1).bind fun bt245 => (if a0 = 16 then ((numeral_digits.f k bt245.2.1 bt245.2.2.1 0).bind fun bt251 => ((numeral_sizeOf.f bt245.1 bt251.1 bt251.2 0).bind fun bt253 => (some (bt253.1, bt253.2.1, bt253.2.2.1, bt253.2.2.2)))) else ((numeral_digits.f k bt245.2.1 bt245.2.2.1 0).bind fun bt257 => ((numeral_sizeOf.f bt245.1 bt257.1 bt257.2 bt245.2.2.2.2).bind fun bt259 => (some (bt259.1, bt259.2.1, bt259.2.2.1, bt259.2.2.2)))))) = some (r1, r2, r3, r4) := h
 clear h
 replace H := Option.bind_eq_some_iff.mp H
 obtain ⟨⟨t245, t246, t247, t248, t249⟩, A30, H⟩ := H
 replace H : (if a0 = 16 then ((numeral_digits.f k t246 t247 0).bind fun bt251 => ((numeral_sizeOf.f t245 bt251.1 bt251.2 0).bind fun bt253 => (some (bt253.1, bt253.2.1, bt253.2.2.1, bt253.2.2.2)))) else ((numeral_digits.f k t246 t247 0).bind fun bt257 => ((numeral_sizeOf.f t245 bt257.1 bt257.2 t249).bind fun bt259 => (some (bt259.1, bt259.2.1, bt259.2.2.1, bt259.2.2.2))))) = some (r1, r2, r3, r4) := H
 have A3 := Aside0.mk A30
 clear A30
 by_cases c4 : a0 = 16
 ·
  rw [if_pos c4] at H
  have c4b0 : (a0 == 16) = true := beq_iff_eq.mpr c4
  have c4b1 : (a0 != 16) = false := bne_eq_false_iff_eq.mpr c4
  clear c4
  replace H := Option.bind_eq_some_iff.mp H
  obtain ⟨⟨t251, t252⟩, A50, H⟩ := H
  replace H : ((numeral_sizeOf.f t245 t251 t252 0).bind fun bt253 => (some (bt253.1, bt253.2.1, bt253.2.2.1, bt253.2.2.2))) = some (r1, r2, r3, r4) := H
  have A5 := Aside0.mk A50
  clear A50
  replace H := Option.bind_eq_some_iff.mp H
  obtain ⟨⟨t253, t254, t255, t256⟩, A60, H⟩ := H
  replace H : (some (t253, t254, t255, t256)) = some (r1, r2, r3, r4) := H
  have A6 := Aside0.mk A60
  clear A60
  simp only [Option.some.injEq, Prod.mk.injEq] at H
  obtain ⟨rfl, rfl, rfl, rfl⟩ := H
  go_enter Tryd.func50, Tryd.ntmps50
  have tk16 : True := trivial; have tk17 : True := trivial; have tk18 : True := trivial; have tk19 : True := trivial; have tk20 : True := trivial
  go_wp2_with (first | (have ztk16 := tk16; clear tk16 ztk16; (with_reducible refine gate_dst (N := 4) rfl ?_); refine box_event ?hg (N := 4) ?hd (cs := #[.int .i64 0, .int .i64 0, .int .i64 0, .string (⟨#[]⟩ : ByteArray)]) (t := 77) ?hr ?_; (case hd => rfl); (case hg => rfl); (case hr => first | (go_simp; done) | (go_simp; rfl)); intro gb244 hg w7 hbox hb; have n0_ := Aside0.mk (below_step qng1_ hb); have n1_ := Aside0.mk (hbox); have n2_ := Aside0.mk ((by rw [hg]; exact (below_size qng1_) : w.heap.size ≤ gb244)); have n3_ := Aside0.mk ((by rw [hg]; exact (below_size qng1_) : w.heap.size ≤ gb244)); clear HB; have HB := n0_; have BK244 := n1_; have GW244 := n2_; have GE244 := n3_; clear n0_ n1_ n2_ n3_; clear hb hbox hg) | (have ztk17 := tk17; clear tk17 ztk17; (with_reducible refine gate_callee (f := 20) rfl ?_); refine goesL_ (some 11) rfl rfl Tryd.func20 (by kernel_rfl) rfl #[.string a1] rfl qng0_ ?_; (with_reducible refine (numeral_Human.calls k a1 t245 t246 t247 t248 t249 _ A3.out).mono ?_); rintro e w8 ⟨rfl, hb⟩; refine ⟨_, rfl, ?_⟩; have n0_ := Aside0.mk (blk_below (g := gb244) (o := .cells #[.int .i64 0, .int .i64 0, .int .i64 0, .string (⟨#[]⟩ : ByteArray)] 77 (0, 0)) qng40_ hb); have n1_ := Aside0.mk (below_step qng37_ hb); clear BK244; clear HB; have BK244 := n0_; have HB := n1_; clear n0_ n1_; (try clear hb); (try clear hb2); (try clear hk); (try clear hi)) | (have ztk18 := tk18; clear tk18 ztk18; (with_reducible refine gate_dst (N := 5) rfl ?_); refine box_event ?hg (N := 5) ?hd (cs := #[.bool false, .string (⟨#[]⟩ : ByteArray), .string (⟨#[]⟩ : ByteArray), .int .i64 0]) (t := 25) ?hr ?_; (case hd => rfl); (case hg => rfl); (case hr => first | (go_simp; done) | (go_simp; rfl)); intro gb250 hg w9 hbox hb; have n0_ := Aside0.mk (blk_below (g := gb244) (o := .cells #[.int .i64 0, .int .i64 0, .int .i64 0, .string (⟨#[]⟩ : ByteArray)] 77 (0, 0)) qng40_ hb); have n1_ := Aside0.mk (below_step qng37_ hb); have n2_ := Aside0.mk (hbox); have n3_ := Aside0.mk ((by rw [hg]; exact (below_size qng37_) : w.heap.size ≤ gb250)); have n4_ := Aside0.mk ((by rw [hg]; exact (below_size qng37_) : w.heap.size ≤ gb250)); have n5_ := Aside0.mk ((by rw [hg]; exact Nat.ne_of_lt (blk_lt (g := gb244) (o := .cells #[.int .i64 0, .int .i64 0, .int .i64 0, .string (⟨#[]⟩ : ByteArray)] 77 (0, 0)) qng40_) : gb244 ≠ gb250)); have n6_ := Aside0.mk ((by rw [hg]; exact Nat.ne_of_gt (blk_lt (g := gb244) (o := .cells #[.int .i64 0, .int .i64 0, .int .i64 0, .string (⟨#[]⟩ : ByteArray)] 77 (0, 0)) qng40_) : gb250 ≠ gb244)); clear BK244; clear HB; have BK244 := n0_; have HB := n1_; have BK250 := n2_; have GW250 := n3_; have GE250 := n4_; have NB244_250 := n5_; have NB250_244 := n6_; clear n0_ n1_ n2_ n3_ n4_ n5_ n6_; clear hb hbox hg; have hnb10 := NB250_244.out; have hnc10 := NB244_250.out; have hcz11_0 : w9.cell? ⟨gb250, 0, none⟩ = some (.bool false) := (blk_cell BK250.out 0).trans rfl; have hcz11_1 : w9.cell? ⟨gb250, 1, none⟩ = some (.string (⟨#[]⟩ : ByteArray)) := (blk_cell BK250.out 1).trans rfl; have hcz11_2 : w9.cell? ⟨gb250, 2, none⟩ = some (.string (⟨#[]⟩ : ByteArray)) := (blk_cell BK250.out 2).trans rfl; have hcz11_3 : w9.cell? ⟨gb250, 3, none⟩ = some (.int .i64 0) := (blk_cell BK250.out 3).trans rfl; have hfz11_0 := blk_frozen BK250.out 0; have hfz11_1 := blk_frozen BK250.out 1; have hfz11_2 := blk_frozen BK250.out 2; have hfz11_3 := blk_frozen BK250.out 3) | (have ztk19 := tk19; clear tk19 ztk19; (with_reducible refine gate_callee (f := 38) rfl ?_); refine goesL_ (some 21) rfl rfl Tryd.func38 (by kernel_rfl) rfl #[.string t246, .string t247, .int .i64 0] rfl qng0_ ?_; (with_reducible refine (numeral_digits.calls k t246 t247 0 t251 t252 _ A5.out).mono ?_); rintro e w12 ⟨rfl, hb⟩; refine ⟨_, rfl, ?_⟩; have n0_ := Aside0.mk (blk_below (g := gb244) (o := .cells #[.int .i64 0, .int .i64 0, .int .i64 0, .string (⟨#[]⟩ : ByteArray)] 77 (0, 0)) (by (with_reducible repeat (first | refine blk_drewN ?_ _ | refine blk_drew ?_ | refine blk_alloc ?_ _)); refine blk_far ?_ NB244_250.out _; (with_reducible repeat (first | refine blk_drewN ?_ _ | refine blk_drew ?_ | refine blk_alloc ?_ _)); refine blk_far ?_ NB244_250.out _; (with_reducible repeat (first | refine blk_drewN ?_ _ | refine blk_drew ?_ | refine blk_alloc ?_ _)); refine blk_far ?_ NB244_250.out _; (with_reducible repeat (first | refine blk_drewN ?_ _ | refine blk_drew ?_ | refine blk_alloc ?_ _)); refine blk_far ?_ NB244_250.out _; (with_reducible repeat (first | refine blk_drewN ?_ _ | refine blk_drew ?_ | refine blk_alloc ?_ _)); exact BK244.out) hb); have n1_ := Aside0.mk (blk_below (g := gb250) (o := .cells #[.bool t245, .string t246, .string t247, .int .i64 t248] 25 (0, 0)) (by (with_reducible repeat (first | refine blk_drewN ?_ _ | refine blk_drew ?_ | refine blk_alloc ?_ _)); refine blk_put (cs := #[.bool t245, .string t246, .string t247, .int .i64 0]) ?_ 3 _ rfl; (with_reducible repeat (first | refine blk_drewN ?_ _ | refine blk_drew ?_ | refine blk_alloc ?_ _)); refine blk_put (cs := #[.bool t245, .string t246, .string (⟨#[]⟩ : ByteArray), .int .i64 0]) ?_ 2 _ rfl; (with_reducible repeat (first | refine blk_drewN ?_ _ | refine blk_drew ?_ | refine blk_alloc ?_ _)); refine blk_put (cs := #[.bool t245, .string (⟨#[]⟩ : ByteArray), .string (⟨#[]⟩ : ByteArray), .int .i64 0]) ?_ 1 _ rfl; (with_reducible repeat (first | refine blk_drewN ?_ _ | refine blk_drew ?_ | refine blk_alloc ?_ _)); refine blk_put (cs := #[.bool false, .string (⟨#[]⟩ : ByteArray), .string (⟨#[]⟩ : ByteArray), .int .i64 0]) ?_ 0 _ rfl; (with_reducible repeat (first | refine blk_drewN ?_ _ | refine blk_drew ?_ | refine blk_alloc ?_ _)); exact BK250.out) hb); have n2_ := Aside0.mk (below_step qng44_ hb); clear BK244; clear BK250; clear HB; have BK244 := n0_; have BK250 := n1_; have HB := n2_; clear n0_ n1_ n2_; (try clear hb); (try clear hb2); (try clear hk); (try clear hi); have hcz13_0 : w12.cell? ⟨gb250, 0, none⟩ = some (.bool t245) := (blk_cell BK250.out 0).trans rfl; have hcz13_1 : w12.cell? ⟨gb250, 1, none⟩ = some (.string t246) := (blk_cell BK250.out 1).trans rfl; have hcz13_2 : w12.cell? ⟨gb250, 2, none⟩ = some (.string t247) := (blk_cell BK250.out 2).trans rfl; have hcz13_3 : w12.cell? ⟨gb250, 3, none⟩ = some (.int .i64 t248) := (blk_cell BK250.out 3).trans rfl; have hfz13_0 := blk_frozen BK250.out 0; have hfz13_1 := blk_frozen BK250.out 1; have hfz13_2 := blk_frozen BK250.out 2; have hfz13_3 := blk_frozen BK250.out 3) | (have ztk20 := tk20; clear tk20 ztk20; (with_reducible refine gate_callee (f := 54) rfl ?_); refine goesL_ (some 29) rfl rfl Tryd.func54 (by kernel_rfl) rfl #[.bool t245, .string t251, .int .i64 t252, .int .i64 0] rfl qng0_ ?_; (with_reducible refine (numeral_sizeOf.calls t245 t251 t252 0 t253 t254 t255 t256 _ A6.out).mono ?_); rintro e w14 ⟨rfl, hb⟩; refine ⟨_, rfl, ?_⟩; have n0_ := Aside0.mk (blk_below (g := gb244) (o := .cells #[.int .i64 0, .int .i64 0, .int .i64 0, .string (⟨#[]⟩ : ByteArray)] 77 (0, 0)) qng40_ hb); have n1_ := Aside0.mk (blk_below (g := gb250) (o := .cells #[.bool t245, .string t246, .string t247, .int .i64 t248] 25 (0, 0)) (by (with_reducible repeat (first | refine blk_drewN ?_ _ | refine blk_drew ?_ | refine blk_alloc ?_ _)); exact BK250.out) hb); have n2_ := Aside0.mk (below_step qng44_ hb); clear BK244; clear BK250; clear HB; have BK244 := n0_; have BK250 := n1_; have HB := n2_; clear n0_ n1_ n2_; (try clear hb); (try clear hb2); (try clear hk); (try clear hi); have hcz15_0 : w14.cell? ⟨gb244, 0, none⟩ = some (.int .i64 0) := (blk_cell BK244.out 0).trans rfl; have hcz15_1 : w14.cell? ⟨gb244, 1, none⟩ = some (.int .i64 0) := (blk_cell BK244.out 1).trans rfl; have hcz15_2 : w14.cell? ⟨gb244, 2, none⟩ = some (.int .i64 0) := (blk_cell BK244.out 2).trans rfl; have hcz15_3 : w14.cell? ⟨gb244, 3, none⟩ = some (.string (⟨#[]⟩ : ByteArray)) := (blk_cell BK244.out 3).trans rfl; have hfz15_0 := blk_frozen BK244.out 0; have hfz15_1 := blk_frozen BK244.out 1; have hfz15_2 := blk_frozen BK244.out 2; have hfz15_3 := blk_frozen BK244.out 3))
  refine bodyPost_ret (results_cell_row rfl _ _ gb244 77 #[.int .i64 t253, .int .i64 t254, .int .i64 t255, .string t256] (0, 0) _ rfl (by (with_reducible repeat (first | refine blk_drewN ?_ _ | refine blk_drew ?_ | refine blk_alloc ?_ _)); refine blk_put (cs := #[.int .i64 t253, .int .i64 t254, .int .i64 t255, .string (⟨#[]⟩ : ByteArray)]) ?_ 3 _ rfl; (with_reducible repeat (first | refine blk_drewN ?_ _ | refine blk_drew ?_ | refine blk_alloc ?_ _)); refine blk_put (cs := #[.int .i64 t253, .int .i64 t254, .int .i64 0, .string (⟨#[]⟩ : ByteArray)]) ?_ 2 _ rfl; (with_reducible repeat (first | refine blk_drewN ?_ _ | refine blk_drew ?_ | refine blk_alloc ?_ _)); refine blk_put (cs := #[.int .i64 t253, .int .i64 0, .int .i64 0, .string (⟨#[]⟩ : ByteArray)]) ?_ 1 _ rfl; (with_reducible repeat (first | refine blk_drewN ?_ _ | refine blk_drew ?_ | refine blk_alloc ?_ _)); refine blk_put (cs := #[.int .i64 0, .int .i64 0, .int .i64 0, .string (⟨#[]⟩ : ByteArray)]) ?_ 0 _ rfl; (with_reducible repeat (first | refine blk_drewN ?_ _ | refine blk_drew ?_ | refine blk_alloc ?_ _)); exact BK244.out) Tryd.underlying77 rfl (by kernel_rfl)) rfl ?_
  exact ⟨qng6_, qng44_⟩
 ·
  rw [if_neg c4] at H
  have c4b0 : (a0 == 16) = false := beq_eq_false_iff_ne.mpr c4
  have c4b1 : (a0 != 16) = true := bne_iff_ne.mpr c4
  replace H := Option.bind_eq_some_iff.mp H
  obtain ⟨⟨t257, t258⟩, A210, H⟩ := H
  replace H : ((numeral_sizeOf.f t245 t257 t258 t249).bind fun bt259 => (some (bt259.1, bt259.2.1, bt259.2.2.1, bt259.2.2.2))) = some (r1, r2, r3, r4) := H
  have A21 := Aside0.mk A210
  clear A210
  replace H := Option.bind_eq_some_iff.mp H
  obtain ⟨⟨t259, t260, t261, t262⟩, A220, H⟩ := H
  replace H : (some (t259, t260, t261, t262)) = some (r1, r2, r3, r4) := H
  have A22 := Aside0.mk A220
  clear A220
  simp only [Option.some.injEq, Prod.mk.injEq] at H
  obtain ⟨rfl, rfl, rfl, rfl⟩ := H
  go_enter Tryd.func50, Tryd.ntmps50
  have tk32 : True := trivial; have tk33 : True := trivial; have tk34 : True := trivial; have tk35 : True := trivial; have tk36 : True := trivial
  go_wp2_with (first | (have ztk32 := tk32; clear tk32 ztk32; (with_reducible refine gate_dst (N := 4) rfl ?_); refine box_event ?hg (N := 4) ?hd (cs := #[.int .i64 0, .int .i64 0, .int .i64 0, .string (⟨#[]⟩ : ByteArray)]) (t := 77) ?hr ?_; (case hd => rfl); (case hg => rfl); (case hr => first | (go_simp; done) | (go_simp; rfl)); intro gb244 hg w23 hbox hb; have n0_ := Aside0.mk (below_step qng1_ hb); have n1_ := Aside0.mk (hbox); have n2_ := Aside0.mk ((by rw [hg]; exact (below_size qng1_) : w.heap.size ≤ gb244)); have n3_ := Aside0.mk ((by rw [hg]; exact (below_size qng1_) : w.heap.size ≤ gb244)); clear HB; have HB := n0_; have BK244 := n1_; have GW244 := n2_; have GE244 := n3_; clear n0_ n1_ n2_ n3_; clear hb hbox hg) | (have ztk33 := tk33; clear tk33 ztk33; (with_reducible refine gate_callee (f := 20) rfl ?_); refine goesL_ (some 11) rfl rfl Tryd.func20 (by kernel_rfl) rfl #[.string a1] rfl qng0_ ?_; (with_reducible refine (numeral_Human.calls k a1 t245 t246 t247 t248 t249 _ A3.out).mono ?_); rintro e w24 ⟨rfl, hb⟩; refine ⟨_, rfl, ?_⟩; have n0_ := Aside0.mk (blk_below (g := gb244) (o := .cells #[.int .i64 0, .int .i64 0, .int .i64 0, .string (⟨#[]⟩ : ByteArray)] 77 (0, 0)) qng40_ hb); have n1_ := Aside0.mk (below_step qng37_ hb); clear BK244; clear HB; have BK244 := n0_; have HB := n1_; clear n0_ n1_; (try clear hb); (try clear hb2); (try clear hk); (try clear hi)) | (have ztk34 := tk34; clear tk34 ztk34; (with_reducible refine gate_dst (N := 5) rfl ?_); refine box_event ?hg (N := 5) ?hd (cs := #[.bool false, .string (⟨#[]⟩ : ByteArray), .string (⟨#[]⟩ : ByteArray), .int .i64 0]) (t := 25) ?hr ?_; (case hd => rfl); (case hg => rfl); (case hr => first | (go_simp; done) | (go_simp; rfl)); intro gb250 hg w25 hbox hb; have n0_ := Aside0.mk (blk_below (g := gb244) (o := .cells #[.int .i64 0, .int .i64 0, .int .i64 0, .string (⟨#[]⟩ : ByteArray)] 77 (0, 0)) qng40_ hb); have n1_ := Aside0.mk (below_step qng37_ hb); have n2_ := Aside0.mk (hbox); have n3_ := Aside0.mk ((by rw [hg]; exact (below_size qng37_) : w.heap.size ≤ gb250)); have n4_ := Aside0.mk ((by rw [hg]; exact (below_size qng37_) : w.heap.size ≤ gb250)); have n5_ := Aside0.mk ((by rw [hg]; exact Nat.ne_of_lt (blk_lt (g := gb244) (o := .cells #[.int .i64 0, .int .i64 0, .int .i64 0, .string (⟨#[]⟩ : ByteArray)] 77 (0, 0)) qng40_) : gb244 ≠ gb250)); have n6_ := Aside0.mk ((by rw [hg]; exact Nat.ne_of_gt (blk_lt (g := gb244) (o := .cells #[.int .i64 0, .int .i64 0, .int .i64 0, .string (⟨#[]⟩ : ByteArray)] 77 (0, 0)) qng40_) : gb250 ≠ gb244)); clear BK244; clear HB; have BK244 := n0_; have HB := n1_; have BK250 := n2_; have GW250 := n3_; have GE250 := n4_; have NB244_250 := n5_; have NB250_244 := n6_; clear n0_ n1_ n2_ n3_ n4_ n5_ n6_; clear hb hbox hg; have hnb26 := NB250_244.out; have hnc26 := NB244_250.out; have hcz27_0 : w25.cell? ⟨gb250, 0, none⟩ = some (.bool false) := (blk_cell BK250.out 0).trans rfl; have hcz27_1 : w25.cell? ⟨gb250, 1, none⟩ = some (.string (⟨#[]⟩ : ByteArray)) := (blk_cell BK250.out 1).trans rfl; have hcz27_2 : w25.cell? ⟨gb250, 2, none⟩ = some (.string (⟨#[]⟩ : ByteArray)) := (blk_cell BK250.out 2).trans rfl; have hcz27_3 : w25.cell? ⟨gb250, 3, none⟩ = some (.int .i64 0) := (blk_cell BK250.out 3).trans rfl; have hfz27_0 := blk_frozen BK250.out 0; have hfz27_1 := blk_frozen BK250.out 1; have hfz27_2 := blk_frozen BK250.out 2; have hfz27_3 := blk_frozen BK250.out 3) | (have ztk35 := tk35; clear tk35 ztk35; (with_reducible refine gate_callee (f := 38) rfl ?_); refine goesL_ (some 21) rfl rfl Tryd.func38 (by kernel_rfl) rfl #[.string t246, .string t247, .int .i64 0] rfl qng0_ ?_; (with_reducible refine (numeral_digits.calls k t246 t247 0 t257 t258 _ A21.out).mono ?_); rintro e w28 ⟨rfl, hb⟩; refine ⟨_, rfl, ?_⟩; have n0_ := Aside0.mk (blk_below (g := gb244) (o := .cells #[.int .i64 0, .int .i64 0, .int .i64 0, .string (⟨#[]⟩ : ByteArray)] 77 (0, 0)) (by (with_reducible repeat (first | refine blk_drewN ?_ _ | refine blk_drew ?_ | refine blk_alloc ?_ _)); refine blk_far ?_ NB244_250.out _; (with_reducible repeat (first | refine blk_drewN ?_ _ | refine blk_drew ?_ | refine blk_alloc ?_ _)); refine blk_far ?_ NB244_250.out _; (with_reducible repeat (first | refine blk_drewN ?_ _ | refine blk_drew ?_ | refine blk_alloc ?_ _)); refine blk_far ?_ NB244_250.out _; (with_reducible repeat (first | refine blk_drewN ?_ _ | refine blk_drew ?_ | refine blk_alloc ?_ _)); refine blk_far ?_ NB244_250.out _; (with_reducible repeat (first | refine blk_drewN ?_ _ | refine blk_drew ?_ | refine blk_alloc ?_ _)); exact BK244.out) hb); have n1_ := Aside0.mk (blk_below (g := gb250) (o := .cells #[.bool t245, .string t246, .string t247, .int .i64 t248] 25 (0, 0)) (by (with_reducible repeat (first | refine blk_drewN ?_ _ | refine blk_drew ?_ | refine blk_alloc ?_ _)); refine blk_put (cs := #[.bool t245, .string t246, .string t247, .int .i64 0]) ?_ 3 _ rfl; (with_reducible repeat (first | refine blk_drewN ?_ _ | refine blk_drew ?_ | refine blk_alloc ?_ _)); refine blk_put (cs := #[.bool t245, .string t246, .string (⟨#[]⟩ : ByteArray), .int .i64 0]) ?_ 2 _ rfl; (with_reducible repeat (first | refine blk_drewN ?_ _ | refine blk_drew ?_ | refine blk_alloc ?_ _)); refine blk_put (cs := #[.bool t245, .string (⟨#[]⟩ : ByteArray), .string (⟨#[]⟩ : ByteArray), .int .i64 0]) ?_ 1 _ rfl; (with_reducible repeat (first | refine blk_drewN ?_ _ | refine blk_drew ?_ | refine blk_alloc ?_ _)); refine blk_put (cs := #[.bool false, .string (⟨#[]⟩ : ByteArray), .string (⟨#[]⟩ : ByteArray), .int .i64 0]) ?_ 0 _ rfl; (with_reducible repeat (first | refine blk_drewN ?_ _ | refine blk_drew ?_ | refine blk_alloc ?_ _)); exact BK250.out) hb); have n2_ := Aside0.mk (below_step qng44_ hb); clear BK244; clear BK250; clear HB; have BK244 := n0_; have BK250 := n1_; have HB := n2_; clear n0_ n1_ n2_; (try clear hb); (try clear hb2); (try clear hk); (try clear hi); have hcz29_0 : w28.cell? ⟨gb250, 0, none⟩ = some (.bool t245) := (blk_cell BK250.out 0).trans rfl; have hcz29_1 : w28.cell? ⟨gb250, 1, none⟩ = some (.string t246) := (blk_cell BK250.out 1).trans rfl; have hcz29_2 : w28.cell? ⟨gb250, 2, none⟩ = some (.string t247) := (blk_cell BK250.out 2).trans rfl; have hcz29_3 : w28.cell? ⟨gb250, 3, none⟩ = some (.int .i64 t248) := (blk_cell BK250.out 3).trans rfl; have hfz29_0 := blk_frozen BK250.out 0; have hfz29_1 := blk_frozen BK250.out 1; have hfz29_2 := blk_frozen BK250.out 2; have hfz29_3 := blk_frozen BK250.out 3) | (have ztk36 := tk36; clear tk36 ztk36; (with_reducible refine gate_callee (f := 54) rfl ?_); refine goesL_ (some 29) rfl rfl Tryd.func54 (by kernel_rfl) rfl #[.bool t245, .string t257, .int .i64 t258, .int .i64 t249] rfl qng0_ ?_; (with_reducible refine (numeral_sizeOf.calls t245 t257 t258 t249 t259 t260 t261 t262 _ A22.out).mono ?_); rintro e w30 ⟨rfl, hb⟩; refine ⟨_, rfl, ?_⟩; have n0_ := Aside0.mk (blk_below (g := gb244) (o := .cells #[.int .i64 0, .int .i64 0, .int .i64 0, .string (⟨#[]⟩ : ByteArray)] 77 (0, 0)) qng40_ hb); have n1_ := Aside0.mk (blk_below (g := gb250) (o := .cells #[.bool t245, .string t246, .string t247, .int .i64 t248] 25 (0, 0)) (by (with_reducible repeat (first | refine blk_drewN ?_ _ | refine blk_drew ?_ | refine blk_alloc ?_ _)); exact BK250.out) hb); have n2_ := Aside0.mk (below_step qng44_ hb); clear BK244; clear BK250; clear HB; have BK244 := n0_; have BK250 := n1_; have HB := n2_; clear n0_ n1_ n2_; (try clear hb); (try clear hb2); (try clear hk); (try clear hi); have hcz31_0 : w30.cell? ⟨gb244, 0, none⟩ = some (.int .i64 0) := (blk_cell BK244.out 0).trans rfl; have hcz31_1 : w30.cell? ⟨gb244, 1, none⟩ = some (.int .i64 0) := (blk_cell BK244.out 1).trans rfl; have hcz31_2 : w30.cell? ⟨gb244, 2, none⟩ = some (.int .i64 0) := (blk_cell BK244.out 2).trans rfl; have hcz31_3 : w30.cell? ⟨gb244, 3, none⟩ = some (.string (⟨#[]⟩ : ByteArray)) := (blk_cell BK244.out 3).trans rfl; have hfz31_0 := blk_frozen BK244.out 0; have hfz31_1 := blk_frozen BK244.out 1; have hfz31_2 := blk_frozen BK244.out 2; have hfz31_3 := blk_frozen BK244.out 3))
  refine bodyPost_ret (results_cell_row rfl _ _ gb244 77 #[.int .i64 t259, .int .i64 t260, .int .i64 t261, .string t262] (0, 0) _ rfl (by (with_reducible repeat (first | refine blk_drewN ?_ _ | refine blk_drew ?_ | refine blk_alloc ?_ _)); refine blk_put (cs := #[.int .i64 t259, .int .i64 t260, .int .i64 t261, .string (⟨#[]⟩ : ByteArray)]) ?_ 3 _ rfl; (with_reducible repeat (first | refine blk_drewN ?_ _ | refine blk_drew ?_ | refine blk_alloc ?_ _)); refine blk_put (cs := #[.int .i64 t259, .int .i64 t260, .int .i64 0, .string (⟨#[]⟩ : ByteArray)]) ?_ 2 _ rfl; (with_reducible repeat (first | refine blk_drewN ?_ _ | refine blk_drew ?_ | refine blk_alloc ?_ _)); refine blk_put (cs := #[.int .i64 t259, .int .i64 0, .int .i64 0, .string (⟨#[]⟩ : ByteArray)]) ?_ 1 _ rfl; (with_reducible repeat (first | refine blk_drewN ?_ _ | refine blk_drew ?_ | refine blk_alloc ?_ _)); refine blk_put (cs := #[.int .i64 0, .int .i64 0, .int .i64 0, .string (⟨#[]⟩ : ByteArray)]) ?_ 0 _ rfl; (with_reducible repeat (first | refine blk_drewN ?_ _ | refine blk_drew ?_ | refine blk_alloc ?_ _)); exact BK244.out) Tryd.underlying77 rfl (by kernel_rfl)) rfl ?_
  exact ⟨qng6_, qng44_⟩


/-! ### numeral_pair: function 74 -/
mutual
def numeral_pair.j1 : Nat → ByteArray → Int → Option (ByteArray × ByteArray × ByteArray)
 | 0, _, _ => none
 | k + 1, x0, x5 => numeral_pair.l1 k x0 x5 x5
def numeral_pair.l1 : Nat → ByteArray → Int → Int → Option (ByteArray × ByteArray × ByteArray)
 | 0, _, _, _ => none
 | k + 1, x0, x5, x6 => if x6 < (x0.size : Int) then (if 0 ≤ x6 then ((numeral_digit.f (bt x0 x6)).bind fun t264 => (if t264 = true then (numeral_pair.l1 k x0 x5 (wrap64 (x6 + 1))) else (if 0 ≤ x5 then (if x5 ≤ (x0.size : Int) then (if x5 ≤ x6 then (if x6 ≤ (x0.size : Int) then (some (x0.extract 0 (x5 : Int).toNat, x0.extract (x5 : Int).toNat (x6 : Int).toNat, x0.extract (x6 : Int).toNat x0.size)) else (none)) else (none)) else (none)) else (none)))) else (none)) else (if 0 ≤ x5 then (if x5 ≤ (x0.size : Int) then (if x5 ≤ x6 then (if x6 ≤ (x0.size : Int) then (if 0 ≤ x6 then (some (x0.extract 0 (x5 : Int).toNat, x0.extract (x5 : Int).toNat (x6 : Int).toNat, x0.extract (x6 : Int).toNat x0.size)) else (none)) else (none)) else (none)) else (none)) else (none))
def numeral_pair.l0 : Nat → ByteArray → Int → Option (ByteArray × ByteArray × ByteArray)
 | 0, _, _ => none
 | k + 1, x0, x5 => if x5 < (x0.size : Int) then (if 0 ≤ x5 then ((numeral_digit.f (bt x0 x5)).bind fun t263 => (if t263 = true then (numeral_pair.j1 k x0 x5) else (numeral_pair.l0 k x0 (wrap64 (x5 + 1))))) else (none)) else (numeral_pair.j1 k x0 x5)
end
def numeral_pair.f (k : Nat) (a0 : ByteArray) : Option (ByteArray × ByteArray × ByteArray) := numeral_pair.l0 k a0 0
set_option maxHeartbeats 8000000 in
set_option maxRecDepth 100000 in
theorem numeral_pair.calls (k : Nat) (a0 : ByteArray) (r1 : ByteArray) (r2 : ByteArray) (r3 : ByteArray) (w : World) (h : numeral_pair.f k a0 = some (r1, r2, r3)) :
  Calls Tryd.prog 74 #[.string a0] w fun e w' => e = .returned (.tuple #[.string r1, .string r2, .string r3]) ∧ Drawn0 w w' := by
 have H : (numeral_pair.l0 k a0 0) = some (r1, r2, r3) := h
 clear h
 have HC2 := Aside0.mk H
 clear H
 go_enter Tryd.func74, Tryd.ntmps74
 go_upto_block 0 with (fail)
 repeat (go_quiet (fail); go_upto_block 0 with (fail))
 go_cut [5] (fun v5 wc => ∃ (kq : Nat) (x5_1 : Int), v5 = .int .i64 x5_1 ∧ Aside0 (numeral_pair.j1 kq a0 x5_1 = some (r1, r2, r3)) ∧ Aside0 (kq ≤ k) ∧ Drawn0 w wc)
 case first =>
  have H := HC2.out
  clear HC2
  have H' := Aside0.mk H
  clear H
  go_wp2
  repeat (go_quiet (fail); try go_wp2)
  go_loopg [5] k (fun kq v5 w' => ∃ (x5_1 : Int), v5 = .int .i64 x5_1 ∧ Aside0 (numeral_pair.l0 kq a0 x5_1 = some (r1, r2, r3)) ∧ Aside0 (kq ≤ k) ∧ Drawn0 w w')
  case atStart => exact ⟨(0), qng2_, H', ⟨Nat.le_refl _⟩, qng4_⟩
  case round =>
   clear H'
   (try clear p2)
   obtain ⟨x5_1, rfl, HA, HK1, ⟨m1, rfl⟩⟩ := hrel
   cases gk with
   | zero => exact absurd HA.out (by simp [numeral_pair.l0])
   | succ k1 =>
    have H := HA.out
    clear HA
    simp only [numeral_pair.l0] at H
    by_cases c3 : x5_1 < (a0.size : Int)
    ·
     rw [if_pos c3] at H
     have c3b0 : decide (x5_1 < (a0.size : Int)) = true := decide_eq_true c3
     clear c3
     (first | rw [c3b0] | (simp only [i64_w, i32_w]; rw [c3b0]) | skip)
     by_cases c4 : 0 ≤ x5_1
     ·
      rw [if_pos c4] at H
      have c4b0 : decide (0 ≤ x5_1) = true := decide_eq_true c4
      clear c4
      replace H := Option.bind_eq_some_iff.mp H
      obtain ⟨t263, A60, H⟩ := H
      replace H : (if t263 = true then (numeral_pair.j1 k1 a0 x5_1) else (numeral_pair.l0 k1 a0 (wrap64 (x5_1 + 1)))) = some (r1, r2, r3) := H
      have A6 := Aside0.mk A60
      clear A60
      by_cases c7 : t263 = true
      ·
       subst c7
       have H1 : (numeral_pair.j1 k1 a0 x5_1) = some (r1, r2, r3) := by rw [if_pos rfl] at H; exact H
       clear H
       have H := H1
       clear H1
       have H' := Aside0.mk H
       clear H
       have p5 : 0 ≤ (x5_1 : Int) := of_decide_eq_true qng3_
       have q5 : x5_1 < (a0.size : Int) := of_decide_eq_true qng3_
       have hx5 := bt_at a0 x5_1
       replace p5 := eq_true p5
       replace q5 := eq_true q5
       go_wp2_with (first | (go_at_call 68; (with_reducible refine (numeral_digit.calls (bt a0 x5_1) true _ A6.out).mono ?_); rintro e w' ⟨rfl, ⟨nd, rfl⟩⟩; (try first | exact ⟨rfl, _, World.drewN_drewN _ _ _⟩ | exact ⟨rfl, _, Eq.trans (World.drewN_drewN _ _ _) (congrArg (World.drewN _) (Nat.add_assoc _ _ _))⟩)))
       repeat (go_quiet (first | (go_at_call 68; (with_reducible refine (numeral_digit.calls (bt a0 x5_1) true _ A6.out).mono ?_); rintro e w' ⟨rfl, ⟨nd, rfl⟩⟩; (try first | exact ⟨rfl, _, World.drewN_drewN _ _ _⟩ | exact ⟨rfl, _, Eq.trans (World.drewN_drewN _ _ _) (congrArg (World.drewN _) (Nat.add_assoc _ _ _))⟩))); try go_wp2_with (first | (go_at_call 68; (with_reducible refine (numeral_digit.calls (bt a0 x5_1) true _ A6.out).mono ?_); rintro e w' ⟨rfl, ⟨nd, rfl⟩⟩; (try first | exact ⟨rfl, _, World.drewN_drewN _ _ _⟩ | exact ⟨rfl, _, Eq.trans (World.drewN_drewN _ _ _) (congrArg (World.drewN _) (Nat.add_assoc _ _ _))⟩))))
       go_meet
       case rel => exact ⟨_, (x5_1), qng2_, H', ⟨by have := HK1.out; first | omega | exact Nat.le_refl _⟩, qng4_⟩
      ·
       replace c7 := Bool.eq_false_iff.mpr c7
       subst c7
       have H1 : (numeral_pair.l0 k1 a0 (wrap64 (x5_1 + 1))) = some (r1, r2, r3) := by rw [if_neg (show ¬ (false = true) by decide)] at H; exact H
       clear H
       have H := H1
       clear H1
       have H' := Aside0.mk H
       clear H
       have p5 : 0 ≤ (x5_1 : Int) := of_decide_eq_true qng3_
       have q5 : x5_1 < (a0.size : Int) := of_decide_eq_true qng3_
       have hx5 := bt_at a0 x5_1
       replace p5 := eq_true p5
       replace q5 := eq_true q5
       go_wp2_with (first | (go_at_call 68; (with_reducible refine (numeral_digit.calls (bt a0 x5_1) false _ A6.out).mono ?_); rintro e w' ⟨rfl, ⟨nd, rfl⟩⟩; (try first | exact ⟨rfl, _, World.drewN_drewN _ _ _⟩ | exact ⟨rfl, _, Eq.trans (World.drewN_drewN _ _ _) (congrArg (World.drewN _) (Nat.add_assoc _ _ _))⟩)))
       repeat (go_quiet (first | (go_at_call 68; (with_reducible refine (numeral_digit.calls (bt a0 x5_1) false _ A6.out).mono ?_); rintro e w' ⟨rfl, ⟨nd, rfl⟩⟩; (try first | exact ⟨rfl, _, World.drewN_drewN _ _ _⟩ | exact ⟨rfl, _, Eq.trans (World.drewN_drewN _ _ _) (congrArg (World.drewN _) (Nat.add_assoc _ _ _))⟩))); try go_wp2_with (first | (go_at_call 68; (with_reducible refine (numeral_digit.calls (bt a0 x5_1) false _ A6.out).mono ?_); rintro e w' ⟨rfl, ⟨nd, rfl⟩⟩; (try first | exact ⟨rfl, _, World.drewN_drewN _ _ _⟩ | exact ⟨rfl, _, Eq.trans (World.drewN_drewN _ _ _) (congrArg (World.drewN _) (Nat.add_assoc _ _ _))⟩))))
       go_roundg k1
       case measure => have := HK1.out; omega
       case rel => exact ⟨(wrap64 (x5_1 + 1)), qng2_, H', ⟨by have := HK1.out; omega⟩, qng4_⟩
     ·
      rw [if_neg c4] at H
      exact absurd H (by simp)
    ·
     rw [if_neg c3] at H
     have c3b0 : decide (x5_1 < (a0.size : Int)) = false := decide_eq_false c3
     clear c3
     (first | rw [c3b0] | (simp only [i64_w, i32_w]; rw [c3b0]) | skip)
     have H' := Aside0.mk H
     clear H
     go_wp2
     repeat (go_quiet (fail); try go_wp2)
     go_meet
     case rel => exact ⟨_, (x5_1), qng2_, H', ⟨by have := HK1.out; first | omega | exact Nat.le_refl _⟩, qng4_⟩
 case rest =>
  clear HC2
  (try clear p2); (try clear c3); (try clear c3b0); (try clear c4); (try clear c4b0); (try clear p5); (try clear q5); (try clear hx5); (try clear p6); (try clear c7); (try clear p2); (try clear p5); (try clear q5)
  obtain ⟨kq, x5_1, rfl, HA, HJ1, ⟨mc1, rfl⟩⟩ := hcut
  cases kq with
  | zero => exact absurd HA.out (by simp [numeral_pair.j1])
  | succ kj1 =>
   have H := HA.out
   clear HA
   simp only [numeral_pair.j1] at H
   have H' := Aside0.mk H
   clear H
   go_wp2
   repeat (go_quiet (fail); try go_wp2)
   go_loopg [6] kj1 (fun kq v6 w' => ∃ (x6_2 : Int), v6 = .int .i64 x6_2 ∧ Aside0 (numeral_pair.l1 kq a0 x5_1 x6_2 = some (r1, r2, r3)) ∧ Aside0 (kq ≤ kj1) ∧ Drawn0 w w')
   case atStart => exact ⟨(x5_1), qng2_, H', ⟨Nat.le_refl _⟩, qng4_⟩
   case round =>
    clear H'
    (try clear c1); (try clear p2); (try clear c3); (try clear c3b0); (try clear c4); (try clear c4b0); (try clear p5); (try clear q5); (try clear hx5); (try clear p6); (try clear c7); (try clear p2); (try clear p5); (try clear p6); (try clear q5)
    obtain ⟨x6_2, rfl, HA, HK2, ⟨m2, rfl⟩⟩ := hrel
    cases gk with
    | zero => exact absurd HA.out (by simp [numeral_pair.l1])
    | succ k2 =>
     have H := HA.out
     clear HA
     simp only [numeral_pair.l1] at H
     by_cases c8 : x6_2 < (a0.size : Int)
     ·
      rw [if_pos c8] at H
      have c8b0 : decide (x6_2 < (a0.size : Int)) = true := decide_eq_true c8
      clear c8
      by_cases c9 : 0 ≤ x6_2
      ·
       rw [if_pos c9] at H
       have c9b0 : decide (0 ≤ x6_2) = true := decide_eq_true c9
       clear c9
       replace H := Option.bind_eq_some_iff.mp H
       obtain ⟨t264, A110, H⟩ := H
       replace H : (if t264 = true then (numeral_pair.l1 k2 a0 x5_1 (wrap64 (x6_2 + 1))) else (if 0 ≤ x5_1 then (if x5_1 ≤ (a0.size : Int) then (if x5_1 ≤ x6_2 then (if x6_2 ≤ (a0.size : Int) then (some (a0.extract 0 (x5_1 : Int).toNat, a0.extract (x5_1 : Int).toNat (x6_2 : Int).toNat, a0.extract (x6_2 : Int).toNat a0.size)) else (none)) else (none)) else (none)) else (none))) = some (r1, r2, r3) := H
       have A11 := Aside0.mk A110
       clear A110
       by_cases c12 : t264 = true
       ·
        subst c12
        have H1 : (numeral_pair.l1 k2 a0 x5_1 (wrap64 (x6_2 + 1))) = some (r1, r2, r3) := by rw [if_pos rfl] at H; exact H
        clear H
        have H := H1
        clear H1
        have H' := Aside0.mk H
        clear H
        have p10 : 0 ≤ (x6_2 : Int) := of_decide_eq_true qng3_
        have q10 : x6_2 < (a0.size : Int) := of_decide_eq_true qng3_
        have hx10 := bt_at a0 x6_2
        replace p10 := eq_true p10
        replace q10 := eq_true q10
        go_wp2_with (first | (go_at_call 68; (with_reducible refine (numeral_digit.calls (bt a0 x6_2) true _ A11.out).mono ?_); rintro e w' ⟨rfl, ⟨nd, rfl⟩⟩; (try first | exact ⟨rfl, _, World.drewN_drewN _ _ _⟩ | exact ⟨rfl, _, Eq.trans (World.drewN_drewN _ _ _) (congrArg (World.drewN _) (Nat.add_assoc _ _ _))⟩)))
        repeat (go_quiet (first | (go_at_call 68; (with_reducible refine (numeral_digit.calls (bt a0 x6_2) true _ A11.out).mono ?_); rintro e w' ⟨rfl, ⟨nd, rfl⟩⟩; (try first | exact ⟨rfl, _, World.drewN_drewN _ _ _⟩ | exact ⟨rfl, _, Eq.trans (World.drewN_drewN _ _ _) (congrArg (World.drewN _) (Nat.add_assoc _ _ _))⟩))); try go_wp2_with (first | (go_at_call 68; (with_reducible refine (numeral_digit.calls (bt a0 x6_2) true _ A11.out).mono ?_); rintro e w' ⟨rfl, ⟨nd, rfl⟩⟩; (try first | exact ⟨rfl, _, World.drewN_drewN _ _ _⟩ | exact ⟨rfl, _, Eq.trans (World.drewN_drewN _ _ _) (congrArg (World.drewN _) (Nat.add_assoc _ _ _))⟩))))
        go_roundg k2
        case measure => have := HJ1.out; have := HK2.out; omega
        case rel => exact ⟨(wrap64 (x6_2 + 1)), qng2_, H', ⟨by have := HJ1.out; have := HK2.out; omega⟩, qng4_⟩
       ·
        replace c12 := Bool.eq_false_iff.mpr c12
        subst c12
        have H1 : (if 0 ≤ x5_1 then (if x5_1 ≤ (a0.size : Int) then (if x5_1 ≤ x6_2 then (if x6_2 ≤ (a0.size : Int) then (some (a0.extract 0 (x5_1 : Int).toNat, a0.extract (x5_1 : Int).toNat (x6_2 : Int).toNat, a0.extract (x6_2 : Int).toNat a0.size)) else (none)) else (none)) else (none)) else (none)) = some (r1, r2, r3) := by rw [if_neg (show ¬ (false = true) by decide)] at H; exact H
        clear H
        have H := H1
        clear H1
        by_cases c13 : 0 ≤ x5_1
        ·
         rw [if_pos c13] at H
         have c13b0 := eq_true c13
         have c13b1 : decide (0 ≤ x5_1) = true := decide_eq_true c13
         clear c13
         by_cases c14 : x5_1 ≤ (a0.size : Int)
         ·
          rw [if_pos c14] at H
          have c14b0 := eq_true c14
          have c14b1 : decide (x5_1 ≤ (a0.size : Int)) = true := decide_eq_true c14
          clear c14
          have c15b0 := eq_true (of_decide_eq_true qng3_ : 0 ≤ x5_1)
          by_cases c16 : x5_1 ≤ x6_2
          ·
           rw [if_pos c16] at H
           have c16b0 := eq_true c16
           have c16b1 : decide (x5_1 ≤ x6_2) = true := decide_eq_true c16
           clear c16
           by_cases c17 : x6_2 ≤ (a0.size : Int)
           ·
            rw [if_pos c17] at H
            have c17b0 := eq_true c17
            have c17b1 : decide (x6_2 ≤ (a0.size : Int)) = true := decide_eq_true c17
            clear c17
            have c18b0 := eq_true (of_decide_eq_true qng3_ : 0 ≤ x6_2)
            have c19b0 := eq_true (of_decide_eq_true qng3_ : x6_2 ≤ (a0.size : Int))
            simp only [Option.some.injEq, Prod.mk.injEq] at H
            obtain ⟨rfl, rfl, rfl⟩ := H
            have p10 : 0 ≤ (x6_2 : Int) := of_decide_eq_true qng3_
            have q10 : x6_2 < (a0.size : Int) := of_decide_eq_true qng3_
            have hx10 := bt_at a0 x6_2
            replace p10 := eq_true p10
            replace q10 := eq_true q10
            go_wp2_with (first | (go_at_call 68; (with_reducible refine (numeral_digit.calls (bt a0 x6_2) false _ A11.out).mono ?_); rintro e w' ⟨rfl, ⟨nd, rfl⟩⟩; (try first | exact ⟨rfl, _, World.drewN_drewN _ _ _⟩ | exact ⟨rfl, _, Eq.trans (World.drewN_drewN _ _ _) (congrArg (World.drewN _) (Nat.add_assoc _ _ _))⟩)))
            repeat (go_quiet (first | (go_at_call 68; (with_reducible refine (numeral_digit.calls (bt a0 x6_2) false _ A11.out).mono ?_); rintro e w' ⟨rfl, ⟨nd, rfl⟩⟩; (try first | exact ⟨rfl, _, World.drewN_drewN _ _ _⟩ | exact ⟨rfl, _, Eq.trans (World.drewN_drewN _ _ _) (congrArg (World.drewN _) (Nat.add_assoc _ _ _))⟩))); try go_wp2_with (first | (go_at_call 68; (with_reducible refine (numeral_digit.calls (bt a0 x6_2) false _ A11.out).mono ?_); rintro e w' ⟨rfl, ⟨nd, rfl⟩⟩; (try first | exact ⟨rfl, _, World.drewN_drewN _ _ _⟩ | exact ⟨rfl, _, Eq.trans (World.drewN_drewN _ _ _) (congrArg (World.drewN _) (Nat.add_assoc _ _ _))⟩))))
            go_ret3
            exact ⟨qng2_, qng4_⟩
           ·
            rw [if_neg c17] at H
            exact absurd H (by simp)
          ·
           rw [if_neg c16] at H
           exact absurd H (by simp)
         ·
          rw [if_neg c14] at H
          exact absurd H (by simp)
        ·
         rw [if_neg c13] at H
         exact absurd H (by simp)
      ·
       rw [if_neg c9] at H
       exact absurd H (by simp)
     ·
      rw [if_neg c8] at H
      have c8b0 : decide (x6_2 < (a0.size : Int)) = false := decide_eq_false c8
      clear c8
      by_cases c20 : 0 ≤ x5_1
      ·
       rw [if_pos c20] at H
       have c20b0 := eq_true c20
       have c20b1 : decide (0 ≤ x5_1) = true := decide_eq_true c20
       clear c20
       by_cases c21 : x5_1 ≤ (a0.size : Int)
       ·
        rw [if_pos c21] at H
        have c21b0 := eq_true c21
        have c21b1 : decide (x5_1 ≤ (a0.size : Int)) = true := decide_eq_true c21
        clear c21
        have c22b0 := eq_true (of_decide_eq_true qng3_ : 0 ≤ x5_1)
        by_cases c23 : x5_1 ≤ x6_2
        ·
         rw [if_pos c23] at H
         have c23b0 := eq_true c23
         have c23b1 : decide (x5_1 ≤ x6_2) = true := decide_eq_true c23
         clear c23
         by_cases c24 : x6_2 ≤ (a0.size : Int)
         ·
          rw [if_pos c24] at H
          have c24b0 := eq_true c24
          have c24b1 : decide (x6_2 ≤ (a0.size : Int)) = true := decide_eq_true c24
          clear c24
          by_cases c25 : 0 ≤ x6_2
          ·
           rw [if_pos c25] at H
           have c25b0 := eq_true c25
           have c25b1 : decide (0 ≤ x6_2) = true := decide_eq_true c25
           clear c25
           have c26b0 := eq_true (of_decide_eq_true qng3_ : x6_2 ≤ (a0.size : Int))
           simp only [Option.some.injEq, Prod.mk.injEq] at H
           obtain ⟨rfl, rfl, rfl⟩ := H
           go_wp2
           repeat (go_quiet (fail); try go_wp2)
           go_ret3
           exact ⟨qng2_, qng4_⟩
          ·
           rw [if_neg c25] at H
           exact absurd H (by simp)
         ·
          rw [if_neg c24] at H
          exact absurd H (by simp)
        ·
         rw [if_neg c23] at H
         exact absurd H (by simp)
       ·
        rw [if_neg c21] at H
        exact absurd H (by simp)
      ·
       rw [if_neg c20] at H
       exact absurd H (by simp)


/-! ### numeral_rank: function 84 (by hand) -/
/-- The place of a byte that has no rank of its own, the first k groups taken off. -/
def rankR (c : Int) (k : Nat) : Int := c + 55 - (if 0 < k ∧ 57 < c then 10 else 0) - (if 1 < k ∧ 90 < c then 26 else 0) - (if 2 < k ∧ 122 < c then 26 else 0) - (if 3 < k ∧ 126 < c then 1 else 0)
def rankF (c : Int) : Int := if c = 126 then 1 else if 65 ≤ c ∧ c ≤ 90 then c - 62 else if 97 ≤ c ∧ c ≤ 122 then c - 68 else rankR c 4
def numeral_rank.f (a0 : Int) : Option Int := if 0 ≤ a0 ∧ a0 ≤ 255 then some (rankF a0) else none
theorem numeral_rank_ret {a b : Int} (h : a = b) : Ending.returned (.int .u8 a) = .returned (.int .u8 b) := by rw [h]
def rankCells : Array Value := #[.int .u8 57, .int .i64 10, .int .u8 90, .int .i64 26, .int .u8 122, .int .i64 26, .int .u8 126, .int .i64 1]
set_option maxRecDepth 100000 in
set_option maxHeartbeats 4000000 in
theorem numeral_rank.calls (a0 : Int) (r : Int) (w : World) (hGL : GOK w) (h : numeral_rank.f a0 = some r) :
    Calls Tryd.prog 84 #[.int .u8 a0] w fun e w' => e = .returned (.int .u8 r) ∧ Below w.heap.size w w' := by
  unfold numeral_rank.f at h
  split at h
  · rename_i hh
    obtain ⟨h0, h1⟩ := hh
    have HR := Aside0.mk (Option.some.inj h)
    clear h
    obtain ⟨fr, hfr⟩ := hGL.g2
    have HG := Aside0.mk (show w.heap[2]? = some (.cells rankCells 116 fr) from hfr)
    have HB := Aside0.mk (Below.refl w.heap.size w)
    clear hGL hfr
    by_cases e1 : a0 = 126
    · subst e1
      go_enter Tryd.func84, Tryd.ntmps84
      go_wp2
      go_ret
      exact ⟨numeral_rank_ret (by rw [← HR.out]; rfl), HB.out⟩
    · have b1 : (a0 == 126) = false := by simpa using e1
      have E1 := Aside0.mk e1
      clear e1
      by_cases e2 : 65 ≤ a0 ∧ a0 ≤ 90
      · obtain ⟨e2, e3⟩ := e2
        go_enter Tryd.func84, Tryd.ntmps84
        go_wp2
        go_ret
        exact ⟨numeral_rank_ret (by rw [← HR.out]; unfold rankF; rw [if_neg E1.out, if_pos ⟨e2, e3⟩]; omega), HB.out⟩
      · by_cases e4 : 97 ≤ a0 ∧ a0 ≤ 122
        · obtain ⟨e4, e5⟩ := e4
          have n2 : ¬ a0 ≤ 90 := by omega
          have n1 : 65 ≤ a0 := by omega
          go_enter Tryd.func84, Tryd.ntmps84
          go_wp2
          go_ret
          exact ⟨numeral_rank_ret (by rw [← HR.out]; unfold rankF; rw [if_neg E1.out, if_neg e2, if_pos ⟨e4, e5⟩]; omega), HB.out⟩
        · have HF := Aside0.mk (show r = rankR a0 4 from by rw [← HR.out]; unfold rankF; rw [if_neg E1.out, if_neg e2, if_neg e4])
          have hi0 : ∀ W : World, (Instr.index 116 (.agg rankCells) (.int .i64 0)).run Tryd.prog W = .ok (.agg #[.int .u8 57, .int .i64 10]) W := fun _ => by kernel_rfl
          have hi1 : ∀ W : World, (Instr.index 116 (.agg rankCells) (.int .i64 1)).run Tryd.prog W = .ok (.agg #[.int .u8 90, .int .i64 26]) W := fun _ => by kernel_rfl
          have hi2 : ∀ W : World, (Instr.index 116 (.agg rankCells) (.int .i64 2)).run Tryd.prog W = .ok (.agg #[.int .u8 122, .int .i64 26]) W := fun _ => by kernel_rfl
          have hi3 : ∀ W : World, (Instr.index 116 (.agg rankCells) (.int .i64 3)).run Tryd.prog W = .ok (.agg #[.int .u8 126, .int .i64 1]) W := fun _ => by kernel_rfl
          have hu1 := Tryd.underlying116
          have hu2 := Tryd.underlying115
          have hcs : (65 ≤ a0 → ¬ a0 ≤ 90) ∧ (97 ≤ a0 → ¬ a0 ≤ 122) := by omega
          have HCS := Aside0.mk hcs
          clear hcs e2 e4
          by_cases n1 : 65 ≤ a0
          all_goals by_cases n2 : 97 ≤ a0
          all_goals first
            | (exfalso; omega)
            | skip
          all_goals (try have n3 : 90 < a0 := by have := HCS.out; omega)
          all_goals (try have n4 : 122 < a0 := by have := HCS.out; omega)
          all_goals (try have d90 : decide (a0 ≤ 90) = false := decide_eq_false (by have := HCS.out; omega))
          all_goals (try have d122 : decide (a0 ≤ 122) = false := decide_eq_false (by have := HCS.out; omega))
          all_goals
            go_enter Tryd.func84, Tryd.ntmps84
            go_wp2_with (refine wpList_load_row rfl 116 _ rfl 2 rfl _ rankCells fr _ HG.out hu1 rfl (by kernel_rfl) ?_)
            go_loopw [3, 33] (fun v3 v33 wr => ∃ (j x : Int), v33 = .int .i64 j ∧ v3 = .int .i64 x ∧ Aside0 (x = rankR a0 j.toNat ∧ 0 ≤ j ∧ j ≤ 4) ∧ 0 ≤ x ∧ x ≤ 400 ∧ Aside0 (Below w.heap.size w wr)) (fun _ v33 _ => 4 - (intOf v33).toNat)
            case atStart => exact ⟨0, a0 + 55, rfl, rfl, ⟨by simp [rankR], by omega, by omega⟩, by omega, by omega, HB⟩
            case round =>
            clear HB
            obtain ⟨j, x, rfl, rfl, hx, hx0, hx1, HB⟩ := hrel
            rcases (by have := hx.out; omega : j = 0 ∨ j = 1 ∨ j = 2 ∨ j = 3 ∨ j = 4) with rfl | rfl | rfl | rfl | rfl
            · by_cases hgt : 57 < a0
              · first
                | (exfalso; omega)
                | (have hge : decide (57 < a0) = true := decide_eq_true hgt
                   go_wp2
                   go_roundw
                   case rel => exact ⟨1, x - 10, rfl, (by first | rfl | (simp; omega)), ⟨by rw [hx.out.1]; simp [rankR]; omega, by omega, by omega⟩, by have := hx.out.1; simp [rankR] at this; omega, by omega, ⟨qng36_⟩⟩
                   case measure => simp [intOf])
              · first
                | (exfalso; omega)
                | (have hge : decide (57 < a0) = false := decide_eq_false hgt
                   go_wp2
                   go_roundw
                   case rel => exact ⟨1, x, rfl, rfl, ⟨by rw [hx.out.1]; simp [rankR]; omega, by omega, by omega⟩, by have := hx.out.1; simp [rankR] at this; omega, by omega, ⟨qng36_⟩⟩
                   case measure => simp [intOf])
            · by_cases hgt : 90 < a0
              · first
                | (exfalso; omega)
                | (have hge : decide (90 < a0) = true := decide_eq_true hgt
                   go_wp2
                   go_roundw
                   case rel => exact ⟨2, x - 26, rfl, (by first | rfl | (simp; omega)), ⟨by rw [hx.out.1]; simp [rankR]; omega, by omega, by omega⟩, by have := hx.out.1; simp [rankR] at this; omega, by omega, ⟨qng36_⟩⟩
                   case measure => simp [intOf])
              · first
                | (exfalso; omega)
                | (have hge : decide (90 < a0) = false := decide_eq_false hgt
                   go_wp2
                   go_roundw
                   case rel => exact ⟨2, x, rfl, rfl, ⟨by rw [hx.out.1]; simp [rankR]; omega, by omega, by omega⟩, by have := hx.out.1; simp [rankR] at this; omega, by omega, ⟨qng36_⟩⟩
                   case measure => simp [intOf])
            · by_cases hgt : 122 < a0
              · first
                | (exfalso; omega)
                | (have hge : decide (122 < a0) = true := decide_eq_true hgt
                   go_wp2
                   go_roundw
                   case rel => exact ⟨3, x - 26, rfl, (by first | rfl | (simp; omega)), ⟨by rw [hx.out.1]; simp [rankR]; omega, by omega, by omega⟩, by have := hx.out.1; simp [rankR] at this; omega, by omega, ⟨qng36_⟩⟩
                   case measure => simp [intOf])
              · first
                | (exfalso; omega)
                | (have hge : decide (122 < a0) = false := decide_eq_false hgt
                   go_wp2
                   go_roundw
                   case rel => exact ⟨3, x, rfl, rfl, ⟨by rw [hx.out.1]; simp [rankR]; omega, by omega, by omega⟩, by have := hx.out.1; simp [rankR] at this; omega, by omega, ⟨qng36_⟩⟩
                   case measure => simp [intOf])
            · by_cases hgt : 126 < a0
              · first
                | (exfalso; omega)
                | (have hge : decide (126 < a0) = true := decide_eq_true hgt
                   go_wp2
                   go_roundw
                   case rel => exact ⟨4, x - 1, rfl, (by first | rfl | (simp; omega)), ⟨by rw [hx.out.1]; simp [rankR]; omega, by omega, by omega⟩, by have := hx.out.1; simp [rankR] at this; omega, by omega, ⟨qng36_⟩⟩
                   case measure => simp [intOf])
              · first
                | (exfalso; omega)
                | (have hge : decide (126 < a0) = false := decide_eq_false hgt
                   go_wp2
                   go_roundw
                   case rel => exact ⟨4, x, rfl, rfl, ⟨by rw [hx.out.1]; simp [rankR]; omega, by omega, by omega⟩, by have := hx.out.1; simp [rankR] at this; omega, by omega, ⟨qng36_⟩⟩
                   case measure => simp [intOf])
            · go_wp2
              go_ret
              exact ⟨numeral_rank_ret (by rw [HF.out, hx.out.1]; simp [rankR]; omega), HB.out⟩
  · cases h


/-! ### cmp_isNaN_byte: function 106 -/
def cmp_isNaN_byte.f (a0 : Int) : Option (Bool) := some (a0 != a0)
set_option maxHeartbeats 8000000 in
set_option maxRecDepth 100000 in
theorem cmp_isNaN_byte.calls (a0 : Int) (r : Bool) (w : World) (h : cmp_isNaN_byte.f a0 = some r) :
  Calls Tryd.prog 106 #[.int .u8 a0] w fun e w' => e = .returned (.bool r) ∧ Drawn0 w w' := by
 have H : (some (a0 != a0)) = some r := h
 clear h
 obtain rfl := Option.some.inj H
 go_enter Tryd.func106, Tryd.ntmps106
 go_wp2
 go_ret
 exact ⟨qng2_, qng4_⟩


/-! ### cmp_Compare_byte: function 97 -/
def cmp_Compare_byte.f (a0 : Int) (a1 : Int) : Option (Int) := (cmp_isNaN_byte.f a0).bind fun t265 => ((cmp_isNaN_byte.f a1).bind fun t266 => (if t265 = true then (if t266 = true then (some 0) else (some (-1))) else (if t266 = true then (some 1) else (if a0 < a1 then (some (-1)) else (if a0 > a1 then (some 1) else (some 0))))))
set_option maxHeartbeats 8000000 in
set_option maxRecDepth 100000 in
theorem cmp_Compare_byte.calls (a0 : Int) (a1 : Int) (r : Int) (w : World) (h : cmp_Compare_byte.f a0 a1 = some r) :
  Calls Tryd.prog 97 #[.int .u8 a0, .int .u8 a1] w fun e w' => e = .returned (.int .i64 r) ∧ Drawn0 w w' := by
 have H : ((cmp_isNaN_byte.f a0).bind fun t265 => ((cmp_isNaN_byte.f a1).bind fun t266 => (if t265 = true then (if t266 = true then (some 0) else (some (-1))) else (if t266 = true then (some 1) else (if a0 < a1 then (some (-1)) else (if a0 > a1 then (some 1) else (some 0))))))) = some r := h
 clear h
 replace H := Option.bind_eq_some_iff.mp H
 obtain ⟨t265, A30, H⟩ := H
 replace H : ((cmp_isNaN_byte.f a1).bind fun t266 => (if t265 = true then (if t266 = true then (some 0) else (some (-1))) else (if t266 = true then (some 1) else (if a0 < a1 then (some (-1)) else (if a0 > a1 then (some 1) else (some 0)))))) = some r := H
 have A3 := Aside0.mk A30
 clear A30
 replace H := Option.bind_eq_some_iff.mp H
 obtain ⟨t266, A40, H⟩ := H
 replace H : (if t265 = true then (if t266 = true then (some 0) else (some (-1))) else (if t266 = true then (some 1) else (if a0 < a1 then (some (-1)) else (if a0 > a1 then (some 1) else (some 0))))) = some r := H
 have A4 := Aside0.mk A40
 clear A40
 by_cases c5 : t265 = true
 ·
  subst c5
  have H1 : (if t266 = true then (some 0) else (some (-1))) = some r := by rw [if_pos rfl] at H; exact H
  clear H
  have H := H1
  clear H1
  by_cases c6 : t266 = true
  ·
   subst c6
   have H1 : (some 0) = some r := by rw [if_pos rfl] at H; exact H
   clear H
   have H := H1
   clear H1
   obtain rfl := Option.some.inj H
   go_enter Tryd.func97, Tryd.ntmps97
   have tk7 : True := trivial; have tk8 : True := trivial
   go_wp2_with (first | (have ztk7 := tk7; clear tk7 ztk7; (with_reducible refine gate_callee (f := 106) rfl ?_); refine goesL_ (some 8) rfl rfl Tryd.func106 (by kernel_rfl) rfl #[.int .u8 a0] rfl qng0_ ?_; (with_reducible refine (cmp_isNaN_byte.calls a0 true _ A3.out).mono ?_); rintro e w' ⟨rfl, ⟨nd, rfl⟩⟩; refine ⟨_, rfl, ?_⟩) | (have ztk8 := tk8; clear tk8 ztk8; (with_reducible refine gate_callee (f := 106) rfl ?_); refine goesL_ (some 10) rfl rfl Tryd.func106 (by kernel_rfl) rfl #[.int .u8 a1] rfl qng0_ ?_; (with_reducible refine (cmp_isNaN_byte.calls a1 true _ A4.out).mono ?_); rintro e w' ⟨rfl, ⟨nd, rfl⟩⟩; refine ⟨_, rfl, ?_⟩))
   go_ret
   exact ⟨qng2_, qng4_⟩
  ·
   replace c6 := Bool.eq_false_iff.mpr c6
   subst c6
   have H1 : (some (-1)) = some r := by rw [if_neg (show ¬ (false = true) by decide)] at H; exact H
   clear H
   have H := H1
   clear H1
   obtain rfl := Option.some.inj H
   go_enter Tryd.func97, Tryd.ntmps97
   have tk9 : True := trivial; have tk10 : True := trivial
   go_wp2_with (first | (have ztk9 := tk9; clear tk9 ztk9; (with_reducible refine gate_callee (f := 106) rfl ?_); refine goesL_ (some 8) rfl rfl Tryd.func106 (by kernel_rfl) rfl #[.int .u8 a0] rfl qng0_ ?_; (with_reducible refine (cmp_isNaN_byte.calls a0 true _ A3.out).mono ?_); rintro e w' ⟨rfl, ⟨nd, rfl⟩⟩; refine ⟨_, rfl, ?_⟩) | (have ztk10 := tk10; clear tk10 ztk10; (with_reducible refine gate_callee (f := 106) rfl ?_); refine goesL_ (some 10) rfl rfl Tryd.func106 (by kernel_rfl) rfl #[.int .u8 a1] rfl qng0_ ?_; (with_reducible refine (cmp_isNaN_byte.calls a1 false _ A4.out).mono ?_); rintro e w' ⟨rfl, ⟨nd, rfl⟩⟩; refine ⟨_, rfl, ?_⟩))
   go_ret
   exact ⟨qng2_, qng4_⟩
 ·
  replace c5 := Bool.eq_false_iff.mpr c5
  subst c5
  have H1 : (if t266 = true then (some 1) else (if a0 < a1 then (some (-1)) else (if a0 > a1 then (some 1) else (some 0)))) = some r := by rw [if_neg (show ¬ (false = true) by decide)] at H; exact H
  clear H
  have H := H1
  clear H1
  by_cases c11 : t266 = true
  ·
   subst c11
   have H1 : (some 1) = some r := by rw [if_pos rfl] at H; exact H
   clear H
   have H := H1
   clear H1
   obtain rfl := Option.some.inj H
   go_enter Tryd.func97, Tryd.ntmps97
   have tk12 : True := trivial; have tk13 : True := trivial
   go_wp2_with (first | (have ztk12 := tk12; clear tk12 ztk12; (with_reducible refine gate_callee (f := 106) rfl ?_); refine goesL_ (some 8) rfl rfl Tryd.func106 (by kernel_rfl) rfl #[.int .u8 a0] rfl qng0_ ?_; (with_reducible refine (cmp_isNaN_byte.calls a0 false _ A3.out).mono ?_); rintro e w' ⟨rfl, ⟨nd, rfl⟩⟩; refine ⟨_, rfl, ?_⟩) | (have ztk13 := tk13; clear tk13 ztk13; (with_reducible refine gate_callee (f := 106) rfl ?_); refine goesL_ (some 10) rfl rfl Tryd.func106 (by kernel_rfl) rfl #[.int .u8 a1] rfl qng0_ ?_; (with_reducible refine (cmp_isNaN_byte.calls a1 true _ A4.out).mono ?_); rintro e w' ⟨rfl, ⟨nd, rfl⟩⟩; refine ⟨_, rfl, ?_⟩))
   go_ret
   exact ⟨qng2_, qng4_⟩
  ·
   replace c11 := Bool.eq_false_iff.mpr c11
   subst c11
   have H1 : (if a0 < a1 then (some (-1)) else (if a0 > a1 then (some 1) else (some 0))) = some r := by rw [if_neg (show ¬ (false = true) by decide)] at H; exact H
   clear H
   have H := H1
   clear H1
   by_cases c14 : a0 < a1
   ·
    rw [if_pos c14] at H
    have c14b0 : decide (a0 < a1) = true := decide_eq_true c14
    clear c14
    obtain rfl := Option.some.inj H
    go_enter Tryd.func97, Tryd.ntmps97
    have tk15 : True := trivial; have tk16 : True := trivial
    go_wp2_with (first | (have ztk15 := tk15; clear tk15 ztk15; (with_reducible refine gate_callee (f := 106) rfl ?_); refine goesL_ (some 8) rfl rfl Tryd.func106 (by kernel_rfl) rfl #[.int .u8 a0] rfl qng0_ ?_; (with_reducible refine (cmp_isNaN_byte.calls a0 false _ A3.out).mono ?_); rintro e w' ⟨rfl, ⟨nd, rfl⟩⟩; refine ⟨_, rfl, ?_⟩) | (have ztk16 := tk16; clear tk16 ztk16; (with_reducible refine gate_callee (f := 106) rfl ?_); refine goesL_ (some 10) rfl rfl Tryd.func106 (by kernel_rfl) rfl #[.int .u8 a1] rfl qng0_ ?_; (with_reducible refine (cmp_isNaN_byte.calls a1 false _ A4.out).mono ?_); rintro e w' ⟨rfl, ⟨nd, rfl⟩⟩; refine ⟨_, rfl, ?_⟩))
    go_ret
    exact ⟨qng2_, qng4_⟩
   ·
    rw [if_neg c14] at H
    have c14b0 : decide (a0 < a1) = false := decide_eq_false c14
    clear c14
    by_cases c17 : a0 > a1
    ·
     rw [if_pos c17] at H
     have c17b0 : decide (a1 < a0) = true := decide_eq_true c17
     clear c17
     obtain rfl := Option.some.inj H
     go_enter Tryd.func97, Tryd.ntmps97
     have tk18 : True := trivial; have tk19 : True := trivial
     go_wp2_with (first | (have ztk18 := tk18; clear tk18 ztk18; (with_reducible refine gate_callee (f := 106) rfl ?_); refine goesL_ (some 8) rfl rfl Tryd.func106 (by kernel_rfl) rfl #[.int .u8 a0] rfl qng0_ ?_; (with_reducible refine (cmp_isNaN_byte.calls a0 false _ A3.out).mono ?_); rintro e w' ⟨rfl, ⟨nd, rfl⟩⟩; refine ⟨_, rfl, ?_⟩) | (have ztk19 := tk19; clear tk19 ztk19; (with_reducible refine gate_callee (f := 106) rfl ?_); refine goesL_ (some 10) rfl rfl Tryd.func106 (by kernel_rfl) rfl #[.int .u8 a1] rfl qng0_ ?_; (with_reducible refine (cmp_isNaN_byte.calls a1 false _ A4.out).mono ?_); rintro e w' ⟨rfl, ⟨nd, rfl⟩⟩; refine ⟨_, rfl, ?_⟩))
     go_ret
     exact ⟨qng2_, qng4_⟩
    ·
     rw [if_neg c17] at H
     have c17b0 : decide (a1 < a0) = false := decide_eq_false c17
     clear c17
     obtain rfl := Option.some.inj H
     go_enter Tryd.func97, Tryd.ntmps97
     have tk20 : True := trivial; have tk21 : True := trivial
     go_wp2_with (first | (have ztk20 := tk20; clear tk20 ztk20; (with_reducible refine gate_callee (f := 106) rfl ?_); refine goesL_ (some 8) rfl rfl Tryd.func106 (by kernel_rfl) rfl #[.int .u8 a0] rfl qng0_ ?_; (with_reducible refine (cmp_isNaN_byte.calls a0 false _ A3.out).mono ?_); rintro e w' ⟨rfl, ⟨nd, rfl⟩⟩; refine ⟨_, rfl, ?_⟩) | (have ztk21 := tk21; clear tk21 ztk21; (with_reducible refine gate_callee (f := 106) rfl ?_); refine goesL_ (some 10) rfl rfl Tryd.func106 (by kernel_rfl) rfl #[.int .u8 a1] rfl qng0_ ?_; (with_reducible refine (cmp_isNaN_byte.calls a1 false _ A4.out).mono ?_); rintro e w' ⟨rfl, ⟨nd, rfl⟩⟩; refine ⟨_, rfl, ?_⟩))
     go_ret
     exact ⟨qng2_, qng4_⟩


/-! ### numeral_words: function 75 -/
mutual
def numeral_words.l0 : Nat → ByteArray → ByteArray → Int → Int → Option (Int)
 | 0, _, _, _, _ => none
 | k + 1, x0, x1, x12, x13 => if x13 < x12 then (if x13 < (x0.size : Int) then (if 0 ≤ x13 then ((numeral_rank.f (bt x0 x13)).bind fun t267 => (numeral_words.j1 k x0 x1 x13 t267 2 x12 x13)) else (none)) else (numeral_words.j1 k x0 x1 x13 2 2 x12 x13)) else (some 0)
def numeral_words.j1 : Nat → ByteArray → ByteArray → Int → Int → Int → Int → Int → Option (Int)
 | 0, _, _, _, _, _, _, _ => none
 | k + 1, x0, x1, x5, x6, x7, x12, x13 => if x5 < (x1.size : Int) then (if 0 ≤ x5 then ((numeral_rank.f (bt x1 x5)).bind fun t268 => (if x6 = t268 then (numeral_words.l0 k x0 x1 x12 (wrap64 (x13 + 1))) else ((cmp_Compare_byte.f x6 t268).bind fun t269 => (some t269)))) else (none)) else (if x6 = x7 then (numeral_words.l0 k x0 x1 x12 (wrap64 (x13 + 1))) else ((cmp_Compare_byte.f x6 x7).bind fun t270 => (some t270)))
end
def numeral_words.f (k : Nat) (a0 : ByteArray) (a1 : ByteArray) : Option (Int) := numeral_words.l0 k a0 a1 (mx (a0.size : Int) (a1.size : Int)) 0
set_option maxHeartbeats 8000000 in
set_option maxRecDepth 100000 in
theorem numeral_words.calls (k : Nat) (a0 : ByteArray) (a1 : ByteArray) (r : Int) (w : World) (hGL : GOK w) (h : numeral_words.f k a0 a1 = some r) :
  Calls Tryd.prog 75 #[.string a0, .string a1] w fun e w' => e = .returned (.int .i64 r) ∧ Below w.heap.size w w' := by
 have HGL := Aside0.mk hGL
 clear hGL
 have HB := Aside0.mk (Below.refl w.heap.size w)
 have H : (numeral_words.l0 k a0 a1 (mx (a0.size : Int) (a1.size : Int)) 0) = some r := h
 clear h
 obtain ⟨ji3, hji3⟩ : ∃ j_ : Int, (mx (a0.size : Int) (a1.size : Int)) = j_ := ⟨_, rfl⟩
 replace H : (numeral_words.l0 k a0 a1 ji3 0) = some r := by first | (rw [hji3] at H; exact H) | (simp only [hji3] at H ⊢; exact H)
 (try (have hji3l : 0 ≤ ji3 := by (rw [← hji3]; unfold mx; (repeat' split) <;> omega)))
 (try (have hji3m : 0 ≤ ji3 := by omega))
 have hji3_ : (if (a0.size : Int) < (a1.size : Int) then (a1.size : Int) else (a0.size : Int)) = ji3 := hji3
 (try have hji3N : (if a0.size < a1.size then (a1.size : Int) else (a0.size : Int)) = ji3 := by simpa only [Int.ofNat_lt] using hji3_)
 have H' := Aside0.mk H
 clear H
 go_enter Tryd.func75, Tryd.ntmps75
 go_wp2
 go_loopg [13] k (fun kq v13 w' => ∃ (x13_1 : Int), v13 = .int .i64 x13_1 ∧ Aside0 (numeral_words.l0 kq a0 a1 ji3 x13_1 = some r) ∧ Aside0 (kq ≤ k) ∧ Aside0 (Below w.heap.size w w'))
 case atStart => exact ⟨(0), qng2_, H', ⟨Nat.le_refl _⟩, ⟨qng1_⟩⟩
 case round =>
  clear H'
  (try clear p2)
  obtain ⟨x13_1, rfl, HA, HK1, HB⟩ := hrel
  cases gk with
  | zero => exact absurd HA.out (by simp [numeral_words.l0])
  | succ k1 =>
   have H := HA.out
   clear HA
   simp only [numeral_words.l0] at H
   by_cases c4 : x13_1 < ji3
   ·
    rw [if_pos c4] at H
    have c4b0 : decide (x13_1 < ji3) = true := decide_eq_true c4
    clear c4
    have HC5 := Aside0.mk H
    clear H
    go_upto_if 19 with (fail)
    go_cut [6] (fun v6 wc => ∃ (kq : Nat) (x6_4 : Int), v6 = .int .u8 x6_4 ∧ Aside0 (numeral_words.j1 kq a0 a1 x13_1 x6_4 2 ji3 x13_1 = some r) ∧ Aside0 (kq ≤ k1) ∧ Aside0 (Below w.heap.size w wc))
    case first =>
     have H := HC5.out
     clear HC5
     by_cases c6 : x13_1 < (a0.size : Int)
     ·
      rw [if_pos c6] at H
      have c6b0 : decide (x13_1 < (a0.size : Int)) = true := decide_eq_true c6
      clear c6
      (first | rw [c6b0] | (simp only [i64_w, i32_w]; rw [c6b0]) | skip)
      by_cases c7 : 0 ≤ x13_1
      ·
       rw [if_pos c7] at H
       have c7b0 : decide (0 ≤ x13_1) = true := decide_eq_true c7
       clear c7
       replace H := Option.bind_eq_some_iff.mp H
       obtain ⟨t267, A90, H⟩ := H
       replace H : (numeral_words.j1 k1 a0 a1 x13_1 t267 2 ji3 x13_1) = some r := H
       have A9 := Aside0.mk A90
       clear A90
       have H' := Aside0.mk H
       clear H
       have p8 : 0 ≤ (x13_1 : Int) := of_decide_eq_true qng3_
       have q8 : x13_1 < (a0.size : Int) := of_decide_eq_true qng3_
       have hx8 := bt_at a0 x13_1
       replace p8 := eq_true p8
       replace q8 := eq_true q8
       go_wp2_with (first | ((with_reducible refine gate_callee (f := 84) rfl ?_); refine goesL_ (some 23) rfl rfl Tryd.func84 (by kernel_rfl) rfl #[.int .u8 (bt a0 x13_1)] rfl qng0_ ?_; (with_reducible refine (numeral_rank.calls (bt a0 x13_1) t267 _ ?side1 A9.out).mono ?_); (case side1 => exact GOK.below HGL.out qng1_); rintro e w10 ⟨rfl, hb⟩; refine ⟨_, rfl, ?_⟩; have n0_ := Aside0.mk (below_step qng1_ hb); clear HB; have HB := n0_; clear n0_; (try clear hb); (try clear hb2); (try clear hk); (try clear hi)))
       go_meet
       case rel => exact ⟨_, (t267), qng2_, H', ⟨by have := HK1.out; first | omega | exact Nat.le_refl _⟩, ⟨qng1_⟩⟩
      ·
       rw [if_neg c7] at H
       exact absurd H (by simp)
     ·
      rw [if_neg c6] at H
      have c6b0 : decide (x13_1 < (a0.size : Int)) = false := decide_eq_false c6
      clear c6
      (first | rw [c6b0] | (simp only [i64_w, i32_w]; rw [c6b0]) | skip)
      have H' := Aside0.mk H
      clear H
      go_wp2
      go_meet
      case rel => exact ⟨_, (2), qng2_, H', ⟨by have := HK1.out; first | omega | exact Nat.le_refl _⟩, ⟨qng1_⟩⟩
    case rest =>
     clear HC5
     (try clear p2); (try clear c4); (try clear c4b0); (try clear c6); (try clear c6b0); (try clear c7); (try clear c7b0); (try clear c8); (try clear p8); (try clear q8); (try clear hx8); (try clear p2); (try clear p8); (try clear q8)
     obtain ⟨kq, x6_4, rfl, HA, HJ4, HB⟩ := hcut
     cases kq with
     | zero => exact absurd HA.out (by simp [numeral_words.j1])
     | succ kj4 =>
      have H := HA.out
      clear HA
      simp only [numeral_words.j1] at H
      by_cases c11 : x13_1 < (a1.size : Int)
      ·
       rw [if_pos c11] at H
       have c11b0 : decide (x13_1 < (a1.size : Int)) = true := decide_eq_true c11
       clear c11
       by_cases c12 : 0 ≤ x13_1
       ·
        rw [if_pos c12] at H
        have c12b0 : decide (0 ≤ x13_1) = true := decide_eq_true c12
        clear c12
        replace H := Option.bind_eq_some_iff.mp H
        obtain ⟨t268, A140, H⟩ := H
        replace H : (if x6_4 = t268 then (numeral_words.l0 kj4 a0 a1 ji3 (wrap64 (x13_1 + 1))) else ((cmp_Compare_byte.f x6_4 t268).bind fun t269 => (some t269))) = some r := H
        have A14 := Aside0.mk A140
        clear A140
        by_cases c15 : x6_4 = t268
        ·
         rw [if_pos c15] at H
         have c15b0 : (x6_4 == t268) = true := beq_iff_eq.mpr c15
         have c15b1 : (x6_4 != t268) = false := bne_eq_false_iff_eq.mpr c15
         clear c15
         have H' := Aside0.mk H
         clear H
         have p13 : 0 ≤ (x13_1 : Int) := of_decide_eq_true qng3_
         have q13 : x13_1 < (a1.size : Int) := of_decide_eq_true qng3_
         have hx13 := bt_at a1 x13_1
         replace p13 := eq_true p13
         replace q13 := eq_true q13
         go_wp2_with (first | ((with_reducible refine gate_callee (f := 84) rfl ?_); refine goesL_ (some 31) rfl rfl Tryd.func84 (by kernel_rfl) rfl #[.int .u8 (bt a1 x13_1)] rfl qng0_ ?_; (with_reducible refine (numeral_rank.calls (bt a1 x13_1) t268 _ ?side1 A14.out).mono ?_); (case side1 => exact GOK.below HGL.out qng1_); rintro e w16 ⟨rfl, hb⟩; refine ⟨_, rfl, ?_⟩; have n0_ := Aside0.mk (below_step qng1_ hb); clear HB; have HB := n0_; clear n0_; (try clear hb); (try clear hb2); (try clear hk); (try clear hi)))
         go_roundg kj4
         case measure => have := HK1.out; have := HJ4.out; omega
         case rel => exact ⟨(wrap64 (x13_1 + 1)), qng2_, H', ⟨by have := HK1.out; have := HJ4.out; omega⟩, ⟨qng1_⟩⟩
        ·
         rw [if_neg c15] at H
         have c15b0 : (x6_4 == t268) = false := beq_eq_false_iff_ne.mpr c15
         have c15b1 : (x6_4 != t268) = true := bne_iff_ne.mpr c15
         replace H := Option.bind_eq_some_iff.mp H
         obtain ⟨t269, A170, H⟩ := H
         replace H : (some t269) = some r := H
         have A17 := Aside0.mk A170
         clear A170
         obtain rfl := Option.some.inj H
         have p13 : 0 ≤ (x13_1 : Int) := of_decide_eq_true qng3_
         have q13 : x13_1 < (a1.size : Int) := of_decide_eq_true qng3_
         have hx13 := bt_at a1 x13_1
         replace p13 := eq_true p13
         replace q13 := eq_true q13
         have tk19 : True := trivial; have tk20 : True := trivial
         go_wp2_with (first | (have ztk19 := tk19; clear tk19 ztk19; (with_reducible refine gate_callee (f := 84) rfl ?_); refine goesL_ (some 31) rfl rfl Tryd.func84 (by kernel_rfl) rfl #[.int .u8 (bt a1 x13_1)] rfl qng0_ ?_; (with_reducible refine (numeral_rank.calls (bt a1 x13_1) t268 _ ?side1 A14.out).mono ?_); (case side1 => exact GOK.below HGL.out qng1_); rintro e w18 ⟨rfl, hb⟩; refine ⟨_, rfl, ?_⟩; have n0_ := Aside0.mk (below_step qng1_ hb); clear HB; have HB := n0_; clear n0_; (try clear hb); (try clear hb2); (try clear hk); (try clear hi)) | (have ztk20 := tk20; clear tk20 ztk20; (with_reducible refine gate_callee (f := 97) rfl ?_); refine goesL_ (some 37) rfl rfl Tryd.func97 (by kernel_rfl) rfl #[.int .u8 x6_4, .int .u8 t268] rfl qng0_ ?_; (with_reducible refine (cmp_Compare_byte.calls x6_4 t268 t269 _ A17.out).mono ?_); rintro e w' ⟨rfl, ⟨nd, rfl⟩⟩; refine ⟨_, rfl, ?_⟩))
         go_ret
         exact ⟨qng69_, qng1_⟩
       ·
        rw [if_neg c12] at H
        exact absurd H (by simp)
      ·
       rw [if_neg c11] at H
       have c11b0 : decide (x13_1 < (a1.size : Int)) = false := decide_eq_false c11
       clear c11
       by_cases c21 : x6_4 = 2
       ·
        rw [if_pos c21] at H
        have c21b0 : (x6_4 == 2) = true := beq_iff_eq.mpr c21
        have c21b1 : (x6_4 != 2) = false := bne_eq_false_iff_eq.mpr c21
        clear c21
        have H' := Aside0.mk H
        clear H
        go_wp2
        go_roundg kj4
        case measure => have := HK1.out; have := HJ4.out; omega
        case rel => exact ⟨(wrap64 (x13_1 + 1)), qng2_, H', ⟨by have := HK1.out; have := HJ4.out; omega⟩, ⟨qng1_⟩⟩
       ·
        rw [if_neg c21] at H
        have c21b0 : (x6_4 == 2) = false := beq_eq_false_iff_ne.mpr c21
        have c21b1 : (x6_4 != 2) = true := bne_iff_ne.mpr c21
        replace H := Option.bind_eq_some_iff.mp H
        obtain ⟨t270, A220, H⟩ := H
        replace H : (some t270) = some r := H
        have A22 := Aside0.mk A220
        clear A220
        obtain rfl := Option.some.inj H
        go_wp2_with (first | ((with_reducible refine gate_callee (f := 97) rfl ?_); refine goesL_ (some 37) rfl rfl Tryd.func97 (by kernel_rfl) rfl #[.int .u8 x6_4, .int .u8 2] rfl qng0_ ?_; (with_reducible refine (cmp_Compare_byte.calls x6_4 2 t270 _ A22.out).mono ?_); rintro e w' ⟨rfl, ⟨nd, rfl⟩⟩; refine ⟨_, rfl, ?_⟩))
        go_ret
        exact ⟨qng69_, qng1_⟩
   ·
    rw [if_neg c4] at H
    have c4b0 : decide (x13_1 < ji3) = false := decide_eq_false c4
    clear c4
    obtain rfl := Option.some.inj H
    go_wp2
    go_ret
    exact ⟨qng69_, qng1_⟩


/-! ### numeral_runs: function 76 -/
def numeral_runs.j0 : Nat → ByteArray → ByteArray → Bool → Option (Int)
 | 0, _, _, _ => none
 | k + 1, x0, x1, x10 => if x10 = true then ((cmp_Compare_int.f (mn (x0.size : Int) 1) (mn (x1.size : Int) 1)).bind fun t271 => (some t271)) else ((strings_TrimLeft.f k x0 (⟨#[48]⟩ : ByteArray)).bind fun t272 => ((strings_TrimLeft.f k x1 (⟨#[48]⟩ : ByteArray)).bind fun t273 => ((cmp_Compare_int.f (t272.size : Int) (t273.size : Int)).bind fun t274 => ((strings_Compare.f t272 t273).bind fun t275 => ((cmp_Or_int.f k (([t274, t275] : List Int))).bind fun t279 => (some t279))))))
def numeral_runs.f (k : Nat) (a0 : ByteArray) (a1 : ByteArray) : Option (Int) := if a0.toList = ([] : List UInt8) then (numeral_runs.j0 k a0 a1 true) else (numeral_runs.j0 k a0 a1 a1.toList.isEmpty)
set_option maxHeartbeats 8000000 in
set_option maxRecDepth 100000 in
theorem numeral_runs.calls (k : Nat) (a0 : ByteArray) (a1 : ByteArray) (r : Int) (w : World) (h : numeral_runs.f k a0 a1 = some r) :
  Calls Tryd.prog 76 #[.string a0, .string a1] w fun e w' => e = .returned (.int .i64 r) ∧ Below w.heap.size w w' := by
 have HB := Aside0.mk (Below.refl w.heap.size w)
 have H : (if a0.toList = ([] : List UInt8) then (numeral_runs.j0 k a0 a1 true) else (numeral_runs.j0 k a0 a1 a1.toList.isEmpty)) = some r := h
 clear h
 have HC3 := Aside0.mk H
 clear H
 go_enter Tryd.func76, Tryd.ntmps76
 go_upto_region 1 with (fail)
 go_cut [10] (fun v10 wc => ∃ (kq : Nat) (x10_2 : Bool), v10 = .bool x10_2 ∧ Aside0 (numeral_runs.j0 kq a0 a1 x10_2 = some r) ∧ Aside0 (kq ≤ k) ∧ Aside0 (Below w.heap.size w wc))
 case first =>
  have H := HC3.out
  clear HC3
  by_cases c4 : a0.toList = ([] : List UInt8)
  ·
   rw [if_pos c4] at H
   have c4b0 : (a0.toList == ([] : List UInt8)) = true := beq_iff_eq.mpr c4
   have c4b1 : (a0.toList != ([] : List UInt8)) = false := bne_eq_false_iff_eq.mpr c4
   clear c4
   (first | rw [c4b0] | (simp only [i64_w, i32_w]; rw [c4b0]) | skip)
   have H' := Aside0.mk H
   clear H
   go_wp2
   go_meet
   case rel => exact ⟨_, (true), qng2_, H', ⟨by first | omega | exact Nat.le_refl _⟩, ⟨qng1_⟩⟩
  ·
   rw [if_neg c4] at H
   have c4b0 : (a0.toList == ([] : List UInt8)) = false := beq_eq_false_iff_ne.mpr c4
   have c4b1 : (a0.toList != ([] : List UInt8)) = true := bne_iff_ne.mpr c4
   (first | rw [c4b0] | (simp only [i64_w, i32_w]; rw [c4b0]) | skip)
   have H' := Aside0.mk H
   clear H
   go_wp2
   go_meet
   case rel => exact ⟨_, (a1.toList.isEmpty), qng2_, H', ⟨by first | omega | exact Nat.le_refl _⟩, ⟨qng1_⟩⟩
 case rest =>
  clear HC3
  (try clear p2); (try clear c4); (try clear c4b0); (try clear c4b1)
  obtain ⟨kq, x10_2, rfl, HA, HJ2, HB⟩ := hcut
  cases kq with
  | zero => exact absurd HA.out (by simp [numeral_runs.j0])
  | succ kj2 =>
   have H := HA.out
   clear HA
   simp only [numeral_runs.j0] at H
   by_cases c5 : x10_2 = true
   ·
    subst c5
    have H1 : ((cmp_Compare_int.f (mn (a0.size : Int) 1) (mn (a1.size : Int) 1)).bind fun t271 => (some t271)) = some r := by rw [if_pos rfl] at H; exact H
    clear H
    have H := H1
    clear H1
    obtain ⟨ji6, hji6⟩ : ∃ j_ : Int, (mn (a0.size : Int) 1) = j_ := ⟨_, rfl⟩
    replace H : ((cmp_Compare_int.f (ji6) (mn (a1.size : Int) 1)).bind fun t271 => (some t271)) = some r := by first | (rw [hji6] at H; exact H) | (simp only [hji6] at H ⊢; exact H)
    have hji6_ : (if 1 < (a0.size : Int) then 1 else (a0.size : Int)) = ji6 := hji6
    obtain ⟨ji7, hji7⟩ : ∃ j_ : Int, (mn (a1.size : Int) 1) = j_ := ⟨_, rfl⟩
    replace H : ((cmp_Compare_int.f (ji6) (ji7)).bind fun t271 => (some t271)) = some r := by first | (rw [hji7] at H; exact H) | (simp only [hji7] at H ⊢; exact H)
    have hji7_ : (if 1 < (a1.size : Int) then 1 else (a1.size : Int)) = ji7 := hji7
    replace H := Option.bind_eq_some_iff.mp H
    obtain ⟨t271, A80, H⟩ := H
    replace H : (some t271) = some r := H
    have A8 := Aside0.mk A80
    clear A80
    obtain rfl := Option.some.inj H
    go_wp2_with (first | ((with_reducible refine gate_callee (f := 51) rfl ?_); refine goesL_ (some 17) rfl rfl Tryd.func51 (by kernel_rfl) rfl #[.int .i64 ji6, .int .i64 ji7] rfl (by (try simp only [List.map_toArray, List.map_cons, List.map_nil]); first | done | (simp only [hji6, hji7]; rfl) | rfl | (simp only [List.length_drop, List.length_take]; rfl) | (simp; done) | (simp; omega)) ?_; (with_reducible refine (cmp_Compare_int.calls ji6 ji7 t271 _ A8.out).mono ?_); rintro e w' ⟨rfl, ⟨nd, rfl⟩⟩; refine ⟨_, rfl, ?_⟩))
    go_ret
    exact ⟨by first | rfl | (simp [errW_none, errW_some] <;> rfl) | (simp only [← hji6, ← hji7]; first | rfl | (simp [errW_none, errW_some] <;> rfl)) | (simp [*, errW_none, errW_some] <;> rfl), qng1_⟩
   ·
    replace c5 := Bool.eq_false_iff.mpr c5
    subst c5
    have H1 : ((strings_TrimLeft.f kj2 a0 (⟨#[48]⟩ : ByteArray)).bind fun t272 => ((strings_TrimLeft.f kj2 a1 (⟨#[48]⟩ : ByteArray)).bind fun t273 => ((cmp_Compare_int.f (t272.size : Int) (t273.size : Int)).bind fun t274 => ((strings_Compare.f t272 t273).bind fun t275 => ((cmp_Or_int.f kj2 (([t274, t275] : List Int))).bind fun t279 => (some t279)))))) = some r := by rw [if_neg (show ¬ (false = true) by decide)] at H; exact H
    clear H
    have H := H1
    clear H1
    replace H := Option.bind_eq_some_iff.mp H
    obtain ⟨t272, A90, H⟩ := H
    replace H : ((strings_TrimLeft.f kj2 a1 (⟨#[48]⟩ : ByteArray)).bind fun t273 => ((cmp_Compare_int.f (t272.size : Int) (t273.size : Int)).bind fun t274 => ((strings_Compare.f t272 t273).bind fun t275 => ((cmp_Or_int.f kj2 (([t274, t275] : List Int))).bind fun t279 => (some t279))))) = some r := H
    have A9 := Aside0.mk A90
    clear A90
    replace H := Option.bind_eq_some_iff.mp H
    obtain ⟨t273, A100, H⟩ := H
    replace H : ((cmp_Compare_int.f (t272.size : Int) (t273.size : Int)).bind fun t274 => ((strings_Compare.f t272 t273).bind fun t275 => ((cmp_Or_int.f kj2 (([t274, t275] : List Int))).bind fun t279 => (some t279)))) = some r := H
    have A10 := Aside0.mk A100
    clear A100
    replace H := Option.bind_eq_some_iff.mp H
    obtain ⟨t274, A110, H⟩ := H
    replace H : ((strings_Compare.f t272 t273).bind fun t275 => ((cmp_Or_int.f kj2 (([t274, t275] : List Int))).bind fun t279 => (some t279))) = some r := H
    have A11 := Aside0.mk A110
    clear A110
    replace H := Option.bind_eq_some_iff.mp H
    obtain ⟨t275, A120, H⟩ := H
    replace H : ((cmp_Or_int.f kj2 (([t274, t275] : List Int))).bind fun t279 => (some t279)) = some r := H
    have A12 := Aside0.mk A120
    clear A120
    obtain ⟨y276, hy276⟩ : ∃ y_ : List Int, y_ = (([t274, t275] : List Int)) := ⟨_, rfl⟩
    replace H : ((cmp_Or_int.f kj2 y276).bind fun t279 => (some t279)) = some r := by first | (rw [hy276]; with_reducible exact H) | (have H2_ := (Option.bind_some _ _).symm.trans H; rw [hy276]; with_reducible exact H2_) | (have H2_ := (Option.bind_some _ _).symm.trans H; with_reducible exact H2_) | with_reducible exact H | (rw [hy276]; exact H) | exact H
    have Ny276 := Aside0.mk hy276
    clear hy276
    replace H := Option.bind_eq_some_iff.mp H
    obtain ⟨t279, A130, H⟩ := H
    replace H : (some t279) = some r := H
    have A13 := Aside0.mk A130
    clear A130
    obtain rfl := Option.some.inj H
    have tk19 : True := trivial; have tk20 : True := trivial; have tk21 : True := trivial; have tk22 : True := trivial; have tk23 : True := trivial; have tk24 : True := trivial
    go_wp2_with (first | (have ztk19 := tk19; clear tk19 ztk19; (with_reducible refine gate_callee (f := 66) rfl ?_); refine goesL_ (some 19) rfl rfl Tryd.func66 (by kernel_rfl) rfl #[.string a0, .string (⟨#[48]⟩ : ByteArray)] rfl qng0_ ?_; (with_reducible refine (strings_TrimLeft.calls kj2 a0 (⟨#[48]⟩ : ByteArray) t272 _ A9.out).mono ?_); rintro e w14 ⟨rfl, hb⟩; refine ⟨_, rfl, ?_⟩; have n0_ := Aside0.mk (below_step qng1_ hb); clear HB; have HB := n0_; clear n0_; (try clear hb); (try clear hb2); (try clear hk); (try clear hi)) | (have ztk20 := tk20; clear tk20 ztk20; (with_reducible refine gate_callee (f := 66) rfl ?_); refine goesL_ (some 21) rfl rfl Tryd.func66 (by kernel_rfl) rfl #[.string a1, .string (⟨#[48]⟩ : ByteArray)] rfl qng0_ ?_; (with_reducible refine (strings_TrimLeft.calls kj2 a1 (⟨#[48]⟩ : ByteArray) t273 _ A10.out).mono ?_); rintro e w15 ⟨rfl, hb⟩; refine ⟨_, rfl, ?_⟩; have n0_ := Aside0.mk (below_step qng1_ hb); clear HB; have HB := n0_; clear n0_; (try clear hb); (try clear hb2); (try clear hk); (try clear hi)) | (have ztk21 := tk21; clear tk21 ztk21; (with_reducible refine gate_callee (f := 51) rfl ?_); refine goesL_ (some 26) rfl rfl Tryd.func51 (by kernel_rfl) rfl #[.int .i64 (t272.size : Int), .int .i64 (t273.size : Int)] rfl qng0_ ?_; (with_reducible refine (cmp_Compare_int.calls (t272.size : Int) (t273.size : Int) t274 _ A11.out).mono ?_); rintro e w' ⟨rfl, ⟨nd, rfl⟩⟩; refine ⟨_, rfl, ?_⟩) | (have ztk22 := tk22; clear tk22 ztk22; (with_reducible refine gate_callee (f := 55) rfl ?_); refine goesL_ (some 29) rfl rfl Tryd.func55 (by kernel_rfl) rfl #[.string t272, .string t273] rfl qng0_ ?_; (with_reducible refine (strings_Compare.calls t272 t273 t275 _ A12.out).mono ?_); rintro e w' ⟨rfl, ⟨nd, rfl⟩⟩; refine ⟨_, rfl, ?_⟩) | (have ztk23 := tk23; clear tk23 ztk23; (with_reducible refine gate_dst (N := 30) rfl ?_); refine Kd.R_lit (Kd.int .i64) _ 3 ?hg (N := 30) ?hd (xs := ([t274, t275] : List Int)) (inner := [.int .i64 t274, .int .i64 t275]) (ok := fun _ => True) (okp := fun _ => True) ?hr ?hp (fun _ hk => hk) trivial (Below.refl _ _) (Nat.le_refl _) (by simp) ?_; (case hd => rfl); (case hg => rfl); (case hr => first | (go_simp; done) | (go_simp; rfl)); (case hp => exact (Reps.one (show Kd.M (Kd.int .i64) _ _ _ t274 [.int .i64 t274] from rfl) (Reps.one (show Kd.M (Kd.int .i64) _ _ _ t275 [.int .i64 t275] from rfl) (Reps.none _ _)))); intro v277 w16 ho17 hb hg_ hnew_; clear hg_ hnew_; (first | rw [← Ny276.out] at ho17 | (simp only [Int.reduceToNat] at ho17; rw [← Ny276.out] at ho17)); have n0_ := Aside0.mk (Kd.R_lower ho17 (below_size qng1_)); have n1_ := Aside0.mk (below_step qng1_ hb); clear HB; have HO278 := n0_; have HB := n1_; clear n0_ n1_; clear hb ho17; obtain ⟨Ao18, co18, eo18⟩ := Kd.R_slice HO278.out; subst eo18) | (have ztk24 := tk24; clear tk24 ztk24; (with_reducible refine gate_callee (f := 72) rfl ?_); refine goesL_ (some 31) rfl rfl Tryd.func72 (by kernel_rfl) rfl #[.slice Ao18 y276.length co18] rfl qng0_ ?_; (with_reducible refine (cmp_Or_int.calls kj2 _ _ y276 t279 _ ?side1 ?side2 A13.out).mono ?_); (case side1 => repeat (first | exact (Kd.R_reads' HO278.out).2.2 | (with_reducible refine Kd.C_alloc ?_ _) | (with_reducible refine Kd.C_drewN ?_ _) | (with_reducible refine Kd.C_drew ?_))); (case side2 => exact (Kd.R_reads' HO278.out).2.1); rintro e w' ⟨rfl, ⟨nd, rfl⟩⟩; refine ⟨_, rfl, ?_⟩))
    go_ret
    exact ⟨qng6_, qng1_⟩


/-! ### numeral_versions: function 52 -/
mutual
def numeral_versions.l0 : Nat → ByteArray → ByteArray → Option (Int)
 | 0, _, _ => none
 | k + 1, x0, x1 => if x0.toList = ([] : List UInt8) then (numeral_versions.j1 k x0 x1 (!x1.toList.isEmpty)) else (numeral_versions.j1 k x0 x1 true)
def numeral_versions.j1 : Nat → ByteArray → ByteArray → Bool → Option (Int)
 | 0, _, _, _ => none
 | k + 1, x0, x1, x17 => if x17 = true then ((numeral_pair.f k x0).bind fun bt280 => ((numeral_pair.f k x1).bind fun bt283 => ((numeral_words.f k bt280.1 bt283.1).bind fun t286 => ((numeral_runs.f k bt280.2.1 bt283.2.1).bind fun t287 => ((cmp_Or_int.f k (([t286, t287] : List Int))).bind fun t291 => (if t291 = 0 then (numeral_versions.l0 k bt280.2.2 bt283.2.2) else (some t291))))))) else (some 0)
end
def numeral_versions.f (k : Nat) (a0 : ByteArray) (a1 : ByteArray) : Option (Int) := numeral_versions.l0 k a0 a1
set_option maxHeartbeats 8000000 in
set_option maxRecDepth 100000 in
theorem numeral_versions.calls (k : Nat) (a0 : ByteArray) (a1 : ByteArray) (r : Int) (w : World) (hGL : GOK w) (h : numeral_versions.f k a0 a1 = some r) :
  Calls Tryd.prog 52 #[.string a0, .string a1] w fun e w' => e = .returned (.int .i64 r) ∧ Below w.heap.size w w' := by
 have HGL := Aside0.mk hGL
 clear hGL
 have HB := Aside0.mk (Below.refl w.heap.size w)
 have H : (numeral_versions.l0 k a0 a1) = some r := h
 clear h
 have H' := Aside0.mk H
 clear H
 go_enter Tryd.func52, Tryd.ntmps52
 go_wp2
 go_loopg [0, 1] k (fun kq v0 v1 w' => ∃ (x0_1 : ByteArray) (x1_1 : ByteArray), v0 = .string x0_1 ∧ v1 = .string x1_1 ∧ Aside0 (numeral_versions.l0 kq x0_1 x1_1 = some r) ∧ Aside0 (kq ≤ k) ∧ Aside0 (Below w.heap.size w w'))
 case atStart => exact ⟨(a0), (a1), qng2_, qng2_, H', ⟨Nat.le_refl _⟩, ⟨qng1_⟩⟩
 case round =>
  clear H'
  (try clear p2)
  obtain ⟨x0_1, x1_1, rfl, rfl, HA, HK1, HB⟩ := hrel
  cases gk with
  | zero => exact absurd HA.out (by simp [numeral_versions.l0])
  | succ k1 =>
   have H := HA.out
   clear HA
   simp only [numeral_versions.l0] at H
   have HC3 := Aside0.mk H
   clear H
   go_upto_region 1 with (fail)
   go_cut [17] (fun v17 wc => ∃ (kq : Nat) (x17_2 : Bool), v17 = .bool x17_2 ∧ Aside0 (numeral_versions.j1 kq x0_1 x1_1 x17_2 = some r) ∧ Aside0 (kq ≤ k1) ∧ Aside0 (Below w.heap.size w wc))
   case first =>
    have H := HC3.out
    clear HC3
    by_cases c4 : x0_1.toList = ([] : List UInt8)
    ·
     rw [if_pos c4] at H
     have c4b0 : (x0_1.toList == ([] : List UInt8)) = true := beq_iff_eq.mpr c4
     have c4b1 : (x0_1.toList != ([] : List UInt8)) = false := bne_eq_false_iff_eq.mpr c4
     clear c4
     (first | rw [c4b0] | (simp only [i64_w, i32_w]; rw [c4b0]) | skip)
     have H' := Aside0.mk H
     clear H
     go_wp2
     go_meet
     case rel => exact ⟨_, ((!x1_1.toList.isEmpty)), qng2_, H', ⟨by have := HK1.out; first | omega | exact Nat.le_refl _⟩, ⟨qng1_⟩⟩
    ·
     rw [if_neg c4] at H
     have c4b0 : (x0_1.toList == ([] : List UInt8)) = false := beq_eq_false_iff_ne.mpr c4
     have c4b1 : (x0_1.toList != ([] : List UInt8)) = true := bne_iff_ne.mpr c4
     (first | rw [c4b0] | (simp only [i64_w, i32_w]; rw [c4b0]) | skip)
     have H' := Aside0.mk H
     clear H
     go_wp2
     go_meet
     case rel => exact ⟨_, (true), qng2_, H', ⟨by have := HK1.out; first | omega | exact Nat.le_refl _⟩, ⟨qng1_⟩⟩
   case rest =>
    clear HC3
    (try clear p2); (try clear c4); (try clear c4b0); (try clear c4b1); (try clear p2)
    obtain ⟨kq, x17_2, rfl, HA, HJ2, HB⟩ := hcut
    cases kq with
    | zero => exact absurd HA.out (by simp [numeral_versions.j1])
    | succ kj2 =>
     have H := HA.out
     clear HA
     simp only [numeral_versions.j1] at H
     by_cases c5 : x17_2 = true
     ·
      subst c5
      have H1 : ((numeral_pair.f kj2 x0_1).bind fun bt280 => ((numeral_pair.f kj2 x1_1).bind fun bt283 => ((numeral_words.f kj2 bt280.1 bt283.1).bind fun t286 => ((numeral_runs.f kj2 bt280.2.1 bt283.2.1).bind fun t287 => ((cmp_Or_int.f kj2 (([t286, t287] : List Int))).bind fun t291 => (if t291 = 0 then (numeral_versions.l0 kj2 bt280.2.2 bt283.2.2) else (some t291))))))) = some r := by rw [if_pos rfl] at H; exact H
      clear H
      have H := H1
      clear H1
      replace H := Option.bind_eq_some_iff.mp H
      obtain ⟨⟨t280, t281, t282⟩, A60, H⟩ := H
      replace H : ((numeral_pair.f kj2 x1_1).bind fun bt283 => ((numeral_words.f kj2 t280 bt283.1).bind fun t286 => ((numeral_runs.f kj2 t281 bt283.2.1).bind fun t287 => ((cmp_Or_int.f kj2 (([t286, t287] : List Int))).bind fun t291 => (if t291 = 0 then (numeral_versions.l0 kj2 t282 bt283.2.2) else (some t291)))))) = some r := H
      have A6 := Aside0.mk A60
      clear A60
      replace H := Option.bind_eq_some_iff.mp H
      obtain ⟨⟨t283, t284, t285⟩, A70, H⟩ := H
      replace H : ((numeral_words.f kj2 t280 t283).bind fun t286 => ((numeral_runs.f kj2 t281 t284).bind fun t287 => ((cmp_Or_int.f kj2 (([t286, t287] : List Int))).bind fun t291 => (if t291 = 0 then (numeral_versions.l0 kj2 t282 t285) else (some t291))))) = some r := H
      have A7 := Aside0.mk A70
      clear A70
      replace H := Option.bind_eq_some_iff.mp H
      obtain ⟨t286, A80, H⟩ := H
      replace H : ((numeral_runs.f kj2 t281 t284).bind fun t287 => ((cmp_Or_int.f kj2 (([t286, t287] : List Int))).bind fun t291 => (if t291 = 0 then (numeral_versions.l0 kj2 t282 t285) else (some t291)))) = some r := H
      have A8 := Aside0.mk A80
      clear A80
      replace H := Option.bind_eq_some_iff.mp H
      obtain ⟨t287, A90, H⟩ := H
      replace H : ((cmp_Or_int.f kj2 (([t286, t287] : List Int))).bind fun t291 => (if t291 = 0 then (numeral_versions.l0 kj2 t282 t285) else (some t291))) = some r := H
      have A9 := Aside0.mk A90
      clear A90
      obtain ⟨y288, hy288⟩ : ∃ y_ : List Int, y_ = (([t286, t287] : List Int)) := ⟨_, rfl⟩
      replace H : ((cmp_Or_int.f kj2 y288).bind fun t291 => (if t291 = 0 then (numeral_versions.l0 kj2 t282 t285) else (some t291))) = some r := by first | (rw [hy288]; with_reducible exact H) | (have H2_ := (Option.bind_some _ _).symm.trans H; rw [hy288]; with_reducible exact H2_) | (have H2_ := (Option.bind_some _ _).symm.trans H; with_reducible exact H2_) | with_reducible exact H | (rw [hy288]; exact H) | exact H
      have Ny288 := Aside0.mk hy288
      clear hy288
      replace H := Option.bind_eq_some_iff.mp H
      obtain ⟨t291, A100, H⟩ := H
      replace H : (if t291 = 0 then (numeral_versions.l0 kj2 t282 t285) else (some t291)) = some r := H
      have A10 := Aside0.mk A100
      clear A100
      by_cases c11 : t291 = 0
      ·
       rw [if_pos c11] at H
       have c11b0 : (t291 == 0) = true := beq_iff_eq.mpr c11
       have c11b1 : (t291 != 0) = false := bne_eq_false_iff_eq.mpr c11
       clear c11
       have H' := Aside0.mk H
       clear H
       have tk17 : True := trivial; have tk18 : True := trivial; have tk19 : True := trivial; have tk20 : True := trivial; have tk21 : True := trivial; have tk22 : True := trivial
       go_wp2_with (first | (have ztk17 := tk17; clear tk17 ztk17; (with_reducible refine gate_callee (f := 74) rfl ?_); refine goesL_ (some 20) rfl rfl Tryd.func74 (by kernel_rfl) rfl #[.string x0_1] rfl qng0_ ?_; (with_reducible refine (numeral_pair.calls kj2 x0_1 t280 t281 t282 _ A6.out).mono ?_); rintro e w' ⟨rfl, ⟨nd, rfl⟩⟩; refine ⟨_, rfl, ?_⟩) | (have ztk18 := tk18; clear tk18 ztk18; (with_reducible refine gate_callee (f := 74) rfl ?_); refine goesL_ (some 26) rfl rfl Tryd.func74 (by kernel_rfl) rfl #[.string x1_1] rfl qng0_ ?_; (with_reducible refine (numeral_pair.calls kj2 x1_1 t283 t284 t285 _ A7.out).mono ?_); rintro e w' ⟨rfl, ⟨nd, rfl⟩⟩; refine ⟨_, rfl, ?_⟩) | (have ztk19 := tk19; clear tk19 ztk19; (with_reducible refine gate_callee (f := 75) rfl ?_); refine goesL_ (some 32) rfl rfl Tryd.func75 (by kernel_rfl) rfl #[.string t280, .string t283] rfl qng0_ ?_; (with_reducible refine (numeral_words.calls kj2 t280 t283 t286 _ ?side1 A8.out).mono ?_); (case side1 => exact GOK.below HGL.out qng1_); rintro e w12 ⟨rfl, hb⟩; refine ⟨_, rfl, ?_⟩; have n0_ := Aside0.mk (below_step qng1_ hb); clear HB; have HB := n0_; clear n0_; (try clear hb); (try clear hb2); (try clear hk); (try clear hi)) | (have ztk20 := tk20; clear tk20 ztk20; (with_reducible refine gate_callee (f := 76) rfl ?_); refine goesL_ (some 35) rfl rfl Tryd.func76 (by kernel_rfl) rfl #[.string t281, .string t284] rfl qng0_ ?_; (with_reducible refine (numeral_runs.calls kj2 t281 t284 t287 _ A9.out).mono ?_); rintro e w13 ⟨rfl, hb⟩; refine ⟨_, rfl, ?_⟩; have n0_ := Aside0.mk (below_step qng1_ hb); clear HB; have HB := n0_; clear n0_; (try clear hb); (try clear hb2); (try clear hk); (try clear hi)) | (have ztk21 := tk21; clear tk21 ztk21; (with_reducible refine gate_dst (N := 36) rfl ?_); refine Kd.R_lit (Kd.int .i64) _ 3 ?hg (N := 36) ?hd (xs := ([t286, t287] : List Int)) (inner := [.int .i64 t286, .int .i64 t287]) (ok := fun _ => True) (okp := fun _ => True) ?hr ?hp (fun _ hk => hk) trivial (Below.refl _ _) (Nat.le_refl _) (by simp) ?_; (case hd => rfl); (case hg => rfl); (case hr => first | (go_simp; done) | (go_simp; rfl)); (case hp => exact (Reps.one (show Kd.M (Kd.int .i64) _ _ _ t286 [.int .i64 t286] from rfl) (Reps.one (show Kd.M (Kd.int .i64) _ _ _ t287 [.int .i64 t287] from rfl) (Reps.none _ _)))); intro v289 w14 ho15 hb hg_ hnew_; clear hg_ hnew_; (first | rw [← Ny288.out] at ho15 | (simp only [Int.reduceToNat] at ho15; rw [← Ny288.out] at ho15)); have n0_ := Aside0.mk (Kd.R_lower ho15 (below_size qng1_)); have n1_ := Aside0.mk (below_step qng1_ hb); clear HB; have HO290 := n0_; have HB := n1_; clear n0_ n1_; clear hb ho15; obtain ⟨Ao16, co16, eo16⟩ := Kd.R_slice HO290.out; subst eo16) | (have ztk22 := tk22; clear tk22 ztk22; (with_reducible refine gate_callee (f := 72) rfl ?_); refine goesL_ (some 37) rfl rfl Tryd.func72 (by kernel_rfl) rfl #[.slice Ao16 y288.length co16] rfl qng0_ ?_; (with_reducible refine (cmp_Or_int.calls kj2 _ _ y288 t291 _ ?side1 ?side2 A10.out).mono ?_); (case side1 => repeat (first | exact (Kd.R_reads' HO290.out).2.2 | (with_reducible refine Kd.C_alloc ?_ _) | (with_reducible refine Kd.C_drewN ?_ _) | (with_reducible refine Kd.C_drew ?_))); (case side2 => exact (Kd.R_reads' HO290.out).2.1); rintro e w' ⟨rfl, ⟨nd, rfl⟩⟩; refine ⟨_, rfl, ?_⟩))
       go_roundg kj2
       case measure => have := HK1.out; have := HJ2.out; omega
       case rel => exact ⟨(t282), (t285), qng2_, qng2_, H', ⟨by have := HK1.out; have := HJ2.out; omega⟩, ⟨qng1_⟩⟩
      ·
       rw [if_neg c11] at H
       have c11b0 : (t291 == 0) = false := beq_eq_false_iff_ne.mpr c11
       have c11b1 : (t291 != 0) = true := bne_iff_ne.mpr c11
       obtain rfl := Option.some.inj H
       have tk28 : True := trivial; have tk29 : True := trivial; have tk30 : True := trivial; have tk31 : True := trivial; have tk32 : True := trivial; have tk33 : True := trivial
       go_wp2_with (first | (have ztk28 := tk28; clear tk28 ztk28; (with_reducible refine gate_callee (f := 74) rfl ?_); refine goesL_ (some 20) rfl rfl Tryd.func74 (by kernel_rfl) rfl #[.string x0_1] rfl qng0_ ?_; (with_reducible refine (numeral_pair.calls kj2 x0_1 t280 t281 t282 _ A6.out).mono ?_); rintro e w' ⟨rfl, ⟨nd, rfl⟩⟩; refine ⟨_, rfl, ?_⟩) | (have ztk29 := tk29; clear tk29 ztk29; (with_reducible refine gate_callee (f := 74) rfl ?_); refine goesL_ (some 26) rfl rfl Tryd.func74 (by kernel_rfl) rfl #[.string x1_1] rfl qng0_ ?_; (with_reducible refine (numeral_pair.calls kj2 x1_1 t283 t284 t285 _ A7.out).mono ?_); rintro e w' ⟨rfl, ⟨nd, rfl⟩⟩; refine ⟨_, rfl, ?_⟩) | (have ztk30 := tk30; clear tk30 ztk30; (with_reducible refine gate_callee (f := 75) rfl ?_); refine goesL_ (some 32) rfl rfl Tryd.func75 (by kernel_rfl) rfl #[.string t280, .string t283] rfl qng0_ ?_; (with_reducible refine (numeral_words.calls kj2 t280 t283 t286 _ ?side1 A8.out).mono ?_); (case side1 => exact GOK.below HGL.out qng1_); rintro e w23 ⟨rfl, hb⟩; refine ⟨_, rfl, ?_⟩; have n0_ := Aside0.mk (below_step qng1_ hb); clear HB; have HB := n0_; clear n0_; (try clear hb); (try clear hb2); (try clear hk); (try clear hi)) | (have ztk31 := tk31; clear tk31 ztk31; (with_reducible refine gate_callee (f := 76) rfl ?_); refine goesL_ (some 35) rfl rfl Tryd.func76 (by kernel_rfl) rfl #[.string t281, .string t284] rfl qng0_ ?_; (with_reducible refine (numeral_runs.calls kj2 t281 t284 t287 _ A9.out).mono ?_); rintro e w24 ⟨rfl, hb⟩; refine ⟨_, rfl, ?_⟩; have n0_ := Aside0.mk (below_step qng1_ hb); clear HB; have HB := n0_; clear n0_; (try clear hb); (try clear hb2); (try clear hk); (try clear hi)) | (have ztk32 := tk32; clear tk32 ztk32; (with_reducible refine gate_dst (N := 36) rfl ?_); refine Kd.R_lit (Kd.int .i64) _ 3 ?hg (N := 36) ?hd (xs := ([t286, t287] : List Int)) (inner := [.int .i64 t286, .int .i64 t287]) (ok := fun _ => True) (okp := fun _ => True) ?hr ?hp (fun _ hk => hk) trivial (Below.refl _ _) (Nat.le_refl _) (by simp) ?_; (case hd => rfl); (case hg => rfl); (case hr => first | (go_simp; done) | (go_simp; rfl)); (case hp => exact (Reps.one (show Kd.M (Kd.int .i64) _ _ _ t286 [.int .i64 t286] from rfl) (Reps.one (show Kd.M (Kd.int .i64) _ _ _ t287 [.int .i64 t287] from rfl) (Reps.none _ _)))); intro v289 w25 ho26 hb hg_ hnew_; clear hg_ hnew_; (first | rw [← Ny288.out] at ho26 | (simp only [Int.reduceToNat] at ho26; rw [← Ny288.out] at ho26)); have n0_ := Aside0.mk (Kd.R_lower ho26 (below_size qng1_)); have n1_ := Aside0.mk (below_step qng1_ hb); clear HB; have HO290 := n0_; have HB := n1_; clear n0_ n1_; clear hb ho26; obtain ⟨Ao27, co27, eo27⟩ := Kd.R_slice HO290.out; subst eo27) | (have ztk33 := tk33; clear tk33 ztk33; (with_reducible refine gate_callee (f := 72) rfl ?_); refine goesL_ (some 37) rfl rfl Tryd.func72 (by kernel_rfl) rfl #[.slice Ao27 y288.length co27] rfl qng0_ ?_; (with_reducible refine (cmp_Or_int.calls kj2 _ _ y288 t291 _ ?side1 ?side2 A10.out).mono ?_); (case side1 => repeat (first | exact (Kd.R_reads' HO290.out).2.2 | (with_reducible refine Kd.C_alloc ?_ _) | (with_reducible refine Kd.C_drewN ?_ _) | (with_reducible refine Kd.C_drew ?_))); (case side2 => exact (Kd.R_reads' HO290.out).2.1); rintro e w' ⟨rfl, ⟨nd, rfl⟩⟩; refine ⟨_, rfl, ?_⟩))
       go_ret
       exact ⟨qng6_, qng1_⟩
     ·
      replace c5 := Bool.eq_false_iff.mpr c5
      subst c5
      have H1 : (some 0) = some r := by rw [if_neg (show ¬ (false = true) by decide)] at H; exact H
      clear H
      have H := H1
      clear H1
      obtain rfl := Option.some.inj H
      go_wp2
      go_ret
      exact ⟨qng6_, qng1_⟩


/-! ### api_Class_77: function 77 -/
def api_Class_77.f (a0 : Int) : Option (Bool) := some (a0 != a0)
set_option maxHeartbeats 8000000 in
set_option maxRecDepth 100000 in
theorem api_Class_77.calls (a0 : Int) (r : Bool) (w : World) (h : api_Class_77.f a0 = some r) :
  Calls Tryd.prog 77 #[.int .u8 a0] w fun e w' => e = .returned (.bool r) ∧ Drawn0 w w' := by
 have H : (some (a0 != a0)) = some r := h
 clear h
 obtain rfl := Option.some.inj H
 go_enter Tryd.func77, Tryd.ntmps77
 go_wp2
 go_ret
 exact ⟨qng2_, qng4_⟩


/-! ### api_Class_53: function 53 -/
def api_Class_53.f (a0 : Int) (a1 : Int) : Option (Int) := (api_Class_77.f a0).bind fun t292 => ((api_Class_77.f a1).bind fun t293 => (if t292 = true then (if t293 = true then (some 0) else (some (-1))) else (if t293 = true then (some 1) else (if a0 < a1 then (some (-1)) else (if a0 > a1 then (some 1) else (some 0))))))
set_option maxHeartbeats 8000000 in
set_option maxRecDepth 100000 in
theorem api_Class_53.calls (a0 : Int) (a1 : Int) (r : Int) (w : World) (h : api_Class_53.f a0 a1 = some r) :
  Calls Tryd.prog 53 #[.int .u8 a0, .int .u8 a1] w fun e w' => e = .returned (.int .i64 r) ∧ Drawn0 w w' := by
 have H : ((api_Class_77.f a0).bind fun t292 => ((api_Class_77.f a1).bind fun t293 => (if t292 = true then (if t293 = true then (some 0) else (some (-1))) else (if t293 = true then (some 1) else (if a0 < a1 then (some (-1)) else (if a0 > a1 then (some 1) else (some 0))))))) = some r := h
 clear h
 replace H := Option.bind_eq_some_iff.mp H
 obtain ⟨t292, A30, H⟩ := H
 replace H : ((api_Class_77.f a1).bind fun t293 => (if t292 = true then (if t293 = true then (some 0) else (some (-1))) else (if t293 = true then (some 1) else (if a0 < a1 then (some (-1)) else (if a0 > a1 then (some 1) else (some 0)))))) = some r := H
 have A3 := Aside0.mk A30
 clear A30
 replace H := Option.bind_eq_some_iff.mp H
 obtain ⟨t293, A40, H⟩ := H
 replace H : (if t292 = true then (if t293 = true then (some 0) else (some (-1))) else (if t293 = true then (some 1) else (if a0 < a1 then (some (-1)) else (if a0 > a1 then (some 1) else (some 0))))) = some r := H
 have A4 := Aside0.mk A40
 clear A40
 by_cases c5 : t292 = true
 ·
  subst c5
  have H1 : (if t293 = true then (some 0) else (some (-1))) = some r := by rw [if_pos rfl] at H; exact H
  clear H
  have H := H1
  clear H1
  by_cases c6 : t293 = true
  ·
   subst c6
   have H1 : (some 0) = some r := by rw [if_pos rfl] at H; exact H
   clear H
   have H := H1
   clear H1
   obtain rfl := Option.some.inj H
   go_enter Tryd.func53, Tryd.ntmps53
   have tk7 : True := trivial; have tk8 : True := trivial
   go_wp2_with (first | (have ztk7 := tk7; clear tk7 ztk7; (with_reducible refine gate_callee (f := 77) rfl ?_); refine goesL_ (some 8) rfl rfl Tryd.func77 (by kernel_rfl) rfl #[.int .u8 a0] rfl qng0_ ?_; (with_reducible refine (api_Class_77.calls a0 true _ A3.out).mono ?_); rintro e w' ⟨rfl, ⟨nd, rfl⟩⟩; refine ⟨_, rfl, ?_⟩) | (have ztk8 := tk8; clear tk8 ztk8; (with_reducible refine gate_callee (f := 77) rfl ?_); refine goesL_ (some 10) rfl rfl Tryd.func77 (by kernel_rfl) rfl #[.int .u8 a1] rfl qng0_ ?_; (with_reducible refine (api_Class_77.calls a1 true _ A4.out).mono ?_); rintro e w' ⟨rfl, ⟨nd, rfl⟩⟩; refine ⟨_, rfl, ?_⟩))
   go_ret
   exact ⟨qng2_, qng4_⟩
  ·
   replace c6 := Bool.eq_false_iff.mpr c6
   subst c6
   have H1 : (some (-1)) = some r := by rw [if_neg (show ¬ (false = true) by decide)] at H; exact H
   clear H
   have H := H1
   clear H1
   obtain rfl := Option.some.inj H
   go_enter Tryd.func53, Tryd.ntmps53
   have tk9 : True := trivial; have tk10 : True := trivial
   go_wp2_with (first | (have ztk9 := tk9; clear tk9 ztk9; (with_reducible refine gate_callee (f := 77) rfl ?_); refine goesL_ (some 8) rfl rfl Tryd.func77 (by kernel_rfl) rfl #[.int .u8 a0] rfl qng0_ ?_; (with_reducible refine (api_Class_77.calls a0 true _ A3.out).mono ?_); rintro e w' ⟨rfl, ⟨nd, rfl⟩⟩; refine ⟨_, rfl, ?_⟩) | (have ztk10 := tk10; clear tk10 ztk10; (with_reducible refine gate_callee (f := 77) rfl ?_); refine goesL_ (some 10) rfl rfl Tryd.func77 (by kernel_rfl) rfl #[.int .u8 a1] rfl qng0_ ?_; (with_reducible refine (api_Class_77.calls a1 false _ A4.out).mono ?_); rintro e w' ⟨rfl, ⟨nd, rfl⟩⟩; refine ⟨_, rfl, ?_⟩))
   go_ret
   exact ⟨qng2_, qng4_⟩
 ·
  replace c5 := Bool.eq_false_iff.mpr c5
  subst c5
  have H1 : (if t293 = true then (some 1) else (if a0 < a1 then (some (-1)) else (if a0 > a1 then (some 1) else (some 0)))) = some r := by rw [if_neg (show ¬ (false = true) by decide)] at H; exact H
  clear H
  have H := H1
  clear H1
  by_cases c11 : t293 = true
  ·
   subst c11
   have H1 : (some 1) = some r := by rw [if_pos rfl] at H; exact H
   clear H
   have H := H1
   clear H1
   obtain rfl := Option.some.inj H
   go_enter Tryd.func53, Tryd.ntmps53
   have tk12 : True := trivial; have tk13 : True := trivial
   go_wp2_with (first | (have ztk12 := tk12; clear tk12 ztk12; (with_reducible refine gate_callee (f := 77) rfl ?_); refine goesL_ (some 8) rfl rfl Tryd.func77 (by kernel_rfl) rfl #[.int .u8 a0] rfl qng0_ ?_; (with_reducible refine (api_Class_77.calls a0 false _ A3.out).mono ?_); rintro e w' ⟨rfl, ⟨nd, rfl⟩⟩; refine ⟨_, rfl, ?_⟩) | (have ztk13 := tk13; clear tk13 ztk13; (with_reducible refine gate_callee (f := 77) rfl ?_); refine goesL_ (some 10) rfl rfl Tryd.func77 (by kernel_rfl) rfl #[.int .u8 a1] rfl qng0_ ?_; (with_reducible refine (api_Class_77.calls a1 true _ A4.out).mono ?_); rintro e w' ⟨rfl, ⟨nd, rfl⟩⟩; refine ⟨_, rfl, ?_⟩))
   go_ret
   exact ⟨qng2_, qng4_⟩
  ·
   replace c11 := Bool.eq_false_iff.mpr c11
   subst c11
   have H1 : (if a0 < a1 then (some (-1)) else (if a0 > a1 then (some 1) else (some 0))) = some r := by rw [if_neg (show ¬ (false = true) by decide)] at H; exact H
   clear H
   have H := H1
   clear H1
   by_cases c14 : a0 < a1
   ·
    rw [if_pos c14] at H
    have c14b0 : decide (a0 < a1) = true := decide_eq_true c14
    clear c14
    obtain rfl := Option.some.inj H
    go_enter Tryd.func53, Tryd.ntmps53
    have tk15 : True := trivial; have tk16 : True := trivial
    go_wp2_with (first | (have ztk15 := tk15; clear tk15 ztk15; (with_reducible refine gate_callee (f := 77) rfl ?_); refine goesL_ (some 8) rfl rfl Tryd.func77 (by kernel_rfl) rfl #[.int .u8 a0] rfl qng0_ ?_; (with_reducible refine (api_Class_77.calls a0 false _ A3.out).mono ?_); rintro e w' ⟨rfl, ⟨nd, rfl⟩⟩; refine ⟨_, rfl, ?_⟩) | (have ztk16 := tk16; clear tk16 ztk16; (with_reducible refine gate_callee (f := 77) rfl ?_); refine goesL_ (some 10) rfl rfl Tryd.func77 (by kernel_rfl) rfl #[.int .u8 a1] rfl qng0_ ?_; (with_reducible refine (api_Class_77.calls a1 false _ A4.out).mono ?_); rintro e w' ⟨rfl, ⟨nd, rfl⟩⟩; refine ⟨_, rfl, ?_⟩))
    go_ret
    exact ⟨qng2_, qng4_⟩
   ·
    rw [if_neg c14] at H
    have c14b0 : decide (a0 < a1) = false := decide_eq_false c14
    clear c14
    by_cases c17 : a0 > a1
    ·
     rw [if_pos c17] at H
     have c17b0 : decide (a1 < a0) = true := decide_eq_true c17
     clear c17
     obtain rfl := Option.some.inj H
     go_enter Tryd.func53, Tryd.ntmps53
     have tk18 : True := trivial; have tk19 : True := trivial
     go_wp2_with (first | (have ztk18 := tk18; clear tk18 ztk18; (with_reducible refine gate_callee (f := 77) rfl ?_); refine goesL_ (some 8) rfl rfl Tryd.func77 (by kernel_rfl) rfl #[.int .u8 a0] rfl qng0_ ?_; (with_reducible refine (api_Class_77.calls a0 false _ A3.out).mono ?_); rintro e w' ⟨rfl, ⟨nd, rfl⟩⟩; refine ⟨_, rfl, ?_⟩) | (have ztk19 := tk19; clear tk19 ztk19; (with_reducible refine gate_callee (f := 77) rfl ?_); refine goesL_ (some 10) rfl rfl Tryd.func77 (by kernel_rfl) rfl #[.int .u8 a1] rfl qng0_ ?_; (with_reducible refine (api_Class_77.calls a1 false _ A4.out).mono ?_); rintro e w' ⟨rfl, ⟨nd, rfl⟩⟩; refine ⟨_, rfl, ?_⟩))
     go_ret
     exact ⟨qng2_, qng4_⟩
    ·
     rw [if_neg c17] at H
     have c17b0 : decide (a1 < a0) = false := decide_eq_false c17
     clear c17
     obtain rfl := Option.some.inj H
     go_enter Tryd.func53, Tryd.ntmps53
     have tk20 : True := trivial; have tk21 : True := trivial
     go_wp2_with (first | (have ztk20 := tk20; clear tk20 ztk20; (with_reducible refine gate_callee (f := 77) rfl ?_); refine goesL_ (some 8) rfl rfl Tryd.func77 (by kernel_rfl) rfl #[.int .u8 a0] rfl qng0_ ?_; (with_reducible refine (api_Class_77.calls a0 false _ A3.out).mono ?_); rintro e w' ⟨rfl, ⟨nd, rfl⟩⟩; refine ⟨_, rfl, ?_⟩) | (have ztk21 := tk21; clear tk21 ztk21; (with_reducible refine gate_callee (f := 77) rfl ?_); refine goesL_ (some 10) rfl rfl Tryd.func77 (by kernel_rfl) rfl #[.int .u8 a1] rfl qng0_ ?_; (with_reducible refine (api_Class_77.calls a1 false _ A4.out).mono ?_); rintro e w' ⟨rfl, ⟨nd, rfl⟩⟩; refine ⟨_, rfl, ?_⟩))
     go_ret
     exact ⟨qng2_, qng4_⟩


/-! ### numeral_Compare: function 27 -/
def numeral_Compare.j0 : Nat → Int → ByteArray → ByteArray → Int → Bool → Option (Int)
 | 0, _, _, _, _, _ => none
 | k + 1, x0, x1, x2, x9, x10 => if x10 = true then ((numeral_human.f k x0 x1).bind fun bt294 => ((numeral_human.f k x0 x2).bind fun bt298 => ((numeral_order.f k bt294.1 bt294.2.1 bt294.2.2.1 bt294.2.2.2 bt298.1 bt298.2.1 bt298.2.2.1 bt298.2.2.2).bind fun t302 => (some t302)))) else (if x9 = 128 then ((numeral_Month.f k x1).bind fun t303 => ((numeral_Month.f k x2).bind fun t304 => ((cmp_Compare_int.f t303 t304).bind fun t305 => (some t305)))) else (if x9 = 256 then ((numeral_versions.f k x1 x2).bind fun t306 => (some t306)) else (if x9 = 32 then ((numeral_General.f k x1).bind fun bt307 => ((numeral_General.f k x2).bind fun bt312 => (if bt307.1 = bt312.1 then ((numeral_sizeOf.f bt307.2.1 bt307.2.2.1 bt307.2.2.2.1 0).bind fun bt320 => ((numeral_sizeOf.f bt312.2.1 bt312.2.2.1 bt312.2.2.2.1 0).bind fun bt324 => ((numeral_order.f k bt320.1 bt320.2.1 bt320.2.2.1 bt320.2.2.2 bt324.1 bt324.2.1 bt324.2.2.1 bt324.2.2.2).bind fun t328 => (some t328)))) else ((api_Class_53.f bt307.1 bt312.1).bind fun t319 => (some t319))))) else ((strings_Compare.f x1 x2).bind fun t329 => (some t329)))))
def numeral_Compare.f (k : Nat) (a0 : Int) (a1 : ByteArray) (a2 : ByteArray) : Option (Int) := if a0 = 16 then (numeral_Compare.j0 k a0 a1 a2 a0 (a0 == 16)) else (numeral_Compare.j0 k a0 a1 a2 a0 (a0 == 64))
def numeral_Compare.T13 : Bool × List (List Nat × List Nat) := (true, [([], []), ([0], [0]), ([], []), ([2], [2]), ([], []), ([4], [4]), ([1, 3, 5], [1, 3, 5]), ([], []), ([7], [7]), ([], []), ([9], [9]), ([], []), ([11], [11]), ([8, 10, 12, 6], [8, 10, 12]), ([6, 13, 13], [6, 13]), ([14, 14, 0, 1, 2, 3, 4, 5, 6, 7, 8, 9, 10, 11, 12, 13, 14], [14])])
def numeral_Compare.B13 : List Nat := [0, 1, 0, 4, 0, 16, 63, 0, 128, 0, 512, 0, 2048, 8191, 16383, 32767]
theorem numeral_Compare.tab13 : rtab .any (opsOf Tryd.f27 13) = numeral_Compare.T13 := by kernel_rfl
theorem numeral_Compare.bits13 : waitsOk numeral_Compare.T13.2 numeral_Compare.B13 = true := by kernel_rfl
set_option maxHeartbeats 8000000 in
set_option maxRecDepth 100000 in
theorem numeral_Compare.calls (k : Nat) (a0 : Int) (a1 : ByteArray) (a2 : ByteArray) (r : Int) (w : World) (hGL : GOK w) (h : numeral_Compare.f k a0 a1 a2 = some r) :
  Calls Tryd.prog 27 #[.int .u16 a0, .string a1, .string a2] w fun e w' => e = .returned (.int .i64 r) ∧ Below w.heap.size w w' := by
 have hu29 := Tryd.underlying29
 have HGL := Aside0.mk hGL
 clear hGL
 have HB := Aside0.mk (Below.refl w.heap.size w)
 have H : (if a0 = 16 then (numeral_Compare.j0 k a0 a1 a2 a0 (a0 == 16)) else (numeral_Compare.j0 k a0 a1 a2 a0 (a0 == 64))) = some r := h
 clear h
 have HC4 := Aside0.mk H
 clear H
 go_enter Tryd.func27, Tryd.ntmps27
 go_upto_if 10 with (fail)
 go_cut [10] (fun v10 wc => ∃ (kq : Nat) (x10_3 : Bool), v10 = .bool x10_3 ∧ Aside0 (numeral_Compare.j0 kq a0 a1 a2 a0 x10_3 = some r) ∧ Aside0 (kq ≤ k) ∧ Aside0 (Below w.heap.size w wc))
 case first =>
  have H := HC4.out
  clear HC4
  by_cases c5 : a0 = 16
  ·
   rw [if_pos c5] at H
   have c5b0 : (a0 == 16) = true := beq_iff_eq.mpr c5
   have c5b1 : (a0 != 16) = false := bne_eq_false_iff_eq.mpr c5
   clear c5
   (first | rw [c5b0] | (simp only [i64_w, i32_w]; rw [c5b0]) | skip)
   have H' := Aside0.mk H
   clear H
   go_wp2
   go_meet
   case rel => exact ⟨_, ((a0 == 16)), qng2_, H', ⟨by first | omega | exact Nat.le_refl _⟩, ⟨qng1_⟩⟩
  ·
   rw [if_neg c5] at H
   have c5b0 : (a0 == 16) = false := beq_eq_false_iff_ne.mpr c5
   have c5b1 : (a0 != 16) = true := bne_iff_ne.mpr c5
   (first | rw [c5b0] | (simp only [i64_w, i32_w]; rw [c5b0]) | skip)
   have H' := Aside0.mk H
   clear H
   go_wp2
   go_meet
   case rel => exact ⟨_, ((a0 == 64)), qng2_, H', ⟨by first | omega | exact Nat.le_refl _⟩, ⟨qng1_⟩⟩
 case rest =>
  clear HC4
  (try clear c2); (try clear p2); (try clear c5); (try clear c5b0); (try clear c5b1)
  obtain ⟨kq, x10_3, rfl, HA, HJ3, HB⟩ := hcut
  cases kq with
  | zero => exact absurd HA.out (by simp [numeral_Compare.j0])
  | succ kj3 =>
   have H := HA.out
   clear HA
   simp only [numeral_Compare.j0] at H
   by_cases c6 : x10_3 = true
   ·
    subst c6
    have H1 : ((numeral_human.f kj3 a0 a1).bind fun bt294 => ((numeral_human.f kj3 a0 a2).bind fun bt298 => ((numeral_order.f kj3 bt294.1 bt294.2.1 bt294.2.2.1 bt294.2.2.2 bt298.1 bt298.2.1 bt298.2.2.1 bt298.2.2.2).bind fun t302 => (some t302)))) = some r := by rw [if_pos rfl] at H; exact H
    clear H
    have H := H1
    clear H1
    replace H := Option.bind_eq_some_iff.mp H
    obtain ⟨⟨t294, t295, t296, t297⟩, A70, H⟩ := H
    replace H : ((numeral_human.f kj3 a0 a2).bind fun bt298 => ((numeral_order.f kj3 t294 t295 t296 t297 bt298.1 bt298.2.1 bt298.2.2.1 bt298.2.2.2).bind fun t302 => (some t302))) = some r := H
    have A7 := Aside0.mk A70
    clear A70
    replace H := Option.bind_eq_some_iff.mp H
    obtain ⟨⟨t298, t299, t300, t301⟩, A80, H⟩ := H
    replace H : ((numeral_order.f kj3 t294 t295 t296 t297 t298 t299 t300 t301).bind fun t302 => (some t302)) = some r := H
    have A8 := Aside0.mk A80
    clear A80
    replace H := Option.bind_eq_some_iff.mp H
    obtain ⟨t302, A90, H⟩ := H
    replace H : (some t302) = some r := H
    have A9 := Aside0.mk A90
    clear A90
    obtain rfl := Option.some.inj H
    have tk13 : True := trivial; have tk14 : True := trivial; have tk15 : True := trivial
    go_wp2_with (first | (have ztk13 := tk13; clear tk13 ztk13; (with_reducible refine gate_callee (f := 50) rfl ?_); refine goesL_ (some 15) rfl rfl Tryd.func50 (by kernel_rfl) rfl #[.int .u16 a0, .string a1] rfl qng0_ ?_; (with_reducible refine (numeral_human.calls kj3 a0 a1 t294 t295 t296 t297 _ A7.out).mono ?_); rintro e w10 ⟨rfl, hb⟩; refine ⟨_, rfl, ?_⟩; have n0_ := Aside0.mk (below_step qng1_ hb); clear HB; have HB := n0_; clear n0_; (try clear hb); (try clear hb2); (try clear hk); (try clear hi)) | (have ztk14 := tk14; clear tk14 ztk14; (with_reducible refine gate_callee (f := 50) rfl ?_); refine goesL_ (some 18) rfl rfl Tryd.func50 (by kernel_rfl) rfl #[.int .u16 a0, .string a2] rfl qng0_ ?_; (with_reducible refine (numeral_human.calls kj3 a0 a2 t298 t299 t300 t301 _ A8.out).mono ?_); rintro e w11 ⟨rfl, hb⟩; refine ⟨_, rfl, ?_⟩; have n0_ := Aside0.mk (below_step qng1_ hb); clear HB; have HB := n0_; clear n0_; (try clear hb); (try clear hb2); (try clear hk); (try clear hi)) | (have ztk15 := tk15; clear tk15 ztk15; (with_reducible refine gate_callee (f := 49) rfl ?_); refine goesL_ (some 19) rfl rfl Tryd.func49 (by kernel_rfl) rfl #[.agg #[.int .i64 t294, .int .i64 t295, .int .i64 t296, .string t297], .agg #[.int .i64 t298, .int .i64 t299, .int .i64 t300, .string t301]] rfl qng0_ ?_; (with_reducible refine (numeral_order.calls kj3 t294 t295 t296 t297 t298 t299 t300 t301 t302 _ A9.out).mono ?_); rintro e w12 ⟨rfl, hb⟩; refine ⟨_, rfl, ?_⟩; have n0_ := Aside0.mk (below_step qng1_ hb); clear HB; have HB := n0_; clear n0_; (try clear hb); (try clear hb2); (try clear hk); (try clear hi)))
    go_ret
    exact ⟨qng6_, qng1_⟩
   ·
    replace c6 := Bool.eq_false_iff.mpr c6
    subst c6
    have H1 : (if a0 = 128 then ((numeral_Month.f kj3 a1).bind fun t303 => ((numeral_Month.f kj3 a2).bind fun t304 => ((cmp_Compare_int.f t303 t304).bind fun t305 => (some t305)))) else (if a0 = 256 then ((numeral_versions.f kj3 a1 a2).bind fun t306 => (some t306)) else (if a0 = 32 then ((numeral_General.f kj3 a1).bind fun bt307 => ((numeral_General.f kj3 a2).bind fun bt312 => (if bt307.1 = bt312.1 then ((numeral_sizeOf.f bt307.2.1 bt307.2.2.1 bt307.2.2.2.1 0).bind fun bt320 => ((numeral_sizeOf.f bt312.2.1 bt312.2.2.1 bt312.2.2.2.1 0).bind fun bt324 => ((numeral_order.f kj3 bt320.1 bt320.2.1 bt320.2.2.1 bt320.2.2.2 bt324.1 bt324.2.1 bt324.2.2.1 bt324.2.2.2).bind fun t328 => (some t328)))) else ((api_Class_53.f bt307.1 bt312.1).bind fun t319 => (some t319))))) else ((strings_Compare.f a1 a2).bind fun t329 => (some t329))))) = some r := by rw [if_neg (show ¬ (false = true) by decide)] at H; exact H
    clear H
    have H := H1
    clear H1
    by_cases c16 : a0 = 128
    ·
     rw [if_pos c16] at H
     have c16b0 : (a0 == 128) = true := beq_iff_eq.mpr c16
     have c16b1 : (a0 != 128) = false := bne_eq_false_iff_eq.mpr c16
     clear c16
     replace H := Option.bind_eq_some_iff.mp H
     obtain ⟨t303, A170, H⟩ := H
     replace H : ((numeral_Month.f kj3 a2).bind fun t304 => ((cmp_Compare_int.f t303 t304).bind fun t305 => (some t305))) = some r := H
     have A17 := Aside0.mk A170
     clear A170
     replace H := Option.bind_eq_some_iff.mp H
     obtain ⟨t304, A180, H⟩ := H
     replace H : ((cmp_Compare_int.f t303 t304).bind fun t305 => (some t305)) = some r := H
     have A18 := Aside0.mk A180
     clear A180
     replace H := Option.bind_eq_some_iff.mp H
     obtain ⟨t305, A190, H⟩ := H
     replace H : (some t305) = some r := H
     have A19 := Aside0.mk A190
     clear A190
     obtain rfl := Option.some.inj H
     have tk20 : True := trivial; have tk21 : True := trivial; have tk22 : True := trivial
     go_wp2_with (first | (have ztk20 := tk20; clear tk20 ztk20; (with_reducible refine gate_callee (f := 23) rfl ?_); refine goesL_ (some 23) rfl rfl Tryd.func23 (by kernel_rfl) rfl #[.string a1] rfl qng0_ ?_; (with_reducible refine (numeral_Month.calls kj3 a1 t303 _ ?side1 A17.out).mono ?_); (case side1 => exact GOK.below HGL.out qng1_); rintro e w' ⟨rfl, ⟨nd, rfl⟩⟩; refine ⟨_, rfl, ?_⟩) | (have ztk21 := tk21; clear tk21 ztk21; (with_reducible refine gate_callee (f := 23) rfl ?_); refine goesL_ (some 25) rfl rfl Tryd.func23 (by kernel_rfl) rfl #[.string a2] rfl qng0_ ?_; (with_reducible refine (numeral_Month.calls kj3 a2 t304 _ ?side1 A18.out).mono ?_); (case side1 => exact GOK.below HGL.out qng1_); rintro e w' ⟨rfl, ⟨nd, rfl⟩⟩; refine ⟨_, rfl, ?_⟩) | (have ztk22 := tk22; clear tk22 ztk22; (with_reducible refine gate_callee (f := 51) rfl ?_); refine goesL_ (some 26) rfl rfl Tryd.func51 (by kernel_rfl) rfl #[.int .i64 t303, .int .i64 t304] rfl qng0_ ?_; (with_reducible refine (cmp_Compare_int.calls t303 t304 t305 _ A19.out).mono ?_); rintro e w' ⟨rfl, ⟨nd, rfl⟩⟩; refine ⟨_, rfl, ?_⟩))
     go_ret
     exact ⟨qng6_, qng1_⟩
    ·
     rw [if_neg c16] at H
     have c16b0 : (a0 == 128) = false := beq_eq_false_iff_ne.mpr c16
     have c16b1 : (a0 != 128) = true := bne_iff_ne.mpr c16
     by_cases c23 : a0 = 256
     ·
      rw [if_pos c23] at H
      have c23b0 : (a0 == 256) = true := beq_iff_eq.mpr c23
      have c23b1 : (a0 != 256) = false := bne_eq_false_iff_eq.mpr c23
      clear c23
      replace H := Option.bind_eq_some_iff.mp H
      obtain ⟨t306, A240, H⟩ := H
      replace H : (some t306) = some r := H
      have A24 := Aside0.mk A240
      clear A240
      obtain rfl := Option.some.inj H
      go_wp2_with (first | ((with_reducible refine gate_callee (f := 52) rfl ?_); refine goesL_ (some 31) rfl rfl Tryd.func52 (by kernel_rfl) rfl #[.string a1, .string a2] rfl qng0_ ?_; (with_reducible refine (numeral_versions.calls kj3 a1 a2 t306 _ ?side1 A24.out).mono ?_); (case side1 => exact GOK.below HGL.out qng1_); rintro e w25 ⟨rfl, hb⟩; refine ⟨_, rfl, ?_⟩; have n0_ := Aside0.mk (below_step qng1_ hb); clear HB; have HB := n0_; clear n0_; (try clear hb); (try clear hb2); (try clear hk); (try clear hi)))
      go_ret
      exact ⟨qng6_, qng1_⟩
     ·
      rw [if_neg c23] at H
      have c23b0 : (a0 == 256) = false := beq_eq_false_iff_ne.mpr c23
      have c23b1 : (a0 != 256) = true := bne_iff_ne.mpr c23
      by_cases c26 : a0 = 32
      ·
       rw [if_pos c26] at H
       have c26b0 : (a0 == 32) = true := beq_iff_eq.mpr c26
       have c26b1 : (a0 != 32) = false := bne_eq_false_iff_eq.mpr c26
       clear c26
       replace H := Option.bind_eq_some_iff.mp H
       obtain ⟨⟨t307, t308, t309, t310, t311⟩, A270, H⟩ := H
       replace H : ((numeral_General.f kj3 a2).bind fun bt312 => (if t307 = bt312.1 then ((numeral_sizeOf.f t308 t309 t310 0).bind fun bt320 => ((numeral_sizeOf.f bt312.2.1 bt312.2.2.1 bt312.2.2.2.1 0).bind fun bt324 => ((numeral_order.f kj3 bt320.1 bt320.2.1 bt320.2.2.1 bt320.2.2.2 bt324.1 bt324.2.1 bt324.2.2.1 bt324.2.2.2).bind fun t328 => (some t328)))) else ((api_Class_53.f t307 bt312.1).bind fun t319 => (some t319)))) = some r := H
       have A27 := Aside0.mk A270
       clear A270
       replace H := Option.bind_eq_some_iff.mp H
       obtain ⟨⟨t312, t313, t314, t315, t316⟩, A280, H⟩ := H
       replace H : (if t307 = t312 then ((numeral_sizeOf.f t308 t309 t310 0).bind fun bt320 => ((numeral_sizeOf.f t313 t314 t315 0).bind fun bt324 => ((numeral_order.f kj3 bt320.1 bt320.2.1 bt320.2.2.1 bt320.2.2.2 bt324.1 bt324.2.1 bt324.2.2.1 bt324.2.2.2).bind fun t328 => (some t328)))) else ((api_Class_53.f t307 t312).bind fun t319 => (some t319))) = some r := H
       have A28 := Aside0.mk A280
       clear A280
       by_cases c29 : t307 = t312
       ·
        rw [if_pos c29] at H
        have c29b0 : (t307 == t312) = true := beq_iff_eq.mpr c29
        have c29b1 : (t307 != t312) = false := bne_eq_false_iff_eq.mpr c29
        clear c29
        replace H := Option.bind_eq_some_iff.mp H
        obtain ⟨⟨t320, t321, t322, t323⟩, A300, H⟩ := H
        replace H : ((numeral_sizeOf.f t313 t314 t315 0).bind fun bt324 => ((numeral_order.f kj3 t320 t321 t322 t323 bt324.1 bt324.2.1 bt324.2.2.1 bt324.2.2.2).bind fun t328 => (some t328))) = some r := H
        have A30 := Aside0.mk A300
        clear A300
        replace H := Option.bind_eq_some_iff.mp H
        obtain ⟨⟨t324, t325, t326, t327⟩, A310, H⟩ := H
        replace H : ((numeral_order.f kj3 t320 t321 t322 t323 t324 t325 t326 t327).bind fun t328 => (some t328)) = some r := H
        have A31 := Aside0.mk A310
        clear A310
        replace H := Option.bind_eq_some_iff.mp H
        obtain ⟨t328, A320, H⟩ := H
        replace H : (some t328) = some r := H
        have A32 := Aside0.mk A320
        clear A320
        obtain rfl := Option.some.inj H
        have tk45 : True := trivial; have tk46 : True := trivial; have tk47 : True := trivial; have tk48 : True := trivial
        try go_wp2_with (first | (have ztk45 := tk45; clear tk45 ztk45; (with_reducible refine gate_callee (f := 17) rfl ?_); refine goesL_ (some 35) rfl rfl Tryd.func17 (by kernel_rfl) rfl #[.string a1] rfl qng0_ ?_; (with_reducible refine (numeral_General.calls kj3 a1 t307 t308 t309 t310 t311 _ A27.out).mono ?_); rintro e w33 ⟨rfl, hb⟩; refine ⟨_, rfl, ?_⟩; have n0_ := Aside0.mk (below_step qng1_ hb); clear HB; have HB := n0_; clear n0_; (try clear hb); (try clear hb2); (try clear hk); (try clear hi)) | (have ztk46 := tk46; clear tk46 ztk46; (with_reducible refine gate_callee (f := 17) rfl ?_); refine goesL_ (some 37) rfl rfl Tryd.func17 (by kernel_rfl) rfl #[.string a2] rfl qng0_ ?_; (with_reducible refine (numeral_General.calls kj3 a2 t312 t313 t314 t315 t316 _ A28.out).mono ?_); rintro e w34 ⟨rfl, hb⟩; refine ⟨_, rfl, ?_⟩; have n0_ := Aside0.mk (below_step qng1_ hb); clear HB; have HB := n0_; clear n0_; (try clear hb); (try clear hb2); (try clear hk); (try clear hi)) | (have ztk47 := tk47; clear tk47 ztk47; (with_reducible refine gate_dst (N := 7) rfl ?_); refine box_event ?hg (N := 7) ?hd (cs := #[.int .u8 0, .bool false, .string (⟨#[]⟩ : ByteArray), .int .i64 0, .int .i64 0]) (t := 29) ?hr ?_; (case hd => rfl); (case hg => rfl); (case hr => first | (go_simp; done) | (go_simp; rfl)); intro gb317 hg w35 hbox hb; have n0_ := Aside0.mk (below_step qng1_ hb); have n1_ := Aside0.mk (hbox); have n2_ := Aside0.mk ((by rw [hg]; exact (below_size qng1_) : w.heap.size ≤ gb317)); have n3_ := Aside0.mk ((by rw [hg]; exact (below_size qng1_) : w.heap.size ≤ gb317)); clear HB; have HB := n0_; have BK317 := n1_; have GW317 := n2_; have GE317 := n3_; clear n0_ n1_ n2_ n3_; clear hb hbox hg) | (have ztk48 := tk48; clear tk48 ztk48; (with_reducible refine gate_dst (N := 8) rfl ?_); refine box_event ?hg (N := 8) ?hd (cs := #[.int .u8 0, .bool false, .string (⟨#[]⟩ : ByteArray), .int .i64 0, .int .i64 0]) (t := 29) ?hr ?_; (case hd => rfl); (case hg => rfl); (case hr => first | (go_simp; done) | (go_simp; rfl)); intro gb318 hg w36 hbox hb; have n0_ := Aside0.mk (blk_below (g := gb317) (o := .cells #[.int .u8 0, .bool false, .string (⟨#[]⟩ : ByteArray), .int .i64 0, .int .i64 0] 29 (0, 0)) qng46_ hb); have n1_ := Aside0.mk (below_step qng50_ hb); have n2_ := Aside0.mk (hbox); have n3_ := Aside0.mk ((by rw [hg]; exact (below_size qng50_) : w.heap.size ≤ gb318)); have n4_ := Aside0.mk ((by rw [hg]; exact (below_size qng50_) : w.heap.size ≤ gb318)); have n5_ := Aside0.mk ((by rw [hg]; exact Nat.ne_of_lt (blk_lt (g := gb317) (o := .cells #[.int .u8 0, .bool false, .string (⟨#[]⟩ : ByteArray), .int .i64 0, .int .i64 0] 29 (0, 0)) qng46_) : gb317 ≠ gb318)); have n6_ := Aside0.mk ((by rw [hg]; exact Nat.ne_of_gt (blk_lt (g := gb317) (o := .cells #[.int .u8 0, .bool false, .string (⟨#[]⟩ : ByteArray), .int .i64 0, .int .i64 0] 29 (0, 0)) qng46_) : gb318 ≠ gb317)); clear BK317; clear HB; have BK317 := n0_; have HB := n1_; have BK318 := n2_; have GW318 := n3_; have GE318 := n4_; have NB317_318 := n5_; have NB318_317 := n6_; clear n0_ n1_ n2_ n3_ n4_ n5_ n6_; clear hb hbox hg; have hnb37 := NB317_318.out; have hnc37 := NB318_317.out; have hcz38_0 : w36.cell? ⟨gb317, 0, none⟩ = some (.int .u8 0) := (blk_cell BK317.out 0).trans rfl; have hcz38_1 : w36.cell? ⟨gb317, 1, none⟩ = some (.bool false) := (blk_cell BK317.out 1).trans rfl; have hcz38_2 : w36.cell? ⟨gb317, 2, none⟩ = some (.string (⟨#[]⟩ : ByteArray)) := (blk_cell BK317.out 2).trans rfl; have hcz38_3 : w36.cell? ⟨gb317, 3, none⟩ = some (.int .i64 0) := (blk_cell BK317.out 3).trans rfl; have hcz38_4 : w36.cell? ⟨gb317, 4, none⟩ = some (.int .i64 0) := (blk_cell BK317.out 4).trans rfl; have hfz38_0 := blk_frozen BK317.out 0; have hfz38_1 := blk_frozen BK317.out 1; have hfz38_2 := blk_frozen BK317.out 2; have hfz38_3 := blk_frozen BK317.out 3; have hfz38_4 := blk_frozen BK317.out 4; have hcz39_0 : w36.cell? ⟨gb318, 0, none⟩ = some (.int .u8 0) := (blk_cell BK318.out 0).trans rfl; have hcz39_1 : w36.cell? ⟨gb318, 1, none⟩ = some (.bool false) := (blk_cell BK318.out 1).trans rfl; have hcz39_2 : w36.cell? ⟨gb318, 2, none⟩ = some (.string (⟨#[]⟩ : ByteArray)) := (blk_cell BK318.out 2).trans rfl; have hcz39_3 : w36.cell? ⟨gb318, 3, none⟩ = some (.int .i64 0) := (blk_cell BK318.out 3).trans rfl; have hcz39_4 : w36.cell? ⟨gb318, 4, none⟩ = some (.int .i64 0) := (blk_cell BK318.out 4).trans rfl; have hfz39_0 := blk_frozen BK318.out 0; have hfz39_1 := blk_frozen BK318.out 1; have hfz39_2 := blk_frozen BK318.out 2; have hfz39_3 := blk_frozen BK318.out 3; have hfz39_4 := blk_frozen BK318.out 4))
        have n0_ : Aside0 (((((((((((w36.setCell ⟨gb317, 0, none⟩ (.int .u8 t307)).setCell ⟨gb317, 1, none⟩ (.bool t308)).setCell ⟨gb317, 2, none⟩ (.string t309)).setCell ⟨gb317, 3, none⟩ (.int .i64 t310)).setCell ⟨gb317, 4, none⟩ (.int .i64 t311)).setCell ⟨gb318, 0, none⟩ (.int .u8 t312)).setCell ⟨gb318, 1, none⟩ (.bool t313)).setCell ⟨gb318, 2, none⟩ (.string t314)).setCell ⟨gb318, 3, none⟩ (.int .i64 t315)).setCell ⟨gb318, 4, none⟩ (.int .i64 t316)).heap[gb317]? = some (.cells #[.int .u8 t307, .bool t308, .string t309, .int .i64 t310, .int .i64 t311] 29 (0, 0))) := ⟨by (with_reducible repeat (first | refine blk_drewN ?_ _ | refine blk_drew ?_ | refine blk_alloc ?_ _)); refine blk_far ?_ NB317_318.out _; (with_reducible repeat (first | refine blk_drewN ?_ _ | refine blk_drew ?_ | refine blk_alloc ?_ _)); refine blk_far ?_ NB317_318.out _; (with_reducible repeat (first | refine blk_drewN ?_ _ | refine blk_drew ?_ | refine blk_alloc ?_ _)); refine blk_far ?_ NB317_318.out _; (with_reducible repeat (first | refine blk_drewN ?_ _ | refine blk_drew ?_ | refine blk_alloc ?_ _)); refine blk_far ?_ NB317_318.out _; (with_reducible repeat (first | refine blk_drewN ?_ _ | refine blk_drew ?_ | refine blk_alloc ?_ _)); refine blk_far ?_ NB317_318.out _; (with_reducible repeat (first | refine blk_drewN ?_ _ | refine blk_drew ?_ | refine blk_alloc ?_ _)); refine blk_put (cs := #[.int .u8 t307, .bool t308, .string t309, .int .i64 t310, .int .i64 0]) ?_ 4 _ rfl; (with_reducible repeat (first | refine blk_drewN ?_ _ | refine blk_drew ?_ | refine blk_alloc ?_ _)); refine blk_put (cs := #[.int .u8 t307, .bool t308, .string t309, .int .i64 0, .int .i64 0]) ?_ 3 _ rfl; (with_reducible repeat (first | refine blk_drewN ?_ _ | refine blk_drew ?_ | refine blk_alloc ?_ _)); refine blk_put (cs := #[.int .u8 t307, .bool t308, .string (⟨#[]⟩ : ByteArray), .int .i64 0, .int .i64 0]) ?_ 2 _ rfl; (with_reducible repeat (first | refine blk_drewN ?_ _ | refine blk_drew ?_ | refine blk_alloc ?_ _)); refine blk_put (cs := #[.int .u8 t307, .bool false, .string (⟨#[]⟩ : ByteArray), .int .i64 0, .int .i64 0]) ?_ 1 _ rfl; (with_reducible repeat (first | refine blk_drewN ?_ _ | refine blk_drew ?_ | refine blk_alloc ?_ _)); refine blk_put (cs := #[.int .u8 0, .bool false, .string (⟨#[]⟩ : ByteArray), .int .i64 0, .int .i64 0]) ?_ 0 _ rfl; (with_reducible repeat (first | refine blk_drewN ?_ _ | refine blk_drew ?_ | refine blk_alloc ?_ _)); exact BK317.out⟩
        have n1_ : Aside0 (((((((((((w36.setCell ⟨gb317, 0, none⟩ (.int .u8 t307)).setCell ⟨gb317, 1, none⟩ (.bool t308)).setCell ⟨gb317, 2, none⟩ (.string t309)).setCell ⟨gb317, 3, none⟩ (.int .i64 t310)).setCell ⟨gb317, 4, none⟩ (.int .i64 t311)).setCell ⟨gb318, 0, none⟩ (.int .u8 t312)).setCell ⟨gb318, 1, none⟩ (.bool t313)).setCell ⟨gb318, 2, none⟩ (.string t314)).setCell ⟨gb318, 3, none⟩ (.int .i64 t315)).setCell ⟨gb318, 4, none⟩ (.int .i64 t316)).heap[gb318]? = some (.cells #[.int .u8 t312, .bool t313, .string t314, .int .i64 t315, .int .i64 t316] 29 (0, 0))) := ⟨by (with_reducible repeat (first | refine blk_drewN ?_ _ | refine blk_drew ?_ | refine blk_alloc ?_ _)); refine blk_put (cs := #[.int .u8 t312, .bool t313, .string t314, .int .i64 t315, .int .i64 0]) ?_ 4 _ rfl; (with_reducible repeat (first | refine blk_drewN ?_ _ | refine blk_drew ?_ | refine blk_alloc ?_ _)); refine blk_put (cs := #[.int .u8 t312, .bool t313, .string t314, .int .i64 0, .int .i64 0]) ?_ 3 _ rfl; (with_reducible repeat (first | refine blk_drewN ?_ _ | refine blk_drew ?_ | refine blk_alloc ?_ _)); refine blk_put (cs := #[.int .u8 t312, .bool t313, .string (⟨#[]⟩ : ByteArray), .int .i64 0, .int .i64 0]) ?_ 2 _ rfl; (with_reducible repeat (first | refine blk_drewN ?_ _ | refine blk_drew ?_ | refine blk_alloc ?_ _)); refine blk_put (cs := #[.int .u8 t312, .bool false, .string (⟨#[]⟩ : ByteArray), .int .i64 0, .int .i64 0]) ?_ 1 _ rfl; (with_reducible repeat (first | refine blk_drewN ?_ _ | refine blk_drew ?_ | refine blk_alloc ?_ _)); refine blk_put (cs := #[.int .u8 0, .bool false, .string (⟨#[]⟩ : ByteArray), .int .i64 0, .int .i64 0]) ?_ 0 _ rfl; (with_reducible repeat (first | refine blk_drewN ?_ _ | refine blk_drew ?_ | refine blk_alloc ?_ _)); refine blk_far ?_ NB318_317.out _; (with_reducible repeat (first | refine blk_drewN ?_ _ | refine blk_drew ?_ | refine blk_alloc ?_ _)); refine blk_far ?_ NB318_317.out _; (with_reducible repeat (first | refine blk_drewN ?_ _ | refine blk_drew ?_ | refine blk_alloc ?_ _)); refine blk_far ?_ NB318_317.out _; (with_reducible repeat (first | refine blk_drewN ?_ _ | refine blk_drew ?_ | refine blk_alloc ?_ _)); refine blk_far ?_ NB318_317.out _; (with_reducible repeat (first | refine blk_drewN ?_ _ | refine blk_drew ?_ | refine blk_alloc ?_ _)); refine blk_far ?_ NB318_317.out _; (with_reducible repeat (first | refine blk_drewN ?_ _ | refine blk_drew ?_ | refine blk_alloc ?_ _)); exact BK318.out⟩
        have n2_ : Aside0 (Below w.heap.size w ((((((((((w36.setCell ⟨gb317, 0, none⟩ (.int .u8 t307)).setCell ⟨gb317, 1, none⟩ (.bool t308)).setCell ⟨gb317, 2, none⟩ (.string t309)).setCell ⟨gb317, 3, none⟩ (.int .i64 t310)).setCell ⟨gb317, 4, none⟩ (.int .i64 t311)).setCell ⟨gb318, 0, none⟩ (.int .u8 t312)).setCell ⟨gb318, 1, none⟩ (.bool t313)).setCell ⟨gb318, 2, none⟩ (.string t314)).setCell ⟨gb318, 3, none⟩ (.int .i64 t315)).setCell ⟨gb318, 4, none⟩ (.int .i64 t316))) := ⟨qng43_⟩
        (try clear BK317); (try clear BK318); (try clear HB)
        generalize ((((((((((w36.setCell ⟨gb317, 0, none⟩ (.int .u8 t307)).setCell ⟨gb317, 1, none⟩ (.bool t308)).setCell ⟨gb317, 2, none⟩ (.string t309)).setCell ⟨gb317, 3, none⟩ (.int .i64 t310)).setCell ⟨gb317, 4, none⟩ (.int .i64 t311)).setCell ⟨gb318, 0, none⟩ (.int .u8 t312)).setCell ⟨gb318, 1, none⟩ (.bool t313)).setCell ⟨gb318, 2, none⟩ (.string t314)).setCell ⟨gb318, 3, none⟩ (.int .i64 t315)).setCell ⟨gb318, 4, none⟩ (.int .i64 t316)) = w40 at n0_ n1_ n2_ ⊢
        have BK317 := n0_
        have BK318 := n1_
        have HB := n2_
        clear n0_ n1_ n2_
        have n0_ := Aside0.mk (blk_drew BK317.out)
        have n1_ := Aside0.mk (blk_drew BK318.out)
        have n2_ := Aside0.mk (below_drew1 HB.out)
        clear BK317
        clear BK318
        clear HB
        have BK317 := n0_
        have BK318 := n1_
        have HB := n2_
        clear n0_ n1_ n2_
        refine start_ (n := 16) (S := fun w' => w'.cell? ⟨gb317, 0, none⟩ = some (.int .u8 t307) ∧ w'.cell? ⟨gb317, 1, none⟩ = some (.bool t308) ∧ w'.cell? ⟨gb317, 2, none⟩ = some (.string t309) ∧ w'.cell? ⟨gb317, 3, none⟩ = some (.int .i64 t310) ∧ w'.cell? ⟨gb317, 4, none⟩ = some (.int .i64 t311) ∧ w'.cell? ⟨gb318, 0, none⟩ = some (.int .u8 t312) ∧ w'.cell? ⟨gb318, 1, none⟩ = some (.bool t313) ∧ w'.cell? ⟨gb318, 2, none⟩ = some (.string t314) ∧ w'.cell? ⟨gb318, 3, none⟩ = some (.int .i64 t315) ∧ w'.cell? ⟨gb318, 4, none⟩ = some (.int .i64 t316)) (ds := []) #[false, false, false, false, false, false, false, false, false, false, false, false, false, false, false, false] (by kernel_rfl) rfl rfl ⟨(blk_cell BK317.out 0).trans rfl, (blk_cell BK317.out 1).trans rfl, (blk_cell BK317.out 2).trans rfl, (blk_cell BK317.out 3).trans rfl, (blk_cell BK317.out 4).trans rfl, (blk_cell BK318.out 0).trans rfl, (blk_cell BK318.out 1).trans rfl, (blk_cell BK318.out 2).trans rfl, (blk_cell BK318.out 3).trans rfl, (blk_cell BK318.out 4).trans rfl⟩ (fun hHeld => ?_); refine with_tabW numeral_Compare.tab13 numeral_Compare.bits13 (fun HT_ HW_ => ?_)
        generalize w40.drew = w41 at BK317 BK318 HB hHeld ⊢
        refine pure_ (i := 0) (N := some 48) (v := ?_) (a' := ?_) #[true, false, false, false, false, false, false, false, false, false, false, false, false, false, false, false] rfl rfl (any_of HT_.out (by kernel_rfl)) (fun _ _ _ h => h) (Or.inl ⟨by rfl, ?_⟩) ?_ ?_
        rotate_left
        ·
         intro w'
         go_simp
         with_reducible rfl
        rotate_left
        ·
         simp only [Act.put, List.setIfInBounds_toArray, List.set_cons_zero, List.set_cons_succ, i64_w, i32_w]
         rfl
        refine pure_ (i := 2) (N := some 50) (v := ?_) (a' := ?_) #[true, false, true, false, false, false, false, false, false, false, false, false, false, false, false, false] rfl rfl (any_of HT_.out (by kernel_rfl)) (fun _ _ _ h => h) (Or.inl ⟨by rfl, ?_⟩) ?_ ?_
        rotate_left
        ·
         intro w'
         go_simp
         with_reducible rfl
        rotate_left
        ·
         simp only [Act.put, List.setIfInBounds_toArray, List.set_cons_zero, List.set_cons_succ, i64_w, i32_w]
         rfl
        refine pure_ (i := 4) (N := some 52) (v := ?_) (a' := ?_) #[true, false, true, false, true, false, false, false, false, false, false, false, false, false, false, false] rfl rfl (any_of HT_.out (by kernel_rfl)) (fun _ _ _ h => h) (Or.inl ⟨by rfl, ?_⟩) ?_ ?_
        rotate_left
        ·
         intro w'
         go_simp
         with_reducible rfl
        rotate_left
        ·
         simp only [Act.put, List.setIfInBounds_toArray, List.set_cons_zero, List.set_cons_succ, i64_w, i32_w]
         rfl
        refine pure_ (i := 7) (N := some 55) (v := ?_) (a' := ?_) #[true, false, true, false, true, false, false, true, false, false, false, false, false, false, false, false] rfl rfl (any_of HT_.out (by kernel_rfl)) (fun _ _ _ h => h) (Or.inl ⟨by rfl, ?_⟩) ?_ ?_
        rotate_left
        ·
         intro w'
         go_simp
         with_reducible rfl
        rotate_left
        ·
         simp only [Act.put, List.setIfInBounds_toArray, List.set_cons_zero, List.set_cons_succ, i64_w, i32_w]
         rfl
        refine pure_ (i := 9) (N := some 57) (v := ?_) (a' := ?_) #[true, false, true, false, true, false, false, true, false, true, false, false, false, false, false, false] rfl rfl (any_of HT_.out (by kernel_rfl)) (fun _ _ _ h => h) (Or.inl ⟨by rfl, ?_⟩) ?_ ?_
        rotate_left
        ·
         intro w'
         go_simp
         with_reducible rfl
        rotate_left
        ·
         simp only [Act.put, List.setIfInBounds_toArray, List.set_cons_zero, List.set_cons_succ, i64_w, i32_w]
         rfl
        refine pure_ (i := 11) (N := some 59) (v := ?_) (a' := ?_) #[true, false, true, false, true, false, false, true, false, true, false, true, false, false, false, false] rfl rfl (any_of HT_.out (by kernel_rfl)) (fun _ _ _ h => h) (Or.inl ⟨by rfl, ?_⟩) ?_ ?_
        rotate_left
        ·
         intro w'
         go_simp
         with_reducible rfl
        rotate_left
        ·
         simp only [Act.put, List.setIfInBounds_toArray, List.set_cons_zero, List.set_cons_succ, i64_w, i32_w]
         rfl
        refine take_ (i := 1) (N := some 49) (v := ?_) (a' := ?_) #[true, true, true, false, true, false, false, true, false, true, false, true, false, false, false, false] rfl rfl (take_ofW HT_.out HW_.out (by kernel_rfl)) (fun _ _ _ h => h) (Or.inl ⟨by rfl, ?_⟩) hHeld ?_ ?_
        rotate_left
        ·
         rintro w' ⟨s0, s1, s2, s3, s4, s5, s6, s7, s8, s9⟩
         go_simp
         with_reducible rfl
        rotate_left
        ·
         simp only [Act.put, List.setIfInBounds_toArray, List.set_cons_zero, List.set_cons_succ, i64_w, i32_w]
         rfl
        refine take_ (i := 3) (N := some 51) (v := ?_) (a' := ?_) #[true, true, true, true, true, false, false, true, false, true, false, true, false, false, false, false] rfl rfl (take_ofW HT_.out HW_.out (by kernel_rfl)) (fun _ _ _ h => h) (Or.inl ⟨by rfl, ?_⟩) hHeld ?_ ?_
        rotate_left
        ·
         rintro w' ⟨s0, s1, s2, s3, s4, s5, s6, s7, s8, s9⟩
         go_simp
         with_reducible rfl
        rotate_left
        ·
         simp only [Act.put, List.setIfInBounds_toArray, List.set_cons_zero, List.set_cons_succ, i64_w, i32_w]
         rfl
        refine take_ (i := 5) (N := some 53) (v := ?_) (a' := ?_) #[true, true, true, true, true, true, false, true, false, true, false, true, false, false, false, false] rfl rfl (take_ofW HT_.out HW_.out (by kernel_rfl)) (fun _ _ _ h => h) (Or.inl ⟨by rfl, ?_⟩) hHeld ?_ ?_
        rotate_left
        ·
         rintro w' ⟨s0, s1, s2, s3, s4, s5, s6, s7, s8, s9⟩
         go_simp
         with_reducible rfl
        rotate_left
        ·
         simp only [Act.put, List.setIfInBounds_toArray, List.set_cons_zero, List.set_cons_succ, i64_w, i32_w]
         rfl
        refine take_ (i := 8) (N := some 56) (v := ?_) (a' := ?_) #[true, true, true, true, true, true, false, true, true, true, false, true, false, false, false, false] rfl rfl (take_ofW HT_.out HW_.out (by kernel_rfl)) (fun _ _ _ h => h) (Or.inl ⟨by rfl, ?_⟩) hHeld ?_ ?_
        rotate_left
        ·
         rintro w' ⟨s0, s1, s2, s3, s4, s5, s6, s7, s8, s9⟩
         go_simp
         with_reducible rfl
        rotate_left
        ·
         simp only [Act.put, List.setIfInBounds_toArray, List.set_cons_zero, List.set_cons_succ, i64_w, i32_w]
         rfl
        refine take_ (i := 10) (N := some 58) (v := ?_) (a' := ?_) #[true, true, true, true, true, true, false, true, true, true, true, true, false, false, false, false] rfl rfl (take_ofW HT_.out HW_.out (by kernel_rfl)) (fun _ _ _ h => h) (Or.inl ⟨by rfl, ?_⟩) hHeld ?_ ?_
        rotate_left
        ·
         rintro w' ⟨s0, s1, s2, s3, s4, s5, s6, s7, s8, s9⟩
         go_simp
         with_reducible rfl
        rotate_left
        ·
         simp only [Act.put, List.setIfInBounds_toArray, List.set_cons_zero, List.set_cons_succ, i64_w, i32_w]
         rfl
        refine take_ (i := 12) (N := some 60) (v := ?_) (a' := ?_) #[true, true, true, true, true, true, false, true, true, true, true, true, true, false, false, false] rfl rfl (take_ofW HT_.out HW_.out (by kernel_rfl)) (fun _ _ _ h => h) (Or.inl ⟨by rfl, ?_⟩) hHeld ?_ ?_
        rotate_left
        ·
         rintro w' ⟨s0, s1, s2, s3, s4, s5, s6, s7, s8, s9⟩
         go_simp
         with_reducible rfl
        rotate_left
        ·
         simp only [Act.put, List.setIfInBounds_toArray, List.set_cons_zero, List.set_cons_succ, i64_w, i32_w]
         rfl
        refine one_ (i := 6) (N := some 54) #[true, true, true, true, true, true, true, true, true, true, true, true, true, false, false, false] rfl rfl (one_of HT_.out (by kernel_rfl)) (by decide) (fun K hK => ?_)
        refine goes_ Tryd.func54 (by kernel_rfl) rfl #[.bool t308, .string t309, .int .i64 t310, .int .i64 0] (by rfl) rfl rfl qng0_ ?_
        with_reducible refine (numeral_sizeOf.calls t308 t309 t310 0 t320 t321 t322 t323 _ A30.out).mono ?_
        rintro e w42 ⟨rfl, hb⟩
        refine ⟨_, rfl, ?_⟩
        have n0_ := Aside0.mk (blk_below (g := gb317) (o := .cells #[.int .u8 t307, .bool t308, .string t309, .int .i64 t310, .int .i64 t311] 29 (0, 0)) qng46_ hb)
        have n1_ := Aside0.mk (blk_below (g := gb318) (o := .cells #[.int .u8 t312, .bool t313, .string t314, .int .i64 t315, .int .i64 t316] 29 (0, 0)) qng72_ hb)
        have n2_ := Aside0.mk (below_step qng43_ hb)
        clear BK317
        clear BK318
        clear HB
        have BK317 := n0_
        have BK318 := n1_
        have HB := n2_
        clear n0_ n1_ n2_
        (try clear hb); (try clear hb2); (try clear hk); (try clear hi)
        refine hK.out _ _ ⟨(blk_cell BK317.out 0).trans rfl, (blk_cell BK317.out 1).trans rfl, (blk_cell BK317.out 2).trans rfl, (blk_cell BK317.out 3).trans rfl, (blk_cell BK317.out 4).trans rfl, (blk_cell BK318.out 0).trans rfl, (blk_cell BK318.out 1).trans rfl, (blk_cell BK318.out 2).trans rfl, (blk_cell BK318.out 3).trans rfl, (blk_cell BK318.out 4).trans rfl⟩ (fun hHeld => ?_)
        clear hK K
        refine norm_ (a' := ?_) ?_ ?_
        rotate_left
        ·
         show Act.put _ (some 54) _ = _
         simp only [Act.put, List.setIfInBounds_toArray, List.set_cons_zero, List.set_cons_succ, i64_w, i32_w]
         rfl
        refine one_ (i := 13) (N := some 61) #[true, true, true, true, true, true, true, true, true, true, true, true, true, true, false, false] rfl rfl (one_of HT_.out (by kernel_rfl)) (by decide) (fun K hK => ?_)
        refine goes_ Tryd.func54 (by kernel_rfl) rfl #[.bool t313, .string t314, .int .i64 t315, .int .i64 0] (by rfl) rfl rfl qng0_ ?_
        with_reducible refine (numeral_sizeOf.calls t313 t314 t315 0 t324 t325 t326 t327 _ A31.out).mono ?_
        rintro e w43 ⟨rfl, hb⟩
        refine ⟨_, rfl, ?_⟩
        have n0_ := Aside0.mk (blk_below (g := gb317) (o := .cells #[.int .u8 t307, .bool t308, .string t309, .int .i64 t310, .int .i64 t311] 29 (0, 0)) qng46_ hb)
        have n1_ := Aside0.mk (blk_below (g := gb318) (o := .cells #[.int .u8 t312, .bool t313, .string t314, .int .i64 t315, .int .i64 t316] 29 (0, 0)) qng72_ hb)
        have n2_ := Aside0.mk (below_step qng43_ hb)
        clear BK317
        clear BK318
        clear HB
        have BK317 := n0_
        have BK318 := n1_
        have HB := n2_
        clear n0_ n1_ n2_
        (try clear hb); (try clear hb2); (try clear hk); (try clear hi)
        refine hK.out _ _ ⟨(blk_cell BK317.out 0).trans rfl, (blk_cell BK317.out 1).trans rfl, (blk_cell BK317.out 2).trans rfl, (blk_cell BK317.out 3).trans rfl, (blk_cell BK317.out 4).trans rfl, (blk_cell BK318.out 0).trans rfl, (blk_cell BK318.out 1).trans rfl, (blk_cell BK318.out 2).trans rfl, (blk_cell BK318.out 3).trans rfl, (blk_cell BK318.out 4).trans rfl⟩ (fun hHeld => ?_)
        clear hK K
        refine norm_ (a' := ?_) ?_ ?_
        rotate_left
        ·
         show Act.put _ (some 61) _ = _
         simp only [Act.put, List.setIfInBounds_toArray, List.set_cons_zero, List.set_cons_succ, i64_w, i32_w]
         rfl
        refine one_ (i := 14) (N := some 62) #[true, true, true, true, true, true, true, true, true, true, true, true, true, true, true, false] rfl rfl (one_of HT_.out (by kernel_rfl)) (by decide) (fun K hK => ?_)
        refine goes_ Tryd.func49 (by kernel_rfl) rfl #[.agg #[.int .i64 t320, .int .i64 t321, .int .i64 t322, .string t323], .agg #[.int .i64 t324, .int .i64 t325, .int .i64 t326, .string t327]] (by rfl) rfl rfl qng0_ ?_
        with_reducible refine (numeral_order.calls kj3 t320 t321 t322 t323 t324 t325 t326 t327 t328 _ A32.out).mono ?_
        rintro e w44 ⟨rfl, hb⟩
        refine ⟨_, rfl, ?_⟩
        have n0_ := Aside0.mk (blk_below (g := gb317) (o := .cells #[.int .u8 t307, .bool t308, .string t309, .int .i64 t310, .int .i64 t311] 29 (0, 0)) qng46_ hb)
        have n1_ := Aside0.mk (blk_below (g := gb318) (o := .cells #[.int .u8 t312, .bool t313, .string t314, .int .i64 t315, .int .i64 t316] 29 (0, 0)) qng72_ hb)
        have n2_ := Aside0.mk (below_step qng43_ hb)
        clear BK317
        clear BK318
        clear HB
        have BK317 := n0_
        have BK318 := n1_
        have HB := n2_
        clear n0_ n1_ n2_
        (try clear hb); (try clear hb2); (try clear hk); (try clear hi)
        refine hK.out _ _ ⟨(blk_cell BK317.out 0).trans rfl, (blk_cell BK317.out 1).trans rfl, (blk_cell BK317.out 2).trans rfl, (blk_cell BK317.out 3).trans rfl, (blk_cell BK317.out 4).trans rfl, (blk_cell BK318.out 0).trans rfl, (blk_cell BK318.out 1).trans rfl, (blk_cell BK318.out 2).trans rfl, (blk_cell BK318.out 3).trans rfl, (blk_cell BK318.out 4).trans rfl⟩ (fun hHeld => ?_)
        clear hK K
        refine norm_ (a' := ?_) ?_ ?_
        rotate_left
        ·
         show Act.put _ (some 62) _ = _
         simp only [Act.put, List.setIfInBounds_toArray, List.set_cons_zero, List.set_cons_succ, i64_w, i32_w]
         rfl
        refine pure_ (i := 15) (N := some 6) (v := ?_) (a' := ?_) #[true, true, true, true, true, true, true, true, true, true, true, true, true, true, true, true] rfl rfl (any_of HT_.out (by kernel_rfl)) (fun _ _ _ h => h) (Or.inl ⟨by rfl, ?_⟩) ?_ ?_
        rotate_left
        ·
         intro w'
         go_simp
         with_reducible rfl
        rotate_left
        ·
         simp only [Act.put, List.setIfInBounds_toArray, List.set_cons_zero, List.set_cons_succ, i64_w, i32_w]
         rfl
        refine done_ (done_of HT_.out (by kernel_rfl)) ?_
        try go_wp2
        go_ret
        exact ⟨qng6_, qng43_⟩
       ·
        rw [if_neg c29] at H
        have c29b0 : (t307 == t312) = false := beq_eq_false_iff_ne.mpr c29
        have c29b1 : (t307 != t312) = true := bne_iff_ne.mpr c29
        replace H := Option.bind_eq_some_iff.mp H
        obtain ⟨t319, A490, H⟩ := H
        replace H : (some t319) = some r := H
        have A49 := Aside0.mk A490
        clear A490
        obtain rfl := Option.some.inj H
        have tk57 : True := trivial; have tk58 : True := trivial; have tk59 : True := trivial; have tk60 : True := trivial; have tk61 : True := trivial
        go_wp2_with (first | (have ztk57 := tk57; clear tk57 ztk57; (with_reducible refine gate_callee (f := 17) rfl ?_); refine goesL_ (some 35) rfl rfl Tryd.func17 (by kernel_rfl) rfl #[.string a1] rfl qng0_ ?_; (with_reducible refine (numeral_General.calls kj3 a1 t307 t308 t309 t310 t311 _ A27.out).mono ?_); rintro e w50 ⟨rfl, hb⟩; refine ⟨_, rfl, ?_⟩; have n0_ := Aside0.mk (below_step qng1_ hb); clear HB; have HB := n0_; clear n0_; (try clear hb); (try clear hb2); (try clear hk); (try clear hi)) | (have ztk58 := tk58; clear tk58 ztk58; (with_reducible refine gate_callee (f := 17) rfl ?_); refine goesL_ (some 37) rfl rfl Tryd.func17 (by kernel_rfl) rfl #[.string a2] rfl qng0_ ?_; (with_reducible refine (numeral_General.calls kj3 a2 t312 t313 t314 t315 t316 _ A28.out).mono ?_); rintro e w51 ⟨rfl, hb⟩; refine ⟨_, rfl, ?_⟩; have n0_ := Aside0.mk (below_step qng1_ hb); clear HB; have HB := n0_; clear n0_; (try clear hb); (try clear hb2); (try clear hk); (try clear hi)) | (have ztk59 := tk59; clear tk59 ztk59; (with_reducible refine gate_dst (N := 7) rfl ?_); refine box_event ?hg (N := 7) ?hd (cs := #[.int .u8 0, .bool false, .string (⟨#[]⟩ : ByteArray), .int .i64 0, .int .i64 0]) (t := 29) ?hr ?_; (case hd => rfl); (case hg => rfl); (case hr => first | (go_simp; done) | (go_simp; rfl)); intro gb317 hg w52 hbox hb; have n0_ := Aside0.mk (below_step qng1_ hb); have n1_ := Aside0.mk (hbox); have n2_ := Aside0.mk ((by rw [hg]; exact (below_size qng1_) : w.heap.size ≤ gb317)); have n3_ := Aside0.mk ((by rw [hg]; exact (below_size qng1_) : w.heap.size ≤ gb317)); clear HB; have HB := n0_; have BK317 := n1_; have GW317 := n2_; have GE317 := n3_; clear n0_ n1_ n2_ n3_; clear hb hbox hg) | (have ztk60 := tk60; clear tk60 ztk60; (with_reducible refine gate_dst (N := 8) rfl ?_); refine box_event ?hg (N := 8) ?hd (cs := #[.int .u8 0, .bool false, .string (⟨#[]⟩ : ByteArray), .int .i64 0, .int .i64 0]) (t := 29) ?hr ?_; (case hd => rfl); (case hg => rfl); (case hr => first | (go_simp; done) | (go_simp; rfl)); intro gb318 hg w53 hbox hb; have n0_ := Aside0.mk (blk_below (g := gb317) (o := .cells #[.int .u8 0, .bool false, .string (⟨#[]⟩ : ByteArray), .int .i64 0, .int .i64 0] 29 (0, 0)) qng46_ hb); have n1_ := Aside0.mk (below_step qng50_ hb); have n2_ := Aside0.mk (hbox); have n3_ := Aside0.mk ((by rw [hg]; exact (below_size qng50_) : w.heap.size ≤ gb318)); have n4_ := Aside0.mk ((by rw [hg]; exact (below_size qng50_) : w.heap.size ≤ gb318)); have n5_ := Aside0.mk ((by rw [hg]; exact Nat.ne_of_lt (blk_lt (g := gb317) (o := .cells #[.int .u8 0, .bool false, .string (⟨#[]⟩ : ByteArray), .int .i64 0, .int .i64 0] 29 (0, 0)) qng46_) : gb317 ≠ gb318)); have n6_ := Aside0.mk ((by rw [hg]; exact Nat.ne_of_gt (blk_lt (g := gb317) (o := .cells #[.int .u8 0, .bool false, .string (⟨#[]⟩ : ByteArray), .int .i64 0, .int .i64 0] 29 (0, 0)) qng46_) : gb318 ≠ gb317)); clear BK317; clear HB; have BK317 := n0_; have HB := n1_; have BK318 := n2_; have GW318 := n3_; have GE318 := n4_; have NB317_318 := n5_; have NB318_317 := n6_; clear n0_ n1_ n2_ n3_ n4_ n5_ n6_; clear hb hbox hg; have hnb54 := NB317_318.out; have hnc54 := NB318_317.out; have hcz55_0 : w53.cell? ⟨gb317, 0, none⟩ = some (.int .u8 0) := (blk_cell BK317.out 0).trans rfl; have hcz55_1 : w53.cell? ⟨gb317, 1, none⟩ = some (.bool false) := (blk_cell BK317.out 1).trans rfl; have hcz55_2 : w53.cell? ⟨gb317, 2, none⟩ = some (.string (⟨#[]⟩ : ByteArray)) := (blk_cell BK317.out 2).trans rfl; have hcz55_3 : w53.cell? ⟨gb317, 3, none⟩ = some (.int .i64 0) := (blk_cell BK317.out 3).trans rfl; have hcz55_4 : w53.cell? ⟨gb317, 4, none⟩ = some (.int .i64 0) := (blk_cell BK317.out 4).trans rfl; have hfz55_0 := blk_frozen BK317.out 0; have hfz55_1 := blk_frozen BK317.out 1; have hfz55_2 := blk_frozen BK317.out 2; have hfz55_3 := blk_frozen BK317.out 3; have hfz55_4 := blk_frozen BK317.out 4; have hcz56_0 : w53.cell? ⟨gb318, 0, none⟩ = some (.int .u8 0) := (blk_cell BK318.out 0).trans rfl; have hcz56_1 : w53.cell? ⟨gb318, 1, none⟩ = some (.bool false) := (blk_cell BK318.out 1).trans rfl; have hcz56_2 : w53.cell? ⟨gb318, 2, none⟩ = some (.string (⟨#[]⟩ : ByteArray)) := (blk_cell BK318.out 2).trans rfl; have hcz56_3 : w53.cell? ⟨gb318, 3, none⟩ = some (.int .i64 0) := (blk_cell BK318.out 3).trans rfl; have hcz56_4 : w53.cell? ⟨gb318, 4, none⟩ = some (.int .i64 0) := (blk_cell BK318.out 4).trans rfl; have hfz56_0 := blk_frozen BK318.out 0; have hfz56_1 := blk_frozen BK318.out 1; have hfz56_2 := blk_frozen BK318.out 2; have hfz56_3 := blk_frozen BK318.out 3; have hfz56_4 := blk_frozen BK318.out 4) | (have ztk61 := tk61; clear tk61 ztk61; (with_reducible refine gate_callee (f := 53) rfl ?_); refine goesL_ (some 47) rfl rfl Tryd.func53 (by kernel_rfl) rfl #[.int .u8 t307, .int .u8 t312] rfl qng0_ ?_; (with_reducible refine (api_Class_53.calls t307 t312 t319 _ A49.out).mono ?_); rintro e w' ⟨rfl, ⟨nd, rfl⟩⟩; refine ⟨_, rfl, ?_⟩))
        go_ret
        exact ⟨qng6_, qng43_⟩
      ·
       rw [if_neg c26] at H
       have c26b0 : (a0 == 32) = false := beq_eq_false_iff_ne.mpr c26
       have c26b1 : (a0 != 32) = true := bne_iff_ne.mpr c26
       replace H := Option.bind_eq_some_iff.mp H
       obtain ⟨t329, A620, H⟩ := H
       replace H : (some t329) = some r := H
       have A62 := Aside0.mk A620
       clear A620
       obtain rfl := Option.some.inj H
       go_wp2_with (first | ((with_reducible refine gate_callee (f := 55) rfl ?_); refine goesL_ (some 65) rfl rfl Tryd.func55 (by kernel_rfl) rfl #[.string a1, .string a2] rfl qng0_ ?_; (with_reducible refine (strings_Compare.calls a1 a2 t329 _ A62.out).mono ?_); rintro e w' ⟨rfl, ⟨nd, rfl⟩⟩; refine ⟨_, rfl, ?_⟩))
       go_ret
       exact ⟨qng6_, qng1_⟩

end Go.Proofs.YtcdajedmlfhmeaaDoor.XN
