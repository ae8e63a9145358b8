/- The card of NumeralMonths: the law answers true at every input. Conditions: none beyond the row's own. -/
import Derived.Test.YtcdajedmlfhmeaaDoorZNMO0
import Derived.Test.YtcdajedmlfhmeaaDoorZNMO1
import Derived.Test.YtcdajedmlfhmeaaDoorZNMO6
import Derived.Test.YtcdajedmlfhmeaaDoorZNMO3
import Derived.Test.YtcdajedmlfhmeaaDoorZNMO4
import Derived.Test.YtcdajedmlfhmeaaDoorZNMO5
import Derived.Outline
import Derived.Lib.ConvBytes
import Derived.Lib.AtoiErrMem
import Derived.Test.YtcdajedmlfhmeaaDoorCards
import Derived.Test.YtcdajedmlfhmeaaDoorTie
import Derived.WalkKit
import Derived.ProofKit
import Derived.OpenShut
import Derived.ShutString
import Derived.ChangeOld
import Derived.Below
import Derived.SizedLaws
import Derived.Deep.DeepHandedRow
import Derived.Lib.LaidTab
import Derived.Lay
import Derived.MakeChecks
import Derived.LaidSub
namespace Go.Proofs.YtcdajedmlfhmeaaDoor.XN
open Go.RowKit Go.Proofs.YtcdajedmlfhmeaaDoorW.PrintWords Go.Proofs.YtcdajedmlfhmeaaDoorW.PrintLast Go.Proofs.YtcdajedmlfhmeaaDoorW.PrintMore
attribute [local go_sem] max2_int min2_int max_two min_two max_three min_three max_four min_four
set_option linter.unusedVariables false
set_option linter.unusedSimpArgs false

/-! ### api_Class_77: function 77 -/
def api_Class_77.f (a0 : Int) : Option (Bool) := some (a0 != a0)
set_option maxHeartbeats 8000000 in
set_option maxRecDepth 100000 in
theorem api_Class_77.calls (a0 : Int) (r : Bool) (w : World) (h : api_Class_77.f a0 = some r) :
  Calls Tryd.prog 77 #[.int .u8 a0] w fun e w' => e = .returned (.bool r) ∧ Drawn0 w w' := by
 have H : (some (a0 != a0)) = some r := h
 clear h
 obtain rfl := Option.some.inj H
 go_enter Tryd.func77, Tryd.ntmps77
 go_wp2
 go_ret
 exact ⟨qnmo2_, qnmo11_⟩


/-! ### api_Class_53: function 53 -/
def api_Class_53.f (a0 : Int) (a1 : Int) : Option (Int) := (api_Class_77.f a0).bind fun t292 => ((api_Class_77.f a1).bind fun t293 => (if t292 = true then (if t293 = true then (some 0) else (some (-1))) else (if t293 = true then (some 1) else (if a0 < a1 then (some (-1)) else (if a0 > a1 then (some 1) else (some 0))))))
set_option maxHeartbeats 8000000 in
set_option maxRecDepth 100000 in
theorem api_Class_53.calls (a0 : Int) (a1 : Int) (r : Int) (w : World) (h : api_Class_53.f a0 a1 = some r) :
  Calls Tryd.prog 53 #[.int .u8 a0, .int .u8 a1] w fun e w' => e = .returned (.int .i64 r) ∧ Drawn0 w w' := by
 have H : ((api_Class_77.f a0).bind fun t292 => ((api_Class_77.f a1).bind fun t293 => (if t292 = true then (if t293 = true then (some 0) else (some (-1))) else (if t293 = true then (some 1) else (if a0 < a1 then (some (-1)) else (if a0 > a1 then (some 1) else (some 0))))))) = some r := h
 clear h
 replace H := Option.bind_eq_some_iff.mp H
 obtain ⟨t292, A30, H⟩ := H
 replace H : ((api_Class_77.f a1).bind fun t293 => (if t292 = true then (if t293 = true then (some 0) else (some (-1))) else (if t293 = true then (some 1) else (if a0 < a1 then (some (-1)) else (if a0 > a1 then (some 1) else (some 0)))))) = some r := H
 have A3 := Aside0.mk A30
 clear A30
 replace H := Option.bind_eq_some_iff.mp H
 obtain ⟨t293, A40, H⟩ := H
 replace H : (if t292 = true then (if t293 = true then (some 0) else (some (-1))) else (if t293 = true then (some 1) else (if a0 < a1 then (some (-1)) else (if a0 > a1 then (some 1) else (some 0))))) = some r := H
 have A4 := Aside0.mk A40
 clear A40
 by_cases c5 : t292 = true
 ·
  subst c5
  have H1 : (if t293 = true then (some 0) else (some (-1))) = some r := by rw [if_pos rfl] at H; exact H
  clear H
  have H := H1
  clear H1
  by_cases c6 : t293 = true
  ·
   subst c6
   have H1 : (some 0) = some r := by rw [if_pos rfl] at H; exact H
   clear H
   have H := H1
   clear H1
   obtain rfl := Option.some.inj H
   go_enter Tryd.func53, Tryd.ntmps53
   have tk7 : True := trivial; have tk8 : True := trivial
   go_wp2_with (first | (have ztk7 := tk7; clear tk7 ztk7; (with_reducible refine gate_callee (f := 77) rfl ?_); refine goesL_ (some 8) rfl rfl Tryd.func77 (by kernel_rfl) rfl #[.int .u8 a0] rfl qnmo0_ ?_; (with_reducible refine (api_Class_77.calls a0 true _ A3.out).mono ?_); rintro e w' ⟨rfl, ⟨nd, rfl⟩⟩; refine ⟨_, rfl, ?_⟩) | (have ztk8 := tk8; clear tk8 ztk8; (with_reducible refine gate_callee (f := 77) rfl ?_); refine goesL_ (some 10) rfl rfl Tryd.func77 (by kernel_rfl) rfl #[.int .u8 a1] rfl qnmo0_ ?_; (with_reducible refine (api_Class_77.calls a1 true _ A4.out).mono ?_); rintro e w' ⟨rfl, ⟨nd, rfl⟩⟩; refine ⟨_, rfl, ?_⟩))
   go_ret
   exact ⟨qnmo2_, qnmo11_⟩
  ·
   replace c6 := Bool.eq_false_iff.mpr c6
   subst c6
   have H1 : (some (-1)) = some r := by rw [if_neg (show ¬ (false = true) by decide)] at H; exact H
   clear H
   have H := H1
   clear H1
   obtain rfl := Option.some.inj H
   go_enter Tryd.func53, Tryd.ntmps53
   have tk9 : True := trivial; have tk10 : True := trivial
   go_wp2_with (first | (have ztk9 := tk9; clear tk9 ztk9; (with_reducible refine gate_callee (f := 77) rfl ?_); refine goesL_ (some 8) rfl rfl Tryd.func77 (by kernel_rfl) rfl #[.int .u8 a0] rfl qnmo0_ ?_; (with_reducible refine (api_Class_77.calls a0 true _ A3.out).mono ?_); rintro e w' ⟨rfl, ⟨nd, rfl⟩⟩; refine ⟨_, rfl, ?_⟩) | (have ztk10 := tk10; clear tk10 ztk10; (with_reducible refine gate_callee (f := 77) rfl ?_); refine goesL_ (some 10) rfl rfl Tryd.func77 (by kernel_rfl) rfl #[.int .u8 a1] rfl qnmo0_ ?_; (with_reducible refine (api_Class_77.calls a1 false _ A4.out).mono ?_); rintro e w' ⟨rfl, ⟨nd, rfl⟩⟩; refine ⟨_, rfl, ?_⟩))
   go_ret
   exact ⟨qnmo2_, qnmo11_⟩
 ·
  replace c5 := Bool.eq_false_iff.mpr c5
  subst c5
  have H1 : (if t293 = true then (some 1) else (if a0 < a1 then (some (-1)) else (if a0 > a1 then (some 1) else (some 0)))) = some r := by rw [if_neg (show ¬ (false = true) by decide)] at H; exact H
  clear H
  have H := H1
  clear H1
  by_cases c11 : t293 = true
  ·
   subst c11
   have H1 : (some 1) = some r := by rw [if_pos rfl] at H; exact H
   clear H
   have H := H1
   clear H1
   obtain rfl := Option.some.inj H
   go_enter Tryd.func53, Tryd.ntmps53
   have tk12 : True := trivial; have tk13 : True := trivial
   go_wp2_with (first | (have ztk12 := tk12; clear tk12 ztk12; (with_reducible refine gate_callee (f := 77) rfl ?_); refine goesL_ (some 8) rfl rfl Tryd.func77 (by kernel_rfl) rfl #[.int .u8 a0] rfl qnmo0_ ?_; (with_reducible refine (api_Class_77.calls a0 false _ A3.out).mono ?_); rintro e w' ⟨rfl, ⟨nd, rfl⟩⟩; refine ⟨_, rfl, ?_⟩) | (have ztk13 := tk13; clear tk13 ztk13; (with_reducible refine gate_callee (f := 77) rfl ?_); refine goesL_ (some 10) rfl rfl Tryd.func77 (by kernel_rfl) rfl #[.int .u8 a1] rfl qnmo0_ ?_; (with_reducible refine (api_Class_77.calls a1 true _ A4.out).mono ?_); rintro e w' ⟨rfl, ⟨nd, rfl⟩⟩; refine ⟨_, rfl, ?_⟩))
   go_ret
   exact ⟨qnmo2_, qnmo11_⟩
  ·
   replace c11 := Bool.eq_false_iff.mpr c11
   subst c11
   have H1 : (if a0 < a1 then (some (-1)) else (if a0 > a1 then (some 1) else (some 0))) = some r := by rw [if_neg (show ¬ (false = true) by decide)] at H; exact H
   clear H
   have H := H1
   clear H1
   by_cases c14 : a0 < a1
   ·
    rw [if_pos c14] at H
    have c14b0 : decide (a0 < a1) = true := decide_eq_true c14
    clear c14
    obtain rfl := Option.some.inj H
    go_enter Tryd.func53, Tryd.ntmps53
    have tk15 : True := trivial; have tk16 : True := trivial
    go_wp2_with (first | (have ztk15 := tk15; clear tk15 ztk15; (with_reducible refine gate_callee (f := 77) rfl ?_); refine goesL_ (some 8) rfl rfl Tryd.func77 (by kernel_rfl) rfl #[.int .u8 a0] rfl qnmo0_ ?_; (with_reducible refine (api_Class_77.calls a0 false _ A3.out).mono ?_); rintro e w' ⟨rfl, ⟨nd, rfl⟩⟩; refine ⟨_, rfl, ?_⟩) | (have ztk16 := tk16; clear tk16 ztk16; (with_reducible refine gate_callee (f := 77) rfl ?_); refine goesL_ (some 10) rfl rfl Tryd.func77 (by kernel_rfl) rfl #[.int .u8 a1] rfl qnmo0_ ?_; (with_reducible refine (api_Class_77.calls a1 false _ A4.out).mono ?_); rintro e w' ⟨rfl, ⟨nd, rfl⟩⟩; refine ⟨_, rfl, ?_⟩))
    go_ret
    exact ⟨qnmo2_, qnmo11_⟩
   ·
    rw [if_neg c14] at H
    have c14b0 : decide (a0 < a1) = false := decide_eq_false c14
    clear c14
    by_cases c17 : a0 > a1
    ·
     rw [if_pos c17] at H
     have c17b0 : decide (a1 < a0) = true := decide_eq_true c17
     clear c17
     obtain rfl := Option.some.inj H
     go_enter Tryd.func53, Tryd.ntmps53
     have tk18 : True := trivial; have tk19 : True := trivial
     go_wp2_with (first | (have ztk18 := tk18; clear tk18 ztk18; (with_reducible refine gate_callee (f := 77) rfl ?_); refine goesL_ (some 8) rfl rfl Tryd.func77 (by kernel_rfl) rfl #[.int .u8 a0] rfl qnmo0_ ?_; (with_reducible refine (api_Class_77.calls a0 false _ A3.out).mono ?_); rintro e w' ⟨rfl, ⟨nd, rfl⟩⟩; refine ⟨_, rfl, ?_⟩) | (have ztk19 := tk19; clear tk19 ztk19; (with_reducible refine gate_callee (f := 77) rfl ?_); refine goesL_ (some 10) rfl rfl Tryd.func77 (by kernel_rfl) rfl #[.int .u8 a1] rfl qnmo0_ ?_; (with_reducible refine (api_Class_77.calls a1 false _ A4.out).mono ?_); rintro e w' ⟨rfl, ⟨nd, rfl⟩⟩; refine ⟨_, rfl, ?_⟩))
     go_ret
     exact ⟨qnmo2_, qnmo11_⟩
    ·
     rw [if_neg c17] at H
     have c17b0 : decide (a1 < a0) = false := decide_eq_false c17
     clear c17
     obtain rfl := Option.some.inj H
     go_enter Tryd.func53, Tryd.ntmps53
     have tk20 : True := trivial; have tk21 : True := trivial
     go_wp2_with (first | (have ztk20 := tk20; clear tk20 ztk20; (with_reducible refine gate_callee (f := 77) rfl ?_); refine goesL_ (some 8) rfl rfl Tryd.func77 (by kernel_rfl) rfl #[.int .u8 a0] rfl qnmo0_ ?_; (with_reducible refine (api_Class_77.calls a0 false _ A3.out).mono ?_); rintro e w' ⟨rfl, ⟨nd, rfl⟩⟩; refine ⟨_, rfl, ?_⟩) | (have ztk21 := tk21; clear tk21 ztk21; (with_reducible refine gate_callee (f := 77) rfl ?_); refine goesL_ (some 10) rfl rfl Tryd.func77 (by kernel_rfl) rfl #[.int .u8 a1] rfl qnmo0_ ?_; (with_reducible refine (api_Class_77.calls a1 false _ A4.out).mono ?_); rintro e w' ⟨rfl, ⟨nd, rfl⟩⟩; refine ⟨_, rfl, ?_⟩))
     go_ret
     exact ⟨qnmo2_, qnmo11_⟩


/-! ### numeral_Compare: function 27 -/
def numeral_Compare.j0 : Nat → Int → ByteArray → ByteArray → Int → Bool → Option (Int)
 | 0, _, _, _, _, _ => none
 | k + 1, x0, x1, x2, x9, x10 => if x10 = true then ((numeral_human.f k x0 x1).bind fun bt294 => ((numeral_human.f k x0 x2).bind fun bt298 => ((numeral_order.f k bt294.1 bt294.2.1 bt294.2.2.1 bt294.2.2.2 bt298.1 bt298.2.1 bt298.2.2.1 bt298.2.2.2).bind fun t302 => (some t302)))) else (if x9 = 128 then ((numeral_Month.f k x1).bind fun t303 => ((numeral_Month.f k x2).bind fun t304 => ((cmp_Compare_int.f t303 t304).bind fun t305 => (some t305)))) else (if x9 = 256 then ((numeral_versions.f k x1 x2).bind fun t306 => (some t306)) else (if x9 = 32 then ((numeral_General.f k x1).bind fun bt307 => ((numeral_General.f k x2).bind fun bt312 => (if bt307.1 = bt312.1 then ((numeral_sizeOf.f bt307.2.1 bt307.2.2.1 bt307.2.2.2.1 0).bind fun bt320 => ((numeral_sizeOf.f bt312.2.1 bt312.2.2.1 bt312.2.2.2.1 0).bind fun bt324 => ((numeral_order.f k bt320.1 bt320.2.1 bt320.2.2.1 bt320.2.2.2 bt324.1 bt324.2.1 bt324.2.2.1 bt324.2.2.2).bind fun t328 => (some t328)))) else ((api_Class_53.f bt307.1 bt312.1).bind fun t319 => (some t319))))) else ((strings_Compare.f x1 x2).bind fun t329 => (some t329)))))
def numeral_Compare.f (k : Nat) (a0 : Int) (a1 : ByteArray) (a2 : ByteArray) : Option (Int) := if a0 = 16 then (numeral_Compare.j0 k a0 a1 a2 a0 (a0 == 16)) else (numeral_Compare.j0 k a0 a1 a2 a0 (a0 == 64))
def numeral_Compare.T13 : Bool × List (List Nat × List Nat) := (true, [([], []), ([0], [0]), ([], []), ([2], [2]), ([], []), ([4], [4]), ([1, 3, 5], [1, 3, 5]), ([], []), ([7], [7]), ([], []), ([9], [9]), ([], []), ([11], [11]), ([8, 10, 12, 6], [8, 10, 12]), ([6, 13, 13], [6, 13]), ([14, 14, 0, 1, 2, 3, 4, 5, 6, 7, 8, 9, 10, 11, 12, 13, 14], [14])])
def numeral_Compare.B13 : List Nat := [0, 1, 0, 4, 0, 16, 63, 0, 128, 0, 512, 0, 2048, 8191, 16383, 32767]
theorem numeral_Compare.tab13 : rtab .any (opsOf Tryd.f27 13) = numeral_Compare.T13 := by kernel_rfl
theorem numeral_Compare.bits13 : waitsOk numeral_Compare.T13.2 numeral_Compare.B13 = true := by kernel_rfl
set_option maxHeartbeats 8000000 in
set_option maxRecDepth 100000 in
theorem numeral_Compare.calls (k : Nat) (a0 : Int) (a1 : ByteArray) (a2 : ByteArray) (r : Int) (w : World) (hGL : GOK w) (h : numeral_Compare.f k a0 a1 a2 = some r) :
  Calls Tryd.prog 27 #[.int .u16 a0, .string a1, .string a2] w fun e w' => e = .returned (.int .i64 r) ∧ Below w.heap.size w w' := by
 have hu29 := Tryd.underlying29
 have HGL := Aside0.mk hGL
 clear hGL
 have HB := Aside0.mk (Below.refl w.heap.size w)
 have H : (if a0 = 16 then (numeral_Compare.j0 k a0 a1 a2 a0 (a0 == 16)) else (numeral_Compare.j0 k a0 a1 a2 a0 (a0 == 64))) = some r := h
 clear h
 have HC4 := Aside0.mk H
 clear H
 go_enter Tryd.func27, Tryd.ntmps27
 go_upto_if 10 with (fail)
 go_cut [10] (fun v10 wc => ∃ (kq : Nat) (x10_3 : Bool), v10 = .bool x10_3 ∧ Aside0 (numeral_Compare.j0 kq a0 a1 a2 a0 x10_3 = some r) ∧ Aside0 (kq ≤ k) ∧ Aside0 (Below w.heap.size w wc))
 case first =>
  have H := HC4.out
  clear HC4
  by_cases c5 : a0 = 16
  ·
   rw [if_pos c5] at H
   have c5b0 : (a0 == 16) = true := beq_iff_eq.mpr c5
   have c5b1 : (a0 != 16) = false := bne_eq_false_iff_eq.mpr c5
   clear c5
   (first | rw [c5b0] | (simp only [i64_w, i32_w]; rw [c5b0]) | skip)
   have H' := Aside0.mk H
   clear H
   go_wp2
   go_meet
   case rel => exact ⟨_, ((a0 == 16)), qnmo2_, H', ⟨by first | omega | exact Nat.le_refl _⟩, ⟨qnmo1_⟩⟩
  ·
   rw [if_neg c5] at H
   have c5b0 : (a0 == 16) = false := beq_eq_false_iff_ne.mpr c5
   have c5b1 : (a0 != 16) = true := bne_iff_ne.mpr c5
   (first | rw [c5b0] | (simp only [i64_w, i32_w]; rw [c5b0]) | skip)
   have H' := Aside0.mk H
   clear H
   go_wp2
   go_meet
   case rel => exact ⟨_, ((a0 == 64)), qnmo2_, H', ⟨by first | omega | exact Nat.le_refl _⟩, ⟨qnmo1_⟩⟩
 case rest =>
  clear HC4
  (try clear c2); (try clear p2); (try clear c5); (try clear c5b0); (try clear c5b1)
  obtain ⟨kq, x10_3, rfl, HA, HJ3, HB⟩ := hcut
  cases kq with
  | zero => exact absurd HA.out (by simp [numeral_Compare.j0])
  | succ kj3 =>
   have H := HA.out
   clear HA
   simp only [numeral_Compare.j0] at H
   by_cases c6 : x10_3 = true
   ·
    subst c6
    have H1 : ((numeral_human.f kj3 a0 a1).bind fun bt294 => ((numeral_human.f kj3 a0 a2).bind fun bt298 => ((numeral_order.f kj3 bt294.1 bt294.2.1 bt294.2.2.1 bt294.2.2.2 bt298.1 bt298.2.1 bt298.2.2.1 bt298.2.2.2).bind fun t302 => (some t302)))) = some r := by rw [if_pos rfl] at H; exact H
    clear H
    have H := H1
    clear H1
    replace H := Option.bind_eq_some_iff.mp H
    obtain ⟨⟨t294, t295, t296, t297⟩, A70, H⟩ := H
    replace H : ((numeral_human.f kj3 a0 a2).bind fun bt298 => ((numeral_order.f kj3 t294 t295 t296 t297 bt298.1 bt298.2.1 bt298.2.2.1 bt298.2.2.2).bind fun t302 => (some t302))) = some r := H
    have A7 := Aside0.mk A70
    clear A70
    replace H := Option.bind_eq_some_iff.mp H
    obtain ⟨⟨t298, t299, t300, t301⟩, A80, H⟩ := H
    replace H : ((numeral_order.f kj3 t294 t295 t296 t297 t298 t299 t300 t301).bind fun t302 => (some t302)) = some r := H
    have A8 := Aside0.mk A80
    clear A80
    replace H := Option.bind_eq_some_iff.mp H
    obtain ⟨t302, A90, H⟩ := H
    replace H : (some t302) = some r := H
    have A9 := Aside0.mk A90
    clear A90
    obtain rfl := Option.some.inj H
    have tk13 : True := trivial; have tk14 : True := trivial; have tk15 : True := trivial
    go_wp2_with (first | (have ztk13 := tk13; clear tk13 ztk13; (with_reducible refine gate_callee (f := 50) rfl ?_); refine goesL_ (some 15) rfl rfl Tryd.func50 (by kernel_rfl) rfl #[.int .u16 a0, .string a1] rfl qnmo0_ ?_; (with_reducible refine (numeral_human.calls kj3 a0 a1 t294 t295 t296 t297 _ A7.out).mono ?_); rintro e w10 ⟨rfl, hb⟩; refine ⟨_, rfl, ?_⟩; have n0_ := Aside0.mk (below_step qnmo1_ hb); clear HB; have HB := n0_; clear n0_; (try clear hb); (try clear hb2); (try clear hk); (try clear hi)) | (have ztk14 := tk14; clear tk14 ztk14; (with_reducible refine gate_callee (f := 50) rfl ?_); refine goesL_ (some 18) rfl rfl Tryd.func50 (by kernel_rfl) rfl #[.int .u16 a0, .string a2] rfl qnmo0_ ?_; (with_reducible refine (numeral_human.calls kj3 a0 a2 t298 t299 t300 t301 _ A8.out).mono ?_); rintro e w11 ⟨rfl, hb⟩; refine ⟨_, rfl, ?_⟩; have n0_ := Aside0.mk (below_step qnmo1_ hb); clear HB; have HB := n0_; clear n0_; (try clear hb); (try clear hb2); (try clear hk); (try clear hi)) | (have ztk15 := tk15; clear tk15 ztk15; (with_reducible refine gate_callee (f := 49) rfl ?_); refine goesL_ (some 19) rfl rfl Tryd.func49 (by kernel_rfl) rfl #[.agg #[.int .i64 t294, .int .i64 t295, .int .i64 t296, .string t297], .agg #[.int .i64 t298, .int .i64 t299, .int .i64 t300, .string t301]] rfl qnmo0_ ?_; (with_reducible refine (numeral_order.calls kj3 t294 t295 t296 t297 t298 t299 t300 t301 t302 _ A9.out).mono ?_); rintro e w12 ⟨rfl, hb⟩; refine ⟨_, rfl, ?_⟩; have n0_ := Aside0.mk (below_step qnmo1_ hb); clear HB; have HB := n0_; clear n0_; (try clear hb); (try clear hb2); (try clear hk); (try clear hi)))
    go_ret
    exact ⟨qnmo10_, qnmo1_⟩
   ·
    replace c6 := Bool.eq_false_iff.mpr c6
    subst c6
    have H1 : (if a0 = 128 then ((numeral_Month.f kj3 a1).bind fun t303 => ((numeral_Month.f kj3 a2).bind fun t304 => ((cmp_Compare_int.f t303 t304).bind fun t305 => (some t305)))) else (if a0 = 256 then ((numeral_versions.f kj3 a1 a2).bind fun t306 => (some t306)) else (if a0 = 32 then ((numeral_General.f kj3 a1).bind fun bt307 => ((numeral_General.f kj3 a2).bind fun bt312 => (if bt307.1 = bt312.1 then ((numeral_sizeOf.f bt307.2.1 bt307.2.2.1 bt307.2.2.2.1 0).bind fun bt320 => ((numeral_sizeOf.f bt312.2.1 bt312.2.2.1 bt312.2.2.2.1 0).bind fun bt324 => ((numeral_order.f kj3 bt320.1 bt320.2.1 bt320.2.2.1 bt320.2.2.2 bt324.1 bt324.2.1 bt324.2.2.1 bt324.2.2.2).bind fun t328 => (some t328)))) else ((api_Class_53.f bt307.1 bt312.1).bind fun t319 => (some t319))))) else ((strings_Compare.f a1 a2).bind fun t329 => (some t329))))) = some r := by rw [if_neg (show ¬ (false = true) by decide)] at H; exact H
    clear H
    have H := H1
    clear H1
    by_cases c16 : a0 = 128
    ·
     rw [if_pos c16] at H
     have c16b0 : (a0 == 128) = true := beq_iff_eq.mpr c16
     have c16b1 : (a0 != 128) = false := bne_eq_false_iff_eq.mpr c16
     clear c16
     replace H := Option.bind_eq_some_iff.mp H
     obtain ⟨t303, A170, H⟩ := H
     replace H : ((numeral_Month.f kj3 a2).bind fun t304 => ((cmp_Compare_int.f t303 t304).bind fun t305 => (some t305))) = some r := H
     have A17 := Aside0.mk A170
     clear A170
     replace H := Option.bind_eq_some_iff.mp H
     obtain ⟨t304, A180, H⟩ := H
     replace H : ((cmp_Compare_int.f t303 t304).bind fun t305 => (some t305)) = some r := H
     have A18 := Aside0.mk A180
     clear A180
     replace H := Option.bind_eq_some_iff.mp H
     obtain ⟨t305, A190, H⟩ := H
     replace H : (some t305) = some r := H
     have A19 := Aside0.mk A190
     clear A190
     obtain rfl := Option.some.inj H
     have tk20 : True := trivial; have tk21 : True := trivial; have tk22 : True := trivial
     go_wp2_with (first | (have ztk20 := tk20; clear tk20 ztk20; (with_reducible refine gate_callee (f := 23) rfl ?_); refine goesL_ (some 23) rfl rfl Tryd.func23 (by kernel_rfl) rfl #[.string a1] rfl qnmo0_ ?_; (with_reducible refine (numeral_Month.calls kj3 a1 t303 _ ?side1 A17.out).mono ?_); (case side1 => exact GOK.below HGL.out qnmo1_); rintro e w' ⟨rfl, ⟨nd, rfl⟩⟩; refine ⟨_, rfl, ?_⟩) | (have ztk21 := tk21; clear tk21 ztk21; (with_reducible refine gate_callee (f := 23) rfl ?_); refine goesL_ (some 25) rfl rfl Tryd.func23 (by kernel_rfl) rfl #[.string a2] rfl qnmo0_ ?_; (with_reducible refine (numeral_Month.calls kj3 a2 t304 _ ?side1 A18.out).mono ?_); (case side1 => exact GOK.below HGL.out qnmo1_); rintro e w' ⟨rfl, ⟨nd, rfl⟩⟩; refine ⟨_, rfl, ?_⟩) | (have ztk22 := tk22; clear tk22 ztk22; (with_reducible refine gate_callee (f := 51) rfl ?_); refine goesL_ (some 26) rfl rfl Tryd.func51 (by kernel_rfl) rfl #[.int .i64 t303, .int .i64 t304] rfl qnmo0_ ?_; (with_reducible refine (cmp_Compare_int.calls t303 t304 t305 _ A19.out).mono ?_); rintro e w' ⟨rfl, ⟨nd, rfl⟩⟩; refine ⟨_, rfl, ?_⟩))
     go_ret
     exact ⟨qnmo10_, qnmo1_⟩
    ·
     rw [if_neg c16] at H
     have c16b0 : (a0 == 128) = false := beq_eq_false_iff_ne.mpr c16
     have c16b1 : (a0 != 128) = true := bne_iff_ne.mpr c16
     by_cases c23 : a0 = 256
     ·
      rw [if_pos c23] at H
      have c23b0 : (a0 == 256) = true := beq_iff_eq.mpr c23
      have c23b1 : (a0 != 256) = false := bne_eq_false_iff_eq.mpr c23
      clear c23
      replace H := Option.bind_eq_some_iff.mp H
      obtain ⟨t306, A240, H⟩ := H
      replace H : (some t306) = some r := H
      have A24 := Aside0.mk A240
      clear A240
      obtain rfl := Option.some.inj H
      go_wp2_with (first | ((with_reducible refine gate_callee (f := 52) rfl ?_); refine goesL_ (some 31) rfl rfl Tryd.func52 (by kernel_rfl) rfl #[.string a1, .string a2] rfl qnmo0_ ?_; (with_reducible refine (numeral_versions.calls kj3 a1 a2 t306 _ ?side1 A24.out).mono ?_); (case side1 => exact GOK.below HGL.out qnmo1_); rintro e w25 ⟨rfl, hb⟩; refine ⟨_, rfl, ?_⟩; have n0_ := Aside0.mk (below_step qnmo1_ hb); clear HB; have HB := n0_; clear n0_; (try clear hb); (try clear hb2); (try clear hk); (try clear hi)))
      go_ret
      exact ⟨qnmo10_, qnmo1_⟩
     ·
      rw [if_neg c23] at H
      have c23b0 : (a0 == 256) = false := beq_eq_false_iff_ne.mpr c23
      have c23b1 : (a0 != 256) = true := bne_iff_ne.mpr c23
      by_cases c26 : a0 = 32
      ·
       rw [if_pos c26] at H
       have c26b0 : (a0 == 32) = true := beq_iff_eq.mpr c26
       have c26b1 : (a0 != 32) = false := bne_eq_false_iff_eq.mpr c26
       clear c26
       replace H := Option.bind_eq_some_iff.mp H
       obtain ⟨⟨t307, t308, t309, t310, t311⟩, A270, H⟩ := H
       replace H : ((numeral_General.f kj3 a2).bind fun bt312 => (if t307 = bt312.1 then ((numeral_sizeOf.f t308 t309 t310 0).bind fun bt320 => ((numeral_sizeOf.f bt312.2.1 bt312.2.2.1 bt312.2.2.2.1 0).bind fun bt324 => ((numeral_order.f kj3 bt320.1 bt320.2.1 bt320.2.2.1 bt320.2.2.2 bt324.1 bt324.2.1 bt324.2.2.1 bt324.2.2.2).bind fun t328 => (some t328)))) else ((api_Class_53.f t307 bt312.1).bind fun t319 => (some t319)))) = some r := H
       have A27 := Aside0.mk A270
       clear A270
       replace H := Option.bind_eq_some_iff.mp H
       obtain ⟨⟨t312, t313, t314, t315, t316⟩, A280, H⟩ := H
       replace H : (if t307 = t312 then ((numeral_sizeOf.f t308 t309 t310 0).bind fun bt320 => ((numeral_sizeOf.f t313 t314 t315 0).bind fun bt324 => ((numeral_order.f kj3 bt320.1 bt320.2.1 bt320.2.2.1 bt320.2.2.2 bt324.1 bt324.2.1 bt324.2.2.1 bt324.2.2.2).bind fun t328 => (some t328)))) else ((api_Class_53.f t307 t312).bind fun t319 => (some t319))) = some r := H
       have A28 := Aside0.mk A280
       clear A280
       by_cases c29 : t307 = t312
       ·
        rw [if_pos c29] at H
        have c29b0 : (t307 == t312) = true := beq_iff_eq.mpr c29
        have c29b1 : (t307 != t312) = false := bne_eq_false_iff_eq.mpr c29
        clear c29
        replace H := Option.bind_eq_some_iff.mp H
        obtain ⟨⟨t320, t321, t322, t323⟩, A300, H⟩ := H
        replace H : ((numeral_sizeOf.f t313 t314 t315 0).bind fun bt324 => ((numeral_order.f kj3 t320 t321 t322 t323 bt324.1 bt324.2.1 bt324.2.2.1 bt324.2.2.2).bind fun t328 => (some t328))) = some r := H
        have A30 := Aside0.mk A300
        clear A300
        replace H := Option.bind_eq_some_iff.mp H
        obtain ⟨⟨t324, t325, t326, t327⟩, A310, H⟩ := H
        replace H : ((numeral_order.f kj3 t320 t321 t322 t323 t324 t325 t326 t327).bind fun t328 => (some t328)) = some r := H
        have A31 := Aside0.mk A310
        clear A310
        replace H := Option.bind_eq_some_iff.mp H
        obtain ⟨t328, A320, H⟩ := H
        replace H : (some t328) = some r := H
        have A32 := Aside0.mk A320
        clear A320
        obtain rfl := Option.some.inj H
        have tk45 : True := trivial; have tk46 : True := trivial; have tk47 : True := trivial; have tk48 : True := trivial
        try go_wp2_with (first | (have ztk45 := tk45; clear tk45 ztk45; (with_reducible refine gate_callee (f := 17) rfl ?_); refine goesL_ (some 35) rfl rfl Tryd.func17 (by kernel_rfl) rfl #[.string a1] rfl qnmo0_ ?_; (with_reducible refine (numeral_General.calls kj3 a1 t307 t308 t309 t310 t311 _ A27.out).mono ?_); rintro e w33 ⟨rfl, hb⟩; refine ⟨_, rfl, ?_⟩; have n0_ := Aside0.mk (below_step qnmo1_ hb); clear HB; have HB := n0_; clear n0_; (try clear hb); (try clear hb2); (try clear hk); (try clear hi)) | (have ztk46 := tk46; clear tk46 ztk46; (with_reducible refine gate_callee (f := 17) rfl ?_); refine goesL_ (some 37) rfl rfl Tryd.func17 (by kernel_rfl) rfl #[.string a2] rfl qnmo0_ ?_; (with_reducible refine (numeral_General.calls kj3 a2 t312 t313 t314 t315 t316 _ A28.out).mono ?_); rintro e w34 ⟨rfl, hb⟩; refine ⟨_, rfl, ?_⟩; have n0_ := Aside0.mk (below_step qnmo1_ hb); clear HB; have HB := n0_; clear n0_; (try clear hb); (try clear hb2); (try clear hk); (try clear hi)) | (have ztk47 := tk47; clear tk47 ztk47; (with_reducible refine gate_dst (N := 7) rfl ?_); refine box_event ?hg (N := 7) ?hd (cs := #[.int .u8 0, .bool false, .string (⟨#[]⟩ : ByteArray), .int .i64 0, .int .i64 0]) (t := 29) ?hr ?_; (case hd => rfl); (case hg => rfl); (case hr => first | (go_simp; done) | (go_simp; rfl)); intro gb317 hg w35 hbox hb; have n0_ := Aside0.mk (below_step qnmo1_ hb); have n1_ := Aside0.mk (hbox); have n2_ := Aside0.mk ((by rw [hg]; exact (below_size qnmo1_) : w.heap.size ≤ gb317)); have n3_ := Aside0.mk ((by rw [hg]; exact (below_size qnmo1_) : w.heap.size ≤ gb317)); clear HB; have HB := n0_; have BK317 := n1_; have GW317 := n2_; have GE317 := n3_; clear n0_ n1_ n2_ n3_; clear hb hbox hg) | (have ztk48 := tk48; clear tk48 ztk48; (with_reducible refine gate_dst (N := 8) rfl ?_); refine box_event ?hg (N := 8) ?hd (cs := #[.int .u8 0, .bool false, .string (⟨#[]⟩ : ByteArray), .int .i64 0, .int .i64 0]) (t := 29) ?hr ?_; (case hd => rfl); (case hg => rfl); (case hr => first | (go_simp; done) | (go_simp; rfl)); intro gb318 hg w36 hbox hb; have n0_ := Aside0.mk (blk_below (g := gb317) (o := .cells #[.int .u8 0, .bool false, .string (⟨#[]⟩ : ByteArray), .int .i64 0, .int .i64 0] 29 (0, 0)) qnmo28_ hb); have n1_ := Aside0.mk (below_step qnmo31_ hb); have n2_ := Aside0.mk (hbox); have n3_ := Aside0.mk ((by rw [hg]; exact (below_size qnmo31_) : w.heap.size ≤ gb318)); have n4_ := Aside0.mk ((by rw [hg]; exact (below_size qnmo31_) : w.heap.size ≤ gb318)); have n5_ := Aside0.mk ((by rw [hg]; exact Nat.ne_of_lt (blk_lt (g := gb317) (o := .cells #[.int .u8 0, .bool false, .string (⟨#[]⟩ : ByteArray), .int .i64 0, .int .i64 0] 29 (0, 0)) qnmo28_) : gb317 ≠ gb318)); have n6_ := Aside0.mk ((by rw [hg]; exact Nat.ne_of_gt (blk_lt (g := gb317) (o := .cells #[.int .u8 0, .bool false, .string (⟨#[]⟩ : ByteArray), .int .i64 0, .int .i64 0] 29 (0, 0)) qnmo28_) : gb318 ≠ gb317)); clear BK317; clear HB; have BK317 := n0_; have HB := n1_; have BK318 := n2_; have GW318 := n3_; have GE318 := n4_; have NB317_318 := n5_; have NB318_317 := n6_; clear n0_ n1_ n2_ n3_ n4_ n5_ n6_; clear hb hbox hg; have hnb37 := NB317_318.out; have hnc37 := NB318_317.out; have hcz38_0 : w36.cell? ⟨gb317, 0, none⟩ = some (.int .u8 0) := (blk_cell BK317.out 0).trans rfl; have hcz38_1 : w36.cell? ⟨gb317, 1, none⟩ = some (.bool false) := (blk_cell BK317.out 1).trans rfl; have hcz38_2 : w36.cell? ⟨gb317, 2, none⟩ = some (.string (⟨#[]⟩ : ByteArray)) := (blk_cell BK317.out 2).trans rfl; have hcz38_3 : w36.cell? ⟨gb317, 3, none⟩ = some (.int .i64 0) := (blk_cell BK317.out 3).trans rfl; have hcz38_4 : w36.cell? ⟨gb317, 4, none⟩ = some (.int .i64 0) := (blk_cell BK317.out 4).trans rfl; have hfz38_0 := blk_frozen BK317.out 0; have hfz38_1 := blk_frozen BK317.out 1; have hfz38_2 := blk_frozen BK317.out 2; have hfz38_3 := blk_frozen BK317.out 3; have hfz38_4 := blk_frozen BK317.out 4; have hcz39_0 : w36.cell? ⟨gb318, 0, none⟩ = some (.int .u8 0) := (blk_cell BK318.out 0).trans rfl; have hcz39_1 : w36.cell? ⟨gb318, 1, none⟩ = some (.bool false) := (blk_cell BK318.out 1).trans rfl; have hcz39_2 : w36.cell? ⟨gb318, 2, none⟩ = some (.string (⟨#[]⟩ : ByteArray)) := (blk_cell BK318.out 2).trans rfl; have hcz39_3 : w36.cell? ⟨gb318, 3, none⟩ = some (.int .i64 0) := (blk_cell BK318.out 3).trans rfl; have hcz39_4 : w36.cell? ⟨gb318, 4, none⟩ = some (.int .i64 0) := (blk_cell BK318.out 4).trans rfl; have hfz39_0 := blk_frozen BK318.out 0; have hfz39_1 := blk_frozen BK318.out 1; have hfz39_2 := blk_frozen BK318.out 2; have hfz39_3 := blk_frozen BK318.out 3; have hfz39_4 := blk_frozen BK318.out 4))
        have n0_ : Aside0 (((((((((((w36.setCell ⟨gb317, 0, none⟩ (.int .u8 t307)).setCell ⟨gb317, 1, none⟩ (.bool t308)).setCell ⟨gb317, 2, none⟩ (.string t309)).setCell ⟨gb317, 3, none⟩ (.int .i64 t310)).setCell ⟨gb317, 4, none⟩ (.int .i64 t311)).setCell ⟨gb318, 0, none⟩ (.int .u8 t312)).setCell ⟨gb318, 1, none⟩ (.bool t313)).setCell ⟨gb318, 2, none⟩ (.string t314)).setCell ⟨gb318, 3, none⟩ (.int .i64 t315)).setCell ⟨gb318, 4, none⟩ (.int .i64 t316)).heap[gb317]? = some (.cells #[.int .u8 t307, .bool t308, .string t309, .int .i64 t310, .int .i64 t311] 29 (0, 0))) := ⟨by (with_reducible repeat (first | refine blk_drewN ?_ _ | refine blk_drew ?_ | refine blk_alloc ?_ _)); refine blk_far ?_ NB317_318.out _; (with_reducible repeat (first | refine blk_drewN ?_ _ | refine blk_drew ?_ | refine blk_alloc ?_ _)); refine blk_far ?_ NB317_318.out _; (with_reducible repeat (first | refine blk_drewN ?_ _ | refine blk_drew ?_ | refine blk_alloc ?_ _)); refine blk_far ?_ NB317_318.out _; (with_reducible repeat (first | refine blk_drewN ?_ _ | refine blk_drew ?_ | refine blk_alloc ?_ _)); refine blk_far ?_ NB317_318.out _; (with_reducible repeat (first | refine blk_drewN ?_ _ | refine blk_drew ?_ | refine blk_alloc ?_ _)); refine blk_far ?_ NB317_318.out _; (with_reducible repeat (first | refine blk_drewN ?_ _ | refine blk_drew ?_ | refine blk_alloc ?_ _)); refine blk_put (cs := #[.int .u8 t307, .bool t308, .string t309, .int .i64 t310, .int .i64 0]) ?_ 4 _ rfl; (with_reducible repeat (first | refine blk_drewN ?_ _ | refine blk_drew ?_ | refine blk_alloc ?_ _)); refine blk_put (cs := #[.int .u8 t307, .bool t308, .string t309, .int .i64 0, .int .i64 0]) ?_ 3 _ rfl; (with_reducible repeat (first | refine blk_drewN ?_ _ | refine blk_drew ?_ | refine blk_alloc ?_ _)); refine blk_put (cs := #[.int .u8 t307, .bool t308, .string (⟨#[]⟩ : ByteArray), .int .i64 0, .int .i64 0]) ?_ 2 _ rfl; (with_reducible repeat (first | refine blk_drewN ?_ _ | refine blk_drew ?_ | refine blk_alloc ?_ _)); refine blk_put (cs := #[.int .u8 t307, .bool false, .string (⟨#[]⟩ : ByteArray), .int .i64 0, .int .i64 0]) ?_ 1 _ rfl; (with_reducible repeat (first | refine blk_drewN ?_ _ | refine blk_drew ?_ | refine blk_alloc ?_ _)); refine blk_put (cs := #[.int .u8 0, .bool false, .string (⟨#[]⟩ : ByteArray), .int .i64 0, .int .i64 0]) ?_ 0 _ rfl; (with_reducible repeat (first | refine blk_drewN ?_ _ | refine blk_drew ?_ | refine blk_alloc ?_ _)); exact BK317.out⟩
        have n1_ : Aside0 (((((((((((w36.setCell ⟨gb317, 0, none⟩ (.int .u8 t307)).setCell ⟨gb317, 1, none⟩ (.bool t308)).setCell ⟨gb317, 2, none⟩ (.string t309)).setCell ⟨gb317, 3, none⟩ (.int .i64 t310)).setCell ⟨gb317, 4, none⟩ (.int .i64 t311)).setCell ⟨gb318, 0, none⟩ (.int .u8 t312)).setCell ⟨gb318, 1, none⟩ (.bool t313)).setCell ⟨gb318, 2, none⟩ (.string t314)).setCell ⟨gb318, 3, none⟩ (.int .i64 t315)).setCell ⟨gb318, 4, none⟩ (.int .i64 t316)).heap[gb318]? = some (.cells #[.int .u8 t312, .bool t313, .string t314, .int .i64 t315, .int .i64 t316] 29 (0, 0))) := ⟨by (with_reducible repeat (first | refine blk_drewN ?_ _ | refine blk_drew ?_ | refine blk_alloc ?_ _)); refine blk_put (cs := #[.int .u8 t312, .bool t313, .string t314, .int .i64 t315, .int .i64 0]) ?_ 4 _ rfl; (with_reducible repeat (first | refine blk_drewN ?_ _ | refine blk_drew ?_ | refine blk_alloc ?_ _)); refine blk_put (cs := #[.int .u8 t312, .bool t313, .string t314, .int .i64 0, .int .i64 0]) ?_ 3 _ rfl; (with_reducible repeat (first | refine blk_drewN ?_ _ | refine blk_drew ?_ | refine blk_alloc ?_ _)); refine blk_put (cs := #[.int .u8 t312, .bool t313, .string (⟨#[]⟩ : ByteArray), .int .i64 0, .int .i64 0]) ?_ 2 _ rfl; (with_reducible repeat (first | refine blk_drewN ?_ _ | refine blk_drew ?_ | refine blk_alloc ?_ _)); refine blk_put (cs := #[.int .u8 t312, .bool false, .string (⟨#[]⟩ : ByteArray), .int .i64 0, .int .i64 0]) ?_ 1 _ rfl; (with_reducible repeat (first | refine blk_drewN ?_ _ | refine blk_drew ?_ | refine blk_alloc ?_ _)); refine blk_put (cs := #[.int .u8 0, .bool false, .string (⟨#[]⟩ : ByteArray), .int .i64 0, .int .i64 0]) ?_ 0 _ rfl; (with_reducible repeat (first | refine blk_drewN ?_ _ | refine blk_drew ?_ | refine blk_alloc ?_ _)); refine blk_far ?_ NB318_317.out _; (with_reducible repeat (first | refine blk_drewN ?_ _ | refine blk_drew ?_ | refine blk_alloc ?_ _)); refine blk_far ?_ NB318_317.out _; (with_reducible repeat (first | refine blk_drewN ?_ _ | refine blk_drew ?_ | refine blk_alloc ?_ _)); refine blk_far ?_ NB318_317.out _; (with_reducible repeat (first | refine blk_drewN ?_ _ | refine blk_drew ?_ | refine blk_alloc ?_ _)); refine blk_far ?_ NB318_317.out _; (with_reducible repeat (first | refine blk_drewN ?_ _ | refine blk_drew ?_ | refine blk_alloc ?_ _)); refine blk_far ?_ NB318_317.out _; (with_reducible repeat (first | refine blk_drewN ?_ _ | refine blk_drew ?_ | refine blk_alloc ?_ _)); exact BK318.out⟩
        have n2_ : Aside0 (Below w.heap.size w ((((((((((w36.setCell ⟨gb317, 0, none⟩ (.int .u8 t307)).setCell ⟨gb317, 1, none⟩ (.bool t308)).setCell ⟨gb317, 2, none⟩ (.string t309)).setCell ⟨gb317, 3, none⟩ (.int .i64 t310)).setCell ⟨gb317, 4, none⟩ (.int .i64 t311)).setCell ⟨gb318, 0, none⟩ (.int .u8 t312)).setCell ⟨gb318, 1, none⟩ (.bool t313)).setCell ⟨gb318, 2, none⟩ (.string t314)).setCell ⟨gb318, 3, none⟩ (.int .i64 t315)).setCell ⟨gb318, 4, none⟩ (.int .i64 t316))) := ⟨qnmo25_⟩
        (try clear BK317); (try clear BK318); (try clear HB)
        generalize ((((((((((w36.setCell ⟨gb317, 0, none⟩ (.int .u8 t307)).setCell ⟨gb317, 1, none⟩ (.bool t308)).setCell ⟨gb317, 2, none⟩ (.string t309)).setCell ⟨gb317, 3, none⟩ (.int .i64 t310)).setCell ⟨gb317, 4, none⟩ (.int .i64 t311)).setCell ⟨gb318, 0, none⟩ (.int .u8 t312)).setCell ⟨gb318, 1, none⟩ (.bool t313)).setCell ⟨gb318, 2, none⟩ (.string t314)).setCell ⟨gb318, 3, none⟩ (.int .i64 t315)).setCell ⟨gb318, 4, none⟩ (.int .i64 t316)) = w40 at n0_ n1_ n2_ ⊢
        have BK317 := n0_
        have BK318 := n1_
        have HB := n2_
        clear n0_ n1_ n2_
        have n0_ := Aside0.mk (blk_drew BK317.out)
        have n1_ := Aside0.mk (blk_drew BK318.out)
        have n2_ := Aside0.mk (below_drew1 HB.out)
        clear BK317
        clear BK318
        clear HB
        have BK317 := n0_
        have BK318 := n1_
        have HB := n2_
        clear n0_ n1_ n2_
        refine start_ (n := 16) (S := fun w' => w'.cell? ⟨gb317, 0, none⟩ = some (.int .u8 t307) ∧ w'.cell? ⟨gb317, 1, none⟩ = some (.bool t308) ∧ w'.cell? ⟨gb317, 2, none⟩ = some (.string t309) ∧ w'.cell? ⟨gb317, 3, none⟩ = some (.int .i64 t310) ∧ w'.cell? ⟨gb317, 4, none⟩ = some (.int .i64 t311) ∧ w'.cell? ⟨gb318, 0, none⟩ = some (.int .u8 t312) ∧ w'.cell? ⟨gb318, 1, none⟩ = some (.bool t313) ∧ w'.cell? ⟨gb318, 2, none⟩ = some (.string t314) ∧ w'.cell? ⟨gb318, 3, none⟩ = some (.int .i64 t315) ∧ w'.cell? ⟨gb318, 4, none⟩ = some (.int .i64 t316)) (ds := []) #[false, false, false, false, false, false, false, false, false, false, false, false, false, false, false, false] (by kernel_rfl) rfl rfl ⟨(blk_cell BK317.out 0).trans rfl, (blk_cell BK317.out 1).trans rfl, (blk_cell BK317.out 2).trans rfl, (blk_cell BK317.out 3).trans rfl, (blk_cell BK317.out 4).trans rfl, (blk_cell BK318.out 0).trans rfl, (blk_cell BK318.out 1).trans rfl, (blk_cell BK318.out 2).trans rfl, (blk_cell BK318.out 3).trans rfl, (blk_cell BK318.out 4).trans rfl⟩ (fun hHeld => ?_); refine with_tabW numeral_Compare.tab13 numeral_Compare.bits13 (fun HT_ HW_ => ?_)
        generalize w40.drew = w41 at BK317 BK318 HB hHeld ⊢
        refine pure_ (i := 0) (N := some 48) (v := ?_) (a' := ?_) #[true, false, false, false, false, false, false, false, false, false, false, false, false, false, false, false] rfl rfl (any_of HT_.out (by kernel_rfl)) (fun _ _ _ h => h) (Or.inl ⟨by rfl, ?_⟩) ?_ ?_
        rotate_left
        ·
         intro w'
         go_simp
         with_reducible rfl
        rotate_left
        ·
         simp only [Act.put, List.setIfInBounds_toArray, List.set_cons_zero, List.set_cons_succ, i64_w, i32_w]
         rfl
        refine pure_ (i := 2) (N := some 50) (v := ?_) (a' := ?_) #[true, false, true, false, false, false, false, false, false, false, false, false, false, false, false, false] rfl rfl (any_of HT_.out (by kernel_rfl)) (fun _ _ _ h => h) (Or.inl ⟨by rfl, ?_⟩) ?_ ?_
        rotate_left
        ·
         intro w'
         go_simp
         with_reducible rfl
        rotate_left
        ·
         simp only [Act.put, List.setIfInBounds_toArray, List.set_cons_zero, List.set_cons_succ, i64_w, i32_w]
         rfl
        refine pure_ (i := 4) (N := some 52) (v := ?_) (a' := ?_) #[true, false, true, false, true, false, false, false, false, false, false, false, false, false, false, false] rfl rfl (any_of HT_.out (by kernel_rfl)) (fun _ _ _ h => h) (Or.inl ⟨by rfl, ?_⟩) ?_ ?_
        rotate_left
        ·
         intro w'
         go_simp
         with_reducible rfl
        rotate_left
        ·
         simp only [Act.put, List.setIfInBounds_toArray, List.set_cons_zero, List.set_cons_succ, i64_w, i32_w]
         rfl
        refine pure_ (i := 7) (N := some 55) (v := ?_) (a' := ?_) #[true, false, true, false, true, false, false, true, false, false, false, false, false, false, false, false] rfl rfl (any_of HT_.out (by kernel_rfl)) (fun _ _ _ h => h) (Or.inl ⟨by rfl, ?_⟩) ?_ ?_
        rotate_left
        ·
         intro w'
         go_simp
         with_reducible rfl
        rotate_left
        ·
         simp only [Act.put, List.setIfInBounds_toArray, List.set_cons_zero, List.set_cons_succ, i64_w, i32_w]
         rfl
        refine pure_ (i := 9) (N := some 57) (v := ?_) (a' := ?_) #[true, false, true, false, true, false, false, true, false, true, false, false, false, false, false, false] rfl rfl (any_of HT_.out (by kernel_rfl)) (fun _ _ _ h => h) (Or.inl ⟨by rfl, ?_⟩) ?_ ?_
        rotate_left
        ·
         intro w'
         go_simp
         with_reducible rfl
        rotate_left
        ·
         simp only [Act.put, List.setIfInBounds_toArray, List.set_cons_zero, List.set_cons_succ, i64_w, i32_w]
         rfl
        refine pure_ (i := 11) (N := some 59) (v := ?_) (a' := ?_) #[true, false, true, false, true, false, false, true, false, true, false, true, false, false, false, false] rfl rfl (any_of HT_.out (by kernel_rfl)) (fun _ _ _ h => h) (Or.inl ⟨by rfl, ?_⟩) ?_ ?_
        rotate_left
        ·
         intro w'
         go_simp
         with_reducible rfl
        rotate_left
        ·
         simp only [Act.put, List.setIfInBounds_toArray, List.set_cons_zero, List.set_cons_succ, i64_w, i32_w]
         rfl
        refine take_ (i := 1) (N := some 49) (v := ?_) (a' := ?_) #[true, true, true, false, true, false, false, true, false, true, false, true, false, false, false, false] rfl rfl (take_ofW HT_.out HW_.out (by kernel_rfl)) (fun _ _ _ h => h) (Or.inl ⟨by rfl, ?_⟩) hHeld ?_ ?_
        rotate_left
        ·
         rintro w' ⟨s0, s1, s2, s3, s4, s5, s6, s7, s8, s9⟩
         go_simp
         with_reducible rfl
        rotate_left
        ·
         simp only [Act.put, List.setIfInBounds_toArray, List.set_cons_zero, List.set_cons_succ, i64_w, i32_w]
         rfl
        refine take_ (i := 3) (N := some 51) (v := ?_) (a' := ?_) #[true, true, true, true, true, false, false, true, false, true, false, true, false, false, false, false] rfl rfl (take_ofW HT_.out HW_.out (by kernel_rfl)) (fun _ _ _ h => h) (Or.inl ⟨by rfl, ?_⟩) hHeld ?_ ?_
        rotate_left
        ·
         rintro w' ⟨s0, s1, s2, s3, s4, s5, s6, s7, s8, s9⟩
         go_simp
         with_reducible rfl
        rotate_left
        ·
         simp only [Act.put, List.setIfInBounds_toArray, List.set_cons_zero, List.set_cons_succ, i64_w, i32_w]
         rfl
        refine take_ (i := 5) (N := some 53) (v := ?_) (a' := ?_) #[true, true, true, true, true, true, false, true, false, true, false, true, false, false, false, false] rfl rfl (take_ofW HT_.out HW_.out (by kernel_rfl)) (fun _ _ _ h => h) (Or.inl ⟨by rfl, ?_⟩) hHeld ?_ ?_
        rotate_left
        ·
         rintro w' ⟨s0, s1, s2, s3, s4, s5, s6, s7, s8, s9⟩
         go_simp
         with_reducible rfl
        rotate_left
        ·
         simp only [Act.put, List.setIfInBounds_toArray, List.set_cons_zero, List.set_cons_succ, i64_w, i32_w]
         rfl
        refine take_ (i := 8) (N := some 56) (v := ?_) (a' := ?_) #[true, true, true, true, true, true, false, true, true, true, false, true, false, false, false, false] rfl rfl (take_ofW HT_.out HW_.out (by kernel_rfl)) (fun _ _ _ h => h) (Or.inl ⟨by rfl, ?_⟩) hHeld ?_ ?_
        rotate_left
        ·
         rintro w' ⟨s0, s1, s2, s3, s4, s5, s6, s7, s8, s9⟩
         go_simp
         with_reducible rfl
        rotate_left
        ·
         simp only [Act.put, List.setIfInBounds_toArray, List.set_cons_zero, List.set_cons_succ, i64_w, i32_w]
         rfl
        refine take_ (i := 10) (N := some 58) (v := ?_) (a' := ?_) #[true, true, true, true, true, true, false, true, true, true, true, true, false, false, false, false] rfl rfl (take_ofW HT_.out HW_.out (by kernel_rfl)) (fun _ _ _ h => h) (Or.inl ⟨by rfl, ?_⟩) hHeld ?_ ?_
        rotate_left
        ·
         rintro w' ⟨s0, s1, s2, s3, s4, s5, s6, s7, s8, s9⟩
         go_simp
         with_reducible rfl
        rotate_left
        ·
         simp only [Act.put, List.setIfInBounds_toArray, List.set_cons_zero, List.set_cons_succ, i64_w, i32_w]
         rfl
        refine take_ (i := 12) (N := some 60) (v := ?_) (a' := ?_) #[true, true, true, true, true, true, false, true, true, true, true, true, true, false, false, false] rfl rfl (take_ofW HT_.out HW_.out (by kernel_rfl)) (fun _ _ _ h => h) (Or.inl ⟨by rfl, ?_⟩) hHeld ?_ ?_
        rotate_left
        ·
         rintro w' ⟨s0, s1, s2, s3, s4, s5, s6, s7, s8, s9⟩
         go_simp
         with_reducible rfl
        rotate_left
        ·
         simp only [Act.put, List.setIfInBounds_toArray, List.set_cons_zero, List.set_cons_succ, i64_w, i32_w]
         rfl
        refine one_ (i := 6) (N := some 54) #[true, true, true, true, true, true, true, true, true, true, true, true, true, false, false, false] rfl rfl (one_of HT_.out (by kernel_rfl)) (by decide) (fun K hK => ?_)
        refine goes_ Tryd.func54 (by kernel_rfl) rfl #[.bool t308, .string t309, .int .i64 t310, .int .i64 0] (by rfl) rfl rfl qnmo0_ ?_
        with_reducible refine (numeral_sizeOf.calls t308 t309 t310 0 t320 t321 t322 t323 _ A30.out).mono ?_
        rintro e w42 ⟨rfl, hb⟩
        refine ⟨_, rfl, ?_⟩
        have n0_ := Aside0.mk (blk_below (g := gb317) (o := .cells #[.int .u8 t307, .bool t308, .string t309, .int .i64 t310, .int .i64 t311] 29 (0, 0)) qnmo28_ hb)
        have n1_ := Aside0.mk (blk_below (g := gb318) (o := .cells #[.int .u8 t312, .bool t313, .string t314, .int .i64 t315, .int .i64 t316] 29 (0, 0)) qnmo46_ hb)
        have n2_ := Aside0.mk (below_step qnmo25_ hb)
        clear BK317
        clear BK318
        clear HB
        have BK317 := n0_
        have BK318 := n1_
        have HB := n2_
        clear n0_ n1_ n2_
        (try clear hb); (try clear hb2); (try clear hk); (try clear hi)
        refine hK.out _ _ ⟨(blk_cell BK317.out 0).trans rfl, (blk_cell BK317.out 1).trans rfl, (blk_cell BK317.out 2).trans rfl, (blk_cell BK317.out 3).trans rfl, (blk_cell BK317.out 4).trans rfl, (blk_cell BK318.out 0).trans rfl, (blk_cell BK318.out 1).trans rfl, (blk_cell BK318.out 2).trans rfl, (blk_cell BK318.out 3).trans rfl, (blk_cell BK318.out 4).trans rfl⟩ (fun hHeld => ?_)
        clear hK K
        refine norm_ (a' := ?_) ?_ ?_
        rotate_left
        ·
         show Act.put _ (some 54) _ = _
         simp only [Act.put, List.setIfInBounds_toArray, List.set_cons_zero, List.set_cons_succ, i64_w, i32_w]
         rfl
        refine one_ (i := 13) (N := some 61) #[true, true, true, true, true, true, true, true, true, true, true, true, true, true, false, false] rfl rfl (one_of HT_.out (by kernel_rfl)) (by decide) (fun K hK => ?_)
        refine goes_ Tryd.func54 (by kernel_rfl) rfl #[.bool t313, .string t314, .int .i64 t315, .int .i64 0] (by rfl) rfl rfl qnmo0_ ?_
        with_reducible refine (numeral_sizeOf.calls t313 t314 t315 0 t324 t325 t326 t327 _ A31.out).mono ?_
        rintro e w43 ⟨rfl, hb⟩
        refine ⟨_, rfl, ?_⟩
        have n0_ := Aside0.mk (blk_below (g := gb317) (o := .cells #[.int .u8 t307, .bool t308, .string t309, .int .i64 t310, .int .i64 t311] 29 (0, 0)) qnmo28_ hb)
        have n1_ := Aside0.mk (blk_below (g := gb318) (o := .cells #[.int .u8 t312, .bool t313, .string t314, .int .i64 t315, .int .i64 t316] 29 (0, 0)) qnmo46_ hb)
        have n2_ := Aside0.mk (below_step qnmo25_ hb)
        clear BK317
        clear BK318
        clear HB
        have BK317 := n0_
        have BK318 := n1_
        have HB := n2_
        clear n0_ n1_ n2_
        (try clear hb); (try clear hb2); (try clear hk); (try clear hi)
        refine hK.out _ _ ⟨(blk_cell BK317.out 0).trans rfl, (blk_cell BK317.out 1).trans rfl, (blk_cell BK317.out 2).trans rfl, (blk_cell BK317.out 3).trans rfl, (blk_cell BK317.out 4).trans rfl, (blk_cell BK318.out 0).trans rfl, (blk_cell BK318.out 1).trans rfl, (blk_cell BK318.out 2).trans rfl, (blk_cell BK318.out 3).trans rfl, (blk_cell BK318.out 4).trans rfl⟩ (fun hHeld => ?_)
        clear hK K
        refine norm_ (a' := ?_) ?_ ?_
        rotate_left
        ·
         show Act.put _ (some 61) _ = _
         simp only [Act.put, List.setIfInBounds_toArray, List.set_cons_zero, List.set_cons_succ, i64_w, i32_w]
         rfl
        refine one_ (i := 14) (N := some 62) #[true, true, true, true, true, true, true, true, true, true, true, true, true, true, true, false] rfl rfl (one_of HT_.out (by kernel_rfl)) (by decide) (fun K hK => ?_)
        refine goes_ Tryd.func49 (by kernel_rfl) rfl #[.agg #[.int .i64 t320, .int .i64 t321, .int .i64 t322, .string t323], .agg #[.int .i64 t324, .int .i64 t325, .int .i64 t326, .string t327]] (by rfl) rfl rfl qnmo0_ ?_
        with_reducible refine (numeral_order.calls kj3 t320 t321 t322 t323 t324 t325 t326 t327 t328 _ A32.out).mono ?_
        rintro e w44 ⟨rfl, hb⟩
        refine ⟨_, rfl, ?_⟩
        have n0_ := Aside0.mk (blk_below (g := gb317) (o := .cells #[.int .u8 t307, .bool t308, .string t309, .int .i64 t310, .int .i64 t311] 29 (0, 0)) qnmo28_ hb)
        have n1_ := Aside0.mk (blk_below (g := gb318) (o := .cells #[.int .u8 t312, .bool t313, .string t314, .int .i64 t315, .int .i64 t316] 29 (0, 0)) qnmo46_ hb)
        have n2_ := Aside0.mk (below_step qnmo25_ hb)
        clear BK317
        clear BK318
        clear HB
        have BK317 := n0_
        have BK318 := n1_
        have HB := n2_
        clear n0_ n1_ n2_
        (try clear hb); (try clear hb2); (try clear hk); (try clear hi)
        refine hK.out _ _ ⟨(blk_cell BK317.out 0).trans rfl, (blk_cell BK317.out 1).trans rfl, (blk_cell BK317.out 2).trans rfl, (blk_cell BK317.out 3).trans rfl, (blk_cell BK317.out 4).trans rfl, (blk_cell BK318.out 0).trans rfl, (blk_cell BK318.out 1).trans rfl, (blk_cell BK318.out 2).trans rfl, (blk_cell BK318.out 3).trans rfl, (blk_cell BK318.out 4).trans rfl⟩ (fun hHeld => ?_)
        clear hK K
        refine norm_ (a' := ?_) ?_ ?_
        rotate_left
        ·
         show Act.put _ (some 62) _ = _
         simp only [Act.put, List.setIfInBounds_toArray, List.set_cons_zero, List.set_cons_succ, i64_w, i32_w]
         rfl
        refine pure_ (i := 15) (N := some 6) (v := ?_) (a' := ?_) #[true, true, true, true, true, true, true, true, true, true, true, true, true, true, true, true] rfl rfl (any_of HT_.out (by kernel_rfl)) (fun _ _ _ h => h) (Or.inl ⟨by rfl, ?_⟩) ?_ ?_
        rotate_left
        ·
         intro w'
         go_simp
         with_reducible rfl
        rotate_left
        ·
         simp only [Act.put, List.setIfInBounds_toArray, List.set_cons_zero, List.set_cons_succ, i64_w, i32_w]
         rfl
        refine done_ (done_of HT_.out (by kernel_rfl)) ?_
        try go_wp2
        go_ret
        exact ⟨qnmo10_, qnmo25_⟩
       ·
        rw [if_neg c29] at H
        have c29b0 : (t307 == t312) = false := beq_eq_false_iff_ne.mpr c29
        have c29b1 : (t307 != t312) = true := bne_iff_ne.mpr c29
        replace H := Option.bind_eq_some_iff.mp H
        obtain ⟨t319, A490, H⟩ := H
        replace H : (some t319) = some r := H
        have A49 := Aside0.mk A490
        clear A490
        obtain rfl := Option.some.inj H
        have tk57 : True := trivial; have tk58 : True := trivial; have tk59 : True := trivial; have tk60 : True := trivial; have tk61 : True := trivial
        go_wp2_with (first | (have ztk57 := tk57; clear tk57 ztk57; (with_reducible refine gate_callee (f := 17) rfl ?_); refine goesL_ (some 35) rfl rfl Tryd.func17 (by kernel_rfl) rfl #[.string a1] rfl qnmo0_ ?_; (with_reducible refine (numeral_General.calls kj3 a1 t307 t308 t309 t310 t311 _ A27.out).mono ?_); rintro e w50 ⟨rfl, hb⟩; refine ⟨_, rfl, ?_⟩; have n0_ := Aside0.mk (below_step qnmo1_ hb); clear HB; have HB := n0_; clear n0_; (try clear hb); (try clear hb2); (try clear hk); (try clear hi)) | (have ztk58 := tk58; clear tk58 ztk58; (with_reducible refine gate_callee (f := 17) rfl ?_); refine goesL_ (some 37) rfl rfl Tryd.func17 (by kernel_rfl) rfl #[.string a2] rfl qnmo0_ ?_; (with_reducible refine (numeral_General.calls kj3 a2 t312 t313 t314 t315 t316 _ A28.out).mono ?_); rintro e w51 ⟨rfl, hb⟩; refine ⟨_, rfl, ?_⟩; have n0_ := Aside0.mk (below_step qnmo1_ hb); clear HB; have HB := n0_; clear n0_; (try clear hb); (try clear hb2); (try clear hk); (try clear hi)) | (have ztk59 := tk59; clear tk59 ztk59; (with_reducible refine gate_dst (N := 7) rfl ?_); refine box_event ?hg (N := 7) ?hd (cs := #[.int .u8 0, .bool false, .string (⟨#[]⟩ : ByteArray), .int .i64 0, .int .i64 0]) (t := 29) ?hr ?_; (case hd => rfl); (case hg => rfl); (case hr => first | (go_simp; done) | (go_simp; rfl)); intro gb317 hg w52 hbox hb; have n0_ := Aside0.mk (below_step qnmo1_ hb); have n1_ := Aside0.mk (hbox); have n2_ := Aside0.mk ((by rw [hg]; exact (below_size qnmo1_) : w.heap.size ≤ gb317)); have n3_ := Aside0.mk ((by rw [hg]; exact (below_size qnmo1_) : w.heap.size ≤ gb317)); clear HB; have HB := n0_; have BK317 := n1_; have GW317 := n2_; have GE317 := n3_; clear n0_ n1_ n2_ n3_; clear hb hbox hg) | (have ztk60 := tk60; clear tk60 ztk60; (with_reducible refine gate_dst (N := 8) rfl ?_); refine box_event ?hg (N := 8) ?hd (cs := #[.int .u8 0, .bool false, .string (⟨#[]⟩ : ByteArray), .int .i64 0, .int .i64 0]) (t := 29) ?hr ?_; (case hd => rfl); (case hg => rfl); (case hr => first | (go_simp; done) | (go_simp; rfl)); intro gb318 hg w53 hbox hb; have n0_ := Aside0.mk (blk_below (g := gb317) (o := .cells #[.int .u8 0, .bool false, .string (⟨#[]⟩ : ByteArray), .int .i64 0, .int .i64 0] 29 (0, 0)) qnmo28_ hb); have n1_ := Aside0.mk (below_step qnmo31_ hb); have n2_ := Aside0.mk (hbox); have n3_ := Aside0.mk ((by rw [hg]; exact (below_size qnmo31_) : w.heap.size ≤ gb318)); have n4_ := Aside0.mk ((by rw [hg]; exact (below_size qnmo31_) : w.heap.size ≤ gb318)); have n5_ := Aside0.mk ((by rw [hg]; exact Nat.ne_of_lt (blk_lt (g := gb317) (o := .cells #[.int .u8 0, .bool false, .string (⟨#[]⟩ : ByteArray), .int .i64 0, .int .i64 0] 29 (0, 0)) qnmo28_) : gb317 ≠ gb318)); have n6_ := Aside0.mk ((by rw [hg]; exact Nat.ne_of_gt (blk_lt (g := gb317) (o := .cells #[.int .u8 0, .bool false, .string (⟨#[]⟩ : ByteArray), .int .i64 0, .int .i64 0] 29 (0, 0)) qnmo28_) : gb318 ≠ gb317)); clear BK317; clear HB; have BK317 := n0_; have HB := n1_; have BK318 := n2_; have GW318 := n3_; have GE318 := n4_; have NB317_318 := n5_; have NB318_317 := n6_; clear n0_ n1_ n2_ n3_ n4_ n5_ n6_; clear hb hbox hg; have hnb54 := NB317_318.out; have hnc54 := NB318_317.out; have hcz55_0 : w53.cell? ⟨gb317, 0, none⟩ = some (.int .u8 0) := (blk_cell BK317.out 0).trans rfl; have hcz55_1 : w53.cell? ⟨gb317, 1, none⟩ = some (.bool false) := (blk_cell BK317.out 1).trans rfl; have hcz55_2 : w53.cell? ⟨gb317, 2, none⟩ = some (.string (⟨#[]⟩ : ByteArray)) := (blk_cell BK317.out 2).trans rfl; have hcz55_3 : w53.cell? ⟨gb317, 3, none⟩ = some (.int .i64 0) := (blk_cell BK317.out 3).trans rfl; have hcz55_4 : w53.cell? ⟨gb317, 4, none⟩ = some (.int .i64 0) := (blk_cell BK317.out 4).trans rfl; have hfz55_0 := blk_frozen BK317.out 0; have hfz55_1 := blk_frozen BK317.out 1; have hfz55_2 := blk_frozen BK317.out 2; have hfz55_3 := blk_frozen BK317.out 3; have hfz55_4 := blk_frozen BK317.out 4; have hcz56_0 : w53.cell? ⟨gb318, 0, none⟩ = some (.int .u8 0) := (blk_cell BK318.out 0).trans rfl; have hcz56_1 : w53.cell? ⟨gb318, 1, none⟩ = some (.bool false) := (blk_cell BK318.out 1).trans rfl; have hcz56_2 : w53.cell? ⟨gb318, 2, none⟩ = some (.string (⟨#[]⟩ : ByteArray)) := (blk_cell BK318.out 2).trans rfl; have hcz56_3 : w53.cell? ⟨gb318, 3, none⟩ = some (.int .i64 0) := (blk_cell BK318.out 3).trans rfl; have hcz56_4 : w53.cell? ⟨gb318, 4, none⟩ = some (.int .i64 0) := (blk_cell BK318.out 4).trans rfl; have hfz56_0 := blk_frozen BK318.out 0; have hfz56_1 := blk_frozen BK318.out 1; have hfz56_2 := blk_frozen BK318.out 2; have hfz56_3 := blk_frozen BK318.out 3; have hfz56_4 := blk_frozen BK318.out 4) | (have ztk61 := tk61; clear tk61 ztk61; (with_reducible refine gate_callee (f := 53) rfl ?_); refine goesL_ (some 47) rfl rfl Tryd.func53 (by kernel_rfl) rfl #[.int .u8 t307, .int .u8 t312] rfl qnmo0_ ?_; (with_reducible refine (api_Class_53.calls t307 t312 t319 _ A49.out).mono ?_); rintro e w' ⟨rfl, ⟨nd, rfl⟩⟩; refine ⟨_, rfl, ?_⟩))
        go_ret
        exact ⟨qnmo10_, qnmo25_⟩
      ·
       rw [if_neg c26] at H
       have c26b0 : (a0 == 32) = false := beq_eq_false_iff_ne.mpr c26
       have c26b1 : (a0 != 32) = true := bne_iff_ne.mpr c26
       replace H := Option.bind_eq_some_iff.mp H
       obtain ⟨t329, A620, H⟩ := H
       replace H : (some t329) = some r := H
       have A62 := Aside0.mk A620
       clear A620
       obtain rfl := Option.some.inj H
       go_wp2_with (first | ((with_reducible refine gate_callee (f := 55) rfl ?_); refine goesL_ (some 65) rfl rfl Tryd.func55 (by kernel_rfl) rfl #[.string a1, .string a2] rfl qnmo0_ ?_; (with_reducible refine (strings_Compare.calls a1 a2 t329 _ A62.out).mono ?_); rintro e w' ⟨rfl, ⟨nd, rfl⟩⟩; refine ⟨_, rfl, ?_⟩))
       go_ret
       exact ⟨qnmo10_, qnmo1_⟩


/-! ### milllaw3_alive: function 25 -/
def milllaw3_alive.f (k : Nat)  : Option (Bool) := (numeral_Decimal.f k (⟨#[45, 49, 50, 46, 53, 120]⟩ : ByteArray)).bind fun bt330 => (if bt330.1 = true then (if bt330.2.1.toList = ([49, 50] : List UInt8) then (if bt330.2.2.1.toList = ([53] : List UInt8) then (if bt330.2.2.2 = 5 then ((numeral_Compare.f k 16 (⟨#[57]⟩ : ByteArray) (⟨#[49, 48]⟩ : ByteArray)).bind fun t335 => (if t335 = (-1) then ((numeral_Compare.f k 256 (⟨#[98]⟩ : ByteArray) (⟨#[97]⟩ : ByteArray)).bind fun t336 => (some (t336 == 1))) else (some false))) else (some false)) else (some false)) else (some false)) else (some false))
end Go.Proofs.YtcdajedmlfhmeaaDoor.XN

section
/- The laws' head: what must come. (by this session) -/
-- NEEDS numeral_Compare milllaw3_alive
set_option linter.unusedVariables false
set_option linter.unusedSimpArgs false
namespace Go.Proofs.YtcdajedmlfhmeaaDoor.XN
open Go.RowKit Go.Proofs.YtcdajedmlfhmeaaDoorW.PrintWords Go.Proofs.YtcdajedmlfhmeaaDoorW.PrintMore

theorem Compare_m (s t : ByteArray) (hs : s.size < big) (ht : t.size < big) : Ev (fun k => numeral_Compare.f k 128 s t) (cmpI (monS (L s)) (monS (L t))) := by
  unfold numeral_Compare.f
  refine Ev.neg (by decide) (Ev.succ ?_)
  simp only [numeral_Compare.j0, Compare_int_f, Option.bind_some]
  refine Ev.neg (by decide) (Ev.pos trivial (Ev.bind (Month_ev s hs) (Ev.bind (Month_ev t ht) (Ev.pure _))))
end Go.Proofs.YtcdajedmlfhmeaaDoor.XN
end

namespace Go.Proofs.YtcdajedmlfhmeaaDoor.XN
open Go.RowKit Go.Proofs.YtcdajedmlfhmeaaDoorW.PrintWords Go.Proofs.YtcdajedmlfhmeaaDoorW.PrintLast Go.Proofs.YtcdajedmlfhmeaaDoorW.PrintMore
attribute [local go_sem] max2_int min2_int max_two min_two max_three min_three max_four min_four
set_option linter.unusedVariables false
set_option linter.unusedSimpArgs false

/-! ### millref3_exponent: function 47 -/
def millref3_exponent.l0 : Nat → Bool → Int → ByteArray → Int → Int → Option (Int × Int)
 | 0, _, _, _, _, _ => none
 | k + 1, x7, x8, x9, x10, x11 => if x11 < (x9.size : Int) then (if x11 < 14 then (if 0 ≤ x11 then (millref3_exponent.l0 k x7 x8 x9 (wrap64 ((wrap64 (10 * x10)) + (((bt x9 x11) - 48) % 256))) (wrap64 (x11 + 1))) else (none)) else (if x10 > 1099511627776 then (if x7 = true then (some (-1099511627776, x8)) else (some (1099511627776, x8))) else (if (x9.size : Int) > 14 then (if x7 = true then (some (-1099511627776, x8)) else (some (1099511627776, x8))) else (if x7 = true then (some (wrap64 (-x10), x8)) else (some (x10, x8)))))) else (if x10 > 1099511627776 then (if x7 = true then (some (-1099511627776, x8)) else (some (1099511627776, x8))) else (if (x9.size : Int) > 14 then (if x7 = true then (some (-1099511627776, x8)) else (some (1099511627776, x8))) else (if x7 = true then (some (wrap64 (-x10), x8)) else (some (x10, x8)))))
def millref3_exponent.f (k : Nat) (a0 : ByteArray) (a1 : Int) : Option (Int × Int) := if a1 ≥ (a0.size : Int) then (some (0, a1)) else (if 0 ≤ a1 then (if a1 < (a0.size : Int) then ((millref3_low.f (bt a0 a1)).bind fun t360 => (if t360 = 101 then (if (wrap64 (a1 + 1)) < (a0.size : Int) then (if 0 ≤ (wrap64 (a1 + 1)) then (if (bt a0 (wrap64 (a1 + 1))) = 45 then ((millref3_run.f k a0 (wrap64 ((wrap64 (a1 + 1)) + 1))).bind fun t361 => (if t361 = (wrap64 ((wrap64 (a1 + 1)) + 1)) then (some (0, a1)) else (if 0 ≤ (wrap64 ((wrap64 (a1 + 1)) + 1)) then (if (wrap64 ((wrap64 (a1 + 1)) + 1)) ≤ t361 then (if t361 ≤ (a0.size : Int) then ((millref3_zeros.f k (a0.extract ((wrap64 ((wrap64 (a1 + 1)) + 1)) : Int).toNat (t361 : Int).toNat)).bind fun t362 => (if 0 ≤ t362 then (if t362 ≤ ((t361.toNat - ((wrap64 ((wrap64 (a1 + 1)) + 1)) : Int).toNat : Nat) : Int) then (millref3_exponent.l0 k ((bt a0 (wrap64 (a1 + 1))) == 45) t361 ((a0.extract ((wrap64 ((wrap64 (a1 + 1)) + 1)) : Int).toNat (t361 : Int).toNat).extract (t362 : Int).toNat (t361.toNat - ((wrap64 ((wrap64 (a1 + 1)) + 1)) : Int).toNat)) 0 0) else (none)) else (none))) else (none)) else (none)) else (none)))) else (if (bt a0 (wrap64 (a1 + 1))) = 43 then ((millref3_run.f k a0 (wrap64 ((wrap64 (a1 + 1)) + 1))).bind fun t363 => (if t363 = (wrap64 ((wrap64 (a1 + 1)) + 1)) then (some (0, a1)) else (if 0 ≤ (wrap64 ((wrap64 (a1 + 1)) + 1)) then (if (wrap64 ((wrap64 (a1 + 1)) + 1)) ≤ t363 then (if t363 ≤ (a0.size : Int) then ((millref3_zeros.f k (a0.extract ((wrap64 ((wrap64 (a1 + 1)) + 1)) : Int).toNat (t363 : Int).toNat)).bind fun t364 => (if 0 ≤ t364 then (if t364 ≤ ((t363.toNat - ((wrap64 ((wrap64 (a1 + 1)) + 1)) : Int).toNat : Nat) : Int) then (millref3_exponent.l0 k ((bt a0 (wrap64 (a1 + 1))) == 45) t363 ((a0.extract ((wrap64 ((wrap64 (a1 + 1)) + 1)) : Int).toNat (t363 : Int).toNat).extract (t364 : Int).toNat (t363.toNat - ((wrap64 ((wrap64 (a1 + 1)) + 1)) : Int).toNat)) 0 0) else (none)) else (none))) else (none)) else (none)) else (none)))) else ((millref3_run.f k a0 (wrap64 (a1 + 1))).bind fun t365 => (if t365 = (wrap64 (a1 + 1)) then (some (0, a1)) else (if (wrap64 (a1 + 1)) ≤ t365 then (if t365 ≤ (a0.size : Int) then ((millref3_zeros.f k (a0.extract ((wrap64 (a1 + 1)) : Int).toNat (t365 : Int).toNat)).bind fun t366 => (if 0 ≤ t366 then (if t366 ≤ ((t365.toNat - ((wrap64 (a1 + 1)) : Int).toNat : Nat) : Int) then (millref3_exponent.l0 k false t365 ((a0.extract ((wrap64 (a1 + 1)) : Int).toNat (t365 : Int).toNat).extract (t366 : Int).toNat (t365.toNat - ((wrap64 (a1 + 1)) : Int).toNat)) 0 0) else (none)) else (none))) else (none)) else (none)))))) else (none)) else ((millref3_run.f k a0 (wrap64 (a1 + 1))).bind fun t367 => (if t367 = (wrap64 (a1 + 1)) then (some (0, a1)) else (if 0 ≤ (wrap64 (a1 + 1)) then (if (wrap64 (a1 + 1)) ≤ t367 then (if t367 ≤ (a0.size : Int) then ((millref3_zeros.f k (a0.extract ((wrap64 (a1 + 1)) : Int).toNat (t367 : Int).toNat)).bind fun t368 => (if 0 ≤ t368 then (if t368 ≤ ((t367.toNat - ((wrap64 (a1 + 1)) : Int).toNat : Nat) : Int) then (millref3_exponent.l0 k false t367 ((a0.extract ((wrap64 (a1 + 1)) : Int).toNat (t367 : Int).toNat).extract (t368 : Int).toNat (t367.toNat - ((wrap64 (a1 + 1)) : Int).toNat)) 0 0) else (none)) else (none))) else (none)) else (none)) else (none))))) else (some (0, a1)))) else (none)) else (none))

/-! ### millref3_Norm: function 48 -/
def millref3_Norm.f (k : Nat) (a0_0 : Bool) (a0_1 : ByteArray) (a0_2 : Int) (a0_3 : Int) : Option (Bool × ByteArray × Int × Int) := (millref3_zeros.f k a0_1).bind fun t371 => (if 0 ≤ t371 then (if t371 ≤ (a0_1.size : Int) then ((millref3_trimmed.f k (a0_1.extract (t371 : Int).toNat a0_1.size)).bind fun t372 => (if t372.toList = ([] : List UInt8) then (some (false, (⟨#[]⟩ : ByteArray), 0, 0)) else (some (a0_0, t372, wrap64 (a0_2 - t371), a0_3)))) else (none)) else (none))

/-! ### millref3_General: function 26 -/
mutual
def millref3_General.j0 : Nat → ByteArray → Int → Bool → Bool → Option (Int × Bool × ByteArray × Int × Int)
 | 0, _, _, _, _ => none
 | k + 1, x0, x3, x4, x29 => if x29 = true then (if 0 ≤ x3 then (if x3 < (x0.size : Int) then (millref3_General.j1 k x0 (wrap64 (x3 + 1)) ((bt x0 x3) == 45)) else (none)) else (none)) else (millref3_General.j1 k x0 x3 x4)
def millref3_General.j1 : Nat → ByteArray → Int → Bool → Option (Int × Bool × ByteArray × Int × Int)
 | 0, _, _, _ => none
 | k + 1, x0, x3, x4 => (millref3_at.f k x0 x3 (⟨#[110, 97, 110]⟩ : ByteArray)).bind fun t375 => (if t375 = true then (some (1, false, (⟨#[]⟩ : ByteArray), 0, wrap64 (x3 + 3))) else ((millref3_at.f k x0 x3 (⟨#[105, 110, 102]⟩ : ByteArray)).bind fun t376 => (if t376 = true then (if x4 = true then (millref3_General.j2 k x0 x3 2 false (⟨#[]⟩ : ByteArray) 0 (wrap64 (x3 + 3))) else (millref3_General.j2 k x0 x3 4 false (⟨#[]⟩ : ByteArray) 0 (wrap64 (x3 + 3)))) else ((millref3_Plain.f k x0 x3).bind fun bt379 => (if bt379.2.2 < 0 then (some (0, false, (⟨#[]⟩ : ByteArray), 0, 0)) else ((millref3_exponent.f k x0 bt379.2.2).bind fun bt382 => ((millref3_Norm.f k x4 bt379.1 (wrap64 (bt379.2.1 + bt382.1)) 0).bind fun bt384 => (some (3, bt384.1, bt384.2.1, bt384.2.2.1, bt382.2)))))))))
def millref3_General.j2 : Nat → ByteArray → Int → Int → Bool → ByteArray → Int → Int → Option (Int × Bool × ByteArray × Int × Int)
 | 0, _, _, _, _, _, _, _ => none
 | k + 1, x0, x3, x378000, x378001, x378002, x378003, x378004 => (millref3_at.f k x0 x3 (⟨#[105, 110, 102, 105, 110, 105, 116, 121]⟩ : ByteArray)).bind fun t378 => (if t378 = true then (some (x378000, x378001, x378002, x378003, wrap64 (x3 + 8))) else (some (x378000, x378001, x378002, x378003, x378004)))
end
def millref3_General.f (k : Nat) (a0 : ByteArray) : Option (Int × Bool × ByteArray × Int × Int) := (millref3_start.f k a0).bind fun t374 => (if t374 < (a0.size : Int) then (if 0 ≤ t374 then (if (bt a0 t374) = 45 then (millref3_General.j0 k a0 t374 false true) else (millref3_General.j0 k a0 t374 false ((bt a0 t374) == 43))) else (none)) else (millref3_General.j0 k a0 t374 false false))
end Go.Proofs.YtcdajedmlfhmeaaDoor.XN

section
/- General: what numeral and millref3 compute. (by this session) -/
-- NEEDS numeral_exponent millref3_exponent numeral_General millref3_General millref3_Norm
set_option linter.unusedVariables false
set_option linter.unusedSimpArgs false
namespace Go.Proofs.YtcdajedmlfhmeaaDoor.XN
open Go.RowKit Go.Proofs.YtcdajedmlfhmeaaDoorW.PrintWords Go.Proofs.YtcdajedmlfhmeaaDoorW.PrintMore

/-! ### an exponent -/
def most : Nat := 1099511627776
/-- Digits read on from n. -/
def dvf (n : Nat) (l : List UInt8) : Nat := l.foldl (fun n c => 10 * n + (c.toNat - 48)) n
def dval (l : List UInt8) : Nat := dvf 0 l
/-- The program's reckoning: no more than most. -/
def satF (n : Nat) : List UInt8 → Nat
  | [] => n
  | c :: r => if isDg c = true then satF (min (n * 10 + (c.toNat - 48)) most) r else n
/-- A sign at the head: is it -, how many bytes. -/
def sgE : List UInt8 → Bool × Nat
  | [] => (false, 0)
  | c :: _ => if (c.toNat : Int) = 45 then (true, 1) else if (c.toNat : Int) = 43 then (false, 1) else (false, 0)
def isE (c : UInt8) : Bool := decide (c = 101) || decide (c = 69)
/-- An exponent at the head: its value, how many bytes. -/
def expS : List UInt8 → Int × Nat
  | [] => (0, 0)
  | c :: r =>
    if isE c = true then
      let d := (r.drop (sgE r).2).takeWhile isDg
      if d = [] then (0, 0) else ((if (sgE r).1 = true then -1 else 1) * (min (dval d) most : Nat), 1 + (sgE r).2 + d.length)
    else (0, 0)
end Go.Proofs.YtcdajedmlfhmeaaDoor.XN
end

section
/- General: the whole, both sides; Compare at g and at any other kind. (by this session) -/
-- NEEDS numeral_General millref3_General millref3_Norm
set_option linter.unusedVariables false
set_option linter.unusedSimpArgs false
namespace Go.Proofs.YtcdajedmlfhmeaaDoor.XN
open Go.RowKit Go.Proofs.YtcdajedmlfhmeaaDoorW.PrintWords Go.Proofs.YtcdajedmlfhmeaaDoorW.PrintMore

def wInfinity : List UInt8 := [105, 110, 102, 105, 110, 105, 116, 121]
def wInf : List UInt8 := [105, 110, 102]
def wNan : List UInt8 := [110, 97, 110]
abbrev Gn := Int × Bool × List UInt8 × Int × Nat
/-- What General takes, behind blanks and sign: n stands at i. -/
def genB (neg : Bool) (n : List UInt8) (i : Nat) : Gn :=
  if bgN n wInfinity = true then ((if neg = true then 2 else 4), false, [], 0, i + 8)
  else if bgN n wInf = true then ((if neg = true then 2 else 4), false, [], 0, i + 3)
  else if bgN n wNan = true then (1, false, [], 0, i + 3)
  else if noneAt n = true then (0, false, [], 0, 0)
  else
    let d := digS (plS n).1 (plS n).2.1 (expS (n.drop (plS n).2.2)).1
    (3, neg && !d.1.isEmpty, d.1, d.2, i + (plS n).2.2 + (expS (n.drop (plS n).2.2)).2)
def genN (l : List UInt8) : Nat := blkN l + (sgE (l.drop (blkN l))).2
def genS (l : List UInt8) : Gn := genB (sgE (l.drop (blkN l))).1 (l.drop (genN l)) (genN l)
def gnV (g : Gn) : Int × Bool × ByteArray × Int × Int := (g.1, g.2.1, mkB g.2.2.1, g.2.2.2.1, (g.2.2.2.2 : Int))
end Go.Proofs.YtcdajedmlfhmeaaDoor.XN
end

/- NumeralMonths: the walk by hand ([]byte of a cut constant), and what it computes. (by this session) -/
-- NEEDS numeral_Month numeral_Compare
namespace Go.Proofs.YtcdajedmlfhmeaaDoor.XN
set_option linter.unusedSimpArgs false
set_option linter.unusedVariables false
open Go.RowKit Go.Proofs.YtcdajedmlfhmeaaDoorW.PrintWords Go.Proofs.YtcdajedmlfhmeaaDoorW.PrintLast Go.Proofs.YtcdajedmlfhmeaaDoorW.PrintMore
/-- A row of a conversion: its first cells hold d. -/
def MRow (w : World) (g : Nat) (d : List UInt8) (n : Nat) : Prop :=
  d.length ≤ n ∧ ∃ cs : Array Value, w.heap[g]? = some (.cells cs 5 (n, n + 1)) ∧ cs.size = n ∧ ∀ j, j < d.length → cs[j]? = some (.int .u8 (d.getD j 0).toNat)
theorem MRow.cell {w : World} {g n : Nat} {d : List UInt8} (h : MRow w g d n) {j : Nat} (hj : j < d.length) : w.cell? ⟨g, j, none⟩ = some (.int .u8 (d.getD j 0).toNat) := by
  obtain ⟨h1, cs, h2, h3, h4⟩ := h
  rw [← h4 j hj]
  exact cell_of_row w g j cs 5 _ h2
theorem MRow.unfrozen {w : World} {g n : Nat} {d : List UInt8} (h : MRow w g d n) {j : Nat} (hj : j < d.length) : w.frozen? ⟨g, j, none⟩ = false := by
  obtain ⟨h1, cs, h2, h3, h4⟩ := h
  simp [World.frozen?, h2]
  omega
theorem MRow.set {w : World} {g n : Nat} {d : List UInt8} (h : MRow w g d n) {j : Nat} (hj : j < d.length) (v : UInt8) : MRow (w.setCell ⟨g, j, none⟩ (.int .u8 v.toNat)) g (d.set j v) n := by
  obtain ⟨h1, cs, h2, h3, h4⟩ := h
  refine ⟨by simpa using h1, cs.setIfInBounds j (.int .u8 v.toNat), ?_, by simpa using h3, ?_⟩
  · have hlt : g < w.heap.size := by
      rcases Nat.lt_or_ge g w.heap.size with h | h
      · exact h
      · simp [Array.getElem?_eq_none h] at h2
    simp [World.setCell, Array.getElem?_modify, h2]
  · intro q hq
    rw [List.length_set] at hq
    rw [Array.getElem?_setIfInBounds]
    by_cases e : j = q
    · subst e
      simp [h3, List.getD, List.getElem?_set, hq]
      omega
    · simp only [if_neg e]
      rw [h4 q hq]
      simp [List.getD, List.getElem?_set, e]
theorem MRow.new (w : World) (s : ByteArray) : ∃ n, MRow (Lib.bytesWorld w 5 s) w.heap.size s.data.toList n := by
  refine ⟨(Lib.bytesCells w 5 s).size, ?_, Lib.bytesCells w 5 s, Lib.bytesWorld_at_new w 5 s, rfl, ?_⟩
  · simp [Lib.bytesCells]
  · intro j hj
    have hj' : j < s.data.size := by simpa using hj
    have hs : j < s.size := hj'
    simp [Lib.bytesCells, Array.getElem?_append, List.getD]
    rw [if_pos hs, Array.getElem?_eq_getElem hj']
    rfl
theorem bgN3 (a b c : UInt8) (t : List UInt8) (x y z : UInt8) : bgN (a :: b :: c :: t) [x, y, z] = (lowB a == x && (lowB b == y && (lowB c == z && true))) := by simp [bgN]
theorem monF3 (a b c : UInt8) (t : List UInt8) (w : List UInt8) (ws : List (List UInt8)) (m : Nat) (hw : w.length = 3) : monF (a :: b :: c :: t) m (w :: ws) = if [lowB a, lowB b, lowB c] = w then m + 1 else monF (a :: b :: c :: t) (m + 1) ws := by
  match w, hw with
  | [x, y, z], _ => simp [monF, bgN3]
/-- The months, as three low bytes tell them. -/
def mon3 (w : List UInt8) : Nat → List (List UInt8) → Nat
  | _, [] => 0
  | m, v :: ws => if w = v then m + 1 else mon3 w (m + 1) ws
theorem monF_mon3 (a b c : UInt8) (t : List UInt8) : ∀ (ws : List (List UInt8)) (m : Nat), (∀ w ∈ ws, w.length = 3) → monF (a :: b :: c :: t) m ws = mon3 [lowB a, lowB b, lowB c] m ws
  | [], _, _ => rfl
  | w :: ws, m, h => by rw [monF3 _ _ _ _ _ _ _ (h w (by simp)), mon3, monF_mon3 a b c t ws (m + 1) (fun v hv => h v (by simp [hv]))]
theorem monS_mon3 {a b c : UInt8} {t : List UInt8} (h : isBl a = false) : monS (a :: b :: c :: t) = mon3 [lowB a, lowB b, lowB c] 0 monthL := by
  unfold monS blkN
  rw [List.takeWhile_cons_of_neg (by rw [h]; decide)]
  exact monF_mon3 a b c t monthL 0 (by decide)
theorem monS_bl (l : List UInt8) : monS (32 :: 9 :: l) = monS l := by
  unfold monS blkN
  rw [List.takeWhile_cons_of_pos (by decide), List.takeWhile_cons_of_pos (by decide)]
  rfl
/-- The months' names as the law has them. -/
def upL : List (List UInt8) := [[74, 65, 78], [70, 69, 66], [77, 65, 82], [65, 80, 82], [77, 65, 89], [74, 85, 78], [74, 85, 76], [65, 85, 71], [83, 69, 80], [79, 67, 84], [78, 79, 86], [68, 69, 67]]
theorem cut_up : ∀ m : Nat, m < 12 → ((⟨#[74, 65, 78, 70, 69, 66, 77, 65, 82, 65, 80, 82, 77, 65, 89, 74, 85, 78, 74, 85, 76, 65, 85, 71, 83, 69, 80, 79, 67, 84, 78, 79, 86, 68, 69, 67]⟩ : ByteArray).extract (3 * (m : Int)).toNat (3 * (m : Int) + 3).toNat).data.toList = upL.getD m [] := by
  intro m hm
  rcases (by omega : m = 0 ∨ m = 1 ∨ m = 2 ∨ m = 3 ∨ m = 4 ∨ m = 5 ∨ m = 6 ∨ m = 7 ∨ m = 8 ∨ m = 9 ∨ m = 10 ∨ m = 11) with rfl | rfl | rfl | rfl | rfl | rfl | rfl | rfl | rfl | rfl | rfl | rfl <;> rfl
theorem up_low : ∀ m : Fin 12, ∀ j : Fin 3, (lowB ((upL.getD m []).getD j 0) = (monthL.getD m []).getD j 0 ∧ lowB ((upL.getD m []).getD j 0 + 32) = (monthL.getD m []).getD j 0) ∧ isBl ((upL.getD m []).getD j 0) = false ∧ isBl ((upL.getD m []).getD j 0 + 32) = false := by decide +kernel
theorem up_tell : ∀ m : Fin 12, mon3 [(monthL.getD m []).getD 0 0, (monthL.getD m []).getD 1 0, (monthL.getD m []).getD 2 0] 0 monthL = m + 1 ∧ mon3 [lowB 120, (monthL.getD m []).getD 0 0, (monthL.getD m []).getD 1 0] 0 monthL = 0 ∧ mon3 [(monthL.getD m []).getD 0 0, (monthL.getD m []).getD 1 0, lowB 45] 0 monthL = 0 := by decide +kernel
theorem mon_up (m : Nat) (hm : m < 12) (a b c : UInt8) (ha : a = (upL.getD m []).getD 0 0 ∨ a = (upL.getD m []).getD 0 0 + 32) (hb : b = (upL.getD m []).getD 1 0 ∨ b = (upL.getD m []).getD 1 0 + 32) (hc : c = (upL.getD m []).getD 2 0 ∨ c = (upL.getD m []).getD 2 0 + 32) (t : List UInt8) :
    monS (a :: b :: c :: t) = m + 1 ∧ monS (32 :: 9 :: a :: b :: c :: t) = m + 1 ∧ monS (120 :: a :: b :: c :: t) = 0 ∧ monS (a :: b :: 45 :: t) = 0 := by
  have key : ∀ (j : Fin 3) (x : UInt8), x = (upL.getD m []).getD j 0 ∨ x = (upL.getD m []).getD j 0 + 32 → lowB x = (monthL.getD m []).getD j 0 ∧ isBl x = false := by
    intro j x h
    have h1 := up_low ⟨m, hm⟩ j
    rcases h with rfl | rfl
    · exact ⟨h1.1.1, h1.2.1⟩
    · exact ⟨h1.1.2, h1.2.2⟩
  have A := key 0 a ha
  have B := key 1 b hb
  have C := key 2 c hc
  have U := up_tell ⟨m, hm⟩
  refine ⟨?_, ?_, ?_, ?_⟩
  · rw [monS_mon3 A.2, A.1, B.1, C.1]; exact U.1
  · rw [monS_bl, monS_mon3 A.2, A.1, B.1, C.1]; exact U.1
  · rw [monS_mon3 (by decide), A.1, B.1]; exact U.2.1
  · rw [monS_mon3 A.2, A.1, B.1]; exact U.2.2
theorem below_after {a b c : World} (h : Below b.heap.size b c) (k : Below a.heap.size a b) : Below a.heap.size a c := k.trans (h.mono k.size)
set_option maxHeartbeats 1000000 in
set_option maxRecDepth 100000 in
theorem months_walk (m : Nat) (hm : m < 12) (a1 : Int) (h1 : 0 ≤ a1 ∧ a1 < 256) (a2 : ByteArray) (w : World) (hGL : GOK w) (h2 : a2.size ≤ 140737488351232) :
    Calls Tryd.prog 11 #[.int .i64 (m : Int), .int .u8 a1, .string a2] w fun e w' => e = .returned (.bool true) ∧ Below w.heap.size w w' := by
  have t1 : decide ((m : Int) < 0) = false := by simp
  have t2 : decide ((m : Int) > 11) = false := by simp; omega
  have hmm : (m : Int) ≤ 11 := by omega
  have hG := Aside0.mk hGL
  clear hGL
  go_enter Tryd.func11, Tryd.ntmps11
  go_wp2_with fail
  rw [run_slice_string (P := Tryd.prog) w 9 _ .i64 .i64 (3*(m:Int)) (3*(m:Int)+3) Tryd.underlying9 (by omega) (by omega) (by show _ ≤ ((36:Nat):Int); omega)]
  simp only [Result.andThen]
  rw [Oper.upon_value]
  generalize hS : ByteArray.extract _ _ _ = S
  have hSz : S.size = 3 := by rw [← hS, ByteArray.size_extract]; show min _ 36 - _ = 3; omega
  have hL3 : S.data.toList.length = 3 := by rw [Array.length_toList]; exact hSz
  go_wp2_with fail
  rw [Lib.run_convert_string_bytes (P := Tryd.prog) (e := 5) _ _ _ _ Tryd.underlying9 (by kernel_rfl) (by kernel_rfl)]
  simp only [Result.andThen]
  rw [Oper.upon_value]
  obtain ⟨n, hN⟩ := MRow.new w S
  have hB : Below w.heap.size w (Lib.bytesWorld w 5 S) := Lib.bytesWorld_below w 5 S
  generalize hW : Lib.bytesWorld w 5 S = W at hN hB ⊢
  generalize hcap : grownCap w S.size 0 5 = cap
  rw [hSz]
  have HN := Aside0.mk hN
  have HB := Aside0.mk hB
  clear hN hB hcap
  go_wp2_with fail
  go_loopw [8] (fun i wr => ∃ (k : Nat) (d : List UInt8), k ≤ 3 ∧ i = .int .i64 (k : Int) ∧ Aside0 (d.length = 3 ∧ (∀ j, d.getD j 0 = S.data.toList.getD j 0 ∨ d.getD j 0 = S.data.toList.getD j 0 + 32)) ∧ Aside0 (∀ j, k ≤ j → d.getD j 0 = S.data.toList.getD j 0) ∧ Aside0 (MRow wr w.heap.size d n) ∧ Aside0 (Below w.heap.size w wr)) (fun i _ => 3 - (intOf i).toNat)
  · exact ⟨0, S.data.toList, by omega, rfl, ⟨hL3, fun j => .inl rfl⟩, ⟨fun j _ => rfl⟩, HN, HB⟩
  · obtain ⟨k, d, hk, rfl, D1, D2, D3, D4⟩ := hrel
    rcases Nat.lt_or_ge k 3 with hk3 | hk3
    · have hkd : k < d.length := by rw [D1.out.1]; exact hk3
      have hk1 : 0 ≤ (k : Int) ∧ (k : Int) < 3 := by omega
      have q1 : decide ((k : Int) < 3) = true := by simp; omega
      have hc := D3.out.cell hkd
      have hf := D3.out.unfrozen hkd
      go_wp2_with fail
      · rename_i hbit
        have e0 : (((d[k].toNat : Int) + 32) % 256) = ((d[k] + 32 : UInt8).toNat : Int) := by
          rw [UInt8.toNat_add]
          simp
        simp only [e0]
        refine ⟨⟨k + 1, d.set k (d[k] + 32), by omega, by simp, ⟨by rw [List.length_set]; exact D1.out.1, ?_⟩, ⟨?_⟩, ⟨D3.out.set hkd _⟩, ⟨below_set D4.out (Nat.le_refl _)⟩⟩, by show 3 - ((k : Int) + 1).toNat < 3 - (k : Int).toNat; omega⟩
        · intro j
          by_cases e : k = j
          · subst e
            right
            rw [← D2.out k (Nat.le_refl _)]
            simp [List.getD, hkd]
          · simp only [List.getD, List.getElem?_set_ne e]
            exact D1.out.2 j
        · intro j hj
          have e : k ≠ j := by omega
          have := D2.out j (by omega)
          simp only [List.getD, List.getElem?_set_ne e] at this ⊢
          exact this
      · rename_i hbit
        exact ⟨⟨k + 1, d, by omega, by simp, D1, ⟨fun j h => D2.out j (by omega)⟩, D3, D4⟩, by show 3 - ((k : Int) + 1).toNat < 3 - (k : Int).toNat; omega⟩
    · have : k = 3 := by omega
      subst this
      go_wp2_with fail
      have hl := D1.out.1
      have hrw := run_convert_bytes_back (P := Tryd.prog) wr 23 9 5 ⟨w.heap.size, 0, none⟩ cap d Tryd.underlying23 (by kernel_rfl) Tryd.underlying9 (fun j hj => by
        have h0 := D3.out.cell hj
        have e : (⟨w.heap.size, 0, none⟩ : Addr).add j = ⟨w.heap.size, j, none⟩ := by
          unfold Addr.add
          split
          · rename_i hz; rw [hz]
          · simp
        rw [e, h0]
        simp [List.getD, hj])
      rw [hl] at hrw
      rw [hrw]
      simp only [Result.andThen]
      rw [Oper.upon_value]
      have hB2 := D4.out
      have hd := Aside0.mk D1.out.2
      clear D1 D2 D3 D4 HB HN hrw
      generalize hT : ByteArray.mk d.toArray = T
      have hTz : T.size = 3 := by rw [← hT]; show d.toArray.size = 3; simpa using hl
      have z1 : T.size + a2.size ≤ 9223372036854775807 := by omega
      obtain ⟨q0, q1, q2, rfl⟩ : ∃ x y z, d = [x, y, z] := by
        match d, hl with
        | [x, y, z], _ => exact ⟨x, y, z, rfl⟩
      have hS2 : S.data.toList = upL.getD m [] := by rw [← hS]; exact cut_up m hm
      rw [hS2] at hd
      have hM := mon_up m hm q0 q1 q2 (hd.out 0) (hd.out 1) (hd.out 2) (L a2)
      have hTb : Aside0 (L T = [q0, q1, q2]) := ⟨by rw [← hT]; rfl⟩
      clear hT hS hS2
      have LT : L (T ++ a2) = q0 :: q1 :: q2 :: L a2 := by rw [L_append, hTb.out]; rfl
      have big1 : (T ++ a2).size < big := by rw [ByteArray.size_append, hTz, big_eq]; omega
      have z2 : 2 + T.size ≤ 9223372036854775807 := by omega
      have z3 : 2 + T.size + a2.size ≤ 9223372036854775807 := by omega
      have z4 : 1 + T.size ≤ 9223372036854775807 := by omega
      have z5 : 1 + T.size + a2.size ≤ 9223372036854775807 := by omega
      obtain ⟨k1, e1⟩ := (Month_ev (T ++ a2) big1).ex
      obtain ⟨k2, e2⟩ := (Month_ev ((⟨#[32, 9]⟩ : ByteArray) ++ T ++ a2) (by rw [ByteArray.size_append, ByteArray.size_append, hTz, big_eq]; show 2 + 3 + _ < _; omega)).ex
      obtain ⟨k3, e3⟩ := (Month_ev ((⟨#[120]⟩ : ByteArray) ++ T ++ a2) (by rw [ByteArray.size_append, ByteArray.size_append, hTz, big_eq]; show 1 + 3 + _ < _; omega)).ex
      obtain ⟨k4, e4⟩ := (Month_ev (T.extract 0 2 ++ (⟨#[45]⟩ : ByteArray) ++ a2) (by rw [ByteArray.size_append, ByteArray.size_append, ByteArray.size_extract, hTz, big_eq]; show 2 + 1 + _ < _; omega)).ex
      obtain ⟨k5, e5⟩ := (Compare_m (⟨#[120]⟩ : ByteArray) (T ++ a2) (by show 1 < _; rw [big_eq]; omega) big1).ex
      have n1 : L ((⟨#[32, 9]⟩ : ByteArray) ++ T ++ a2) = 32 :: 9 :: q0 :: q1 :: q2 :: L a2 := by rw [L_append, L_append, hTb.out]; rfl
      have n2 : L ((⟨#[120]⟩ : ByteArray) ++ T ++ a2) = 120 :: q0 :: q1 :: q2 :: L a2 := by rw [L_append, L_append, hTb.out]; rfl
      have n3 : L (T.extract 0 2 ++ (⟨#[45]⟩ : ByteArray) ++ a2) = q0 :: q1 :: 45 :: L a2 := by rw [L_append, L_append, extract_front, L_mk, hTb.out]; rfl
      have n4 : (((m + 1 : Nat)) : Int) = (m : Int) + 1 := by omega
      have n5 : cmpI ((monS (L (⟨#[120]⟩ : ByteArray)) : Nat) : Int) ((m + 1 : Nat) : Int) = -1 := by
        rw [show monS (L (⟨#[120]⟩ : ByteArray)) = 0 by decide +kernel]
        unfold cmpI
        simp
      rw [LT, hM.1, n4] at e1
      rw [n1, hM.2.1, n4] at e2
      rw [n2, hM.2.2.1, show ((0 : Nat) : Int) = 0 from rfl] at e3
      rw [n3, hM.2.2.2, show ((0 : Nat) : Int) = 0 from rfl] at e4
      rw [LT, hM.1, n5] at e5
      have G1 := Aside0.mk (GOK.below hG.out hB2)
      have HB := Aside0.mk hB2
      have E1 := Aside0.mk e1
      have E2 := Aside0.mk e2
      have E3 := Aside0.mk e3
      have E4 := Aside0.mk e4
      have E5 := Aside0.mk e5
      clear e1 e2 e3 e4 e5 n1 n2 n3 n4 n5 hB2 LT hM hd
      go_wp2_with fail
      refine (numeral_Month.calls k1 _ _ _ G1.out E1.out).mono ?_
      rintro e w' ⟨rfl, ⟨nd, rfl⟩⟩
      go_wp2_with fail
      refine (numeral_Month.calls k2 _ _ _ ?_ E2.out).mono ?_
      · exact GOK.below hG.out qnmo1_
      rintro e w' ⟨rfl, ⟨nd2, rfl⟩⟩
      go_wp2_with fail
      refine (numeral_Month.calls k3 _ _ _ ?_ E3.out).mono ?_
      · exact GOK.below hG.out qnmo1_
      rintro e w' ⟨rfl, ⟨nd3, rfl⟩⟩
      go_wp2_with fail
      refine (numeral_Month.calls k4 _ _ _ ?_ E4.out).mono ?_
      · exact GOK.below hG.out qnmo1_
      rintro e w' ⟨rfl, ⟨nd4, rfl⟩⟩
      go_wp2_with fail
      refine (numeral_Compare.calls k5 _ _ _ _ _ ?_ E5.out).mono ?_
      · exact GOK.below hG.out qnmo1_
      rintro e w' ⟨rfl, hW'⟩
      have HB2 := Aside0.mk (below_after hW' qnmo1_)
      clear hW'
      go_wp2_with fail
      go_ret
      exact ⟨rfl, HB2.out⟩
theorem hand_NumeralMonths (a0 a1 : Int) (a2 : ByteArray) (w : World) (hGL : GOK w) (w0 : (Lit.int .i64 a0).wf = true) (w1 : (Lit.int .u8 a1).wf = true) (w2 : a2.size ≤ 140737488351232) :
    Calls Tryd.prog 11 #[.int .i64 a0, .int .u8 a1, .string a2] w fun e w' => e = .returned (.bool true) ∧ Below w.heap.size w w' := by
  by_cases h0 : a0 < 0
  · have t1 : decide (a0 < 0) = true := decide_eq_true h0
    go_enter Tryd.func11, Tryd.ntmps11
    go_wp2_with fail
    go_ret
    exact ⟨rfl, Below.refl _ _⟩
  · by_cases h1 : a0 > 11
    · have t1 : decide (a0 < 0) = false := decide_eq_false h0
      have t2 : decide (a0 > 11) = true := decide_eq_true h1
      go_enter Tryd.func11, Tryd.ntmps11
      go_wp2_with fail
      go_ret
      exact ⟨rfl, Below.refl _ _⟩
    · obtain ⟨m, rfl⟩ := Int.eq_ofNat_of_zero_le (show 0 ≤ a0 by omega)
      have hw : 0 ≤ a1 ∧ a1 < 256 := by
        have e1 : IntKind.u8.min = 0 := by decide +kernel
        have e2 : IntKind.u8.max = 255 := by decide +kernel
        simp [Lit.wf, e1, e2] at w1
        omega
      exact months_walk m (by omega) a1 hw a2 w hGL w2
end Go.Proofs.YtcdajedmlfhmeaaDoor.XN

section
/- The card of NumeralMonths: the law answers true at every input. Conditions: none beyond the row's own. -/
set_option linter.unusedVariables false
set_option linter.unusedSimpArgs false
namespace Go.Proofs.YtcdajedmlfhmeaaDoor.numeralMonths
open Go.ChangeShapes Go.WideShapes Go.ChangeAt Go.RowKit
open Go.ChangeMaps (open_string shut_string)
theorem own : ownKnob Tryd.prog.godebug = none := by kernel_rfl
set_option maxRecDepth 100000 in
/-- What the walk gives, at every argument and every world that holds the listed variables. -/
theorem contract (H : Type) (enc : TypeId × Value → H) (W : World) (args : Array Value) (ds gs : List (DataW H)) (before : List MemPlace) (base : Nat)
    (hval0 : ∀ (j : Nat) t v, Tryd.f11.params[j]? = some t → args[j]? = some v → Value.okWide Tryd.prog W .any base t v)
    (hW : DataW.Whole enc Tryd.prog Tryd.f11.params.toList Rows.numeralMonthsSpec.vars false W args.toList ds gs before)
    (hsz0 : (DataW.weightsEach Tryd.prog (Tryd.f11.params.toList ++ Rows.numeralMonthsSpec.plain.varTypes Tryd.prog) (ds ++ gs)).all (· ≤ reachBytes) = true)
    (hL : laidMetH Tryd.prog Rows.numeralMonthsRow.laid W) (hS : W.ShapedOpen Tryd.prog) :
    Calls Tryd.prog 11 args W fun e W' => ∃ v, e = .returned v ∧ Rows.numeralMonthsSpec.post enc Tryd.prog Tryd.f11 false true false false W args v W' := by
  have hGL : XN.GOK W := XN.gok_of hL (by kernel_rfl) hS 1 2 rfl rfl
  have hsz : (DataW.weightsEach Tryd.prog (Tryd.f11.params.toList ++ Rows.numeralMonthsSpec.plain.varTypes Tryd.prog) (ds ++ gs)).all (· ≤ reachBytes) = true := hsz0
  have hval : ∀ (j : Nat) t v, Tryd.f11.params[j]? = some t → args[j]? = some v → Value.okWide Tryd.prog W .any base t v := hval0
  have hW' := hW
  obtain ⟨p, q, hA0, hV, rfl, hfz, hnd⟩ := hW
  have hA : DataW.TrodAll enc Tryd.prog W 0 (fun _ => true) true Tryd.f11.params.toList args.toList ds p := hA0
  rw [Tryd.params11] at hA hval hsz
  obtain ⟨v0, vs0, d0, ds0, p0, q0, hargs, rfl, rfl, h0, r0⟩ := trodAll_cons hA
  obtain ⟨v1, vs1, d1, ds1, p1, q1, rfl, rfl, rfl, h1, r1⟩ := trodAll_cons r0
  obtain ⟨v2, vs2, d2, ds2, p2, q2, rfl, rfl, rfl, h2, r2⟩ := trodAll_cons r1
  obtain ⟨rfl, rfl, rfl⟩ := trodAll_nil r2
  obtain rfl : args = #[v0, v1, v2] := by cases args; simp_all
  obtain ⟨rfl, rfl⟩ := trodVars_none hV
  obtain ⟨a0, rfl, rfl, rfl, w0⟩ := open_int Tryd.underlying3 (hval 0 3 v0 rfl rfl) h0
  obtain ⟨a1, rfl, rfl, rfl, w1⟩ := open_int Tryd.underlying5 (hval 1 5 v1 rfl rfl) h1
  obtain ⟨a2, rfl, rfl, rfl, y2⟩ := open_string Tryd.underlying9 (hval 2 9 v2 rfl rfl) h2
  have w2 : a2.size ≤ 140737488351232 := by
    have z := sized_string hsz (j := 2) (t := 9) rfl rfl
    rw [Array.length_toList] at z
    exact z
  clear hA0 hval0 hsz0 hsz
  refine (XN.hand_NumeralMonths a0 a1 a2 W hGL w0 w1 w2).mono fun e W' ⟨he, bel⟩ => ?_
  subst he
  exact ⟨_, rfl, _, _, _, [], _, [], hW', trodAll_mk1 (shut_bool Tryd.underlying4 _), (trodAll_cons_mk (shut_int Tryd.underlying3 w0) (trodAll_cons_mk (shut_int Tryd.underlying5 w1) (trodAll_cons_mk (shut_string Tryd.underlying9 y2) trodAll_mk0))), rfl, bel.frame _, fun h => by cases h⟩
set_option maxRecDepth 100000 in
theorem lifted (os : Os) (started : os.Started) (H : Type) (enc : TypeId × Value → H) (F : Stop.Interp) :
    ReturnsInHanded {} Tryd.checked os 11 .any ((OpenSpec.ofChange Rows.numeralMonthsSpec).preRow enc Tryd.prog Tryd.f11 Rows.numeralMonthsRow.domain false Rows.numeralMonthsRow.laid) (((OpenSpec.ofChange Rows.numeralMonthsSpec).at F).post enc Tryd.prog Tryd.f11 false true false false) := by
  have hx : ∃ places, DataW.whole enc Tryd.prog ((World.laidAll Tryd.prog os Rows.numeralMonthsRow.laid).forCall (fun _ _ => 0) ⟨#[], #[.int .i64 0, .int .u8 0, .string ⟨#[]⟩], []⟩).memory Tryd.f11.params.toList Rows.numeralMonthsSpec.vars false (#[.int .i64 0, .int .u8 0, .string ⟨#[]⟩] : Array Value).toList 8 = some ([.lit (.int .i64 0), .lit (.int .u8 0), .lit (.string [])], [], places) :=
    ⟨[], by kernel_rfl⟩
  obtain ⟨places, hx⟩ := hx
  refine returnsInHanded_of_row (C := Tryd.checked) (s := (OpenSpec.ofChange Rows.numeralMonthsSpec)) own started (by kernel_rfl) Tryd.func11
    (witness_row_at (enc := enc) (C := Tryd.checked) false (World.laidAll Tryd.prog os Rows.numeralMonthsRow.laid) #[.int .i64 0, .int .u8 0, .string ⟨#[]⟩] (World.laidAll_os _ _ _) (by kernel_rfl) (by kernel_rfl) (by kernel_rfl)
      (OpenSpec.preRow_of_cond 8 hx (by kernel_rfl) (fun k hk => by cases hk) (by kernel_rfl) (laidMet_laidAll _ (by kernel_rfl) (by kernel_rfl)))) ?_
  intro W base args ds gs before hval hW _ _ hsz hL hS _
  exact contract H enc W args ds gs before base hval hW hsz hL hS
theorem said : Rows.NumeralMonthsSaid :=
  OpenClaim.holds_of_cond 11 Tryd.f11 rfl rfl rfl rfl rfl rfl rfl ⟨rfl, rfl, rfl, rfl, rfl⟩ rfl rfl rfl rfl rfl (by kernel_rfl) Tryd.func11 (by kernel_rfl)
    (of_decide_eq_true (by kernel_rfl)) (by unfold Func.isWrapper; first | (rw [if_pos (by decide +kernel)]; kernel_rfl) | (rw [if_neg (by decide +kernel)]; exact ⟨rfl, rfl⟩))
    (fun os started H enc _ F => by rw [OpenClaim.pre_eq_preRow]; exact lifted os started H enc F)
theorem plain (f : FuncId) (fn : Func) (hf : Tryd.pinned.checked.prog.funcNamed "mill/milllaw3.NumeralMonths" = some f) (hfn : Tryd.pinned.checked.prog.funcs[f]? = some fn) :
    false = Tryd.pinned.checked.prog.looks [] ∧ ∀ (j : Nat) t, fn.params[j]? = some t → Tryd.pinned.checked.prog.wantsStandIn t = false := by
  obtain rfl : f = 11 := Option.some.inj ((show Tryd.prog.funcNamed "mill/milllaw3.NumeralMonths" = some 11 by kernel_rfl).symm.trans hf) |>.symm
  obtain rfl : fn = Tryd.f11 := (Option.some.inj (Tryd.func11.symm.trans hfn)).symm
  refine ⟨by kernel_rfl, fun j t ht => ?_⟩
  rw [Tryd.params11] at ht
  have hm := Array.mem_of_getElem? ht
  simp only [List.mem_toArray, List.mem_cons, List.not_mem_nil, or_false] at hm
  rcases hm with rfl | rfl | rfl
  · exact (show Tryd.prog.wantsStandIn 3 = false by kernel_rfl)
  · exact (show Tryd.prog.wantsStandIn 5 = false by kernel_rfl)
  · exact (show Tryd.prog.wantsStandIn 9 = false by kernel_rfl)
theorem card : Rows.NumeralMonthsCardSaid :=
  Claim7.holds_tied_plain_at .later [] _ _ _ _ said (fun _ h => by cases h) (by kernel_rfl) (fun _ h => by cases h) numeralMonths_row_tie rfl ⟨rfl, rfl⟩ (by kernel_rfl) rfl plain (by kernel_rfl)
#print axioms card
end Go.Proofs.YtcdajedmlfhmeaaDoor.numeralMonths
namespace Go.Proofs.YtcdajedmlfhmeaaDoor
/-- The card, under a short name, for the claim. -/
theorem numeralMonths_card : Rows.NumeralMonthsCardSaid := numeralMonths.card
end Go.Proofs.YtcdajedmlfhmeaaDoor
end
