/- The card of NumeralDecimals: the law answers true at every input. Conditions: none beyond the row's own. -/
import Derived.Test.YtcdajedmlfhmeaaDoorZND0
import Derived.Test.YtcdajedmlfhmeaaDoorZND3
import Derived.Test.YtcdajedmlfhmeaaDoorZND2
import Derived.Test.YtcdajedmlfhmeaaDoorZND1
import Derived.Lib.Strings
import Derived.Lib.LazyBuf
import Derived.IntWalk
import Derived.Test.YtcdajedmlfhmeaaDoorCards
import Derived.Test.YtcdajedmlfhmeaaDoorTie
import Derived.WalkKit
import Derived.ProofKit
import Derived.OpenShut
import Derived.ShutString
import Derived.ChangeOld
import Derived.Below
import Derived.SizedLaws
import Derived.Deep.DeepHandedRow
import Derived.Lib.LaidTab
import Derived.Lay
import Derived.MakeChecks
import Derived.LaidSub
namespace Go.Proofs.YtcdajedmlfhmeaaDoor.XN
open Go.RowKit Go.Proofs.YtcdajedmlfhmeaaDoorW.PrintWords Go.Proofs.YtcdajedmlfhmeaaDoorW.PrintLast Go.Proofs.YtcdajedmlfhmeaaDoorW.PrintMore
attribute [local go_sem] max2_int min2_int max_two min_two max_three min_three max_four min_four
set_option linter.unusedVariables false
set_option linter.unusedSimpArgs false

/-! ### numeral_versions: function 52 -/
mutual
def numeral_versions.l0 : Nat → ByteArray → ByteArray → Option (Int)
 | 0, _, _ => none
 | k + 1, x0, x1 => if x0.toList = ([] : List UInt8) then (numeral_versions.j1 k x0 x1 (!x1.toList.isEmpty)) else (numeral_versions.j1 k x0 x1 true)
def numeral_versions.j1 : Nat → ByteArray → ByteArray → Bool → Option (Int)
 | 0, _, _, _ => none
 | k + 1, x0, x1, x17 => if x17 = true then ((numeral_pair.f k x0).bind fun bt280 => ((numeral_pair.f k x1).bind fun bt283 => ((numeral_words.f k bt280.1 bt283.1).bind fun t286 => ((numeral_runs.f k bt280.2.1 bt283.2.1).bind fun t287 => ((cmp_Or_int.f k (([t286, t287] : List Int))).bind fun t291 => (if t291 = 0 then (numeral_versions.l0 k bt280.2.2 bt283.2.2) else (some t291))))))) else (some 0)
end
def numeral_versions.f (k : Nat) (a0 : ByteArray) (a1 : ByteArray) : Option (Int) := numeral_versions.l0 k a0 a1
set_option maxHeartbeats 8000000 in
set_option maxRecDepth 100000 in
theorem numeral_versions.calls (k : Nat) (a0 : ByteArray) (a1 : ByteArray) (r : Int) (w : World) (hGL : GOK w) (h : numeral_versions.f k a0 a1 = some r) :
  Calls Tryd.prog 52 #[.string a0, .string a1] w fun e w' => e = .returned (.int .i64 r) ∧ Below w.heap.size w w' := by
 have HGL := Aside0.mk hGL
 clear hGL
 have HB := Aside0.mk (Below.refl w.heap.size w)
 have H : (numeral_versions.l0 k a0 a1) = some r := h
 clear h
 have H' := Aside0.mk H
 clear H
 go_enter Tryd.func52, Tryd.ntmps52
 go_wp2
 go_loopg [0, 1] k (fun kq v0 v1 w' => ∃ (x0_1 : ByteArray) (x1_1 : ByteArray), v0 = .string x0_1 ∧ v1 = .string x1_1 ∧ Aside0 (numeral_versions.l0 kq x0_1 x1_1 = some r) ∧ Aside0 (kq ≤ k) ∧ Aside0 (Below w.heap.size w w'))
 case atStart => exact ⟨(a0), (a1), qnd2_, qnd2_, H', ⟨Nat.le_refl _⟩, ⟨qnd1_⟩⟩
 case round =>
  clear H'
  (try clear p2)
  obtain ⟨x0_1, x1_1, rfl, rfl, HA, HK1, HB⟩ := hrel
  cases gk with
  | zero => exact absurd HA.out (by simp [numeral_versions.l0])
  | succ k1 =>
   have H := HA.out
   clear HA
   simp only [numeral_versions.l0] at H
   have HC3 := Aside0.mk H
   clear H
   go_upto_region 1 with (fail)
   go_cut [17] (fun v17 wc => ∃ (kq : Nat) (x17_2 : Bool), v17 = .bool x17_2 ∧ Aside0 (numeral_versions.j1 kq x0_1 x1_1 x17_2 = some r) ∧ Aside0 (kq ≤ k1) ∧ Aside0 (Below w.heap.size w wc))
   case first =>
    have H := HC3.out
    clear HC3
    by_cases c4 : x0_1.toList = ([] : List UInt8)
    ·
     rw [if_pos c4] at H
     have c4b0 : (x0_1.toList == ([] : List UInt8)) = true := beq_iff_eq.mpr c4
     have c4b1 : (x0_1.toList != ([] : List UInt8)) = false := bne_eq_false_iff_eq.mpr c4
     clear c4
     (first | rw [c4b0] | (simp only [i64_w, i32_w]; rw [c4b0]) | skip)
     have H' := Aside0.mk H
     clear H
     go_wp2
     go_meet
     case rel => exact ⟨_, ((!x1_1.toList.isEmpty)), qnd2_, H', ⟨by have := HK1.out; first | omega | exact Nat.le_refl _⟩, ⟨qnd1_⟩⟩
    ·
     rw [if_neg c4] at H
     have c4b0 : (x0_1.toList == ([] : List UInt8)) = false := beq_eq_false_iff_ne.mpr c4
     have c4b1 : (x0_1.toList != ([] : List UInt8)) = true := bne_iff_ne.mpr c4
     (first | rw [c4b0] | (simp only [i64_w, i32_w]; rw [c4b0]) | skip)
     have H' := Aside0.mk H
     clear H
     go_wp2
     go_meet
     case rel => exact ⟨_, (true), qnd2_, H', ⟨by have := HK1.out; first | omega | exact Nat.le_refl _⟩, ⟨qnd1_⟩⟩
   case rest =>
    clear HC3
    (try clear p2); (try clear c4); (try clear c4b0); (try clear c4b1); (try clear p2)
    obtain ⟨kq, x17_2, rfl, HA, HJ2, HB⟩ := hcut
    cases kq with
    | zero => exact absurd HA.out (by simp [numeral_versions.j1])
    | succ kj2 =>
     have H := HA.out
     clear HA
     simp only [numeral_versions.j1] at H
     by_cases c5 : x17_2 = true
     ·
      subst c5
      have H1 : ((numeral_pair.f kj2 x0_1).bind fun bt280 => ((numeral_pair.f kj2 x1_1).bind fun bt283 => ((numeral_words.f kj2 bt280.1 bt283.1).bind fun t286 => ((numeral_runs.f kj2 bt280.2.1 bt283.2.1).bind fun t287 => ((cmp_Or_int.f kj2 (([t286, t287] : List Int))).bind fun t291 => (if t291 = 0 then (numeral_versions.l0 kj2 bt280.2.2 bt283.2.2) else (some t291))))))) = some r := by rw [if_pos rfl] at H; exact H
      clear H
      have H := H1
      clear H1
      replace H := Option.bind_eq_some_iff.mp H
      obtain ⟨⟨t280, t281, t282⟩, A60, H⟩ := H
      replace H : ((numeral_pair.f kj2 x1_1).bind fun bt283 => ((numeral_words.f kj2 t280 bt283.1).bind fun t286 => ((numeral_runs.f kj2 t281 bt283.2.1).bind fun t287 => ((cmp_Or_int.f kj2 (([t286, t287] : List Int))).bind fun t291 => (if t291 = 0 then (numeral_versions.l0 kj2 t282 bt283.2.2) else (some t291)))))) = some r := H
      have A6 := Aside0.mk A60
      clear A60
      replace H := Option.bind_eq_some_iff.mp H
      obtain ⟨⟨t283, t284, t285⟩, A70, H⟩ := H
      replace H : ((numeral_words.f kj2 t280 t283).bind fun t286 => ((numeral_runs.f kj2 t281 t284).bind fun t287 => ((cmp_Or_int.f kj2 (([t286, t287] : List Int))).bind fun t291 => (if t291 = 0 then (numeral_versions.l0 kj2 t282 t285) else (some t291))))) = some r := H
      have A7 := Aside0.mk A70
      clear A70
      replace H := Option.bind_eq_some_iff.mp H
      obtain ⟨t286, A80, H⟩ := H
      replace H : ((numeral_runs.f kj2 t281 t284).bind fun t287 => ((cmp_Or_int.f kj2 (([t286, t287] : List Int))).bind fun t291 => (if t291 = 0 then (numeral_versions.l0 kj2 t282 t285) else (some t291)))) = some r := H
      have A8 := Aside0.mk A80
      clear A80
      replace H := Option.bind_eq_some_iff.mp H
      obtain ⟨t287, A90, H⟩ := H
      replace H : ((cmp_Or_int.f kj2 (([t286, t287] : List Int))).bind fun t291 => (if t291 = 0 then (numeral_versions.l0 kj2 t282 t285) else (some t291))) = some r := H
      have A9 := Aside0.mk A90
      clear A90
      obtain ⟨y288, hy288⟩ : ∃ y_ : List Int, y_ = (([t286, t287] : List Int)) := ⟨_, rfl⟩
      replace H : ((cmp_Or_int.f kj2 y288).bind fun t291 => (if t291 = 0 then (numeral_versions.l0 kj2 t282 t285) else (some t291))) = some r := by first | (rw [hy288]; with_reducible exact H) | (have H2_ := (Option.bind_some _ _).symm.trans H; rw [hy288]; with_reducible exact H2_) | (have H2_ := (Option.bind_some _ _).symm.trans H; with_reducible exact H2_) | with_reducible exact H | (rw [hy288]; exact H) | exact H
      have Ny288 := Aside0.mk hy288
      clear hy288
      replace H := Option.bind_eq_some_iff.mp H
      obtain ⟨t291, A100, H⟩ := H
      replace H : (if t291 = 0 then (numeral_versions.l0 kj2 t282 t285) else (some t291)) = some r := H
      have A10 := Aside0.mk A100
      clear A100
      by_cases c11 : t291 = 0
      ·
       rw [if_pos c11] at H
       have c11b0 : (t291 == 0) = true := beq_iff_eq.mpr c11
       have c11b1 : (t291 != 0) = false := bne_eq_false_iff_eq.mpr c11
       clear c11
       have H' := Aside0.mk H
       clear H
       have tk17 : True := trivial; have tk18 : True := trivial; have tk19 : True := trivial; have tk20 : True := trivial; have tk21 : True := trivial; have tk22 : True := trivial
       go_wp2_with (first | (have ztk17 := tk17; clear tk17 ztk17; (with_reducible refine gate_callee (f := 74) rfl ?_); refine goesL_ (some 20) rfl rfl Tryd.func74 (by kernel_rfl) rfl #[.string x0_1] rfl qnd0_ ?_; (with_reducible refine (numeral_pair.calls kj2 x0_1 t280 t281 t282 _ A6.out).mono ?_); rintro e w' ⟨rfl, ⟨nd, rfl⟩⟩; refine ⟨_, rfl, ?_⟩) | (have ztk18 := tk18; clear tk18 ztk18; (with_reducible refine gate_callee (f := 74) rfl ?_); refine goesL_ (some 26) rfl rfl Tryd.func74 (by kernel_rfl) rfl #[.string x1_1] rfl qnd0_ ?_; (with_reducible refine (numeral_pair.calls kj2 x1_1 t283 t284 t285 _ A7.out).mono ?_); rintro e w' ⟨rfl, ⟨nd, rfl⟩⟩; refine ⟨_, rfl, ?_⟩) | (have ztk19 := tk19; clear tk19 ztk19; (with_reducible refine gate_callee (f := 75) rfl ?_); refine goesL_ (some 32) rfl rfl Tryd.func75 (by kernel_rfl) rfl #[.string t280, .string t283] rfl qnd0_ ?_; (with_reducible refine (numeral_words.calls kj2 t280 t283 t286 _ ?side1 A8.out).mono ?_); (case side1 => exact GOK.below HGL.out qnd1_); rintro e w12 ⟨rfl, hb⟩; refine ⟨_, rfl, ?_⟩; have n0_ := Aside0.mk (below_step qnd1_ hb); clear HB; have HB := n0_; clear n0_; (try clear hb); (try clear hb2); (try clear hk); (try clear hi)) | (have ztk20 := tk20; clear tk20 ztk20; (with_reducible refine gate_callee (f := 76) rfl ?_); refine goesL_ (some 35) rfl rfl Tryd.func76 (by kernel_rfl) rfl #[.string t281, .string t284] rfl qnd0_ ?_; (with_reducible refine (numeral_runs.calls kj2 t281 t284 t287 _ A9.out).mono ?_); rintro e w13 ⟨rfl, hb⟩; refine ⟨_, rfl, ?_⟩; have n0_ := Aside0.mk (below_step qnd1_ hb); clear HB; have HB := n0_; clear n0_; (try clear hb); (try clear hb2); (try clear hk); (try clear hi)) | (have ztk21 := tk21; clear tk21 ztk21; (with_reducible refine gate_dst (N := 36) rfl ?_); refine Kd.R_lit (Kd.int .i64) _ 3 ?hg (N := 36) ?hd (xs := ([t286, t287] : List Int)) (inner := [.int .i64 t286, .int .i64 t287]) (ok := fun _ => True) (okp := fun _ => True) ?hr ?hp (fun _ hk => hk) trivial (Below.refl _ _) (Nat.le_refl _) (by simp) ?_; (case hd => rfl); (case hg => rfl); (case hr => first | (go_simp; done) | (go_simp; rfl)); (case hp => exact (Reps.one (show Kd.M (Kd.int .i64) _ _ _ t286 [.int .i64 t286] from rfl) (Reps.one (show Kd.M (Kd.int .i64) _ _ _ t287 [.int .i64 t287] from rfl) (Reps.none _ _)))); intro v289 w14 ho15 hb hg_ hnew_; clear hg_ hnew_; (first | rw [← Ny288.out] at ho15 | (simp only [Int.reduceToNat] at ho15; rw [← Ny288.out] at ho15)); have n0_ := Aside0.mk (Kd.R_lower ho15 (below_size qnd1_)); have n1_ := Aside0.mk (below_step qnd1_ hb); clear HB; have HO290 := n0_; have HB := n1_; clear n0_ n1_; clear hb ho15; obtain ⟨Ao16, co16, eo16⟩ := Kd.R_slice HO290.out; subst eo16) | (have ztk22 := tk22; clear tk22 ztk22; (with_reducible refine gate_callee (f := 72) rfl ?_); refine goesL_ (some 37) rfl rfl Tryd.func72 (by kernel_rfl) rfl #[.slice Ao16 y288.length co16] rfl qnd0_ ?_; (with_reducible refine (cmp_Or_int.calls kj2 _ _ y288 t291 _ ?side1 ?side2 A10.out).mono ?_); (case side1 => repeat (first | exact (Kd.R_reads' HO290.out).2.2 | (with_reducible refine Kd.C_alloc ?_ _) | (with_reducible refine Kd.C_drewN ?_ _) | (with_reducible refine Kd.C_drew ?_))); (case side2 => exact (Kd.R_reads' HO290.out).2.1); rintro e w' ⟨rfl, ⟨nd, rfl⟩⟩; refine ⟨_, rfl, ?_⟩))
       go_roundg kj2
       case measure => have := HK1.out; have := HJ2.out; omega
       case rel => exact ⟨(t282), (t285), qnd2_, qnd2_, H', ⟨by have := HK1.out; have := HJ2.out; omega⟩, ⟨qnd1_⟩⟩
      ·
       rw [if_neg c11] at H
       have c11b0 : (t291 == 0) = false := beq_eq_false_iff_ne.mpr c11
       have c11b1 : (t291 != 0) = true := bne_iff_ne.mpr c11
       obtain rfl := Option.some.inj H
       have tk28 : True := trivial; have tk29 : True := trivial; have tk30 : True := trivial; have tk31 : True := trivial; have tk32 : True := trivial; have tk33 : True := trivial
       go_wp2_with (first | (have ztk28 := tk28; clear tk28 ztk28; (with_reducible refine gate_callee (f := 74) rfl ?_); refine goesL_ (some 20) rfl rfl Tryd.func74 (by kernel_rfl) rfl #[.string x0_1] rfl qnd0_ ?_; (with_reducible refine (numeral_pair.calls kj2 x0_1 t280 t281 t282 _ A6.out).mono ?_); rintro e w' ⟨rfl, ⟨nd, rfl⟩⟩; refine ⟨_, rfl, ?_⟩) | (have ztk29 := tk29; clear tk29 ztk29; (with_reducible refine gate_callee (f := 74) rfl ?_); refine goesL_ (some 26) rfl rfl Tryd.func74 (by kernel_rfl) rfl #[.string x1_1] rfl qnd0_ ?_; (with_reducible refine (numeral_pair.calls kj2 x1_1 t283 t284 t285 _ A7.out).mono ?_); rintro e w' ⟨rfl, ⟨nd, rfl⟩⟩; refine ⟨_, rfl, ?_⟩) | (have ztk30 := tk30; clear tk30 ztk30; (with_reducible refine gate_callee (f := 75) rfl ?_); refine goesL_ (some 32) rfl rfl Tryd.func75 (by kernel_rfl) rfl #[.string t280, .string t283] rfl qnd0_ ?_; (with_reducible refine (numeral_words.calls kj2 t280 t283 t286 _ ?side1 A8.out).mono ?_); (case side1 => exact GOK.below HGL.out qnd1_); rintro e w23 ⟨rfl, hb⟩; refine ⟨_, rfl, ?_⟩; have n0_ := Aside0.mk (below_step qnd1_ hb); clear HB; have HB := n0_; clear n0_; (try clear hb); (try clear hb2); (try clear hk); (try clear hi)) | (have ztk31 := tk31; clear tk31 ztk31; (with_reducible refine gate_callee (f := 76) rfl ?_); refine goesL_ (some 35) rfl rfl Tryd.func76 (by kernel_rfl) rfl #[.string t281, .string t284] rfl qnd0_ ?_; (with_reducible refine (numeral_runs.calls kj2 t281 t284 t287 _ A9.out).mono ?_); rintro e w24 ⟨rfl, hb⟩; refine ⟨_, rfl, ?_⟩; have n0_ := Aside0.mk (below_step qnd1_ hb); clear HB; have HB := n0_; clear n0_; (try clear hb); (try clear hb2); (try clear hk); (try clear hi)) | (have ztk32 := tk32; clear tk32 ztk32; (with_reducible refine gate_dst (N := 36) rfl ?_); refine Kd.R_lit (Kd.int .i64) _ 3 ?hg (N := 36) ?hd (xs := ([t286, t287] : List Int)) (inner := [.int .i64 t286, .int .i64 t287]) (ok := fun _ => True) (okp := fun _ => True) ?hr ?hp (fun _ hk => hk) trivial (Below.refl _ _) (Nat.le_refl _) (by simp) ?_; (case hd => rfl); (case hg => rfl); (case hr => first | (go_simp; done) | (go_simp; rfl)); (case hp => exact (Reps.one (show Kd.M (Kd.int .i64) _ _ _ t286 [.int .i64 t286] from rfl) (Reps.one (show Kd.M (Kd.int .i64) _ _ _ t287 [.int .i64 t287] from rfl) (Reps.none _ _)))); intro v289 w25 ho26 hb hg_ hnew_; clear hg_ hnew_; (first | rw [← Ny288.out] at ho26 | (simp only [Int.reduceToNat] at ho26; rw [← Ny288.out] at ho26)); have n0_ := Aside0.mk (Kd.R_lower ho26 (below_size qnd1_)); have n1_ := Aside0.mk (below_step qnd1_ hb); clear HB; have HO290 := n0_; have HB := n1_; clear n0_ n1_; clear hb ho26; obtain ⟨Ao27, co27, eo27⟩ := Kd.R_slice HO290.out; subst eo27) | (have ztk33 := tk33; clear tk33 ztk33; (with_reducible refine gate_callee (f := 72) rfl ?_); refine goesL_ (some 37) rfl rfl Tryd.func72 (by kernel_rfl) rfl #[.slice Ao27 y288.length co27] rfl qnd0_ ?_; (with_reducible refine (cmp_Or_int.calls kj2 _ _ y288 t291 _ ?side1 ?side2 A10.out).mono ?_); (case side1 => repeat (first | exact (Kd.R_reads' HO290.out).2.2 | (with_reducible refine Kd.C_alloc ?_ _) | (with_reducible refine Kd.C_drewN ?_ _) | (with_reducible refine Kd.C_drew ?_))); (case side2 => exact (Kd.R_reads' HO290.out).2.1); rintro e w' ⟨rfl, ⟨nd, rfl⟩⟩; refine ⟨_, rfl, ?_⟩))
       go_ret
       exact ⟨qnd5_, qnd1_⟩
     ·
      replace c5 := Bool.eq_false_iff.mpr c5
      subst c5
      have H1 : (some 0) = some r := by rw [if_neg (show ¬ (false = true) by decide)] at H; exact H
      clear H
      have H := H1
      clear H1
      obtain rfl := Option.some.inj H
      go_wp2
      go_ret
      exact ⟨qnd5_, qnd1_⟩


/-! ### api_Class_77: function 77 -/
def api_Class_77.f (a0 : Int) : Option (Bool) := some (a0 != a0)
set_option maxHeartbeats 8000000 in
set_option maxRecDepth 100000 in
theorem api_Class_77.calls (a0 : Int) (r : Bool) (w : World) (h : api_Class_77.f a0 = some r) :
  Calls Tryd.prog 77 #[.int .u8 a0] w fun e w' => e = .returned (.bool r) ∧ Drawn0 w w' := by
 have H : (some (a0 != a0)) = some r := h
 clear h
 obtain rfl := Option.some.inj H
 go_enter Tryd.func77, Tryd.ntmps77
 go_wp2
 go_ret
 exact ⟨qnd2_, qnd9_⟩


/-! ### api_Class_53: function 53 -/
def api_Class_53.f (a0 : Int) (a1 : Int) : Option (Int) := (api_Class_77.f a0).bind fun t292 => ((api_Class_77.f a1).bind fun t293 => (if t292 = true then (if t293 = true then (some 0) else (some (-1))) else (if t293 = true then (some 1) else (if a0 < a1 then (some (-1)) else (if a0 > a1 then (some 1) else (some 0))))))
set_option maxHeartbeats 8000000 in
set_option maxRecDepth 100000 in
theorem api_Class_53.calls (a0 : Int) (a1 : Int) (r : Int) (w : World) (h : api_Class_53.f a0 a1 = some r) :
  Calls Tryd.prog 53 #[.int .u8 a0, .int .u8 a1] w fun e w' => e = .returned (.int .i64 r) ∧ Drawn0 w w' := by
 have H : ((api_Class_77.f a0).bind fun t292 => ((api_Class_77.f a1).bind fun t293 => (if t292 = true then (if t293 = true then (some 0) else (some (-1))) else (if t293 = true then (some 1) else (if a0 < a1 then (some (-1)) else (if a0 > a1 then (some 1) else (some 0))))))) = some r := h
 clear h
 replace H := Option.bind_eq_some_iff.mp H
 obtain ⟨t292, A30, H⟩ := H
 replace H : ((api_Class_77.f a1).bind fun t293 => (if t292 = true then (if t293 = true then (some 0) else (some (-1))) else (if t293 = true then (some 1) else (if a0 < a1 then (some (-1)) else (if a0 > a1 then (some 1) else (some 0)))))) = some r := H
 have A3 := Aside0.mk A30
 clear A30
 replace H := Option.bind_eq_some_iff.mp H
 obtain ⟨t293, A40, H⟩ := H
 replace H : (if t292 = true then (if t293 = true then (some 0) else (some (-1))) else (if t293 = true then (some 1) else (if a0 < a1 then (some (-1)) else (if a0 > a1 then (some 1) else (some 0))))) = some r := H
 have A4 := Aside0.mk A40
 clear A40
 by_cases c5 : t292 = true
 ·
  subst c5
  have H1 : (if t293 = true then (some 0) else (some (-1))) = some r := by rw [if_pos rfl] at H; exact H
  clear H
  have H := H1
  clear H1
  by_cases c6 : t293 = true
  ·
   subst c6
   have H1 : (some 0) = some r := by rw [if_pos rfl] at H; exact H
   clear H
   have H := H1
   clear H1
   obtain rfl := Option.some.inj H
   go_enter Tryd.func53, Tryd.ntmps53
   have tk7 : True := trivial; have tk8 : True := trivial
   go_wp2_with (first | (have ztk7 := tk7; clear tk7 ztk7; (with_reducible refine gate_callee (f := 77) rfl ?_); refine goesL_ (some 8) rfl rfl Tryd.func77 (by kernel_rfl) rfl #[.int .u8 a0] rfl qnd0_ ?_; (with_reducible refine (api_Class_77.calls a0 true _ A3.out).mono ?_); rintro e w' ⟨rfl, ⟨nd, rfl⟩⟩; refine ⟨_, rfl, ?_⟩) | (have ztk8 := tk8; clear tk8 ztk8; (with_reducible refine gate_callee (f := 77) rfl ?_); refine goesL_ (some 10) rfl rfl Tryd.func77 (by kernel_rfl) rfl #[.int .u8 a1] rfl qnd0_ ?_; (with_reducible refine (api_Class_77.calls a1 true _ A4.out).mono ?_); rintro e w' ⟨rfl, ⟨nd, rfl⟩⟩; refine ⟨_, rfl, ?_⟩))
   go_ret
   exact ⟨qnd2_, qnd9_⟩
  ·
   replace c6 := Bool.eq_false_iff.mpr c6
   subst c6
   have H1 : (some (-1)) = some r := by rw [if_neg (show ¬ (false = true) by decide)] at H; exact H
   clear H
   have H := H1
   clear H1
   obtain rfl := Option.some.inj H
   go_enter Tryd.func53, Tryd.ntmps53
   have tk9 : True := trivial; have tk10 : True := trivial
   go_wp2_with (first | (have ztk9 := tk9; clear tk9 ztk9; (with_reducible refine gate_callee (f := 77) rfl ?_); refine goesL_ (some 8) rfl rfl Tryd.func77 (by kernel_rfl) rfl #[.int .u8 a0] rfl qnd0_ ?_; (with_reducible refine (api_Class_77.calls a0 true _ A3.out).mono ?_); rintro e w' ⟨rfl, ⟨nd, rfl⟩⟩; refine ⟨_, rfl, ?_⟩) | (have ztk10 := tk10; clear tk10 ztk10; (with_reducible refine gate_callee (f := 77) rfl ?_); refine goesL_ (some 10) rfl rfl Tryd.func77 (by kernel_rfl) rfl #[.int .u8 a1] rfl qnd0_ ?_; (with_reducible refine (api_Class_77.calls a1 false _ A4.out).mono ?_); rintro e w' ⟨rfl, ⟨nd, rfl⟩⟩; refine ⟨_, rfl, ?_⟩))
   go_ret
   exact ⟨qnd2_, qnd9_⟩
 ·
  replace c5 := Bool.eq_false_iff.mpr c5
  subst c5
  have H1 : (if t293 = true then (some 1) else (if a0 < a1 then (some (-1)) else (if a0 > a1 then (some 1) else (some 0)))) = some r := by rw [if_neg (show ¬ (false = true) by decide)] at H; exact H
  clear H
  have H := H1
  clear H1
  by_cases c11 : t293 = true
  ·
   subst c11
   have H1 : (some 1) = some r := by rw [if_pos rfl] at H; exact H
   clear H
   have H := H1
   clear H1
   obtain rfl := Option.some.inj H
   go_enter Tryd.func53, Tryd.ntmps53
   have tk12 : True := trivial; have tk13 : True := trivial
   go_wp2_with (first | (have ztk12 := tk12; clear tk12 ztk12; (with_reducible refine gate_callee (f := 77) rfl ?_); refine goesL_ (some 8) rfl rfl Tryd.func77 (by kernel_rfl) rfl #[.int .u8 a0] rfl qnd0_ ?_; (with_reducible refine (api_Class_77.calls a0 false _ A3.out).mono ?_); rintro e w' ⟨rfl, ⟨nd, rfl⟩⟩; refine ⟨_, rfl, ?_⟩) | (have ztk13 := tk13; clear tk13 ztk13; (with_reducible refine gate_callee (f := 77) rfl ?_); refine goesL_ (some 10) rfl rfl Tryd.func77 (by kernel_rfl) rfl #[.int .u8 a1] rfl qnd0_ ?_; (with_reducible refine (api_Class_77.calls a1 true _ A4.out).mono ?_); rintro e w' ⟨rfl, ⟨nd, rfl⟩⟩; refine ⟨_, rfl, ?_⟩))
   go_ret
   exact ⟨qnd2_, qnd9_⟩
  ·
   replace c11 := Bool.eq_false_iff.mpr c11
   subst c11
   have H1 : (if a0 < a1 then (some (-1)) else (if a0 > a1 then (some 1) else (some 0))) = some r := by rw [if_neg (show ¬ (false = true) by decide)] at H; exact H
   clear H
   have H := H1
   clear H1
   by_cases c14 : a0 < a1
   ·
    rw [if_pos c14] at H
    have c14b0 : decide (a0 < a1) = true := decide_eq_true c14
    clear c14
    obtain rfl := Option.some.inj H
    go_enter Tryd.func53, Tryd.ntmps53
    have tk15 : True := trivial; have tk16 : True := trivial
    go_wp2_with (first | (have ztk15 := tk15; clear tk15 ztk15; (with_reducible refine gate_callee (f := 77) rfl ?_); refine goesL_ (some 8) rfl rfl Tryd.func77 (by kernel_rfl) rfl #[.int .u8 a0] rfl qnd0_ ?_; (with_reducible refine (api_Class_77.calls a0 false _ A3.out).mono ?_); rintro e w' ⟨rfl, ⟨nd, rfl⟩⟩; refine ⟨_, rfl, ?_⟩) | (have ztk16 := tk16; clear tk16 ztk16; (with_reducible refine gate_callee (f := 77) rfl ?_); refine goesL_ (some 10) rfl rfl Tryd.func77 (by kernel_rfl) rfl #[.int .u8 a1] rfl qnd0_ ?_; (with_reducible refine (api_Class_77.calls a1 false _ A4.out).mono ?_); rintro e w' ⟨rfl, ⟨nd, rfl⟩⟩; refine ⟨_, rfl, ?_⟩))
    go_ret
    exact ⟨qnd2_, qnd9_⟩
   ·
    rw [if_neg c14] at H
    have c14b0 : decide (a0 < a1) = false := decide_eq_false c14
    clear c14
    by_cases c17 : a0 > a1
    ·
     rw [if_pos c17] at H
     have c17b0 : decide (a1 < a0) = true := decide_eq_true c17
     clear c17
     obtain rfl := Option.some.inj H
     go_enter Tryd.func53, Tryd.ntmps53
     have tk18 : True := trivial; have tk19 : True := trivial
     go_wp2_with (first | (have ztk18 := tk18; clear tk18 ztk18; (with_reducible refine gate_callee (f := 77) rfl ?_); refine goesL_ (some 8) rfl rfl Tryd.func77 (by kernel_rfl) rfl #[.int .u8 a0] rfl qnd0_ ?_; (with_reducible refine (api_Class_77.calls a0 false _ A3.out).mono ?_); rintro e w' ⟨rfl, ⟨nd, rfl⟩⟩; refine ⟨_, rfl, ?_⟩) | (have ztk19 := tk19; clear tk19 ztk19; (with_reducible refine gate_callee (f := 77) rfl ?_); refine goesL_ (some 10) rfl rfl Tryd.func77 (by kernel_rfl) rfl #[.int .u8 a1] rfl qnd0_ ?_; (with_reducible refine (api_Class_77.calls a1 false _ A4.out).mono ?_); rintro e w' ⟨rfl, ⟨nd, rfl⟩⟩; refine ⟨_, rfl, ?_⟩))
     go_ret
     exact ⟨qnd2_, qnd9_⟩
    ·
     rw [if_neg c17] at H
     have c17b0 : decide (a1 < a0) = false := decide_eq_false c17
     clear c17
     obtain rfl := Option.some.inj H
     go_enter Tryd.func53, Tryd.ntmps53
     have tk20 : True := trivial; have tk21 : True := trivial
     go_wp2_with (first | (have ztk20 := tk20; clear tk20 ztk20; (with_reducible refine gate_callee (f := 77) rfl ?_); refine goesL_ (some 8) rfl rfl Tryd.func77 (by kernel_rfl) rfl #[.int .u8 a0] rfl qnd0_ ?_; (with_reducible refine (api_Class_77.calls a0 false _ A3.out).mono ?_); rintro e w' ⟨rfl, ⟨nd, rfl⟩⟩; refine ⟨_, rfl, ?_⟩) | (have ztk21 := tk21; clear tk21 ztk21; (with_reducible refine gate_callee (f := 77) rfl ?_); refine goesL_ (some 10) rfl rfl Tryd.func77 (by kernel_rfl) rfl #[.int .u8 a1] rfl qnd0_ ?_; (with_reducible refine (api_Class_77.calls a1 false _ A4.out).mono ?_); rintro e w' ⟨rfl, ⟨nd, rfl⟩⟩; refine ⟨_, rfl, ?_⟩))
     go_ret
     exact ⟨qnd2_, qnd9_⟩


/-! ### numeral_Compare: function 27 -/
def numeral_Compare.j0 : Nat → Int → ByteArray → ByteArray → Int → Bool → Option (Int)
 | 0, _, _, _, _, _ => none
 | k + 1, x0, x1, x2, x9, x10 => if x10 = true then ((numeral_human.f k x0 x1).bind fun bt294 => ((numeral_human.f k x0 x2).bind fun bt298 => ((numeral_order.f k bt294.1 bt294.2.1 bt294.2.2.1 bt294.2.2.2 bt298.1 bt298.2.1 bt298.2.2.1 bt298.2.2.2).bind fun t302 => (some t302)))) else (if x9 = 128 then ((numeral_Month.f k x1).bind fun t303 => ((numeral_Month.f k x2).bind fun t304 => ((cmp_Compare_int.f t303 t304).bind fun t305 => (some t305)))) else (if x9 = 256 then ((numeral_versions.f k x1 x2).bind fun t306 => (some t306)) else (if x9 = 32 then ((numeral_General.f k x1).bind fun bt307 => ((numeral_General.f k x2).bind fun bt312 => (if bt307.1 = bt312.1 then ((numeral_sizeOf.f bt307.2.1 bt307.2.2.1 bt307.2.2.2.1 0).bind fun bt320 => ((numeral_sizeOf.f bt312.2.1 bt312.2.2.1 bt312.2.2.2.1 0).bind fun bt324 => ((numeral_order.f k bt320.1 bt320.2.1 bt320.2.2.1 bt320.2.2.2 bt324.1 bt324.2.1 bt324.2.2.1 bt324.2.2.2).bind fun t328 => (some t328)))) else ((api_Class_53.f bt307.1 bt312.1).bind fun t319 => (some t319))))) else ((strings_Compare.f x1 x2).bind fun t329 => (some t329)))))
def numeral_Compare.f (k : Nat) (a0 : Int) (a1 : ByteArray) (a2 : ByteArray) : Option (Int) := if a0 = 16 then (numeral_Compare.j0 k a0 a1 a2 a0 (a0 == 16)) else (numeral_Compare.j0 k a0 a1 a2 a0 (a0 == 64))
def numeral_Compare.T13 : Bool × List (List Nat × List Nat) := (true, [([], []), ([0], [0]), ([], []), ([2], [2]), ([], []), ([4], [4]), ([1, 3, 5], [1, 3, 5]), ([], []), ([7], [7]), ([], []), ([9], [9]), ([], []), ([11], [11]), ([8, 10, 12, 6], [8, 10, 12]), ([6, 13, 13], [6, 13]), ([14, 14, 0, 1, 2, 3, 4, 5, 6, 7, 8, 9, 10, 11, 12, 13, 14], [14])])
def numeral_Compare.B13 : List Nat := [0, 1, 0, 4, 0, 16, 63, 0, 128, 0, 512, 0, 2048, 8191, 16383, 32767]
theorem numeral_Compare.tab13 : rtab .any (opsOf Tryd.f27 13) = numeral_Compare.T13 := by kernel_rfl
theorem numeral_Compare.bits13 : waitsOk numeral_Compare.T13.2 numeral_Compare.B13 = true := by kernel_rfl
set_option maxHeartbeats 8000000 in
set_option maxRecDepth 100000 in
theorem numeral_Compare.calls (k : Nat) (a0 : Int) (a1 : ByteArray) (a2 : ByteArray) (r : Int) (w : World) (hGL : GOK w) (h : numeral_Compare.f k a0 a1 a2 = some r) :
  Calls Tryd.prog 27 #[.int .u16 a0, .string a1, .string a2] w fun e w' => e = .returned (.int .i64 r) ∧ Below w.heap.size w w' := by
 have hu29 := Tryd.underlying29
 have HGL := Aside0.mk hGL
 clear hGL
 have HB := Aside0.mk (Below.refl w.heap.size w)
 have H : (if a0 = 16 then (numeral_Compare.j0 k a0 a1 a2 a0 (a0 == 16)) else (numeral_Compare.j0 k a0 a1 a2 a0 (a0 == 64))) = some r := h
 clear h
 have HC4 := Aside0.mk H
 clear H
 go_enter Tryd.func27, Tryd.ntmps27
 go_upto_if 10 with (fail)
 go_cut [10] (fun v10 wc => ∃ (kq : Nat) (x10_3 : Bool), v10 = .bool x10_3 ∧ Aside0 (numeral_Compare.j0 kq a0 a1 a2 a0 x10_3 = some r) ∧ Aside0 (kq ≤ k) ∧ Aside0 (Below w.heap.size w wc))
 case first =>
  have H := HC4.out
  clear HC4
  by_cases c5 : a0 = 16
  ·
   rw [if_pos c5] at H
   have c5b0 : (a0 == 16) = true := beq_iff_eq.mpr c5
   have c5b1 : (a0 != 16) = false := bne_eq_false_iff_eq.mpr c5
   clear c5
   (first | rw [c5b0] | (simp only [i64_w, i32_w]; rw [c5b0]) | skip)
   have H' := Aside0.mk H
   clear H
   go_wp2
   go_meet
   case rel => exact ⟨_, ((a0 == 16)), qnd2_, H', ⟨by first | omega | exact Nat.le_refl _⟩, ⟨qnd1_⟩⟩
  ·
   rw [if_neg c5] at H
   have c5b0 : (a0 == 16) = false := beq_eq_false_iff_ne.mpr c5
   have c5b1 : (a0 != 16) = true := bne_iff_ne.mpr c5
   (first | rw [c5b0] | (simp only [i64_w, i32_w]; rw [c5b0]) | skip)
   have H' := Aside0.mk H
   clear H
   go_wp2
   go_meet
   case rel => exact ⟨_, ((a0 == 64)), qnd2_, H', ⟨by first | omega | exact Nat.le_refl _⟩, ⟨qnd1_⟩⟩
 case rest =>
  clear HC4
  (try clear c2); (try clear p2); (try clear c5); (try clear c5b0); (try clear c5b1)
  obtain ⟨kq, x10_3, rfl, HA, HJ3, HB⟩ := hcut
  cases kq with
  | zero => exact absurd HA.out (by simp [numeral_Compare.j0])
  | succ kj3 =>
   have H := HA.out
   clear HA
   simp only [numeral_Compare.j0] at H
   by_cases c6 : x10_3 = true
   ·
    subst c6
    have H1 : ((numeral_human.f kj3 a0 a1).bind fun bt294 => ((numeral_human.f kj3 a0 a2).bind fun bt298 => ((numeral_order.f kj3 bt294.1 bt294.2.1 bt294.2.2.1 bt294.2.2.2 bt298.1 bt298.2.1 bt298.2.2.1 bt298.2.2.2).bind fun t302 => (some t302)))) = some r := by rw [if_pos rfl] at H; exact H
    clear H
    have H := H1
    clear H1
    replace H := Option.bind_eq_some_iff.mp H
    obtain ⟨⟨t294, t295, t296, t297⟩, A70, H⟩ := H
    replace H : ((numeral_human.f kj3 a0 a2).bind fun bt298 => ((numeral_order.f kj3 t294 t295 t296 t297 bt298.1 bt298.2.1 bt298.2.2.1 bt298.2.2.2).bind fun t302 => (some t302))) = some r := H
    have A7 := Aside0.mk A70
    clear A70
    replace H := Option.bind_eq_some_iff.mp H
    obtain ⟨⟨t298, t299, t300, t301⟩, A80, H⟩ := H
    replace H : ((numeral_order.f kj3 t294 t295 t296 t297 t298 t299 t300 t301).bind fun t302 => (some t302)) = some r := H
    have A8 := Aside0.mk A80
    clear A80
    replace H := Option.bind_eq_some_iff.mp H
    obtain ⟨t302, A90, H⟩ := H
    replace H : (some t302) = some r := H
    have A9 := Aside0.mk A90
    clear A90
    obtain rfl := Option.some.inj H
    have tk13 : True := trivial; have tk14 : True := trivial; have tk15 : True := trivial
    go_wp2_with (first | (have ztk13 := tk13; clear tk13 ztk13; (with_reducible refine gate_callee (f := 50) rfl ?_); refine goesL_ (some 15) rfl rfl Tryd.func50 (by kernel_rfl) rfl #[.int .u16 a0, .string a1] rfl qnd0_ ?_; (with_reducible refine (numeral_human.calls kj3 a0 a1 t294 t295 t296 t297 _ A7.out).mono ?_); rintro e w10 ⟨rfl, hb⟩; refine ⟨_, rfl, ?_⟩; have n0_ := Aside0.mk (below_step qnd1_ hb); clear HB; have HB := n0_; clear n0_; (try clear hb); (try clear hb2); (try clear hk); (try clear hi)) | (have ztk14 := tk14; clear tk14 ztk14; (with_reducible refine gate_callee (f := 50) rfl ?_); refine goesL_ (some 18) rfl rfl Tryd.func50 (by kernel_rfl) rfl #[.int .u16 a0, .string a2] rfl qnd0_ ?_; (with_reducible refine (numeral_human.calls kj3 a0 a2 t298 t299 t300 t301 _ A8.out).mono ?_); rintro e w11 ⟨rfl, hb⟩; refine ⟨_, rfl, ?_⟩; have n0_ := Aside0.mk (below_step qnd1_ hb); clear HB; have HB := n0_; clear n0_; (try clear hb); (try clear hb2); (try clear hk); (try clear hi)) | (have ztk15 := tk15; clear tk15 ztk15; (with_reducible refine gate_callee (f := 49) rfl ?_); refine goesL_ (some 19) rfl rfl Tryd.func49 (by kernel_rfl) rfl #[.agg #[.int .i64 t294, .int .i64 t295, .int .i64 t296, .string t297], .agg #[.int .i64 t298, .int .i64 t299, .int .i64 t300, .string t301]] rfl qnd0_ ?_; (with_reducible refine (numeral_order.calls kj3 t294 t295 t296 t297 t298 t299 t300 t301 t302 _ A9.out).mono ?_); rintro e w12 ⟨rfl, hb⟩; refine ⟨_, rfl, ?_⟩; have n0_ := Aside0.mk (below_step qnd1_ hb); clear HB; have HB := n0_; clear n0_; (try clear hb); (try clear hb2); (try clear hk); (try clear hi)))
    go_ret
    exact ⟨qnd5_, qnd1_⟩
   ·
    replace c6 := Bool.eq_false_iff.mpr c6
    subst c6
    have H1 : (if a0 = 128 then ((numeral_Month.f kj3 a1).bind fun t303 => ((numeral_Month.f kj3 a2).bind fun t304 => ((cmp_Compare_int.f t303 t304).bind fun t305 => (some t305)))) else (if a0 = 256 then ((numeral_versions.f kj3 a1 a2).bind fun t306 => (some t306)) else (if a0 = 32 then ((numeral_General.f kj3 a1).bind fun bt307 => ((numeral_General.f kj3 a2).bind fun bt312 => (if bt307.1 = bt312.1 then ((numeral_sizeOf.f bt307.2.1 bt307.2.2.1 bt307.2.2.2.1 0).bind fun bt320 => ((numeral_sizeOf.f bt312.2.1 bt312.2.2.1 bt312.2.2.2.1 0).bind fun bt324 => ((numeral_order.f kj3 bt320.1 bt320.2.1 bt320.2.2.1 bt320.2.2.2 bt324.1 bt324.2.1 bt324.2.2.1 bt324.2.2.2).bind fun t328 => (some t328)))) else ((api_Class_53.f bt307.1 bt312.1).bind fun t319 => (some t319))))) else ((strings_Compare.f a1 a2).bind fun t329 => (some t329))))) = some r := by rw [if_neg (show ¬ (false = true) by decide)] at H; exact H
    clear H
    have H := H1
    clear H1
    by_cases c16 : a0 = 128
    ·
     rw [if_pos c16] at H
     have c16b0 : (a0 == 128) = true := beq_iff_eq.mpr c16
     have c16b1 : (a0 != 128) = false := bne_eq_false_iff_eq.mpr c16
     clear c16
     replace H := Option.bind_eq_some_iff.mp H
     obtain ⟨t303, A170, H⟩ := H
     replace H : ((numeral_Month.f kj3 a2).bind fun t304 => ((cmp_Compare_int.f t303 t304).bind fun t305 => (some t305))) = some r := H
     have A17 := Aside0.mk A170
     clear A170
     replace H := Option.bind_eq_some_iff.mp H
     obtain ⟨t304, A180, H⟩ := H
     replace H : ((cmp_Compare_int.f t303 t304).bind fun t305 => (some t305)) = some r := H
     have A18 := Aside0.mk A180
     clear A180
     replace H := Option.bind_eq_some_iff.mp H
     obtain ⟨t305, A190, H⟩ := H
     replace H : (some t305) = some r := H
     have A19 := Aside0.mk A190
     clear A190
     obtain rfl := Option.some.inj H
     have tk20 : True := trivial; have tk21 : True := trivial; have tk22 : True := trivial
     go_wp2_with (first | (have ztk20 := tk20; clear tk20 ztk20; (with_reducible refine gate_callee (f := 23) rfl ?_); refine goesL_ (some 23) rfl rfl Tryd.func23 (by kernel_rfl) rfl #[.string a1] rfl qnd0_ ?_; (with_reducible refine (numeral_Month.calls kj3 a1 t303 _ ?side1 A17.out).mono ?_); (case side1 => exact GOK.below HGL.out qnd1_); rintro e w' ⟨rfl, ⟨nd, rfl⟩⟩; refine ⟨_, rfl, ?_⟩) | (have ztk21 := tk21; clear tk21 ztk21; (with_reducible refine gate_callee (f := 23) rfl ?_); refine goesL_ (some 25) rfl rfl Tryd.func23 (by kernel_rfl) rfl #[.string a2] rfl qnd0_ ?_; (with_reducible refine (numeral_Month.calls kj3 a2 t304 _ ?side1 A18.out).mono ?_); (case side1 => exact GOK.below HGL.out qnd1_); rintro e w' ⟨rfl, ⟨nd, rfl⟩⟩; refine ⟨_, rfl, ?_⟩) | (have ztk22 := tk22; clear tk22 ztk22; (with_reducible refine gate_callee (f := 51) rfl ?_); refine goesL_ (some 26) rfl rfl Tryd.func51 (by kernel_rfl) rfl #[.int .i64 t303, .int .i64 t304] rfl qnd0_ ?_; (with_reducible refine (cmp_Compare_int.calls t303 t304 t305 _ A19.out).mono ?_); rintro e w' ⟨rfl, ⟨nd, rfl⟩⟩; refine ⟨_, rfl, ?_⟩))
     go_ret
     exact ⟨qnd5_, qnd1_⟩
    ·
     rw [if_neg c16] at H
     have c16b0 : (a0 == 128) = false := beq_eq_false_iff_ne.mpr c16
     have c16b1 : (a0 != 128) = true := bne_iff_ne.mpr c16
     by_cases c23 : a0 = 256
     ·
      rw [if_pos c23] at H
      have c23b0 : (a0 == 256) = true := beq_iff_eq.mpr c23
      have c23b1 : (a0 != 256) = false := bne_eq_false_iff_eq.mpr c23
      clear c23
      replace H := Option.bind_eq_some_iff.mp H
      obtain ⟨t306, A240, H⟩ := H
      replace H : (some t306) = some r := H
      have A24 := Aside0.mk A240
      clear A240
      obtain rfl := Option.some.inj H
      go_wp2_with (first | ((with_reducible refine gate_callee (f := 52) rfl ?_); refine goesL_ (some 31) rfl rfl Tryd.func52 (by kernel_rfl) rfl #[.string a1, .string a2] rfl qnd0_ ?_; (with_reducible refine (numeral_versions.calls kj3 a1 a2 t306 _ ?side1 A24.out).mono ?_); (case side1 => exact GOK.below HGL.out qnd1_); rintro e w25 ⟨rfl, hb⟩; refine ⟨_, rfl, ?_⟩; have n0_ := Aside0.mk (below_step qnd1_ hb); clear HB; have HB := n0_; clear n0_; (try clear hb); (try clear hb2); (try clear hk); (try clear hi)))
      go_ret
      exact ⟨qnd5_, qnd1_⟩
     ·
      rw [if_neg c23] at H
      have c23b0 : (a0 == 256) = false := beq_eq_false_iff_ne.mpr c23
      have c23b1 : (a0 != 256) = true := bne_iff_ne.mpr c23
      by_cases c26 : a0 = 32
      ·
       rw [if_pos c26] at H
       have c26b0 : (a0 == 32) = true := beq_iff_eq.mpr c26
       have c26b1 : (a0 != 32) = false := bne_eq_false_iff_eq.mpr c26
       clear c26
       replace H := Option.bind_eq_some_iff.mp H
       obtain ⟨⟨t307, t308, t309, t310, t311⟩, A270, H⟩ := H
       replace H : ((numeral_General.f kj3 a2).bind fun bt312 => (if t307 = bt312.1 then ((numeral_sizeOf.f t308 t309 t310 0).bind fun bt320 => ((numeral_sizeOf.f bt312.2.1 bt312.2.2.1 bt312.2.2.2.1 0).bind fun bt324 => ((numeral_order.f kj3 bt320.1 bt320.2.1 bt320.2.2.1 bt320.2.2.2 bt324.1 bt324.2.1 bt324.2.2.1 bt324.2.2.2).bind fun t328 => (some t328)))) else ((api_Class_53.f t307 bt312.1).bind fun t319 => (some t319)))) = some r := H
       have A27 := Aside0.mk A270
       clear A270
       replace H := Option.bind_eq_some_iff.mp H
       obtain ⟨⟨t312, t313, t314, t315, t316⟩, A280, H⟩ := H
       replace H : (if t307 = t312 then ((numeral_sizeOf.f t308 t309 t310 0).bind fun bt320 => ((numeral_sizeOf.f t313 t314 t315 0).bind fun bt324 => ((numeral_order.f kj3 bt320.1 bt320.2.1 bt320.2.2.1 bt320.2.2.2 bt324.1 bt324.2.1 bt324.2.2.1 bt324.2.2.2).bind fun t328 => (some t328)))) else ((api_Class_53.f t307 t312).bind fun t319 => (some t319))) = some r := H
       have A28 := Aside0.mk A280
       clear A280
       by_cases c29 : t307 = t312
       ·
        rw [if_pos c29] at H
        have c29b0 : (t307 == t312) = true := beq_iff_eq.mpr c29
        have c29b1 : (t307 != t312) = false := bne_eq_false_iff_eq.mpr c29
        clear c29
        replace H := Option.bind_eq_some_iff.mp H
        obtain ⟨⟨t320, t321, t322, t323⟩, A300, H⟩ := H
        replace H : ((numeral_sizeOf.f t313 t314 t315 0).bind fun bt324 => ((numeral_order.f kj3 t320 t321 t322 t323 bt324.1 bt324.2.1 bt324.2.2.1 bt324.2.2.2).bind fun t328 => (some t328))) = some r := H
        have A30 := Aside0.mk A300
        clear A300
        replace H := Option.bind_eq_some_iff.mp H
        obtain ⟨⟨t324, t325, t326, t327⟩, A310, H⟩ := H
        replace H : ((numeral_order.f kj3 t320 t321 t322 t323 t324 t325 t326 t327).bind fun t328 => (some t328)) = some r := H
        have A31 := Aside0.mk A310
        clear A310
        replace H := Option.bind_eq_some_iff.mp H
        obtain ⟨t328, A320, H⟩ := H
        replace H : (some t328) = some r := H
        have A32 := Aside0.mk A320
        clear A320
        obtain rfl := Option.some.inj H
        have tk45 : True := trivial; have tk46 : True := trivial; have tk47 : True := trivial; have tk48 : True := trivial
        try go_wp2_with (first | (have ztk45 := tk45; clear tk45 ztk45; (with_reducible refine gate_callee (f := 17) rfl ?_); refine goesL_ (some 35) rfl rfl Tryd.func17 (by kernel_rfl) rfl #[.string a1] rfl qnd0_ ?_; (with_reducible refine (numeral_General.calls kj3 a1 t307 t308 t309 t310 t311 _ A27.out).mono ?_); rintro e w33 ⟨rfl, hb⟩; refine ⟨_, rfl, ?_⟩; have n0_ := Aside0.mk (below_step qnd1_ hb); clear HB; have HB := n0_; clear n0_; (try clear hb); (try clear hb2); (try clear hk); (try clear hi)) | (have ztk46 := tk46; clear tk46 ztk46; (with_reducible refine gate_callee (f := 17) rfl ?_); refine goesL_ (some 37) rfl rfl Tryd.func17 (by kernel_rfl) rfl #[.string a2] rfl qnd0_ ?_; (with_reducible refine (numeral_General.calls kj3 a2 t312 t313 t314 t315 t316 _ A28.out).mono ?_); rintro e w34 ⟨rfl, hb⟩; refine ⟨_, rfl, ?_⟩; have n0_ := Aside0.mk (below_step qnd1_ hb); clear HB; have HB := n0_; clear n0_; (try clear hb); (try clear hb2); (try clear hk); (try clear hi)) | (have ztk47 := tk47; clear tk47 ztk47; (with_reducible refine gate_dst (N := 7) rfl ?_); refine box_event ?hg (N := 7) ?hd (cs := #[.int .u8 0, .bool false, .string (⟨#[]⟩ : ByteArray), .int .i64 0, .int .i64 0]) (t := 29) ?hr ?_; (case hd => rfl); (case hg => rfl); (case hr => first | (go_simp; done) | (go_simp; rfl)); intro gb317 hg w35 hbox hb; have n0_ := Aside0.mk (below_step qnd1_ hb); have n1_ := Aside0.mk (hbox); have n2_ := Aside0.mk ((by rw [hg]; exact (below_size qnd1_) : w.heap.size ≤ gb317)); have n3_ := Aside0.mk ((by rw [hg]; exact (below_size qnd1_) : w.heap.size ≤ gb317)); clear HB; have HB := n0_; have BK317 := n1_; have GW317 := n2_; have GE317 := n3_; clear n0_ n1_ n2_ n3_; clear hb hbox hg) | (have ztk48 := tk48; clear tk48 ztk48; (with_reducible refine gate_dst (N := 8) rfl ?_); refine box_event ?hg (N := 8) ?hd (cs := #[.int .u8 0, .bool false, .string (⟨#[]⟩ : ByteArray), .int .i64 0, .int .i64 0]) (t := 29) ?hr ?_; (case hd => rfl); (case hg => rfl); (case hr => first | (go_simp; done) | (go_simp; rfl)); intro gb318 hg w36 hbox hb; have n0_ := Aside0.mk (blk_below (g := gb317) (o := .cells #[.int .u8 0, .bool false, .string (⟨#[]⟩ : ByteArray), .int .i64 0, .int .i64 0] 29 (0, 0)) qnd43_ hb); have n1_ := Aside0.mk (below_step qnd46_ hb); have n2_ := Aside0.mk (hbox); have n3_ := Aside0.mk ((by rw [hg]; exact (below_size qnd46_) : w.heap.size ≤ gb318)); have n4_ := Aside0.mk ((by rw [hg]; exact (below_size qnd46_) : w.heap.size ≤ gb318)); have n5_ := Aside0.mk ((by rw [hg]; exact Nat.ne_of_lt (blk_lt (g := gb317) (o := .cells #[.int .u8 0, .bool false, .string (⟨#[]⟩ : ByteArray), .int .i64 0, .int .i64 0] 29 (0, 0)) qnd43_) : gb317 ≠ gb318)); have n6_ := Aside0.mk ((by rw [hg]; exact Nat.ne_of_gt (blk_lt (g := gb317) (o := .cells #[.int .u8 0, .bool false, .string (⟨#[]⟩ : ByteArray), .int .i64 0, .int .i64 0] 29 (0, 0)) qnd43_) : gb318 ≠ gb317)); clear BK317; clear HB; have BK317 := n0_; have HB := n1_; have BK318 := n2_; have GW318 := n3_; have GE318 := n4_; have NB317_318 := n5_; have NB318_317 := n6_; clear n0_ n1_ n2_ n3_ n4_ n5_ n6_; clear hb hbox hg; have hnb37 := NB317_318.out; have hnc37 := NB318_317.out; have hcz38_0 : w36.cell? ⟨gb317, 0, none⟩ = some (.int .u8 0) := (blk_cell BK317.out 0).trans rfl; have hcz38_1 : w36.cell? ⟨gb317, 1, none⟩ = some (.bool false) := (blk_cell BK317.out 1).trans rfl; have hcz38_2 : w36.cell? ⟨gb317, 2, none⟩ = some (.string (⟨#[]⟩ : ByteArray)) := (blk_cell BK317.out 2).trans rfl; have hcz38_3 : w36.cell? ⟨gb317, 3, none⟩ = some (.int .i64 0) := (blk_cell BK317.out 3).trans rfl; have hcz38_4 : w36.cell? ⟨gb317, 4, none⟩ = some (.int .i64 0) := (blk_cell BK317.out 4).trans rfl; have hfz38_0 := blk_frozen BK317.out 0; have hfz38_1 := blk_frozen BK317.out 1; have hfz38_2 := blk_frozen BK317.out 2; have hfz38_3 := blk_frozen BK317.out 3; have hfz38_4 := blk_frozen BK317.out 4; have hcz39_0 : w36.cell? ⟨gb318, 0, none⟩ = some (.int .u8 0) := (blk_cell BK318.out 0).trans rfl; have hcz39_1 : w36.cell? ⟨gb318, 1, none⟩ = some (.bool false) := (blk_cell BK318.out 1).trans rfl; have hcz39_2 : w36.cell? ⟨gb318, 2, none⟩ = some (.string (⟨#[]⟩ : ByteArray)) := (blk_cell BK318.out 2).trans rfl; have hcz39_3 : w36.cell? ⟨gb318, 3, none⟩ = some (.int .i64 0) := (blk_cell BK318.out 3).trans rfl; have hcz39_4 : w36.cell? ⟨gb318, 4, none⟩ = some (.int .i64 0) := (blk_cell BK318.out 4).trans rfl; have hfz39_0 := blk_frozen BK318.out 0; have hfz39_1 := blk_frozen BK318.out 1; have hfz39_2 := blk_frozen BK318.out 2; have hfz39_3 := blk_frozen BK318.out 3; have hfz39_4 := blk_frozen BK318.out 4))
        have n0_ : Aside0 (((((((((((w36.setCell ⟨gb317, 0, none⟩ (.int .u8 t307)).setCell ⟨gb317, 1, none⟩ (.bool t308)).setCell ⟨gb317, 2, none⟩ (.string t309)).setCell ⟨gb317, 3, none⟩ (.int .i64 t310)).setCell ⟨gb317, 4, none⟩ (.int .i64 t311)).setCell ⟨gb318, 0, none⟩ (.int .u8 t312)).setCell ⟨gb318, 1, none⟩ (.bool t313)).setCell ⟨gb318, 2, none⟩ (.string t314)).setCell ⟨gb318, 3, none⟩ (.int .i64 t315)).setCell ⟨gb318, 4, none⟩ (.int .i64 t316)).heap[gb317]? = some (.cells #[.int .u8 t307, .bool t308, .string t309, .int .i64 t310, .int .i64 t311] 29 (0, 0))) := ⟨by (with_reducible repeat (first | refine blk_drewN ?_ _ | refine blk_drew ?_ | refine blk_alloc ?_ _)); refine blk_far ?_ NB317_318.out _; (with_reducible repeat (first | refine blk_drewN ?_ _ | refine blk_drew ?_ | refine blk_alloc ?_ _)); refine blk_far ?_ NB317_318.out _; (with_reducible repeat (first | refine blk_drewN ?_ _ | refine blk_drew ?_ | refine blk_alloc ?_ _)); refine blk_far ?_ NB317_318.out _; (with_reducible repeat (first | refine blk_drewN ?_ _ | refine blk_drew ?_ | refine blk_alloc ?_ _)); refine blk_far ?_ NB317_318.out _; (with_reducible repeat (first | refine blk_drewN ?_ _ | refine blk_drew ?_ | refine blk_alloc ?_ _)); refine blk_far ?_ NB317_318.out _; (with_reducible repeat (first | refine blk_drewN ?_ _ | refine blk_drew ?_ | refine blk_alloc ?_ _)); refine blk_put (cs := #[.int .u8 t307, .bool t308, .string t309, .int .i64 t310, .int .i64 0]) ?_ 4 _ rfl; (with_reducible repeat (first | refine blk_drewN ?_ _ | refine blk_drew ?_ | refine blk_alloc ?_ _)); refine blk_put (cs := #[.int .u8 t307, .bool t308, .string t309, .int .i64 0, .int .i64 0]) ?_ 3 _ rfl; (with_reducible repeat (first | refine blk_drewN ?_ _ | refine blk_drew ?_ | refine blk_alloc ?_ _)); refine blk_put (cs := #[.int .u8 t307, .bool t308, .string (⟨#[]⟩ : ByteArray), .int .i64 0, .int .i64 0]) ?_ 2 _ rfl; (with_reducible repeat (first | refine blk_drewN ?_ _ | refine blk_drew ?_ | refine blk_alloc ?_ _)); refine blk_put (cs := #[.int .u8 t307, .bool false, .string (⟨#[]⟩ : ByteArray), .int .i64 0, .int .i64 0]) ?_ 1 _ rfl; (with_reducible repeat (first | refine blk_drewN ?_ _ | refine blk_drew ?_ | refine blk_alloc ?_ _)); refine blk_put (cs := #[.int .u8 0, .bool false, .string (⟨#[]⟩ : ByteArray), .int .i64 0, .int .i64 0]) ?_ 0 _ rfl; (with_reducible repeat (first | refine blk_drewN ?_ _ | refine blk_drew ?_ | refine blk_alloc ?_ _)); exact BK317.out⟩
        have n1_ : Aside0 (((((((((((w36.setCell ⟨gb317, 0, none⟩ (.int .u8 t307)).setCell ⟨gb317, 1, none⟩ (.bool t308)).setCell ⟨gb317, 2, none⟩ (.string t309)).setCell ⟨gb317, 3, none⟩ (.int .i64 t310)).setCell ⟨gb317, 4, none⟩ (.int .i64 t311)).setCell ⟨gb318, 0, none⟩ (.int .u8 t312)).setCell ⟨gb318, 1, none⟩ (.bool t313)).setCell ⟨gb318, 2, none⟩ (.string t314)).setCell ⟨gb318, 3, none⟩ (.int .i64 t315)).setCell ⟨gb318, 4, none⟩ (.int .i64 t316)).heap[gb318]? = some (.cells #[.int .u8 t312, .bool t313, .string t314, .int .i64 t315, .int .i64 t316] 29 (0, 0))) := ⟨by (with_reducible repeat (first | refine blk_drewN ?_ _ | refine blk_drew ?_ | refine blk_alloc ?_ _)); refine blk_put (cs := #[.int .u8 t312, .bool t313, .string t314, .int .i64 t315, .int .i64 0]) ?_ 4 _ rfl; (with_reducible repeat (first | refine blk_drewN ?_ _ | refine blk_drew ?_ | refine blk_alloc ?_ _)); refine blk_put (cs := #[.int .u8 t312, .bool t313, .string t314, .int .i64 0, .int .i64 0]) ?_ 3 _ rfl; (with_reducible repeat (first | refine blk_drewN ?_ _ | refine blk_drew ?_ | refine blk_alloc ?_ _)); refine blk_put (cs := #[.int .u8 t312, .bool t313, .string (⟨#[]⟩ : ByteArray), .int .i64 0, .int .i64 0]) ?_ 2 _ rfl; (with_reducible repeat (first | refine blk_drewN ?_ _ | refine blk_drew ?_ | refine blk_alloc ?_ _)); refine blk_put (cs := #[.int .u8 t312, .bool false, .string (⟨#[]⟩ : ByteArray), .int .i64 0, .int .i64 0]) ?_ 1 _ rfl; (with_reducible repeat (first | refine blk_drewN ?_ _ | refine blk_drew ?_ | refine blk_alloc ?_ _)); refine blk_put (cs := #[.int .u8 0, .bool false, .string (⟨#[]⟩ : ByteArray), .int .i64 0, .int .i64 0]) ?_ 0 _ rfl; (with_reducible repeat (first | refine blk_drewN ?_ _ | refine blk_drew ?_ | refine blk_alloc ?_ _)); refine blk_far ?_ NB318_317.out _; (with_reducible repeat (first | refine blk_drewN ?_ _ | refine blk_drew ?_ | refine blk_alloc ?_ _)); refine blk_far ?_ NB318_317.out _; (with_reducible repeat (first | refine blk_drewN ?_ _ | refine blk_drew ?_ | refine blk_alloc ?_ _)); refine blk_far ?_ NB318_317.out _; (with_reducible repeat (first | refine blk_drewN ?_ _ | refine blk_drew ?_ | refine blk_alloc ?_ _)); refine blk_far ?_ NB318_317.out _; (with_reducible repeat (first | refine blk_drewN ?_ _ | refine blk_drew ?_ | refine blk_alloc ?_ _)); refine blk_far ?_ NB318_317.out _; (with_reducible repeat (first | refine blk_drewN ?_ _ | refine blk_drew ?_ | refine blk_alloc ?_ _)); exact BK318.out⟩
        have n2_ : Aside0 (Below w.heap.size w ((((((((((w36.setCell ⟨gb317, 0, none⟩ (.int .u8 t307)).setCell ⟨gb317, 1, none⟩ (.bool t308)).setCell ⟨gb317, 2, none⟩ (.string t309)).setCell ⟨gb317, 3, none⟩ (.int .i64 t310)).setCell ⟨gb317, 4, none⟩ (.int .i64 t311)).setCell ⟨gb318, 0, none⟩ (.int .u8 t312)).setCell ⟨gb318, 1, none⟩ (.bool t313)).setCell ⟨gb318, 2, none⟩ (.string t314)).setCell ⟨gb318, 3, none⟩ (.int .i64 t315)).setCell ⟨gb318, 4, none⟩ (.int .i64 t316))) := ⟨qnd40_⟩
        (try clear BK317); (try clear BK318); (try clear HB)
        generalize ((((((((((w36.setCell ⟨gb317, 0, none⟩ (.int .u8 t307)).setCell ⟨gb317, 1, none⟩ (.bool t308)).setCell ⟨gb317, 2, none⟩ (.string t309)).setCell ⟨gb317, 3, none⟩ (.int .i64 t310)).setCell ⟨gb317, 4, none⟩ (.int .i64 t311)).setCell ⟨gb318, 0, none⟩ (.int .u8 t312)).setCell ⟨gb318, 1, none⟩ (.bool t313)).setCell ⟨gb318, 2, none⟩ (.string t314)).setCell ⟨gb318, 3, none⟩ (.int .i64 t315)).setCell ⟨gb318, 4, none⟩ (.int .i64 t316)) = w40 at n0_ n1_ n2_ ⊢
        have BK317 := n0_
        have BK318 := n1_
        have HB := n2_
        clear n0_ n1_ n2_
        have n0_ := Aside0.mk (blk_drew BK317.out)
        have n1_ := Aside0.mk (blk_drew BK318.out)
        have n2_ := Aside0.mk (below_drew1 HB.out)
        clear BK317
        clear BK318
        clear HB
        have BK317 := n0_
        have BK318 := n1_
        have HB := n2_
        clear n0_ n1_ n2_
        refine start_ (n := 16) (S := fun w' => w'.cell? ⟨gb317, 0, none⟩ = some (.int .u8 t307) ∧ w'.cell? ⟨gb317, 1, none⟩ = some (.bool t308) ∧ w'.cell? ⟨gb317, 2, none⟩ = some (.string t309) ∧ w'.cell? ⟨gb317, 3, none⟩ = some (.int .i64 t310) ∧ w'.cell? ⟨gb317, 4, none⟩ = some (.int .i64 t311) ∧ w'.cell? ⟨gb318, 0, none⟩ = some (.int .u8 t312) ∧ w'.cell? ⟨gb318, 1, none⟩ = some (.bool t313) ∧ w'.cell? ⟨gb318, 2, none⟩ = some (.string t314) ∧ w'.cell? ⟨gb318, 3, none⟩ = some (.int .i64 t315) ∧ w'.cell? ⟨gb318, 4, none⟩ = some (.int .i64 t316)) (ds := []) #[false, false, false, false, false, false, false, false, false, false, false, false, false, false, false, false] (by kernel_rfl) rfl rfl ⟨(blk_cell BK317.out 0).trans rfl, (blk_cell BK317.out 1).trans rfl, (blk_cell BK317.out 2).trans rfl, (blk_cell BK317.out 3).trans rfl, (blk_cell BK317.out 4).trans rfl, (blk_cell BK318.out 0).trans rfl, (blk_cell BK318.out 1).trans rfl, (blk_cell BK318.out 2).trans rfl, (blk_cell BK318.out 3).trans rfl, (blk_cell BK318.out 4).trans rfl⟩ (fun hHeld => ?_); refine with_tabW numeral_Compare.tab13 numeral_Compare.bits13 (fun HT_ HW_ => ?_)
        generalize w40.drew = w41 at BK317 BK318 HB hHeld ⊢
        refine pure_ (i := 0) (N := some 48) (v := ?_) (a' := ?_) #[true, false, false, false, false, false, false, false, false, false, false, false, false, false, false, false] rfl rfl (any_of HT_.out (by kernel_rfl)) (fun _ _ _ h => h) (Or.inl ⟨by rfl, ?_⟩) ?_ ?_
        rotate_left
        ·
         intro w'
         go_simp
         with_reducible rfl
        rotate_left
        ·
         simp only [Act.put, List.setIfInBounds_toArray, List.set_cons_zero, List.set_cons_succ, i64_w, i32_w]
         rfl
        refine pure_ (i := 2) (N := some 50) (v := ?_) (a' := ?_) #[true, false, true, false, false, false, false, false, false, false, false, false, false, false, false, false] rfl rfl (any_of HT_.out (by kernel_rfl)) (fun _ _ _ h => h) (Or.inl ⟨by rfl, ?_⟩) ?_ ?_
        rotate_left
        ·
         intro w'
         go_simp
         with_reducible rfl
        rotate_left
        ·
         simp only [Act.put, List.setIfInBounds_toArray, List.set_cons_zero, List.set_cons_succ, i64_w, i32_w]
         rfl
        refine pure_ (i := 4) (N := some 52) (v := ?_) (a' := ?_) #[true, false, true, false, true, false, false, false, false, false, false, false, false, false, false, false] rfl rfl (any_of HT_.out (by kernel_rfl)) (fun _ _ _ h => h) (Or.inl ⟨by rfl, ?_⟩) ?_ ?_
        rotate_left
        ·
         intro w'
         go_simp
         with_reducible rfl
        rotate_left
        ·
         simp only [Act.put, List.setIfInBounds_toArray, List.set_cons_zero, List.set_cons_succ, i64_w, i32_w]
         rfl
        refine pure_ (i := 7) (N := some 55) (v := ?_) (a' := ?_) #[true, false, true, false, true, false, false, true, false, false, false, false, false, false, false, false] rfl rfl (any_of HT_.out (by kernel_rfl)) (fun _ _ _ h => h) (Or.inl ⟨by rfl, ?_⟩) ?_ ?_
        rotate_left
        ·
         intro w'
         go_simp
         with_reducible rfl
        rotate_left
        ·
         simp only [Act.put, List.setIfInBounds_toArray, List.set_cons_zero, List.set_cons_succ, i64_w, i32_w]
         rfl
        refine pure_ (i := 9) (N := some 57) (v := ?_) (a' := ?_) #[true, false, true, false, true, false, false, true, false, true, false, false, false, false, false, false] rfl rfl (any_of HT_.out (by kernel_rfl)) (fun _ _ _ h => h) (Or.inl ⟨by rfl, ?_⟩) ?_ ?_
        rotate_left
        ·
         intro w'
         go_simp
         with_reducible rfl
        rotate_left
        ·
         simp only [Act.put, List.setIfInBounds_toArray, List.set_cons_zero, List.set_cons_succ, i64_w, i32_w]
         rfl
        refine pure_ (i := 11) (N := some 59) (v := ?_) (a' := ?_) #[true, false, true, false, true, false, false, true, false, true, false, true, false, false, false, false] rfl rfl (any_of HT_.out (by kernel_rfl)) (fun _ _ _ h => h) (Or.inl ⟨by rfl, ?_⟩) ?_ ?_
        rotate_left
        ·
         intro w'
         go_simp
         with_reducible rfl
        rotate_left
        ·
         simp only [Act.put, List.setIfInBounds_toArray, List.set_cons_zero, List.set_cons_succ, i64_w, i32_w]
         rfl
        refine take_ (i := 1) (N := some 49) (v := ?_) (a' := ?_) #[true, true, true, false, true, false, false, true, false, true, false, true, false, false, false, false] rfl rfl (take_ofW HT_.out HW_.out (by kernel_rfl)) (fun _ _ _ h => h) (Or.inl ⟨by rfl, ?_⟩) hHeld ?_ ?_
        rotate_left
        ·
         rintro w' ⟨s0, s1, s2, s3, s4, s5, s6, s7, s8, s9⟩
         go_simp
         with_reducible rfl
        rotate_left
        ·
         simp only [Act.put, List.setIfInBounds_toArray, List.set_cons_zero, List.set_cons_succ, i64_w, i32_w]
         rfl
        refine take_ (i := 3) (N := some 51) (v := ?_) (a' := ?_) #[true, true, true, true, true, false, false, true, false, true, false, true, false, false, false, false] rfl rfl (take_ofW HT_.out HW_.out (by kernel_rfl)) (fun _ _ _ h => h) (Or.inl ⟨by rfl, ?_⟩) hHeld ?_ ?_
        rotate_left
        ·
         rintro w' ⟨s0, s1, s2, s3, s4, s5, s6, s7, s8, s9⟩
         go_simp
         with_reducible rfl
        rotate_left
        ·
         simp only [Act.put, List.setIfInBounds_toArray, List.set_cons_zero, List.set_cons_succ, i64_w, i32_w]
         rfl
        refine take_ (i := 5) (N := some 53) (v := ?_) (a' := ?_) #[true, true, true, true, true, true, false, true, false, true, false, true, false, false, false, false] rfl rfl (take_ofW HT_.out HW_.out (by kernel_rfl)) (fun _ _ _ h => h) (Or.inl ⟨by rfl, ?_⟩) hHeld ?_ ?_
        rotate_left
        ·
         rintro w' ⟨s0, s1, s2, s3, s4, s5, s6, s7, s8, s9⟩
         go_simp
         with_reducible rfl
        rotate_left
        ·
         simp only [Act.put, List.setIfInBounds_toArray, List.set_cons_zero, List.set_cons_succ, i64_w, i32_w]
         rfl
        refine take_ (i := 8) (N := some 56) (v := ?_) (a' := ?_) #[true, true, true, true, true, true, false, true, true, true, false, true, false, false, false, false] rfl rfl (take_ofW HT_.out HW_.out (by kernel_rfl)) (fun _ _ _ h => h) (Or.inl ⟨by rfl, ?_⟩) hHeld ?_ ?_
        rotate_left
        ·
         rintro w' ⟨s0, s1, s2, s3, s4, s5, s6, s7, s8, s9⟩
         go_simp
         with_reducible rfl
        rotate_left
        ·
         simp only [Act.put, List.setIfInBounds_toArray, List.set_cons_zero, List.set_cons_succ, i64_w, i32_w]
         rfl
        refine take_ (i := 10) (N := some 58) (v := ?_) (a' := ?_) #[true, true, true, true, true, true, false, true, true, true, true, true, false, false, false, false] rfl rfl (take_ofW HT_.out HW_.out (by kernel_rfl)) (fun _ _ _ h => h) (Or.inl ⟨by rfl, ?_⟩) hHeld ?_ ?_
        rotate_left
        ·
         rintro w' ⟨s0, s1, s2, s3, s4, s5, s6, s7, s8, s9⟩
         go_simp
         with_reducible rfl
        rotate_left
        ·
         simp only [Act.put, List.setIfInBounds_toArray, List.set_cons_zero, List.set_cons_succ, i64_w, i32_w]
         rfl
        refine take_ (i := 12) (N := some 60) (v := ?_) (a' := ?_) #[true, true, true, true, true, true, false, true, true, true, true, true, true, false, false, false] rfl rfl (take_ofW HT_.out HW_.out (by kernel_rfl)) (fun _ _ _ h => h) (Or.inl ⟨by rfl, ?_⟩) hHeld ?_ ?_
        rotate_left
        ·
         rintro w' ⟨s0, s1, s2, s3, s4, s5, s6, s7, s8, s9⟩
         go_simp
         with_reducible rfl
        rotate_left
        ·
         simp only [Act.put, List.setIfInBounds_toArray, List.set_cons_zero, List.set_cons_succ, i64_w, i32_w]
         rfl
        refine one_ (i := 6) (N := some 54) #[true, true, true, true, true, true, true, true, true, true, true, true, true, false, false, false] rfl rfl (one_of HT_.out (by kernel_rfl)) (by decide) (fun K hK => ?_)
        refine goes_ Tryd.func54 (by kernel_rfl) rfl #[.bool t308, .string t309, .int .i64 t310, .int .i64 0] (by rfl) rfl rfl qnd0_ ?_
        with_reducible refine (numeral_sizeOf.calls t308 t309 t310 0 t320 t321 t322 t323 _ A30.out).mono ?_
        rintro e w42 ⟨rfl, hb⟩
        refine ⟨_, rfl, ?_⟩
        have n0_ := Aside0.mk (blk_below (g := gb317) (o := .cells #[.int .u8 t307, .bool t308, .string t309, .int .i64 t310, .int .i64 t311] 29 (0, 0)) qnd43_ hb)
        have n1_ := Aside0.mk (blk_below (g := gb318) (o := .cells #[.int .u8 t312, .bool t313, .string t314, .int .i64 t315, .int .i64 t316] 29 (0, 0)) qnd67_ hb)
        have n2_ := Aside0.mk (below_step qnd40_ hb)
        clear BK317
        clear BK318
        clear HB
        have BK317 := n0_
        have BK318 := n1_
        have HB := n2_
        clear n0_ n1_ n2_
        (try clear hb); (try clear hb2); (try clear hk); (try clear hi)
        refine hK.out _ _ ⟨(blk_cell BK317.out 0).trans rfl, (blk_cell BK317.out 1).trans rfl, (blk_cell BK317.out 2).trans rfl, (blk_cell BK317.out 3).trans rfl, (blk_cell BK317.out 4).trans rfl, (blk_cell BK318.out 0).trans rfl, (blk_cell BK318.out 1).trans rfl, (blk_cell BK318.out 2).trans rfl, (blk_cell BK318.out 3).trans rfl, (blk_cell BK318.out 4).trans rfl⟩ (fun hHeld => ?_)
        clear hK K
        refine norm_ (a' := ?_) ?_ ?_
        rotate_left
        ·
         show Act.put _ (some 54) _ = _
         simp only [Act.put, List.setIfInBounds_toArray, List.set_cons_zero, List.set_cons_succ, i64_w, i32_w]
         rfl
        refine one_ (i := 13) (N := some 61) #[true, true, true, true, true, true, true, true, true, true, true, true, true, true, false, false] rfl rfl (one_of HT_.out (by kernel_rfl)) (by decide) (fun K hK => ?_)
        refine goes_ Tryd.func54 (by kernel_rfl) rfl #[.bool t313, .string t314, .int .i64 t315, .int .i64 0] (by rfl) rfl rfl qnd0_ ?_
        with_reducible refine (numeral_sizeOf.calls t313 t314 t315 0 t324 t325 t326 t327 _ A31.out).mono ?_
        rintro e w43 ⟨rfl, hb⟩
        refine ⟨_, rfl, ?_⟩
        have n0_ := Aside0.mk (blk_below (g := gb317) (o := .cells #[.int .u8 t307, .bool t308, .string t309, .int .i64 t310, .int .i64 t311] 29 (0, 0)) qnd43_ hb)
        have n1_ := Aside0.mk (blk_below (g := gb318) (o := .cells #[.int .u8 t312, .bool t313, .string t314, .int .i64 t315, .int .i64 t316] 29 (0, 0)) qnd67_ hb)
        have n2_ := Aside0.mk (below_step qnd40_ hb)
        clear BK317
        clear BK318
        clear HB
        have BK317 := n0_
        have BK318 := n1_
        have HB := n2_
        clear n0_ n1_ n2_
        (try clear hb); (try clear hb2); (try clear hk); (try clear hi)
        refine hK.out _ _ ⟨(blk_cell BK317.out 0).trans rfl, (blk_cell BK317.out 1).trans rfl, (blk_cell BK317.out 2).trans rfl, (blk_cell BK317.out 3).trans rfl, (blk_cell BK317.out 4).trans rfl, (blk_cell BK318.out 0).trans rfl, (blk_cell BK318.out 1).trans rfl, (blk_cell BK318.out 2).trans rfl, (blk_cell BK318.out 3).trans rfl, (blk_cell BK318.out 4).trans rfl⟩ (fun hHeld => ?_)
        clear hK K
        refine norm_ (a' := ?_) ?_ ?_
        rotate_left
        ·
         show Act.put _ (some 61) _ = _
         simp only [Act.put, List.setIfInBounds_toArray, List.set_cons_zero, List.set_cons_succ, i64_w, i32_w]
         rfl
        refine one_ (i := 14) (N := some 62) #[true, true, true, true, true, true, true, true, true, true, true, true, true, true, true, false] rfl rfl (one_of HT_.out (by kernel_rfl)) (by decide) (fun K hK => ?_)
        refine goes_ Tryd.func49 (by kernel_rfl) rfl #[.agg #[.int .i64 t320, .int .i64 t321, .int .i64 t322, .string t323], .agg #[.int .i64 t324, .int .i64 t325, .int .i64 t326, .string t327]] (by rfl) rfl rfl qnd0_ ?_
        with_reducible refine (numeral_order.calls kj3 t320 t321 t322 t323 t324 t325 t326 t327 t328 _ A32.out).mono ?_
        rintro e w44 ⟨rfl, hb⟩
        refine ⟨_, rfl, ?_⟩
        have n0_ := Aside0.mk (blk_below (g := gb317) (o := .cells #[.int .u8 t307, .bool t308, .string t309, .int .i64 t310, .int .i64 t311] 29 (0, 0)) qnd43_ hb)
        have n1_ := Aside0.mk (blk_below (g := gb318) (o := .cells #[.int .u8 t312, .bool t313, .string t314, .int .i64 t315, .int .i64 t316] 29 (0, 0)) qnd67_ hb)
        have n2_ := Aside0.mk (below_step qnd40_ hb)
        clear BK317
        clear BK318
        clear HB
        have BK317 := n0_
        have BK318 := n1_
        have HB := n2_
        clear n0_ n1_ n2_
        (try clear hb); (try clear hb2); (try clear hk); (try clear hi)
        refine hK.out _ _ ⟨(blk_cell BK317.out 0).trans rfl, (blk_cell BK317.out 1).trans rfl, (blk_cell BK317.out 2).trans rfl, (blk_cell BK317.out 3).trans rfl, (blk_cell BK317.out 4).trans rfl, (blk_cell BK318.out 0).trans rfl, (blk_cell BK318.out 1).trans rfl, (blk_cell BK318.out 2).trans rfl, (blk_cell BK318.out 3).trans rfl, (blk_cell BK318.out 4).trans rfl⟩ (fun hHeld => ?_)
        clear hK K
        refine norm_ (a' := ?_) ?_ ?_
        rotate_left
        ·
         show Act.put _ (some 62) _ = _
         simp only [Act.put, List.setIfInBounds_toArray, List.set_cons_zero, List.set_cons_succ, i64_w, i32_w]
         rfl
        refine pure_ (i := 15) (N := some 6) (v := ?_) (a' := ?_) #[true, true, true, true, true, true, true, true, true, true, true, true, true, true, true, true] rfl rfl (any_of HT_.out (by kernel_rfl)) (fun _ _ _ h => h) (Or.inl ⟨by rfl, ?_⟩) ?_ ?_
        rotate_left
        ·
         intro w'
         go_simp
         with_reducible rfl
        rotate_left
        ·
         simp only [Act.put, List.setIfInBounds_toArray, List.set_cons_zero, List.set_cons_succ, i64_w, i32_w]
         rfl
        refine done_ (done_of HT_.out (by kernel_rfl)) ?_
        try go_wp2
        go_ret
        exact ⟨qnd5_, qnd40_⟩
       ·
        rw [if_neg c29] at H
        have c29b0 : (t307 == t312) = false := beq_eq_false_iff_ne.mpr c29
        have c29b1 : (t307 != t312) = true := bne_iff_ne.mpr c29
        replace H := Option.bind_eq_some_iff.mp H
        obtain ⟨t319, A490, H⟩ := H
        replace H : (some t319) = some r := H
        have A49 := Aside0.mk A490
        clear A490
        obtain rfl := Option.some.inj H
        have tk57 : True := trivial; have tk58 : True := trivial; have tk59 : True := trivial; have tk60 : True := trivial; have tk61 : True := trivial
        go_wp2_with (first | (have ztk57 := tk57; clear tk57 ztk57; (with_reducible refine gate_callee (f := 17) rfl ?_); refine goesL_ (some 35) rfl rfl Tryd.func17 (by kernel_rfl) rfl #[.string a1] rfl qnd0_ ?_; (with_reducible refine (numeral_General.calls kj3 a1 t307 t308 t309 t310 t311 _ A27.out).mono ?_); rintro e w50 ⟨rfl, hb⟩; refine ⟨_, rfl, ?_⟩; have n0_ := Aside0.mk (below_step qnd1_ hb); clear HB; have HB := n0_; clear n0_; (try clear hb); (try clear hb2); (try clear hk); (try clear hi)) | (have ztk58 := tk58; clear tk58 ztk58; (with_reducible refine gate_callee (f := 17) rfl ?_); refine goesL_ (some 37) rfl rfl Tryd.func17 (by kernel_rfl) rfl #[.string a2] rfl qnd0_ ?_; (with_reducible refine (numeral_General.calls kj3 a2 t312 t313 t314 t315 t316 _ A28.out).mono ?_); rintro e w51 ⟨rfl, hb⟩; refine ⟨_, rfl, ?_⟩; have n0_ := Aside0.mk (below_step qnd1_ hb); clear HB; have HB := n0_; clear n0_; (try clear hb); (try clear hb2); (try clear hk); (try clear hi)) | (have ztk59 := tk59; clear tk59 ztk59; (with_reducible refine gate_dst (N := 7) rfl ?_); refine box_event ?hg (N := 7) ?hd (cs := #[.int .u8 0, .bool false, .string (⟨#[]⟩ : ByteArray), .int .i64 0, .int .i64 0]) (t := 29) ?hr ?_; (case hd => rfl); (case hg => rfl); (case hr => first | (go_simp; done) | (go_simp; rfl)); intro gb317 hg w52 hbox hb; have n0_ := Aside0.mk (below_step qnd1_ hb); have n1_ := Aside0.mk (hbox); have n2_ := Aside0.mk ((by rw [hg]; exact (below_size qnd1_) : w.heap.size ≤ gb317)); have n3_ := Aside0.mk ((by rw [hg]; exact (below_size qnd1_) : w.heap.size ≤ gb317)); clear HB; have HB := n0_; have BK317 := n1_; have GW317 := n2_; have GE317 := n3_; clear n0_ n1_ n2_ n3_; clear hb hbox hg) | (have ztk60 := tk60; clear tk60 ztk60; (with_reducible refine gate_dst (N := 8) rfl ?_); refine box_event ?hg (N := 8) ?hd (cs := #[.int .u8 0, .bool false, .string (⟨#[]⟩ : ByteArray), .int .i64 0, .int .i64 0]) (t := 29) ?hr ?_; (case hd => rfl); (case hg => rfl); (case hr => first | (go_simp; done) | (go_simp; rfl)); intro gb318 hg w53 hbox hb; have n0_ := Aside0.mk (blk_below (g := gb317) (o := .cells #[.int .u8 0, .bool false, .string (⟨#[]⟩ : ByteArray), .int .i64 0, .int .i64 0] 29 (0, 0)) qnd43_ hb); have n1_ := Aside0.mk (below_step qnd46_ hb); have n2_ := Aside0.mk (hbox); have n3_ := Aside0.mk ((by rw [hg]; exact (below_size qnd46_) : w.heap.size ≤ gb318)); have n4_ := Aside0.mk ((by rw [hg]; exact (below_size qnd46_) : w.heap.size ≤ gb318)); have n5_ := Aside0.mk ((by rw [hg]; exact Nat.ne_of_lt (blk_lt (g := gb317) (o := .cells #[.int .u8 0, .bool false, .string (⟨#[]⟩ : ByteArray), .int .i64 0, .int .i64 0] 29 (0, 0)) qnd43_) : gb317 ≠ gb318)); have n6_ := Aside0.mk ((by rw [hg]; exact Nat.ne_of_gt (blk_lt (g := gb317) (o := .cells #[.int .u8 0, .bool false, .string (⟨#[]⟩ : ByteArray), .int .i64 0, .int .i64 0] 29 (0, 0)) qnd43_) : gb318 ≠ gb317)); clear BK317; clear HB; have BK317 := n0_; have HB := n1_; have BK318 := n2_; have GW318 := n3_; have GE318 := n4_; have NB317_318 := n5_; have NB318_317 := n6_; clear n0_ n1_ n2_ n3_ n4_ n5_ n6_; clear hb hbox hg; have hnb54 := NB317_318.out; have hnc54 := NB318_317.out; have hcz55_0 : w53.cell? ⟨gb317, 0, none⟩ = some (.int .u8 0) := (blk_cell BK317.out 0).trans rfl; have hcz55_1 : w53.cell? ⟨gb317, 1, none⟩ = some (.bool false) := (blk_cell BK317.out 1).trans rfl; have hcz55_2 : w53.cell? ⟨gb317, 2, none⟩ = some (.string (⟨#[]⟩ : ByteArray)) := (blk_cell BK317.out 2).trans rfl; have hcz55_3 : w53.cell? ⟨gb317, 3, none⟩ = some (.int .i64 0) := (blk_cell BK317.out 3).trans rfl; have hcz55_4 : w53.cell? ⟨gb317, 4, none⟩ = some (.int .i64 0) := (blk_cell BK317.out 4).trans rfl; have hfz55_0 := blk_frozen BK317.out 0; have hfz55_1 := blk_frozen BK317.out 1; have hfz55_2 := blk_frozen BK317.out 2; have hfz55_3 := blk_frozen BK317.out 3; have hfz55_4 := blk_frozen BK317.out 4; have hcz56_0 : w53.cell? ⟨gb318, 0, none⟩ = some (.int .u8 0) := (blk_cell BK318.out 0).trans rfl; have hcz56_1 : w53.cell? ⟨gb318, 1, none⟩ = some (.bool false) := (blk_cell BK318.out 1).trans rfl; have hcz56_2 : w53.cell? ⟨gb318, 2, none⟩ = some (.string (⟨#[]⟩ : ByteArray)) := (blk_cell BK318.out 2).trans rfl; have hcz56_3 : w53.cell? ⟨gb318, 3, none⟩ = some (.int .i64 0) := (blk_cell BK318.out 3).trans rfl; have hcz56_4 : w53.cell? ⟨gb318, 4, none⟩ = some (.int .i64 0) := (blk_cell BK318.out 4).trans rfl; have hfz56_0 := blk_frozen BK318.out 0; have hfz56_1 := blk_frozen BK318.out 1; have hfz56_2 := blk_frozen BK318.out 2; have hfz56_3 := blk_frozen BK318.out 3; have hfz56_4 := blk_frozen BK318.out 4) | (have ztk61 := tk61; clear tk61 ztk61; (with_reducible refine gate_callee (f := 53) rfl ?_); refine goesL_ (some 47) rfl rfl Tryd.func53 (by kernel_rfl) rfl #[.int .u8 t307, .int .u8 t312] rfl qnd0_ ?_; (with_reducible refine (api_Class_53.calls t307 t312 t319 _ A49.out).mono ?_); rintro e w' ⟨rfl, ⟨nd, rfl⟩⟩; refine ⟨_, rfl, ?_⟩))
        go_ret
        exact ⟨qnd5_, qnd40_⟩
      ·
       rw [if_neg c26] at H
       have c26b0 : (a0 == 32) = false := beq_eq_false_iff_ne.mpr c26
       have c26b1 : (a0 != 32) = true := bne_iff_ne.mpr c26
       replace H := Option.bind_eq_some_iff.mp H
       obtain ⟨t329, A620, H⟩ := H
       replace H : (some t329) = some r := H
       have A62 := Aside0.mk A620
       clear A620
       obtain rfl := Option.some.inj H
       go_wp2_with (first | ((with_reducible refine gate_callee (f := 55) rfl ?_); refine goesL_ (some 65) rfl rfl Tryd.func55 (by kernel_rfl) rfl #[.string a1, .string a2] rfl qnd0_ ?_; (with_reducible refine (strings_Compare.calls a1 a2 t329 _ A62.out).mono ?_); rintro e w' ⟨rfl, ⟨nd, rfl⟩⟩; refine ⟨_, rfl, ?_⟩))
       go_ret
       exact ⟨qnd5_, qnd1_⟩


/-! ### milllaw3_alive: function 25 -/
def milllaw3_alive.f (k : Nat)  : Option (Bool) := (numeral_Decimal.f k (⟨#[45, 49, 50, 46, 53, 120]⟩ : ByteArray)).bind fun bt330 => (if bt330.1 = true then (if bt330.2.1.toList = ([49, 50] : List UInt8) then (if bt330.2.2.1.toList = ([53] : List UInt8) then (if bt330.2.2.2 = 5 then ((numeral_Compare.f k 16 (⟨#[57]⟩ : ByteArray) (⟨#[49, 48]⟩ : ByteArray)).bind fun t335 => (if t335 = (-1) then ((numeral_Compare.f k 256 (⟨#[98]⟩ : ByteArray) (⟨#[97]⟩ : ByteArray)).bind fun t336 => (some (t336 == 1))) else (some false))) else (some false)) else (some false)) else (some false)) else (some false))
set_option maxHeartbeats 8000000 in
set_option maxRecDepth 100000 in
theorem milllaw3_alive.calls (k : Nat)  (r : Bool) (w : World) (hGL : GOK w) (h : milllaw3_alive.f k  = some r) :
  Calls Tryd.prog 25 #[] w fun e w' => e = .returned (.bool r) ∧ Below w.heap.size w w' := by
 have hu25 := Tryd.underlying25
 have HGL := Aside0.mk hGL
 clear hGL
 have HB := Aside0.mk (Below.refl w.heap.size w)
 have H : ((numeral_Decimal.f k (⟨#[45, 49, 50, 46, 53, 120]⟩ : ByteArray)).bind fun bt330 => (if bt330.1 = true then (if bt330.2.1.toList = ([49, 50] : List UInt8) then (if bt330.2.2.1.toList = ([53] : List UInt8) then (if bt330.2.2.2 = 5 then ((numeral_Compare.f k 16 (⟨#[57]⟩ : ByteArray) (⟨#[49, 48]⟩ : ByteArray)).bind fun t335 => (if t335 = (-1) then ((numeral_Compare.f k 256 (⟨#[98]⟩ : ByteArray) (⟨#[97]⟩ : ByteArray)).bind fun t336 => (some (t336 == 1))) else (some false))) else (some false)) else (some false)) else (some false)) else (some false))) = some r := h
 clear h
 replace H := Option.bind_eq_some_iff.mp H
 obtain ⟨⟨t330, t331, t332, t333⟩, A10, H⟩ := H
 replace H : (if t330 = true then (if t331.toList = ([49, 50] : List UInt8) then (if t332.toList = ([53] : List UInt8) then (if t333 = 5 then ((numeral_Compare.f k 16 (⟨#[57]⟩ : ByteArray) (⟨#[49, 48]⟩ : ByteArray)).bind fun t335 => (if t335 = (-1) then ((numeral_Compare.f k 256 (⟨#[98]⟩ : ByteArray) (⟨#[97]⟩ : ByteArray)).bind fun t336 => (some (t336 == 1))) else (some false))) else (some false)) else (some false)) else (some false)) else (some false)) = some r := H
 have A1 := Aside0.mk A10
 clear A10
 by_cases c2 : t330 = true
 ·
  subst c2
  have H1 : (if t331.toList = ([49, 50] : List UInt8) then (if t332.toList = ([53] : List UInt8) then (if t333 = 5 then ((numeral_Compare.f k 16 (⟨#[57]⟩ : ByteArray) (⟨#[49, 48]⟩ : ByteArray)).bind fun t335 => (if t335 = (-1) then ((numeral_Compare.f k 256 (⟨#[98]⟩ : ByteArray) (⟨#[97]⟩ : ByteArray)).bind fun t336 => (some (t336 == 1))) else (some false))) else (some false)) else (some false)) else (some false)) = some r := by rw [if_pos rfl] at H; exact H
  clear H
  have H := H1
  clear H1
  by_cases c3 : t331.toList = ([49, 50] : List UInt8)
  ·
   rw [if_pos c3] at H
   have c3b0 : (t331.toList == ([49, 50] : List UInt8)) = true := beq_iff_eq.mpr c3
   have c3b1 : (t331.toList != ([49, 50] : List UInt8)) = false := bne_eq_false_iff_eq.mpr c3
   clear c3
   by_cases c4 : t332.toList = ([53] : List UInt8)
   ·
    rw [if_pos c4] at H
    have c4b0 : (t332.toList == ([53] : List UInt8)) = true := beq_iff_eq.mpr c4
    have c4b1 : (t332.toList != ([53] : List UInt8)) = false := bne_eq_false_iff_eq.mpr c4
    clear c4
    by_cases c5 : t333 = 5
    ·
     rw [if_pos c5] at H
     have c5b0 : (t333 == 5) = true := beq_iff_eq.mpr c5
     have c5b1 : (t333 != 5) = false := bne_eq_false_iff_eq.mpr c5
     clear c5
     replace H := Option.bind_eq_some_iff.mp H
     obtain ⟨t335, A60, H⟩ := H
     replace H : (if t335 = (-1) then ((numeral_Compare.f k 256 (⟨#[98]⟩ : ByteArray) (⟨#[97]⟩ : ByteArray)).bind fun t336 => (some (t336 == 1))) else (some false)) = some r := H
     have A6 := Aside0.mk A60
     clear A60
     by_cases c7 : t335 = (-1)
     ·
      rw [if_pos c7] at H
      have c7b0 : (t335 == (-1)) = true := beq_iff_eq.mpr c7
      have c7b1 : (t335 != (-1)) = false := bne_eq_false_iff_eq.mpr c7
      clear c7
      replace H := Option.bind_eq_some_iff.mp H
      obtain ⟨t336, A80, H⟩ := H
      replace H : (some (t336 == 1)) = some r := H
      have A8 := Aside0.mk A80
      clear A80
      obtain rfl := Option.some.inj H
      go_enter Tryd.func25, Tryd.ntmps25
      have tk14 : True := trivial; have tk15 : True := trivial; have tk16 : True := trivial; have tk17 : True := trivial
      go_wp2_with (first | (have ztk14 := tk14; clear tk14 ztk14; (with_reducible refine gate_callee (f := 16) rfl ?_); refine goesL_ (some 2) rfl rfl Tryd.func16 (by kernel_rfl) rfl #[.string (⟨#[45, 49, 50, 46, 53, 120]⟩ : ByteArray)] rfl qnd0_ ?_; (with_reducible refine (numeral_Decimal.calls k (⟨#[45, 49, 50, 46, 53, 120]⟩ : ByteArray) true t331 t332 t333 _ A1.out).mono ?_); rintro e w9 ⟨rfl, hb⟩; refine ⟨_, rfl, ?_⟩; have n0_ := Aside0.mk (below_step qnd1_ hb); clear HB; have HB := n0_; clear n0_; (try clear hb); (try clear hb2); (try clear hk); (try clear hi)) | (have ztk15 := tk15; clear tk15 ztk15; (with_reducible refine gate_dst (N := 1) rfl ?_); refine box_event ?hg (N := 1) ?hd (cs := #[.bool false, .string (⟨#[]⟩ : ByteArray), .string (⟨#[]⟩ : ByteArray), .int .i64 0]) (t := 25) ?hr ?_; (case hd => rfl); (case hg => rfl); (case hr => first | (go_simp; done) | (go_simp; rfl)); intro gb334 hg w10 hbox hb; have n0_ := Aside0.mk (below_step qnd1_ hb); have n1_ := Aside0.mk (hbox); have n2_ := Aside0.mk ((by rw [hg]; exact (below_size qnd1_) : w.heap.size ≤ gb334)); have n3_ := Aside0.mk ((by rw [hg]; exact (below_size qnd1_) : w.heap.size ≤ gb334)); clear HB; have HB := n0_; have BK334 := n1_; have GW334 := n2_; have GE334 := n3_; clear n0_ n1_ n2_ n3_; clear hb hbox hg; have hcz11_0 : w10.cell? ⟨gb334, 0, none⟩ = some (.bool false) := (blk_cell BK334.out 0).trans rfl; have hcz11_1 : w10.cell? ⟨gb334, 1, none⟩ = some (.string (⟨#[]⟩ : ByteArray)) := (blk_cell BK334.out 1).trans rfl; have hcz11_2 : w10.cell? ⟨gb334, 2, none⟩ = some (.string (⟨#[]⟩ : ByteArray)) := (blk_cell BK334.out 2).trans rfl; have hcz11_3 : w10.cell? ⟨gb334, 3, none⟩ = some (.int .i64 0) := (blk_cell BK334.out 3).trans rfl; have hfz11_0 := blk_frozen BK334.out 0; have hfz11_1 := blk_frozen BK334.out 1; have hfz11_2 := blk_frozen BK334.out 2; have hfz11_3 := blk_frozen BK334.out 3) | (have ztk16 := tk16; clear tk16 ztk16; go_at_call 27; (with_reducible refine (numeral_Compare.calls k 16 (⟨#[57]⟩ : ByteArray) (⟨#[49, 48]⟩ : ByteArray) t335 _ ?side1 A6.out).mono ?_); (case side1 => exact GOK.below HGL.out qnd26_); rintro e w12 ⟨rfl, hb⟩; have n0_ := Aside0.mk (blk_below (g := gb334) (o := .cells #[.bool true, .string t331, .string t332, .int .i64 t333] 25 (0, 0)) (by (with_reducible repeat (first | refine blk_drewN ?_ _ | refine blk_drew ?_ | refine blk_alloc ?_ _)); refine blk_put (cs := #[.bool true, .string t331, .string t332, .int .i64 0]) ?_ 3 _ rfl; (with_reducible repeat (first | refine blk_drewN ?_ _ | refine blk_drew ?_ | refine blk_alloc ?_ _)); refine blk_put (cs := #[.bool true, .string t331, .string (⟨#[]⟩ : ByteArray), .int .i64 0]) ?_ 2 _ rfl; (with_reducible repeat (first | refine blk_drewN ?_ _ | refine blk_drew ?_ | refine blk_alloc ?_ _)); refine blk_put (cs := #[.bool true, .string (⟨#[]⟩ : ByteArray), .string (⟨#[]⟩ : ByteArray), .int .i64 0]) ?_ 1 _ rfl; (with_reducible repeat (first | refine blk_drewN ?_ _ | refine blk_drew ?_ | refine blk_alloc ?_ _)); refine blk_put (cs := #[.bool false, .string (⟨#[]⟩ : ByteArray), .string (⟨#[]⟩ : ByteArray), .int .i64 0]) ?_ 0 _ rfl; (with_reducible repeat (first | refine blk_drewN ?_ _ | refine blk_drew ?_ | refine blk_alloc ?_ _)); exact BK334.out) hb); have n1_ := Aside0.mk (below_step qnd26_ hb); clear BK334; clear HB; have BK334 := n0_; have HB := n1_; clear n0_ n1_; (try clear hb); (try clear hb2); (try clear hk); (try clear hi)) | (have ztk17 := tk17; clear tk17 ztk17; go_at_call 27; (with_reducible refine (numeral_Compare.calls k 256 (⟨#[98]⟩ : ByteArray) (⟨#[97]⟩ : ByteArray) t336 _ ?side1 A8.out).mono ?_); (case side1 => exact GOK.below HGL.out qnd26_); rintro e w13 ⟨rfl, hb⟩; have n0_ := Aside0.mk (blk_below (g := gb334) (o := .cells #[.bool true, .string t331, .string t332, .int .i64 t333] 25 (0, 0)) (by (with_reducible repeat (first | refine blk_drewN ?_ _ | refine blk_drew ?_ | refine blk_alloc ?_ _)); exact BK334.out) hb); have n1_ := Aside0.mk (below_step qnd26_ hb); clear BK334; clear HB; have BK334 := n0_; have HB := n1_; clear n0_ n1_; (try clear hb); (try clear hb2); (try clear hk); (try clear hi)))
      go_ret
      exact ⟨qnd5_, qnd26_⟩
     ·
      rw [if_neg c7] at H
      have c7b0 : (t335 == (-1)) = false := beq_eq_false_iff_ne.mpr c7
      have c7b1 : (t335 != (-1)) = true := bne_iff_ne.mpr c7
      obtain rfl := Option.some.inj H
      go_enter Tryd.func25, Tryd.ntmps25
      have tk22 : True := trivial; have tk23 : True := trivial; have tk24 : True := trivial
      go_wp2_with (first | (have ztk22 := tk22; clear tk22 ztk22; (with_reducible refine gate_callee (f := 16) rfl ?_); refine goesL_ (some 2) rfl rfl Tryd.func16 (by kernel_rfl) rfl #[.string (⟨#[45, 49, 50, 46, 53, 120]⟩ : ByteArray)] rfl qnd0_ ?_; (with_reducible refine (numeral_Decimal.calls k (⟨#[45, 49, 50, 46, 53, 120]⟩ : ByteArray) true t331 t332 t333 _ A1.out).mono ?_); rintro e w18 ⟨rfl, hb⟩; refine ⟨_, rfl, ?_⟩; have n0_ := Aside0.mk (below_step qnd1_ hb); clear HB; have HB := n0_; clear n0_; (try clear hb); (try clear hb2); (try clear hk); (try clear hi)) | (have ztk23 := tk23; clear tk23 ztk23; (with_reducible refine gate_dst (N := 1) rfl ?_); refine box_event ?hg (N := 1) ?hd (cs := #[.bool false, .string (⟨#[]⟩ : ByteArray), .string (⟨#[]⟩ : ByteArray), .int .i64 0]) (t := 25) ?hr ?_; (case hd => rfl); (case hg => rfl); (case hr => first | (go_simp; done) | (go_simp; rfl)); intro gb334 hg w19 hbox hb; have n0_ := Aside0.mk (below_step qnd1_ hb); have n1_ := Aside0.mk (hbox); have n2_ := Aside0.mk ((by rw [hg]; exact (below_size qnd1_) : w.heap.size ≤ gb334)); have n3_ := Aside0.mk ((by rw [hg]; exact (below_size qnd1_) : w.heap.size ≤ gb334)); clear HB; have HB := n0_; have BK334 := n1_; have GW334 := n2_; have GE334 := n3_; clear n0_ n1_ n2_ n3_; clear hb hbox hg; have hcz20_0 : w19.cell? ⟨gb334, 0, none⟩ = some (.bool false) := (blk_cell BK334.out 0).trans rfl; have hcz20_1 : w19.cell? ⟨gb334, 1, none⟩ = some (.string (⟨#[]⟩ : ByteArray)) := (blk_cell BK334.out 1).trans rfl; have hcz20_2 : w19.cell? ⟨gb334, 2, none⟩ = some (.string (⟨#[]⟩ : ByteArray)) := (blk_cell BK334.out 2).trans rfl; have hcz20_3 : w19.cell? ⟨gb334, 3, none⟩ = some (.int .i64 0) := (blk_cell BK334.out 3).trans rfl; have hfz20_0 := blk_frozen BK334.out 0; have hfz20_1 := blk_frozen BK334.out 1; have hfz20_2 := blk_frozen BK334.out 2; have hfz20_3 := blk_frozen BK334.out 3) | (have ztk24 := tk24; clear tk24 ztk24; go_at_call 27; (with_reducible refine (numeral_Compare.calls k 16 (⟨#[57]⟩ : ByteArray) (⟨#[49, 48]⟩ : ByteArray) t335 _ ?side1 A6.out).mono ?_); (case side1 => exact GOK.below HGL.out qnd26_); rintro e w21 ⟨rfl, hb⟩; have n0_ := Aside0.mk (blk_below (g := gb334) (o := .cells #[.bool true, .string t331, .string t332, .int .i64 t333] 25 (0, 0)) (by (with_reducible repeat (first | refine blk_drewN ?_ _ | refine blk_drew ?_ | refine blk_alloc ?_ _)); refine blk_put (cs := #[.bool true, .string t331, .string t332, .int .i64 0]) ?_ 3 _ rfl; (with_reducible repeat (first | refine blk_drewN ?_ _ | refine blk_drew ?_ | refine blk_alloc ?_ _)); refine blk_put (cs := #[.bool true, .string t331, .string (⟨#[]⟩ : ByteArray), .int .i64 0]) ?_ 2 _ rfl; (with_reducible repeat (first | refine blk_drewN ?_ _ | refine blk_drew ?_ | refine blk_alloc ?_ _)); refine blk_put (cs := #[.bool true, .string (⟨#[]⟩ : ByteArray), .string (⟨#[]⟩ : ByteArray), .int .i64 0]) ?_ 1 _ rfl; (with_reducible repeat (first | refine blk_drewN ?_ _ | refine blk_drew ?_ | refine blk_alloc ?_ _)); refine blk_put (cs := #[.bool false, .string (⟨#[]⟩ : ByteArray), .string (⟨#[]⟩ : ByteArray), .int .i64 0]) ?_ 0 _ rfl; (with_reducible repeat (first | refine blk_drewN ?_ _ | refine blk_drew ?_ | refine blk_alloc ?_ _)); exact BK334.out) hb); have n1_ := Aside0.mk (below_step qnd26_ hb); clear BK334; clear HB; have BK334 := n0_; have HB := n1_; clear n0_ n1_; (try clear hb); (try clear hb2); (try clear hk); (try clear hi)))
      go_ret
      exact ⟨qnd5_, qnd26_⟩
    ·
     rw [if_neg c5] at H
     have c5b0 : (t333 == 5) = false := beq_eq_false_iff_ne.mpr c5
     have c5b1 : (t333 != 5) = true := bne_iff_ne.mpr c5
     obtain rfl := Option.some.inj H
     go_enter Tryd.func25, Tryd.ntmps25
     have tk28 : True := trivial; have tk29 : True := trivial
     go_wp2_with (first | (have ztk28 := tk28; clear tk28 ztk28; (with_reducible refine gate_callee (f := 16) rfl ?_); refine goesL_ (some 2) rfl rfl Tryd.func16 (by kernel_rfl) rfl #[.string (⟨#[45, 49, 50, 46, 53, 120]⟩ : ByteArray)] rfl qnd0_ ?_; (with_reducible refine (numeral_Decimal.calls k (⟨#[45, 49, 50, 46, 53, 120]⟩ : ByteArray) true t331 t332 t333 _ A1.out).mono ?_); rintro e w25 ⟨rfl, hb⟩; refine ⟨_, rfl, ?_⟩; have n0_ := Aside0.mk (below_step qnd1_ hb); clear HB; have HB := n0_; clear n0_; (try clear hb); (try clear hb2); (try clear hk); (try clear hi)) | (have ztk29 := tk29; clear tk29 ztk29; (with_reducible refine gate_dst (N := 1) rfl ?_); refine box_event ?hg (N := 1) ?hd (cs := #[.bool false, .string (⟨#[]⟩ : ByteArray), .string (⟨#[]⟩ : ByteArray), .int .i64 0]) (t := 25) ?hr ?_; (case hd => rfl); (case hg => rfl); (case hr => first | (go_simp; done) | (go_simp; rfl)); intro gb334 hg w26 hbox hb; have n0_ := Aside0.mk (below_step qnd1_ hb); have n1_ := Aside0.mk (hbox); have n2_ := Aside0.mk ((by rw [hg]; exact (below_size qnd1_) : w.heap.size ≤ gb334)); have n3_ := Aside0.mk ((by rw [hg]; exact (below_size qnd1_) : w.heap.size ≤ gb334)); clear HB; have HB := n0_; have BK334 := n1_; have GW334 := n2_; have GE334 := n3_; clear n0_ n1_ n2_ n3_; clear hb hbox hg; have hcz27_0 : w26.cell? ⟨gb334, 0, none⟩ = some (.bool false) := (blk_cell BK334.out 0).trans rfl; have hcz27_1 : w26.cell? ⟨gb334, 1, none⟩ = some (.string (⟨#[]⟩ : ByteArray)) := (blk_cell BK334.out 1).trans rfl; have hcz27_2 : w26.cell? ⟨gb334, 2, none⟩ = some (.string (⟨#[]⟩ : ByteArray)) := (blk_cell BK334.out 2).trans rfl; have hcz27_3 : w26.cell? ⟨gb334, 3, none⟩ = some (.int .i64 0) := (blk_cell BK334.out 3).trans rfl; have hfz27_0 := blk_frozen BK334.out 0; have hfz27_1 := blk_frozen BK334.out 1; have hfz27_2 := blk_frozen BK334.out 2; have hfz27_3 := blk_frozen BK334.out 3))
     go_ret
     exact ⟨qnd5_, qnd26_⟩
   ·
    rw [if_neg c4] at H
    have c4b0 : (t332.toList == ([53] : List UInt8)) = false := beq_eq_false_iff_ne.mpr c4
    have c4b1 : (t332.toList != ([53] : List UInt8)) = true := bne_iff_ne.mpr c4
    obtain rfl := Option.some.inj H
    go_enter Tryd.func25, Tryd.ntmps25
    have tk33 : True := trivial; have tk34 : True := trivial
    go_wp2_with (first | (have ztk33 := tk33; clear tk33 ztk33; (with_reducible refine gate_callee (f := 16) rfl ?_); refine goesL_ (some 2) rfl rfl Tryd.func16 (by kernel_rfl) rfl #[.string (⟨#[45, 49, 50, 46, 53, 120]⟩ : ByteArray)] rfl qnd0_ ?_; (with_reducible refine (numeral_Decimal.calls k (⟨#[45, 49, 50, 46, 53, 120]⟩ : ByteArray) true t331 t332 t333 _ A1.out).mono ?_); rintro e w30 ⟨rfl, hb⟩; refine ⟨_, rfl, ?_⟩; have n0_ := Aside0.mk (below_step qnd1_ hb); clear HB; have HB := n0_; clear n0_; (try clear hb); (try clear hb2); (try clear hk); (try clear hi)) | (have ztk34 := tk34; clear tk34 ztk34; (with_reducible refine gate_dst (N := 1) rfl ?_); refine box_event ?hg (N := 1) ?hd (cs := #[.bool false, .string (⟨#[]⟩ : ByteArray), .string (⟨#[]⟩ : ByteArray), .int .i64 0]) (t := 25) ?hr ?_; (case hd => rfl); (case hg => rfl); (case hr => first | (go_simp; done) | (go_simp; rfl)); intro gb334 hg w31 hbox hb; have n0_ := Aside0.mk (below_step qnd1_ hb); have n1_ := Aside0.mk (hbox); have n2_ := Aside0.mk ((by rw [hg]; exact (below_size qnd1_) : w.heap.size ≤ gb334)); have n3_ := Aside0.mk ((by rw [hg]; exact (below_size qnd1_) : w.heap.size ≤ gb334)); clear HB; have HB := n0_; have BK334 := n1_; have GW334 := n2_; have GE334 := n3_; clear n0_ n1_ n2_ n3_; clear hb hbox hg; have hcz32_0 : w31.cell? ⟨gb334, 0, none⟩ = some (.bool false) := (blk_cell BK334.out 0).trans rfl; have hcz32_1 : w31.cell? ⟨gb334, 1, none⟩ = some (.string (⟨#[]⟩ : ByteArray)) := (blk_cell BK334.out 1).trans rfl; have hcz32_2 : w31.cell? ⟨gb334, 2, none⟩ = some (.string (⟨#[]⟩ : ByteArray)) := (blk_cell BK334.out 2).trans rfl; have hcz32_3 : w31.cell? ⟨gb334, 3, none⟩ = some (.int .i64 0) := (blk_cell BK334.out 3).trans rfl; have hfz32_0 := blk_frozen BK334.out 0; have hfz32_1 := blk_frozen BK334.out 1; have hfz32_2 := blk_frozen BK334.out 2; have hfz32_3 := blk_frozen BK334.out 3))
    go_ret
    exact ⟨qnd5_, qnd26_⟩
  ·
   rw [if_neg c3] at H
   have c3b0 : (t331.toList == ([49, 50] : List UInt8)) = false := beq_eq_false_iff_ne.mpr c3
   have c3b1 : (t331.toList != ([49, 50] : List UInt8)) = true := bne_iff_ne.mpr c3
   obtain rfl := Option.some.inj H
   go_enter Tryd.func25, Tryd.ntmps25
   have tk38 : True := trivial; have tk39 : True := trivial
   go_wp2_with (first | (have ztk38 := tk38; clear tk38 ztk38; (with_reducible refine gate_callee (f := 16) rfl ?_); refine goesL_ (some 2) rfl rfl Tryd.func16 (by kernel_rfl) rfl #[.string (⟨#[45, 49, 50, 46, 53, 120]⟩ : ByteArray)] rfl qnd0_ ?_; (with_reducible refine (numeral_Decimal.calls k (⟨#[45, 49, 50, 46, 53, 120]⟩ : ByteArray) true t331 t332 t333 _ A1.out).mono ?_); rintro e w35 ⟨rfl, hb⟩; refine ⟨_, rfl, ?_⟩; have n0_ := Aside0.mk (below_step qnd1_ hb); clear HB; have HB := n0_; clear n0_; (try clear hb); (try clear hb2); (try clear hk); (try clear hi)) | (have ztk39 := tk39; clear tk39 ztk39; (with_reducible refine gate_dst (N := 1) rfl ?_); refine box_event ?hg (N := 1) ?hd (cs := #[.bool false, .string (⟨#[]⟩ : ByteArray), .string (⟨#[]⟩ : ByteArray), .int .i64 0]) (t := 25) ?hr ?_; (case hd => rfl); (case hg => rfl); (case hr => first | (go_simp; done) | (go_simp; rfl)); intro gb334 hg w36 hbox hb; have n0_ := Aside0.mk (below_step qnd1_ hb); have n1_ := Aside0.mk (hbox); have n2_ := Aside0.mk ((by rw [hg]; exact (below_size qnd1_) : w.heap.size ≤ gb334)); have n3_ := Aside0.mk ((by rw [hg]; exact (below_size qnd1_) : w.heap.size ≤ gb334)); clear HB; have HB := n0_; have BK334 := n1_; have GW334 := n2_; have GE334 := n3_; clear n0_ n1_ n2_ n3_; clear hb hbox hg; have hcz37_0 : w36.cell? ⟨gb334, 0, none⟩ = some (.bool false) := (blk_cell BK334.out 0).trans rfl; have hcz37_1 : w36.cell? ⟨gb334, 1, none⟩ = some (.string (⟨#[]⟩ : ByteArray)) := (blk_cell BK334.out 1).trans rfl; have hcz37_2 : w36.cell? ⟨gb334, 2, none⟩ = some (.string (⟨#[]⟩ : ByteArray)) := (blk_cell BK334.out 2).trans rfl; have hcz37_3 : w36.cell? ⟨gb334, 3, none⟩ = some (.int .i64 0) := (blk_cell BK334.out 3).trans rfl; have hfz37_0 := blk_frozen BK334.out 0; have hfz37_1 := blk_frozen BK334.out 1; have hfz37_2 := blk_frozen BK334.out 2; have hfz37_3 := blk_frozen BK334.out 3))
   go_ret
   exact ⟨qnd5_, qnd26_⟩
 ·
  replace c2 := Bool.eq_false_iff.mpr c2
  subst c2
  have H1 : (some false) = some r := by rw [if_neg (show ¬ (false = true) by decide)] at H; exact H
  clear H
  have H := H1
  clear H1
  obtain rfl := Option.some.inj H
  go_enter Tryd.func25, Tryd.ntmps25
  have tk43 : True := trivial; have tk44 : True := trivial
  go_wp2_with (first | (have ztk43 := tk43; clear tk43 ztk43; (with_reducible refine gate_callee (f := 16) rfl ?_); refine goesL_ (some 2) rfl rfl Tryd.func16 (by kernel_rfl) rfl #[.string (⟨#[45, 49, 50, 46, 53, 120]⟩ : ByteArray)] rfl qnd0_ ?_; (with_reducible refine (numeral_Decimal.calls k (⟨#[45, 49, 50, 46, 53, 120]⟩ : ByteArray) false t331 t332 t333 _ A1.out).mono ?_); rintro e w40 ⟨rfl, hb⟩; refine ⟨_, rfl, ?_⟩; have n0_ := Aside0.mk (below_step qnd1_ hb); clear HB; have HB := n0_; clear n0_; (try clear hb); (try clear hb2); (try clear hk); (try clear hi)) | (have ztk44 := tk44; clear tk44 ztk44; (with_reducible refine gate_dst (N := 1) rfl ?_); refine box_event ?hg (N := 1) ?hd (cs := #[.bool false, .string (⟨#[]⟩ : ByteArray), .string (⟨#[]⟩ : ByteArray), .int .i64 0]) (t := 25) ?hr ?_; (case hd => rfl); (case hg => rfl); (case hr => first | (go_simp; done) | (go_simp; rfl)); intro gb334 hg w41 hbox hb; have n0_ := Aside0.mk (below_step qnd1_ hb); have n1_ := Aside0.mk (hbox); have n2_ := Aside0.mk ((by rw [hg]; exact (below_size qnd1_) : w.heap.size ≤ gb334)); have n3_ := Aside0.mk ((by rw [hg]; exact (below_size qnd1_) : w.heap.size ≤ gb334)); clear HB; have HB := n0_; have BK334 := n1_; have GW334 := n2_; have GE334 := n3_; clear n0_ n1_ n2_ n3_; clear hb hbox hg; have hcz42_0 : w41.cell? ⟨gb334, 0, none⟩ = some (.bool false) := (blk_cell BK334.out 0).trans rfl; have hcz42_1 : w41.cell? ⟨gb334, 1, none⟩ = some (.string (⟨#[]⟩ : ByteArray)) := (blk_cell BK334.out 1).trans rfl; have hcz42_2 : w41.cell? ⟨gb334, 2, none⟩ = some (.string (⟨#[]⟩ : ByteArray)) := (blk_cell BK334.out 2).trans rfl; have hcz42_3 : w41.cell? ⟨gb334, 3, none⟩ = some (.int .i64 0) := (blk_cell BK334.out 3).trans rfl; have hfz42_0 := blk_frozen BK334.out 0; have hfz42_1 := blk_frozen BK334.out 1; have hfz42_2 := blk_frozen BK334.out 2; have hfz42_3 := blk_frozen BK334.out 3))
  go_ret
  exact ⟨qnd5_, qnd26_⟩


attribute [local go_sem high] eqA25
/-! ### milllaw3_NumeralDecimals: function 4 -/
def milllaw3_NumeralDecimals.f (k : Nat) (a0 : ByteArray) : Option (Bool) := (numeral_Human.f k a0).bind fun bt337 => ((millref3_Human.f k a0).bind fun bt343 => ((numeral_Decimal.f k a0).bind fun bt349 => ((millref3_Decimal.f k a0).bind fun bt353 => (if (bt349.1 == bt353.1 && (bt349.2.1.toList == bt353.2.1.toList && (bt349.2.2.1.toList == bt353.2.2.1.toList && (bt349.2.2.2 == bt353.2.2.2)))) = true then (if (bt337.1 == bt343.1 && (bt337.2.1.toList == bt343.2.1.toList && (bt337.2.2.1.toList == bt343.2.2.1.toList && (bt337.2.2.2.1 == bt343.2.2.2.1)))) = true then (if bt337.2.2.2.2 = bt343.2.2.2.2 then ((numeral_Month.f k a0).bind fun t357 => ((millref3_Month.f k a0).bind fun t358 => (if t357 = t358 then ((milllaw3_alive.f k).bind fun t359 => (some t359)) else (some false)))) else (some false)) else (some false)) else (some false)))))
set_option maxHeartbeats 8000000 in
set_option maxRecDepth 100000 in
theorem milllaw3_NumeralDecimals.calls (k : Nat) (a0 : ByteArray) (r : Bool) (w : World) (hGL : GOK w) (h : milllaw3_NumeralDecimals.f k a0 = some r) :
  Calls Tryd.prog 4 #[.string a0] w fun e w' => e = .returned (.bool r) ∧ Below w.heap.size w w' := by
 have hu25 := Tryd.underlying25
 have HGL := Aside0.mk hGL
 clear hGL
 have HB := Aside0.mk (Below.refl w.heap.size w)
 have H : ((numeral_Human.f k a0).bind fun bt337 => ((millref3_Human.f k a0).bind fun bt343 => ((numeral_Decimal.f k a0).bind fun bt349 => ((millref3_Decimal.f k a0).bind fun bt353 => (if (bt349.1 == bt353.1 && (bt349.2.1.toList == bt353.2.1.toList && (bt349.2.2.1.toList == bt353.2.2.1.toList && (bt349.2.2.2 == bt353.2.2.2)))) = true then (if (bt337.1 == bt343.1 && (bt337.2.1.toList == bt343.2.1.toList && (bt337.2.2.1.toList == bt343.2.2.1.toList && (bt337.2.2.2.1 == bt343.2.2.2.1)))) = true then (if bt337.2.2.2.2 = bt343.2.2.2.2 then ((numeral_Month.f k a0).bind fun t357 => ((millref3_Month.f k a0).bind fun t358 => (if t357 = t358 then ((milllaw3_alive.f k).bind fun t359 => (some t359)) else (some false)))) else (some false)) else (some false)) else (some false)))))) = some r := h
 clear h
 replace H := Option.bind_eq_some_iff.mp H
 obtain ⟨⟨t337, t338, t339, t340, t341⟩, A20, H⟩ := H
 replace H : ((millref3_Human.f k a0).bind fun bt343 => ((numeral_Decimal.f k a0).bind fun bt349 => ((millref3_Decimal.f k a0).bind fun bt353 => (if (bt349.1 == bt353.1 && (bt349.2.1.toList == bt353.2.1.toList && (bt349.2.2.1.toList == bt353.2.2.1.toList && (bt349.2.2.2 == bt353.2.2.2)))) = true then (if (t337 == bt343.1 && (t338.toList == bt343.2.1.toList && (t339.toList == bt343.2.2.1.toList && (t340 == bt343.2.2.2.1)))) = true then (if t341 = bt343.2.2.2.2 then ((numeral_Month.f k a0).bind fun t357 => ((millref3_Month.f k a0).bind fun t358 => (if t357 = t358 then ((milllaw3_alive.f k).bind fun t359 => (some t359)) else (some false)))) else (some false)) else (some false)) else (some false))))) = some r := H
 have A2 := Aside0.mk A20
 clear A20
 replace H := Option.bind_eq_some_iff.mp H
 obtain ⟨⟨t343, t344, t345, t346, t347⟩, A30, H⟩ := H
 replace H : ((numeral_Decimal.f k a0).bind fun bt349 => ((millref3_Decimal.f k a0).bind fun bt353 => (if (bt349.1 == bt353.1 && (bt349.2.1.toList == bt353.2.1.toList && (bt349.2.2.1.toList == bt353.2.2.1.toList && (bt349.2.2.2 == bt353.2.2.2)))) = true then (if (t337 == t343 && (t338.toList == t344.toList && (t339.toList == t345.toList && (t340 == t346)))) = true then (if t341 = t347 then ((numeral_Month.f k a0).bind fun t357 => ((millref3_Month.f k a0).bind fun t358 => (if t357 = t358 then ((milllaw3_alive.f k).bind fun t359 => (some t359)) else (some false)))) else (some false)) else (some false)) else (some false)))) = some r := H
 have A3 := Aside0.mk A30
 clear A30
 replace H := Option.bind_eq_some_iff.mp H
 obtain ⟨⟨t349, t350, t351, t352⟩, A40, H⟩ := H
 replace H : ((millref3_Decimal.f k a0).bind fun bt353 => (if (t349 == bt353.1 && (t350.toList == bt353.2.1.toList && (t351.toList == bt353.2.2.1.toList && (t352 == bt353.2.2.2)))) = true then (if (t337 == t343 && (t338.toList == t344.toList && (t339.toList == t345.toList && (t340 == t346)))) = true then (if t341 = t347 then ((numeral_Month.f k a0).bind fun t357 => ((millref3_Month.f k a0).bind fun t358 => (if t357 = t358 then ((milllaw3_alive.f k).bind fun t359 => (some t359)) else (some false)))) else (some false)) else (some false)) else (some false))) = some r := H
 have A4 := Aside0.mk A40
 clear A40
 replace H := Option.bind_eq_some_iff.mp H
 obtain ⟨⟨t353, t354, t355, t356⟩, A50, H⟩ := H
 replace H : (if (t349 == t353 && (t350.toList == t354.toList && (t351.toList == t355.toList && (t352 == t356)))) = true then (if (t337 == t343 && (t338.toList == t344.toList && (t339.toList == t345.toList && (t340 == t346)))) = true then (if t341 = t347 then ((numeral_Month.f k a0).bind fun t357 => ((millref3_Month.f k a0).bind fun t358 => (if t357 = t358 then ((milllaw3_alive.f k).bind fun t359 => (some t359)) else (some false)))) else (some false)) else (some false)) else (some false)) = some r := H
 have A5 := Aside0.mk A50
 clear A50
 by_cases c6 : (t349 == t353 && (t350.toList == t354.toList && (t351.toList == t355.toList && (t352 == t356)))) = true
 ·
  rw [if_pos c6] at H
  have c6b0 : (t349 == t353 && (t350.toList == t354.toList && (t351.toList == t355.toList && (t352 == t356)))) = true := c6
  (try (have c6b1 : decide (t349 = t353 && (t350.toList == t354.toList && (t351.toList == t355.toList && (t352 == t356)))) = true := by simpa using c6))
  (try (have c6b2 : (t349 == t353 && (t350.toList == t354.toList && (t351.toList == t355.toList && (t352 == t356)))) = true := by simpa using c6))
  clear c6
  by_cases c7 : (t337 == t343 && (t338.toList == t344.toList && (t339.toList == t345.toList && (t340 == t346)))) = true
  ·
   rw [if_pos c7] at H
   have c7b0 : (t337 == t343 && (t338.toList == t344.toList && (t339.toList == t345.toList && (t340 == t346)))) = true := c7
   (try (have c7b1 : decide (t337 = t343 && (t338.toList == t344.toList && (t339.toList == t345.toList && (t340 == t346)))) = true := by simpa using c7))
   (try (have c7b2 : (t337 == t343 && (t338.toList == t344.toList && (t339.toList == t345.toList && (t340 == t346)))) = true := by simpa using c7))
   clear c7
   by_cases c8 : t341 = t347
   ·
    rw [if_pos c8] at H
    have c8b0 : (t341 == t347) = true := beq_iff_eq.mpr c8
    have c8b1 : (t341 != t347) = false := bne_eq_false_iff_eq.mpr c8
    clear c8
    replace H := Option.bind_eq_some_iff.mp H
    obtain ⟨t357, A90, H⟩ := H
    replace H : ((millref3_Month.f k a0).bind fun t358 => (if t357 = t358 then ((milllaw3_alive.f k).bind fun t359 => (some t359)) else (some false))) = some r := H
    have A9 := Aside0.mk A90
    clear A90
    replace H := Option.bind_eq_some_iff.mp H
    obtain ⟨t358, A100, H⟩ := H
    replace H : (if t357 = t358 then ((milllaw3_alive.f k).bind fun t359 => (some t359)) else (some false)) = some r := H
    have A10 := Aside0.mk A100
    clear A100
    by_cases c11 : t357 = t358
    ·
     rw [if_pos c11] at H
     have c11b0 : (t357 == t358) = true := beq_iff_eq.mpr c11
     have c11b1 : (t357 != t358) = false := bne_eq_false_iff_eq.mpr c11
     clear c11
     replace H := Option.bind_eq_some_iff.mp H
     obtain ⟨t359, A120, H⟩ := H
     replace H : (some t359) = some r := H
     have A12 := Aside0.mk A120
     clear A120
     obtain rfl := Option.some.inj H
     go_enter Tryd.func4, Tryd.ntmps4
     have tk25 : True := trivial; have tk26 : True := trivial; have tk27 : True := trivial; have tk28 : True := trivial; have tk29 : True := trivial; have tk30 : True := trivial; have tk31 : True := trivial; have tk32 : True := trivial; have tk33 : True := trivial
     go_wp2_with (first | (have ztk25 := tk25; clear tk25 ztk25; (with_reducible refine gate_callee (f := 20) rfl ?_); refine goesL_ (some 9) rfl rfl Tryd.func20 (by kernel_rfl) rfl #[.string a0] rfl qnd0_ ?_; (with_reducible refine (numeral_Human.calls k a0 t337 t338 t339 t340 t341 _ A2.out).mono ?_); rintro e w13 ⟨rfl, hb⟩; refine ⟨_, rfl, ?_⟩; have n0_ := Aside0.mk (below_step qnd1_ hb); clear HB; have HB := n0_; clear n0_; (try clear hb); (try clear hb2); (try clear hk); (try clear hi)) | (have ztk26 := tk26; clear tk26 ztk26; (with_reducible refine gate_dst (N := 3) rfl ?_); refine box_event ?hg (N := 3) ?hd (cs := #[.bool false, .string (⟨#[]⟩ : ByteArray), .string (⟨#[]⟩ : ByteArray), .int .i64 0]) (t := 25) ?hr ?_; (case hd => rfl); (case hg => rfl); (case hr => first | (go_simp; done) | (go_simp; rfl)); intro gb342 hg w14 hbox hb; have n0_ := Aside0.mk (below_step qnd1_ hb); have n1_ := Aside0.mk (hbox); have n2_ := Aside0.mk ((by rw [hg]; exact (below_size qnd1_) : w.heap.size ≤ gb342)); have n3_ := Aside0.mk ((by rw [hg]; exact (below_size qnd1_) : w.heap.size ≤ gb342)); clear HB; have HB := n0_; have BK342 := n1_; have GW342 := n2_; have GE342 := n3_; clear n0_ n1_ n2_ n3_; clear hb hbox hg; have hcz15_0 : w14.cell? ⟨gb342, 0, none⟩ = some (.bool false) := (blk_cell BK342.out 0).trans rfl; have hcz15_1 : w14.cell? ⟨gb342, 1, none⟩ = some (.string (⟨#[]⟩ : ByteArray)) := (blk_cell BK342.out 1).trans rfl; have hcz15_2 : w14.cell? ⟨gb342, 2, none⟩ = some (.string (⟨#[]⟩ : ByteArray)) := (blk_cell BK342.out 2).trans rfl; have hcz15_3 : w14.cell? ⟨gb342, 3, none⟩ = some (.int .i64 0) := (blk_cell BK342.out 3).trans rfl; have hfz15_0 := blk_frozen BK342.out 0; have hfz15_1 := blk_frozen BK342.out 1; have hfz15_2 := blk_frozen BK342.out 2; have hfz15_3 := blk_frozen BK342.out 3) | (have ztk27 := tk27; clear tk27 ztk27; (with_reducible refine gate_callee (f := 21) rfl ?_); refine goesL_ (some 14) rfl rfl Tryd.func21 (by kernel_rfl) rfl #[.string a0] rfl qnd0_ ?_; (with_reducible refine (millref3_Human.calls k a0 t343 t344 t345 t346 t347 _ A3.out).mono ?_); rintro e w16 ⟨rfl, hb⟩; refine ⟨_, rfl, ?_⟩; have n0_ := Aside0.mk (blk_below (g := gb342) (o := .cells #[.bool t337, .string t338, .string t339, .int .i64 t340] 25 (0, 0)) qnd15_ hb); have n1_ := Aside0.mk (below_step qnd18_ hb); clear BK342; clear HB; have BK342 := n0_; have HB := n1_; clear n0_ n1_; (try clear hb); (try clear hb2); (try clear hk); (try clear hi)) | (have ztk28 := tk28; clear tk28 ztk28; (with_reducible refine gate_dst (N := 5) rfl ?_); refine box_event ?hg (N := 5) ?hd (cs := #[.bool false, .string (⟨#[]⟩ : ByteArray), .string (⟨#[]⟩ : ByteArray), .int .i64 0]) (t := 25) ?hr ?_; (case hd => rfl); (case hg => rfl); (case hr => first | (go_simp; done) | (go_simp; rfl)); intro gb348 hg w17 hbox hb; have n0_ := Aside0.mk (blk_below (g := gb342) (o := .cells #[.bool t337, .string t338, .string t339, .int .i64 t340] 25 (0, 0)) qnd22_ hb); have n1_ := Aside0.mk (below_step qnd18_ hb); have n2_ := Aside0.mk (hbox); have n3_ := Aside0.mk ((by rw [hg]; exact (below_size qnd18_) : w.heap.size ≤ gb348)); have n4_ := Aside0.mk ((by rw [hg]; exact (below_size qnd18_) : w.heap.size ≤ gb348)); have n5_ := Aside0.mk ((by rw [hg]; exact Nat.ne_of_lt (blk_lt (g := gb342) (o := .cells #[.bool t337, .string t338, .string t339, .int .i64 t340] 25 (0, 0)) qnd22_) : gb342 ≠ gb348)); have n6_ := Aside0.mk ((by rw [hg]; exact Nat.ne_of_gt (blk_lt (g := gb342) (o := .cells #[.bool t337, .string t338, .string t339, .int .i64 t340] 25 (0, 0)) qnd22_) : gb348 ≠ gb342)); clear BK342; clear HB; have BK342 := n0_; have HB := n1_; have BK348 := n2_; have GW348 := n3_; have GE348 := n4_; have NB342_348 := n5_; have NB348_342 := n6_; clear n0_ n1_ n2_ n3_ n4_ n5_ n6_; clear hb hbox hg; have hnb18 := NB348_342.out; have hnc18 := NB342_348.out; have hcz19_0 : w17.cell? ⟨gb348, 0, none⟩ = some (.bool false) := (blk_cell BK348.out 0).trans rfl; have hcz19_1 : w17.cell? ⟨gb348, 1, none⟩ = some (.string (⟨#[]⟩ : ByteArray)) := (blk_cell BK348.out 1).trans rfl; have hcz19_2 : w17.cell? ⟨gb348, 2, none⟩ = some (.string (⟨#[]⟩ : ByteArray)) := (blk_cell BK348.out 2).trans rfl; have hcz19_3 : w17.cell? ⟨gb348, 3, none⟩ = some (.int .i64 0) := (blk_cell BK348.out 3).trans rfl; have hfz19_0 := blk_frozen BK348.out 0; have hfz19_1 := blk_frozen BK348.out 1; have hfz19_2 := blk_frozen BK348.out 2; have hfz19_3 := blk_frozen BK348.out 3) | (have ztk29 := tk29; clear tk29 ztk29; (with_reducible refine gate_callee (f := 16) rfl ?_); refine goesL_ (some 18) rfl rfl Tryd.func16 (by kernel_rfl) rfl #[.string a0] rfl qnd0_ ?_; (with_reducible refine (numeral_Decimal.calls k a0 t349 t350 t351 t352 _ A4.out).mono ?_); rintro e w20 ⟨rfl, hb⟩; refine ⟨_, rfl, ?_⟩; have n0_ := Aside0.mk (blk_below (g := gb342) (o := .cells #[.bool t337, .string t338, .string t339, .int .i64 t340] 25 (0, 0)) qnd20_ hb); have n1_ := Aside0.mk (blk_below (g := gb348) (o := .cells #[.bool t343, .string t344, .string t345, .int .i64 t346] 25 (0, 0)) qnd14_ hb); have n2_ := Aside0.mk (below_step qnd16_ hb); clear BK342; clear BK348; clear HB; have BK342 := n0_; have BK348 := n1_; have HB := n2_; clear n0_ n1_ n2_; (try clear hb); (try clear hb2); (try clear hk); (try clear hi)) | (have ztk30 := tk30; clear tk30 ztk30; (with_reducible refine gate_callee (f := 22) rfl ?_); refine goesL_ (some 20) rfl rfl Tryd.func22 (by kernel_rfl) rfl #[.string a0] rfl qnd0_ ?_; (with_reducible refine (millref3_Decimal.calls k a0 t353 t354 t355 t356 _ A5.out).mono ?_); rintro e w21 ⟨rfl, hb⟩; refine ⟨_, rfl, ?_⟩; have n0_ := Aside0.mk (blk_below (g := gb342) (o := .cells #[.bool t337, .string t338, .string t339, .int .i64 t340] 25 (0, 0)) qnd22_ hb); have n1_ := Aside0.mk (blk_below (g := gb348) (o := .cells #[.bool t343, .string t344, .string t345, .int .i64 t346] 25 (0, 0)) qnd49_ hb); have n2_ := Aside0.mk (below_step qnd16_ hb); clear BK342; clear BK348; clear HB; have BK342 := n0_; have BK348 := n1_; have HB := n2_; clear n0_ n1_ n2_; (try clear hb); (try clear hb2); (try clear hk); (try clear hi); have hcz22_0 : w21.cell? ⟨gb342, 0, none⟩ = some (.bool t337) := (blk_cell BK342.out 0).trans rfl; have hcz22_1 : w21.cell? ⟨gb342, 1, none⟩ = some (.string t338) := (blk_cell BK342.out 1).trans rfl; have hcz22_2 : w21.cell? ⟨gb342, 2, none⟩ = some (.string t339) := (blk_cell BK342.out 2).trans rfl; have hcz22_3 : w21.cell? ⟨gb342, 3, none⟩ = some (.int .i64 t340) := (blk_cell BK342.out 3).trans rfl; have hfz22_0 := blk_frozen BK342.out 0; have hfz22_1 := blk_frozen BK342.out 1; have hfz22_2 := blk_frozen BK342.out 2; have hfz22_3 := blk_frozen BK342.out 3; have hcz23_0 : w21.cell? ⟨gb348, 0, none⟩ = some (.bool t343) := (blk_cell BK348.out 0).trans rfl; have hcz23_1 : w21.cell? ⟨gb348, 1, none⟩ = some (.string t344) := (blk_cell BK348.out 1).trans rfl; have hcz23_2 : w21.cell? ⟨gb348, 2, none⟩ = some (.string t345) := (blk_cell BK348.out 2).trans rfl; have hcz23_3 : w21.cell? ⟨gb348, 3, none⟩ = some (.int .i64 t346) := (blk_cell BK348.out 3).trans rfl; have hfz23_0 := blk_frozen BK348.out 0; have hfz23_1 := blk_frozen BK348.out 1; have hfz23_2 := blk_frozen BK348.out 2; have hfz23_3 := blk_frozen BK348.out 3) | (have ztk31 := tk31; clear tk31 ztk31; go_at_call 23; (with_reducible refine (numeral_Month.calls k a0 t357 _ ?side1 A9.out).mono ?_); (case side1 => exact GOK.below HGL.out qnd16_); rintro e w' ⟨rfl, ⟨nd, rfl⟩⟩) | (have ztk32 := tk32; clear tk32 ztk32; go_at_call 24; (with_reducible refine (millref3_Month.calls k a0 t358 _ A10.out).mono ?_); rintro e w' ⟨rfl, ⟨nd, rfl⟩⟩) | (have ztk33 := tk33; clear tk33 ztk33; go_at_call 25; (with_reducible refine (milllaw3_alive.calls k  t359 _ ?side1 A12.out).mono ?_); (case side1 => exact GOK.below HGL.out qnd16_); rintro e w24 ⟨rfl, hb⟩; have n0_ := Aside0.mk (blk_below (g := gb342) (o := .cells #[.bool t337, .string t338, .string t339, .int .i64 t340] 25 (0, 0)) qnd22_ hb); have n1_ := Aside0.mk (blk_below (g := gb348) (o := .cells #[.bool t343, .string t344, .string t345, .int .i64 t346] 25 (0, 0)) qnd49_ hb); have n2_ := Aside0.mk (below_step qnd16_ hb); clear BK342; clear BK348; clear HB; have BK342 := n0_; have BK348 := n1_; have HB := n2_; clear n0_ n1_ n2_; (try clear hb); (try clear hb2); (try clear hk); (try clear hi)))
     go_ret
     exact ⟨qnd5_, qnd16_⟩
    ·
     rw [if_neg c11] at H
     have c11b0 : (t357 == t358) = false := beq_eq_false_iff_ne.mpr c11
     have c11b1 : (t357 != t358) = true := bne_iff_ne.mpr c11
     obtain rfl := Option.some.inj H
     go_enter Tryd.func4, Tryd.ntmps4
     have tk45 : True := trivial; have tk46 : True := trivial; have tk47 : True := trivial; have tk48 : True := trivial; have tk49 : True := trivial; have tk50 : True := trivial; have tk51 : True := trivial; have tk52 : True := trivial
     go_wp2_with (first | (have ztk45 := tk45; clear tk45 ztk45; (with_reducible refine gate_callee (f := 20) rfl ?_); refine goesL_ (some 9) rfl rfl Tryd.func20 (by kernel_rfl) rfl #[.string a0] rfl qnd0_ ?_; (with_reducible refine (numeral_Human.calls k a0 t337 t338 t339 t340 t341 _ A2.out).mono ?_); rintro e w34 ⟨rfl, hb⟩; refine ⟨_, rfl, ?_⟩; have n0_ := Aside0.mk (below_step qnd1_ hb); clear HB; have HB := n0_; clear n0_; (try clear hb); (try clear hb2); (try clear hk); (try clear hi)) | (have ztk46 := tk46; clear tk46 ztk46; (with_reducible refine gate_dst (N := 3) rfl ?_); refine box_event ?hg (N := 3) ?hd (cs := #[.bool false, .string (⟨#[]⟩ : ByteArray), .string (⟨#[]⟩ : ByteArray), .int .i64 0]) (t := 25) ?hr ?_; (case hd => rfl); (case hg => rfl); (case hr => first | (go_simp; done) | (go_simp; rfl)); intro gb342 hg w35 hbox hb; have n0_ := Aside0.mk (below_step qnd1_ hb); have n1_ := Aside0.mk (hbox); have n2_ := Aside0.mk ((by rw [hg]; exact (below_size qnd1_) : w.heap.size ≤ gb342)); have n3_ := Aside0.mk ((by rw [hg]; exact (below_size qnd1_) : w.heap.size ≤ gb342)); clear HB; have HB := n0_; have BK342 := n1_; have GW342 := n2_; have GE342 := n3_; clear n0_ n1_ n2_ n3_; clear hb hbox hg; have hcz36_0 : w35.cell? ⟨gb342, 0, none⟩ = some (.bool false) := (blk_cell BK342.out 0).trans rfl; have hcz36_1 : w35.cell? ⟨gb342, 1, none⟩ = some (.string (⟨#[]⟩ : ByteArray)) := (blk_cell BK342.out 1).trans rfl; have hcz36_2 : w35.cell? ⟨gb342, 2, none⟩ = some (.string (⟨#[]⟩ : ByteArray)) := (blk_cell BK342.out 2).trans rfl; have hcz36_3 : w35.cell? ⟨gb342, 3, none⟩ = some (.int .i64 0) := (blk_cell BK342.out 3).trans rfl; have hfz36_0 := blk_frozen BK342.out 0; have hfz36_1 := blk_frozen BK342.out 1; have hfz36_2 := blk_frozen BK342.out 2; have hfz36_3 := blk_frozen BK342.out 3) | (have ztk47 := tk47; clear tk47 ztk47; (with_reducible refine gate_callee (f := 21) rfl ?_); refine goesL_ (some 14) rfl rfl Tryd.func21 (by kernel_rfl) rfl #[.string a0] rfl qnd0_ ?_; (with_reducible refine (millref3_Human.calls k a0 t343 t344 t345 t346 t347 _ A3.out).mono ?_); rintro e w37 ⟨rfl, hb⟩; refine ⟨_, rfl, ?_⟩; have n0_ := Aside0.mk (blk_below (g := gb342) (o := .cells #[.bool t337, .string t338, .string t339, .int .i64 t340] 25 (0, 0)) qnd15_ hb); have n1_ := Aside0.mk (below_step qnd18_ hb); clear BK342; clear HB; have BK342 := n0_; have HB := n1_; clear n0_ n1_; (try clear hb); (try clear hb2); (try clear hk); (try clear hi)) | (have ztk48 := tk48; clear tk48 ztk48; (with_reducible refine gate_dst (N := 5) rfl ?_); refine box_event ?hg (N := 5) ?hd (cs := #[.bool false, .string (⟨#[]⟩ : ByteArray), .string (⟨#[]⟩ : ByteArray), .int .i64 0]) (t := 25) ?hr ?_; (case hd => rfl); (case hg => rfl); (case hr => first | (go_simp; done) | (go_simp; rfl)); intro gb348 hg w38 hbox hb; have n0_ := Aside0.mk (blk_below (g := gb342) (o := .cells #[.bool t337, .string t338, .string t339, .int .i64 t340] 25 (0, 0)) qnd22_ hb); have n1_ := Aside0.mk (below_step qnd18_ hb); have n2_ := Aside0.mk (hbox); have n3_ := Aside0.mk ((by rw [hg]; exact (below_size qnd18_) : w.heap.size ≤ gb348)); have n4_ := Aside0.mk ((by rw [hg]; exact (below_size qnd18_) : w.heap.size ≤ gb348)); have n5_ := Aside0.mk ((by rw [hg]; exact Nat.ne_of_lt (blk_lt (g := gb342) (o := .cells #[.bool t337, .string t338, .string t339, .int .i64 t340] 25 (0, 0)) qnd22_) : gb342 ≠ gb348)); have n6_ := Aside0.mk ((by rw [hg]; exact Nat.ne_of_gt (blk_lt (g := gb342) (o := .cells #[.bool t337, .string t338, .string t339, .int .i64 t340] 25 (0, 0)) qnd22_) : gb348 ≠ gb342)); clear BK342; clear HB; have BK342 := n0_; have HB := n1_; have BK348 := n2_; have GW348 := n3_; have GE348 := n4_; have NB342_348 := n5_; have NB348_342 := n6_; clear n0_ n1_ n2_ n3_ n4_ n5_ n6_; clear hb hbox hg; have hnb39 := NB348_342.out; have hnc39 := NB342_348.out; have hcz40_0 : w38.cell? ⟨gb348, 0, none⟩ = some (.bool false) := (blk_cell BK348.out 0).trans rfl; have hcz40_1 : w38.cell? ⟨gb348, 1, none⟩ = some (.string (⟨#[]⟩ : ByteArray)) := (blk_cell BK348.out 1).trans rfl; have hcz40_2 : w38.cell? ⟨gb348, 2, none⟩ = some (.string (⟨#[]⟩ : ByteArray)) := (blk_cell BK348.out 2).trans rfl; have hcz40_3 : w38.cell? ⟨gb348, 3, none⟩ = some (.int .i64 0) := (blk_cell BK348.out 3).trans rfl; have hfz40_0 := blk_frozen BK348.out 0; have hfz40_1 := blk_frozen BK348.out 1; have hfz40_2 := blk_frozen BK348.out 2; have hfz40_3 := blk_frozen BK348.out 3) | (have ztk49 := tk49; clear tk49 ztk49; (with_reducible refine gate_callee (f := 16) rfl ?_); refine goesL_ (some 18) rfl rfl Tryd.func16 (by kernel_rfl) rfl #[.string a0] rfl qnd0_ ?_; (with_reducible refine (numeral_Decimal.calls k a0 t349 t350 t351 t352 _ A4.out).mono ?_); rintro e w41 ⟨rfl, hb⟩; refine ⟨_, rfl, ?_⟩; have n0_ := Aside0.mk (blk_below (g := gb342) (o := .cells #[.bool t337, .string t338, .string t339, .int .i64 t340] 25 (0, 0)) qnd20_ hb); have n1_ := Aside0.mk (blk_below (g := gb348) (o := .cells #[.bool t343, .string t344, .string t345, .int .i64 t346] 25 (0, 0)) qnd14_ hb); have n2_ := Aside0.mk (below_step qnd16_ hb); clear BK342; clear BK348; clear HB; have BK342 := n0_; have BK348 := n1_; have HB := n2_; clear n0_ n1_ n2_; (try clear hb); (try clear hb2); (try clear hk); (try clear hi)) | (have ztk50 := tk50; clear tk50 ztk50; (with_reducible refine gate_callee (f := 22) rfl ?_); refine goesL_ (some 20) rfl rfl Tryd.func22 (by kernel_rfl) rfl #[.string a0] rfl qnd0_ ?_; (with_reducible refine (millref3_Decimal.calls k a0 t353 t354 t355 t356 _ A5.out).mono ?_); rintro e w42 ⟨rfl, hb⟩; refine ⟨_, rfl, ?_⟩; have n0_ := Aside0.mk (blk_below (g := gb342) (o := .cells #[.bool t337, .string t338, .string t339, .int .i64 t340] 25 (0, 0)) qnd22_ hb); have n1_ := Aside0.mk (blk_below (g := gb348) (o := .cells #[.bool t343, .string t344, .string t345, .int .i64 t346] 25 (0, 0)) qnd49_ hb); have n2_ := Aside0.mk (below_step qnd16_ hb); clear BK342; clear BK348; clear HB; have BK342 := n0_; have BK348 := n1_; have HB := n2_; clear n0_ n1_ n2_; (try clear hb); (try clear hb2); (try clear hk); (try clear hi); have hcz43_0 : w42.cell? ⟨gb342, 0, none⟩ = some (.bool t337) := (blk_cell BK342.out 0).trans rfl; have hcz43_1 : w42.cell? ⟨gb342, 1, none⟩ = some (.string t338) := (blk_cell BK342.out 1).trans rfl; have hcz43_2 : w42.cell? ⟨gb342, 2, none⟩ = some (.string t339) := (blk_cell BK342.out 2).trans rfl; have hcz43_3 : w42.cell? ⟨gb342, 3, none⟩ = some (.int .i64 t340) := (blk_cell BK342.out 3).trans rfl; have hfz43_0 := blk_frozen BK342.out 0; have hfz43_1 := blk_frozen BK342.out 1; have hfz43_2 := blk_frozen BK342.out 2; have hfz43_3 := blk_frozen BK342.out 3; have hcz44_0 : w42.cell? ⟨gb348, 0, none⟩ = some (.bool t343) := (blk_cell BK348.out 0).trans rfl; have hcz44_1 : w42.cell? ⟨gb348, 1, none⟩ = some (.string t344) := (blk_cell BK348.out 1).trans rfl; have hcz44_2 : w42.cell? ⟨gb348, 2, none⟩ = some (.string t345) := (blk_cell BK348.out 2).trans rfl; have hcz44_3 : w42.cell? ⟨gb348, 3, none⟩ = some (.int .i64 t346) := (blk_cell BK348.out 3).trans rfl; have hfz44_0 := blk_frozen BK348.out 0; have hfz44_1 := blk_frozen BK348.out 1; have hfz44_2 := blk_frozen BK348.out 2; have hfz44_3 := blk_frozen BK348.out 3) | (have ztk51 := tk51; clear tk51 ztk51; go_at_call 23; (with_reducible refine (numeral_Month.calls k a0 t357 _ ?side1 A9.out).mono ?_); (case side1 => exact GOK.below HGL.out qnd16_); rintro e w' ⟨rfl, ⟨nd, rfl⟩⟩) | (have ztk52 := tk52; clear tk52 ztk52; go_at_call 24; (with_reducible refine (millref3_Month.calls k a0 t358 _ A10.out).mono ?_); rintro e w' ⟨rfl, ⟨nd, rfl⟩⟩))
     go_ret
     exact ⟨qnd5_, qnd16_⟩
   ·
    rw [if_neg c8] at H
    have c8b0 : (t341 == t347) = false := beq_eq_false_iff_ne.mpr c8
    have c8b1 : (t341 != t347) = true := bne_iff_ne.mpr c8
    obtain rfl := Option.some.inj H
    go_enter Tryd.func4, Tryd.ntmps4
    have tk64 : True := trivial; have tk65 : True := trivial; have tk66 : True := trivial; have tk67 : True := trivial; have tk68 : True := trivial; have tk69 : True := trivial
    go_wp2_with (first | (have ztk64 := tk64; clear tk64 ztk64; (with_reducible refine gate_callee (f := 20) rfl ?_); refine goesL_ (some 9) rfl rfl Tryd.func20 (by kernel_rfl) rfl #[.string a0] rfl qnd0_ ?_; (with_reducible refine (numeral_Human.calls k a0 t337 t338 t339 t340 t341 _ A2.out).mono ?_); rintro e w53 ⟨rfl, hb⟩; refine ⟨_, rfl, ?_⟩; have n0_ := Aside0.mk (below_step qnd1_ hb); clear HB; have HB := n0_; clear n0_; (try clear hb); (try clear hb2); (try clear hk); (try clear hi)) | (have ztk65 := tk65; clear tk65 ztk65; (with_reducible refine gate_dst (N := 3) rfl ?_); refine box_event ?hg (N := 3) ?hd (cs := #[.bool false, .string (⟨#[]⟩ : ByteArray), .string (⟨#[]⟩ : ByteArray), .int .i64 0]) (t := 25) ?hr ?_; (case hd => rfl); (case hg => rfl); (case hr => first | (go_simp; done) | (go_simp; rfl)); intro gb342 hg w54 hbox hb; have n0_ := Aside0.mk (below_step qnd1_ hb); have n1_ := Aside0.mk (hbox); have n2_ := Aside0.mk ((by rw [hg]; exact (below_size qnd1_) : w.heap.size ≤ gb342)); have n3_ := Aside0.mk ((by rw [hg]; exact (below_size qnd1_) : w.heap.size ≤ gb342)); clear HB; have HB := n0_; have BK342 := n1_; have GW342 := n2_; have GE342 := n3_; clear n0_ n1_ n2_ n3_; clear hb hbox hg; have hcz55_0 : w54.cell? ⟨gb342, 0, none⟩ = some (.bool false) := (blk_cell BK342.out 0).trans rfl; have hcz55_1 : w54.cell? ⟨gb342, 1, none⟩ = some (.string (⟨#[]⟩ : ByteArray)) := (blk_cell BK342.out 1).trans rfl; have hcz55_2 : w54.cell? ⟨gb342, 2, none⟩ = some (.string (⟨#[]⟩ : ByteArray)) := (blk_cell BK342.out 2).trans rfl; have hcz55_3 : w54.cell? ⟨gb342, 3, none⟩ = some (.int .i64 0) := (blk_cell BK342.out 3).trans rfl; have hfz55_0 := blk_frozen BK342.out 0; have hfz55_1 := blk_frozen BK342.out 1; have hfz55_2 := blk_frozen BK342.out 2; have hfz55_3 := blk_frozen BK342.out 3) | (have ztk66 := tk66; clear tk66 ztk66; (with_reducible refine gate_callee (f := 21) rfl ?_); refine goesL_ (some 14) rfl rfl Tryd.func21 (by kernel_rfl) rfl #[.string a0] rfl qnd0_ ?_; (with_reducible refine (millref3_Human.calls k a0 t343 t344 t345 t346 t347 _ A3.out).mono ?_); rintro e w56 ⟨rfl, hb⟩; refine ⟨_, rfl, ?_⟩; have n0_ := Aside0.mk (blk_below (g := gb342) (o := .cells #[.bool t337, .string t338, .string t339, .int .i64 t340] 25 (0, 0)) qnd15_ hb); have n1_ := Aside0.mk (below_step qnd18_ hb); clear BK342; clear HB; have BK342 := n0_; have HB := n1_; clear n0_ n1_; (try clear hb); (try clear hb2); (try clear hk); (try clear hi)) | (have ztk67 := tk67; clear tk67 ztk67; (with_reducible refine gate_dst (N := 5) rfl ?_); refine box_event ?hg (N := 5) ?hd (cs := #[.bool false, .string (⟨#[]⟩ : ByteArray), .string (⟨#[]⟩ : ByteArray), .int .i64 0]) (t := 25) ?hr ?_; (case hd => rfl); (case hg => rfl); (case hr => first | (go_simp; done) | (go_simp; rfl)); intro gb348 hg w57 hbox hb; have n0_ := Aside0.mk (blk_below (g := gb342) (o := .cells #[.bool t337, .string t338, .string t339, .int .i64 t340] 25 (0, 0)) qnd22_ hb); have n1_ := Aside0.mk (below_step qnd18_ hb); have n2_ := Aside0.mk (hbox); have n3_ := Aside0.mk ((by rw [hg]; exact (below_size qnd18_) : w.heap.size ≤ gb348)); have n4_ := Aside0.mk ((by rw [hg]; exact (below_size qnd18_) : w.heap.size ≤ gb348)); have n5_ := Aside0.mk ((by rw [hg]; exact Nat.ne_of_lt (blk_lt (g := gb342) (o := .cells #[.bool t337, .string t338, .string t339, .int .i64 t340] 25 (0, 0)) qnd22_) : gb342 ≠ gb348)); have n6_ := Aside0.mk ((by rw [hg]; exact Nat.ne_of_gt (blk_lt (g := gb342) (o := .cells #[.bool t337, .string t338, .string t339, .int .i64 t340] 25 (0, 0)) qnd22_) : gb348 ≠ gb342)); clear BK342; clear HB; have BK342 := n0_; have HB := n1_; have BK348 := n2_; have GW348 := n3_; have GE348 := n4_; have NB342_348 := n5_; have NB348_342 := n6_; clear n0_ n1_ n2_ n3_ n4_ n5_ n6_; clear hb hbox hg; have hnb58 := NB348_342.out; have hnc58 := NB342_348.out; have hcz59_0 : w57.cell? ⟨gb348, 0, none⟩ = some (.bool false) := (blk_cell BK348.out 0).trans rfl; have hcz59_1 : w57.cell? ⟨gb348, 1, none⟩ = some (.string (⟨#[]⟩ : ByteArray)) := (blk_cell BK348.out 1).trans rfl; have hcz59_2 : w57.cell? ⟨gb348, 2, none⟩ = some (.string (⟨#[]⟩ : ByteArray)) := (blk_cell BK348.out 2).trans rfl; have hcz59_3 : w57.cell? ⟨gb348, 3, none⟩ = some (.int .i64 0) := (blk_cell BK348.out 3).trans rfl; have hfz59_0 := blk_frozen BK348.out 0; have hfz59_1 := blk_frozen BK348.out 1; have hfz59_2 := blk_frozen BK348.out 2; have hfz59_3 := blk_frozen BK348.out 3) | (have ztk68 := tk68; clear tk68 ztk68; (with_reducible refine gate_callee (f := 16) rfl ?_); refine goesL_ (some 18) rfl rfl Tryd.func16 (by kernel_rfl) rfl #[.string a0] rfl qnd0_ ?_; (with_reducible refine (numeral_Decimal.calls k a0 t349 t350 t351 t352 _ A4.out).mono ?_); rintro e w60 ⟨rfl, hb⟩; refine ⟨_, rfl, ?_⟩; have n0_ := Aside0.mk (blk_below (g := gb342) (o := .cells #[.bool t337, .string t338, .string t339, .int .i64 t340] 25 (0, 0)) qnd20_ hb); have n1_ := Aside0.mk (blk_below (g := gb348) (o := .cells #[.bool t343, .string t344, .string t345, .int .i64 t346] 25 (0, 0)) qnd14_ hb); have n2_ := Aside0.mk (below_step qnd16_ hb); clear BK342; clear BK348; clear HB; have BK342 := n0_; have BK348 := n1_; have HB := n2_; clear n0_ n1_ n2_; (try clear hb); (try clear hb2); (try clear hk); (try clear hi)) | (have ztk69 := tk69; clear tk69 ztk69; (with_reducible refine gate_callee (f := 22) rfl ?_); refine goesL_ (some 20) rfl rfl Tryd.func22 (by kernel_rfl) rfl #[.string a0] rfl qnd0_ ?_; (with_reducible refine (millref3_Decimal.calls k a0 t353 t354 t355 t356 _ A5.out).mono ?_); rintro e w61 ⟨rfl, hb⟩; refine ⟨_, rfl, ?_⟩; have n0_ := Aside0.mk (blk_below (g := gb342) (o := .cells #[.bool t337, .string t338, .string t339, .int .i64 t340] 25 (0, 0)) qnd22_ hb); have n1_ := Aside0.mk (blk_below (g := gb348) (o := .cells #[.bool t343, .string t344, .string t345, .int .i64 t346] 25 (0, 0)) qnd49_ hb); have n2_ := Aside0.mk (below_step qnd16_ hb); clear BK342; clear BK348; clear HB; have BK342 := n0_; have BK348 := n1_; have HB := n2_; clear n0_ n1_ n2_; (try clear hb); (try clear hb2); (try clear hk); (try clear hi); have hcz62_0 : w61.cell? ⟨gb342, 0, none⟩ = some (.bool t337) := (blk_cell BK342.out 0).trans rfl; have hcz62_1 : w61.cell? ⟨gb342, 1, none⟩ = some (.string t338) := (blk_cell BK342.out 1).trans rfl; have hcz62_2 : w61.cell? ⟨gb342, 2, none⟩ = some (.string t339) := (blk_cell BK342.out 2).trans rfl; have hcz62_3 : w61.cell? ⟨gb342, 3, none⟩ = some (.int .i64 t340) := (blk_cell BK342.out 3).trans rfl; have hfz62_0 := blk_frozen BK342.out 0; have hfz62_1 := blk_frozen BK342.out 1; have hfz62_2 := blk_frozen BK342.out 2; have hfz62_3 := blk_frozen BK342.out 3; have hcz63_0 : w61.cell? ⟨gb348, 0, none⟩ = some (.bool t343) := (blk_cell BK348.out 0).trans rfl; have hcz63_1 : w61.cell? ⟨gb348, 1, none⟩ = some (.string t344) := (blk_cell BK348.out 1).trans rfl; have hcz63_2 : w61.cell? ⟨gb348, 2, none⟩ = some (.string t345) := (blk_cell BK348.out 2).trans rfl; have hcz63_3 : w61.cell? ⟨gb348, 3, none⟩ = some (.int .i64 t346) := (blk_cell BK348.out 3).trans rfl; have hfz63_0 := blk_frozen BK348.out 0; have hfz63_1 := blk_frozen BK348.out 1; have hfz63_2 := blk_frozen BK348.out 2; have hfz63_3 := blk_frozen BK348.out 3))
    go_ret
    exact ⟨qnd5_, qnd16_⟩
  ·
   rw [if_neg c7] at H
   have c7b0 : (t337 == t343 && (t338.toList == t344.toList && (t339.toList == t345.toList && (t340 == t346)))) = false := by simpa using c7
   (try (have c7b1 : decide (t337 = t343 && (t338.toList == t344.toList && (t339.toList == t345.toList && (t340 == t346)))) = false := by simpa using c7))
   (try (have c7b2 : (t337 == t343 && (t338.toList == t344.toList && (t339.toList == t345.toList && (t340 == t346)))) = false := by simpa using c7))
   (try (have c7b3 : ¬ (t337 = t343 && (t338.toList == t344.toList && (t339.toList == t345.toList && (t340 == t346)))) := by simpa using c7))
   clear c7
   obtain rfl := Option.some.inj H
   go_enter Tryd.func4, Tryd.ntmps4
   have tk81 : True := trivial; have tk82 : True := trivial; have tk83 : True := trivial; have tk84 : True := trivial; have tk85 : True := trivial; have tk86 : True := trivial
   go_wp2_with (first | (have ztk81 := tk81; clear tk81 ztk81; (with_reducible refine gate_callee (f := 20) rfl ?_); refine goesL_ (some 9) rfl rfl Tryd.func20 (by kernel_rfl) rfl #[.string a0] rfl qnd0_ ?_; (with_reducible refine (numeral_Human.calls k a0 t337 t338 t339 t340 t341 _ A2.out).mono ?_); rintro e w70 ⟨rfl, hb⟩; refine ⟨_, rfl, ?_⟩; have n0_ := Aside0.mk (below_step qnd1_ hb); clear HB; have HB := n0_; clear n0_; (try clear hb); (try clear hb2); (try clear hk); (try clear hi)) | (have ztk82 := tk82; clear tk82 ztk82; (with_reducible refine gate_dst (N := 3) rfl ?_); refine box_event ?hg (N := 3) ?hd (cs := #[.bool false, .string (⟨#[]⟩ : ByteArray), .string (⟨#[]⟩ : ByteArray), .int .i64 0]) (t := 25) ?hr ?_; (case hd => rfl); (case hg => rfl); (case hr => first | (go_simp; done) | (go_simp; rfl)); intro gb342 hg w71 hbox hb; have n0_ := Aside0.mk (below_step qnd1_ hb); have n1_ := Aside0.mk (hbox); have n2_ := Aside0.mk ((by rw [hg]; exact (below_size qnd1_) : w.heap.size ≤ gb342)); have n3_ := Aside0.mk ((by rw [hg]; exact (below_size qnd1_) : w.heap.size ≤ gb342)); clear HB; have HB := n0_; have BK342 := n1_; have GW342 := n2_; have GE342 := n3_; clear n0_ n1_ n2_ n3_; clear hb hbox hg; have hcz72_0 : w71.cell? ⟨gb342, 0, none⟩ = some (.bool false) := (blk_cell BK342.out 0).trans rfl; have hcz72_1 : w71.cell? ⟨gb342, 1, none⟩ = some (.string (⟨#[]⟩ : ByteArray)) := (blk_cell BK342.out 1).trans rfl; have hcz72_2 : w71.cell? ⟨gb342, 2, none⟩ = some (.string (⟨#[]⟩ : ByteArray)) := (blk_cell BK342.out 2).trans rfl; have hcz72_3 : w71.cell? ⟨gb342, 3, none⟩ = some (.int .i64 0) := (blk_cell BK342.out 3).trans rfl; have hfz72_0 := blk_frozen BK342.out 0; have hfz72_1 := blk_frozen BK342.out 1; have hfz72_2 := blk_frozen BK342.out 2; have hfz72_3 := blk_frozen BK342.out 3) | (have ztk83 := tk83; clear tk83 ztk83; (with_reducible refine gate_callee (f := 21) rfl ?_); refine goesL_ (some 14) rfl rfl Tryd.func21 (by kernel_rfl) rfl #[.string a0] rfl qnd0_ ?_; (with_reducible refine (millref3_Human.calls k a0 t343 t344 t345 t346 t347 _ A3.out).mono ?_); rintro e w73 ⟨rfl, hb⟩; refine ⟨_, rfl, ?_⟩; have n0_ := Aside0.mk (blk_below (g := gb342) (o := .cells #[.bool t337, .string t338, .string t339, .int .i64 t340] 25 (0, 0)) qnd15_ hb); have n1_ := Aside0.mk (below_step qnd18_ hb); clear BK342; clear HB; have BK342 := n0_; have HB := n1_; clear n0_ n1_; (try clear hb); (try clear hb2); (try clear hk); (try clear hi)) | (have ztk84 := tk84; clear tk84 ztk84; (with_reducible refine gate_dst (N := 5) rfl ?_); refine box_event ?hg (N := 5) ?hd (cs := #[.bool false, .string (⟨#[]⟩ : ByteArray), .string (⟨#[]⟩ : ByteArray), .int .i64 0]) (t := 25) ?hr ?_; (case hd => rfl); (case hg => rfl); (case hr => first | (go_simp; done) | (go_simp; rfl)); intro gb348 hg w74 hbox hb; have n0_ := Aside0.mk (blk_below (g := gb342) (o := .cells #[.bool t337, .string t338, .string t339, .int .i64 t340] 25 (0, 0)) qnd22_ hb); have n1_ := Aside0.mk (below_step qnd18_ hb); have n2_ := Aside0.mk (hbox); have n3_ := Aside0.mk ((by rw [hg]; exact (below_size qnd18_) : w.heap.size ≤ gb348)); have n4_ := Aside0.mk ((by rw [hg]; exact (below_size qnd18_) : w.heap.size ≤ gb348)); have n5_ := Aside0.mk ((by rw [hg]; exact Nat.ne_of_lt (blk_lt (g := gb342) (o := .cells #[.bool t337, .string t338, .string t339, .int .i64 t340] 25 (0, 0)) qnd22_) : gb342 ≠ gb348)); have n6_ := Aside0.mk ((by rw [hg]; exact Nat.ne_of_gt (blk_lt (g := gb342) (o := .cells #[.bool t337, .string t338, .string t339, .int .i64 t340] 25 (0, 0)) qnd22_) : gb348 ≠ gb342)); clear BK342; clear HB; have BK342 := n0_; have HB := n1_; have BK348 := n2_; have GW348 := n3_; have GE348 := n4_; have NB342_348 := n5_; have NB348_342 := n6_; clear n0_ n1_ n2_ n3_ n4_ n5_ n6_; clear hb hbox hg; have hnb75 := NB348_342.out; have hnc75 := NB342_348.out; have hcz76_0 : w74.cell? ⟨gb348, 0, none⟩ = some (.bool false) := (blk_cell BK348.out 0).trans rfl; have hcz76_1 : w74.cell? ⟨gb348, 1, none⟩ = some (.string (⟨#[]⟩ : ByteArray)) := (blk_cell BK348.out 1).trans rfl; have hcz76_2 : w74.cell? ⟨gb348, 2, none⟩ = some (.string (⟨#[]⟩ : ByteArray)) := (blk_cell BK348.out 2).trans rfl; have hcz76_3 : w74.cell? ⟨gb348, 3, none⟩ = some (.int .i64 0) := (blk_cell BK348.out 3).trans rfl; have hfz76_0 := blk_frozen BK348.out 0; have hfz76_1 := blk_frozen BK348.out 1; have hfz76_2 := blk_frozen BK348.out 2; have hfz76_3 := blk_frozen BK348.out 3) | (have ztk85 := tk85; clear tk85 ztk85; (with_reducible refine gate_callee (f := 16) rfl ?_); refine goesL_ (some 18) rfl rfl Tryd.func16 (by kernel_rfl) rfl #[.string a0] rfl qnd0_ ?_; (with_reducible refine (numeral_Decimal.calls k a0 t349 t350 t351 t352 _ A4.out).mono ?_); rintro e w77 ⟨rfl, hb⟩; refine ⟨_, rfl, ?_⟩; have n0_ := Aside0.mk (blk_below (g := gb342) (o := .cells #[.bool t337, .string t338, .string t339, .int .i64 t340] 25 (0, 0)) qnd20_ hb); have n1_ := Aside0.mk (blk_below (g := gb348) (o := .cells #[.bool t343, .string t344, .string t345, .int .i64 t346] 25 (0, 0)) qnd14_ hb); have n2_ := Aside0.mk (below_step qnd16_ hb); clear BK342; clear BK348; clear HB; have BK342 := n0_; have BK348 := n1_; have HB := n2_; clear n0_ n1_ n2_; (try clear hb); (try clear hb2); (try clear hk); (try clear hi)) | (have ztk86 := tk86; clear tk86 ztk86; (with_reducible refine gate_callee (f := 22) rfl ?_); refine goesL_ (some 20) rfl rfl Tryd.func22 (by kernel_rfl) rfl #[.string a0] rfl qnd0_ ?_; (with_reducible refine (millref3_Decimal.calls k a0 t353 t354 t355 t356 _ A5.out).mono ?_); rintro e w78 ⟨rfl, hb⟩; refine ⟨_, rfl, ?_⟩; have n0_ := Aside0.mk (blk_below (g := gb342) (o := .cells #[.bool t337, .string t338, .string t339, .int .i64 t340] 25 (0, 0)) qnd22_ hb); have n1_ := Aside0.mk (blk_below (g := gb348) (o := .cells #[.bool t343, .string t344, .string t345, .int .i64 t346] 25 (0, 0)) qnd49_ hb); have n2_ := Aside0.mk (below_step qnd16_ hb); clear BK342; clear BK348; clear HB; have BK342 := n0_; have BK348 := n1_; have HB := n2_; clear n0_ n1_ n2_; (try clear hb); (try clear hb2); (try clear hk); (try clear hi); have hcz79_0 : w78.cell? ⟨gb342, 0, none⟩ = some (.bool t337) := (blk_cell BK342.out 0).trans rfl; have hcz79_1 : w78.cell? ⟨gb342, 1, none⟩ = some (.string t338) := (blk_cell BK342.out 1).trans rfl; have hcz79_2 : w78.cell? ⟨gb342, 2, none⟩ = some (.string t339) := (blk_cell BK342.out 2).trans rfl; have hcz79_3 : w78.cell? ⟨gb342, 3, none⟩ = some (.int .i64 t340) := (blk_cell BK342.out 3).trans rfl; have hfz79_0 := blk_frozen BK342.out 0; have hfz79_1 := blk_frozen BK342.out 1; have hfz79_2 := blk_frozen BK342.out 2; have hfz79_3 := blk_frozen BK342.out 3; have hcz80_0 : w78.cell? ⟨gb348, 0, none⟩ = some (.bool t343) := (blk_cell BK348.out 0).trans rfl; have hcz80_1 : w78.cell? ⟨gb348, 1, none⟩ = some (.string t344) := (blk_cell BK348.out 1).trans rfl; have hcz80_2 : w78.cell? ⟨gb348, 2, none⟩ = some (.string t345) := (blk_cell BK348.out 2).trans rfl; have hcz80_3 : w78.cell? ⟨gb348, 3, none⟩ = some (.int .i64 t346) := (blk_cell BK348.out 3).trans rfl; have hfz80_0 := blk_frozen BK348.out 0; have hfz80_1 := blk_frozen BK348.out 1; have hfz80_2 := blk_frozen BK348.out 2; have hfz80_3 := blk_frozen BK348.out 3))
   go_ret
   exact ⟨qnd5_, qnd16_⟩
 ·
  rw [if_neg c6] at H
  have c6b0 : (t349 == t353 && (t350.toList == t354.toList && (t351.toList == t355.toList && (t352 == t356)))) = false := by simpa using c6
  (try (have c6b1 : decide (t349 = t353 && (t350.toList == t354.toList && (t351.toList == t355.toList && (t352 == t356)))) = false := by simpa using c6))
  (try (have c6b2 : (t349 == t353 && (t350.toList == t354.toList && (t351.toList == t355.toList && (t352 == t356)))) = false := by simpa using c6))
  (try (have c6b3 : ¬ (t349 = t353 && (t350.toList == t354.toList && (t351.toList == t355.toList && (t352 == t356)))) := by simpa using c6))
  clear c6
  obtain rfl := Option.some.inj H
  go_enter Tryd.func4, Tryd.ntmps4
  have tk96 : True := trivial; have tk97 : True := trivial; have tk98 : True := trivial; have tk99 : True := trivial; have tk100 : True := trivial; have tk101 : True := trivial
  go_wp2_with (first | (have ztk96 := tk96; clear tk96 ztk96; (with_reducible refine gate_callee (f := 20) rfl ?_); refine goesL_ (some 9) rfl rfl Tryd.func20 (by kernel_rfl) rfl #[.string a0] rfl qnd0_ ?_; (with_reducible refine (numeral_Human.calls k a0 t337 t338 t339 t340 t341 _ A2.out).mono ?_); rintro e w87 ⟨rfl, hb⟩; refine ⟨_, rfl, ?_⟩; have n0_ := Aside0.mk (below_step qnd1_ hb); clear HB; have HB := n0_; clear n0_; (try clear hb); (try clear hb2); (try clear hk); (try clear hi)) | (have ztk97 := tk97; clear tk97 ztk97; (with_reducible refine gate_dst (N := 3) rfl ?_); refine box_event ?hg (N := 3) ?hd (cs := #[.bool false, .string (⟨#[]⟩ : ByteArray), .string (⟨#[]⟩ : ByteArray), .int .i64 0]) (t := 25) ?hr ?_; (case hd => rfl); (case hg => rfl); (case hr => first | (go_simp; done) | (go_simp; rfl)); intro gb342 hg w88 hbox hb; have n0_ := Aside0.mk (below_step qnd1_ hb); have n1_ := Aside0.mk (hbox); have n2_ := Aside0.mk ((by rw [hg]; exact (below_size qnd1_) : w.heap.size ≤ gb342)); have n3_ := Aside0.mk ((by rw [hg]; exact (below_size qnd1_) : w.heap.size ≤ gb342)); clear HB; have HB := n0_; have BK342 := n1_; have GW342 := n2_; have GE342 := n3_; clear n0_ n1_ n2_ n3_; clear hb hbox hg; have hcz89_0 : w88.cell? ⟨gb342, 0, none⟩ = some (.bool false) := (blk_cell BK342.out 0).trans rfl; have hcz89_1 : w88.cell? ⟨gb342, 1, none⟩ = some (.string (⟨#[]⟩ : ByteArray)) := (blk_cell BK342.out 1).trans rfl; have hcz89_2 : w88.cell? ⟨gb342, 2, none⟩ = some (.string (⟨#[]⟩ : ByteArray)) := (blk_cell BK342.out 2).trans rfl; have hcz89_3 : w88.cell? ⟨gb342, 3, none⟩ = some (.int .i64 0) := (blk_cell BK342.out 3).trans rfl; have hfz89_0 := blk_frozen BK342.out 0; have hfz89_1 := blk_frozen BK342.out 1; have hfz89_2 := blk_frozen BK342.out 2; have hfz89_3 := blk_frozen BK342.out 3) | (have ztk98 := tk98; clear tk98 ztk98; (with_reducible refine gate_callee (f := 21) rfl ?_); refine goesL_ (some 14) rfl rfl Tryd.func21 (by kernel_rfl) rfl #[.string a0] rfl qnd0_ ?_; (with_reducible refine (millref3_Human.calls k a0 t343 t344 t345 t346 t347 _ A3.out).mono ?_); rintro e w90 ⟨rfl, hb⟩; refine ⟨_, rfl, ?_⟩; have n0_ := Aside0.mk (blk_below (g := gb342) (o := .cells #[.bool t337, .string t338, .string t339, .int .i64 t340] 25 (0, 0)) qnd15_ hb); have n1_ := Aside0.mk (below_step qnd18_ hb); clear BK342; clear HB; have BK342 := n0_; have HB := n1_; clear n0_ n1_; (try clear hb); (try clear hb2); (try clear hk); (try clear hi)) | (have ztk99 := tk99; clear tk99 ztk99; (with_reducible refine gate_dst (N := 5) rfl ?_); refine box_event ?hg (N := 5) ?hd (cs := #[.bool false, .string (⟨#[]⟩ : ByteArray), .string (⟨#[]⟩ : ByteArray), .int .i64 0]) (t := 25) ?hr ?_; (case hd => rfl); (case hg => rfl); (case hr => first | (go_simp; done) | (go_simp; rfl)); intro gb348 hg w91 hbox hb; have n0_ := Aside0.mk (blk_below (g := gb342) (o := .cells #[.bool t337, .string t338, .string t339, .int .i64 t340] 25 (0, 0)) qnd22_ hb); have n1_ := Aside0.mk (below_step qnd18_ hb); have n2_ := Aside0.mk (hbox); have n3_ := Aside0.mk ((by rw [hg]; exact (below_size qnd18_) : w.heap.size ≤ gb348)); have n4_ := Aside0.mk ((by rw [hg]; exact (below_size qnd18_) : w.heap.size ≤ gb348)); have n5_ := Aside0.mk ((by rw [hg]; exact Nat.ne_of_lt (blk_lt (g := gb342) (o := .cells #[.bool t337, .string t338, .string t339, .int .i64 t340] 25 (0, 0)) qnd22_) : gb342 ≠ gb348)); have n6_ := Aside0.mk ((by rw [hg]; exact Nat.ne_of_gt (blk_lt (g := gb342) (o := .cells #[.bool t337, .string t338, .string t339, .int .i64 t340] 25 (0, 0)) qnd22_) : gb348 ≠ gb342)); clear BK342; clear HB; have BK342 := n0_; have HB := n1_; have BK348 := n2_; have GW348 := n3_; have GE348 := n4_; have NB342_348 := n5_; have NB348_342 := n6_; clear n0_ n1_ n2_ n3_ n4_ n5_ n6_; clear hb hbox hg; have hnb92 := NB348_342.out; have hnc92 := NB342_348.out; have hcz93_0 : w91.cell? ⟨gb348, 0, none⟩ = some (.bool false) := (blk_cell BK348.out 0).trans rfl; have hcz93_1 : w91.cell? ⟨gb348, 1, none⟩ = some (.string (⟨#[]⟩ : ByteArray)) := (blk_cell BK348.out 1).trans rfl; have hcz93_2 : w91.cell? ⟨gb348, 2, none⟩ = some (.string (⟨#[]⟩ : ByteArray)) := (blk_cell BK348.out 2).trans rfl; have hcz93_3 : w91.cell? ⟨gb348, 3, none⟩ = some (.int .i64 0) := (blk_cell BK348.out 3).trans rfl; have hfz93_0 := blk_frozen BK348.out 0; have hfz93_1 := blk_frozen BK348.out 1; have hfz93_2 := blk_frozen BK348.out 2; have hfz93_3 := blk_frozen BK348.out 3) | (have ztk100 := tk100; clear tk100 ztk100; (with_reducible refine gate_callee (f := 16) rfl ?_); refine goesL_ (some 18) rfl rfl Tryd.func16 (by kernel_rfl) rfl #[.string a0] rfl qnd0_ ?_; (with_reducible refine (numeral_Decimal.calls k a0 t349 t350 t351 t352 _ A4.out).mono ?_); rintro e w94 ⟨rfl, hb⟩; refine ⟨_, rfl, ?_⟩; have n0_ := Aside0.mk (blk_below (g := gb342) (o := .cells #[.bool t337, .string t338, .string t339, .int .i64 t340] 25 (0, 0)) qnd20_ hb); have n1_ := Aside0.mk (blk_below (g := gb348) (o := .cells #[.bool t343, .string t344, .string t345, .int .i64 t346] 25 (0, 0)) qnd14_ hb); have n2_ := Aside0.mk (below_step qnd16_ hb); clear BK342; clear BK348; clear HB; have BK342 := n0_; have BK348 := n1_; have HB := n2_; clear n0_ n1_ n2_; (try clear hb); (try clear hb2); (try clear hk); (try clear hi)) | (have ztk101 := tk101; clear tk101 ztk101; (with_reducible refine gate_callee (f := 22) rfl ?_); refine goesL_ (some 20) rfl rfl Tryd.func22 (by kernel_rfl) rfl #[.string a0] rfl qnd0_ ?_; (with_reducible refine (millref3_Decimal.calls k a0 t353 t354 t355 t356 _ A5.out).mono ?_); rintro e w95 ⟨rfl, hb⟩; refine ⟨_, rfl, ?_⟩; have n0_ := Aside0.mk (blk_below (g := gb342) (o := .cells #[.bool t337, .string t338, .string t339, .int .i64 t340] 25 (0, 0)) qnd22_ hb); have n1_ := Aside0.mk (blk_below (g := gb348) (o := .cells #[.bool t343, .string t344, .string t345, .int .i64 t346] 25 (0, 0)) qnd49_ hb); have n2_ := Aside0.mk (below_step qnd16_ hb); clear BK342; clear BK348; clear HB; have BK342 := n0_; have BK348 := n1_; have HB := n2_; clear n0_ n1_ n2_; (try clear hb); (try clear hb2); (try clear hk); (try clear hi)))
  go_ret
  exact ⟨qnd5_, qnd16_⟩

/-- THE ONE PURE STATEMENT of milllaw3_NumeralDecimals: yours. -/
def milllaw3_NumeralDecimals.Pure : Prop := ∀ (a0 : ByteArray), a0.size ≤ 140737488351232 → ∃ k, milllaw3_NumeralDecimals.f k a0 = some true
theorem milllaw3_NumeralDecimals.walk (P : milllaw3_NumeralDecimals.Pure) (a0 : ByteArray) (w : World) (hGL : GOK w) (w0 : a0.size ≤ 140737488351232) :
  Calls Tryd.prog 4 #[.string a0] w fun e w' => e = .returned (.bool true) ∧ Below w.heap.size w w' := by
 obtain ⟨k, h⟩ := P a0 w0
 refine (milllaw3_NumeralDecimals.calls k a0 true w hGL h).mono ?_
 rintro e w' ⟨rfl, hd⟩
 exact ⟨rfl, hd⟩

end Go.Proofs.YtcdajedmlfhmeaaDoor.XN

section
/- What the pure laws stand on: 'enough rounds', bytes as a list, places. (by this session) -/
set_option linter.unusedVariables false
set_option linter.unusedSimpArgs false
namespace Go.Proofs.YtcdajedmlfhmeaaDoor.XN
open Go.RowKit Go.Proofs.YtcdajedmlfhmeaaDoorW.PrintWords Go.Proofs.YtcdajedmlfhmeaaDoorW.PrintMore

/-- With enough rounds, f answers v. -/
def Ev {α : Type} (f : Nat → Option α) (v : α) : Prop := ∃ k0, ∀ k, k0 ≤ k → f k = some v
namespace Ev
variable {α β : Type}
theorem pure (v : α) : Ev (fun _ => some v) v := ⟨0, fun _ _ => rfl⟩
theorem done {v w : α} (h : v = w) : Ev (fun _ => some v) w := ⟨0, fun _ _ => by rw [h]⟩
theorem congr {f g : Nat → Option α} {v : α} (h : ∀ k, f k = g k) (hg : Ev g v) : Ev f v := by
  obtain ⟨k0, hk⟩ := hg
  exact ⟨k0, fun k h0 => by rw [h, hk k h0]⟩
theorem val {f : Nat → Option α} {v w : α} (h : Ev f v) (e : v = w) : Ev f w := e ▸ h
theorem bind {f : Nat → Option α} {g : Nat → α → Option β} {a : α} {v : β} (h : Ev f a) (h2 : Ev (fun k => g k a) v) : Ev (fun k => (f k).bind (g k)) v := by
  obtain ⟨k1, e1⟩ := h
  obtain ⟨k2, e2⟩ := h2
  refine ⟨max k1 k2, fun k hk => ?_⟩
  show (f k).bind (g k) = some v
  rw [e1 k (by omega)]
  exact e2 k (by omega)
theorem succ {f : Nat → Option α} {v : α} (h : Ev (fun k => f (k + 1)) v) : Ev f v := by
  obtain ⟨k0, e⟩ := h
  refine ⟨k0 + 1, fun k hk => ?_⟩
  obtain ⟨k', rfl⟩ : ∃ k', k = k' + 1 := ⟨k - 1, by omega⟩
  exact e k' (by omega)
theorem pos {c : Prop} [Decidable c] {f g : Nat → Option α} {v : α} (hc : c) (h : Ev f v) : Ev (fun k => if c then f k else g k) v := by
  simpa only [if_pos hc] using h
theorem neg {c : Prop} [Decidable c] {f g : Nat → Option α} {v : α} (hc : ¬ c) (h : Ev g v) : Ev (fun k => if c then f k else g k) v := by
  simpa only [if_neg hc] using h
theorem ite {c : Prop} [Decidable c] {f g : Nat → Option α} {v : α} (h1 : c → Ev f v) (h2 : ¬ c → Ev g v) : Ev (fun k => if c then f k else g k) v := by
  by_cases hc : c
  · exact pos hc (h1 hc)
  · exact neg hc (h2 hc)
theorem ex {f : Nat → Option α} {v : α} (h : Ev f v) : ∃ k, f k = some v := by
  obtain ⟨k0, e⟩ := h
  exact ⟨k0, e k0 (Nat.le_refl _)⟩
theorem of_ex {f : Nat → Option α} {v : α} (h : ∃ k, f k = some v) (hm : ∀ k, LeO (f k) (f (k + 1))) : Ev f v := by
  obtain ⟨k0, e⟩ := h
  refine ⟨k0, fun k hk => ?_⟩
  induction hk with
  | refl => exact e
  | step _ ih => exact hm _ _ ih
theorem same {f : Nat → Option α} {v w : α} (h : Ev f v) (h' : Ev f w) : v = w := by
  obtain ⟨k1, e1⟩ := h
  obtain ⟨k2, e2⟩ := h'
  have := e1 (max k1 k2) (by omega)
  rw [e2 (max k1 k2) (by omega)] at this
  injection this with this
  exact this.symm
end Ev

/-! ### bytes as a list -/
def L (s : ByteArray) : List UInt8 := s.data.toList
def mkB (l : List UInt8) : ByteArray := ⟨l.toArray⟩
theorem L_mk (l : List UInt8) : L (mkB l) = l := rfl
theorem mk_L (s : ByteArray) : mkB (L s) = s := by cases s; rfl
theorem L_len (s : ByteArray) : (L s).length = s.size := Array.length_toList
theorem size_mk (l : List UInt8) : (mkB l).size = l.length := by simp [mkB, ByteArray.size]
theorem toList_L (s : ByteArray) : s.toList = L s := ByteArray.toList_eq s
theorem toList_mk (l : List UInt8) : (mkB l).toList = l := by rw [toList_L, L_mk]
theorem L_inj {s t : ByteArray} (h : L s = L t) : s = t := by rw [← mk_L s, h, mk_L]
theorem L_extract (s : ByteArray) (a b : Nat) : L (s.extract a b) = ((L s).drop a).take (b - a) := Lib.extract_data s a b
theorem extract_mk' (s : ByteArray) (a b : Nat) : s.extract a b = mkB (((L s).drop a).take (b - a)) := L_inj (by rw [L_extract, L_mk])
theorem extract_end (s : ByteArray) (a : Nat) : s.extract a s.size = mkB ((L s).drop a) := by
  rw [extract_mk', List.take_of_length_le]
  rw [List.length_drop, L_len]
  omega
theorem extract_front (s : ByteArray) (b : Nat) : s.extract 0 b = mkB ((L s).take b) := by rw [extract_mk']; rfl
theorem L_append (s t : ByteArray) : L (s ++ t) = L s ++ L t := by
  unfold L
  rw [ByteArray.data_append, Array.toList_append]
theorem mk_append (l m : List UInt8) : mkB l ++ mkB m = mkB (l ++ m) := L_inj (by rw [L_append, L_mk, L_mk, L_mk])
theorem bt_nat (s : ByteArray) (i : Nat) (h : i < (L s).length) : bt s (i : Int) = ((L s)[i].toNat : Int) := by
  have h' : i < s.size := by rwa [L_len] at h
  unfold bt
  have e : ((i : Int)).toNat = i := by omega
  simp only [e, h', dite_true]
  rfl
theorem drop_nil {s : ByteArray} {i : Nat} (h : (L s).drop i = []) : s.size ≤ i := by
  rw [← L_len]; exact List.drop_eq_nil_iff.1 h
theorem drop_cons {s : ByteArray} {i : Nat} {c : UInt8} {r : List UInt8} (h : (L s).drop i = c :: r) : i < s.size ∧ bt s (i : Int) = (c.toNat : Int) ∧ (L s).drop (i + 1) = r := by
  have hl : i < (L s).length := by
    rcases Nat.lt_or_ge i (L s).length with h' | h'
    · exact h'
    · rw [List.drop_eq_nil_iff.2 h'] at h; cases h
  have e := List.drop_eq_getElem_cons hl
  rw [h] at e
  injection e with e1 e2
  exact ⟨by rwa [L_len] at hl, by rw [bt_nat s i hl, e1], e2.symm⟩
theorem drop_some {s : ByteArray} {i : Nat} (h : i < s.size) : ∃ c, (L s).drop i = c :: (L s).drop (i + 1) ∧ bt s (i : Int) = (c.toNat : Int) := by
  have hl : i < (L s).length := by rwa [L_len]
  exact ⟨_, List.drop_eq_getElem_cons hl, bt_nat s i hl⟩

/-! ### whole numbers -/
theorem w64 {x : Int} (h : -9223372036854775808 ≤ x ∧ x ≤ 9223372036854775807) : wrap64 x = x := by unfold wrap64; omega
theorem w64_nat {x : Int} {n : Nat} (e : x = (n : Int)) (h : n ≤ 9223372036854775807) : wrap64 x = (n : Int) := by rw [e]; exact w64 (by omega)
theorem w64_succ {i : Nat} (h : i < 9223372036854775807) : wrap64 ((i : Int) + 1) = ((i + 1 : Nat) : Int) := w64_nat (by omega) (by omega)
theorem u8_lt (c : UInt8) : (c.toNat : Int) < 256 ∧ (0 : Int) ≤ (c.toNat : Int) := by have := c.toNat_lt; omega
theorem u8_eq {c d : UInt8} (h : (c.toNat : Int) = (d.toNat : Int)) : c = d := UInt8.toNat_inj.1 (by omega)
/-- The strings that come up are shorter than this. -/
def big : Nat := 4611686018427387904
theorem big_eq : big = 4611686018427387904 := rfl

/-! ### runs at the head of a list -/
theorem take_len {p : UInt8 → Bool} (l : List UInt8) : (l.takeWhile p).length ≤ l.length := by
  induction l with
  | nil => simp
  | cons c r ih => simp only [List.takeWhile_cons]; split <;> simp <;> omega
theorem take_run {p : UInt8 → Bool} (l : List UInt8) : l.take (l.takeWhile p).length = l.takeWhile p := by
  induction l with
  | nil => rfl
  | cons c r ih =>
    simp only [List.takeWhile_cons]
    split
    · simp [ih]
    · simp
theorem drop_run {p : UInt8 → Bool} (l : List UInt8) : l.drop (l.takeWhile p).length = l.dropWhile p := by
  induction l with
  | nil => rfl
  | cons c r ih =>
    simp only [List.takeWhile_cons, List.dropWhile_cons]
    split
    · simp [ih]
    · simp
/-- A loop that goes on while a byte is p, up to the end. -/
theorem scan {β : Type} {s : ByteArray} {p : UInt8 → Bool} {F : Nat → Int → Option β} {v : β} (hs : s.size < big)
    (hstep : ∀ (k i : Nat) (c : UInt8), i < s.size → bt s (i : Int) = (c.toNat : Int) → p c = true → F (k + 1) (i : Int) = F k ((i + 1 : Nat) : Int)) :
    ∀ (l : List UInt8) (i : Nat), (L s).drop i = l → Ev (fun k => F k ((i + (l.takeWhile p).length : Nat) : Int)) v → Ev (fun k => F k (i : Int)) v
  | [], i, h, hend => by simpa using hend
  | c :: r, i, h, hend => by
    obtain ⟨h1, h2, h3⟩ := drop_cons h
    by_cases hp : p c = true
    · rw [List.takeWhile_cons, if_pos hp] at hend
      refine Ev.succ (Ev.congr (fun k => hstep k i c h1 h2 hp) (scan hs hstep r (i + 1) h3 ?_))
      rw [show i + 1 + (r.takeWhile p).length = i + (c :: r.takeWhile p).length by simp; omega]
      exact hend
    · rw [List.takeWhile_cons, if_neg hp] at hend
      simpa using hend
/-- What stands behind such a run: the end, or a byte that isn't p. -/
theorem behind {s : ByteArray} {p : UInt8 → Bool} {i : Nat} (hi : i ≤ s.size) : let j := i + (((L s).drop i).takeWhile p).length; j ≤ s.size ∧ (L s).drop j = ((L s).drop i).dropWhile p := by
  refine ⟨?_, ?_⟩
  · have := take_len (p := p) ((L s).drop i)
    rw [List.length_drop, L_len] at this
    omega
  · rw [← List.drop_drop, drop_run]
theorem dropWhile_head {p : UInt8 → Bool} {l r : List UInt8} {c : UInt8} (h : l.dropWhile p = c :: r) : p c = false := by
  induction l with
  | nil => cases h
  | cons d l ih =>
    rw [List.dropWhile_cons] at h
    split at h
    · exact ih h
    · rename_i hd
      injection h with h1 h2
      subst h1
      simpa using hd
end Go.Proofs.YtcdajedmlfhmeaaDoor.XN
end

section
/- What numeral and millref3 compute at the head of a text: blanks, digits, the parts of a number. (by this session) -/
-- NEEDS numeral_blanks numeral_plain millref3_start millref3_isDigit millref3_run millref3_Plain
set_option linter.unusedVariables false
set_option linter.unusedSimpArgs false
namespace Go.Proofs.YtcdajedmlfhmeaaDoor.XN
open Go.RowKit Go.Proofs.YtcdajedmlfhmeaaDoorW.PrintWords Go.Proofs.YtcdajedmlfhmeaaDoorW.PrintMore

theorem stop_at {s : ByteArray} {p : UInt8 → Bool} {i : Nat} (hi : i ≤ s.size) :
    (i + (((L s).drop i).takeWhile p).length = s.size ∧ ((L s).drop i).dropWhile p = []) ∨
    (∃ c r, i + (((L s).drop i).takeWhile p).length < s.size ∧ bt s ((i + (((L s).drop i).takeWhile p).length : Nat) : Int) = (c.toNat : Int) ∧ p c = false ∧ ((L s).drop i).dropWhile p = c :: r ∧ (L s).drop (i + (((L s).drop i).takeWhile p).length + 1) = r) := by
  obtain ⟨h1, h2⟩ := behind (p := p) hi
  cases h : ((L s).drop i).dropWhile p with
  | nil =>
    left
    rw [h] at h2
    have := drop_nil h2
    exact ⟨by omega, rfl⟩
  | cons c r =>
    right
    rw [h] at h2
    obtain ⟨a, b, d⟩ := drop_cons h2
    exact ⟨c, r, a, b, dropWhile_head h, rfl, d⟩

def isBl (c : UInt8) : Bool := decide ((c.toNat : Int) = 32) || decide ((c.toNat : Int) = 9)
def isDg (c : UInt8) : Bool := plainDig (c.toNat : Int)
def is0 (c : UInt8) : Bool := decide ((c.toNat : Int) = 48)
def blkN (l : List UInt8) : Nat := (l.takeWhile isBl).length

theorem blanks_ev (s : ByteArray) (hs : s.size < big) : Ev (fun k => numeral_blanks.f k s) (blkN (L s) : Int) := by
  unfold numeral_blanks.f
  refine scan (p := isBl) (F := fun k i => numeral_blanks.l0 k s i) hs (fun k i c h1 h2 hp => ?_) (L s) 0 rfl ?_
  · simp only [numeral_blanks.l0, h2, w64_succ (i := i) (by rw [big_eq] at hs; omega)]
    rw [if_pos (by omega), if_pos (by omega)]
    simp only [isBl, Bool.or_eq_true, decide_eq_true_eq] at hp
    split
    · rfl
    · rw [if_pos (by omega)]
  · simp only [Nat.zero_add]
    have hst := stop_at (s := s) (p := isBl) (i := 0) (Nat.zero_le _)
    simp only [Nat.zero_add, List.drop_zero] at hst
    refine Ev.succ ?_
    rcases hst with ⟨h, _⟩ | ⟨c, r, h1, h2, h3, _⟩
    · simp only [numeral_blanks.l0]
      exact Ev.neg (by rw [h]; omega) (Ev.pure _)
    · simp only [numeral_blanks.l0, h2]
      simp only [isBl, Bool.or_eq_false_iff, decide_eq_false_iff_not] at h3
      exact Ev.pos (by omega) (Ev.pos (by omega) (Ev.neg h3.1 (Ev.neg h3.2 (Ev.pure _))))
theorem start_ev (s : ByteArray) (hs : s.size < big) : Ev (fun k => millref3_start.f k s) (blkN (L s) : Int) := by
  unfold millref3_start.f
  refine scan (p := isBl) (F := fun k i => millref3_start.l0 k s i) hs (fun k i c h1 h2 hp => ?_) (L s) 0 rfl ?_
  · simp only [millref3_start.l0, h2, w64_succ (i := i) (by rw [big_eq] at hs; omega)]
    rw [if_pos (by omega), if_pos (by omega)]
    simp only [isBl, Bool.or_eq_true, decide_eq_true_eq] at hp
    split
    · rfl
    · rw [if_pos (by omega)]
  · simp only [Nat.zero_add]
    have hst := stop_at (s := s) (p := isBl) (i := 0) (Nat.zero_le _)
    simp only [Nat.zero_add, List.drop_zero] at hst
    refine Ev.succ ?_
    rcases hst with ⟨h, _⟩ | ⟨c, r, h1, h2, h3, _⟩
    · simp only [millref3_start.l0]
      exact Ev.neg (by rw [h]; omega) (Ev.pure _)
    · simp only [millref3_start.l0, h2]
      simp only [isBl, Bool.or_eq_false_iff, decide_eq_false_iff_not] at h3
      exact Ev.pos (by omega) (Ev.pos (by omega) (Ev.neg h3.1 (Ev.neg h3.2 (Ev.pure _))))
theorem blkN_le (s : ByteArray) : blkN (L s) ≤ s.size := by
  have := take_len (p := isBl) (L s)
  rw [L_len] at this
  exact this
theorem isDigit_f (x : Int) : millref3_isDigit.f x = some (plainDig x) := by
  unfold millref3_isDigit.f plainDig
  by_cases h : 48 ≤ x <;> simp [h]
theorem run_ev (s : ByteArray) (hs : s.size < big) (i : Nat) (hi : i ≤ s.size) : Ev (fun k => millref3_run.f k s i) ((i + (((L s).drop i).takeWhile isDg).length : Nat) : Int) := by
  unfold millref3_run.f
  refine scan (p := isDg) (F := fun k i => millref3_run.l0 k s i) hs (fun k i c h1 h2 hp => ?_) _ i rfl ?_
  · simp only [millref3_run.l0, h2, w64_succ (i := i) (by rw [big_eq] at hs; omega), isDigit_f, Option.bind_some]
    rw [if_pos (by omega), if_pos (by omega), if_pos (show plainDig (c.toNat : Int) = true from hp)]
  · refine Ev.succ ?_
    rcases stop_at (s := s) (p := isDg) hi with ⟨h, _⟩ | ⟨c, r, h1, h2, h3, _⟩
    · simp only [millref3_run.l0]
      exact Ev.neg (by rw [h]; omega) (Ev.pure _)
    · simp only [millref3_run.l0, h2, isDigit_f, Option.bind_some]
      exact Ev.pos (by omega) (Ev.pos (by omega) (Ev.neg (by rw [show plainDig (c.toNat : Int) = isDg c from rfl, h3]; decide) (Ev.pure _)))
theorem plainEnd_L (s : ByteArray) (i : Nat) (hi : i ≤ s.size) : plainEnd s i = i + (((L s).drop i).takeWhile isDg).length := by
  generalize hl : (L s).drop i = l
  induction l generalizing i with
  | nil =>
    have := drop_nil hl
    rw [plainEnd_no (by omega)]
    simp
  | cons c r ih =>
    obtain ⟨h1, h2, h3⟩ := drop_cons hl
    by_cases hp : isDg c = true
    · rw [plainEnd_yes h1 (by rw [h2]; exact hp), ih (i + 1) (by omega) h3, List.takeWhile_cons, if_pos hp]
      simp
      omega
    · rw [plainEnd_no (fun h => hp (by have := h.2; rw [h2] at this; exact this)), List.takeWhile_cons, if_neg hp]
      simp

/-- A number's parts at the head of l: the digits ahead of the point, those behind it, how many bytes in all. -/
def plS (l : List UInt8) : List UInt8 × List UInt8 × Nat :=
  match l.dropWhile isDg with
  | [] => (l.takeWhile isDg, [], (l.takeWhile isDg).length)
  | c :: r => if (c.toNat : Int) = 46 then (l.takeWhile isDg, r.takeWhile isDg, (l.takeWhile isDg).length + 1 + (r.takeWhile isDg).length) else (l.takeWhile isDg, [], (l.takeWhile isDg).length)
theorem plS_len (l : List UInt8) : (plS l).2.2 ≤ l.length := by
  unfold plS
  have h1 := List.takeWhile_append_dropWhile (p := isDg) (l := l)
  have h2 := congrArg List.length h1
  rw [List.length_append] at h2
  split
  · simp only; omega
  · rename_i c r h
    rw [h] at h2
    have := take_len (p := isDg) r
    simp at h2
    split <;> simp only <;> omega
def noneAt (l : List UInt8) : Bool := (plS l).1.isEmpty && (plS l).2.1.isEmpty
theorem nil_iff (l : List UInt8) : l = [] ↔ l.isEmpty = true := by cases l <;> simp
theorem plainF_S (s : ByteArray) (i : Nat) (hi : i ≤ s.size) : plainF s i = if noneAt ((L s).drop i) = true then (false, ⟨#[]⟩, ⟨#[]⟩, 0) else (false, mkB (plS ((L s).drop i)).1, mkB (plS ((L s).drop i)).2.1, ((i + (plS ((L s).drop i)).2.2 : Nat) : Int)) := by
  have he := plainEnd_L s i hi
  have hst := stop_at (s := s) (p := isDg) hi
  generalize hl : (L s).drop i = l at *
  have hx : s.extract i (plainEnd s i) = mkB (l.takeWhile isDg) := by
    rw [extract_mk', he, hl, Nat.add_sub_cancel_left, take_run]
  unfold plainF
  rw [hx]
  rw [he]
  unfold noneAt plS
  rcases hst with ⟨h, h'⟩ | ⟨c, r, h1, h2, h3, h4, h5⟩
  · rw [if_neg (by omega)]
    rw [h']
    simp only [toList_mk, nil_iff, List.isEmpty_nil, Bool.and_true]
    rfl
  · rw [h2, h4]
    simp only []
    by_cases h46 : (c.toNat : Int) = 46
    · rw [if_pos ⟨h1, h46⟩, if_pos h46]
      have hj : i + (l.takeWhile isDg).length + 1 ≤ s.size := by omega
      have he2 := plainEnd_L s _ hj
      rw [h5] at he2
      have hx2 : s.extract (i + (l.takeWhile isDg).length + 1) (plainEnd s (i + (l.takeWhile isDg).length + 1)) = mkB (r.takeWhile isDg) := by
        rw [extract_mk', he2, h5, Nat.add_sub_cancel_left, take_run]
      rw [hx2, he2]
      simp only [toList_mk, nil_iff, Bool.and_eq_true]
      rw [show i + (l.takeWhile isDg).length + 1 + (r.takeWhile isDg).length = i + ((l.takeWhile isDg).length + 1 + (r.takeWhile isDg).length) by omega]
    · rw [if_neg (fun h => h46 h.2), if_neg h46]
      simp only [toList_mk, nil_iff, List.isEmpty_nil, Bool.and_true]
      rfl
theorem plain_f (s : ByteArray) (hs : s.size < big) (i : Nat) (hi : i ≤ s.size) : numeral_plain.f s (i : Int) = some (if noneAt ((L s).drop i) = true then (false, ⟨#[]⟩, ⟨#[]⟩, 0) else (false, mkB (plS ((L s).drop i)).1, mkB (plS ((L s).drop i)).2.1, ((i + (plS ((L s).drop i)).2.2 : Nat) : Int))) := by
  unfold numeral_plain.f
  rw [if_pos ⟨by omega, by omega, by rw [big_eq] at hs; omega⟩, Int.toNat_natCast, plainF_S s i hi]
/-- The document's: the digits, the place of the point, the place behind; -1: none. -/
theorem Plain_ev (s : ByteArray) (hs : s.size < big) (i : Nat) (hi : i ≤ s.size) : Ev (fun k => millref3_Plain.f k s (i : Int))
    (if noneAt ((L s).drop i) = true then (⟨#[]⟩, 0, -1) else (mkB ((plS ((L s).drop i)).1 ++ (plS ((L s).drop i)).2.1), ((plS ((L s).drop i)).1.length : Int), ((i + (plS ((L s).drop i)).2.2 : Nat) : Int))) := by
  have hst := stop_at (s := s) (p := isDg) hi
  have hr := run_ev s hs i hi
  generalize hl : (L s).drop i = l at *
  have hle : i + (l.takeWhile isDg).length ≤ s.size := by rcases hst with ⟨h, _⟩ | ⟨c, r, h, _⟩ <;> omega
  unfold millref3_Plain.f
  refine Ev.bind hr ?_
  have hx : s.extract i (i + (l.takeWhile isDg).length) = mkB (l.takeWhile isDg) := by
    rw [extract_mk', hl, Nat.add_sub_cancel_left, take_run]
  rw [big_eq] at hs
  refine Ev.pos (by omega) (Ev.pos (by omega) (Ev.pos (by omega) ?_))
  simp only [Int.toNat_natCast, hx]
  unfold noneAt plS
  have hw : i + (l.takeWhile isDg).length - i = (l.takeWhile isDg).length := by omega
  rcases hst with ⟨h, h'⟩ | ⟨c, r, h1, h2, h3, h4, h5⟩
  · refine Ev.neg (by omega) ?_
    rw [h']
    simp only [toList_mk, nil_iff, List.isEmpty_nil, Bool.and_true, hw, List.append_nil]
    refine Ev.ite (fun h => ?_) (fun h => ?_)
    · rw [if_pos h]; exact Ev.pure _
    · rw [if_neg h]; exact Ev.pure _
  · refine Ev.pos (by omega) (Ev.pos (by omega) ?_)
    rw [h4]
    simp only [h2]
    by_cases h46 : (c.toNat : Int) = 46
    · refine Ev.pos h46 ?_
      have hj : i + (l.takeWhile isDg).length + 1 ≤ s.size := by omega
      have hr2 := run_ev s (by rw [big_eq]; omega) _ hj
      rw [h5] at hr2
      have hw2 : wrap64 (((i + (l.takeWhile isDg).length : Nat) : Int) + 1) = ((i + (l.takeWhile isDg).length + 1 : Nat) : Int) := w64_nat (by omega) (by omega)
      simp only [hw2]
      refine Ev.bind hr2 ?_
      have hle2 : i + (l.takeWhile isDg).length + 1 + (r.takeWhile isDg).length ≤ s.size := by
        have := take_len (p := isDg) r
        have h6 := congrArg List.length h5
        rw [List.length_drop, L_len] at h6
        omega
      have hx2 : s.extract (i + (l.takeWhile isDg).length + 1) (i + (l.takeWhile isDg).length + 1 + (r.takeWhile isDg).length) = mkB (r.takeWhile isDg) := by
        rw [extract_mk', h5, Nat.add_sub_cancel_left, take_run]
      refine Ev.pos (by omega) (Ev.pos (by omega) (Ev.pos (by omega) ?_))
      simp only [Int.toNat_natCast, hx2, mk_append, toList_mk, nil_iff]
      refine Ev.pos (by omega) ?_
      rw [if_pos h46]
      simp only [Bool.and_eq_true, hw]
      have hap : (l.takeWhile isDg ++ r.takeWhile isDg).isEmpty = true ↔ (l.takeWhile isDg).isEmpty = true ∧ (r.takeWhile isDg).isEmpty = true := by
        simp [List.isEmpty_iff]
      refine Ev.ite (fun h => ?_) (fun h => ?_)
      · rw [if_pos (hap.1 h)]; exact Ev.pure _
      · rw [if_neg (fun h' => h (hap.2 h'))]
        refine Ev.done ?_
        rw [show i + (l.takeWhile isDg).length + 1 + (r.takeWhile isDg).length = i + ((l.takeWhile isDg).length + 1 + (r.takeWhile isDg).length) by omega]
    · refine Ev.neg h46 ?_
      rw [if_neg h46]
      simp only [toList_mk, nil_iff, List.isEmpty_nil, Bool.and_true, hw, List.append_nil]
      refine Ev.ite (fun h => ?_) (fun h => ?_)
      · rw [if_pos h]; exact Ev.pure _
      · rw [if_neg h]; exact Ev.pure _
end Go.Proofs.YtcdajedmlfhmeaaDoor.XN
end

section
/- Decimal and Human: both sides compute the same. (by this session) -/
-- NEEDS strings_TrimLeft strings_TrimRight numeral_decimal numeral_signed numeral_Decimal strings_IndexByte numeral_Human millref3_zeros millref3_trimmed millref3_signed millref3_Decimal millref3_letter millref3_Human
set_option linter.unusedVariables false
set_option linter.unusedSimpArgs false
namespace Go.Proofs.YtcdajedmlfhmeaaDoor.XN
open Go.RowKit Go.Proofs.YtcdajedmlfhmeaaDoorW.PrintWords Go.Proofs.YtcdajedmlfhmeaaDoorW.PrintMore

def tl (l : List UInt8) : List UInt8 := l.dropWhile is0
def tr (l : List UInt8) : List UInt8 := (l.reverse.dropWhile is0).reverse
theorem bt_mk0 (c : UInt8) (r : List UInt8) : bt (mkB (c :: r)) 0 = (c.toNat : Int) := rfl
theorem is0_iff (c : UInt8) : is0 c = true ↔ (c.toNat : Int) = 48 := by simp [is0]
theorem is0_false {c : UInt8} (h : is0 c = false) : ¬ (c.toNat : Int) = 48 := by simpa [is0] using h
theorem tl_len (l : List UInt8) : (tl l).length ≤ l.length := by
  unfold tl
  have h1 := List.takeWhile_append_dropWhile (p := is0) (l := l)
  have h2 := congrArg List.length h1
  rw [List.length_append] at h2
  omega
theorem tr_len (l : List UInt8) : (tr l).length ≤ l.length := by
  have := tl_len l.reverse
  unfold tl at this
  unfold tr
  rw [List.length_reverse] at *
  exact this

theorem trimLeftByte_ev : ∀ (l : List UInt8), l.length < big → Ev (fun k => strings_trimLeftByte.l0 k (mkB l) 48) (mkB (tl l))
  | [], _ => by
    refine Ev.succ ?_
    simp only [strings_trimLeftByte.l0, size_mk]
    exact Ev.neg (by simp) (Ev.pure _)
  | c :: r, h => by
    simp only [List.length_cons] at h
    rw [big_eq] at h
    refine Ev.succ ?_
    simp only [strings_trimLeftByte.l0, size_mk, bt_mk0, List.length_cons]
    refine Ev.pos (by omega) (Ev.pos (by omega) ?_)
    have hx : (mkB (c :: r)).extract 1 (r.length + 1) = mkB r := by rw [extract_mk', L_mk]; simp
    unfold tl
    by_cases hc : is0 c = true
    · rw [List.dropWhile_cons, if_pos hc]
      refine Ev.pos ((is0_iff c).1 hc) (Ev.pos (by omega) ?_)
      simp only [hx]
      exact trimLeftByte_ev r (by rw [big_eq]; omega)
    · rw [List.dropWhile_cons, if_neg hc]
      exact Ev.neg (fun h => hc ((is0_iff c).2 h)) (Ev.pure _)
theorem last_rev (c : UInt8) (r : List UInt8) (n : Int) (hn : n = (r.length : Int)) : bt (mkB (c :: r).reverse) n = (c.toNat : Int) := by
  subst hn
  rw [bt_nat _ _ (by rw [L_mk]; simp)]
  simp [L_mk, List.getElem_append_right]
theorem trimRightByte_ev : ∀ (r : List UInt8), r.length < big → Ev (fun k => strings_trimRightByte.l0 k (mkB r.reverse) 48) (mkB (r.dropWhile is0).reverse)
  | [], _ => by
    refine Ev.succ ?_
    simp only [strings_trimRightByte.l0, size_mk]
    exact Ev.neg (by simp) (Ev.pure _)
  | c :: r, h => by
    simp only [List.length_cons] at h
    rw [big_eq] at h
    have hw : wrap64 ((((c :: r).reverse.length : Nat) : Int) - 1) = (r.length : Int) := w64_nat (by simp) (by omega)
    refine Ev.succ ?_
    simp only [strings_trimRightByte.l0, size_mk, hw, last_rev c r _ rfl]
    have hl : (c :: r).reverse.length = r.length + 1 := by simp
    rw [hl]
    refine Ev.pos (by omega) (Ev.pos (by omega) (Ev.pos (by omega) ?_))
    have hx : (mkB (c :: r).reverse).extract 0 ((r.length : Int)).toNat = mkB r.reverse := by
      rw [extract_front, L_mk, Int.toNat_natCast]
      congr 1
      rw [List.reverse_cons, List.take_append_of_le_length (by simp), List.take_of_length_le (by simp)]
    by_cases hc : is0 c = true
    · rw [List.dropWhile_cons, if_pos hc]
      refine Ev.pos ((is0_iff c).1 hc) (Ev.pos (by omega) ?_)
      simp only [hx]
      exact trimRightByte_ev r (by rw [big_eq]; omega)
    · rw [List.dropWhile_cons, if_neg hc]
      exact Ev.neg (fun h => hc ((is0_iff c).2 h)) (Ev.pure _)
theorem TrimLeft_ev (l : List UInt8) (h : l.length < big) : Ev (fun k => strings_TrimLeft.f k (mkB l) (⟨#[48]⟩ : ByteArray)) (mkB (tl l)) := by
  unfold strings_TrimLeft.f
  simp only [toList_mk]
  refine Ev.ite (fun h0 => ?_) (fun h0 => ?_)
  · subst h0
    refine Ev.succ ?_
    simp only [strings_TrimLeft.j0]
    exact Ev.pos trivial (Ev.pure _)
  · refine Ev.succ ?_
    simp only [strings_TrimLeft.j0]
    refine Ev.neg (by rw [toList_L]; decide) (Ev.pos (by rfl) (Ev.pos (by decide) ?_))
    refine Ev.succ ?_
    simp only [strings_TrimLeft.j1]
    refine Ev.pos (by decide) (Ev.pos (by decide) ?_)
    exact Ev.bind (trimLeftByte_ev l h) (Ev.pure _)
theorem TrimRight_ev (l : List UInt8) (h : l.length < big) : Ev (fun k => strings_TrimRight.f k (mkB l) (⟨#[48]⟩ : ByteArray)) (mkB (tr l)) := by
  unfold strings_TrimRight.f
  simp only [toList_mk]
  have key := trimRightByte_ev l.reverse (by simpa using h)
  rw [List.reverse_reverse] at key
  refine Ev.ite (fun h0 => ?_) (fun h0 => ?_)
  · subst h0
    refine Ev.succ ?_
    simp only [strings_TrimRight.j0]
    exact Ev.pos trivial (Ev.pure _)
  · refine Ev.succ ?_
    simp only [strings_TrimRight.j0]
    refine Ev.neg (by rw [toList_L]; decide) (Ev.pos (by rfl) (Ev.pos (by decide) ?_))
    refine Ev.succ ?_
    simp only [strings_TrimRight.j1]
    refine Ev.pos (by decide) (Ev.pos (by decide) ?_)
    exact Ev.bind key (Ev.pure _)

theorem zeros_ev (s : ByteArray) (hs : s.size < big) : Ev (fun k => millref3_zeros.f k s) ((((L s).takeWhile is0).length : Nat) : Int) := by
  unfold millref3_zeros.f
  refine scan (p := is0) (F := fun k i => millref3_zeros.l0 k s i) hs (fun k i c h1 h2 hp => ?_) (L s) 0 rfl ?_
  · simp only [millref3_zeros.l0, h2, w64_succ (i := i) (by rw [big_eq] at hs; omega)]
    rw [if_pos (by omega), if_pos (by omega), if_pos ((is0_iff c).1 hp)]
  · simp only [Nat.zero_add]
    have hst := stop_at (s := s) (p := is0) (i := 0) (Nat.zero_le _)
    simp only [Nat.zero_add, List.drop_zero] at hst
    refine Ev.succ ?_
    rcases hst with ⟨h, _⟩ | ⟨c, r, h1, h2, h3, _⟩
    · simp only [millref3_zeros.l0]
      exact Ev.neg (by rw [h]; omega) (Ev.pure _)
    · simp only [millref3_zeros.l0, h2]
      exact Ev.pos (by omega) (Ev.pos (by omega) (Ev.neg (is0_false h3) (Ev.pure _)))
theorem trimmed_l0 (s : ByteArray) (hs : s.size < big) : ∀ n : Nat, n ≤ s.size → Ev (fun k => millref3_trimmed.l0 k s (n : Int)) (mkB (tr ((L s).take n)))
  | 0, _ => by
    refine Ev.succ ?_
    simp only [millref3_trimmed.l0]
    refine Ev.neg (by decide) (Ev.pos (by decide) (Ev.pos (by omega) (Ev.done ?_)))
    simp [extract_front, tr]
    rfl
  | n + 1, h => by
    rw [big_eq] at hs
    have hw : wrap64 (((n + 1 : Nat) : Int) - 1) = (n : Int) := w64_nat (by omega) (by omega)
    refine Ev.succ ?_
    simp only [millref3_trimmed.l0, hw]
    refine Ev.pos (by omega) (Ev.pos (by omega) (Ev.pos (by omega) ?_))
    have hl : n < (L s).length := by rw [L_len]; omega
    rw [bt_nat s n hl]
    have ht : (L s).take (n + 1) = (L s).take n ++ [(L s)[n]] := List.take_succ_eq_append_getElem hl
    by_cases hc : is0 (L s)[n] = true
    · refine Ev.pos ((is0_iff _).1 hc) ?_
      have ih := trimmed_l0 s (by rw [big_eq]; omega) n (by omega)
      have e : tr ((L s).take (n + 1)) = tr ((L s).take n) := by
        unfold tr
        rw [ht, List.reverse_append, List.reverse_singleton, List.singleton_append, List.dropWhile_cons, if_pos hc]
      rw [e]
      exact ih
    · refine Ev.neg (fun h => hc ((is0_iff _).2 h)) (Ev.pos (by omega) (Ev.pos (by omega) (Ev.done ?_)))
      rw [extract_front, Int.toNat_natCast]
      congr 1
      unfold tr
      rw [ht, List.reverse_append, List.reverse_singleton, List.singleton_append, List.dropWhile_cons, if_neg hc]
      simp
theorem trimmed_ev (l : List UInt8) (h : l.length < big) : Ev (fun k => millref3_trimmed.f k (mkB l)) (mkB (tr l)) := by
  unfold millref3_trimmed.f
  have := trimmed_l0 (mkB l) (by rw [size_mk]; exact h) _ (Nat.le_refl _)
  rw [size_mk] at *
  rw [L_mk, List.take_length] at this
  exact this

def negAt : List UInt8 → Bool
  | [] => false
  | c :: _ => decide ((c.toNat : Int) = 45)
/-- The place behind the blanks and the sign. -/
def sgN (l : List UInt8) : Nat := blkN l + if negAt (l.drop (blkN l)) = true then 1 else 0
theorem sgN_le (s : ByteArray) : sgN (L s) ≤ s.size := by
  unfold sgN
  have := blkN_le s
  split
  · rename_i h
    cases hd : (L s).drop (blkN (L s)) with
    | nil => rw [hd] at h; cases h
    | cons c r => have := (drop_cons hd).1; omega
  · omega
def sgNeg (l : List UInt8) : Bool := negAt (l.drop (blkN l))
def sgS (l : List UInt8) : Bool × ByteArray × ByteArray × Int :=
  if noneAt (l.drop (sgN l)) = true then (false, mkB [], mkB [], 0) else (sgNeg l, mkB (plS (l.drop (sgN l))).1, mkB (plS (l.drop (sgN l))).2.1, ((sgN l + (plS (l.drop (sgN l))).2.2 : Nat) : Int))
theorem pl_pos {l : List UInt8} (h : ¬ noneAt l = true) : 0 < (plS l).2.2 := by
  unfold noneAt plS at *
  revert h
  cases l.dropWhile isDg with
  | nil => cases l.takeWhile isDg <;> simp
  | cons c r =>
    simp only
    split
    · intro _; simp only; omega
    · cases l.takeWhile isDg <;> simp
theorem signed_ev (s : ByteArray) (hs : s.size < big) : Ev (fun k => numeral_signed.f k s) (sgS (L s)) := by
  unfold numeral_signed.f
  refine Ev.bind (blanks_ev s hs) ?_
  have hb := blkN_le s
  have hsg := sgN_le s
  have hs' := hs
  rw [big_eq] at hs'
  unfold sgS sgNeg
  cases hd : (L s).drop (blkN (L s)) with
  | nil =>
    have h1 := drop_nil hd
    have e : sgN (L s) = blkN (L s) := by unfold sgN; rw [hd]; rfl
    refine Ev.neg (by omega) ?_
    rw [plain_f s hs _ hb, Option.bind_some, e, hd]
    exact Ev.done rfl
  | cons c r =>
    obtain ⟨h1, h2, h3⟩ := drop_cons hd
    refine Ev.pos (by omega) (Ev.pos (by omega) ?_)
    rw [h2]
    by_cases hc : (c.toNat : Int) = 45
    · have e : sgN (L s) = blkN (L s) + 1 := by unfold sgN; rw [hd]; simp [negAt, hc]
      refine Ev.pos hc ?_
      rw [w64_succ (by omega), plain_f s hs _ (by omega), Option.bind_some, e]
      simp only [negAt, hc, decide_true]
      by_cases hn : noneAt ((L s).drop (blkN (L s) + 1)) = true
      · simp only [if_pos hn]
        exact Ev.done rfl
      · simp only [if_neg hn]
        refine Ev.done ?_
        have : ((blkN (L s) + 1 + (plS ((L s).drop (blkN (L s) + 1))).2.2 : Nat) : Int) > 0 := by omega
        rw [decide_eq_true this]
    · have e : sgN (L s) = blkN (L s) := by unfold sgN; rw [hd]; simp [negAt, hc]
      refine Ev.neg hc ?_
      rw [plain_f s hs _ hb, Option.bind_some, e, hd]
      by_cases hn : noneAt (c :: r) = true
      · simp only [if_pos hn]
        exact Ev.done rfl
      · simp only [if_neg hn, negAt, hc, decide_false]
        exact Ev.done rfl

/-- P3.1's number: is it below 0, the whole digits, the digits behind the point, the place behind. -/
def decS (l : List UInt8) : Bool × List UInt8 × List UInt8 × Nat :=
  if noneAt (l.drop (sgN l)) = true then (false, [], [], 0) else
    (sgNeg l && !((tl (plS (l.drop (sgN l))).1).isEmpty && (tr (plS (l.drop (sgN l))).2.1).isEmpty), tl (plS (l.drop (sgN l))).1, tr (plS (l.drop (sgN l))).2.1, sgN l + (plS (l.drop (sgN l))).2.2)
def decV (l : List UInt8) : Bool × ByteArray × ByteArray × Int := ((decS l).1, mkB (decS l).2.1, mkB (decS l).2.2.1, ((decS l).2.2.2 : Int))
theorem pl1_len (l : List UInt8) : (plS l).1.length ≤ l.length := by
  unfold plS
  have := take_len (p := isDg) l
  split
  · exact this
  · split <;> exact this
theorem pl2_len (l : List UInt8) : (plS l).2.1.length ≤ l.length := by
  have h := plS_len l
  have : (plS l).2.1.length ≤ (plS l).2.2 := by
    unfold plS
    split
    · simp
    · split <;> simp <;> omega
  omega
theorem size_drop (s : ByteArray) (n : Nat) : ((L s).drop n).length ≤ s.size := by rw [List.length_drop, L_len]; omega
theorem decimal_ev (n : Bool) (w f : List UInt8) (e : Int) (hw : w.length < big) (hf : f.length < big) : Ev (fun k => numeral_decimal.f k n (mkB w) (mkB f) e) (n && !((tl w).isEmpty && (tr f).isEmpty), mkB (tl w), mkB (tr f), e) := by
  unfold numeral_decimal.f
  refine Ev.bind (TrimLeft_ev w hw) (Ev.bind (TrimRight_ev f hf) ?_)
  simp only [toList_mk, nil_iff]
  cases n with
  | false => exact Ev.neg (by decide) (Ev.done (by simp))
  | true =>
    refine Ev.pos rfl (Ev.ite (fun h => ?_) (fun h => ?_))
    · exact Ev.done (by simp [h])
    · exact Ev.done (by simp [h])
theorem Decimal_ev (s : ByteArray) (hs : s.size < big) : Ev (fun k => numeral_Decimal.f k s) (decV (L s)) := by
  unfold numeral_Decimal.f
  refine Ev.bind (signed_ev s hs) ?_
  unfold sgS decV decS
  have hd := size_drop s (sgN (L s))
  have h1 := pl1_len ((L s).drop (sgN (L s)))
  have h2 := pl2_len ((L s).drop (sgN (L s)))
  by_cases hn : noneAt ((L s).drop (sgN (L s))) = true
  · simp only [if_pos hn]
    refine Ev.bind (decimal_ev false [] [] 0 (by decide) (by decide)) (Ev.done ?_)
    simp [tl, tr]
  · simp only [if_neg hn]
    exact Ev.bind (decimal_ev _ _ _ _ (by omega) (by omega)) (Ev.pure _)

/-! ### the document's -/
theorem rsigned_ev (s : ByteArray) (hs : s.size < big) : Ev (fun k => millref3_signed.f k s)
    (if noneAt ((L s).drop (sgN (L s))) = true then (false, mkB [], 0, 0, 0) else (sgNeg (L s), mkB ((plS ((L s).drop (sgN (L s)))).1 ++ (plS ((L s).drop (sgN (L s)))).2.1), ((plS ((L s).drop (sgN (L s)))).1.length : Int), 0, ((sgN (L s) + (plS ((L s).drop (sgN (L s)))).2.2 : Nat) : Int))) := by
  unfold millref3_signed.f
  refine Ev.bind (start_ev s hs) ?_
  have hb := blkN_le s
  have hs' := hs
  rw [big_eq] at hs'
  unfold sgNeg
  cases hd : (L s).drop (blkN (L s)) with
  | nil =>
    have h1 := drop_nil hd
    have e : sgN (L s) = blkN (L s) := by unfold sgN; rw [hd]; rfl
    refine Ev.neg (by omega) (Ev.succ ?_)
    simp only [millref3_signed.j0]
    refine Ev.neg (by decide) (Ev.bind (Plain_ev s hs _ hb) ?_)
    rw [e, hd]
    simp only [show noneAt [] = true from rfl, if_true]
    refine Ev.pos (by decide) (Ev.done rfl)
  | cons c r =>
    obtain ⟨h1, h2, h3⟩ := drop_cons hd
    refine Ev.pos (by omega) (Ev.pos (by omega) ?_)
    rw [h2]
    refine Ev.succ ?_
    simp only [millref3_signed.j0]
    by_cases hc : (c.toNat : Int) = 45
    · have e : sgN (L s) = blkN (L s) + 1 := by unfold sgN; rw [hd]; simp [negAt, hc]
      refine Ev.pos (by simp [hc]) ?_
      rw [w64_succ (by omega)]
      refine Ev.bind (Plain_ev s hs _ (by omega)) ?_
      rw [e]
      by_cases hn : noneAt ((L s).drop (blkN (L s) + 1)) = true
      · simp only [if_pos hn]
        exact Ev.pos (by decide) (Ev.done rfl)
      · simp only [if_neg hn]
        exact Ev.neg (by omega) (Ev.done (by simp [negAt, hc]))
    · have e : sgN (L s) = blkN (L s) := by unfold sgN; rw [hd]; simp [negAt, hc]
      refine Ev.neg (by simp [hc]) ?_
      refine Ev.bind (Plain_ev s hs _ (by omega)) ?_
      rw [e, hd]
      by_cases hn : noneAt (c :: r) = true
      · simp only [if_pos hn]
        exact Ev.pos (by decide) (Ev.done rfl)
      · simp only [if_neg hn]
        exact Ev.neg (by omega) (Ev.done (by simp [negAt, hc]))
theorem rDecimal_ev (s : ByteArray) (hs : s.size < big) : Ev (fun k => millref3_Decimal.f k s) (decV (L s)) := by
  unfold millref3_Decimal.f
  refine Ev.bind (rsigned_ev s hs) ?_
  unfold decV decS
  have hd := size_drop s (sgN (L s))
  have h1 := pl1_len ((L s).drop (sgN (L s)))
  have h2 := pl2_len ((L s).drop (sgN (L s)))
  have h3 := plS_len ((L s).drop (sgN (L s)))
  have hs' := hs
  rw [big_eq] at hs'
  by_cases hn : noneAt ((L s).drop (sgN (L s))) = true
  · simp only [if_pos hn]
    exact Ev.pos trivial (Ev.done rfl)
  · have hp := pl_pos hn
    simp only [if_neg hn]
    generalize plS ((L s).drop (sgN (L s))) = q at *
    obtain ⟨w, f, e⟩ := q
    simp only at *
    have x1 : (mkB (w ++ f)).extract 0 ((w.length : Int)).toNat = mkB w := by
      rw [extract_front, L_mk, Int.toNat_natCast, List.take_left]
    have x2 : (mkB (w ++ f)).extract ((w.length : Int)).toNat (mkB (w ++ f)).size = mkB f := by
      rw [extract_end, L_mk, Int.toNat_natCast, List.drop_left]
    refine Ev.neg (by omega) (Ev.pos (by omega) (Ev.pos (by rw [size_mk, List.length_append]; omega) ?_))
    simp only [x1, x2]
    refine Ev.bind (zeros_ev (mkB w) (by rw [size_mk, big_eq]; omega)) ?_
    have ht := take_len (p := is0) w
    rw [L_mk]
    refine Ev.pos (by omega) (Ev.pos (by rw [Int.toNat_natCast]; omega) ?_)
    refine Ev.bind (trimmed_ev f (by rw [big_eq]; omega)) ?_
    have x3 : (mkB w).extract (((w.takeWhile is0).length : Int)).toNat ((w.length : Int)).toNat = mkB (tl w) := by
      rw [extract_mk', L_mk, Int.toNat_natCast, Int.toNat_natCast, drop_run, List.take_of_length_le]
      · rfl
      · have := drop_run (p := is0) w
        have h4 := congrArg List.length this
        rw [List.length_drop] at h4
        omega
    simp only [x3, mk_append, toList_mk, size_mk]
    have hap : (tl w ++ tr f).isEmpty = ((tl w).isEmpty && (tr f).isEmpty) := by
      cases tl w <;> simp
    rw [hap]
    have h5 := tr_len f
    cases sgNeg (L s) with
    | true => exact Ev.pos rfl (Ev.pos (by rw [Int.toNat_natCast, Int.toNat_natCast]; omega) (Ev.done (by simp)))
    | false => exact Ev.neg (by decide) (Ev.done (by simp))
end Go.Proofs.YtcdajedmlfhmeaaDoor.XN
end

section
/- Human and Month: both sides compute the same. (by this session) -/
-- NEEDS strings_IndexByte numeral_Human millref3_letter millref3_Human numeral_begins numeral_Month millref3_low millref3_at millref3_Month
set_option linter.unusedVariables false
set_option linter.unusedSimpArgs false
namespace Go.Proofs.YtcdajedmlfhmeaaDoor.XN
open Go.RowKit Go.Proofs.YtcdajedmlfhmeaaDoorW.PrintWords Go.Proofs.YtcdajedmlfhmeaaDoorW.PrintMore

/-- What is so of 0 to 255 is so of every byte. -/
theorem all8 {P : UInt8 → Prop} (h : ∀ n : Fin 256, P (UInt8.ofNat n.val)) (c : UInt8) : P c := by
  have := h ⟨c.toNat, c.toNat_lt⟩
  simpa using this
def unitL : List UInt8 := [75, 77, 71, 84, 80, 69, 90, 89, 82, 81]
/-- The rank of a byte; 0: it is no letter of h. -/
def letN (c : UInt8) : Nat := if c = 107 then 1 else if c ∈ unitL then unitL.idxOf c + 1 else 0
theorem letN_le (c : UInt8) : letN c ≤ 10 := by
  unfold letN
  split
  · omega
  · split
    · rename_i h
      have := List.idxOf_lt_length_iff.2 h
      have e : unitL.length = 10 := rfl
      omega
    · omega
theorem idx_units : ∀ c : UInt8, Lib.indexByte unitL (if c = 107 then 75 else c) + 1 = (letN c : Int) := all8 (by decide +kernel)
theorem letter_ev (c : UInt8) : Ev (fun k => millref3_letter.f k (c.toNat : Int)) (letN c : Int) := by
  have key : ∀ c : UInt8, millref3_letter.f 20 (c.toNat : Int) = some (letN c : Int) := all8 (by decide +kernel)
  exact Ev.of_ex ⟨20, key c⟩ (fun k => millref3_letter.mono _ _)
/-- P3.3: the number of h, and its rank. -/
def humS (s : ByteArray) : (Bool × List UInt8 × List UInt8 × Nat) × Nat :=
  let d := decS (L s)
  if d.2.2.2 = 0 ∨ d.2.2.2 = s.size then (d, 0) else
    match (L s).drop d.2.2.2 with
    | [] => (d, 0)
    | c :: _ => ((d.1, d.2.1, d.2.2.1, if 0 < letN c then d.2.2.2 + 1 else d.2.2.2), if d.2.1 = [] ∧ d.2.2.1 = [] then 0 else letN c)
def humV (s : ByteArray) : Bool × ByteArray × ByteArray × Int × Int := ((humS s).1.1, mkB (humS s).1.2.1, mkB (humS s).1.2.2.1, ((humS s).1.2.2.2 : Int), ((humS s).2 : Int))
theorem dec_end (s : ByteArray) : (decS (L s)).2.2.2 ≤ s.size := by
  unfold decS
  split
  · simp
  · have h1 := plS_len ((L s).drop (sgN (L s)))
    have h2 := sgN_le s
    rw [List.length_drop, L_len] at h1
    simp only
    omega
theorem dec_none {s : ByteArray} (h : (decS (L s)).2.2.2 = 0) : decS (L s) = (false, [], [], 0) := by
  unfold decS at *
  split
  · rfl
  · rename_i hn
    rw [if_neg hn] at h
    have := pl_pos hn
    simp only at h
    omega
theorem IndexByte_f (c : Int) : strings_IndexByte.f (⟨#[75, 77, 71, 84, 80, 69, 90, 89, 82, 81]⟩ : ByteArray) c = some (Lib.indexByte unitL c.toNat.toUInt8) := rfl
theorem Human_j1 (c : UInt8) (hc : c ≠ 107) (n : Bool) (w f : List UInt8) (e : Nat) (he : e < big) : Ev (fun k => numeral_Human.j1 k (c.toNat : Int) n (mkB w) (mkB f) (e : Int))
    (n, mkB w, mkB f, ((if 0 < letN c then e + 1 else e : Nat) : Int), ((if w = [] ∧ f = [] then 0 else letN c : Nat) : Int)) := by
  have h1 := idx_units c
  have hl := letN_le c
  rw [if_neg hc] at h1
  rw [big_eq] at he
  have hw : wrap64 (Lib.indexByte unitL c + 1) = (letN c : Int) := by rw [h1]; exact w64 (by omega)
  have hcc : ((c.toNat : Int)).toNat.toUInt8 = c := by rw [Int.toNat_natCast]; simp
  refine Ev.succ ?_
  simp only [numeral_Human.j1, IndexByte_f, Option.bind_some, hcc, hw, toList_mk]
  by_cases hp : 0 < letN c
  · have hw2 : wrap64 ((e : Int) + 1) = ((e + 1 : Nat) : Int) := w64_nat (by omega) (by omega)
    simp only [hw2, if_pos hp]
    refine Ev.pos (by omega) (Ev.ite (fun h => Ev.ite (fun h' => ?_) (fun h' => ?_)) (fun h => ?_))
    · exact Ev.done (by simp [h, h'])
    · exact Ev.done (by simp [h'])
    · exact Ev.done (by simp [h])
  · simp only [if_neg hp]
    refine Ev.neg (by omega) (Ev.ite (fun h => Ev.ite (fun h' => ?_) (fun h' => ?_)) (fun h => ?_))
    · exact Ev.done (by simp [h, h'])
    · exact Ev.done (by simp [h'])
    · exact Ev.done (by simp [h])
theorem Human_ev (s : ByteArray) (hs : s.size < big) : Ev (fun k => numeral_Human.f k s) (humV s) := by
  unfold numeral_Human.f
  refine Ev.bind (Decimal_ev s hs) ?_
  have he := dec_end s
  have hs' := hs
  rw [big_eq] at hs'
  unfold humV humS decV
  generalize hd : decS (L s) = d at *
  obtain ⟨n, w, f, e⟩ := d
  simp only at *
  by_cases h0 : e = 0
  · subst h0
    refine Ev.pos (by rfl) (Ev.succ ?_)
    simp only [numeral_Human.j0]
    exact Ev.pos trivial (Ev.done (by simp))
  · refine Ev.neg (by omega) (Ev.succ ?_)
    simp only [numeral_Human.j0]
    by_cases h1 : e = s.size
    · refine Ev.pos (by simp [h1]) (Ev.done ?_)
      simp [h1]
    · obtain ⟨c, hc, hb⟩ := drop_some (s := s) (i := e) (by omega)
      rw [if_neg (by omega), hc]
      refine Ev.neg (by simp; omega) (Ev.pos (by omega) (Ev.pos (by omega) ?_))
      rw [hb]
      by_cases hk : c = 107
      · refine Ev.pos (by rw [hk]; decide) ?_
        have hx := Human_j1 75 (by decide) n w f e (by omega)
        have hl : letN 75 = letN c := by rw [hk]; decide
        rw [hl] at hx
        exact hx
      · refine Ev.neg (fun h => hk (u8_eq (d := 107) h)) ?_
        exact Human_j1 c hk n w f e (by omega)
theorem rHuman_ev (s : ByteArray) (hs : s.size < big) : Ev (fun k => millref3_Human.f k s) (humV s) := by
  unfold millref3_Human.f
  refine Ev.bind (rDecimal_ev s hs) ?_
  have he := dec_end s
  have hz : (decS (L s)).2.2.2 = 0 → decS (L s) = (false, [], [], 0) := dec_none
  have hlen : (decS (L s)).2.1.length ≤ s.size ∧ (decS (L s)).2.2.1.length ≤ s.size := by
    unfold decS
    split
    · simp
    · have h1 := tl_len (plS ((L s).drop (sgN (L s)))).1
      have h2 := tr_len (plS ((L s).drop (sgN (L s)))).2.1
      have h3 := pl1_len ((L s).drop (sgN (L s)))
      have h4 := pl2_len ((L s).drop (sgN (L s)))
      have h5 := size_drop s (sgN (L s))
      simp only
      omega
  have hs' := hs
  rw [big_eq] at hs'
  unfold humV humS decV
  generalize hd : decS (L s) = d at *
  obtain ⟨n, w, f, e⟩ := d
  simp only at *
  have hap : (w ++ f = []) ↔ (w = [] ∧ f = []) := by simp
  by_cases h0 : e = 0
  · have := hz h0
    simp only [Prod.mk.injEq] at this
    obtain ⟨rfl, rfl, rfl, rfl⟩ := this
    refine Ev.neg (by decide) (Ev.succ ?_)
    simp only [millref3_Human.j0]
    refine Ev.neg (by decide) (Ev.succ ?_)
    simp only [millref3_Human.j1, size_mk, mk_append, toList_mk]
    exact Ev.neg (by decide) (Ev.pos (by decide) (Ev.pos rfl (Ev.done (by simp))))
  · refine Ev.pos (by omega) (Ev.succ ?_)
    simp only [millref3_Human.j0]
    by_cases h1 : e = s.size
    · refine Ev.neg (by simp [h1]) (Ev.succ ?_)
      simp only [millref3_Human.j1, size_mk, mk_append, toList_mk, hap]
      refine Ev.neg (by decide) (Ev.pos (by omega) (Ev.ite (fun h => ?_) (fun h => ?_)))
      · exact Ev.done (by simp [h1])
      · exact Ev.done (by simp [h1])
    · obtain ⟨c, hc, hb⟩ := drop_some (s := s) (i := e) (by omega)
      rw [if_neg (by omega), hc]
      refine Ev.pos (by simp; omega) (Ev.pos (by omega) (Ev.pos (by omega) ?_))
      rw [hb]
      refine Ev.bind (letter_ev c) (Ev.succ ?_)
      have hl := letN_le c
      simp only [millref3_Human.j1, size_mk, mk_append, toList_mk, hap]
      by_cases hp : 0 < letN c
      · have hw2 : wrap64 ((e : Int) + 1) = ((e + 1 : Nat) : Int) := w64_nat (by omega) (by omega)
        simp only [hw2, if_pos hp]
        refine Ev.pos (by omega) (Ev.pos (by omega) (Ev.ite (fun h => ?_) (fun h => ?_)))
        · exact Ev.done (by simp [h])
        · exact Ev.done (by simp [h])
      · simp only [if_neg hp]
        refine Ev.neg (by omega) (Ev.pos (by omega) (Ev.ite (fun h => ?_) (fun h => ?_)))
        · exact Ev.done (by simp [h])
        · exact Ev.done (by simp [h])

/-! ### words in small or great letters -/
/-- A letter as a small one. -/
def lowB (c : UInt8) : UInt8 := if 65 ≤ c ∧ c ≤ 90 then c + 32 else c
def isWord (w : List UInt8) : Bool := w.all fun c => decide (97 ≤ c) && decide (c ≤ 122)
/-- Does l begin with the word w (small letters)? -/
def bgN : List UInt8 → List UInt8 → Bool
  | _, [] => true
  | [], _ :: _ => false
  | c :: l, d :: w => lowB c == d && bgN l w
theorem low_f (c : UInt8) : millref3_low.f (c.toNat : Int) = some ((lowB c).toNat : Int) := by
  have : ∀ c : UInt8, millref3_low.f (c.toNat : Int) = some ((lowB c).toNat : Int) := all8 (by decide +kernel)
  exact this c
theorem or_low (c d : UInt8) (hd : (decide (97 ≤ d) && decide (d ≤ 122)) = true) : (Go.bits .or .u8 (c.toNat : Int) 32 = (d.toNat : Int) ∧ ¬ (c.toNat : Int) < 65) ↔ lowB c = d := by
  have hb : ∀ c : UInt8, Go.bits .or .u8 (c.toNat : Int) 32 = ((c ||| 32).toNat : Int) := all8 (by decide +kernel)
  have h2 : ∀ d : UInt8, ∀ c : UInt8, (decide (97 ≤ d) && decide (d ≤ 122)) = true → (((c ||| 32) = d ∧ ¬ (c.toNat : Int) < 65) ↔ lowB c = d) := by
    have h3 : ∀ n : Fin 26, ∀ m : Fin 256, (((UInt8.ofNat m.val ||| 32) = UInt8.ofNat (97 + n.val) ∧ ¬ ((UInt8.ofNat m.val).toNat : Int) < 65) ↔ lowB (UInt8.ofNat m.val) = UInt8.ofNat (97 + n.val)) := by decide +kernel
    intro d c hd
    simp only [Bool.and_eq_true, decide_eq_true_eq, UInt8.le_iff_toNat_le] at hd
    have e1 : (97 : UInt8).toNat = 97 := rfl
    have e2 : (122 : UInt8).toNat = 122 := rfl
    have h4 := h3 ⟨d.toNat - 97, by omega⟩ ⟨c.toNat, c.toNat_lt⟩
    have e3 : 97 + (d.toNat - 97) = d.toNat := by omega
    simp only [e3, UInt8.ofNat_toNat] at h4
    exact h4
  rw [hb c, ← h2 d c hd]
  constructor
  · rintro ⟨a, b⟩; exact ⟨u8_eq a, b⟩
  · rintro ⟨a, b⟩; exact ⟨by rw [a], b⟩
theorem begins_l0 (s : ByteArray) (hs : s.size < big) (i : Nat) (w : List UInt8) (hwd : isWord w = true) : ∀ (v : List UInt8) (j : Nat), w.drop j = v → j ≤ w.length → i + w.length ≤ s.size →
    Ev (fun k => numeral_begins.l0 k s (i : Int) (mkB w) (w.length : Int) (j : Int)) (bgN ((L s).drop (i + j)) v)
  | [], j, h, hj, hl => by
    have : w.length ≤ j := List.drop_eq_nil_iff.1 h
    refine Ev.succ ?_
    simp only [numeral_begins.l0]
    exact Ev.neg (by omega) (Ev.done (by simp [bgN]))
  | d :: v, j, h, hj, hl => by
    have hjl : j < w.length := by
      rcases Nat.lt_or_ge j w.length with h' | h'
      · exact h'
      · rw [List.drop_eq_nil_iff.2 h'] at h; cases h
    have hb : bt (mkB w) (j : Int) = (d.toNat : Int) ∧ (L (mkB w)).drop (j + 1) = v := (drop_cons (s := mkB w) (i := j) (by rw [L_mk]; exact h)).2
    have hwj := w64_nat (x := (i : Int) + (j : Int)) (n := i + j) (by omega) (by rw [big_eq] at hs; omega)
    have hwj2 := w64_succ (i := j) (by rw [big_eq] at hs; omega)
    obtain ⟨c, hc, hbt⟩ := drop_some (s := s) (i := i + j) (by omega)
    have hd : (decide (97 ≤ d) && decide (d ≤ 122)) = true := by
      have hm : d ∈ w := List.mem_of_mem_drop (by rw [h]; simp)
      have := List.all_eq_true.1 hwd d hm
      exact this
    refine Ev.succ ?_
    simp only [numeral_begins.l0, hwj, hwj2, hbt, hb.1, size_mk]
    refine Ev.pos (by omega) (Ev.pos (by omega) (Ev.pos (by omega) (Ev.pos (by omega) (Ev.pos (by omega) ?_))))
    rw [hc]
    simp only [bgN]
    have hor := or_low c d hd
    have ih := begins_l0 s hs i w hwd v (j + 1) (by simpa [L_mk] using hb.2) (by omega) hl
    rw [← Nat.add_assoc] at ih
    refine Ev.ite (fun h1 => Ev.ite (fun h2 => ?_) (fun h2 => ?_)) (fun h1 => ?_)
    · refine Ev.done ?_
      have : ¬ lowB c = d := fun hh => (hor.2 hh).2 h2
      simp [this]
    · have : lowB c = d := hor.1 ⟨h1, h2⟩
      simp only [this, beq_self_eq_true, Bool.true_and]
      exact ih
    · refine Ev.done ?_
      have : ¬ lowB c = d := fun hh => h1 (hor.2 hh).1
      simp [this]
theorem bgN_short : ∀ (l w : List UInt8), l.length < w.length → bgN l w = false
  | _, [], h => by simp at h
  | [], _ :: _, _ => rfl
  | c :: l, d :: w, h => by
    simp only [bgN, bgN_short l w (by simpa using h), Bool.and_false]
theorem begins_ev (s : ByteArray) (hs : s.size < big) (i : Nat) (hi : i ≤ s.size) (w : List UInt8) (hwd : isWord w = true) (hwl : w.length < 100) : Ev (fun k => numeral_begins.f k s (i : Int) (mkB w)) (bgN ((L s).drop i) w) := by
  unfold numeral_begins.f
  have hw := w64_nat (x := (s.size : Int) - (i : Int)) (n := s.size - i) (by omega) (by rw [big_eq] at hs; omega)
  simp only [hw, size_mk]
  refine Ev.ite (fun h => ?_) (fun h => ?_)
  · exact Ev.done (by rw [bgN_short _ _ (by rw [List.length_drop, L_len]; omega)])
  · exact begins_l0 s hs i w hwd w 0 rfl (Nat.zero_le _) (by omega)
theorem at_l0 (s : ByteArray) (hs : s.size < big) (i : Nat) (w : List UInt8) : ∀ (v : List UInt8) (j : Nat), w.drop j = v → j ≤ w.length → i + w.length ≤ s.size →
    Ev (fun k => millref3_at.l0 k s (i : Int) (mkB w) (j : Int)) (bgN ((L s).drop (i + j)) v)
  | [], j, h, hj, hl => by
    have : w.length ≤ j := List.drop_eq_nil_iff.1 h
    refine Ev.succ ?_
    simp only [millref3_at.l0, size_mk]
    exact Ev.neg (by omega) (Ev.done (by simp [bgN]))
  | d :: v, j, h, hj, hl => by
    have hjl : j < w.length := by
      rcases Nat.lt_or_ge j w.length with h' | h'
      · exact h'
      · rw [List.drop_eq_nil_iff.2 h'] at h; cases h
    have hb : bt (mkB w) (j : Int) = (d.toNat : Int) ∧ (L (mkB w)).drop (j + 1) = v := (drop_cons (s := mkB w) (i := j) (by rw [L_mk]; exact h)).2
    have hwj := w64_nat (x := (i : Int) + (j : Int)) (n := i + j) (by omega) (by rw [big_eq] at hs; omega)
    have hwj2 := w64_succ (i := j) (by rw [big_eq] at hs; omega)
    obtain ⟨c, hc, hbt⟩ := drop_some (s := s) (i := i + j) (by omega)
    refine Ev.succ ?_
    simp only [millref3_at.l0, hwj, hwj2, hbt, hb.1, size_mk, low_f, Option.bind_some]
    refine Ev.pos (by omega) (Ev.pos (by omega) (Ev.pos (by omega) (Ev.pos (by omega) ?_)))
    rw [hc]
    simp only [bgN]
    have ih := at_l0 s hs i w v (j + 1) (by simpa [L_mk] using hb.2) (by omega) hl
    rw [← Nat.add_assoc] at ih
    refine Ev.ite (fun h1 => ?_) (fun h1 => ?_)
    · have := u8_eq h1
      simp only [this, beq_self_eq_true, Bool.true_and]
      exact ih
    · refine Ev.done ?_
      have : ¬ lowB c = d := fun hh => h1 (by rw [hh])
      simp [this]
theorem at_ev (s : ByteArray) (hs : s.size < big) (i : Nat) (w : List UInt8) (hi : i ≤ s.size) (hwl : w.length < 100) : Ev (fun k => millref3_at.f k s (i : Int) (mkB w)) (bgN ((L s).drop i) w) := by
  unfold millref3_at.f
  have hw := w64_nat (x := (i : Int) + (w.length : Int)) (n := i + w.length) (by omega) (by rw [big_eq] at hs; omega)
  simp only [size_mk, hw]
  refine Ev.ite (fun h => ?_) (fun h => ?_)
  · exact Ev.done (by rw [bgN_short _ _ (by rw [List.length_drop, L_len]; omega)])
  · exact at_l0 s hs i w w 0 rfl (Nat.zero_le _) (by omega)

def monthL : List (List UInt8) := [[106, 97, 110], [102, 101, 98], [109, 97, 114], [97, 112, 114], [109, 97, 121], [106, 117, 110], [106, 117, 108], [97, 117, 103], [115, 101, 112], [111, 99, 116], [110, 111, 118], [100, 101, 99]]
/-- The first of the months from number m on that l begins with; 0: none. -/
def monF (l : List UInt8) : Nat → List (List UInt8) → Nat
  | _, [] => 0
  | m, w :: ws => if bgN l w = true then m + 1 else monF l (m + 1) ws
def monS (l : List UInt8) : Nat := monF (l.drop (blkN l)) 0 monthL
theorem months_word : ∀ m, m < 12 → isWord (monthL.getD m []) = true ∧ (monthL.getD m []).length = 3 ∧ rdOf ByteArray.empty G_months (m : Int) = mkB (monthL.getD m []) := by
  intro m hm
  rcases (by omega : m = 0 ∨ m = 1 ∨ m = 2 ∨ m = 3 ∨ m = 4 ∨ m = 5 ∨ m = 6 ∨ m = 7 ∨ m = 8 ∨ m = 9 ∨ m = 10 ∨ m = 11) with rfl | rfl | rfl | rfl | rfl | rfl | rfl | rfl | rfl | rfl | rfl | rfl <;> exact ⟨by decide, rfl, rfl⟩
theorem Month_l0 (s : ByteArray) (hs : s.size < big) (i : Nat) (hi : i ≤ s.size) : ∀ (ws : List (List UInt8)) (m : Nat), monthL.drop m = ws → m ≤ 12 → Ev (fun k => numeral_Month.l0 k s (i : Int) (m : Int)) ((monF ((L s).drop i) m ws : Nat) : Int)
  | [], m, h, hm => by
    have : monthL.length ≤ m := List.drop_eq_nil_iff.1 h
    have e : monthL.length = 12 := rfl
    refine Ev.succ ?_
    simp only [numeral_Month.l0]
    exact Ev.neg (by omega) (Ev.done rfl)
  | w :: ws, m, h, hm => by
    have hml : m < monthL.length := by
      rcases Nat.lt_or_ge m monthL.length with h' | h'
      · exact h'
      · rw [List.drop_eq_nil_iff.2 h'] at h; cases h
    have e : monthL.length = 12 := rfl
    have hw := List.drop_eq_getElem_cons hml
    rw [h] at hw
    injection hw with hw1 hw2
    obtain ⟨a, b, c⟩ := months_word m (by omega)
    have hg : monthL.getD m [] = w := by rw [hw1]; simp [List.getD, hml]
    rw [hg] at a b c
    have hws := w64_succ (i := m) (by omega)
    refine Ev.succ ?_
    simp only [numeral_Month.l0, c, hws]
    refine Ev.pos (by omega) (Ev.pos (by omega) (Ev.bind (begins_ev s hs i hi w a (by omega)) ?_))
    simp only [monF]
    refine Ev.ite (fun h1 => ?_) (fun h1 => ?_)
    · rw [if_pos h1]; exact Ev.pure _
    · rw [if_neg h1]; exact Month_l0 s hs i hi ws (m + 1) hw2.symm (by omega)
theorem Month_ev (s : ByteArray) (hs : s.size < big) : Ev (fun k => numeral_Month.f k s) (monS (L s) : Int) := by
  unfold numeral_Month.f
  exact Ev.bind (blanks_ev s hs) (Month_l0 s hs _ (blkN_le s) monthL 0 rfl (by omega))
theorem cut_month : ∀ m, m < 12 → (⟨#[106, 97, 110, 102, 101, 98, 109, 97, 114, 97, 112, 114, 109, 97, 121, 106, 117, 110, 106, 117, 108, 97, 117, 103, 115, 101, 112, 111, 99, 116, 110, 111, 118, 100, 101, 99]⟩ : ByteArray).extract (3 * m) (3 * m + 3) = mkB (monthL.getD m []) := by
  intro m hm
  rw [extract_mk']
  rcases (by omega : m = 0 ∨ m = 1 ∨ m = 2 ∨ m = 3 ∨ m = 4 ∨ m = 5 ∨ m = 6 ∨ m = 7 ∨ m = 8 ∨ m = 9 ∨ m = 10 ∨ m = 11) with rfl | rfl | rfl | rfl | rfl | rfl | rfl | rfl | rfl | rfl | rfl | rfl <;> rfl
theorem rMonth_l0 (s : ByteArray) (hs : s.size < big) (i : Nat) (hi : i ≤ s.size) : ∀ (ws : List (List UInt8)) (m : Nat), monthL.drop m = ws → m ≤ 12 → Ev (fun k => millref3_Month.l0 k s (i : Int) (m : Int)) ((monF ((L s).drop i) m ws : Nat) : Int)
  | [], m, h, hm => by
    have : monthL.length ≤ m := List.drop_eq_nil_iff.1 h
    have e : monthL.length = 12 := rfl
    refine Ev.succ ?_
    simp only [millref3_Month.l0]
    exact Ev.neg (by omega) (Ev.done rfl)
  | w :: ws, m, h, hm => by
    have hml : m < monthL.length := by
      rcases Nat.lt_or_ge m monthL.length with h' | h'
      · exact h'
      · rw [List.drop_eq_nil_iff.2 h'] at h; cases h
    have e : monthL.length = 12 := rfl
    have hw := List.drop_eq_getElem_cons hml
    rw [h] at hw
    injection hw with hw1 hw2
    obtain ⟨a, b, c⟩ := months_word m (by omega)
    have hg : monthL.getD m [] = w := by rw [hw1]; simp [List.getD, hml]
    rw [hg] at a b c
    have hws := w64_succ (i := m) (by omega)
    have h3 := w64_nat (x := 3 * (m : Int)) (n := 3 * m) (by omega) (by omega)
    have h33 := w64_nat (x := ((3 * m : Nat) : Int) + 3) (n := 3 * m + 3) (by omega) (by omega)
    have hcut := cut_month m (by omega)
    rw [hg] at hcut
    refine Ev.succ ?_
    simp only [millref3_Month.l0, h3, h33, hws, Int.toNat_natCast, hcut]
    refine Ev.pos (by omega) (Ev.pos (by omega) (Ev.pos (by omega) (Ev.pos (by omega) (Ev.bind (at_ev s hs i w hi (by omega)) ?_))))
    simp only [monF]
    refine Ev.ite (fun h1 => ?_) (fun h1 => ?_)
    · rw [if_pos h1]; exact Ev.pure _
    · rw [if_neg h1]; exact rMonth_l0 s hs i hi ws (m + 1) hw2.symm (by omega)
theorem rMonth_ev (s : ByteArray) (hs : s.size < big) : Ev (fun k => millref3_Month.f k s) (monS (L s) : Int) := by
  unfold millref3_Month.f
  exact Ev.bind (start_ev s hs) (rMonth_l0 s hs _ (blkN_le s) monthL 0 rfl (by omega))
end Go.Proofs.YtcdajedmlfhmeaaDoor.XN
end

section
/- Compare: what numeral computes. (by this session) -/
-- NEEDS numeral_digits cmp_isNaN_int cmp_Compare_int bytealg_CompareString strings_Compare cmp_Or_int numeral_order numeral_sizeOf numeral_human numeral_pair numeral_rank cmp_Compare_byte numeral_words numeral_runs numeral_versions
set_option linter.unusedVariables false
set_option linter.unusedSimpArgs false
namespace Go.Proofs.YtcdajedmlfhmeaaDoor.XN
open Go.RowKit Go.Proofs.YtcdajedmlfhmeaaDoorW.PrintWords Go.Proofs.YtcdajedmlfhmeaaDoorW.PrintMore

/-- A number as 0.DIGITS times ten to the Exp. -/
def digS (w f : List UInt8) (e : Int) : List UInt8 × Int :=
  if tl w = [] then if tr (tl f) = [] then ([], 0) else (tr (tl f), ((tl f).length : Int) - (f.length : Int) + e)
  else if tr (tl w ++ f) = [] then ([], 0) else (tr (tl w ++ f), ((tl w).length : Int) + e)
theorem digits_ev (w f : List UInt8) (e : Int) (hw : w.length < 2305843009213693952) (hf : f.length < 2305843009213693952) (he : -1125899906842624 ≤ e ∧ e ≤ 1125899906842624) :
    Ev (fun k => numeral_digits.f k (mkB w) (mkB f) e) (mkB (digS w f e).1, (digS w f e).2) := by
  unfold numeral_digits.f
  have h1 := tl_len w
  have h2 := tl_len f
  refine Ev.bind (TrimLeft_ev w (by rw [big_eq]; omega)) ?_
  unfold digS
  simp only [toList_mk]
  refine Ev.ite (fun h => ?_) (fun h => ?_)
  · rw [if_pos h]
    refine Ev.bind (TrimLeft_ev f (by rw [big_eq]; omega)) (Ev.bind (TrimRight_ev (tl f) (by rw [big_eq]; omega)) ?_)
    simp only [toList_mk]
    refine Ev.ite (fun h' => ?_) (fun h' => ?_)
    · rw [if_pos h']; exact Ev.pure _
    · rw [if_neg h']
      refine Ev.done ?_
      rw [size_mk, size_mk, w64 (x := ((tl f).length : Int) - (f.length : Int)) (by omega), w64 (by omega)]
  · rw [if_neg h]
    simp only [size_mk, mk_append]
    refine Ev.pos (by omega) (Ev.bind (TrimRight_ev (tl w ++ f) (by rw [big_eq, List.length_append]; omega)) ?_)
    simp only [toList_mk]
    refine Ev.ite (fun h' => ?_) (fun h' => ?_)
    · rw [if_pos h']; exact Ev.pure _
    · rw [if_neg h']
      refine Ev.done ?_
      rw [w64 (by omega)]

def cmpI (a b : Int) : Int := if a < b then -1 else if a > b then 1 else 0
theorem cmpI_range (a b : Int) : cmpI a b = -1 ∨ cmpI a b = 0 ∨ cmpI a b = 1 := by unfold cmpI; split; · simp
                                                                                   · split <;> simp
theorem Compare_int_f (a b : Int) : cmp_Compare_int.f a b = some (cmpI a b) := by
  unfold cmp_Compare_int.f cmp_isNaN_int.f cmpI
  simp only [Option.bind_some, bne_self_eq_false, Bool.false_eq_true, if_false]
  split
  · rfl
  · split <;> rfl
theorem Compare_byte_f (a b : Int) : cmp_Compare_byte.f a b = some (cmpI a b) := by
  unfold cmp_Compare_byte.f cmp_isNaN_byte.f cmpI
  simp only [Option.bind_some, bne_self_eq_false, Bool.false_eq_true, if_false]
  split
  · rfl
  · split <;> rfl
def bcmp (l m : List UInt8) : Int := Lib.compareBytes l m
theorem bcmp_range : ∀ (l m : List UInt8), bcmp l m = -1 ∨ bcmp l m = 0 ∨ bcmp l m = 1
  | [], [] => by simp [bcmp, Lib.compareBytes]
  | [], _ :: _ => by simp [bcmp, Lib.compareBytes]
  | _ :: _, [] => by simp [bcmp, Lib.compareBytes]
  | a :: l, b :: m => by
    have := bcmp_range l m
    unfold bcmp Lib.compareBytes
    split
    · simp
    · split
      · simp
      · exact this
theorem Compare_str_f (s t : ByteArray) : strings_Compare.f s t = some (bcmp (L s) (L t)) := rfl
/-- The first that is no 0. -/
def orS : List Int → Int
  | [] => 0
  | x :: xs => if x = 0 then orS xs else x
theorem Or_l0 (l : List Int) (hl : l.length < 100) : ∀ (m : List Int) (i : Nat), l.drop i = m → i ≤ l.length → Ev (fun k => cmp_Or_int.l0 k 0 l (l.length : Int) (i : Int)) (orS m)
  | [], i, h, hi => by
    have : l.length ≤ i := List.drop_eq_nil_iff.1 h
    refine Ev.succ ?_
    simp only [cmp_Or_int.l0]
    exact Ev.neg (by omega) (Ev.done rfl)
  | x :: m, i, h, hi => by
    have hil : i < l.length := by
      rcases Nat.lt_or_ge i l.length with h' | h'
      · exact h'
      · rw [List.drop_eq_nil_iff.2 h'] at h; cases h
    have e := List.drop_eq_getElem_cons hil
    rw [h] at e
    injection e with e1 e2
    have hr : rd l (i : Int) = x := by unfold rd; rw [Int.toNat_natCast, e1]; simp [List.getD, hil]
    refine Ev.succ ?_
    simp only [cmp_Or_int.l0, hr, w64_succ (i := i) (by omega)]
    refine Ev.pos (by omega) (Ev.pos (by omega) (Ev.pos (by omega) ?_))
    simp only [orS]
    refine Ev.ite (fun h1 => ?_) (fun h1 => ?_)
    · rw [if_pos h1]; exact Or_l0 l hl m (i + 1) e2.symm (by omega)
    · rw [if_neg h1]; exact Ev.pure _
theorem Or_ev (l : List Int) (hl : l.length < 100) : Ev (fun k => cmp_Or_int.f k l) (orS l) := by
  unfold cmp_Or_int.f
  exact Or_l0 l hl l 0 rfl (Nat.zero_le _)

/-- A number as it is compared: sign, rank, exponent, digits. -/
abbrev Sz := Int × Int × Int × List UInt8
def szS (n : Bool) (d : List UInt8) (x r : Int) : Sz := if d = [] then (0, 0, 0, []) else ((if n = true then -1 else 1), r, x, d)
theorem szS_sign (n : Bool) (d : List UInt8) (x r : Int) : (szS n d x r).1 = -1 ∨ (szS n d x r).1 = 0 ∨ (szS n d x r).1 = 1 := by
  unfold szS
  split
  · simp
  · split <;> simp
theorem sizeOf_f (n : Bool) (d : List UInt8) (x r : Int) : numeral_sizeOf.f n (mkB d) x r = some ((szS n d x r).1, (szS n d x r).2.1, (szS n d x r).2.2.1, mkB (szS n d x r).2.2.2) := by
  unfold numeral_sizeOf.f szS
  simp only [toList_mk]
  split
  · rfl
  · split <;> rfl
def ordS (a b : Sz) : Int := if a.1 = b.1 ∧ ¬ a.1 = 0 then a.1 * orS [cmpI a.2.1 b.2.1, cmpI a.2.2.1 b.2.2.1, bcmp a.2.2.2 b.2.2.2] else cmpI a.1 b.1
theorem orS_range {l : List Int} (h : ∀ x ∈ l, x = -1 ∨ x = 0 ∨ x = 1) : orS l = -1 ∨ orS l = 0 ∨ orS l = 1 := by
  induction l with
  | nil => simp [orS]
  | cons x l ih =>
    simp only [orS]
    split
    · exact ih (fun y hy => h y (List.mem_cons_of_mem _ hy))
    · exact h x (List.mem_cons_self)
theorem or3_range (a b : Sz) : orS [cmpI a.2.1 b.2.1, cmpI a.2.2.1 b.2.2.1, bcmp a.2.2.2 b.2.2.2] = -1 ∨ orS [cmpI a.2.1 b.2.1, cmpI a.2.2.1 b.2.2.1, bcmp a.2.2.2 b.2.2.2] = 0 ∨ orS [cmpI a.2.1 b.2.1, cmpI a.2.2.1 b.2.2.1, bcmp a.2.2.2 b.2.2.2] = 1 := by
  refine orS_range (fun x hx => ?_)
  simp only [List.mem_cons, List.not_mem_nil, or_false] at hx
  rcases hx with rfl | rfl | rfl
  · exact cmpI_range _ _
  · exact cmpI_range _ _
  · exact bcmp_range _ _
theorem order_ev (a b : Sz) (ha : a.1 = -1 ∨ a.1 = 0 ∨ a.1 = 1) : Ev (fun k => numeral_order.f k a.1 a.2.1 a.2.2.1 (mkB a.2.2.2) b.1 b.2.1 b.2.2.1 (mkB b.2.2.2)) (ordS a b) := by
  unfold numeral_order.f
  unfold ordS
  have h3 := or3_range a b
  refine Ev.ite (fun h => ?_) (fun h => ?_)
  · refine Ev.succ ?_
    simp only [numeral_order.j0, Compare_int_f, Compare_str_f, Option.bind_some, L_mk]
    refine Ev.ite (fun h' => ?_) (fun h' => ?_)
    · rw [if_neg (fun hh => hh.2 (by simpa using h'))]
      exact Ev.pure _
    · rw [if_pos ⟨h, by simpa using h'⟩]
      refine Ev.bind (Or_ev _ (by simp)) (Ev.done ?_)
      refine w64 ?_
      rcases ha with ha | ha | ha <;> rw [ha] <;> omega
  · refine Ev.succ ?_
    simp only [numeral_order.j0, Compare_int_f, Option.bind_some]
    rw [if_neg (fun hh => h hh.1)]
    exact Ev.pos trivial (Ev.pure _)
/-- n's and h's number of a text. -/
def huS (kind : Int) (s : ByteArray) : Sz :=
  szS (humS s).1.1 (digS (humS s).1.2.1 (humS s).1.2.2.1 0).1 (digS (humS s).1.2.1 (humS s).1.2.2.1 0).2 (if kind = 16 then 0 else ((humS s).2 : Int))
theorem dec_len (s : ByteArray) : (decS (L s)).2.1.length ≤ s.size ∧ (decS (L s)).2.2.1.length ≤ s.size := by
  unfold decS
  split
  · simp
  · have h1 := tl_len (plS ((L s).drop (sgN (L s)))).1
    have h2 := tr_len (plS ((L s).drop (sgN (L s)))).2.1
    have h3 := pl1_len ((L s).drop (sgN (L s)))
    have h4 := pl2_len ((L s).drop (sgN (L s)))
    have h5 := size_drop s (sgN (L s))
    simp only
    omega
theorem humS_fields (s : ByteArray) : (humS s).1.1 = (decS (L s)).1 ∧ (humS s).1.2.1 = (decS (L s)).2.1 ∧ (humS s).1.2.2.1 = (decS (L s)).2.2.1 := by
  unfold humS
  simp only
  split
  · exact ⟨rfl, rfl, rfl⟩
  · split <;> exact ⟨rfl, rfl, rfl⟩
theorem human_ev (kind : Int) (s : ByteArray) (hs : s.size < 2305843009213693952) : Ev (fun k => numeral_human.f k kind s) ((huS kind s).1, (huS kind s).2.1, (huS kind s).2.2.1, mkB (huS kind s).2.2.2) := by
  unfold numeral_human.f
  refine Ev.bind (Human_ev s (by rw [big_eq]; omega)) ?_
  obtain ⟨f1, f2, f3⟩ := humS_fields s
  have hl := dec_len s
  unfold huS humV
  simp only
  rw [f2, f3]
  refine Ev.ite (fun h => ?_) (fun h => ?_)
  · rw [if_pos h]
    refine Ev.bind (digits_ev _ _ 0 (by omega) (by omega) (by omega)) ?_
    simp only [sizeOf_f, Option.bind_some]
    exact Ev.pure _
  · rw [if_neg h]
    refine Ev.bind (digits_ev _ _ 0 (by omega) (by omega) (by omega)) ?_
    simp only [sizeOf_f, Option.bind_some]
    exact Ev.pure _

/-! ### versions -/
def noDg (c : UInt8) : Bool := !isDg c
def pr1 (l : List UInt8) : List UInt8 := l.takeWhile noDg
def pr2 (l : List UInt8) : List UInt8 := (l.dropWhile noDg).takeWhile isDg
def pr3 (l : List UInt8) : List UInt8 := (l.dropWhile noDg).dropWhile isDg
theorem pr_all (l : List UInt8) : pr1 l ++ (pr2 l ++ pr3 l) = l := by
  unfold pr1 pr2 pr3
  rw [List.takeWhile_append_dropWhile, List.takeWhile_append_dropWhile]
theorem pr_len (l : List UInt8) : (pr1 l).length + (pr2 l).length + (pr3 l).length = l.length := by
  have := congrArg List.length (pr_all l)
  rw [List.length_append, List.length_append] at this
  omega
theorem pr_short {l : List UInt8} (h : l ≠ []) : (pr3 l).length < l.length := by
  have hl := pr_len l
  cases l with
  | nil => exact absurd rfl h
  | cons c r =>
    by_cases hc : isDg c = true
    · have : 0 < (pr2 (c :: r)).length := by
        unfold pr2
        rw [List.dropWhile_cons, if_neg (by simp [noDg, hc]), List.takeWhile_cons, if_pos hc]
        simp
      omega
    · have : 0 < (pr1 (c :: r)).length := by
        unfold pr1
        rw [List.takeWhile_cons, if_pos (by simp [noDg, hc])]
        simp
      omega
theorem digit_f (c : UInt8) : numeral_digit.f (c.toNat : Int) = some (isDg c) := plainDig_f _
theorem pair_l1 (s : ByteArray) (hs : s.size < big) (i : Nat) (hi : i ≤ s.size) (hx : (L s).take i = pr1 (L s)) (hy : (L s).drop i = (L s).dropWhile noDg) :
    Ev (fun k => numeral_pair.l1 k s (i : Int) (i : Int)) (mkB (pr1 (L s)), mkB (pr2 (L s)), mkB (pr3 (L s))) := by
  refine scan (p := isDg) (F := fun k j => numeral_pair.l1 k s (i : Int) j) hs (fun k j c h1 h2 hp => ?_) ((L s).drop i) i rfl ?_
  · simp only [numeral_pair.l1, h2, digit_f, Option.bind_some, w64_succ (i := j) (by rw [big_eq] at hs; omega)]
    rw [if_pos (by omega), if_pos (by omega), if_pos hp]
  · have e1 : s.extract 0 ((i : Int)).toNat = mkB (pr1 (L s)) := by rw [extract_front, Int.toNat_natCast, hx]
    have e2 : s.extract ((i : Int)).toNat (((i + (((L s).drop i).takeWhile isDg).length : Nat) : Int)).toNat = mkB (pr2 (L s)) := by
      rw [extract_mk', Int.toNat_natCast, Int.toNat_natCast, Nat.add_sub_cancel_left, take_run, hy]; rfl
    have e3 : s.extract (((i + (((L s).drop i).takeWhile isDg).length : Nat) : Int)).toNat s.size = mkB (pr3 (L s)) := by
      rw [extract_end, Int.toNat_natCast, (behind (p := isDg) hi).2, hy]; rfl
    have hb := (behind (p := isDg) hi).1
    refine Ev.succ ?_
    rcases stop_at (s := s) (p := isDg) hi with ⟨h, _⟩ | ⟨c, r, h1, h2, h3, _⟩
    · simp only [numeral_pair.l1, e1, e2, e3]
      exact Ev.neg (by omega) (Ev.pos (by omega) (Ev.pos (by omega) (Ev.pos (by omega) (Ev.pos (by omega) (Ev.pos (by omega) (Ev.pure _))))))
    · simp only [numeral_pair.l1, h2, digit_f, Option.bind_some, e1, e2, e3]
      exact Ev.pos (by omega) (Ev.pos (by omega) (Ev.neg (by rw [h3]; decide) (Ev.pos (by omega) (Ev.pos (by omega) (Ev.pos (by omega) (Ev.pos (by omega) (Ev.pure _)))))))
theorem pair_ev (s : ByteArray) (hs : s.size < big) : Ev (fun k => numeral_pair.f k s) (mkB (pr1 (L s)), mkB (pr2 (L s)), mkB (pr3 (L s))) := by
  unfold numeral_pair.f
  refine scan (p := noDg) (F := fun k j => numeral_pair.l0 k s j) hs (fun k j c h1 h2 hp => ?_) (L s) 0 rfl ?_
  · have hp' : isDg c = false := by simpa [noDg] using hp
    simp only [numeral_pair.l0, h2, digit_f, Option.bind_some, w64_succ (i := j) (by rw [big_eq] at hs; omega)]
    rw [if_pos (by omega), if_pos (by omega), if_neg (by rw [hp']; decide)]
  · have hst := stop_at (s := s) (p := noDg) (i := 0) (Nat.zero_le _)
    have hb := behind (s := s) (p := noDg) (i := 0) (Nat.zero_le _)
    simp only [Nat.zero_add, List.drop_zero] at *
    have key := pair_l1 s hs _ hb.1 (by rw [take_run]; rfl) hb.2
    refine Ev.succ ?_
    rcases hst with ⟨h, _⟩ | ⟨c, r, h1, h2, h3, _⟩
    · simp only [numeral_pair.l0]
      refine Ev.neg (by omega) (Ev.succ ?_)
      simp only [numeral_pair.j1]
      exact key
    · have hp' : isDg c = true := by simpa [noDg] using h3
      simp only [numeral_pair.l0, h2, digit_f, Option.bind_some]
      refine Ev.pos (by omega) (Ev.pos (by omega) (Ev.pos hp' (Ev.succ ?_)))
      simp only [numeral_pair.j1]
      exact key

def rkB (c : UInt8) : Int := rankF (c.toNat : Int)
theorem rank_f (c : UInt8) : numeral_rank.f (c.toNat : Int) = some (rkB c) := by
  unfold numeral_rank.f
  have := u8_lt c
  rw [if_pos (by omega)]
  rfl
/-- The order of two runs without digits. -/
def wdS : List UInt8 → List UInt8 → Int
  | [], [] => 0
  | a :: l, [] => if rkB a = 2 then wdS l [] else cmpI (rkB a) 2
  | [], b :: m => if 2 = rkB b then wdS [] m else cmpI 2 (rkB b)
  | a :: l, b :: m => if rkB a = rkB b then wdS l m else cmpI (rkB a) (rkB b)
theorem words_l0 (s t : ByteArray) (hs : s.size < big) (ht : t.size < big) (n : Nat) (hn : n = max s.size t.size) : ∀ (d i : Nat), n - i = d → i ≤ n →
    Ev (fun k => numeral_words.l0 k s t (n : Int) (i : Int)) (wdS ((L s).drop i) ((L t).drop i))
  | 0, i, h, hi => by
    refine Ev.succ ?_
    simp only [numeral_words.l0]
    rw [List.drop_eq_nil_iff.2 (by rw [L_len]; omega), List.drop_eq_nil_iff.2 (by rw [L_len]; omega)]
    exact Ev.neg (by omega) (Ev.done (by simp [wdS]))
  | d + 1, i, h, hi => by
    have hsu := w64_succ (i := i) (by rw [big_eq] at *; omega)
    have ih := words_l0 s t hs ht n hn d (i + 1) (by omega) (by omega)
    refine Ev.succ ?_
    simp only [numeral_words.l0]
    refine Ev.pos (by omega) ?_
    by_cases h1 : i < s.size
    · obtain ⟨a, ha, hb⟩ := drop_some h1
      rw [hb, rank_f]
      simp only [Option.bind_some]
      refine Ev.pos (by omega) (Ev.pos (by omega) (Ev.succ ?_))
      simp only [numeral_words.j1, hsu]
      by_cases h2 : i < t.size
      · obtain ⟨b, hc, hd⟩ := drop_some h2
        rw [hd, rank_f]
        simp only [Option.bind_some, Compare_byte_f]
        rw [ha, hc]
        simp only [wdS]
        refine Ev.pos (by omega) (Ev.pos (by omega) (Ev.ite (fun h3 => ?_) (fun h3 => ?_)))
        · rw [if_pos h3]; exact ih
        · rw [if_neg h3]; exact Ev.pure _
      · have hz : (L t).drop i = [] := List.drop_eq_nil_iff.2 (by rw [L_len]; omega)
        have hz1 : (L t).drop (i + 1) = [] := List.drop_eq_nil_iff.2 (by rw [L_len]; omega)
        rw [hz1] at ih
        rw [ha, hz]
        simp only [wdS, Compare_byte_f, Option.bind_some]
        refine Ev.neg (by omega) (Ev.ite (fun h3 => ?_) (fun h3 => ?_))
        · rw [if_pos h3]; exact ih
        · rw [if_neg h3]; exact Ev.pure _
    · have h2 : i < t.size := by omega
      obtain ⟨b, hc, hd⟩ := drop_some h2
      have hz : (L s).drop i = [] := List.drop_eq_nil_iff.2 (by rw [L_len]; omega)
      have hz1 : (L s).drop (i + 1) = [] := List.drop_eq_nil_iff.2 (by rw [L_len]; omega)
      rw [hz1] at ih
      refine Ev.neg (by omega) (Ev.succ ?_)
      simp only [numeral_words.j1, hsu]
      rw [hd, rank_f]
      simp only [Option.bind_some, Compare_byte_f]
      rw [hz, hc]
      simp only [wdS]
      refine Ev.pos (by omega) (Ev.pos (by omega) (Ev.ite (fun h3 => ?_) (fun h3 => ?_)))
      · rw [if_pos h3]; exact ih
      · rw [if_neg h3]; exact Ev.pure _
theorem words_ev (l m : List UInt8) (hl : l.length < big) (hm : m.length < big) : Ev (fun k => numeral_words.f k (mkB l) (mkB m)) (wdS l m) := by
  unfold numeral_words.f
  have e : mx ((mkB l).size : Int) ((mkB m).size : Int) = ((max (mkB l).size (mkB m).size : Nat) : Int) := by
    unfold mx
    split <;> omega
  rw [e]
  exact words_l0 (mkB l) (mkB m) (by rwa [size_mk]) (by rwa [size_mk]) _ rfl _ 0 rfl (Nat.zero_le _)
/-- The order of two runs of digits. -/
def rnS (l m : List UInt8) : Int :=
  if l = [] ∨ m = [] then cmpI (if l = [] then 0 else 1) (if m = [] then 0 else 1) else orS [cmpI ((tl l).length : Int) ((tl m).length : Int), bcmp (tl l) (tl m)]
theorem mn_len (l : List UInt8) : mn ((mkB l).size : Int) 1 = if l = [] then 0 else 1 := by
  unfold mn
  rw [size_mk]
  cases l with
  | nil => rfl
  | cons c r => simp only [List.length_cons, reduceCtorEq, if_false]; split <;> omega
theorem runs_ev (l m : List UInt8) (hl : l.length < big) (hm : m.length < big) : Ev (fun k => numeral_runs.f k (mkB l) (mkB m)) (rnS l m) := by
  unfold numeral_runs.f rnS
  simp only [toList_mk]
  refine Ev.ite (fun h => ?_) (fun h => ?_)
  · refine Ev.succ ?_
    simp only [numeral_runs.j0, mn_len, Compare_int_f, Option.bind_some]
    rw [if_pos (Or.inl h)]
    exact Ev.pos trivial (Ev.pure _)
  · refine Ev.succ ?_
    simp only [numeral_runs.j0, mn_len, Compare_int_f, Option.bind_some]
    refine Ev.ite (fun h' => ?_) (fun h' => ?_)
    · rw [if_pos (Or.inr (List.isEmpty_iff.1 h'))]
      exact Ev.pure _
    · rw [if_neg (by rintro (h1 | h1); exact h h1; exact h' (by rw [h1]; rfl))]
      refine Ev.bind (TrimLeft_ev l hl) (Ev.bind (TrimLeft_ev m hm) ?_)
      simp only [Compare_str_f, Option.bind_some, L_mk, size_mk]
      exact Ev.bind (Or_ev _ (by simp)) (Ev.pure _)
def vrF : Nat → List UInt8 → List UInt8 → Int
  | 0, _, _ => 0
  | n + 1, l, m => if l = [] ∧ m = [] then 0 else if orS [wdS (pr1 l) (pr1 m), rnS (pr2 l) (pr2 m)] = 0 then vrF n (pr3 l) (pr3 m) else orS [wdS (pr1 l) (pr1 m), rnS (pr2 l) (pr2 m)]
def vrS (l m : List UInt8) : Int := vrF (l.length + m.length + 1) l m
theorem pr3_nil : pr3 [] = [] := rfl
theorem versions_l0 : ∀ (n : Nat) (l m : List UInt8), l.length + m.length < n → l.length < big → m.length < big → Ev (fun k => numeral_versions.l0 k (mkB l) (mkB m)) (vrF n l m)
  | 0, l, m, h, _, _ => by omega
  | n + 1, l, m, h, hl, hm => by
    have step : ¬ (l = [] ∧ m = []) → Ev (fun k => numeral_versions.j1 k (mkB l) (mkB m) true) (vrF (n + 1) l m) := by
      intro hne
      have h1 := pr_len l
      have h2 := pr_len m
      have hsh : (pr3 l).length + (pr3 m).length < l.length + m.length := by
        by_cases hl0 : l = []
        · subst hl0
          have := pr_short (l := m) (fun hm0 => hne ⟨rfl, hm0⟩)
          rw [pr3_nil]; omega
        · have := pr_short hl0
          omega
      refine Ev.succ ?_
      simp only [numeral_versions.j1]
      refine Ev.pos trivial (Ev.bind (pair_ev (mkB l) (by rwa [size_mk])) (Ev.bind (pair_ev (mkB m) (by rwa [size_mk])) ?_))
      simp only [L_mk]
      refine Ev.bind (words_ev _ _ (by omega) (by omega)) (Ev.bind (runs_ev _ _ (by omega) (by omega)) (Ev.bind (Or_ev _ (by simp)) ?_))
      simp only [vrF]
      rw [if_neg hne]
      refine Ev.ite (fun h3 => ?_) (fun h3 => ?_)
      · rw [if_pos h3]
        exact versions_l0 n _ _ (by omega) (by omega) (by omega)
      · rw [if_neg h3]; exact Ev.pure _
    refine Ev.succ ?_
    simp only [numeral_versions.l0, toList_mk]
    refine Ev.ite (fun h1 => ?_) (fun h1 => ?_)
    · by_cases h2 : m = []
      · subst h1 h2
        refine Ev.succ ?_
        simp only [numeral_versions.j1]
        exact Ev.neg (by decide) (Ev.done rfl)
      · have : (!m.isEmpty) = true := by cases m <;> simp_all
        rw [this]
        exact step (fun hh => h2 hh.2)
    · exact step (fun hh => h1 hh.1)
theorem versions_ev (s t : ByteArray) (hs : s.size < big) (ht : t.size < big) : Ev (fun k => numeral_versions.f k s t) (vrS (L s) (L t)) := by
  unfold numeral_versions.f
  have := versions_l0 ((L s).length + (L t).length + 1) (L s) (L t) (by omega) (by rwa [L_len]) (by rwa [L_len])
  simp only [mk_L] at this
  exact this
end Go.Proofs.YtcdajedmlfhmeaaDoor.XN
end

section
/- The laws' head: what must come. (by this session) -/
-- NEEDS numeral_Compare milllaw3_alive
set_option linter.unusedVariables false
set_option linter.unusedSimpArgs false
namespace Go.Proofs.YtcdajedmlfhmeaaDoor.XN
open Go.RowKit Go.Proofs.YtcdajedmlfhmeaaDoorW.PrintWords Go.Proofs.YtcdajedmlfhmeaaDoorW.PrintMore

theorem Compare_h (kind : Int) (hk : kind = 16 ∨ kind = 64) (s t : ByteArray) (hs : s.size < 2305843009213693952) (ht : t.size < 2305843009213693952) : Ev (fun k => numeral_Compare.f k kind s t) (ordS (huS kind s) (huS kind t)) := by
  have key : Ev (fun k => numeral_Compare.j0 k kind s t kind true) (ordS (huS kind s) (huS kind t)) := by
    refine Ev.succ ?_
    simp only [numeral_Compare.j0]
    refine Ev.pos trivial (Ev.bind (human_ev kind s hs) (Ev.bind (human_ev kind t ht) (Ev.bind (order_ev (huS kind s) (huS kind t) ?_) (Ev.pure _))))
    unfold huS
    exact szS_sign _ _ _ _
  unfold numeral_Compare.f
  rcases hk with rfl | rfl
  · exact Ev.pos rfl key
  · exact Ev.neg (by decide) key
theorem Compare_v (s t : ByteArray) (hs : s.size < big) (ht : t.size < big) : Ev (fun k => numeral_Compare.f k 256 s t) (vrS (L s) (L t)) := by
  unfold numeral_Compare.f
  refine Ev.neg (by decide) (Ev.succ ?_)
  simp only [numeral_Compare.j0]
  refine Ev.neg (by decide) (Ev.neg (by decide) (Ev.pos trivial (Ev.bind (versions_ev s t hs ht) (Ev.pure _))))
theorem alive_dec : decS [45, 49, 50, 46, 53, 120] = (true, [49, 50], [53], 5) := by decide +kernel
theorem alive_n : ordS (huS 16 ⟨#[57]⟩) (huS 16 ⟨#[49, 48]⟩) = -1 := by decide +kernel
theorem alive_v : vrS [98] [97] = 1 := by
  have h1 : wdS [98] [97] = 1 := by simp only [wdS]; decide +kernel
  have e1 : pr1 [98] = [98] := by decide +kernel
  have e2 : pr1 [97] = [97] := by decide +kernel
  unfold vrS
  simp only [List.length_cons, List.length_nil, vrF, e1, e2, h1, orS]
  decide
theorem alive_ev : Ev (fun k => milllaw3_alive.f k) true := by
  unfold milllaw3_alive.f
  refine Ev.bind (Decimal_ev ⟨#[45, 49, 50, 46, 53, 120]⟩ (by decide)) ?_
  have e : decV (L ⟨#[45, 49, 50, 46, 53, 120]⟩) = (true, mkB [49, 50], mkB [53], 5) := by
    unfold decV
    rw [show L ⟨#[45, 49, 50, 46, 53, 120]⟩ = [45, 49, 50, 46, 53, 120] from rfl, alive_dec]
    rfl
  rw [e]
  simp only [toList_mk]
  refine Ev.pos trivial (Ev.pos trivial (Ev.pos trivial (Ev.pos trivial ?_)))
  refine Ev.bind (Compare_h 16 (Or.inl rfl) _ _ (by decide) (by decide)) ?_
  rw [alive_n]
  refine Ev.pos rfl (Ev.bind (Compare_v _ _ (by decide) (by decide)) ?_)
  rw [show L ⟨#[98]⟩ = [98] from rfl, show L ⟨#[97]⟩ = [97] from rfl, alive_v]
  exact Ev.done rfl
end Go.Proofs.YtcdajedmlfhmeaaDoor.XN
end

section
/- NumeralDecimals, the plain law: at every text both sides compute the same number, rank and month. (by this session) -/
-- NEEDS milllaw3_NumeralDecimals
set_option linter.unusedVariables false
namespace Go.Proofs.YtcdajedmlfhmeaaDoor.XN
open Go.RowKit Go.Proofs.YtcdajedmlfhmeaaDoorW.PrintWords Go.Proofs.YtcdajedmlfhmeaaDoorW.PrintMore
theorem NumeralDecimals_ev (s : ByteArray) (hs : s.size < 2305843009213693952) : Ev (fun k => milllaw3_NumeralDecimals.f k s) true := by
  have hb : s.size < big := by rw [big_eq]; omega
  unfold milllaw3_NumeralDecimals.f
  refine Ev.bind (Human_ev s hb) (Ev.bind (rHuman_ev s hb) (Ev.bind (Decimal_ev s hb) (Ev.bind (rDecimal_ev s hb) ?_)))
  refine Ev.pos (by simp) (Ev.pos (by simp) (Ev.pos rfl (Ev.bind (Month_ev s hb) (Ev.bind (rMonth_ev s hb) (Ev.pos rfl (Ev.bind alive_ev (Ev.pure _)))))))
end Go.Proofs.YtcdajedmlfhmeaaDoor.XN
namespace Go.Proofs.YtcdajedmlfhmeaaDoor.Pure
theorem NumeralDecimals : XN.milllaw3_NumeralDecimals.Pure := fun s h => (XN.NumeralDecimals_ev s (by omega)).ex
end Go.Proofs.YtcdajedmlfhmeaaDoor.Pure
end

section
/- The card of NumeralDecimals: the law answers true at every input. Conditions: none beyond the row's own. -/
set_option linter.unusedVariables false
namespace Go.Proofs.YtcdajedmlfhmeaaDoor.numeralDecimals
open Go.ChangeShapes Go.WideShapes Go.ChangeAt Go.RowKit
open Go.ChangeMaps (open_string shut_string)
theorem own : ownKnob Tryd.prog.godebug = none := by kernel_rfl
set_option maxRecDepth 100000 in
/-- What the walk gives, at every argument and every world that holds the listed variables. -/
theorem contract (H : Type) (enc : TypeId × Value → H) (W : World) (args : Array Value) (ds gs : List (DataW H)) (before : List MemPlace) (base : Nat)
    (hval0 : ∀ (j : Nat) t v, Tryd.f4.params[j]? = some t → args[j]? = some v → Value.okWide Tryd.prog W .any base t v)
    (hW : DataW.Whole enc Tryd.prog Tryd.f4.params.toList Rows.numeralDecimalsSpec.vars false W args.toList ds gs before)
    (hsz0 : (DataW.weightsEach Tryd.prog (Tryd.f4.params.toList ++ Rows.numeralDecimalsSpec.plain.varTypes Tryd.prog) (ds ++ gs)).all (· ≤ reachBytes) = true)
    (hL : laidMetH Tryd.prog Rows.numeralDecimalsRow.laid W) (hS : W.ShapedOpen Tryd.prog) :
    Calls Tryd.prog 4 args W fun e W' => ∃ v, e = .returned v ∧ Rows.numeralDecimalsSpec.post enc Tryd.prog Tryd.f4 false true false false W args v W' := by
  have hGL : XN.GOK W := XN.gok_of hL (by kernel_rfl) hS 1 2 rfl rfl
  have hsz : (DataW.weightsEach Tryd.prog (Tryd.f4.params.toList ++ Rows.numeralDecimalsSpec.plain.varTypes Tryd.prog) (ds ++ gs)).all (· ≤ reachBytes) = true := hsz0
  have hval : ∀ (j : Nat) t v, Tryd.f4.params[j]? = some t → args[j]? = some v → Value.okWide Tryd.prog W .any base t v := hval0
  have hW' := hW
  obtain ⟨p, q, hA0, hV, rfl, hfz, hnd⟩ := hW
  have hA : DataW.TrodAll enc Tryd.prog W 0 (fun _ => true) true Tryd.f4.params.toList args.toList ds p := hA0
  rw [Tryd.params4] at hA hval hsz
  obtain ⟨v0, vs0, d0, ds0, p0, q0, hargs, rfl, rfl, h0, r0⟩ := trodAll_cons hA
  obtain ⟨rfl, rfl, rfl⟩ := trodAll_nil r0
  obtain rfl : args = #[v0] := by cases args; simp_all
  obtain ⟨rfl, rfl⟩ := trodVars_none hV
  obtain ⟨a0, rfl, rfl, rfl, y0⟩ := open_string Tryd.underlying9 (hval 0 9 v0 rfl rfl) h0
  have w0 : a0.size ≤ 140737488351232 := by
    have z := sized_string hsz (j := 0) (t := 9) rfl rfl
    rw [Array.length_toList] at z
    exact z
  clear hA0 hval0 hsz0 hsz
  refine (XN.milllaw3_NumeralDecimals.walk Pure.NumeralDecimals a0 W hGL w0).mono fun e W' ⟨he, bel⟩ => ?_
  subst he
  exact ⟨_, rfl, _, _, _, [], _, [], hW', trodAll_mk1 (shut_bool Tryd.underlying4 _), (trodAll_cons_mk (shut_string Tryd.underlying9 y0) trodAll_mk0), rfl, bel.frame _, fun h => by cases h⟩
set_option maxRecDepth 100000 in
theorem lifted (os : Os) (started : os.Started) (H : Type) (enc : TypeId × Value → H) (F : Stop.Interp) :
    ReturnsInHanded {} Tryd.checked os 4 .any ((OpenSpec.ofChange Rows.numeralDecimalsSpec).preRow enc Tryd.prog Tryd.f4 Rows.numeralDecimalsRow.domain false Rows.numeralDecimalsRow.laid) (((OpenSpec.ofChange Rows.numeralDecimalsSpec).at F).post enc Tryd.prog Tryd.f4 false true false false) := by
  have hx : ∃ places, DataW.whole enc Tryd.prog ((World.laidAll Tryd.prog os Rows.numeralDecimalsRow.laid).forCall (fun _ _ => 0) ⟨#[], #[.string ⟨#[]⟩], []⟩).memory Tryd.f4.params.toList Rows.numeralDecimalsSpec.vars false (#[.string ⟨#[]⟩] : Array Value).toList 8 = some ([.lit (.string [])], [], places) :=
    ⟨[], by kernel_rfl⟩
  obtain ⟨places, hx⟩ := hx
  refine returnsInHanded_of_row (C := Tryd.checked) (s := (OpenSpec.ofChange Rows.numeralDecimalsSpec)) own started (by kernel_rfl) Tryd.func4
    (witness_row_at (enc := enc) (C := Tryd.checked) false (World.laidAll Tryd.prog os Rows.numeralDecimalsRow.laid) #[.string ⟨#[]⟩] (World.laidAll_os _ _ _) (by kernel_rfl) (by kernel_rfl) (by kernel_rfl)
      (OpenSpec.preRow_of_cond 8 hx (by kernel_rfl) (fun k hk => by cases hk) (by kernel_rfl) (laidMet_laidAll _ (by kernel_rfl) (by kernel_rfl)))) ?_
  intro W base args ds gs before hval hW _ _ hsz hL hS _
  exact contract H enc W args ds gs before base hval hW hsz hL hS
theorem said : Rows.NumeralDecimalsSaid :=
  OpenClaim.holds_of_cond 4 Tryd.f4 rfl rfl rfl rfl rfl rfl rfl ⟨rfl, rfl, rfl, rfl, rfl⟩ rfl rfl rfl rfl rfl (by kernel_rfl) Tryd.func4 (by kernel_rfl)
    (of_decide_eq_true (by kernel_rfl)) (by unfold Func.isWrapper; first | (rw [if_pos (by decide +kernel)]; kernel_rfl) | (rw [if_neg (by decide +kernel)]; exact ⟨rfl, rfl⟩))
    (fun os started H enc _ F => by rw [OpenClaim.pre_eq_preRow]; exact lifted os started H enc F)
theorem plain (f : FuncId) (fn : Func) (hf : Tryd.pinned.checked.prog.funcNamed "mill/milllaw3.NumeralDecimals" = some f) (hfn : Tryd.pinned.checked.prog.funcs[f]? = some fn) :
    false = Tryd.pinned.checked.prog.looks [] ∧ ∀ (j : Nat) t, fn.params[j]? = some t → Tryd.pinned.checked.prog.wantsStandIn t = false := by
  obtain rfl : f = 4 := Option.some.inj ((show Tryd.prog.funcNamed "mill/milllaw3.NumeralDecimals" = some 4 by kernel_rfl).symm.trans hf) |>.symm
  obtain rfl : fn = Tryd.f4 := (Option.some.inj (Tryd.func4.symm.trans hfn)).symm
  refine ⟨by kernel_rfl, fun j t ht => ?_⟩
  rw [Tryd.params4] at ht
  have hm := Array.mem_of_getElem? ht
  simp only [List.mem_toArray, List.mem_cons, List.not_mem_nil, or_false] at hm
  rcases hm with rfl
  · exact (show Tryd.prog.wantsStandIn 9 = false by kernel_rfl)
theorem card : Rows.NumeralDecimalsCardSaid :=
  Claim7.holds_tied_plain_at .later [] _ _ _ _ said (fun _ h => by cases h) (by kernel_rfl) (fun _ h => by cases h) numeralDecimals_row_tie rfl ⟨rfl, rfl⟩ (by kernel_rfl) rfl plain (by kernel_rfl)
#print axioms card
end Go.Proofs.YtcdajedmlfhmeaaDoor.numeralDecimals
namespace Go.Proofs.YtcdajedmlfhmeaaDoor
/-- The card, under a short name, for the claim. -/
theorem numeralDecimals_card : Rows.NumeralDecimalsCardSaid := numeralDecimals.card
end Go.Proofs.YtcdajedmlfhmeaaDoor
end
