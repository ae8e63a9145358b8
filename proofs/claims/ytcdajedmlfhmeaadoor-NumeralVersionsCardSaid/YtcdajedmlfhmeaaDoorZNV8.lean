import Derived.Test.YtcdajedmlfhmeaaDoorZNV0
import Derived.Test.YtcdajedmlfhmeaaDoorZNV1
import Derived.Test.YtcdajedmlfhmeaaDoorZNV3
import Derived.Test.YtcdajedmlfhmeaaDoorZNV4
import Derived.Test.YtcdajedmlfhmeaaDoorZNV6
import Derived.Test.YtcdajedmlfhmeaaDoorZNV7
import Derived.Lib.Strings
import Derived.Lib.LazyBuf
import Derived.IntWalk
namespace Go.Proofs.YtcdajedmlfhmeaaDoor.XN
open Go.RowKit Go.Proofs.YtcdajedmlfhmeaaDoorW.PrintWords Go.Proofs.YtcdajedmlfhmeaaDoorW.PrintLast Go.Proofs.YtcdajedmlfhmeaaDoorW.PrintMore
attribute [local go_sem] max2_int min2_int max_two min_two max_three min_three max_four min_four
set_option linter.unusedVariables false
set_option linter.unusedSimpArgs false

/-! ### numeral_Compare: function 27 -/
def numeral_Compare.j0 : Nat → Int → ByteArray → ByteArray → Int → Bool → Option (Int)
 | 0, _, _, _, _, _ => none
 | k + 1, x0, x1, x2, x9, x10 => if x10 = true then ((numeral_human.f k x0 x1).bind fun bt294 => ((numeral_human.f k x0 x2).bind fun bt298 => ((numeral_order.f k bt294.1 bt294.2.1 bt294.2.2.1 bt294.2.2.2 bt298.1 bt298.2.1 bt298.2.2.1 bt298.2.2.2).bind fun t302 => (some t302)))) else (if x9 = 128 then ((numeral_Month.f k x1).bind fun t303 => ((numeral_Month.f k x2).bind fun t304 => ((cmp_Compare_int.f t303 t304).bind fun t305 => (some t305)))) else (if x9 = 256 then ((numeral_versions.f k x1 x2).bind fun t306 => (some t306)) else (if x9 = 32 then ((numeral_General.f k x1).bind fun bt307 => ((numeral_General.f k x2).bind fun bt312 => (if bt307.1 = bt312.1 then ((numeral_sizeOf.f bt307.2.1 bt307.2.2.1 bt307.2.2.2.1 0).bind fun bt320 => ((numeral_sizeOf.f bt312.2.1 bt312.2.2.1 bt312.2.2.2.1 0).bind fun bt324 => ((numeral_order.f k bt320.1 bt320.2.1 bt320.2.2.1 bt320.2.2.2 bt324.1 bt324.2.1 bt324.2.2.1 bt324.2.2.2).bind fun t328 => (some t328)))) else ((api_Class_53.f bt307.1 bt312.1).bind fun t319 => (some t319))))) else ((strings_Compare.f x1 x2).bind fun t329 => (some t329)))))
def numeral_Compare.f (k : Nat) (a0 : Int) (a1 : ByteArray) (a2 : ByteArray) : Option (Int) := if a0 = 16 then (numeral_Compare.j0 k a0 a1 a2 a0 (a0 == 16)) else (numeral_Compare.j0 k a0 a1 a2 a0 (a0 == 64))
def numeral_Compare.T13 : Bool × List (List Nat × List Nat) := (true, [([], []), ([0], [0]), ([], []), ([2], [2]), ([], []), ([4], [4]), ([1, 3, 5], [1, 3, 5]), ([], []), ([7], [7]), ([], []), ([9], [9]), ([], []), ([11], [11]), ([8, 10, 12, 6], [8, 10, 12]), ([6, 13, 13], [6, 13]), ([14, 14, 0, 1, 2, 3, 4, 5, 6, 7, 8, 9, 10, 11, 12, 13, 14], [14])])
def numeral_Compare.B13 : List Nat := [0, 1, 0, 4, 0, 16, 63, 0, 128, 0, 512, 0, 2048, 8191, 16383, 32767]
theorem numeral_Compare.tab13 : rtab .any (opsOf Tryd.f27 13) = numeral_Compare.T13 := by kernel_rfl
theorem numeral_Compare.bits13 : waitsOk numeral_Compare.T13.2 numeral_Compare.B13 = true := by kernel_rfl
set_option maxHeartbeats 8000000 in
set_option maxRecDepth 100000 in
theorem numeral_Compare.calls (k : Nat) (a0 : Int) (a1 : ByteArray) (a2 : ByteArray) (r : Int) (w : World) (hGL : GOK w) (h : numeral_Compare.f k a0 a1 a2 = some r) :
  Calls Tryd.prog 27 #[.int .u16 a0, .string a1, .string a2] w fun e w' => e = .returned (.int .i64 r) ∧ Below w.heap.size w w' := by
 have hu29 := Tryd.underlying29
 have HGL := Aside0.mk hGL
 clear hGL
 have HB := Aside0.mk (Below.refl w.heap.size w)
 have H : (if a0 = 16 then (numeral_Compare.j0 k a0 a1 a2 a0 (a0 == 16)) else (numeral_Compare.j0 k a0 a1 a2 a0 (a0 == 64))) = some r := h
 clear h
 have HC4 := Aside0.mk H
 clear H
 go_enter Tryd.func27, Tryd.ntmps27
 go_upto_if 10 with (fail)
 go_cut [10] (fun v10 wc => ∃ (kq : Nat) (x10_3 : Bool), v10 = .bool x10_3 ∧ Aside0 (numeral_Compare.j0 kq a0 a1 a2 a0 x10_3 = some r) ∧ Aside0 (kq ≤ k) ∧ Aside0 (Below w.heap.size w wc))
 case first =>
  have H := HC4.out
  clear HC4
  by_cases c5 : a0 = 16
  ·
   rw [if_pos c5] at H
   have c5b0 : (a0 == 16) = true := beq_iff_eq.mpr c5
   have c5b1 : (a0 != 16) = false := bne_eq_false_iff_eq.mpr c5
   clear c5
   (first | rw [c5b0] | (simp only [i64_w, i32_w]; rw [c5b0]) | skip)
   have H' := Aside0.mk H
   clear H
   go_wp2
   go_meet
   case rel => exact ⟨_, ((a0 == 16)), qnv2_, H', ⟨by first | omega | exact Nat.le_refl _⟩, ⟨qnv0_⟩⟩
  ·
   rw [if_neg c5] at H
   have c5b0 : (a0 == 16) = false := beq_eq_false_iff_ne.mpr c5
   have c5b1 : (a0 != 16) = true := bne_iff_ne.mpr c5
   (first | rw [c5b0] | (simp only [i64_w, i32_w]; rw [c5b0]) | skip)
   have H' := Aside0.mk H
   clear H
   go_wp2
   go_meet
   case rel => exact ⟨_, ((a0 == 64)), qnv2_, H', ⟨by first | omega | exact Nat.le_refl _⟩, ⟨qnv0_⟩⟩
 case rest =>
  clear HC4
  (try clear c2); (try clear p2); (try clear c5); (try clear c5b0); (try clear c5b1)
  obtain ⟨kq, x10_3, rfl, HA, HJ3, HB⟩ := hcut
  cases kq with
  | zero => exact absurd HA.out (by simp [numeral_Compare.j0])
  | succ kj3 =>
   have H := HA.out
   clear HA
   simp only [numeral_Compare.j0] at H
   by_cases c6 : x10_3 = true
   ·
    subst c6
    have H1 : ((numeral_human.f kj3 a0 a1).bind fun bt294 => ((numeral_human.f kj3 a0 a2).bind fun bt298 => ((numeral_order.f kj3 bt294.1 bt294.2.1 bt294.2.2.1 bt294.2.2.2 bt298.1 bt298.2.1 bt298.2.2.1 bt298.2.2.2).bind fun t302 => (some t302)))) = some r := by rw [if_pos rfl] at H; exact H
    clear H
    have H := H1
    clear H1
    replace H := Option.bind_eq_some_iff.mp H
    obtain ⟨⟨t294, t295, t296, t297⟩, A70, H⟩ := H
    replace H : ((numeral_human.f kj3 a0 a2).bind fun bt298 => ((numeral_order.f kj3 t294 t295 t296 t297 bt298.1 bt298.2.1 bt298.2.2.1 bt298.2.2.2).bind fun t302 => (some t302))) = some r := H
    have A7 := Aside0.mk A70
    clear A70
    replace H := Option.bind_eq_some_iff.mp H
    obtain ⟨⟨t298, t299, t300, t301⟩, A80, H⟩ := H
    replace H : ((numeral_order.f kj3 t294 t295 t296 t297 t298 t299 t300 t301).bind fun t302 => (some t302)) = some r := H
    have A8 := Aside0.mk A80
    clear A80
    replace H := Option.bind_eq_some_iff.mp H
    obtain ⟨t302, A90, H⟩ := H
    replace H : (some t302) = some r := H
    have A9 := Aside0.mk A90
    clear A90
    obtain rfl := Option.some.inj H
    have tk13 : True := trivial; have tk14 : True := trivial; have tk15 : True := trivial
    go_wp2_with (first | (have ztk13 := tk13; clear tk13 ztk13; (with_reducible refine gate_callee (f := 50) rfl ?_); refine goesL_ (some 15) rfl rfl Tryd.func50 (by kernel_rfl) rfl #[.int .u16 a0, .string a1] rfl qnv1_ ?_; (with_reducible refine (numeral_human.calls kj3 a0 a1 t294 t295 t296 t297 _ A7.out).mono ?_); rintro e w10 ⟨rfl, hb⟩; refine ⟨_, rfl, ?_⟩; have n0_ := Aside0.mk (below_step qnv0_ hb); clear HB; have HB := n0_; clear n0_; (try clear hb); (try clear hb2); (try clear hk); (try clear hi)) | (have ztk14 := tk14; clear tk14 ztk14; (with_reducible refine gate_callee (f := 50) rfl ?_); refine goesL_ (some 18) rfl rfl Tryd.func50 (by kernel_rfl) rfl #[.int .u16 a0, .string a2] rfl qnv1_ ?_; (with_reducible refine (numeral_human.calls kj3 a0 a2 t298 t299 t300 t301 _ A8.out).mono ?_); rintro e w11 ⟨rfl, hb⟩; refine ⟨_, rfl, ?_⟩; have n0_ := Aside0.mk (below_step qnv0_ hb); clear HB; have HB := n0_; clear n0_; (try clear hb); (try clear hb2); (try clear hk); (try clear hi)) | (have ztk15 := tk15; clear tk15 ztk15; (with_reducible refine gate_callee (f := 49) rfl ?_); refine goesL_ (some 19) rfl rfl Tryd.func49 (by kernel_rfl) rfl #[.agg #[.int .i64 t294, .int .i64 t295, .int .i64 t296, .string t297], .agg #[.int .i64 t298, .int .i64 t299, .int .i64 t300, .string t301]] rfl qnv1_ ?_; (with_reducible refine (numeral_order.calls kj3 t294 t295 t296 t297 t298 t299 t300 t301 t302 _ A9.out).mono ?_); rintro e w12 ⟨rfl, hb⟩; refine ⟨_, rfl, ?_⟩; have n0_ := Aside0.mk (below_step qnv0_ hb); clear HB; have HB := n0_; clear n0_; (try clear hb); (try clear hb2); (try clear hk); (try clear hi)))
    go_ret
    exact ⟨qnv8_, qnv0_⟩
   ·
    replace c6 := Bool.eq_false_iff.mpr c6
    subst c6
    have H1 : (if a0 = 128 then ((numeral_Month.f kj3 a1).bind fun t303 => ((numeral_Month.f kj3 a2).bind fun t304 => ((cmp_Compare_int.f t303 t304).bind fun t305 => (some t305)))) else (if a0 = 256 then ((numeral_versions.f kj3 a1 a2).bind fun t306 => (some t306)) else (if a0 = 32 then ((numeral_General.f kj3 a1).bind fun bt307 => ((numeral_General.f kj3 a2).bind fun bt312 => (if bt307.1 = bt312.1 then ((numeral_sizeOf.f bt307.2.1 bt307.2.2.1 bt307.2.2.2.1 0).bind fun bt320 => ((numeral_sizeOf.f bt312.2.1 bt312.2.2.1 bt312.2.2.2.1 0).bind fun bt324 => ((numeral_order.f kj3 bt320.1 bt320.2.1 bt320.2.2.1 bt320.2.2.2 bt324.1 bt324.2.1 bt324.2.2.1 bt324.2.2.2).bind fun t328 => (some t328)))) else ((api_Class_53.f bt307.1 bt312.1).bind fun t319 => (some t319))))) else ((strings_Compare.f a1 a2).bind fun t329 => (some t329))))) = some r := by rw [if_neg (show ¬ (false = true) by decide)] at H; exact H
    clear H
    have H := H1
    clear H1
    by_cases c16 : a0 = 128
    ·
     rw [if_pos c16] at H
     have c16b0 : (a0 == 128) = true := beq_iff_eq.mpr c16
     have c16b1 : (a0 != 128) = false := bne_eq_false_iff_eq.mpr c16
     clear c16
     replace H := Option.bind_eq_some_iff.mp H
     obtain ⟨t303, A170, H⟩ := H
     replace H : ((numeral_Month.f kj3 a2).bind fun t304 => ((cmp_Compare_int.f t303 t304).bind fun t305 => (some t305))) = some r := H
     have A17 := Aside0.mk A170
     clear A170
     replace H := Option.bind_eq_some_iff.mp H
     obtain ⟨t304, A180, H⟩ := H
     replace H : ((cmp_Compare_int.f t303 t304).bind fun t305 => (some t305)) = some r := H
     have A18 := Aside0.mk A180
     clear A180
     replace H := Option.bind_eq_some_iff.mp H
     obtain ⟨t305, A190, H⟩ := H
     replace H : (some t305) = some r := H
     have A19 := Aside0.mk A190
     clear A190
     obtain rfl := Option.some.inj H
     have tk20 : True := trivial; have tk21 : True := trivial; have tk22 : True := trivial
     go_wp2_with (first | (have ztk20 := tk20; clear tk20 ztk20; (with_reducible refine gate_callee (f := 23) rfl ?_); refine goesL_ (some 23) rfl rfl Tryd.func23 (by kernel_rfl) rfl #[.string a1] rfl qnv1_ ?_; (with_reducible refine (numeral_Month.calls kj3 a1 t303 _ ?side1 A17.out).mono ?_); (case side1 => exact GOK.below HGL.out qnv0_); rintro e w' ⟨rfl, ⟨nd, rfl⟩⟩; refine ⟨_, rfl, ?_⟩) | (have ztk21 := tk21; clear tk21 ztk21; (with_reducible refine gate_callee (f := 23) rfl ?_); refine goesL_ (some 25) rfl rfl Tryd.func23 (by kernel_rfl) rfl #[.string a2] rfl qnv1_ ?_; (with_reducible refine (numeral_Month.calls kj3 a2 t304 _ ?side1 A18.out).mono ?_); (case side1 => exact GOK.below HGL.out qnv0_); rintro e w' ⟨rfl, ⟨nd, rfl⟩⟩; refine ⟨_, rfl, ?_⟩) | (have ztk22 := tk22; clear tk22 ztk22; (with_reducible refine gate_callee (f := 51) rfl ?_); refine goesL_ (some 26) rfl rfl Tryd.func51 (by kernel_rfl) rfl #[.int .i64 t303, .int .i64 t304] rfl qnv1_ ?_; (with_reducible refine (cmp_Compare_int.calls t303 t304 t305 _ A19.out).mono ?_); rintro e w' ⟨rfl, ⟨nd, rfl⟩⟩; refine ⟨_, rfl, ?_⟩))
     go_ret
     exact ⟨qnv8_, qnv0_⟩
    ·
     rw [if_neg c16] at H
     have c16b0 : (a0 == 128) = false := beq_eq_false_iff_ne.mpr c16
     have c16b1 : (a0 != 128) = true := bne_iff_ne.mpr c16
     by_cases c23 : a0 = 256
     ·
      rw [if_pos c23] at H
      have c23b0 : (a0 == 256) = true := beq_iff_eq.mpr c23
      have c23b1 : (a0 != 256) = false := bne_eq_false_iff_eq.mpr c23
      clear c23
      replace H := Option.bind_eq_some_iff.mp H
      obtain ⟨t306, A240, H⟩ := H
      replace H : (some t306) = some r := H
      have A24 := Aside0.mk A240
      clear A240
      obtain rfl := Option.some.inj H
      go_wp2_with (first | ((with_reducible refine gate_callee (f := 52) rfl ?_); refine goesL_ (some 31) rfl rfl Tryd.func52 (by kernel_rfl) rfl #[.string a1, .string a2] rfl qnv1_ ?_; (with_reducible refine (numeral_versions.calls kj3 a1 a2 t306 _ ?side1 A24.out).mono ?_); (case side1 => exact GOK.below HGL.out qnv0_); rintro e w25 ⟨rfl, hb⟩; refine ⟨_, rfl, ?_⟩; have n0_ := Aside0.mk (below_step qnv0_ hb); clear HB; have HB := n0_; clear n0_; (try clear hb); (try clear hb2); (try clear hk); (try clear hi)))
      go_ret
      exact ⟨qnv8_, qnv0_⟩
     ·
      rw [if_neg c23] at H
      have c23b0 : (a0 == 256) = false := beq_eq_false_iff_ne.mpr c23
      have c23b1 : (a0 != 256) = true := bne_iff_ne.mpr c23
      by_cases c26 : a0 = 32
      ·
       rw [if_pos c26] at H
       have c26b0 : (a0 == 32) = true := beq_iff_eq.mpr c26
       have c26b1 : (a0 != 32) = false := bne_eq_false_iff_eq.mpr c26
       clear c26
       replace H := Option.bind_eq_some_iff.mp H
       obtain ⟨⟨t307, t308, t309, t310, t311⟩, A270, H⟩ := H
       replace H : ((numeral_General.f kj3 a2).bind fun bt312 => (if t307 = bt312.1 then ((numeral_sizeOf.f t308 t309 t310 0).bind fun bt320 => ((numeral_sizeOf.f bt312.2.1 bt312.2.2.1 bt312.2.2.2.1 0).bind fun bt324 => ((numeral_order.f kj3 bt320.1 bt320.2.1 bt320.2.2.1 bt320.2.2.2 bt324.1 bt324.2.1 bt324.2.2.1 bt324.2.2.2).bind fun t328 => (some t328)))) else ((api_Class_53.f t307 bt312.1).bind fun t319 => (some t319)))) = some r := H
       have A27 := Aside0.mk A270
       clear A270
       replace H := Option.bind_eq_some_iff.mp H
       obtain ⟨⟨t312, t313, t314, t315, t316⟩, A280, H⟩ := H
       replace H : (if t307 = t312 then ((numeral_sizeOf.f t308 t309 t310 0).bind fun bt320 => ((numeral_sizeOf.f t313 t314 t315 0).bind fun bt324 => ((numeral_order.f kj3 bt320.1 bt320.2.1 bt320.2.2.1 bt320.2.2.2 bt324.1 bt324.2.1 bt324.2.2.1 bt324.2.2.2).bind fun t328 => (some t328)))) else ((api_Class_53.f t307 t312).bind fun t319 => (some t319))) = some r := H
       have A28 := Aside0.mk A280
       clear A280
       by_cases c29 : t307 = t312
       ·
        rw [if_pos c29] at H
        have c29b0 : (t307 == t312) = true := beq_iff_eq.mpr c29
        have c29b1 : (t307 != t312) = false := bne_eq_false_iff_eq.mpr c29
        clear c29
        replace H := Option.bind_eq_some_iff.mp H
        obtain ⟨⟨t320, t321, t322, t323⟩, A300, H⟩ := H
        replace H : ((numeral_sizeOf.f t313 t314 t315 0).bind fun bt324 => ((numeral_order.f kj3 t320 t321 t322 t323 bt324.1 bt324.2.1 bt324.2.2.1 bt324.2.2.2).bind fun t328 => (some t328))) = some r := H
        have A30 := Aside0.mk A300
        clear A300
        replace H := Option.bind_eq_some_iff.mp H
        obtain ⟨⟨t324, t325, t326, t327⟩, A310, H⟩ := H
        replace H : ((numeral_order.f kj3 t320 t321 t322 t323 t324 t325 t326 t327).bind fun t328 => (some t328)) = some r := H
        have A31 := Aside0.mk A310
        clear A310
        replace H := Option.bind_eq_some_iff.mp H
        obtain ⟨t328, A320, H⟩ := H
        replace H : (some t328) = some r := H
        have A32 := Aside0.mk A320
        clear A320
        obtain rfl := Option.some.inj H
        have tk45 : True := trivial; have tk46 : True := trivial; have tk47 : True := trivial; have tk48 : True := trivial
        try go_wp2_with (first | (have ztk45 := tk45; clear tk45 ztk45; (with_reducible refine gate_callee (f := 17) rfl ?_); refine goesL_ (some 35) rfl rfl Tryd.func17 (by kernel_rfl) rfl #[.string a1] rfl qnv1_ ?_; (with_reducible refine (numeral_General.calls kj3 a1 t307 t308 t309 t310 t311 _ A27.out).mono ?_); rintro e w33 ⟨rfl, hb⟩; refine ⟨_, rfl, ?_⟩; have n0_ := Aside0.mk (below_step qnv0_ hb); clear HB; have HB := n0_; clear n0_; (try clear hb); (try clear hb2); (try clear hk); (try clear hi)) | (have ztk46 := tk46; clear tk46 ztk46; (with_reducible refine gate_callee (f := 17) rfl ?_); refine goesL_ (some 37) rfl rfl Tryd.func17 (by kernel_rfl) rfl #[.string a2] rfl qnv1_ ?_; (with_reducible refine (numeral_General.calls kj3 a2 t312 t313 t314 t315 t316 _ A28.out).mono ?_); rintro e w34 ⟨rfl, hb⟩; refine ⟨_, rfl, ?_⟩; have n0_ := Aside0.mk (below_step qnv0_ hb); clear HB; have HB := n0_; clear n0_; (try clear hb); (try clear hb2); (try clear hk); (try clear hi)) | (have ztk47 := tk47; clear tk47 ztk47; (with_reducible refine gate_dst (N := 7) rfl ?_); refine box_event ?hg (N := 7) ?hd (cs := #[.int .u8 0, .bool false, .string (⟨#[]⟩ : ByteArray), .int .i64 0, .int .i64 0]) (t := 29) ?hr ?_; (case hd => rfl); (case hg => rfl); (case hr => first | (go_simp; done) | (go_simp; rfl)); intro gb317 hg w35 hbox hb; have n0_ := Aside0.mk (below_step qnv0_ hb); have n1_ := Aside0.mk (hbox); have n2_ := Aside0.mk ((by rw [hg]; exact (below_size qnv0_) : w.heap.size ≤ gb317)); have n3_ := Aside0.mk ((by rw [hg]; exact (below_size qnv0_) : w.heap.size ≤ gb317)); clear HB; have HB := n0_; have BK317 := n1_; have GW317 := n2_; have GE317 := n3_; clear n0_ n1_ n2_ n3_; clear hb hbox hg) | (have ztk48 := tk48; clear tk48 ztk48; (with_reducible refine gate_dst (N := 8) rfl ?_); refine box_event ?hg (N := 8) ?hd (cs := #[.int .u8 0, .bool false, .string (⟨#[]⟩ : ByteArray), .int .i64 0, .int .i64 0]) (t := 29) ?hr ?_; (case hd => rfl); (case hg => rfl); (case hr => first | (go_simp; done) | (go_simp; rfl)); intro gb318 hg w36 hbox hb; have n0_ := Aside0.mk (blk_below (g := gb317) (o := .cells #[.int .u8 0, .bool false, .string (⟨#[]⟩ : ByteArray), .int .i64 0, .int .i64 0] 29 (0, 0)) qnv28_ hb); have n1_ := Aside0.mk (below_step qnv31_ hb); have n2_ := Aside0.mk (hbox); have n3_ := Aside0.mk ((by rw [hg]; exact (below_size qnv31_) : w.heap.size ≤ gb318)); have n4_ := Aside0.mk ((by rw [hg]; exact (below_size qnv31_) : w.heap.size ≤ gb318)); have n5_ := Aside0.mk ((by rw [hg]; exact Nat.ne_of_lt (blk_lt (g := gb317) (o := .cells #[.int .u8 0, .bool false, .string (⟨#[]⟩ : ByteArray), .int .i64 0, .int .i64 0] 29 (0, 0)) qnv28_) : gb317 ≠ gb318)); have n6_ := Aside0.mk ((by rw [hg]; exact Nat.ne_of_gt (blk_lt (g := gb317) (o := .cells #[.int .u8 0, .bool false, .string (⟨#[]⟩ : ByteArray), .int .i64 0, .int .i64 0] 29 (0, 0)) qnv28_) : gb318 ≠ gb317)); clear BK317; clear HB; have BK317 := n0_; have HB := n1_; have BK318 := n2_; have GW318 := n3_; have GE318 := n4_; have NB317_318 := n5_; have NB318_317 := n6_; clear n0_ n1_ n2_ n3_ n4_ n5_ n6_; clear hb hbox hg; have hnb37 := NB317_318.out; have hnc37 := NB318_317.out; have hcz38_0 : w36.cell? ⟨gb317, 0, none⟩ = some (.int .u8 0) := (blk_cell BK317.out 0).trans rfl; have hcz38_1 : w36.cell? ⟨gb317, 1, none⟩ = some (.bool false) := (blk_cell BK317.out 1).trans rfl; have hcz38_2 : w36.cell? ⟨gb317, 2, none⟩ = some (.string (⟨#[]⟩ : ByteArray)) := (blk_cell BK317.out 2).trans rfl; have hcz38_3 : w36.cell? ⟨gb317, 3, none⟩ = some (.int .i64 0) := (blk_cell BK317.out 3).trans rfl; have hcz38_4 : w36.cell? ⟨gb317, 4, none⟩ = some (.int .i64 0) := (blk_cell BK317.out 4).trans rfl; have hfz38_0 := blk_frozen BK317.out 0; have hfz38_1 := blk_frozen BK317.out 1; have hfz38_2 := blk_frozen BK317.out 2; have hfz38_3 := blk_frozen BK317.out 3; have hfz38_4 := blk_frozen BK317.out 4; have hcz39_0 : w36.cell? ⟨gb318, 0, none⟩ = some (.int .u8 0) := (blk_cell BK318.out 0).trans rfl; have hcz39_1 : w36.cell? ⟨gb318, 1, none⟩ = some (.bool false) := (blk_cell BK318.out 1).trans rfl; have hcz39_2 : w36.cell? ⟨gb318, 2, none⟩ = some (.string (⟨#[]⟩ : ByteArray)) := (blk_cell BK318.out 2).trans rfl; have hcz39_3 : w36.cell? ⟨gb318, 3, none⟩ = some (.int .i64 0) := (blk_cell BK318.out 3).trans rfl; have hcz39_4 : w36.cell? ⟨gb318, 4, none⟩ = some (.int .i64 0) := (blk_cell BK318.out 4).trans rfl; have hfz39_0 := blk_frozen BK318.out 0; have hfz39_1 := blk_frozen BK318.out 1; have hfz39_2 := blk_frozen BK318.out 2; have hfz39_3 := blk_frozen BK318.out 3; have hfz39_4 := blk_frozen BK318.out 4))
        have n0_ : Aside0 (((((((((((w36.setCell ⟨gb317, 0, none⟩ (.int .u8 t307)).setCell ⟨gb317, 1, none⟩ (.bool t308)).setCell ⟨gb317, 2, none⟩ (.string t309)).setCell ⟨gb317, 3, none⟩ (.int .i64 t310)).setCell ⟨gb317, 4, none⟩ (.int .i64 t311)).setCell ⟨gb318, 0, none⟩ (.int .u8 t312)).setCell ⟨gb318, 1, none⟩ (.bool t313)).setCell ⟨gb318, 2, none⟩ (.string t314)).setCell ⟨gb318, 3, none⟩ (.int .i64 t315)).setCell ⟨gb318, 4, none⟩ (.int .i64 t316)).heap[gb317]? = some (.cells #[.int .u8 t307, .bool t308, .string t309, .int .i64 t310, .int .i64 t311] 29 (0, 0))) := ⟨by (with_reducible repeat (first | refine blk_drewN ?_ _ | refine blk_drew ?_ | refine blk_alloc ?_ _)); refine blk_far ?_ NB317_318.out _; (with_reducible repeat (first | refine blk_drewN ?_ _ | refine blk_drew ?_ | refine blk_alloc ?_ _)); refine blk_far ?_ NB317_318.out _; (with_reducible repeat (first | refine blk_drewN ?_ _ | refine blk_drew ?_ | refine blk_alloc ?_ _)); refine blk_far ?_ NB317_318.out _; (with_reducible repeat (first | refine blk_drewN ?_ _ | refine blk_drew ?_ | refine blk_alloc ?_ _)); refine blk_far ?_ NB317_318.out _; (with_reducible repeat (first | refine blk_drewN ?_ _ | refine blk_drew ?_ | refine blk_alloc ?_ _)); refine blk_far ?_ NB317_318.out _; (with_reducible repeat (first | refine blk_drewN ?_ _ | refine blk_drew ?_ | refine blk_alloc ?_ _)); refine blk_put (cs := #[.int .u8 t307, .bool t308, .string t309, .int .i64 t310, .int .i64 0]) ?_ 4 _ rfl; (with_reducible repeat (first | refine blk_drewN ?_ _ | refine blk_drew ?_ | refine blk_alloc ?_ _)); refine blk_put (cs := #[.int .u8 t307, .bool t308, .string t309, .int .i64 0, .int .i64 0]) ?_ 3 _ rfl; (with_reducible repeat (first | refine blk_drewN ?_ _ | refine blk_drew ?_ | refine blk_alloc ?_ _)); refine blk_put (cs := #[.int .u8 t307, .bool t308, .string (⟨#[]⟩ : ByteArray), .int .i64 0, .int .i64 0]) ?_ 2 _ rfl; (with_reducible repeat (first | refine blk_drewN ?_ _ | refine blk_drew ?_ | refine blk_alloc ?_ _)); refine blk_put (cs := #[.int .u8 t307, .bool false, .string (⟨#[]⟩ : ByteArray), .int .i64 0, .int .i64 0]) ?_ 1 _ rfl; (with_reducible repeat (first | refine blk_drewN ?_ _ | refine blk_drew ?_ | refine blk_alloc ?_ _)); refine blk_put (cs := #[.int .u8 0, .bool false, .string (⟨#[]⟩ : ByteArray), .int .i64 0, .int .i64 0]) ?_ 0 _ rfl; (with_reducible repeat (first | refine blk_drewN ?_ _ | refine blk_drew ?_ | refine blk_alloc ?_ _)); exact BK317.out⟩
        have n1_ : Aside0 (((((((((((w36.setCell ⟨gb317, 0, none⟩ (.int .u8 t307)).setCell ⟨gb317, 1, none⟩ (.bool t308)).setCell ⟨gb317, 2, none⟩ (.string t309)).setCell ⟨gb317, 3, none⟩ (.int .i64 t310)).setCell ⟨gb317, 4, none⟩ (.int .i64 t311)).setCell ⟨gb318, 0, none⟩ (.int .u8 t312)).setCell ⟨gb318, 1, none⟩ (.bool t313)).setCell ⟨gb318, 2, none⟩ (.string t314)).setCell ⟨gb318, 3, none⟩ (.int .i64 t315)).setCell ⟨gb318, 4, none⟩ (.int .i64 t316)).heap[gb318]? = some (.cells #[.int .u8 t312, .bool t313, .string t314, .int .i64 t315, .int .i64 t316] 29 (0, 0))) := ⟨by (with_reducible repeat (first | refine blk_drewN ?_ _ | refine blk_drew ?_ | refine blk_alloc ?_ _)); refine blk_put (cs := #[.int .u8 t312, .bool t313, .string t314, .int .i64 t315, .int .i64 0]) ?_ 4 _ rfl; (with_reducible repeat (first | refine blk_drewN ?_ _ | refine blk_drew ?_ | refine blk_alloc ?_ _)); refine blk_put (cs := #[.int .u8 t312, .bool t313, .string t314, .int .i64 0, .int .i64 0]) ?_ 3 _ rfl; (with_reducible repeat (first | refine blk_drewN ?_ _ | refine blk_drew ?_ | refine blk_alloc ?_ _)); refine blk_put (cs := #[.int .u8 t312, .bool t313, .string (⟨#[]⟩ : ByteArray), .int .i64 0, .int .i64 0]) ?_ 2 _ rfl; (with_reducible repeat (first | refine blk_drewN ?_ _ | refine blk_drew ?_ | refine blk_alloc ?_ _)); refine blk_put (cs := #[.int .u8 t312, .bool false, .string (⟨#[]⟩ : ByteArray), .int .i64 0, .int .i64 0]) ?_ 1 _ rfl; (with_reducible repeat (first | refine blk_drewN ?_ _ | refine blk_drew ?_ | refine blk_alloc ?_ _)); refine blk_put (cs := #[.int .u8 0, .bool false, .string (⟨#[]⟩ : ByteArray), .int .i64 0, .int .i64 0]) ?_ 0 _ rfl; (with_reducible repeat (first | refine blk_drewN ?_ _ | refine blk_drew ?_ | refine blk_alloc ?_ _)); refine blk_far ?_ NB318_317.out _; (with_reducible repeat (first | refine blk_drewN ?_ _ | refine blk_drew ?_ | refine blk_alloc ?_ _)); refine blk_far ?_ NB318_317.out _; (with_reducible repeat (first | refine blk_drewN ?_ _ | refine blk_drew ?_ | refine blk_alloc ?_ _)); refine blk_far ?_ NB318_317.out _; (with_reducible repeat (first | refine blk_drewN ?_ _ | refine blk_drew ?_ | refine blk_alloc ?_ _)); refine blk_far ?_ NB318_317.out _; (with_reducible repeat (first | refine blk_drewN ?_ _ | refine blk_drew ?_ | refine blk_alloc ?_ _)); refine blk_far ?_ NB318_317.out _; (with_reducible repeat (first | refine blk_drewN ?_ _ | refine blk_drew ?_ | refine blk_alloc ?_ _)); exact BK318.out⟩
        have n2_ : Aside0 (Below w.heap.size w ((((((((((w36.setCell ⟨gb317, 0, none⟩ (.int .u8 t307)).setCell ⟨gb317, 1, none⟩ (.bool t308)).setCell ⟨gb317, 2, none⟩ (.string t309)).setCell ⟨gb317, 3, none⟩ (.int .i64 t310)).setCell ⟨gb317, 4, none⟩ (.int .i64 t311)).setCell ⟨gb318, 0, none⟩ (.int .u8 t312)).setCell ⟨gb318, 1, none⟩ (.bool t313)).setCell ⟨gb318, 2, none⟩ (.string t314)).setCell ⟨gb318, 3, none⟩ (.int .i64 t315)).setCell ⟨gb318, 4, none⟩ (.int .i64 t316))) := ⟨qnv25_⟩
        (try clear BK317); (try clear BK318); (try clear HB)
        generalize ((((((((((w36.setCell ⟨gb317, 0, none⟩ (.int .u8 t307)).setCell ⟨gb317, 1, none⟩ (.bool t308)).setCell ⟨gb317, 2, none⟩ (.string t309)).setCell ⟨gb317, 3, none⟩ (.int .i64 t310)).setCell ⟨gb317, 4, none⟩ (.int .i64 t311)).setCell ⟨gb318, 0, none⟩ (.int .u8 t312)).setCell ⟨gb318, 1, none⟩ (.bool t313)).setCell ⟨gb318, 2, none⟩ (.string t314)).setCell ⟨gb318, 3, none⟩ (.int .i64 t315)).setCell ⟨gb318, 4, none⟩ (.int .i64 t316)) = w40 at n0_ n1_ n2_ ⊢
        have BK317 := n0_
        have BK318 := n1_
        have HB := n2_
        clear n0_ n1_ n2_
        have n0_ := Aside0.mk (blk_drew BK317.out)
        have n1_ := Aside0.mk (blk_drew BK318.out)
        have n2_ := Aside0.mk (below_drew1 HB.out)
        clear BK317
        clear BK318
        clear HB
        have BK317 := n0_
        have BK318 := n1_
        have HB := n2_
        clear n0_ n1_ n2_
        refine start_ (n := 16) (S := fun w' => w'.cell? ⟨gb317, 0, none⟩ = some (.int .u8 t307) ∧ w'.cell? ⟨gb317, 1, none⟩ = some (.bool t308) ∧ w'.cell? ⟨gb317, 2, none⟩ = some (.string t309) ∧ w'.cell? ⟨gb317, 3, none⟩ = some (.int .i64 t310) ∧ w'.cell? ⟨gb317, 4, none⟩ = some (.int .i64 t311) ∧ w'.cell? ⟨gb318, 0, none⟩ = some (.int .u8 t312) ∧ w'.cell? ⟨gb318, 1, none⟩ = some (.bool t313) ∧ w'.cell? ⟨gb318, 2, none⟩ = some (.string t314) ∧ w'.cell? ⟨gb318, 3, none⟩ = some (.int .i64 t315) ∧ w'.cell? ⟨gb318, 4, none⟩ = some (.int .i64 t316)) (ds := []) #[false, false, false, false, false, false, false, false, false, false, false, false, false, false, false, false] (by kernel_rfl) rfl rfl ⟨(blk_cell BK317.out 0).trans rfl, (blk_cell BK317.out 1).trans rfl, (blk_cell BK317.out 2).trans rfl, (blk_cell BK317.out 3).trans rfl, (blk_cell BK317.out 4).trans rfl, (blk_cell BK318.out 0).trans rfl, (blk_cell BK318.out 1).trans rfl, (blk_cell BK318.out 2).trans rfl, (blk_cell BK318.out 3).trans rfl, (blk_cell BK318.out 4).trans rfl⟩ (fun hHeld => ?_); refine with_tabW numeral_Compare.tab13 numeral_Compare.bits13 (fun HT_ HW_ => ?_)
        generalize w40.drew = w41 at BK317 BK318 HB hHeld ⊢
        refine pure_ (i := 0) (N := some 48) (v := ?_) (a' := ?_) #[true, false, false, false, false, false, false, false, false, false, false, false, false, false, false, false] rfl rfl (any_of HT_.out (by kernel_rfl)) (fun _ _ _ h => h) (Or.inl ⟨by rfl, ?_⟩) ?_ ?_
        rotate_left
        ·
         intro w'
         go_simp
         with_reducible rfl
        rotate_left
        ·
         simp only [Act.put, List.setIfInBounds_toArray, List.set_cons_zero, List.set_cons_succ, i64_w, i32_w]
         rfl
        refine pure_ (i := 2) (N := some 50) (v := ?_) (a' := ?_) #[true, false, true, false, false, false, false, false, false, false, false, false, false, false, false, false] rfl rfl (any_of HT_.out (by kernel_rfl)) (fun _ _ _ h => h) (Or.inl ⟨by rfl, ?_⟩) ?_ ?_
        rotate_left
        ·
         intro w'
         go_simp
         with_reducible rfl
        rotate_left
        ·
         simp only [Act.put, List.setIfInBounds_toArray, List.set_cons_zero, List.set_cons_succ, i64_w, i32_w]
         rfl
        refine pure_ (i := 4) (N := some 52) (v := ?_) (a' := ?_) #[true, false, true, false, true, false, false, false, false, false, false, false, false, false, false, false] rfl rfl (any_of HT_.out (by kernel_rfl)) (fun _ _ _ h => h) (Or.inl ⟨by rfl, ?_⟩) ?_ ?_
        rotate_left
        ·
         intro w'
         go_simp
         with_reducible rfl
        rotate_left
        ·
         simp only [Act.put, List.setIfInBounds_toArray, List.set_cons_zero, List.set_cons_succ, i64_w, i32_w]
         rfl
        refine pure_ (i := 7) (N := some 55) (v := ?_) (a' := ?_) #[true, false, true, false, true, false, false, true, false, false, false, false, false, false, false, false] rfl rfl (any_of HT_.out (by kernel_rfl)) (fun _ _ _ h => h) (Or.inl ⟨by rfl, ?_⟩) ?_ ?_
        rotate_left
        ·
         intro w'
         go_simp
         with_reducible rfl
        rotate_left
        ·
         simp only [Act.put, List.setIfInBounds_toArray, List.set_cons_zero, List.set_cons_succ, i64_w, i32_w]
         rfl
        refine pure_ (i := 9) (N := some 57) (v := ?_) (a' := ?_) #[true, false, true, false, true, false, false, true, false, true, false, false, false, false, false, false] rfl rfl (any_of HT_.out (by kernel_rfl)) (fun _ _ _ h => h) (Or.inl ⟨by rfl, ?_⟩) ?_ ?_
        rotate_left
        ·
         intro w'
         go_simp
         with_reducible rfl
        rotate_left
        ·
         simp only [Act.put, List.setIfInBounds_toArray, List.set_cons_zero, List.set_cons_succ, i64_w, i32_w]
         rfl
        refine pure_ (i := 11) (N := some 59) (v := ?_) (a' := ?_) #[true, false, true, false, true, false, false, true, false, true, false, true, false, false, false, false] rfl rfl (any_of HT_.out (by kernel_rfl)) (fun _ _ _ h => h) (Or.inl ⟨by rfl, ?_⟩) ?_ ?_
        rotate_left
        ·
         intro w'
         go_simp
         with_reducible rfl
        rotate_left
        ·
         simp only [Act.put, List.setIfInBounds_toArray, List.set_cons_zero, List.set_cons_succ, i64_w, i32_w]
         rfl
        refine take_ (i := 1) (N := some 49) (v := ?_) (a' := ?_) #[true, true, true, false, true, false, false, true, false, true, false, true, false, false, false, false] rfl rfl (take_ofW HT_.out HW_.out (by kernel_rfl)) (fun _ _ _ h => h) (Or.inl ⟨by rfl, ?_⟩) hHeld ?_ ?_
        rotate_left
        ·
         rintro w' ⟨s0, s1, s2, s3, s4, s5, s6, s7, s8, s9⟩
         go_simp
         with_reducible rfl
        rotate_left
        ·
         simp only [Act.put, List.setIfInBounds_toArray, List.set_cons_zero, List.set_cons_succ, i64_w, i32_w]
         rfl
        refine take_ (i := 3) (N := some 51) (v := ?_) (a' := ?_) #[true, true, true, true, true, false, false, true, false, true, false, true, false, false, false, false] rfl rfl (take_ofW HT_.out HW_.out (by kernel_rfl)) (fun _ _ _ h => h) (Or.inl ⟨by rfl, ?_⟩) hHeld ?_ ?_
        rotate_left
        ·
         rintro w' ⟨s0, s1, s2, s3, s4, s5, s6, s7, s8, s9⟩
         go_simp
         with_reducible rfl
        rotate_left
        ·
         simp only [Act.put, List.setIfInBounds_toArray, List.set_cons_zero, List.set_cons_succ, i64_w, i32_w]
         rfl
        refine take_ (i := 5) (N := some 53) (v := ?_) (a' := ?_) #[true, true, true, true, true, true, false, true, false, true, false, true, false, false, false, false] rfl rfl (take_ofW HT_.out HW_.out (by kernel_rfl)) (fun _ _ _ h => h) (Or.inl ⟨by rfl, ?_⟩) hHeld ?_ ?_
        rotate_left
        ·
         rintro w' ⟨s0, s1, s2, s3, s4, s5, s6, s7, s8, s9⟩
         go_simp
         with_reducible rfl
        rotate_left
        ·
         simp only [Act.put, List.setIfInBounds_toArray, List.set_cons_zero, List.set_cons_succ, i64_w, i32_w]
         rfl
        refine take_ (i := 8) (N := some 56) (v := ?_) (a' := ?_) #[true, true, true, true, true, true, false, true, true, true, false, true, false, false, false, false] rfl rfl (take_ofW HT_.out HW_.out (by kernel_rfl)) (fun _ _ _ h => h) (Or.inl ⟨by rfl, ?_⟩) hHeld ?_ ?_
        rotate_left
        ·
         rintro w' ⟨s0, s1, s2, s3, s4, s5, s6, s7, s8, s9⟩
         go_simp
         with_reducible rfl
        rotate_left
        ·
         simp only [Act.put, List.setIfInBounds_toArray, List.set_cons_zero, List.set_cons_succ, i64_w, i32_w]
         rfl
        refine take_ (i := 10) (N := some 58) (v := ?_) (a' := ?_) #[true, true, true, true, true, true, false, true, true, true, true, true, false, false, false, false] rfl rfl (take_ofW HT_.out HW_.out (by kernel_rfl)) (fun _ _ _ h => h) (Or.inl ⟨by rfl, ?_⟩) hHeld ?_ ?_
        rotate_left
        ·
         rintro w' ⟨s0, s1, s2, s3, s4, s5, s6, s7, s8, s9⟩
         go_simp
         with_reducible rfl
        rotate_left
        ·
         simp only [Act.put, List.setIfInBounds_toArray, List.set_cons_zero, List.set_cons_succ, i64_w, i32_w]
         rfl
        refine take_ (i := 12) (N := some 60) (v := ?_) (a' := ?_) #[true, true, true, true, true, true, false, true, true, true, true, true, true, false, false, false] rfl rfl (take_ofW HT_.out HW_.out (by kernel_rfl)) (fun _ _ _ h => h) (Or.inl ⟨by rfl, ?_⟩) hHeld ?_ ?_
        rotate_left
        ·
         rintro w' ⟨s0, s1, s2, s3, s4, s5, s6, s7, s8, s9⟩
         go_simp
         with_reducible rfl
        rotate_left
        ·
         simp only [Act.put, List.setIfInBounds_toArray, List.set_cons_zero, List.set_cons_succ, i64_w, i32_w]
         rfl
        refine one_ (i := 6) (N := some 54) #[true, true, true, true, true, true, true, true, true, true, true, true, true, false, false, false] rfl rfl (one_of HT_.out (by kernel_rfl)) (by decide) (fun K hK => ?_)
        refine goes_ Tryd.func54 (by kernel_rfl) rfl #[.bool t308, .string t309, .int .i64 t310, .int .i64 0] (by rfl) rfl rfl qnv1_ ?_
        with_reducible refine (numeral_sizeOf.calls t308 t309 t310 0 t320 t321 t322 t323 _ A30.out).mono ?_
        rintro e w42 ⟨rfl, hb⟩
        refine ⟨_, rfl, ?_⟩
        have n0_ := Aside0.mk (blk_below (g := gb317) (o := .cells #[.int .u8 t307, .bool t308, .string t309, .int .i64 t310, .int .i64 t311] 29 (0, 0)) qnv28_ hb)
        have n1_ := Aside0.mk (blk_below (g := gb318) (o := .cells #[.int .u8 t312, .bool t313, .string t314, .int .i64 t315, .int .i64 t316] 29 (0, 0)) qnv46_ hb)
        have n2_ := Aside0.mk (below_step qnv25_ hb)
        clear BK317
        clear BK318
        clear HB
        have BK317 := n0_
        have BK318 := n1_
        have HB := n2_
        clear n0_ n1_ n2_
        (try clear hb); (try clear hb2); (try clear hk); (try clear hi)
        refine hK.out _ _ ⟨(blk_cell BK317.out 0).trans rfl, (blk_cell BK317.out 1).trans rfl, (blk_cell BK317.out 2).trans rfl, (blk_cell BK317.out 3).trans rfl, (blk_cell BK317.out 4).trans rfl, (blk_cell BK318.out 0).trans rfl, (blk_cell BK318.out 1).trans rfl, (blk_cell BK318.out 2).trans rfl, (blk_cell BK318.out 3).trans rfl, (blk_cell BK318.out 4).trans rfl⟩ (fun hHeld => ?_)
        clear hK K
        refine norm_ (a' := ?_) ?_ ?_
        rotate_left
        ·
         show Act.put _ (some 54) _ = _
         simp only [Act.put, List.setIfInBounds_toArray, List.set_cons_zero, List.set_cons_succ, i64_w, i32_w]
         rfl
        refine one_ (i := 13) (N := some 61) #[true, true, true, true, true, true, true, true, true, true, true, true, true, true, false, false] rfl rfl (one_of HT_.out (by kernel_rfl)) (by decide) (fun K hK => ?_)
        refine goes_ Tryd.func54 (by kernel_rfl) rfl #[.bool t313, .string t314, .int .i64 t315, .int .i64 0] (by rfl) rfl rfl qnv1_ ?_
        with_reducible refine (numeral_sizeOf.calls t313 t314 t315 0 t324 t325 t326 t327 _ A31.out).mono ?_
        rintro e w43 ⟨rfl, hb⟩
        refine ⟨_, rfl, ?_⟩
        have n0_ := Aside0.mk (blk_below (g := gb317) (o := .cells #[.int .u8 t307, .bool t308, .string t309, .int .i64 t310, .int .i64 t311] 29 (0, 0)) qnv28_ hb)
        have n1_ := Aside0.mk (blk_below (g := gb318) (o := .cells #[.int .u8 t312, .bool t313, .string t314, .int .i64 t315, .int .i64 t316] 29 (0, 0)) qnv46_ hb)
        have n2_ := Aside0.mk (below_step qnv25_ hb)
        clear BK317
        clear BK318
        clear HB
        have BK317 := n0_
        have BK318 := n1_
        have HB := n2_
        clear n0_ n1_ n2_
        (try clear hb); (try clear hb2); (try clear hk); (try clear hi)
        refine hK.out _ _ ⟨(blk_cell BK317.out 0).trans rfl, (blk_cell BK317.out 1).trans rfl, (blk_cell BK317.out 2).trans rfl, (blk_cell BK317.out 3).trans rfl, (blk_cell BK317.out 4).trans rfl, (blk_cell BK318.out 0).trans rfl, (blk_cell BK318.out 1).trans rfl, (blk_cell BK318.out 2).trans rfl, (blk_cell BK318.out 3).trans rfl, (blk_cell BK318.out 4).trans rfl⟩ (fun hHeld => ?_)
        clear hK K
        refine norm_ (a' := ?_) ?_ ?_
        rotate_left
        ·
         show Act.put _ (some 61) _ = _
         simp only [Act.put, List.setIfInBounds_toArray, List.set_cons_zero, List.set_cons_succ, i64_w, i32_w]
         rfl
        refine one_ (i := 14) (N := some 62) #[true, true, true, true, true, true, true, true, true, true, true, true, true, true, true, false] rfl rfl (one_of HT_.out (by kernel_rfl)) (by decide) (fun K hK => ?_)
        refine goes_ Tryd.func49 (by kernel_rfl) rfl #[.agg #[.int .i64 t320, .int .i64 t321, .int .i64 t322, .string t323], .agg #[.int .i64 t324, .int .i64 t325, .int .i64 t326, .string t327]] (by rfl) rfl rfl qnv1_ ?_
        with_reducible refine (numeral_order.calls kj3 t320 t321 t322 t323 t324 t325 t326 t327 t328 _ A32.out).mono ?_
        rintro e w44 ⟨rfl, hb⟩
        refine ⟨_, rfl, ?_⟩
        have n0_ := Aside0.mk (blk_below (g := gb317) (o := .cells #[.int .u8 t307, .bool t308, .string t309, .int .i64 t310, .int .i64 t311] 29 (0, 0)) qnv28_ hb)
        have n1_ := Aside0.mk (blk_below (g := gb318) (o := .cells #[.int .u8 t312, .bool t313, .string t314, .int .i64 t315, .int .i64 t316] 29 (0, 0)) qnv46_ hb)
        have n2_ := Aside0.mk (below_step qnv25_ hb)
        clear BK317
        clear BK318
        clear HB
        have BK317 := n0_
        have BK318 := n1_
        have HB := n2_
        clear n0_ n1_ n2_
        (try clear hb); (try clear hb2); (try clear hk); (try clear hi)
        refine hK.out _ _ ⟨(blk_cell BK317.out 0).trans rfl, (blk_cell BK317.out 1).trans rfl, (blk_cell BK317.out 2).trans rfl, (blk_cell BK317.out 3).trans rfl, (blk_cell BK317.out 4).trans rfl, (blk_cell BK318.out 0).trans rfl, (blk_cell BK318.out 1).trans rfl, (blk_cell BK318.out 2).trans rfl, (blk_cell BK318.out 3).trans rfl, (blk_cell BK318.out 4).trans rfl⟩ (fun hHeld => ?_)
        clear hK K
        refine norm_ (a' := ?_) ?_ ?_
        rotate_left
        ·
         show Act.put _ (some 62) _ = _
         simp only [Act.put, List.setIfInBounds_toArray, List.set_cons_zero, List.set_cons_succ, i64_w, i32_w]
         rfl
        refine pure_ (i := 15) (N := some 6) (v := ?_) (a' := ?_) #[true, true, true, true, true, true, true, true, true, true, true, true, true, true, true, true] rfl rfl (any_of HT_.out (by kernel_rfl)) (fun _ _ _ h => h) (Or.inl ⟨by rfl, ?_⟩) ?_ ?_
        rotate_left
        ·
         intro w'
         go_simp
         with_reducible rfl
        rotate_left
        ·
         simp only [Act.put, List.setIfInBounds_toArray, List.set_cons_zero, List.set_cons_succ, i64_w, i32_w]
         rfl
        refine done_ (done_of HT_.out (by kernel_rfl)) ?_
        try go_wp2
        go_ret
        exact ⟨qnv8_, qnv25_⟩
       ·
        rw [if_neg c29] at H
        have c29b0 : (t307 == t312) = false := beq_eq_false_iff_ne.mpr c29
        have c29b1 : (t307 != t312) = true := bne_iff_ne.mpr c29
        replace H := Option.bind_eq_some_iff.mp H
        obtain ⟨t319, A490, H⟩ := H
        replace H : (some t319) = some r := H
        have A49 := Aside0.mk A490
        clear A490
        obtain rfl := Option.some.inj H
        have tk57 : True := trivial; have tk58 : True := trivial; have tk59 : True := trivial; have tk60 : True := trivial; have tk61 : True := trivial
        go_wp2_with (first | (have ztk57 := tk57; clear tk57 ztk57; (with_reducible refine gate_callee (f := 17) rfl ?_); refine goesL_ (some 35) rfl rfl Tryd.func17 (by kernel_rfl) rfl #[.string a1] rfl qnv1_ ?_; (with_reducible refine (numeral_General.calls kj3 a1 t307 t308 t309 t310 t311 _ A27.out).mono ?_); rintro e w50 ⟨rfl, hb⟩; refine ⟨_, rfl, ?_⟩; have n0_ := Aside0.mk (below_step qnv0_ hb); clear HB; have HB := n0_; clear n0_; (try clear hb); (try clear hb2); (try clear hk); (try clear hi)) | (have ztk58 := tk58; clear tk58 ztk58; (with_reducible refine gate_callee (f := 17) rfl ?_); refine goesL_ (some 37) rfl rfl Tryd.func17 (by kernel_rfl) rfl #[.string a2] rfl qnv1_ ?_; (with_reducible refine (numeral_General.calls kj3 a2 t312 t313 t314 t315 t316 _ A28.out).mono ?_); rintro e w51 ⟨rfl, hb⟩; refine ⟨_, rfl, ?_⟩; have n0_ := Aside0.mk (below_step qnv0_ hb); clear HB; have HB := n0_; clear n0_; (try clear hb); (try clear hb2); (try clear hk); (try clear hi)) | (have ztk59 := tk59; clear tk59 ztk59; (with_reducible refine gate_dst (N := 7) rfl ?_); refine box_event ?hg (N := 7) ?hd (cs := #[.int .u8 0, .bool false, .string (⟨#[]⟩ : ByteArray), .int .i64 0, .int .i64 0]) (t := 29) ?hr ?_; (case hd => rfl); (case hg => rfl); (case hr => first | (go_simp; done) | (go_simp; rfl)); intro gb317 hg w52 hbox hb; have n0_ := Aside0.mk (below_step qnv0_ hb); have n1_ := Aside0.mk (hbox); have n2_ := Aside0.mk ((by rw [hg]; exact (below_size qnv0_) : w.heap.size ≤ gb317)); have n3_ := Aside0.mk ((by rw [hg]; exact (below_size qnv0_) : w.heap.size ≤ gb317)); clear HB; have HB := n0_; have BK317 := n1_; have GW317 := n2_; have GE317 := n3_; clear n0_ n1_ n2_ n3_; clear hb hbox hg) | (have ztk60 := tk60; clear tk60 ztk60; (with_reducible refine gate_dst (N := 8) rfl ?_); refine box_event ?hg (N := 8) ?hd (cs := #[.int .u8 0, .bool false, .string (⟨#[]⟩ : ByteArray), .int .i64 0, .int .i64 0]) (t := 29) ?hr ?_; (case hd => rfl); (case hg => rfl); (case hr => first | (go_simp; done) | (go_simp; rfl)); intro gb318 hg w53 hbox hb; have n0_ := Aside0.mk (blk_below (g := gb317) (o := .cells #[.int .u8 0, .bool false, .string (⟨#[]⟩ : ByteArray), .int .i64 0, .int .i64 0] 29 (0, 0)) qnv28_ hb); have n1_ := Aside0.mk (below_step qnv31_ hb); have n2_ := Aside0.mk (hbox); have n3_ := Aside0.mk ((by rw [hg]; exact (below_size qnv31_) : w.heap.size ≤ gb318)); have n4_ := Aside0.mk ((by rw [hg]; exact (below_size qnv31_) : w.heap.size ≤ gb318)); have n5_ := Aside0.mk ((by rw [hg]; exact Nat.ne_of_lt (blk_lt (g := gb317) (o := .cells #[.int .u8 0, .bool false, .string (⟨#[]⟩ : ByteArray), .int .i64 0, .int .i64 0] 29 (0, 0)) qnv28_) : gb317 ≠ gb318)); have n6_ := Aside0.mk ((by rw [hg]; exact Nat.ne_of_gt (blk_lt (g := gb317) (o := .cells #[.int .u8 0, .bool false, .string (⟨#[]⟩ : ByteArray), .int .i64 0, .int .i64 0] 29 (0, 0)) qnv28_) : gb318 ≠ gb317)); clear BK317; clear HB; have BK317 := n0_; have HB := n1_; have BK318 := n2_; have GW318 := n3_; have GE318 := n4_; have NB317_318 := n5_; have NB318_317 := n6_; clear n0_ n1_ n2_ n3_ n4_ n5_ n6_; clear hb hbox hg; have hnb54 := NB317_318.out; have hnc54 := NB318_317.out; have hcz55_0 : w53.cell? ⟨gb317, 0, none⟩ = some (.int .u8 0) := (blk_cell BK317.out 0).trans rfl; have hcz55_1 : w53.cell? ⟨gb317, 1, none⟩ = some (.bool false) := (blk_cell BK317.out 1).trans rfl; have hcz55_2 : w53.cell? ⟨gb317, 2, none⟩ = some (.string (⟨#[]⟩ : ByteArray)) := (blk_cell BK317.out 2).trans rfl; have hcz55_3 : w53.cell? ⟨gb317, 3, none⟩ = some (.int .i64 0) := (blk_cell BK317.out 3).trans rfl; have hcz55_4 : w53.cell? ⟨gb317, 4, none⟩ = some (.int .i64 0) := (blk_cell BK317.out 4).trans rfl; have hfz55_0 := blk_frozen BK317.out 0; have hfz55_1 := blk_frozen BK317.out 1; have hfz55_2 := blk_frozen BK317.out 2; have hfz55_3 := blk_frozen BK317.out 3; have hfz55_4 := blk_frozen BK317.out 4; have hcz56_0 : w53.cell? ⟨gb318, 0, none⟩ = some (.int .u8 0) := (blk_cell BK318.out 0).trans rfl; have hcz56_1 : w53.cell? ⟨gb318, 1, none⟩ = some (.bool false) := (blk_cell BK318.out 1).trans rfl; have hcz56_2 : w53.cell? ⟨gb318, 2, none⟩ = some (.string (⟨#[]⟩ : ByteArray)) := (blk_cell BK318.out 2).trans rfl; have hcz56_3 : w53.cell? ⟨gb318, 3, none⟩ = some (.int .i64 0) := (blk_cell BK318.out 3).trans rfl; have hcz56_4 : w53.cell? ⟨gb318, 4, none⟩ = some (.int .i64 0) := (blk_cell BK318.out 4).trans rfl; have hfz56_0 := blk_frozen BK318.out 0; have hfz56_1 := blk_frozen BK318.out 1; have hfz56_2 := blk_frozen BK318.out 2; have hfz56_3 := blk_frozen BK318.out 3; have hfz56_4 := blk_frozen BK318.out 4) | (have ztk61 := tk61; clear tk61 ztk61; (with_reducible refine gate_callee (f := 53) rfl ?_); refine goesL_ (some 47) rfl rfl Tryd.func53 (by kernel_rfl) rfl #[.int .u8 t307, .int .u8 t312] rfl qnv1_ ?_; (with_reducible refine (api_Class_53.calls t307 t312 t319 _ A49.out).mono ?_); rintro e w' ⟨rfl, ⟨nd, rfl⟩⟩; refine ⟨_, rfl, ?_⟩))
        go_ret
        exact ⟨qnv8_, qnv25_⟩
      ·
       rw [if_neg c26] at H
       have c26b0 : (a0 == 32) = false := beq_eq_false_iff_ne.mpr c26
       have c26b1 : (a0 != 32) = true := bne_iff_ne.mpr c26
       replace H := Option.bind_eq_some_iff.mp H
       obtain ⟨t329, A620, H⟩ := H
       replace H : (some t329) = some r := H
       have A62 := Aside0.mk A620
       clear A620
       obtain rfl := Option.some.inj H
       go_wp2_with (first | ((with_reducible refine gate_callee (f := 55) rfl ?_); refine goesL_ (some 65) rfl rfl Tryd.func55 (by kernel_rfl) rfl #[.string a1, .string a2] rfl qnv1_ ?_; (with_reducible refine (strings_Compare.calls a1 a2 t329 _ A62.out).mono ?_); rintro e w' ⟨rfl, ⟨nd, rfl⟩⟩; refine ⟨_, rfl, ?_⟩))
       go_ret
       exact ⟨qnv8_, qnv0_⟩


/-! ### milllaw3_NumeralVersions: function 12 -/
mutual
def milllaw3_NumeralVersions.j0 : Nat → ByteArray → Int → Int → Int → ByteArray → ByteArray → Bool → Option (Bool)
 | 0, _, _, _, _, _, _, _ => none
 | k + 1, x0, x1, x2, x3, x4, x5, x35 => if x35 = true then (some true) else (if x0.toList = ([] : List UInt8) then (milllaw3_NumeralVersions.j1 k x0 x1 x2 x3 x4 x5 false) else (if 0 ≤ (wrap64 ((x0.size : Int) - 1)) then (if (wrap64 ((x0.size : Int) - 1)) < (x0.size : Int) then (if (bt x0 (wrap64 ((x0.size : Int) - 1))) ≥ 48 then (milllaw3_NumeralVersions.j1 k x0 x1 x2 x3 x4 x5 (decide ((bt x0 (wrap64 ((x0.size : Int) - 1))) ≤ 57))) else (milllaw3_NumeralVersions.j1 k x0 x1 x2 x3 x4 x5 false)) else (none)) else (none)))
def milllaw3_NumeralVersions.j1 : Nat → ByteArray → Int → Int → Int → ByteArray → ByteArray → Bool → Option (Bool)
 | 0, _, _, _, _, _, _, _ => none
 | k + 1, x0, x1, x2, x3, x4, x5, x53 => if x53 = true then (some true) else (if 1 + x4.size ≤ 9223372036854775807 then (if 1 + x5.size ≤ 9223372036854775807 then ((milllaw3_written.f k x1 x3).bind fun t610 => (if x0.size + t610.size ≤ 9223372036854775807 then (if (x0.size + t610.size) + (1 + x4.size) ≤ 9223372036854775807 then ((milllaw3_written.f k x2 0).bind fun t611 => (if x0.size + t611.size ≤ 9223372036854775807 then (if (x0.size + t611.size) + (1 + x5.size) ≤ 9223372036854775807 then ((numeral_Compare.f k 256 ((x0 ++ t610) ++ ((⟨#[45]⟩ : ByteArray) ++ x4)) ((x0 ++ t611) ++ ((⟨#[45]⟩ : ByteArray) ++ x5))).bind fun t612 => (if x1 = x2 then ((numeral_Compare.f k 256 ((⟨#[45]⟩ : ByteArray) ++ x4) ((⟨#[45]⟩ : ByteArray) ++ x5)).bind fun t613 => (if t612 = t613 then ((milllaw3_written.f k x1 x3).bind fun t614 => (if x0.size + t614.size ≤ 9223372036854775807 then ((numeral_Compare.f k 256 x0 (x0 ++ t614)).bind fun t615 => (if t615 = (-1) then (if x0.size + 1 ≤ 9223372036854775807 then ((numeral_Compare.f k 256 (x0 ++ (⟨#[126]⟩ : ByteArray)) x0).bind fun t616 => (some (t616 == (-1)))) else (none)) else (some false))) else (none))) else (some false))) else (if ((t612 == (-1)) == (decide (x1 < x2))) = true then (some (t612 != 0)) else (some false)))) else (none)) else (none))) else (none)) else (none))) else (none)) else (none))
end
def milllaw3_NumeralVersions.f (k : Nat) (a0 : ByteArray) (a1 : Int) (a2 : Int) (a3 : Int) (a4 : ByteArray) (a5 : ByteArray) : Option (Bool) := if a1 < 0 then (milllaw3_NumeralVersions.j0 k a0 a1 a2 a3 a4 a5 true) else (if a2 < 0 then (milllaw3_NumeralVersions.j0 k a0 a1 a2 a3 a4 a5 true) else (if a1 ≥ 4611686018427387904 then (milllaw3_NumeralVersions.j0 k a0 a1 a2 a3 a4 a5 true) else (if a2 ≥ 4611686018427387904 then (milllaw3_NumeralVersions.j0 k a0 a1 a2 a3 a4 a5 true) else (if a3 < 0 then (milllaw3_NumeralVersions.j0 k a0 a1 a2 a3 a4 a5 true) else (milllaw3_NumeralVersions.j0 k a0 a1 a2 a3 a4 a5 (decide (a3 > 20)))))))
set_option maxHeartbeats 8000000 in
set_option maxRecDepth 100000 in
theorem milllaw3_NumeralVersions.calls (k : Nat) (a0 : ByteArray) (a1 : Int) (a2 : Int) (a3 : Int) (a4 : ByteArray) (a5 : ByteArray) (r : Bool) (w : World) (hGL : GOK w) (h : milllaw3_NumeralVersions.f k a0 a1 a2 a3 a4 a5 = some r) :
  Calls Tryd.prog 12 #[.string a0, .int .i64 a1, .int .i64 a2, .int .i64 a3, .string a4, .string a5] w fun e w' => e = .returned (.bool r) ∧ Below w.heap.size w w' := by
 have HGL := Aside0.mk hGL
 clear hGL
 have HB := Aside0.mk (Below.refl w.heap.size w)
 have H : (if a1 < 0 then (milllaw3_NumeralVersions.j0 k a0 a1 a2 a3 a4 a5 true) else (if a2 < 0 then (milllaw3_NumeralVersions.j0 k a0 a1 a2 a3 a4 a5 true) else (if a1 ≥ 4611686018427387904 then (milllaw3_NumeralVersions.j0 k a0 a1 a2 a3 a4 a5 true) else (if a2 ≥ 4611686018427387904 then (milllaw3_NumeralVersions.j0 k a0 a1 a2 a3 a4 a5 true) else (if a3 < 0 then (milllaw3_NumeralVersions.j0 k a0 a1 a2 a3 a4 a5 true) else (milllaw3_NumeralVersions.j0 k a0 a1 a2 a3 a4 a5 (decide (a3 > 20)))))))) = some r := h
 clear h
 have HC7 := Aside0.mk H
 clear H
 go_enter Tryd.func12, Tryd.ntmps12
 go_upto_region 1 with (fail)
 go_cut [35] (fun v35 wc => ∃ (kq : Nat) (x35_6 : Bool), v35 = .bool x35_6 ∧ Aside0 (milllaw3_NumeralVersions.j0 kq a0 a1 a2 a3 a4 a5 x35_6 = some r) ∧ Aside0 (kq ≤ k) ∧ Aside0 (Below w.heap.size w wc))
 case first =>
  have H := HC7.out
  clear HC7
  by_cases c8 : a1 < 0
  ·
   rw [if_pos c8] at H
   have c8b0 : decide (a1 < 0) = true := decide_eq_true c8
   clear c8
   (first | rw [c8b0] | (simp only [i64_w, i32_w]; rw [c8b0]) | skip)
   have H' := Aside0.mk H
   clear H
   go_wp2
   go_meet
   case rel => exact ⟨_, (true), qnv2_, H', ⟨by first | omega | exact Nat.le_refl _⟩, ⟨qnv0_⟩⟩
  ·
   rw [if_neg c8] at H
   have c8b0 : decide (a1 < 0) = false := decide_eq_false c8
   clear c8
   (first | rw [c8b0] | (simp only [i64_w, i32_w]; rw [c8b0]) | skip)
   by_cases c9 : a2 < 0
   ·
    rw [if_pos c9] at H
    have c9b0 : decide (a2 < 0) = true := decide_eq_true c9
    clear c9
    have H' := Aside0.mk H
    clear H
    go_wp2
    go_meet
    case rel => exact ⟨_, (true), qnv2_, H', ⟨by first | omega | exact Nat.le_refl _⟩, ⟨qnv0_⟩⟩
   ·
    rw [if_neg c9] at H
    have c9b0 : decide (a2 < 0) = false := decide_eq_false c9
    clear c9
    by_cases c10 : a1 ≥ 4611686018427387904
    ·
     rw [if_pos c10] at H
     have c10b0 : decide (4611686018427387904 ≤ a1) = true := decide_eq_true c10
     clear c10
     have H' := Aside0.mk H
     clear H
     go_wp2
     go_meet
     case rel => exact ⟨_, (true), qnv2_, H', ⟨by first | omega | exact Nat.le_refl _⟩, ⟨qnv0_⟩⟩
    ·
     rw [if_neg c10] at H
     have c10b0 : decide (4611686018427387904 ≤ a1) = false := decide_eq_false c10
     clear c10
     by_cases c11 : a2 ≥ 4611686018427387904
     ·
      rw [if_pos c11] at H
      have c11b0 : decide (4611686018427387904 ≤ a2) = true := decide_eq_true c11
      clear c11
      have H' := Aside0.mk H
      clear H
      go_wp2
      go_meet
      case rel => exact ⟨_, (true), qnv2_, H', ⟨by first | omega | exact Nat.le_refl _⟩, ⟨qnv0_⟩⟩
     ·
      rw [if_neg c11] at H
      have c11b0 : decide (4611686018427387904 ≤ a2) = false := decide_eq_false c11
      clear c11
      by_cases c12 : a3 < 0
      ·
       rw [if_pos c12] at H
       have c12b0 : decide (a3 < 0) = true := decide_eq_true c12
       clear c12
       have H' := Aside0.mk H
       clear H
       go_wp2
       go_meet
       case rel => exact ⟨_, (true), qnv2_, H', ⟨by first | omega | exact Nat.le_refl _⟩, ⟨qnv0_⟩⟩
      ·
       rw [if_neg c12] at H
       have c12b0 : decide (a3 < 0) = false := decide_eq_false c12
       clear c12
       have H' := Aside0.mk H
       clear H
       go_wp2
       go_meet
       case rel => exact ⟨_, (decide (a3 > 20)), qnv2_, H', ⟨by first | omega | exact Nat.le_refl _⟩, ⟨qnv0_⟩⟩
 case rest =>
  clear HC7
  (try clear c1); (try clear p2); (try clear c8); (try clear c8b0); (try clear c9); (try clear c9b0); (try clear c10); (try clear c10b0); (try clear c11); (try clear c11b0); (try clear c12); (try clear c12b0)
  obtain ⟨kq, x35_6, rfl, HA, HJ6, HB⟩ := hcut
  cases kq with
  | zero => exact absurd HA.out (by simp [milllaw3_NumeralVersions.j0])
  | succ kj6 =>
   have H := HA.out
   clear HA
   simp only [milllaw3_NumeralVersions.j0] at H
   by_cases c13 : x35_6 = true
   ·
    subst c13
    have H1 : (some true) = some r := by rw [if_pos rfl] at H; exact H
    clear H
    have H := H1
    clear H1
    obtain rfl := Option.some.inj H
    go_wp2
    go_ret
    exact ⟨qnv8_, qnv0_⟩
   ·
    replace c13 := Bool.eq_false_iff.mpr c13
    subst c13
    have H1 : (if a0.toList = ([] : List UInt8) then (milllaw3_NumeralVersions.j1 kj6 a0 a1 a2 a3 a4 a5 false) else (if 0 ≤ (wrap64 ((a0.size : Int) - 1)) then (if (wrap64 ((a0.size : Int) - 1)) < (a0.size : Int) then (if (bt a0 (wrap64 ((a0.size : Int) - 1))) ≥ 48 then (milllaw3_NumeralVersions.j1 kj6 a0 a1 a2 a3 a4 a5 (decide ((bt a0 (wrap64 ((a0.size : Int) - 1))) ≤ 57))) else (milllaw3_NumeralVersions.j1 kj6 a0 a1 a2 a3 a4 a5 false)) else (none)) else (none))) = some r := by rw [if_neg (show ¬ (false = true) by decide)] at H; exact H
    clear H
    have H := H1
    clear H1
    have HC14 := Aside0.mk H
    clear H
    go_upto_region 3 with (fail)
    go_cut [53] (fun v53 wc => ∃ (kq : Nat) (x53_13 : Bool), v53 = .bool x53_13 ∧ Aside0 (milllaw3_NumeralVersions.j1 kq a0 a1 a2 a3 a4 a5 x53_13 = some r) ∧ Aside0 (kq ≤ kj6) ∧ Aside0 (Below w.heap.size w wc))
    case first =>
     have H := HC14.out
     clear HC14
     by_cases c15 : a0.toList = ([] : List UInt8)
     ·
      rw [if_pos c15] at H
      have c15b0 : (a0.toList == ([] : List UInt8)) = true := beq_iff_eq.mpr c15
      have c15b1 : (a0.toList != ([] : List UInt8)) = false := bne_eq_false_iff_eq.mpr c15
      clear c15
      (first | rw [c15b0] | (simp only [i64_w, i32_w]; rw [c15b0]) | skip)
      have H' := Aside0.mk H
      clear H
      go_wp2
      go_meet
      case rel => exact ⟨_, (false), qnv2_, H', ⟨by have := HJ6.out; first | omega | exact Nat.le_refl _⟩, ⟨qnv0_⟩⟩
     ·
      rw [if_neg c15] at H
      have c15b0 : (a0.toList == ([] : List UInt8)) = false := beq_eq_false_iff_ne.mpr c15
      have c15b1 : (a0.toList != ([] : List UInt8)) = true := bne_iff_ne.mpr c15
      (first | rw [c15b0] | (simp only [i64_w, i32_w]; rw [c15b0]) | skip)
      obtain ⟨ji16, hji16⟩ : ∃ j_ : Int, (wrap64 ((a0.size : Int) - 1)) = j_ := ⟨_, rfl⟩
      replace H : (if 0 ≤ (ji16) then (if (ji16) < (a0.size : Int) then (if (bt a0 (ji16)) ≥ 48 then (milllaw3_NumeralVersions.j1 kj6 a0 a1 a2 a3 a4 a5 (decide ((bt a0 (ji16)) ≤ 57))) else (milllaw3_NumeralVersions.j1 kj6 a0 a1 a2 a3 a4 a5 false)) else (none)) else (none)) = some r := by first | (rw [hji16] at H; exact H) | (simp only [hji16] at H ⊢; exact H)
      have hji16w : (IntKind.i64.wrap ((a0.size : Int) - 1)) = ji16 := (i64_w _).trans hji16
      by_cases c17 : 0 ≤ (ji16)
      ·
       rw [if_pos c17] at H
       have c17b0 : decide (0 ≤ (ji16)) = true := decide_eq_true c17
       clear c17
       by_cases c18 : (ji16) < (a0.size : Int)
       ·
        rw [if_pos c18] at H
        have c18b0 : decide ((ji16) < (a0.size : Int)) = true := decide_eq_true c18
        clear c18
        by_cases c20 : (bt a0 (ji16)) ≥ 48
        ·
         rw [if_pos c20] at H
         have c20b0 : decide (48 ≤ (bt a0 (ji16))) = true := decide_eq_true c20
         clear c20
         have H' := Aside0.mk H
         clear H
         have p19 : 0 ≤ ((ji16) : Int) := of_decide_eq_true qnv5_
         have q19 : (ji16) < (a0.size : Int) := of_decide_eq_true qnv5_
         have hx19 := bt_at a0 (ji16)
         replace p19 := eq_true p19
         replace q19 := eq_true q19
         have p21 : 0 ≤ ((ji16) : Int) := of_decide_eq_true qnv5_
         have q21 : (ji16) < (a0.size : Int) := of_decide_eq_true qnv5_
         have hx21 := bt_at a0 (ji16)
         replace p21 := eq_true p21
         replace q21 := eq_true q21
         go_wp2
         go_meet
         case rel => exact ⟨_, (decide ((bt a0 (ji16)) ≤ 57)), (by first | rfl | (simp; done) | (simp only [← hji16] <;> (first | rfl | simp); done) | (simp [*]; done) | (simp; simp only [eq_iff_iff, iff_true] at *; omega) | (exfalso; simp_all; done)), H', ⟨by have := HJ6.out; first | omega | exact Nat.le_refl _⟩, ⟨qnv0_⟩⟩
        ·
         rw [if_neg c20] at H
         have c20b0 : decide (48 ≤ (bt a0 (ji16))) = false := decide_eq_false c20
         clear c20
         have H' := Aside0.mk H
         clear H
         have p19 : 0 ≤ ((ji16) : Int) := of_decide_eq_true qnv5_
         have q19 : (ji16) < (a0.size : Int) := of_decide_eq_true qnv5_
         have hx19 := bt_at a0 (ji16)
         replace p19 := eq_true p19
         replace q19 := eq_true q19
         go_wp2
         go_meet
         case rel => exact ⟨_, (false), qnv2_, H', ⟨by have := HJ6.out; first | omega | exact Nat.le_refl _⟩, ⟨qnv0_⟩⟩
       ·
        rw [if_neg c18] at H
        exact absurd H (by simp)
      ·
       rw [if_neg c17] at H
       exact absurd H (by simp)
    case rest =>
     clear HC14
     (try clear c1); (try clear p1); (try clear q1); (try clear hx1); (try clear c2); (try clear p2); (try clear q2); (try clear hx2); (try clear p6); (try clear c8); (try clear c8b0); (try clear c9); (try clear c9b0); (try clear c10); (try clear c10b0); (try clear c11); (try clear c11b0); (try clear c12); (try clear c12b0); (try clear c13); (try clear c15); (try clear c15b0); (try clear c15b1); (try clear c17)
     (try clear c17b0); (try clear c18); (try clear c18b0); (try clear p19); (try clear q19); (try clear hx19); (try clear c20); (try clear c20b0); (try clear p21); (try clear q21); (try clear hx21); (try clear p19); (try clear p2); (try clear p21); (try clear q19); (try clear q21)
     obtain ⟨kq, x53_13, rfl, HA, HJ13, HB⟩ := hcut
     cases kq with
     | zero => exact absurd HA.out (by simp [milllaw3_NumeralVersions.j1])
     | succ kj13 =>
      have H := HA.out
      clear HA
      simp only [milllaw3_NumeralVersions.j1] at H
      by_cases c22 : x53_13 = true
      ·
       subst c22
       have H1 : (some true) = some r := by rw [if_pos rfl] at H; exact H
       clear H
       have H := H1
       clear H1
       obtain rfl := Option.some.inj H
       go_wp2
       go_ret
       exact ⟨qnv8_, qnv0_⟩
      ·
       replace c22 := Bool.eq_false_iff.mpr c22
       subst c22
       have H1 : (if 1 + a4.size ≤ 9223372036854775807 then (if 1 + a5.size ≤ 9223372036854775807 then ((milllaw3_written.f kj13 a1 a3).bind fun t610 => (if a0.size + t610.size ≤ 9223372036854775807 then (if (a0.size + t610.size) + (1 + a4.size) ≤ 9223372036854775807 then ((milllaw3_written.f kj13 a2 0).bind fun t611 => (if a0.size + t611.size ≤ 9223372036854775807 then (if (a0.size + t611.size) + (1 + a5.size) ≤ 9223372036854775807 then ((numeral_Compare.f kj13 256 ((a0 ++ t610) ++ ((⟨#[45]⟩ : ByteArray) ++ a4)) ((a0 ++ t611) ++ ((⟨#[45]⟩ : ByteArray) ++ a5))).bind fun t612 => (if a1 = a2 then ((numeral_Compare.f kj13 256 ((⟨#[45]⟩ : ByteArray) ++ a4) ((⟨#[45]⟩ : ByteArray) ++ a5)).bind fun t613 => (if t612 = t613 then ((milllaw3_written.f kj13 a1 a3).bind fun t614 => (if a0.size + t614.size ≤ 9223372036854775807 then ((numeral_Compare.f kj13 256 a0 (a0 ++ t614)).bind fun t615 => (if t615 = (-1) then (if a0.size + 1 ≤ 9223372036854775807 then ((numeral_Compare.f kj13 256 (a0 ++ (⟨#[126]⟩ : ByteArray)) a0).bind fun t616 => (some (t616 == (-1)))) else (none)) else (some false))) else (none))) else (some false))) else (if ((t612 == (-1)) == (decide (a1 < a2))) = true then (some (t612 != 0)) else (some false)))) else (none)) else (none))) else (none)) else (none))) else (none)) else (none)) = some r := by rw [if_neg (show ¬ (false = true) by decide)] at H; exact H
       clear H
       have H := H1
       clear H1
       by_cases c23 : 1 + a4.size ≤ 9223372036854775807
       ·
        rw [if_pos c23] at H
        have c23b0 := eq_true c23
        have c23b1 : decide (1 + a4.size ≤ 9223372036854775807) = true := decide_eq_true c23
        try have c23b2 : (9223372036854775807 < 1 + a4.size) = False := eq_false (Nat.not_lt.2 c23)
        by_cases c24 : 1 + a5.size ≤ 9223372036854775807
        ·
         rw [if_pos c24] at H
         have c24b0 := eq_true c24
         have c24b1 : decide (1 + a5.size ≤ 9223372036854775807) = true := decide_eq_true c24
         try have c24b2 : (9223372036854775807 < 1 + a5.size) = False := eq_false (Nat.not_lt.2 c24)
         replace H := Option.bind_eq_some_iff.mp H
         obtain ⟨t610, A250, H⟩ := H
         replace H : (if a0.size + t610.size ≤ 9223372036854775807 then (if (a0.size + t610.size) + (1 + a4.size) ≤ 9223372036854775807 then ((milllaw3_written.f kj13 a2 0).bind fun t611 => (if a0.size + t611.size ≤ 9223372036854775807 then (if (a0.size + t611.size) + (1 + a5.size) ≤ 9223372036854775807 then ((numeral_Compare.f kj13 256 ((a0 ++ t610) ++ ((⟨#[45]⟩ : ByteArray) ++ a4)) ((a0 ++ t611) ++ ((⟨#[45]⟩ : ByteArray) ++ a5))).bind fun t612 => (if a1 = a2 then ((numeral_Compare.f kj13 256 ((⟨#[45]⟩ : ByteArray) ++ a4) ((⟨#[45]⟩ : ByteArray) ++ a5)).bind fun t613 => (if t612 = t613 then ((milllaw3_written.f kj13 a1 a3).bind fun t614 => (if a0.size + t614.size ≤ 9223372036854775807 then ((numeral_Compare.f kj13 256 a0 (a0 ++ t614)).bind fun t615 => (if t615 = (-1) then (if a0.size + 1 ≤ 9223372036854775807 then ((numeral_Compare.f kj13 256 (a0 ++ (⟨#[126]⟩ : ByteArray)) a0).bind fun t616 => (some (t616 == (-1)))) else (none)) else (some false))) else (none))) else (some false))) else (if ((t612 == (-1)) == (decide (a1 < a2))) = true then (some (t612 != 0)) else (some false)))) else (none)) else (none))) else (none)) else (none)) = some r := H
         have A25 := Aside0.mk A250
         clear A250
         by_cases c26 : a0.size + t610.size ≤ 9223372036854775807
         ·
          rw [if_pos c26] at H
          have c26b0 := eq_true c26
          have c26b1 : decide (a0.size + t610.size ≤ 9223372036854775807) = true := decide_eq_true c26
          try have c26b2 : (9223372036854775807 < a0.size + t610.size) = False := eq_false (Nat.not_lt.2 c26)
          by_cases c27 : (a0.size + t610.size) + (1 + a4.size) ≤ 9223372036854775807
          ·
           rw [if_pos c27] at H
           have c27b0 := eq_true c27
           have c27b1 : decide ((a0.size + t610.size) + (1 + a4.size) ≤ 9223372036854775807) = true := decide_eq_true c27
           try have c27b2 : (9223372036854775807 < (a0.size + t610.size) + (1 + a4.size)) = False := eq_false (Nat.not_lt.2 c27)
           replace H := Option.bind_eq_some_iff.mp H
           obtain ⟨t611, A280, H⟩ := H
           replace H : (if a0.size + t611.size ≤ 9223372036854775807 then (if (a0.size + t611.size) + (1 + a5.size) ≤ 9223372036854775807 then ((numeral_Compare.f kj13 256 ((a0 ++ t610) ++ ((⟨#[45]⟩ : ByteArray) ++ a4)) ((a0 ++ t611) ++ ((⟨#[45]⟩ : ByteArray) ++ a5))).bind fun t612 => (if a1 = a2 then ((numeral_Compare.f kj13 256 ((⟨#[45]⟩ : ByteArray) ++ a4) ((⟨#[45]⟩ : ByteArray) ++ a5)).bind fun t613 => (if t612 = t613 then ((milllaw3_written.f kj13 a1 a3).bind fun t614 => (if a0.size + t614.size ≤ 9223372036854775807 then ((numeral_Compare.f kj13 256 a0 (a0 ++ t614)).bind fun t615 => (if t615 = (-1) then (if a0.size + 1 ≤ 9223372036854775807 then ((numeral_Compare.f kj13 256 (a0 ++ (⟨#[126]⟩ : ByteArray)) a0).bind fun t616 => (some (t616 == (-1)))) else (none)) else (some false))) else (none))) else (some false))) else (if ((t612 == (-1)) == (decide (a1 < a2))) = true then (some (t612 != 0)) else (some false)))) else (none)) else (none)) = some r := H
           have A28 := Aside0.mk A280
           clear A280
           by_cases c29 : a0.size + t611.size ≤ 9223372036854775807
           ·
            rw [if_pos c29] at H
            have c29b0 := eq_true c29
            have c29b1 : decide (a0.size + t611.size ≤ 9223372036854775807) = true := decide_eq_true c29
            try have c29b2 : (9223372036854775807 < a0.size + t611.size) = False := eq_false (Nat.not_lt.2 c29)
            by_cases c30 : (a0.size + t611.size) + (1 + a5.size) ≤ 9223372036854775807
            ·
             rw [if_pos c30] at H
             have c30b0 := eq_true c30
             have c30b1 : decide ((a0.size + t611.size) + (1 + a5.size) ≤ 9223372036854775807) = true := decide_eq_true c30
             try have c30b2 : (9223372036854775807 < (a0.size + t611.size) + (1 + a5.size)) = False := eq_false (Nat.not_lt.2 c30)
             replace H := Option.bind_eq_some_iff.mp H
             obtain ⟨t612, A310, H⟩ := H
             replace H : (if a1 = a2 then ((numeral_Compare.f kj13 256 ((⟨#[45]⟩ : ByteArray) ++ a4) ((⟨#[45]⟩ : ByteArray) ++ a5)).bind fun t613 => (if t612 = t613 then ((milllaw3_written.f kj13 a1 a3).bind fun t614 => (if a0.size + t614.size ≤ 9223372036854775807 then ((numeral_Compare.f kj13 256 a0 (a0 ++ t614)).bind fun t615 => (if t615 = (-1) then (if a0.size + 1 ≤ 9223372036854775807 then ((numeral_Compare.f kj13 256 (a0 ++ (⟨#[126]⟩ : ByteArray)) a0).bind fun t616 => (some (t616 == (-1)))) else (none)) else (some false))) else (none))) else (some false))) else (if ((t612 == (-1)) == (decide (a1 < a2))) = true then (some (t612 != 0)) else (some false))) = some r := H
             have A31 := Aside0.mk A310
             clear A310
             by_cases c32 : a1 = a2
             ·
              rw [if_pos c32] at H
              have c32b0 : (a1 == a2) = true := beq_iff_eq.mpr c32
              have c32b1 : (a1 != a2) = false := bne_eq_false_iff_eq.mpr c32
              clear c32
              replace H := Option.bind_eq_some_iff.mp H
              obtain ⟨t613, A330, H⟩ := H
              replace H : (if t612 = t613 then ((milllaw3_written.f kj13 a1 a3).bind fun t614 => (if a0.size + t614.size ≤ 9223372036854775807 then ((numeral_Compare.f kj13 256 a0 (a0 ++ t614)).bind fun t615 => (if t615 = (-1) then (if a0.size + 1 ≤ 9223372036854775807 then ((numeral_Compare.f kj13 256 (a0 ++ (⟨#[126]⟩ : ByteArray)) a0).bind fun t616 => (some (t616 == (-1)))) else (none)) else (some false))) else (none))) else (some false)) = some r := H
              have A33 := Aside0.mk A330
              clear A330
              by_cases c34 : t612 = t613
              ·
               rw [if_pos c34] at H
               have c34b0 : (t612 == t613) = true := beq_iff_eq.mpr c34
               have c34b1 : (t612 != t613) = false := bne_eq_false_iff_eq.mpr c34
               clear c34
               replace H := Option.bind_eq_some_iff.mp H
               obtain ⟨t614, A350, H⟩ := H
               replace H : (if a0.size + t614.size ≤ 9223372036854775807 then ((numeral_Compare.f kj13 256 a0 (a0 ++ t614)).bind fun t615 => (if t615 = (-1) then (if a0.size + 1 ≤ 9223372036854775807 then ((numeral_Compare.f kj13 256 (a0 ++ (⟨#[126]⟩ : ByteArray)) a0).bind fun t616 => (some (t616 == (-1)))) else (none)) else (some false))) else (none)) = some r := H
               have A35 := Aside0.mk A350
               clear A350
               by_cases c36 : a0.size + t614.size ≤ 9223372036854775807
               ·
                rw [if_pos c36] at H
                have c36b0 := eq_true c36
                have c36b1 : decide (a0.size + t614.size ≤ 9223372036854775807) = true := decide_eq_true c36
                try have c36b2 : (9223372036854775807 < a0.size + t614.size) = False := eq_false (Nat.not_lt.2 c36)
                replace H := Option.bind_eq_some_iff.mp H
                obtain ⟨t615, A370, H⟩ := H
                replace H : (if t615 = (-1) then (if a0.size + 1 ≤ 9223372036854775807 then ((numeral_Compare.f kj13 256 (a0 ++ (⟨#[126]⟩ : ByteArray)) a0).bind fun t616 => (some (t616 == (-1)))) else (none)) else (some false)) = some r := H
                have A37 := Aside0.mk A370
                clear A370
                by_cases c38 : t615 = (-1)
                ·
                 rw [if_pos c38] at H
                 have c38b0 : (t615 == (-1)) = true := beq_iff_eq.mpr c38
                 have c38b1 : (t615 != (-1)) = false := bne_eq_false_iff_eq.mpr c38
                 clear c38
                 by_cases c39 : a0.size + 1 ≤ 9223372036854775807
                 ·
                  rw [if_pos c39] at H
                  have c39b0 := eq_true c39
                  have c39b1 : decide (a0.size + 1 ≤ 9223372036854775807) = true := decide_eq_true c39
                  try have c39b2 : (9223372036854775807 < a0.size + 1) = False := eq_false (Nat.not_lt.2 c39)
                  replace H := Option.bind_eq_some_iff.mp H
                  obtain ⟨t616, A400, H⟩ := H
                  replace H : (some (t616 == (-1))) = some r := H
                  have A40 := Aside0.mk A400
                  clear A400
                  obtain rfl := Option.some.inj H
                  have tk48 : True := trivial; have tk49 : True := trivial; have tk50 : True := trivial; have tk51 : True := trivial; have tk52 : True := trivial; have tk53 : True := trivial; have tk54 : True := trivial
                  go_wp2_with (first | (have ztk48 := tk48; clear tk48 ztk48; (with_reducible refine gate_callee (f := 15) rfl ?_); refine goesL_ (some 61) rfl rfl Tryd.func15 (by kernel_rfl) rfl #[.int .i64 a1, .int .i64 a3] rfl qnv1_ ?_; (with_reducible refine (milllaw3_written.calls kj13 a1 a3 t610 _ A25.out).mono ?_); rintro e w41 ⟨rfl, hb⟩; refine ⟨_, rfl, ?_⟩; have n0_ := Aside0.mk (below_step qnv0_ hb); clear HB; have HB := n0_; clear n0_; (try clear hb); (try clear hb2); (try clear hk); (try clear hi)) | (have ztk49 := tk49; clear tk49 ztk49; (with_reducible refine gate_callee (f := 15) rfl ?_); refine goesL_ (some 67) rfl rfl Tryd.func15 (by kernel_rfl) rfl #[.int .i64 a2, .int .i64 0] rfl qnv1_ ?_; (with_reducible refine (milllaw3_written.calls kj13 a2 0 t611 _ A28.out).mono ?_); rintro e w42 ⟨rfl, hb⟩; refine ⟨_, rfl, ?_⟩; have n0_ := Aside0.mk (below_step qnv0_ hb); clear HB; have HB := n0_; clear n0_; (try clear hb); (try clear hb2); (try clear hk); (try clear hi)) | (have ztk50 := tk50; clear tk50 ztk50; (with_reducible refine gate_callee (f := 27) rfl ?_); refine goesL_ (some 71) rfl rfl Tryd.func27 (by kernel_rfl) rfl #[.int .u16 256, .string ((a0 ++ t610) ++ ((⟨#[45]⟩ : ByteArray) ++ a4)), .string ((a0 ++ t611) ++ ((⟨#[45]⟩ : ByteArray) ++ a5))] rfl qnv1_ ?_; (with_reducible refine (numeral_Compare.calls kj13 256 ((a0 ++ t610) ++ ((⟨#[45]⟩ : ByteArray) ++ a4)) ((a0 ++ t611) ++ ((⟨#[45]⟩ : ByteArray) ++ a5)) t612 _ ?side1 A31.out).mono ?_); (case side1 => exact GOK.below HGL.out qnv0_); rintro e w43 ⟨rfl, hb⟩; refine ⟨_, rfl, ?_⟩; have n0_ := Aside0.mk (below_step qnv0_ hb); clear HB; have HB := n0_; clear n0_; (try clear hb); (try clear hb2); (try clear hk); (try clear hi)) | (have ztk51 := tk51; clear tk51 ztk51; (with_reducible refine gate_callee (f := 27) rfl ?_); refine goesL_ (some 88) rfl rfl Tryd.func27 (by kernel_rfl) rfl #[.int .u16 256, .string ((⟨#[45]⟩ : ByteArray) ++ a4), .string ((⟨#[45]⟩ : ByteArray) ++ a5)] rfl qnv1_ ?_; (with_reducible refine (numeral_Compare.calls kj13 256 ((⟨#[45]⟩ : ByteArray) ++ a4) ((⟨#[45]⟩ : ByteArray) ++ a5) t613 _ ?side1 A33.out).mono ?_); (case side1 => exact GOK.below HGL.out qnv0_); rintro e w44 ⟨rfl, hb⟩; refine ⟨_, rfl, ?_⟩; have n0_ := Aside0.mk (below_step qnv0_ hb); clear HB; have HB := n0_; clear n0_; (try clear hb); (try clear hb2); (try clear hk); (try clear hi)) | (have ztk52 := tk52; clear tk52 ztk52; go_at_call 15; (with_reducible refine (milllaw3_written.calls kj13 a1 a3 t614 _ A35.out).mono ?_); rintro e w45 ⟨rfl, hb⟩; have n0_ := Aside0.mk (below_step qnv0_ hb); clear HB; have HB := n0_; clear n0_; (try clear hb); (try clear hb2); (try clear hk); (try clear hi)) | (have ztk53 := tk53; clear tk53 ztk53; go_at_call 27; (with_reducible refine (numeral_Compare.calls kj13 256 a0 (a0 ++ t614) t615 _ ?side1 A37.out).mono ?_); (case side1 => exact GOK.below HGL.out qnv0_); rintro e w46 ⟨rfl, hb⟩; have n0_ := Aside0.mk (below_step qnv0_ hb); clear HB; have HB := n0_; clear n0_; (try clear hb); (try clear hb2); (try clear hk); (try clear hi)) | (have ztk54 := tk54; clear tk54 ztk54; go_at_call 27; (with_reducible refine (numeral_Compare.calls kj13 256 (a0 ++ (⟨#[126]⟩ : ByteArray)) a0 t616 _ ?side1 A40.out).mono ?_); (case side1 => exact GOK.below HGL.out qnv0_); rintro e w47 ⟨rfl, hb⟩; have n0_ := Aside0.mk (below_step qnv0_ hb); clear HB; have HB := n0_; clear n0_; (try clear hb); (try clear hb2); (try clear hk); (try clear hi)))
                  go_ret
                  exact ⟨qnv8_, qnv0_⟩
                 ·
                  rw [if_neg c39] at H
                  exact absurd H (by simp)
                ·
                 rw [if_neg c38] at H
                 have c38b0 : (t615 == (-1)) = false := beq_eq_false_iff_ne.mpr c38
                 have c38b1 : (t615 != (-1)) = true := bne_iff_ne.mpr c38
                 obtain rfl := Option.some.inj H
                 have tk61 : True := trivial; have tk62 : True := trivial; have tk63 : True := trivial; have tk64 : True := trivial; have tk65 : True := trivial; have tk66 : True := trivial
                 go_wp2_with (first | (have ztk61 := tk61; clear tk61 ztk61; (with_reducible refine gate_callee (f := 15) rfl ?_); refine goesL_ (some 61) rfl rfl Tryd.func15 (by kernel_rfl) rfl #[.int .i64 a1, .int .i64 a3] rfl qnv1_ ?_; (with_reducible refine (milllaw3_written.calls kj13 a1 a3 t610 _ A25.out).mono ?_); rintro e w55 ⟨rfl, hb⟩; refine ⟨_, rfl, ?_⟩; have n0_ := Aside0.mk (below_step qnv0_ hb); clear HB; have HB := n0_; clear n0_; (try clear hb); (try clear hb2); (try clear hk); (try clear hi)) | (have ztk62 := tk62; clear tk62 ztk62; (with_reducible refine gate_callee (f := 15) rfl ?_); refine goesL_ (some 67) rfl rfl Tryd.func15 (by kernel_rfl) rfl #[.int .i64 a2, .int .i64 0] rfl qnv1_ ?_; (with_reducible refine (milllaw3_written.calls kj13 a2 0 t611 _ A28.out).mono ?_); rintro e w56 ⟨rfl, hb⟩; refine ⟨_, rfl, ?_⟩; have n0_ := Aside0.mk (below_step qnv0_ hb); clear HB; have HB := n0_; clear n0_; (try clear hb); (try clear hb2); (try clear hk); (try clear hi)) | (have ztk63 := tk63; clear tk63 ztk63; (with_reducible refine gate_callee (f := 27) rfl ?_); refine goesL_ (some 71) rfl rfl Tryd.func27 (by kernel_rfl) rfl #[.int .u16 256, .string ((a0 ++ t610) ++ ((⟨#[45]⟩ : ByteArray) ++ a4)), .string ((a0 ++ t611) ++ ((⟨#[45]⟩ : ByteArray) ++ a5))] rfl qnv1_ ?_; (with_reducible refine (numeral_Compare.calls kj13 256 ((a0 ++ t610) ++ ((⟨#[45]⟩ : ByteArray) ++ a4)) ((a0 ++ t611) ++ ((⟨#[45]⟩ : ByteArray) ++ a5)) t612 _ ?side1 A31.out).mono ?_); (case side1 => exact GOK.below HGL.out qnv0_); rintro e w57 ⟨rfl, hb⟩; refine ⟨_, rfl, ?_⟩; have n0_ := Aside0.mk (below_step qnv0_ hb); clear HB; have HB := n0_; clear n0_; (try clear hb); (try clear hb2); (try clear hk); (try clear hi)) | (have ztk64 := tk64; clear tk64 ztk64; (with_reducible refine gate_callee (f := 27) rfl ?_); refine goesL_ (some 88) rfl rfl Tryd.func27 (by kernel_rfl) rfl #[.int .u16 256, .string ((⟨#[45]⟩ : ByteArray) ++ a4), .string ((⟨#[45]⟩ : ByteArray) ++ a5)] rfl qnv1_ ?_; (with_reducible refine (numeral_Compare.calls kj13 256 ((⟨#[45]⟩ : ByteArray) ++ a4) ((⟨#[45]⟩ : ByteArray) ++ a5) t613 _ ?side1 A33.out).mono ?_); (case side1 => exact GOK.below HGL.out qnv0_); rintro e w58 ⟨rfl, hb⟩; refine ⟨_, rfl, ?_⟩; have n0_ := Aside0.mk (below_step qnv0_ hb); clear HB; have HB := n0_; clear n0_; (try clear hb); (try clear hb2); (try clear hk); (try clear hi)) | (have ztk65 := tk65; clear tk65 ztk65; go_at_call 15; (with_reducible refine (milllaw3_written.calls kj13 a1 a3 t614 _ A35.out).mono ?_); rintro e w59 ⟨rfl, hb⟩; have n0_ := Aside0.mk (below_step qnv0_ hb); clear HB; have HB := n0_; clear n0_; (try clear hb); (try clear hb2); (try clear hk); (try clear hi)) | (have ztk66 := tk66; clear tk66 ztk66; go_at_call 27; (with_reducible refine (numeral_Compare.calls kj13 256 a0 (a0 ++ t614) t615 _ ?side1 A37.out).mono ?_); (case side1 => exact GOK.below HGL.out qnv0_); rintro e w60 ⟨rfl, hb⟩; have n0_ := Aside0.mk (below_step qnv0_ hb); clear HB; have HB := n0_; clear n0_; (try clear hb); (try clear hb2); (try clear hk); (try clear hi)))
                 go_ret
                 exact ⟨qnv8_, qnv0_⟩
               ·
                rw [if_neg c36] at H
                exact absurd H (by simp)
              ·
               rw [if_neg c34] at H
               have c34b0 : (t612 == t613) = false := beq_eq_false_iff_ne.mpr c34
               have c34b1 : (t612 != t613) = true := bne_iff_ne.mpr c34
               obtain rfl := Option.some.inj H
               have tk71 : True := trivial; have tk72 : True := trivial; have tk73 : True := trivial; have tk74 : True := trivial
               go_wp2_with (first | (have ztk71 := tk71; clear tk71 ztk71; (with_reducible refine gate_callee (f := 15) rfl ?_); refine goesL_ (some 61) rfl rfl Tryd.func15 (by kernel_rfl) rfl #[.int .i64 a1, .int .i64 a3] rfl qnv1_ ?_; (with_reducible refine (milllaw3_written.calls kj13 a1 a3 t610 _ A25.out).mono ?_); rintro e w67 ⟨rfl, hb⟩; refine ⟨_, rfl, ?_⟩; have n0_ := Aside0.mk (below_step qnv0_ hb); clear HB; have HB := n0_; clear n0_; (try clear hb); (try clear hb2); (try clear hk); (try clear hi)) | (have ztk72 := tk72; clear tk72 ztk72; (with_reducible refine gate_callee (f := 15) rfl ?_); refine goesL_ (some 67) rfl rfl Tryd.func15 (by kernel_rfl) rfl #[.int .i64 a2, .int .i64 0] rfl qnv1_ ?_; (with_reducible refine (milllaw3_written.calls kj13 a2 0 t611 _ A28.out).mono ?_); rintro e w68 ⟨rfl, hb⟩; refine ⟨_, rfl, ?_⟩; have n0_ := Aside0.mk (below_step qnv0_ hb); clear HB; have HB := n0_; clear n0_; (try clear hb); (try clear hb2); (try clear hk); (try clear hi)) | (have ztk73 := tk73; clear tk73 ztk73; (with_reducible refine gate_callee (f := 27) rfl ?_); refine goesL_ (some 71) rfl rfl Tryd.func27 (by kernel_rfl) rfl #[.int .u16 256, .string ((a0 ++ t610) ++ ((⟨#[45]⟩ : ByteArray) ++ a4)), .string ((a0 ++ t611) ++ ((⟨#[45]⟩ : ByteArray) ++ a5))] rfl qnv1_ ?_; (with_reducible refine (numeral_Compare.calls kj13 256 ((a0 ++ t610) ++ ((⟨#[45]⟩ : ByteArray) ++ a4)) ((a0 ++ t611) ++ ((⟨#[45]⟩ : ByteArray) ++ a5)) t612 _ ?side1 A31.out).mono ?_); (case side1 => exact GOK.below HGL.out qnv0_); rintro e w69 ⟨rfl, hb⟩; refine ⟨_, rfl, ?_⟩; have n0_ := Aside0.mk (below_step qnv0_ hb); clear HB; have HB := n0_; clear n0_; (try clear hb); (try clear hb2); (try clear hk); (try clear hi)) | (have ztk74 := tk74; clear tk74 ztk74; (with_reducible refine gate_callee (f := 27) rfl ?_); refine goesL_ (some 88) rfl rfl Tryd.func27 (by kernel_rfl) rfl #[.int .u16 256, .string ((⟨#[45]⟩ : ByteArray) ++ a4), .string ((⟨#[45]⟩ : ByteArray) ++ a5)] rfl qnv1_ ?_; (with_reducible refine (numeral_Compare.calls kj13 256 ((⟨#[45]⟩ : ByteArray) ++ a4) ((⟨#[45]⟩ : ByteArray) ++ a5) t613 _ ?side1 A33.out).mono ?_); (case side1 => exact GOK.below HGL.out qnv0_); rintro e w70 ⟨rfl, hb⟩; refine ⟨_, rfl, ?_⟩; have n0_ := Aside0.mk (below_step qnv0_ hb); clear HB; have HB := n0_; clear n0_; (try clear hb); (try clear hb2); (try clear hk); (try clear hi)))
               go_ret
               exact ⟨qnv8_, qnv0_⟩
             ·
              rw [if_neg c32] at H
              have c32b0 : (a1 == a2) = false := beq_eq_false_iff_ne.mpr c32
              have c32b1 : (a1 != a2) = true := bne_iff_ne.mpr c32
              by_cases c75 : ((t612 == (-1)) == (decide (a1 < a2))) = true
              ·
               rw [if_pos c75] at H
               have c75b0 : ((t612 == (-1)) == (decide (a1 < a2))) = true := c75
               (try (have c75b1 : decide ((t612 == (-1)) = (decide (a1 < a2))) = true := by simpa using c75))
               (try (have c75b2 : ((t612 == (-1)) == (decide (a1 < a2))) = true := by simpa using c75))
               clear c75
               obtain rfl := Option.some.inj H
               have tk79 : True := trivial; have tk80 : True := trivial; have tk81 : True := trivial
               go_wp2_with (first | (have ztk79 := tk79; clear tk79 ztk79; (with_reducible refine gate_callee (f := 15) rfl ?_); refine goesL_ (some 61) rfl rfl Tryd.func15 (by kernel_rfl) rfl #[.int .i64 a1, .int .i64 a3] rfl qnv1_ ?_; (with_reducible refine (milllaw3_written.calls kj13 a1 a3 t610 _ A25.out).mono ?_); rintro e w76 ⟨rfl, hb⟩; refine ⟨_, rfl, ?_⟩; have n0_ := Aside0.mk (below_step qnv0_ hb); clear HB; have HB := n0_; clear n0_; (try clear hb); (try clear hb2); (try clear hk); (try clear hi)) | (have ztk80 := tk80; clear tk80 ztk80; (with_reducible refine gate_callee (f := 15) rfl ?_); refine goesL_ (some 67) rfl rfl Tryd.func15 (by kernel_rfl) rfl #[.int .i64 a2, .int .i64 0] rfl qnv1_ ?_; (with_reducible refine (milllaw3_written.calls kj13 a2 0 t611 _ A28.out).mono ?_); rintro e w77 ⟨rfl, hb⟩; refine ⟨_, rfl, ?_⟩; have n0_ := Aside0.mk (below_step qnv0_ hb); clear HB; have HB := n0_; clear n0_; (try clear hb); (try clear hb2); (try clear hk); (try clear hi)) | (have ztk81 := tk81; clear tk81 ztk81; (with_reducible refine gate_callee (f := 27) rfl ?_); refine goesL_ (some 71) rfl rfl Tryd.func27 (by kernel_rfl) rfl #[.int .u16 256, .string ((a0 ++ t610) ++ ((⟨#[45]⟩ : ByteArray) ++ a4)), .string ((a0 ++ t611) ++ ((⟨#[45]⟩ : ByteArray) ++ a5))] rfl qnv1_ ?_; (with_reducible refine (numeral_Compare.calls kj13 256 ((a0 ++ t610) ++ ((⟨#[45]⟩ : ByteArray) ++ a4)) ((a0 ++ t611) ++ ((⟨#[45]⟩ : ByteArray) ++ a5)) t612 _ ?side1 A31.out).mono ?_); (case side1 => exact GOK.below HGL.out qnv0_); rintro e w78 ⟨rfl, hb⟩; refine ⟨_, rfl, ?_⟩; have n0_ := Aside0.mk (below_step qnv0_ hb); clear HB; have HB := n0_; clear n0_; (try clear hb); (try clear hb2); (try clear hk); (try clear hi)))
               go_ret
               exact ⟨qnv8_, qnv0_⟩
              ·
               rw [if_neg c75] at H
               have c75b0 : ((t612 == (-1)) == (decide (a1 < a2))) = false := by simpa using c75
               (try (have c75b1 : decide ((t612 == (-1)) = (decide (a1 < a2))) = false := by simpa using c75))
               (try (have c75b2 : ((t612 == (-1)) == (decide (a1 < a2))) = false := by simpa using c75))
               (try (have c75b3 : ¬ ((t612 == (-1)) = (decide (a1 < a2))) := by simpa using c75))
               clear c75
               obtain rfl := Option.some.inj H
               have tk85 : True := trivial; have tk86 : True := trivial; have tk87 : True := trivial
               go_wp2_with (first | (have ztk85 := tk85; clear tk85 ztk85; (with_reducible refine gate_callee (f := 15) rfl ?_); refine goesL_ (some 61) rfl rfl Tryd.func15 (by kernel_rfl) rfl #[.int .i64 a1, .int .i64 a3] rfl qnv1_ ?_; (with_reducible refine (milllaw3_written.calls kj13 a1 a3 t610 _ A25.out).mono ?_); rintro e w82 ⟨rfl, hb⟩; refine ⟨_, rfl, ?_⟩; have n0_ := Aside0.mk (below_step qnv0_ hb); clear HB; have HB := n0_; clear n0_; (try clear hb); (try clear hb2); (try clear hk); (try clear hi)) | (have ztk86 := tk86; clear tk86 ztk86; (with_reducible refine gate_callee (f := 15) rfl ?_); refine goesL_ (some 67) rfl rfl Tryd.func15 (by kernel_rfl) rfl #[.int .i64 a2, .int .i64 0] rfl qnv1_ ?_; (with_reducible refine (milllaw3_written.calls kj13 a2 0 t611 _ A28.out).mono ?_); rintro e w83 ⟨rfl, hb⟩; refine ⟨_, rfl, ?_⟩; have n0_ := Aside0.mk (below_step qnv0_ hb); clear HB; have HB := n0_; clear n0_; (try clear hb); (try clear hb2); (try clear hk); (try clear hi)) | (have ztk87 := tk87; clear tk87 ztk87; (with_reducible refine gate_callee (f := 27) rfl ?_); refine goesL_ (some 71) rfl rfl Tryd.func27 (by kernel_rfl) rfl #[.int .u16 256, .string ((a0 ++ t610) ++ ((⟨#[45]⟩ : ByteArray) ++ a4)), .string ((a0 ++ t611) ++ ((⟨#[45]⟩ : ByteArray) ++ a5))] rfl qnv1_ ?_; (with_reducible refine (numeral_Compare.calls kj13 256 ((a0 ++ t610) ++ ((⟨#[45]⟩ : ByteArray) ++ a4)) ((a0 ++ t611) ++ ((⟨#[45]⟩ : ByteArray) ++ a5)) t612 _ ?side1 A31.out).mono ?_); (case side1 => exact GOK.below HGL.out qnv0_); rintro e w84 ⟨rfl, hb⟩; refine ⟨_, rfl, ?_⟩; have n0_ := Aside0.mk (below_step qnv0_ hb); clear HB; have HB := n0_; clear n0_; (try clear hb); (try clear hb2); (try clear hk); (try clear hi)))
               go_ret
               exact ⟨qnv8_, qnv0_⟩
            ·
             rw [if_neg c30] at H
             exact absurd H (by simp)
           ·
            rw [if_neg c29] at H
            exact absurd H (by simp)
          ·
           rw [if_neg c27] at H
           exact absurd H (by simp)
         ·
          rw [if_neg c26] at H
          exact absurd H (by simp)
        ·
         rw [if_neg c24] at H
         exact absurd H (by simp)
       ·
        rw [if_neg c23] at H
        exact absurd H (by simp)

/-- THE ONE PURE STATEMENT of milllaw3_NumeralVersions: yours. -/
def milllaw3_NumeralVersions.Pure : Prop := ∀ (a0 : ByteArray) (a1 : Int) (a2 : Int) (a3 : Int) (a4 : ByteArray) (a5 : ByteArray), a0.size ≤ 140737488351232 → (Lit.int .i64 a1).wf = true → (Lit.int .i64 a2).wf = true → (Lit.int .i64 a3).wf = true → a4.size ≤ 140737488351232 → a5.size ≤ 140737488351232 → ∃ k, milllaw3_NumeralVersions.f k a0 a1 a2 a3 a4 a5 = some true
theorem milllaw3_NumeralVersions.walk (P : milllaw3_NumeralVersions.Pure) (a0 : ByteArray) (a1 : Int) (a2 : Int) (a3 : Int) (a4 : ByteArray) (a5 : ByteArray) (w : World) (hGL : GOK w) (w0 : a0.size ≤ 140737488351232) (w1 : (Lit.int .i64 a1).wf = true) (w2 : (Lit.int .i64 a2).wf = true) (w3 : (Lit.int .i64 a3).wf = true) (w4 : a4.size ≤ 140737488351232) (w5 : a5.size ≤ 140737488351232) :
  Calls Tryd.prog 12 #[.string a0, .int .i64 a1, .int .i64 a2, .int .i64 a3, .string a4, .string a5] w fun e w' => e = .returned (.bool true) ∧ Below w.heap.size w w' := by
 obtain ⟨k, h⟩ := P a0 a1 a2 a3 a4 a5 w0 w1 w2 w3 w4 w5
 refine (milllaw3_NumeralVersions.calls k a0 a1 a2 a3 a4 a5 true w hGL h).mono ?_
 rintro e w' ⟨rfl, hd⟩
 exact ⟨rfl, hd⟩

end Go.Proofs.YtcdajedmlfhmeaaDoor.XN

section
/- What the pure laws stand on: 'enough rounds', bytes as a list, places. (by this session) -/
set_option linter.unusedVariables false
set_option linter.unusedSimpArgs false
namespace Go.Proofs.YtcdajedmlfhmeaaDoor.XN
open Go.RowKit Go.Proofs.YtcdajedmlfhmeaaDoorW.PrintWords Go.Proofs.YtcdajedmlfhmeaaDoorW.PrintMore

/-- With enough rounds, f answers v. -/
def Ev {α : Type} (f : Nat → Option α) (v : α) : Prop := ∃ k0, ∀ k, k0 ≤ k → f k = some v
namespace Ev
variable {α β : Type}
theorem pure (v : α) : Ev (fun _ => some v) v := ⟨0, fun _ _ => rfl⟩
theorem done {v w : α} (h : v = w) : Ev (fun _ => some v) w := ⟨0, fun _ _ => by rw [h]⟩
theorem congr {f g : Nat → Option α} {v : α} (h : ∀ k, f k = g k) (hg : Ev g v) : Ev f v := by
  obtain ⟨k0, hk⟩ := hg
  exact ⟨k0, fun k h0 => by rw [h, hk k h0]⟩
theorem val {f : Nat → Option α} {v w : α} (h : Ev f v) (e : v = w) : Ev f w := e ▸ h
theorem bind {f : Nat → Option α} {g : Nat → α → Option β} {a : α} {v : β} (h : Ev f a) (h2 : Ev (fun k => g k a) v) : Ev (fun k => (f k).bind (g k)) v := by
  obtain ⟨k1, e1⟩ := h
  obtain ⟨k2, e2⟩ := h2
  refine ⟨max k1 k2, fun k hk => ?_⟩
  show (f k).bind (g k) = some v
  rw [e1 k (by omega)]
  exact e2 k (by omega)
theorem succ {f : Nat → Option α} {v : α} (h : Ev (fun k => f (k + 1)) v) : Ev f v := by
  obtain ⟨k0, e⟩ := h
  refine ⟨k0 + 1, fun k hk => ?_⟩
  obtain ⟨k', rfl⟩ : ∃ k', k = k' + 1 := ⟨k - 1, by omega⟩
  exact e k' (by omega)
theorem pos {c : Prop} [Decidable c] {f g : Nat → Option α} {v : α} (hc : c) (h : Ev f v) : Ev (fun k => if c then f k else g k) v := by
  simpa only [if_pos hc] using h
theorem neg {c : Prop} [Decidable c] {f g : Nat → Option α} {v : α} (hc : ¬ c) (h : Ev g v) : Ev (fun k => if c then f k else g k) v := by
  simpa only [if_neg hc] using h
theorem ite {c : Prop} [Decidable c] {f g : Nat → Option α} {v : α} (h1 : c → Ev f v) (h2 : ¬ c → Ev g v) : Ev (fun k => if c then f k else g k) v := by
  by_cases hc : c
  · exact pos hc (h1 hc)
  · exact neg hc (h2 hc)
theorem ex {f : Nat → Option α} {v : α} (h : Ev f v) : ∃ k, f k = some v := by
  obtain ⟨k0, e⟩ := h
  exact ⟨k0, e k0 (Nat.le_refl _)⟩
end Ev

/-! ### bytes as a list -/
def L (s : ByteArray) : List UInt8 := s.data.toList
def mkB (l : List UInt8) : ByteArray := ⟨l.toArray⟩
theorem L_mk (l : List UInt8) : L (mkB l) = l := rfl
theorem L_lit (a : Array UInt8) : L ⟨a⟩ = a.toList := rfl
theorem mk_L (s : ByteArray) : mkB (L s) = s := by cases s; rfl
theorem L_len (s : ByteArray) : (L s).length = s.size := Array.length_toList
theorem size_mk (l : List UInt8) : (mkB l).size = l.length := by simp [mkB, ByteArray.size]
theorem toList_L (s : ByteArray) : s.toList = L s := ByteArray.toList_eq s
theorem toList_mk (l : List UInt8) : (mkB l).toList = l := by rw [toList_L, L_mk]
theorem L_inj {s t : ByteArray} (h : L s = L t) : s = t := by rw [← mk_L s, h, mk_L]
theorem L_extract (s : ByteArray) (a b : Nat) : L (s.extract a b) = ((L s).drop a).take (b - a) := Lib.extract_data s a b
theorem extract_mk' (s : ByteArray) (a b : Nat) : s.extract a b = mkB (((L s).drop a).take (b - a)) := L_inj (by rw [L_extract, L_mk])
theorem extract_end (s : ByteArray) (a : Nat) : s.extract a s.size = mkB ((L s).drop a) := by
  rw [extract_mk', List.take_of_length_le]
  rw [List.length_drop, L_len]
  omega
theorem extract_front (s : ByteArray) (b : Nat) : s.extract 0 b = mkB ((L s).take b) := by rw [extract_mk']; rfl
theorem L_append (s t : ByteArray) : L (s ++ t) = L s ++ L t := by
  unfold L
  rw [ByteArray.data_append, Array.toList_append]
theorem mk_append (l m : List UInt8) : mkB l ++ mkB m = mkB (l ++ m) := L_inj (by rw [L_append, L_mk, L_mk, L_mk])
theorem lit_mk (a : Array UInt8) : (⟨a⟩ : ByteArray) = mkB a.toList := L_inj (by rw [L_lit, L_mk])
theorem bt_nat (s : ByteArray) (i : Nat) (h : i < (L s).length) : bt s (i : Int) = ((L s)[i].toNat : Int) := by
  have h' : i < s.size := by rwa [L_len] at h
  unfold bt
  have e : ((i : Int)).toNat = i := by omega
  simp only [e, h', dite_true]
  rfl
theorem drop_nil {s : ByteArray} {i : Nat} (h : (L s).drop i = []) : s.size ≤ i := by
  rw [← L_len]; exact List.drop_eq_nil_iff.1 h
theorem drop_cons {s : ByteArray} {i : Nat} {c : UInt8} {r : List UInt8} (h : (L s).drop i = c :: r) : i < s.size ∧ bt s (i : Int) = (c.toNat : Int) ∧ (L s).drop (i + 1) = r := by
  have hl : i < (L s).length := by
    rcases Nat.lt_or_ge i (L s).length with h' | h'
    · exact h'
    · rw [List.drop_eq_nil_iff.2 h'] at h; cases h
  have e := List.drop_eq_getElem_cons hl
  rw [h] at e
  injection e with e1 e2
  exact ⟨by rwa [L_len] at hl, by rw [bt_nat s i hl, e1], e2.symm⟩
theorem drop_some {s : ByteArray} {i : Nat} (h : i < s.size) : ∃ c, (L s).drop i = c :: (L s).drop (i + 1) ∧ bt s (i : Int) = (c.toNat : Int) := by
  have hl : i < (L s).length := by rwa [L_len]
  exact ⟨_, List.drop_eq_getElem_cons hl, bt_nat s i hl⟩

/-! ### whole numbers -/
theorem w64 {x : Int} (h : -9223372036854775808 ≤ x ∧ x ≤ 9223372036854775807) : wrap64 x = x := by unfold wrap64; omega
theorem w64_nat {x : Int} {n : Nat} (e : x = (n : Int)) (h : n ≤ 9223372036854775807) : wrap64 x = (n : Int) := by rw [e]; exact w64 (by omega)
theorem w64_succ {i : Nat} (h : i < 9223372036854775807) : wrap64 ((i : Int) + 1) = ((i + 1 : Nat) : Int) := w64_nat (by omega) (by omega)
theorem u8_lt (c : UInt8) : (c.toNat : Int) < 256 ∧ (0 : Int) ≤ (c.toNat : Int) := by have := c.toNat_lt; omega
theorem u8_eq {c d : UInt8} (h : (c.toNat : Int) = (d.toNat : Int)) : c = d := UInt8.toNat_inj.1 (by omega)
/-- The strings that come up are shorter than this. -/
def big : Nat := 4611686018427387904
theorem big_eq : big = 4611686018427387904 := rfl

/-! ### runs at the head of a list -/
theorem take_len {p : UInt8 → Bool} (l : List UInt8) : (l.takeWhile p).length ≤ l.length := by
  induction l with
  | nil => simp
  | cons c r ih => simp only [List.takeWhile_cons]; split <;> simp <;> omega
theorem take_run {p : UInt8 → Bool} (l : List UInt8) : l.take (l.takeWhile p).length = l.takeWhile p := by
  induction l with
  | nil => rfl
  | cons c r ih =>
    simp only [List.takeWhile_cons]
    split
    · simp [ih]
    · simp
theorem drop_run {p : UInt8 → Bool} (l : List UInt8) : l.drop (l.takeWhile p).length = l.dropWhile p := by
  induction l with
  | nil => rfl
  | cons c r ih =>
    simp only [List.takeWhile_cons, List.dropWhile_cons]
    split
    · simp [ih]
    · simp
/-- A loop that goes on while a byte is p, up to the end. -/
theorem scan {β : Type} {s : ByteArray} {p : UInt8 → Bool} {F : Nat → Int → Option β} {v : β} (hs : s.size < big)
    (hstep : ∀ (k i : Nat) (c : UInt8), i < s.size → bt s (i : Int) = (c.toNat : Int) → p c = true → F (k + 1) (i : Int) = F k ((i + 1 : Nat) : Int)) :
    ∀ (l : List UInt8) (i : Nat), (L s).drop i = l → Ev (fun k => F k ((i + (l.takeWhile p).length : Nat) : Int)) v → Ev (fun k => F k (i : Int)) v
  | [], i, h, hend => by simpa using hend
  | c :: r, i, h, hend => by
    obtain ⟨h1, h2, h3⟩ := drop_cons h
    by_cases hp : p c = true
    · rw [List.takeWhile_cons, if_pos hp] at hend
      refine Ev.succ (Ev.congr (fun k => hstep k i c h1 h2 hp) (scan hs hstep r (i + 1) h3 ?_))
      rw [show i + 1 + (r.takeWhile p).length = i + (c :: r.takeWhile p).length by simp; omega]
      exact hend
    · rw [List.takeWhile_cons, if_neg hp] at hend
      simpa using hend
/-- What stands behind such a run: the end, or a byte that isn't p. -/
theorem behind {s : ByteArray} {p : UInt8 → Bool} {i : Nat} (hi : i ≤ s.size) : let j := i + (((L s).drop i).takeWhile p).length; j ≤ s.size ∧ (L s).drop j = ((L s).drop i).dropWhile p := by
  refine ⟨?_, ?_⟩
  · have := take_len (p := p) ((L s).drop i)
    rw [List.length_drop, L_len] at this
    omega
  · rw [← List.drop_drop, drop_run]
theorem dropWhile_head {p : UInt8 → Bool} {l r : List UInt8} {c : UInt8} (h : l.dropWhile p = c :: r) : p c = false := by
  induction l with
  | nil => cases h
  | cons d l ih =>
    rw [List.dropWhile_cons] at h
    split at h
    · exact ih h
    · rename_i hd
      injection h with h1 h2
      subst h1
      simpa using hd
end Go.Proofs.YtcdajedmlfhmeaaDoor.XN
end

namespace Go.Proofs.YtcdajedmlfhmeaaDoor.XN
open Go.RowKit Go.Proofs.YtcdajedmlfhmeaaDoorW.PrintWords Go.Proofs.YtcdajedmlfhmeaaDoorW.PrintLast Go.Proofs.YtcdajedmlfhmeaaDoorW.PrintMore
attribute [local go_sem] max2_int min2_int max_two min_two max_three min_three max_four min_four
set_option linter.unusedVariables false
set_option linter.unusedSimpArgs false

/-! ### millref3_start: function 44 -/
def millref3_start.l0 : Nat → ByteArray → Int → Option (Int)
 | 0, _, _ => none
 | k + 1, x0, x3 => if x3 < (x0.size : Int) then (if 0 ≤ x3 then (if (bt x0 x3) = 32 then (millref3_start.l0 k x0 (wrap64 (x3 + 1))) else (if (bt x0 x3) = 9 then (millref3_start.l0 k x0 (wrap64 (x3 + 1))) else (some x3))) else (none)) else (some x3)
def millref3_start.f (k : Nat) (a0 : ByteArray) : Option (Int) := millref3_start.l0 k a0 0

/-! ### millref3_isDigit: function 96 -/
def millref3_isDigit.f (a0 : Int) : Option (Bool) := if a0 ≥ 48 then (some (decide (a0 ≤ 57))) else (some false)

/-! ### millref3_run: function 71 -/
def millref3_run.l0 : Nat → ByteArray → Int → Option (Int)
 | 0, _, _ => none
 | k + 1, x0, x1 => if x1 < (x0.size : Int) then (if 0 ≤ x1 then ((millref3_isDigit.f (bt x0 x1)).bind fun t194 => (if t194 = true then (millref3_run.l0 k x0 (wrap64 (x1 + 1))) else (some x1))) else (none)) else (some x1)
def millref3_run.f (k : Nat) (a0 : ByteArray) (a1 : Int) : Option (Int) := millref3_run.l0 k a0 a1

/-! ### millref3_Plain: function 46 -/
def millref3_Plain.f (k : Nat) (a0 : ByteArray) (a1 : Int) : Option (ByteArray × Int × Int) := (millref3_run.f k a0 a1).bind fun t195 => (if 0 ≤ a1 then (if a1 ≤ t195 then (if t195 ≤ (a0.size : Int) then (if t195 < (a0.size : Int) then (if 0 ≤ t195 then (if (bt a0 t195) = 46 then ((millref3_run.f k a0 (wrap64 (t195 + 1))).bind fun t196 => (if 0 ≤ (wrap64 (t195 + 1)) then (if (wrap64 (t195 + 1)) ≤ t196 then (if t196 ≤ (a0.size : Int) then (if (t195.toNat - a1.toNat) + (t196.toNat - ((wrap64 (t195 + 1)) : Int).toNat) ≤ 9223372036854775807 then (if ((a0.extract (a1 : Int).toNat (t195 : Int).toNat) ++ (a0.extract ((wrap64 (t195 + 1)) : Int).toNat (t196 : Int).toNat)).toList = ([] : List UInt8) then (some ((⟨#[]⟩ : ByteArray), 0, (-1))) else (some ((a0.extract (a1 : Int).toNat (t195 : Int).toNat) ++ (a0.extract ((wrap64 (t195 + 1)) : Int).toNat (t196 : Int).toNat), ((t195.toNat - a1.toNat : Nat) : Int), t196))) else (none)) else (none)) else (none)) else (none))) else (if (a0.extract (a1 : Int).toNat (t195 : Int).toNat).toList = ([] : List UInt8) then (some ((⟨#[]⟩ : ByteArray), 0, (-1))) else (some (a0.extract (a1 : Int).toNat (t195 : Int).toNat, ((t195.toNat - a1.toNat : Nat) : Int), t195)))) else (none)) else (if (a0.extract (a1 : Int).toNat (t195 : Int).toNat).toList = ([] : List UInt8) then (some ((⟨#[]⟩ : ByteArray), 0, (-1))) else (some (a0.extract (a1 : Int).toNat (t195 : Int).toNat, ((t195.toNat - a1.toNat : Nat) : Int), t195)))) else (none)) else (none)) else (none))
end Go.Proofs.YtcdajedmlfhmeaaDoor.XN

section
/- What numeral and millref3 compute at the head of a text: blanks, digits, the parts of a number. (by this session) -/
-- NEEDS numeral_blanks numeral_plain millref3_start millref3_isDigit millref3_run millref3_Plain
set_option linter.unusedVariables false
set_option linter.unusedSimpArgs false
namespace Go.Proofs.YtcdajedmlfhmeaaDoor.XN
open Go.RowKit Go.Proofs.YtcdajedmlfhmeaaDoorW.PrintWords Go.Proofs.YtcdajedmlfhmeaaDoorW.PrintMore

theorem stop_at {s : ByteArray} {p : UInt8 → Bool} {i : Nat} (hi : i ≤ s.size) :
    (i + (((L s).drop i).takeWhile p).length = s.size ∧ ((L s).drop i).dropWhile p = []) ∨
    (∃ c r, i + (((L s).drop i).takeWhile p).length < s.size ∧ bt s ((i + (((L s).drop i).takeWhile p).length : Nat) : Int) = (c.toNat : Int) ∧ p c = false ∧ ((L s).drop i).dropWhile p = c :: r ∧ (L s).drop (i + (((L s).drop i).takeWhile p).length + 1) = r) := by
  obtain ⟨h1, h2⟩ := behind (p := p) hi
  cases h : ((L s).drop i).dropWhile p with
  | nil =>
    left
    rw [h] at h2
    have := drop_nil h2
    exact ⟨by omega, rfl⟩
  | cons c r =>
    right
    rw [h] at h2
    obtain ⟨a, b, d⟩ := drop_cons h2
    exact ⟨c, r, a, b, dropWhile_head h, rfl, d⟩

def isBl (c : UInt8) : Bool := decide ((c.toNat : Int) = 32) || decide ((c.toNat : Int) = 9)
def isDg (c : UInt8) : Bool := plainDig (c.toNat : Int)
def is0 (c : UInt8) : Bool := decide ((c.toNat : Int) = 48)
def blkN (l : List UInt8) : Nat := (l.takeWhile isBl).length

theorem blanks_ev (s : ByteArray) (hs : s.size < big) : Ev (fun k => numeral_blanks.f k s) (blkN (L s) : Int) := by
  unfold numeral_blanks.f
  refine scan (p := isBl) (F := fun k i => numeral_blanks.l0 k s i) hs (fun k i c h1 h2 hp => ?_) (L s) 0 rfl ?_
  · simp only [numeral_blanks.l0, h2, w64_succ (i := i) (by rw [big_eq] at hs; omega)]
    rw [if_pos (by omega), if_pos (by omega)]
    simp only [isBl, Bool.or_eq_true, decide_eq_true_eq] at hp
    split
    · rfl
    · rw [if_pos (by omega)]
  · simp only [Nat.zero_add]
    have hst := stop_at (s := s) (p := isBl) (i := 0) (Nat.zero_le _)
    simp only [Nat.zero_add, List.drop_zero] at hst
    refine Ev.succ ?_
    rcases hst with ⟨h, _⟩ | ⟨c, r, h1, h2, h3, _⟩
    · simp only [numeral_blanks.l0]
      exact Ev.neg (by rw [h]; omega) (Ev.pure _)
    · simp only [numeral_blanks.l0, h2]
      simp only [isBl, Bool.or_eq_false_iff, decide_eq_false_iff_not] at h3
      exact Ev.pos (by omega) (Ev.pos (by omega) (Ev.neg h3.1 (Ev.neg h3.2 (Ev.pure _))))
theorem blkN_le (s : ByteArray) : blkN (L s) ≤ s.size := by
  have := take_len (p := isBl) (L s)
  rw [L_len] at this
  exact this
theorem plainEnd_L (s : ByteArray) (i : Nat) (hi : i ≤ s.size) : plainEnd s i = i + (((L s).drop i).takeWhile isDg).length := by
  generalize hl : (L s).drop i = l
  induction l generalizing i with
  | nil =>
    have := drop_nil hl
    rw [plainEnd_no (by omega)]
    simp
  | cons c r ih =>
    obtain ⟨h1, h2, h3⟩ := drop_cons hl
    by_cases hp : isDg c = true
    · rw [plainEnd_yes h1 (by rw [h2]; exact hp), ih (i + 1) (by omega) h3, List.takeWhile_cons, if_pos hp]
      simp
      omega
    · rw [plainEnd_no (fun h => hp (by have := h.2; rw [h2] at this; exact this)), List.takeWhile_cons, if_neg hp]
      simp

/-- A number's parts at the head of l: the digits ahead of the point, those behind it, how many bytes in all. -/
def plS (l : List UInt8) : List UInt8 × List UInt8 × Nat :=
  match l.dropWhile isDg with
  | [] => (l.takeWhile isDg, [], (l.takeWhile isDg).length)
  | c :: r => if (c.toNat : Int) = 46 then (l.takeWhile isDg, r.takeWhile isDg, (l.takeWhile isDg).length + 1 + (r.takeWhile isDg).length) else (l.takeWhile isDg, [], (l.takeWhile isDg).length)
theorem plS_len (l : List UInt8) : (plS l).2.2 ≤ l.length := by
  unfold plS
  have h1 := List.takeWhile_append_dropWhile (p := isDg) (l := l)
  have h2 := congrArg List.length h1
  rw [List.length_append] at h2
  split
  · simp only; omega
  · rename_i c r h
    rw [h] at h2
    have := take_len (p := isDg) r
    simp at h2
    split <;> simp only <;> omega
def noneAt (l : List UInt8) : Bool := (plS l).1.isEmpty && (plS l).2.1.isEmpty
theorem nil_iff (l : List UInt8) : l = [] ↔ l.isEmpty = true := by cases l <;> simp
theorem plainF_S (s : ByteArray) (i : Nat) (hi : i ≤ s.size) : plainF s i = if noneAt ((L s).drop i) = true then (false, ⟨#[]⟩, ⟨#[]⟩, 0) else (false, mkB (plS ((L s).drop i)).1, mkB (plS ((L s).drop i)).2.1, ((i + (plS ((L s).drop i)).2.2 : Nat) : Int)) := by
  have he := plainEnd_L s i hi
  have hst := stop_at (s := s) (p := isDg) hi
  generalize hl : (L s).drop i = l at *
  have hx : s.extract i (plainEnd s i) = mkB (l.takeWhile isDg) := by
    rw [extract_mk', he, hl, Nat.add_sub_cancel_left, take_run]
  unfold plainF
  rw [hx]
  rw [he]
  unfold noneAt plS
  rcases hst with ⟨h, h'⟩ | ⟨c, r, h1, h2, h3, h4, h5⟩
  · rw [if_neg (by omega)]
    rw [h']
    simp only [toList_mk, nil_iff, List.isEmpty_nil, Bool.and_true]
    rfl
  · rw [h2, h4]
    simp only []
    by_cases h46 : (c.toNat : Int) = 46
    · rw [if_pos ⟨h1, h46⟩, if_pos h46]
      have hj : i + (l.takeWhile isDg).length + 1 ≤ s.size := by omega
      have he2 := plainEnd_L s _ hj
      rw [h5] at he2
      have hx2 : s.extract (i + (l.takeWhile isDg).length + 1) (plainEnd s (i + (l.takeWhile isDg).length + 1)) = mkB (r.takeWhile isDg) := by
        rw [extract_mk', he2, h5, Nat.add_sub_cancel_left, take_run]
      rw [hx2, he2]
      simp only [toList_mk, nil_iff, Bool.and_eq_true]
      rw [show i + (l.takeWhile isDg).length + 1 + (r.takeWhile isDg).length = i + ((l.takeWhile isDg).length + 1 + (r.takeWhile isDg).length) by omega]
    · rw [if_neg (fun h => h46 h.2), if_neg h46]
      simp only [toList_mk, nil_iff, List.isEmpty_nil, Bool.and_true]
      rfl
theorem plain_f (s : ByteArray) (hs : s.size < big) (i : Nat) (hi : i ≤ s.size) : numeral_plain.f s (i : Int) = some (if noneAt ((L s).drop i) = true then (false, ⟨#[]⟩, ⟨#[]⟩, 0) else (false, mkB (plS ((L s).drop i)).1, mkB (plS ((L s).drop i)).2.1, ((i + (plS ((L s).drop i)).2.2 : Nat) : Int))) := by
  unfold numeral_plain.f
  rw [if_pos ⟨by omega, by omega, by rw [big_eq] at hs; omega⟩, Int.toNat_natCast, plainF_S s i hi]
end Go.Proofs.YtcdajedmlfhmeaaDoor.XN
end

namespace Go.Proofs.YtcdajedmlfhmeaaDoor.XN
open Go.RowKit Go.Proofs.YtcdajedmlfhmeaaDoorW.PrintWords Go.Proofs.YtcdajedmlfhmeaaDoorW.PrintLast Go.Proofs.YtcdajedmlfhmeaaDoorW.PrintMore
attribute [local go_sem] max2_int min2_int max_two min_two max_three min_three max_four min_four
set_option linter.unusedVariables false
set_option linter.unusedSimpArgs false

/-! ### millref3_signed: function 41 -/
def millref3_signed.j0 : Nat → ByteArray → Int → Bool → Bool → Option (Bool × ByteArray × Int × Int × Int)
 | 0, _, _, _, _ => none
 | k + 1, x0, x4, x5, x20 => if x20 = true then ((millref3_Plain.f k x0 (wrap64 (x4 + 1))).bind fun bt199 => (if bt199.2.2 < 0 then (some (false, (⟨#[]⟩ : ByteArray), 0, 0, 0)) else (some (true, bt199.1, bt199.2.1, 0, bt199.2.2)))) else ((millref3_Plain.f k x0 x4).bind fun bt202 => (if bt202.2.2 < 0 then (some (false, (⟨#[]⟩ : ByteArray), 0, 0, 0)) else (some (x5, bt202.1, bt202.2.1, 0, bt202.2.2))))
def millref3_signed.f (k : Nat) (a0 : ByteArray) : Option (Bool × ByteArray × Int × Int × Int) := (millref3_start.f k a0).bind fun t198 => (if t198 < (a0.size : Int) then (if 0 ≤ t198 then (millref3_signed.j0 k a0 t198 false ((bt a0 t198) == 45)) else (none)) else (millref3_signed.j0 k a0 t198 false false))

/-! ### millref3_zeros: function 42 -/
def millref3_zeros.l0 : Nat → ByteArray → Int → Option (Int)
 | 0, _, _ => none
 | k + 1, x0, x3 => if x3 < (x0.size : Int) then (if 0 ≤ x3 then (if (bt x0 x3) = 48 then (millref3_zeros.l0 k x0 (wrap64 (x3 + 1))) else (some x3)) else (none)) else (some x3)
def millref3_zeros.f (k : Nat) (a0 : ByteArray) : Option (Int) := millref3_zeros.l0 k a0 0

/-! ### millref3_trimmed: function 43 -/
def millref3_trimmed.l0 : Nat → ByteArray → Int → Option (ByteArray)
 | 0, _, _ => none
 | k + 1, x0, x3 => if x3 > 0 then (if 0 ≤ (wrap64 (x3 - 1)) then (if (wrap64 (x3 - 1)) < (x0.size : Int) then (if (bt x0 (wrap64 (x3 - 1))) = 48 then (millref3_trimmed.l0 k x0 (wrap64 (x3 - 1))) else (if 0 ≤ x3 then (if x3 ≤ (x0.size : Int) then (some (x0.extract 0 (x3 : Int).toNat)) else (none)) else (none))) else (none)) else (none)) else (if 0 ≤ x3 then (if x3 ≤ (x0.size : Int) then (some (x0.extract 0 (x3 : Int).toNat)) else (none)) else (none))
def millref3_trimmed.f (k : Nat) (a0 : ByteArray) : Option (ByteArray) := millref3_trimmed.l0 k a0 (a0.size : Int)

/-! ### millref3_Decimal: function 22 -/
def millref3_Decimal.f (k : Nat) (a0 : ByteArray) : Option (Bool × ByteArray × ByteArray × Int) := (millref3_signed.f k a0).bind fun bt206 => (if bt206.2.2.2.2 = 0 then (some (false, (⟨#[]⟩ : ByteArray), (⟨#[]⟩ : ByteArray), 0)) else (if 0 ≤ bt206.2.2.1 then (if bt206.2.2.1 ≤ (bt206.2.1.size : Int) then ((millref3_zeros.f k (bt206.2.1.extract 0 (bt206.2.2.1 : Int).toNat)).bind fun t212 => (if 0 ≤ t212 then (if t212 ≤ ((bt206.2.2.1.toNat : Nat) : Int) then ((millref3_trimmed.f k (bt206.2.1.extract (bt206.2.2.1 : Int).toNat bt206.2.1.size)).bind fun t213 => (if bt206.1 = true then (if (bt206.2.2.1.toNat - t212.toNat) + t213.size ≤ 9223372036854775807 then (some ((!((((bt206.2.1.extract 0 (bt206.2.2.1 : Int).toNat).extract (t212 : Int).toNat bt206.2.2.1.toNat) ++ t213).toList).isEmpty), (bt206.2.1.extract 0 (bt206.2.2.1 : Int).toNat).extract (t212 : Int).toNat bt206.2.2.1.toNat, t213, bt206.2.2.2.2)) else (none)) else (some (false, (bt206.2.1.extract 0 (bt206.2.2.1 : Int).toNat).extract (t212 : Int).toNat bt206.2.2.1.toNat, t213, bt206.2.2.2.2)))) else (none)) else (none))) else (none)) else (none)))
def millref3_Decimal.T5 : Bool × List (List Nat × List Nat) := (true, [([], []), ([], []), ([1], [1]), ([0, 2], [0, 2]), ([], []), ([4], [4]), ([], []), ([6], [6]), ([5, 7], [5, 7]), ([8, 2], [8]), ([], []), ([3, 9, 10], [3, 9, 10]), ([], []), ([12, 11, 9, 0, 1, 2, 3, 4, 5, 6, 7, 8, 9, 10, 11, 12], [11, 12])])
def millref3_Decimal.B5 : List Nat := [0, 0, 2, 7, 0, 16, 0, 64, 240, 502, 0, 2047, 0, 8191]

/-! ### millref3_letter: function 40 -/
def millref3_letter.l0 : Nat → Int → Int → Option (Int)
 | 0, _, _ => none
 | k + 1, x0, x3 => if x3 < 10 then (if 0 ≤ x3 then (if (bt (⟨#[75, 77, 71, 84, 80, 69, 90, 89, 82, 81]⟩ : ByteArray) x3) = x0 then (some (wrap64 (x3 + 1))) else (millref3_letter.l0 k x0 (wrap64 (x3 + 1)))) else (none)) else (some 0)
def millref3_letter.f (k : Nat) (a0 : Int) : Option (Int) := if a0 = 107 then (some 1) else (millref3_letter.l0 k a0 0)

/-! ### millref3_Human: function 21 -/
mutual
def millref3_Human.j0 : Nat → ByteArray → Int → Bool → Bool → ByteArray → ByteArray → Int → Option (Bool × ByteArray × ByteArray × Int × Int)
 | 0, _, _, _, _, _, _, _ => none
 | k + 1, x0, x5, x17, x221000, x221001, x221002, x221003 => if x17 = true then (if 0 ≤ x221003 then (if x221003 < (x0.size : Int) then ((millref3_letter.f k (bt x0 x221003)).bind fun t221 => (millref3_Human.j1 k t221 x221000 x221001 x221002 x221003)) else (none)) else (none)) else (millref3_Human.j1 k x5 x221000 x221001 x221002 x221003)
def millref3_Human.j1 : Nat → Int → Bool → ByteArray → ByteArray → Int → Option (Bool × ByteArray × ByteArray × Int × Int)
 | 0, _, _, _, _, _ => none
 | k + 1, x5, x221000, x221001, x221002, x221003 => if x5 > 0 then (if x221001.size + x221002.size ≤ 9223372036854775807 then (if (x221001 ++ x221002).toList = ([] : List UInt8) then (some (x221000, x221001, x221002, wrap64 (x221003 + 1), 0)) else (some (x221000, x221001, x221002, wrap64 (x221003 + 1), x5))) else (none)) else (if x221001.size + x221002.size ≤ 9223372036854775807 then (if (x221001 ++ x221002).toList = ([] : List UInt8) then (some (x221000, x221001, x221002, x221003, 0)) else (some (x221000, x221001, x221002, x221003, x5))) else (none))
end
def millref3_Human.f (k : Nat) (a0 : ByteArray) : Option (Bool × ByteArray × ByteArray × Int × Int) := (millref3_Decimal.f k a0).bind fun bt216 => (if bt216.2.2.2 > 0 then (millref3_Human.j0 k a0 0 (decide (bt216.2.2.2 < (a0.size : Int))) bt216.1 bt216.2.1 bt216.2.2.1 bt216.2.2.2) else (millref3_Human.j0 k a0 0 false bt216.1 bt216.2.1 bt216.2.2.1 bt216.2.2.2))
end Go.Proofs.YtcdajedmlfhmeaaDoor.XN
