import Derived.Test.YtcdajedmlfhmeaaDoorZNE0
import Derived.Test.YtcdajedmlfhmeaaDoorZNE1
import Derived.Test.YtcdajedmlfhmeaaDoorZNE3
import Derived.Test.YtcdajedmlfhmeaaDoorZNE4
import Derived.Test.YtcdajedmlfhmeaaDoorZNE6
import Derived.Test.YtcdajedmlfhmeaaDoorZNE7
namespace Go.Proofs.YtcdajedmlfhmeaaDoor.XN
open Go.RowKit Go.Proofs.YtcdajedmlfhmeaaDoorW.PrintWords Go.Proofs.YtcdajedmlfhmeaaDoorW.PrintLast Go.Proofs.YtcdajedmlfhmeaaDoorW.PrintMore
attribute [local go_sem] max2_int min2_int max_two min_two max_three min_three max_four min_four
set_option linter.unusedVariables false
set_option linter.unusedSimpArgs false

/-! ### numeral_Compare: function 27 -/
def numeral_Compare.j0 : Nat → Int → ByteArray → ByteArray → Int → Bool → Option (Int)
 | 0, _, _, _, _, _ => none
 | k + 1, x0, x1, x2, x9, x10 => if x10 = true then ((numeral_human.f k x0 x1).bind fun bt294 => ((numeral_human.f k x0 x2).bind fun bt298 => ((numeral_order.f k bt294.1 bt294.2.1 bt294.2.2.1 bt294.2.2.2 bt298.1 bt298.2.1 bt298.2.2.1 bt298.2.2.2).bind fun t302 => (some t302)))) else (if x9 = 128 then ((numeral_Month.f k x1).bind fun t303 => ((numeral_Month.f k x2).bind fun t304 => ((cmp_Compare_int.f t303 t304).bind fun t305 => (some t305)))) else (if x9 = 256 then ((numeral_versions.f k x1 x2).bind fun t306 => (some t306)) else (if x9 = 32 then ((numeral_General.f k x1).bind fun bt307 => ((numeral_General.f k x2).bind fun bt312 => (if bt307.1 = bt312.1 then ((numeral_sizeOf.f bt307.2.1 bt307.2.2.1 bt307.2.2.2.1 0).bind fun bt320 => ((numeral_sizeOf.f bt312.2.1 bt312.2.2.1 bt312.2.2.2.1 0).bind fun bt324 => ((numeral_order.f k bt320.1 bt320.2.1 bt320.2.2.1 bt320.2.2.2 bt324.1 bt324.2.1 bt324.2.2.1 bt324.2.2.2).bind fun t328 => (some t328)))) else ((api_Class_53.f bt307.1 bt312.1).bind fun t319 => (some t319))))) else ((strings_Compare.f x1 x2).bind fun t329 => (some t329)))))
def numeral_Compare.f (k : Nat) (a0 : Int) (a1 : ByteArray) (a2 : ByteArray) : Option (Int) := if a0 = 16 then (numeral_Compare.j0 k a0 a1 a2 a0 (a0 == 16)) else (numeral_Compare.j0 k a0 a1 a2 a0 (a0 == 64))
def numeral_Compare.T13 : Bool × List (List Nat × List Nat) := (true, [([], []), ([0], [0]), ([], []), ([2], [2]), ([], []), ([4], [4]), ([1, 3, 5], [1, 3, 5]), ([], []), ([7], [7]), ([], []), ([9], [9]), ([], []), ([11], [11]), ([8, 10, 12, 6], [8, 10, 12]), ([6, 13, 13], [6, 13]), ([14, 14, 0, 1, 2, 3, 4, 5, 6, 7, 8, 9, 10, 11, 12, 13, 14], [14])])
def numeral_Compare.B13 : List Nat := [0, 1, 0, 4, 0, 16, 63, 0, 128, 0, 512, 0, 2048, 8191, 16383, 32767]
theorem numeral_Compare.tab13 : rtab .any (opsOf Tryd.f27 13) = numeral_Compare.T13 := by kernel_rfl
theorem numeral_Compare.bits13 : waitsOk numeral_Compare.T13.2 numeral_Compare.B13 = true := by kernel_rfl
set_option maxHeartbeats 8000000 in
set_option maxRecDepth 100000 in
theorem numeral_Compare.calls (k : Nat) (a0 : Int) (a1 : ByteArray) (a2 : ByteArray) (r : Int) (w : World) (hGL : GOK w) (h : numeral_Compare.f k a0 a1 a2 = some r) :
  Calls Tryd.prog 27 #[.int .u16 a0, .string a1, .string a2] w fun e w' => e = .returned (.int .i64 r) ∧ Below w.heap.size w w' := by
 have hu29 := Tryd.underlying29
 have HGL := Aside0.mk hGL
 clear hGL
 have HB := Aside0.mk (Below.refl w.heap.size w)
 have H : (if a0 = 16 then (numeral_Compare.j0 k a0 a1 a2 a0 (a0 == 16)) else (numeral_Compare.j0 k a0 a1 a2 a0 (a0 == 64))) = some r := h
 clear h
 have HC4 := Aside0.mk H
 clear H
 go_enter Tryd.func27, Tryd.ntmps27
 go_upto_if 10 with (fail)
 go_cut [10] (fun v10 wc => ∃ (kq : Nat) (x10_3 : Bool), v10 = .bool x10_3 ∧ Aside0 (numeral_Compare.j0 kq a0 a1 a2 a0 x10_3 = some r) ∧ Aside0 (kq ≤ k) ∧ Aside0 (Below w.heap.size w wc))
 case first =>
  have H := HC4.out
  clear HC4
  by_cases c5 : a0 = 16
  ·
   rw [if_pos c5] at H
   have c5b0 : (a0 == 16) = true := beq_iff_eq.mpr c5
   have c5b1 : (a0 != 16) = false := bne_eq_false_iff_eq.mpr c5
   clear c5
   (first | rw [c5b0] | (simp only [i64_w, i32_w]; rw [c5b0]) | skip)
   have H' := Aside0.mk H
   clear H
   go_wp2
   go_meet
   case rel => exact ⟨_, ((a0 == 16)), qne2_, H', ⟨by first | omega | exact Nat.le_refl _⟩, ⟨qne0_⟩⟩
  ·
   rw [if_neg c5] at H
   have c5b0 : (a0 == 16) = false := beq_eq_false_iff_ne.mpr c5
   have c5b1 : (a0 != 16) = true := bne_iff_ne.mpr c5
   (first | rw [c5b0] | (simp only [i64_w, i32_w]; rw [c5b0]) | skip)
   have H' := Aside0.mk H
   clear H
   go_wp2
   go_meet
   case rel => exact ⟨_, ((a0 == 64)), qne2_, H', ⟨by first | omega | exact Nat.le_refl _⟩, ⟨qne0_⟩⟩
 case rest =>
  clear HC4
  (try clear c2); (try clear p2); (try clear c5); (try clear c5b0); (try clear c5b1)
  obtain ⟨kq, x10_3, rfl, HA, HJ3, HB⟩ := hcut
  cases kq with
  | zero => exact absurd HA.out (by simp [numeral_Compare.j0])
  | succ kj3 =>
   have H := HA.out
   clear HA
   simp only [numeral_Compare.j0] at H
   by_cases c6 : x10_3 = true
   ·
    subst c6
    have H1 : ((numeral_human.f kj3 a0 a1).bind fun bt294 => ((numeral_human.f kj3 a0 a2).bind fun bt298 => ((numeral_order.f kj3 bt294.1 bt294.2.1 bt294.2.2.1 bt294.2.2.2 bt298.1 bt298.2.1 bt298.2.2.1 bt298.2.2.2).bind fun t302 => (some t302)))) = some r := by rw [if_pos rfl] at H; exact H
    clear H
    have H := H1
    clear H1
    replace H := Option.bind_eq_some_iff.mp H
    obtain ⟨⟨t294, t295, t296, t297⟩, A70, H⟩ := H
    replace H : ((numeral_human.f kj3 a0 a2).bind fun bt298 => ((numeral_order.f kj3 t294 t295 t296 t297 bt298.1 bt298.2.1 bt298.2.2.1 bt298.2.2.2).bind fun t302 => (some t302))) = some r := H
    have A7 := Aside0.mk A70
    clear A70
    replace H := Option.bind_eq_some_iff.mp H
    obtain ⟨⟨t298, t299, t300, t301⟩, A80, H⟩ := H
    replace H : ((numeral_order.f kj3 t294 t295 t296 t297 t298 t299 t300 t301).bind fun t302 => (some t302)) = some r := H
    have A8 := Aside0.mk A80
    clear A80
    replace H := Option.bind_eq_some_iff.mp H
    obtain ⟨t302, A90, H⟩ := H
    replace H : (some t302) = some r := H
    have A9 := Aside0.mk A90
    clear A90
    obtain rfl := Option.some.inj H
    have tk13 : True := trivial; have tk14 : True := trivial; have tk15 : True := trivial
    go_wp2_with (first | (have ztk13 := tk13; clear tk13 ztk13; (with_reducible refine gate_callee (f := 50) rfl ?_); refine goesL_ (some 15) rfl rfl Tryd.func50 (by kernel_rfl) rfl #[.int .u16 a0, .string a1] rfl qne1_ ?_; (with_reducible refine (numeral_human.calls kj3 a0 a1 t294 t295 t296 t297 _ A7.out).mono ?_); rintro e w10 ⟨rfl, hb⟩; refine ⟨_, rfl, ?_⟩; have n0_ := Aside0.mk (below_step qne0_ hb); clear HB; have HB := n0_; clear n0_; (try clear hb); (try clear hb2); (try clear hk); (try clear hi)) | (have ztk14 := tk14; clear tk14 ztk14; (with_reducible refine gate_callee (f := 50) rfl ?_); refine goesL_ (some 18) rfl rfl Tryd.func50 (by kernel_rfl) rfl #[.int .u16 a0, .string a2] rfl qne1_ ?_; (with_reducible refine (numeral_human.calls kj3 a0 a2 t298 t299 t300 t301 _ A8.out).mono ?_); rintro e w11 ⟨rfl, hb⟩; refine ⟨_, rfl, ?_⟩; have n0_ := Aside0.mk (below_step qne0_ hb); clear HB; have HB := n0_; clear n0_; (try clear hb); (try clear hb2); (try clear hk); (try clear hi)) | (have ztk15 := tk15; clear tk15 ztk15; (with_reducible refine gate_callee (f := 49) rfl ?_); refine goesL_ (some 19) rfl rfl Tryd.func49 (by kernel_rfl) rfl #[.agg #[.int .i64 t294, .int .i64 t295, .int .i64 t296, .string t297], .agg #[.int .i64 t298, .int .i64 t299, .int .i64 t300, .string t301]] rfl qne1_ ?_; (with_reducible refine (numeral_order.calls kj3 t294 t295 t296 t297 t298 t299 t300 t301 t302 _ A9.out).mono ?_); rintro e w12 ⟨rfl, hb⟩; refine ⟨_, rfl, ?_⟩; have n0_ := Aside0.mk (below_step qne0_ hb); clear HB; have HB := n0_; clear n0_; (try clear hb); (try clear hb2); (try clear hk); (try clear hi)))
    go_ret
    exact ⟨qne5_, qne0_⟩
   ·
    replace c6 := Bool.eq_false_iff.mpr c6
    subst c6
    have H1 : (if a0 = 128 then ((numeral_Month.f kj3 a1).bind fun t303 => ((numeral_Month.f kj3 a2).bind fun t304 => ((cmp_Compare_int.f t303 t304).bind fun t305 => (some t305)))) else (if a0 = 256 then ((numeral_versions.f kj3 a1 a2).bind fun t306 => (some t306)) else (if a0 = 32 then ((numeral_General.f kj3 a1).bind fun bt307 => ((numeral_General.f kj3 a2).bind fun bt312 => (if bt307.1 = bt312.1 then ((numeral_sizeOf.f bt307.2.1 bt307.2.2.1 bt307.2.2.2.1 0).bind fun bt320 => ((numeral_sizeOf.f bt312.2.1 bt312.2.2.1 bt312.2.2.2.1 0).bind fun bt324 => ((numeral_order.f kj3 bt320.1 bt320.2.1 bt320.2.2.1 bt320.2.2.2 bt324.1 bt324.2.1 bt324.2.2.1 bt324.2.2.2).bind fun t328 => (some t328)))) else ((api_Class_53.f bt307.1 bt312.1).bind fun t319 => (some t319))))) else ((strings_Compare.f a1 a2).bind fun t329 => (some t329))))) = some r := by rw [if_neg (show ¬ (false = true) by decide)] at H; exact H
    clear H
    have H := H1
    clear H1
    by_cases c16 : a0 = 128
    ·
     rw [if_pos c16] at H
     have c16b0 : (a0 == 128) = true := beq_iff_eq.mpr c16
     have c16b1 : (a0 != 128) = false := bne_eq_false_iff_eq.mpr c16
     clear c16
     replace H := Option.bind_eq_some_iff.mp H
     obtain ⟨t303, A170, H⟩ := H
     replace H : ((numeral_Month.f kj3 a2).bind fun t304 => ((cmp_Compare_int.f t303 t304).bind fun t305 => (some t305))) = some r := H
     have A17 := Aside0.mk A170
     clear A170
     replace H := Option.bind_eq_some_iff.mp H
     obtain ⟨t304, A180, H⟩ := H
     replace H : ((cmp_Compare_int.f t303 t304).bind fun t305 => (some t305)) = some r := H
     have A18 := Aside0.mk A180
     clear A180
     replace H := Option.bind_eq_some_iff.mp H
     obtain ⟨t305, A190, H⟩ := H
     replace H : (some t305) = some r := H
     have A19 := Aside0.mk A190
     clear A190
     obtain rfl := Option.some.inj H
     have tk20 : True := trivial; have tk21 : True := trivial; have tk22 : True := trivial
     go_wp2_with (first | (have ztk20 := tk20; clear tk20 ztk20; (with_reducible refine gate_callee (f := 23) rfl ?_); refine goesL_ (some 23) rfl rfl Tryd.func23 (by kernel_rfl) rfl #[.string a1] rfl qne1_ ?_; (with_reducible refine (numeral_Month.calls kj3 a1 t303 _ ?side1 A17.out).mono ?_); (case side1 => exact GOK.below HGL.out qne0_); rintro e w' ⟨rfl, ⟨nd, rfl⟩⟩; refine ⟨_, rfl, ?_⟩) | (have ztk21 := tk21; clear tk21 ztk21; (with_reducible refine gate_callee (f := 23) rfl ?_); refine goesL_ (some 25) rfl rfl Tryd.func23 (by kernel_rfl) rfl #[.string a2] rfl qne1_ ?_; (with_reducible refine (numeral_Month.calls kj3 a2 t304 _ ?side1 A18.out).mono ?_); (case side1 => exact GOK.below HGL.out qne0_); rintro e w' ⟨rfl, ⟨nd, rfl⟩⟩; refine ⟨_, rfl, ?_⟩) | (have ztk22 := tk22; clear tk22 ztk22; (with_reducible refine gate_callee (f := 51) rfl ?_); refine goesL_ (some 26) rfl rfl Tryd.func51 (by kernel_rfl) rfl #[.int .i64 t303, .int .i64 t304] rfl qne1_ ?_; (with_reducible refine (cmp_Compare_int.calls t303 t304 t305 _ A19.out).mono ?_); rintro e w' ⟨rfl, ⟨nd, rfl⟩⟩; refine ⟨_, rfl, ?_⟩))
     go_ret
     exact ⟨qne5_, qne0_⟩
    ·
     rw [if_neg c16] at H
     have c16b0 : (a0 == 128) = false := beq_eq_false_iff_ne.mpr c16
     have c16b1 : (a0 != 128) = true := bne_iff_ne.mpr c16
     by_cases c23 : a0 = 256
     ·
      rw [if_pos c23] at H
      have c23b0 : (a0 == 256) = true := beq_iff_eq.mpr c23
      have c23b1 : (a0 != 256) = false := bne_eq_false_iff_eq.mpr c23
      clear c23
      replace H := Option.bind_eq_some_iff.mp H
      obtain ⟨t306, A240, H⟩ := H
      replace H : (some t306) = some r := H
      have A24 := Aside0.mk A240
      clear A240
      obtain rfl := Option.some.inj H
      go_wp2_with (first | ((with_reducible refine gate_callee (f := 52) rfl ?_); refine goesL_ (some 31) rfl rfl Tryd.func52 (by kernel_rfl) rfl #[.string a1, .string a2] rfl qne1_ ?_; (with_reducible refine (numeral_versions.calls kj3 a1 a2 t306 _ ?side1 A24.out).mono ?_); (case side1 => exact GOK.below HGL.out qne0_); rintro e w25 ⟨rfl, hb⟩; refine ⟨_, rfl, ?_⟩; have n0_ := Aside0.mk (below_step qne0_ hb); clear HB; have HB := n0_; clear n0_; (try clear hb); (try clear hb2); (try clear hk); (try clear hi)))
      go_ret
      exact ⟨qne5_, qne0_⟩
     ·
      rw [if_neg c23] at H
      have c23b0 : (a0 == 256) = false := beq_eq_false_iff_ne.mpr c23
      have c23b1 : (a0 != 256) = true := bne_iff_ne.mpr c23
      by_cases c26 : a0 = 32
      ·
       rw [if_pos c26] at H
       have c26b0 : (a0 == 32) = true := beq_iff_eq.mpr c26
       have c26b1 : (a0 != 32) = false := bne_eq_false_iff_eq.mpr c26
       clear c26
       replace H := Option.bind_eq_some_iff.mp H
       obtain ⟨⟨t307, t308, t309, t310, t311⟩, A270, H⟩ := H
       replace H : ((numeral_General.f kj3 a2).bind fun bt312 => (if t307 = bt312.1 then ((numeral_sizeOf.f t308 t309 t310 0).bind fun bt320 => ((numeral_sizeOf.f bt312.2.1 bt312.2.2.1 bt312.2.2.2.1 0).bind fun bt324 => ((numeral_order.f kj3 bt320.1 bt320.2.1 bt320.2.2.1 bt320.2.2.2 bt324.1 bt324.2.1 bt324.2.2.1 bt324.2.2.2).bind fun t328 => (some t328)))) else ((api_Class_53.f t307 bt312.1).bind fun t319 => (some t319)))) = some r := H
       have A27 := Aside0.mk A270
       clear A270
       replace H := Option.bind_eq_some_iff.mp H
       obtain ⟨⟨t312, t313, t314, t315, t316⟩, A280, H⟩ := H
       replace H : (if t307 = t312 then ((numeral_sizeOf.f t308 t309 t310 0).bind fun bt320 => ((numeral_sizeOf.f t313 t314 t315 0).bind fun bt324 => ((numeral_order.f kj3 bt320.1 bt320.2.1 bt320.2.2.1 bt320.2.2.2 bt324.1 bt324.2.1 bt324.2.2.1 bt324.2.2.2).bind fun t328 => (some t328)))) else ((api_Class_53.f t307 t312).bind fun t319 => (some t319))) = some r := H
       have A28 := Aside0.mk A280
       clear A280
       by_cases c29 : t307 = t312
       ·
        rw [if_pos c29] at H
        have c29b0 : (t307 == t312) = true := beq_iff_eq.mpr c29
        have c29b1 : (t307 != t312) = false := bne_eq_false_iff_eq.mpr c29
        clear c29
        replace H := Option.bind_eq_some_iff.mp H
        obtain ⟨⟨t320, t321, t322, t323⟩, A300, H⟩ := H
        replace H : ((numeral_sizeOf.f t313 t314 t315 0).bind fun bt324 => ((numeral_order.f kj3 t320 t321 t322 t323 bt324.1 bt324.2.1 bt324.2.2.1 bt324.2.2.2).bind fun t328 => (some t328))) = some r := H
        have A30 := Aside0.mk A300
        clear A300
        replace H := Option.bind_eq_some_iff.mp H
        obtain ⟨⟨t324, t325, t326, t327⟩, A310, H⟩ := H
        replace H : ((numeral_order.f kj3 t320 t321 t322 t323 t324 t325 t326 t327).bind fun t328 => (some t328)) = some r := H
        have A31 := Aside0.mk A310
        clear A310
        replace H := Option.bind_eq_some_iff.mp H
        obtain ⟨t328, A320, H⟩ := H
        replace H : (some t328) = some r := H
        have A32 := Aside0.mk A320
        clear A320
        obtain rfl := Option.some.inj H
        have tk45 : True := trivial; have tk46 : True := trivial; have tk47 : True := trivial; have tk48 : True := trivial
        try go_wp2_with (first | (have ztk45 := tk45; clear tk45 ztk45; (with_reducible refine gate_callee (f := 17) rfl ?_); refine goesL_ (some 35) rfl rfl Tryd.func17 (by kernel_rfl) rfl #[.string a1] rfl qne1_ ?_; (with_reducible refine (numeral_General.calls kj3 a1 t307 t308 t309 t310 t311 _ A27.out).mono ?_); rintro e w33 ⟨rfl, hb⟩; refine ⟨_, rfl, ?_⟩; have n0_ := Aside0.mk (below_step qne0_ hb); clear HB; have HB := n0_; clear n0_; (try clear hb); (try clear hb2); (try clear hk); (try clear hi)) | (have ztk46 := tk46; clear tk46 ztk46; (with_reducible refine gate_callee (f := 17) rfl ?_); refine goesL_ (some 37) rfl rfl Tryd.func17 (by kernel_rfl) rfl #[.string a2] rfl qne1_ ?_; (with_reducible refine (numeral_General.calls kj3 a2 t312 t313 t314 t315 t316 _ A28.out).mono ?_); rintro e w34 ⟨rfl, hb⟩; refine ⟨_, rfl, ?_⟩; have n0_ := Aside0.mk (below_step qne0_ hb); clear HB; have HB := n0_; clear n0_; (try clear hb); (try clear hb2); (try clear hk); (try clear hi)) | (have ztk47 := tk47; clear tk47 ztk47; (with_reducible refine gate_dst (N := 7) rfl ?_); refine box_event ?hg (N := 7) ?hd (cs := #[.int .u8 0, .bool false, .string (⟨#[]⟩ : ByteArray), .int .i64 0, .int .i64 0]) (t := 29) ?hr ?_; (case hd => rfl); (case hg => rfl); (case hr => first | (go_simp; done) | (go_simp; rfl)); intro gb317 hg w35 hbox hb; have n0_ := Aside0.mk (below_step qne0_ hb); have n1_ := Aside0.mk (hbox); have n2_ := Aside0.mk ((by rw [hg]; exact (below_size qne0_) : w.heap.size ≤ gb317)); have n3_ := Aside0.mk ((by rw [hg]; exact (below_size qne0_) : w.heap.size ≤ gb317)); clear HB; have HB := n0_; have BK317 := n1_; have GW317 := n2_; have GE317 := n3_; clear n0_ n1_ n2_ n3_; clear hb hbox hg) | (have ztk48 := tk48; clear tk48 ztk48; (with_reducible refine gate_dst (N := 8) rfl ?_); refine box_event ?hg (N := 8) ?hd (cs := #[.int .u8 0, .bool false, .string (⟨#[]⟩ : ByteArray), .int .i64 0, .int .i64 0]) (t := 29) ?hr ?_; (case hd => rfl); (case hg => rfl); (case hr => first | (go_simp; done) | (go_simp; rfl)); intro gb318 hg w36 hbox hb; have n0_ := Aside0.mk (blk_below (g := gb317) (o := .cells #[.int .u8 0, .bool false, .string (⟨#[]⟩ : ByteArray), .int .i64 0, .int .i64 0] 29 (0, 0)) qne35_ hb); have n1_ := Aside0.mk (below_step qne38_ hb); have n2_ := Aside0.mk (hbox); have n3_ := Aside0.mk ((by rw [hg]; exact (below_size qne38_) : w.heap.size ≤ gb318)); have n4_ := Aside0.mk ((by rw [hg]; exact (below_size qne38_) : w.heap.size ≤ gb318)); have n5_ := Aside0.mk ((by rw [hg]; exact Nat.ne_of_lt (blk_lt (g := gb317) (o := .cells #[.int .u8 0, .bool false, .string (⟨#[]⟩ : ByteArray), .int .i64 0, .int .i64 0] 29 (0, 0)) qne35_) : gb317 ≠ gb318)); have n6_ := Aside0.mk ((by rw [hg]; exact Nat.ne_of_gt (blk_lt (g := gb317) (o := .cells #[.int .u8 0, .bool false, .string (⟨#[]⟩ : ByteArray), .int .i64 0, .int .i64 0] 29 (0, 0)) qne35_) : gb318 ≠ gb317)); clear BK317; clear HB; have BK317 := n0_; have HB := n1_; have BK318 := n2_; have GW318 := n3_; have GE318 := n4_; have NB317_318 := n5_; have NB318_317 := n6_; clear n0_ n1_ n2_ n3_ n4_ n5_ n6_; clear hb hbox hg; have hnb37 := NB317_318.out; have hnc37 := NB318_317.out; have hcz38_0 : w36.cell? ⟨gb317, 0, none⟩ = some (.int .u8 0) := (blk_cell BK317.out 0).trans rfl; have hcz38_1 : w36.cell? ⟨gb317, 1, none⟩ = some (.bool false) := (blk_cell BK317.out 1).trans rfl; have hcz38_2 : w36.cell? ⟨gb317, 2, none⟩ = some (.string (⟨#[]⟩ : ByteArray)) := (blk_cell BK317.out 2).trans rfl; have hcz38_3 : w36.cell? ⟨gb317, 3, none⟩ = some (.int .i64 0) := (blk_cell BK317.out 3).trans rfl; have hcz38_4 : w36.cell? ⟨gb317, 4, none⟩ = some (.int .i64 0) := (blk_cell BK317.out 4).trans rfl; have hfz38_0 := blk_frozen BK317.out 0; have hfz38_1 := blk_frozen BK317.out 1; have hfz38_2 := blk_frozen BK317.out 2; have hfz38_3 := blk_frozen BK317.out 3; have hfz38_4 := blk_frozen BK317.out 4; have hcz39_0 : w36.cell? ⟨gb318, 0, none⟩ = some (.int .u8 0) := (blk_cell BK318.out 0).trans rfl; have hcz39_1 : w36.cell? ⟨gb318, 1, none⟩ = some (.bool false) := (blk_cell BK318.out 1).trans rfl; have hcz39_2 : w36.cell? ⟨gb318, 2, none⟩ = some (.string (⟨#[]⟩ : ByteArray)) := (blk_cell BK318.out 2).trans rfl; have hcz39_3 : w36.cell? ⟨gb318, 3, none⟩ = some (.int .i64 0) := (blk_cell BK318.out 3).trans rfl; have hcz39_4 : w36.cell? ⟨gb318, 4, none⟩ = some (.int .i64 0) := (blk_cell BK318.out 4).trans rfl; have hfz39_0 := blk_frozen BK318.out 0; have hfz39_1 := blk_frozen BK318.out 1; have hfz39_2 := blk_frozen BK318.out 2; have hfz39_3 := blk_frozen BK318.out 3; have hfz39_4 := blk_frozen BK318.out 4))
        have n0_ : Aside0 (((((((((((w36.setCell ⟨gb317, 0, none⟩ (.int .u8 t307)).setCell ⟨gb317, 1, none⟩ (.bool t308)).setCell ⟨gb317, 2, none⟩ (.string t309)).setCell ⟨gb317, 3, none⟩ (.int .i64 t310)).setCell ⟨gb317, 4, none⟩ (.int .i64 t311)).setCell ⟨gb318, 0, none⟩ (.int .u8 t312)).setCell ⟨gb318, 1, none⟩ (.bool t313)).setCell ⟨gb318, 2, none⟩ (.string t314)).setCell ⟨gb318, 3, none⟩ (.int .i64 t315)).setCell ⟨gb318, 4, none⟩ (.int .i64 t316)).heap[gb317]? = some (.cells #[.int .u8 t307, .bool t308, .string t309, .int .i64 t310, .int .i64 t311] 29 (0, 0))) := ⟨by (with_reducible repeat (first | refine blk_drewN ?_ _ | refine blk_drew ?_ | refine blk_alloc ?_ _)); refine blk_far ?_ NB317_318.out _; (with_reducible repeat (first | refine blk_drewN ?_ _ | refine blk_drew ?_ | refine blk_alloc ?_ _)); refine blk_far ?_ NB317_318.out _; (with_reducible repeat (first | refine blk_drewN ?_ _ | refine blk_drew ?_ | refine blk_alloc ?_ _)); refine blk_far ?_ NB317_318.out _; (with_reducible repeat (first | refine blk_drewN ?_ _ | refine blk_drew ?_ | refine blk_alloc ?_ _)); refine blk_far ?_ NB317_318.out _; (with_reducible repeat (first | refine blk_drewN ?_ _ | refine blk_drew ?_ | refine blk_alloc ?_ _)); refine blk_far ?_ NB317_318.out _; (with_reducible repeat (first | refine blk_drewN ?_ _ | refine blk_drew ?_ | refine blk_alloc ?_ _)); refine blk_put (cs := #[.int .u8 t307, .bool t308, .string t309, .int .i64 t310, .int .i64 0]) ?_ 4 _ rfl; (with_reducible repeat (first | refine blk_drewN ?_ _ | refine blk_drew ?_ | refine blk_alloc ?_ _)); refine blk_put (cs := #[.int .u8 t307, .bool t308, .string t309, .int .i64 0, .int .i64 0]) ?_ 3 _ rfl; (with_reducible repeat (first | refine blk_drewN ?_ _ | refine blk_drew ?_ | refine blk_alloc ?_ _)); refine blk_put (cs := #[.int .u8 t307, .bool t308, .string (⟨#[]⟩ : ByteArray), .int .i64 0, .int .i64 0]) ?_ 2 _ rfl; (with_reducible repeat (first | refine blk_drewN ?_ _ | refine blk_drew ?_ | refine blk_alloc ?_ _)); refine blk_put (cs := #[.int .u8 t307, .bool false, .string (⟨#[]⟩ : ByteArray), .int .i64 0, .int .i64 0]) ?_ 1 _ rfl; (with_reducible repeat (first | refine blk_drewN ?_ _ | refine blk_drew ?_ | refine blk_alloc ?_ _)); refine blk_put (cs := #[.int .u8 0, .bool false, .string (⟨#[]⟩ : ByteArray), .int .i64 0, .int .i64 0]) ?_ 0 _ rfl; (with_reducible repeat (first | refine blk_drewN ?_ _ | refine blk_drew ?_ | refine blk_alloc ?_ _)); exact BK317.out⟩
        have n1_ : Aside0 (((((((((((w36.setCell ⟨gb317, 0, none⟩ (.int .u8 t307)).setCell ⟨gb317, 1, none⟩ (.bool t308)).setCell ⟨gb317, 2, none⟩ (.string t309)).setCell ⟨gb317, 3, none⟩ (.int .i64 t310)).setCell ⟨gb317, 4, none⟩ (.int .i64 t311)).setCell ⟨gb318, 0, none⟩ (.int .u8 t312)).setCell ⟨gb318, 1, none⟩ (.bool t313)).setCell ⟨gb318, 2, none⟩ (.string t314)).setCell ⟨gb318, 3, none⟩ (.int .i64 t315)).setCell ⟨gb318, 4, none⟩ (.int .i64 t316)).heap[gb318]? = some (.cells #[.int .u8 t312, .bool t313, .string t314, .int .i64 t315, .int .i64 t316] 29 (0, 0))) := ⟨by (with_reducible repeat (first | refine blk_drewN ?_ _ | refine blk_drew ?_ | refine blk_alloc ?_ _)); refine blk_put (cs := #[.int .u8 t312, .bool t313, .string t314, .int .i64 t315, .int .i64 0]) ?_ 4 _ rfl; (with_reducible repeat (first | refine blk_drewN ?_ _ | refine blk_drew ?_ | refine blk_alloc ?_ _)); refine blk_put (cs := #[.int .u8 t312, .bool t313, .string t314, .int .i64 0, .int .i64 0]) ?_ 3 _ rfl; (with_reducible repeat (first | refine blk_drewN ?_ _ | refine blk_drew ?_ | refine blk_alloc ?_ _)); refine blk_put (cs := #[.int .u8 t312, .bool t313, .string (⟨#[]⟩ : ByteArray), .int .i64 0, .int .i64 0]) ?_ 2 _ rfl; (with_reducible repeat (first | refine blk_drewN ?_ _ | refine blk_drew ?_ | refine blk_alloc ?_ _)); refine blk_put (cs := #[.int .u8 t312, .bool false, .string (⟨#[]⟩ : ByteArray), .int .i64 0, .int .i64 0]) ?_ 1 _ rfl; (with_reducible repeat (first | refine blk_drewN ?_ _ | refine blk_drew ?_ | refine blk_alloc ?_ _)); refine blk_put (cs := #[.int .u8 0, .bool false, .string (⟨#[]⟩ : ByteArray), .int .i64 0, .int .i64 0]) ?_ 0 _ rfl; (with_reducible repeat (first | refine blk_drewN ?_ _ | refine blk_drew ?_ | refine blk_alloc ?_ _)); refine blk_far ?_ NB318_317.out _; (with_reducible repeat (first | refine blk_drewN ?_ _ | refine blk_drew ?_ | refine blk_alloc ?_ _)); refine blk_far ?_ NB318_317.out _; (with_reducible repeat (first | refine blk_drewN ?_ _ | refine blk_drew ?_ | refine blk_alloc ?_ _)); refine blk_far ?_ NB318_317.out _; (with_reducible repeat (first | refine blk_drewN ?_ _ | refine blk_drew ?_ | refine blk_alloc ?_ _)); refine blk_far ?_ NB318_317.out _; (with_reducible repeat (first | refine blk_drewN ?_ _ | refine blk_drew ?_ | refine blk_alloc ?_ _)); refine blk_far ?_ NB318_317.out _; (with_reducible repeat (first | refine blk_drewN ?_ _ | refine blk_drew ?_ | refine blk_alloc ?_ _)); exact BK318.out⟩
        have n2_ : Aside0 (Below w.heap.size w ((((((((((w36.setCell ⟨gb317, 0, none⟩ (.int .u8 t307)).setCell ⟨gb317, 1, none⟩ (.bool t308)).setCell ⟨gb317, 2, none⟩ (.string t309)).setCell ⟨gb317, 3, none⟩ (.int .i64 t310)).setCell ⟨gb317, 4, none⟩ (.int .i64 t311)).setCell ⟨gb318, 0, none⟩ (.int .u8 t312)).setCell ⟨gb318, 1, none⟩ (.bool t313)).setCell ⟨gb318, 2, none⟩ (.string t314)).setCell ⟨gb318, 3, none⟩ (.int .i64 t315)).setCell ⟨gb318, 4, none⟩ (.int .i64 t316))) := ⟨qne31_⟩
        (try clear BK317); (try clear BK318); (try clear HB)
        generalize ((((((((((w36.setCell ⟨gb317, 0, none⟩ (.int .u8 t307)).setCell ⟨gb317, 1, none⟩ (.bool t308)).setCell ⟨gb317, 2, none⟩ (.string t309)).setCell ⟨gb317, 3, none⟩ (.int .i64 t310)).setCell ⟨gb317, 4, none⟩ (.int .i64 t311)).setCell ⟨gb318, 0, none⟩ (.int .u8 t312)).setCell ⟨gb318, 1, none⟩ (.bool t313)).setCell ⟨gb318, 2, none⟩ (.string t314)).setCell ⟨gb318, 3, none⟩ (.int .i64 t315)).setCell ⟨gb318, 4, none⟩ (.int .i64 t316)) = w40 at n0_ n1_ n2_ ⊢
        have BK317 := n0_
        have BK318 := n1_
        have HB := n2_
        clear n0_ n1_ n2_
        have n0_ := Aside0.mk (blk_drew BK317.out)
        have n1_ := Aside0.mk (blk_drew BK318.out)
        have n2_ := Aside0.mk (below_drew1 HB.out)
        clear BK317
        clear BK318
        clear HB
        have BK317 := n0_
        have BK318 := n1_
        have HB := n2_
        clear n0_ n1_ n2_
        refine start_ (n := 16) (S := fun w' => w'.cell? ⟨gb317, 0, none⟩ = some (.int .u8 t307) ∧ w'.cell? ⟨gb317, 1, none⟩ = some (.bool t308) ∧ w'.cell? ⟨gb317, 2, none⟩ = some (.string t309) ∧ w'.cell? ⟨gb317, 3, none⟩ = some (.int .i64 t310) ∧ w'.cell? ⟨gb317, 4, none⟩ = some (.int .i64 t311) ∧ w'.cell? ⟨gb318, 0, none⟩ = some (.int .u8 t312) ∧ w'.cell? ⟨gb318, 1, none⟩ = some (.bool t313) ∧ w'.cell? ⟨gb318, 2, none⟩ = some (.string t314) ∧ w'.cell? ⟨gb318, 3, none⟩ = some (.int .i64 t315) ∧ w'.cell? ⟨gb318, 4, none⟩ = some (.int .i64 t316)) (ds := []) #[false, false, false, false, false, false, false, false, false, false, false, false, false, false, false, false] (by kernel_rfl) rfl rfl ⟨(blk_cell BK317.out 0).trans rfl, (blk_cell BK317.out 1).trans rfl, (blk_cell BK317.out 2).trans rfl, (blk_cell BK317.out 3).trans rfl, (blk_cell BK317.out 4).trans rfl, (blk_cell BK318.out 0).trans rfl, (blk_cell BK318.out 1).trans rfl, (blk_cell BK318.out 2).trans rfl, (blk_cell BK318.out 3).trans rfl, (blk_cell BK318.out 4).trans rfl⟩ (fun hHeld => ?_); refine with_tabW numeral_Compare.tab13 numeral_Compare.bits13 (fun HT_ HW_ => ?_)
        generalize w40.drew = w41 at BK317 BK318 HB hHeld ⊢
        refine pure_ (i := 0) (N := some 48) (v := ?_) (a' := ?_) #[true, false, false, false, false, false, false, false, false, false, false, false, false, false, false, false] rfl rfl (any_of HT_.out (by kernel_rfl)) (fun _ _ _ h => h) (Or.inl ⟨by rfl, ?_⟩) ?_ ?_
        rotate_left
        ·
         intro w'
         go_simp
         with_reducible rfl
        rotate_left
        ·
         simp only [Act.put, List.setIfInBounds_toArray, List.set_cons_zero, List.set_cons_succ, i64_w, i32_w]
         rfl
        refine pure_ (i := 2) (N := some 50) (v := ?_) (a' := ?_) #[true, false, true, false, false, false, false, false, false, false, false, false, false, false, false, false] rfl rfl (any_of HT_.out (by kernel_rfl)) (fun _ _ _ h => h) (Or.inl ⟨by rfl, ?_⟩) ?_ ?_
        rotate_left
        ·
         intro w'
         go_simp
         with_reducible rfl
        rotate_left
        ·
         simp only [Act.put, List.setIfInBounds_toArray, List.set_cons_zero, List.set_cons_succ, i64_w, i32_w]
         rfl
        refine pure_ (i := 4) (N := some 52) (v := ?_) (a' := ?_) #[true, false, true, false, true, false, false, false, false, false, false, false, false, false, false, false] rfl rfl (any_of HT_.out (by kernel_rfl)) (fun _ _ _ h => h) (Or.inl ⟨by rfl, ?_⟩) ?_ ?_
        rotate_left
        ·
         intro w'
         go_simp
         with_reducible rfl
        rotate_left
        ·
         simp only [Act.put, List.setIfInBounds_toArray, List.set_cons_zero, List.set_cons_succ, i64_w, i32_w]
         rfl
        refine pure_ (i := 7) (N := some 55) (v := ?_) (a' := ?_) #[true, false, true, false, true, false, false, true, false, false, false, false, false, false, false, false] rfl rfl (any_of HT_.out (by kernel_rfl)) (fun _ _ _ h => h) (Or.inl ⟨by rfl, ?_⟩) ?_ ?_
        rotate_left
        ·
         intro w'
         go_simp
         with_reducible rfl
        rotate_left
        ·
         simp only [Act.put, List.setIfInBounds_toArray, List.set_cons_zero, List.set_cons_succ, i64_w, i32_w]
         rfl
        refine pure_ (i := 9) (N := some 57) (v := ?_) (a' := ?_) #[true, false, true, false, true, false, false, true, false, true, false, false, false, false, false, false] rfl rfl (any_of HT_.out (by kernel_rfl)) (fun _ _ _ h => h) (Or.inl ⟨by rfl, ?_⟩) ?_ ?_
        rotate_left
        ·
         intro w'
         go_simp
         with_reducible rfl
        rotate_left
        ·
         simp only [Act.put, List.setIfInBounds_toArray, List.set_cons_zero, List.set_cons_succ, i64_w, i32_w]
         rfl
        refine pure_ (i := 11) (N := some 59) (v := ?_) (a' := ?_) #[true, false, true, false, true, false, false, true, false, true, false, true, false, false, false, false] rfl rfl (any_of HT_.out (by kernel_rfl)) (fun _ _ _ h => h) (Or.inl ⟨by rfl, ?_⟩) ?_ ?_
        rotate_left
        ·
         intro w'
         go_simp
         with_reducible rfl
        rotate_left
        ·
         simp only [Act.put, List.setIfInBounds_toArray, List.set_cons_zero, List.set_cons_succ, i64_w, i32_w]
         rfl
        refine take_ (i := 1) (N := some 49) (v := ?_) (a' := ?_) #[true, true, true, false, true, false, false, true, false, true, false, true, false, false, false, false] rfl rfl (take_ofW HT_.out HW_.out (by kernel_rfl)) (fun _ _ _ h => h) (Or.inl ⟨by rfl, ?_⟩) hHeld ?_ ?_
        rotate_left
        ·
         rintro w' ⟨s0, s1, s2, s3, s4, s5, s6, s7, s8, s9⟩
         go_simp
         with_reducible rfl
        rotate_left
        ·
         simp only [Act.put, List.setIfInBounds_toArray, List.set_cons_zero, List.set_cons_succ, i64_w, i32_w]
         rfl
        refine take_ (i := 3) (N := some 51) (v := ?_) (a' := ?_) #[true, true, true, true, true, false, false, true, false, true, false, true, false, false, false, false] rfl rfl (take_ofW HT_.out HW_.out (by kernel_rfl)) (fun _ _ _ h => h) (Or.inl ⟨by rfl, ?_⟩) hHeld ?_ ?_
        rotate_left
        ·
         rintro w' ⟨s0, s1, s2, s3, s4, s5, s6, s7, s8, s9⟩
         go_simp
         with_reducible rfl
        rotate_left
        ·
         simp only [Act.put, List.setIfInBounds_toArray, List.set_cons_zero, List.set_cons_succ, i64_w, i32_w]
         rfl
        refine take_ (i := 5) (N := some 53) (v := ?_) (a' := ?_) #[true, true, true, true, true, true, false, true, false, true, false, true, false, false, false, false] rfl rfl (take_ofW HT_.out HW_.out (by kernel_rfl)) (fun _ _ _ h => h) (Or.inl ⟨by rfl, ?_⟩) hHeld ?_ ?_
        rotate_left
        ·
         rintro w' ⟨s0, s1, s2, s3, s4, s5, s6, s7, s8, s9⟩
         go_simp
         with_reducible rfl
        rotate_left
        ·
         simp only [Act.put, List.setIfInBounds_toArray, List.set_cons_zero, List.set_cons_succ, i64_w, i32_w]
         rfl
        refine take_ (i := 8) (N := some 56) (v := ?_) (a' := ?_) #[true, true, true, true, true, true, false, true, true, true, false, true, false, false, false, false] rfl rfl (take_ofW HT_.out HW_.out (by kernel_rfl)) (fun _ _ _ h => h) (Or.inl ⟨by rfl, ?_⟩) hHeld ?_ ?_
        rotate_left
        ·
         rintro w' ⟨s0, s1, s2, s3, s4, s5, s6, s7, s8, s9⟩
         go_simp
         with_reducible rfl
        rotate_left
        ·
         simp only [Act.put, List.setIfInBounds_toArray, List.set_cons_zero, List.set_cons_succ, i64_w, i32_w]
         rfl
        refine take_ (i := 10) (N := some 58) (v := ?_) (a' := ?_) #[true, true, true, true, true, true, false, true, true, true, true, true, false, false, false, false] rfl rfl (take_ofW HT_.out HW_.out (by kernel_rfl)) (fun _ _ _ h => h) (Or.inl ⟨by rfl, ?_⟩) hHeld ?_ ?_
        rotate_left
        ·
         rintro w' ⟨s0, s1, s2, s3, s4, s5, s6, s7, s8, s9⟩
         go_simp
         with_reducible rfl
        rotate_left
        ·
         simp only [Act.put, List.setIfInBounds_toArray, List.set_cons_zero, List.set_cons_succ, i64_w, i32_w]
         rfl
        refine take_ (i := 12) (N := some 60) (v := ?_) (a' := ?_) #[true, true, true, true, true, true, false, true, true, true, true, true, true, false, false, false] rfl rfl (take_ofW HT_.out HW_.out (by kernel_rfl)) (fun _ _ _ h => h) (Or.inl ⟨by rfl, ?_⟩) hHeld ?_ ?_
        rotate_left
        ·
         rintro w' ⟨s0, s1, s2, s3, s4, s5, s6, s7, s8, s9⟩
         go_simp
         with_reducible rfl
        rotate_left
        ·
         simp only [Act.put, List.setIfInBounds_toArray, List.set_cons_zero, List.set_cons_succ, i64_w, i32_w]
         rfl
        refine one_ (i := 6) (N := some 54) #[true, true, true, true, true, true, true, true, true, true, true, true, true, false, false, false] rfl rfl (one_of HT_.out (by kernel_rfl)) (by decide) (fun K hK => ?_)
        refine goes_ Tryd.func54 (by kernel_rfl) rfl #[.bool t308, .string t309, .int .i64 t310, .int .i64 0] (by rfl) rfl rfl qne1_ ?_
        with_reducible refine (numeral_sizeOf.calls t308 t309 t310 0 t320 t321 t322 t323 _ A30.out).mono ?_
        rintro e w42 ⟨rfl, hb⟩
        refine ⟨_, rfl, ?_⟩
        have n0_ := Aside0.mk (blk_below (g := gb317) (o := .cells #[.int .u8 t307, .bool t308, .string t309, .int .i64 t310, .int .i64 t311] 29 (0, 0)) qne35_ hb)
        have n1_ := Aside0.mk (blk_below (g := gb318) (o := .cells #[.int .u8 t312, .bool t313, .string t314, .int .i64 t315, .int .i64 t316] 29 (0, 0)) qne56_ hb)
        have n2_ := Aside0.mk (below_step qne31_ hb)
        clear BK317
        clear BK318
        clear HB
        have BK317 := n0_
        have BK318 := n1_
        have HB := n2_
        clear n0_ n1_ n2_
        (try clear hb); (try clear hb2); (try clear hk); (try clear hi)
        refine hK.out _ _ ⟨(blk_cell BK317.out 0).trans rfl, (blk_cell BK317.out 1).trans rfl, (blk_cell BK317.out 2).trans rfl, (blk_cell BK317.out 3).trans rfl, (blk_cell BK317.out 4).trans rfl, (blk_cell BK318.out 0).trans rfl, (blk_cell BK318.out 1).trans rfl, (blk_cell BK318.out 2).trans rfl, (blk_cell BK318.out 3).trans rfl, (blk_cell BK318.out 4).trans rfl⟩ (fun hHeld => ?_)
        clear hK K
        refine norm_ (a' := ?_) ?_ ?_
        rotate_left
        ·
         show Act.put _ (some 54) _ = _
         simp only [Act.put, List.setIfInBounds_toArray, List.set_cons_zero, List.set_cons_succ, i64_w, i32_w]
         rfl
        refine one_ (i := 13) (N := some 61) #[true, true, true, true, true, true, true, true, true, true, true, true, true, true, false, false] rfl rfl (one_of HT_.out (by kernel_rfl)) (by decide) (fun K hK => ?_)
        refine goes_ Tryd.func54 (by kernel_rfl) rfl #[.bool t313, .string t314, .int .i64 t315, .int .i64 0] (by rfl) rfl rfl qne1_ ?_
        with_reducible refine (numeral_sizeOf.calls t313 t314 t315 0 t324 t325 t326 t327 _ A31.out).mono ?_
        rintro e w43 ⟨rfl, hb⟩
        refine ⟨_, rfl, ?_⟩
        have n0_ := Aside0.mk (blk_below (g := gb317) (o := .cells #[.int .u8 t307, .bool t308, .string t309, .int .i64 t310, .int .i64 t311] 29 (0, 0)) qne35_ hb)
        have n1_ := Aside0.mk (blk_below (g := gb318) (o := .cells #[.int .u8 t312, .bool t313, .string t314, .int .i64 t315, .int .i64 t316] 29 (0, 0)) qne56_ hb)
        have n2_ := Aside0.mk (below_step qne31_ hb)
        clear BK317
        clear BK318
        clear HB
        have BK317 := n0_
        have BK318 := n1_
        have HB := n2_
        clear n0_ n1_ n2_
        (try clear hb); (try clear hb2); (try clear hk); (try clear hi)
        refine hK.out _ _ ⟨(blk_cell BK317.out 0).trans rfl, (blk_cell BK317.out 1).trans rfl, (blk_cell BK317.out 2).trans rfl, (blk_cell BK317.out 3).trans rfl, (blk_cell BK317.out 4).trans rfl, (blk_cell BK318.out 0).trans rfl, (blk_cell BK318.out 1).trans rfl, (blk_cell BK318.out 2).trans rfl, (blk_cell BK318.out 3).trans rfl, (blk_cell BK318.out 4).trans rfl⟩ (fun hHeld => ?_)
        clear hK K
        refine norm_ (a' := ?_) ?_ ?_
        rotate_left
        ·
         show Act.put _ (some 61) _ = _
         simp only [Act.put, List.setIfInBounds_toArray, List.set_cons_zero, List.set_cons_succ, i64_w, i32_w]
         rfl
        refine one_ (i := 14) (N := some 62) #[true, true, true, true, true, true, true, true, true, true, true, true, true, true, true, false] rfl rfl (one_of HT_.out (by kernel_rfl)) (by decide) (fun K hK => ?_)
        refine goes_ Tryd.func49 (by kernel_rfl) rfl #[.agg #[.int .i64 t320, .int .i64 t321, .int .i64 t322, .string t323], .agg #[.int .i64 t324, .int .i64 t325, .int .i64 t326, .string t327]] (by rfl) rfl rfl qne1_ ?_
        with_reducible refine (numeral_order.calls kj3 t320 t321 t322 t323 t324 t325 t326 t327 t328 _ A32.out).mono ?_
        rintro e w44 ⟨rfl, hb⟩
        refine ⟨_, rfl, ?_⟩
        have n0_ := Aside0.mk (blk_below (g := gb317) (o := .cells #[.int .u8 t307, .bool t308, .string t309, .int .i64 t310, .int .i64 t311] 29 (0, 0)) qne35_ hb)
        have n1_ := Aside0.mk (blk_below (g := gb318) (o := .cells #[.int .u8 t312, .bool t313, .string t314, .int .i64 t315, .int .i64 t316] 29 (0, 0)) qne56_ hb)
        have n2_ := Aside0.mk (below_step qne31_ hb)
        clear BK317
        clear BK318
        clear HB
        have BK317 := n0_
        have BK318 := n1_
        have HB := n2_
        clear n0_ n1_ n2_
        (try clear hb); (try clear hb2); (try clear hk); (try clear hi)
        refine hK.out _ _ ⟨(blk_cell BK317.out 0).trans rfl, (blk_cell BK317.out 1).trans rfl, (blk_cell BK317.out 2).trans rfl, (blk_cell BK317.out 3).trans rfl, (blk_cell BK317.out 4).trans rfl, (blk_cell BK318.out 0).trans rfl, (blk_cell BK318.out 1).trans rfl, (blk_cell BK318.out 2).trans rfl, (blk_cell BK318.out 3).trans rfl, (blk_cell BK318.out 4).trans rfl⟩ (fun hHeld => ?_)
        clear hK K
        refine norm_ (a' := ?_) ?_ ?_
        rotate_left
        ·
         show Act.put _ (some 62) _ = _
         simp only [Act.put, List.setIfInBounds_toArray, List.set_cons_zero, List.set_cons_succ, i64_w, i32_w]
         rfl
        refine pure_ (i := 15) (N := some 6) (v := ?_) (a' := ?_) #[true, true, true, true, true, true, true, true, true, true, true, true, true, true, true, true] rfl rfl (any_of HT_.out (by kernel_rfl)) (fun _ _ _ h => h) (Or.inl ⟨by rfl, ?_⟩) ?_ ?_
        rotate_left
        ·
         intro w'
         go_simp
         with_reducible rfl
        rotate_left
        ·
         simp only [Act.put, List.setIfInBounds_toArray, List.set_cons_zero, List.set_cons_succ, i64_w, i32_w]
         rfl
        refine done_ (done_of HT_.out (by kernel_rfl)) ?_
        try go_wp2
        go_ret
        exact ⟨qne5_, qne31_⟩
       ·
        rw [if_neg c29] at H
        have c29b0 : (t307 == t312) = false := beq_eq_false_iff_ne.mpr c29
        have c29b1 : (t307 != t312) = true := bne_iff_ne.mpr c29
        replace H := Option.bind_eq_some_iff.mp H
        obtain ⟨t319, A490, H⟩ := H
        replace H : (some t319) = some r := H
        have A49 := Aside0.mk A490
        clear A490
        obtain rfl := Option.some.inj H
        have tk57 : True := trivial; have tk58 : True := trivial; have tk59 : True := trivial; have tk60 : True := trivial; have tk61 : True := trivial
        go_wp2_with (first | (have ztk57 := tk57; clear tk57 ztk57; (with_reducible refine gate_callee (f := 17) rfl ?_); refine goesL_ (some 35) rfl rfl Tryd.func17 (by kernel_rfl) rfl #[.string a1] rfl qne1_ ?_; (with_reducible refine (numeral_General.calls kj3 a1 t307 t308 t309 t310 t311 _ A27.out).mono ?_); rintro e w50 ⟨rfl, hb⟩; refine ⟨_, rfl, ?_⟩; have n0_ := Aside0.mk (below_step qne0_ hb); clear HB; have HB := n0_; clear n0_; (try clear hb); (try clear hb2); (try clear hk); (try clear hi)) | (have ztk58 := tk58; clear tk58 ztk58; (with_reducible refine gate_callee (f := 17) rfl ?_); refine goesL_ (some 37) rfl rfl Tryd.func17 (by kernel_rfl) rfl #[.string a2] rfl qne1_ ?_; (with_reducible refine (numeral_General.calls kj3 a2 t312 t313 t314 t315 t316 _ A28.out).mono ?_); rintro e w51 ⟨rfl, hb⟩; refine ⟨_, rfl, ?_⟩; have n0_ := Aside0.mk (below_step qne0_ hb); clear HB; have HB := n0_; clear n0_; (try clear hb); (try clear hb2); (try clear hk); (try clear hi)) | (have ztk59 := tk59; clear tk59 ztk59; (with_reducible refine gate_dst (N := 7) rfl ?_); refine box_event ?hg (N := 7) ?hd (cs := #[.int .u8 0, .bool false, .string (⟨#[]⟩ : ByteArray), .int .i64 0, .int .i64 0]) (t := 29) ?hr ?_; (case hd => rfl); (case hg => rfl); (case hr => first | (go_simp; done) | (go_simp; rfl)); intro gb317 hg w52 hbox hb; have n0_ := Aside0.mk (below_step qne0_ hb); have n1_ := Aside0.mk (hbox); have n2_ := Aside0.mk ((by rw [hg]; exact (below_size qne0_) : w.heap.size ≤ gb317)); have n3_ := Aside0.mk ((by rw [hg]; exact (below_size qne0_) : w.heap.size ≤ gb317)); clear HB; have HB := n0_; have BK317 := n1_; have GW317 := n2_; have GE317 := n3_; clear n0_ n1_ n2_ n3_; clear hb hbox hg) | (have ztk60 := tk60; clear tk60 ztk60; (with_reducible refine gate_dst (N := 8) rfl ?_); refine box_event ?hg (N := 8) ?hd (cs := #[.int .u8 0, .bool false, .string (⟨#[]⟩ : ByteArray), .int .i64 0, .int .i64 0]) (t := 29) ?hr ?_; (case hd => rfl); (case hg => rfl); (case hr => first | (go_simp; done) | (go_simp; rfl)); intro gb318 hg w53 hbox hb; have n0_ := Aside0.mk (blk_below (g := gb317) (o := .cells #[.int .u8 0, .bool false, .string (⟨#[]⟩ : ByteArray), .int .i64 0, .int .i64 0] 29 (0, 0)) qne35_ hb); have n1_ := Aside0.mk (below_step qne38_ hb); have n2_ := Aside0.mk (hbox); have n3_ := Aside0.mk ((by rw [hg]; exact (below_size qne38_) : w.heap.size ≤ gb318)); have n4_ := Aside0.mk ((by rw [hg]; exact (below_size qne38_) : w.heap.size ≤ gb318)); have n5_ := Aside0.mk ((by rw [hg]; exact Nat.ne_of_lt (blk_lt (g := gb317) (o := .cells #[.int .u8 0, .bool false, .string (⟨#[]⟩ : ByteArray), .int .i64 0, .int .i64 0] 29 (0, 0)) qne35_) : gb317 ≠ gb318)); have n6_ := Aside0.mk ((by rw [hg]; exact Nat.ne_of_gt (blk_lt (g := gb317) (o := .cells #[.int .u8 0, .bool false, .string (⟨#[]⟩ : ByteArray), .int .i64 0, .int .i64 0] 29 (0, 0)) qne35_) : gb318 ≠ gb317)); clear BK317; clear HB; have BK317 := n0_; have HB := n1_; have BK318 := n2_; have GW318 := n3_; have GE318 := n4_; have NB317_318 := n5_; have NB318_317 := n6_; clear n0_ n1_ n2_ n3_ n4_ n5_ n6_; clear hb hbox hg; have hnb54 := NB317_318.out; have hnc54 := NB318_317.out; have hcz55_0 : w53.cell? ⟨gb317, 0, none⟩ = some (.int .u8 0) := (blk_cell BK317.out 0).trans rfl; have hcz55_1 : w53.cell? ⟨gb317, 1, none⟩ = some (.bool false) := (blk_cell BK317.out 1).trans rfl; have hcz55_2 : w53.cell? ⟨gb317, 2, none⟩ = some (.string (⟨#[]⟩ : ByteArray)) := (blk_cell BK317.out 2).trans rfl; have hcz55_3 : w53.cell? ⟨gb317, 3, none⟩ = some (.int .i64 0) := (blk_cell BK317.out 3).trans rfl; have hcz55_4 : w53.cell? ⟨gb317, 4, none⟩ = some (.int .i64 0) := (blk_cell BK317.out 4).trans rfl; have hfz55_0 := blk_frozen BK317.out 0; have hfz55_1 := blk_frozen BK317.out 1; have hfz55_2 := blk_frozen BK317.out 2; have hfz55_3 := blk_frozen BK317.out 3; have hfz55_4 := blk_frozen BK317.out 4; have hcz56_0 : w53.cell? ⟨gb318, 0, none⟩ = some (.int .u8 0) := (blk_cell BK318.out 0).trans rfl; have hcz56_1 : w53.cell? ⟨gb318, 1, none⟩ = some (.bool false) := (blk_cell BK318.out 1).trans rfl; have hcz56_2 : w53.cell? ⟨gb318, 2, none⟩ = some (.string (⟨#[]⟩ : ByteArray)) := (blk_cell BK318.out 2).trans rfl; have hcz56_3 : w53.cell? ⟨gb318, 3, none⟩ = some (.int .i64 0) := (blk_cell BK318.out 3).trans rfl; have hcz56_4 : w53.cell? ⟨gb318, 4, none⟩ = some (.int .i64 0) := (blk_cell BK318.out 4).trans rfl; have hfz56_0 := blk_frozen BK318.out 0; have hfz56_1 := blk_frozen BK318.out 1; have hfz56_2 := blk_frozen BK318.out 2; have hfz56_3 := blk_frozen BK318.out 3; have hfz56_4 := blk_frozen BK318.out 4) | (have ztk61 := tk61; clear tk61 ztk61; (with_reducible refine gate_callee (f := 53) rfl ?_); refine goesL_ (some 47) rfl rfl Tryd.func53 (by kernel_rfl) rfl #[.int .u8 t307, .int .u8 t312] rfl qne1_ ?_; (with_reducible refine (api_Class_53.calls t307 t312 t319 _ A49.out).mono ?_); rintro e w' ⟨rfl, ⟨nd, rfl⟩⟩; refine ⟨_, rfl, ?_⟩))
        go_ret
        exact ⟨qne5_, qne31_⟩
      ·
       rw [if_neg c26] at H
       have c26b0 : (a0 == 32) = false := beq_eq_false_iff_ne.mpr c26
       have c26b1 : (a0 != 32) = true := bne_iff_ne.mpr c26
       replace H := Option.bind_eq_some_iff.mp H
       obtain ⟨t329, A620, H⟩ := H
       replace H : (some t329) = some r := H
       have A62 := Aside0.mk A620
       clear A620
       obtain rfl := Option.some.inj H
       go_wp2_with (first | ((with_reducible refine gate_callee (f := 55) rfl ?_); refine goesL_ (some 65) rfl rfl Tryd.func55 (by kernel_rfl) rfl #[.string a1, .string a2] rfl qne1_ ?_; (with_reducible refine (strings_Compare.calls a1 a2 t329 _ A62.out).mono ?_); rintro e w' ⟨rfl, ⟨nd, rfl⟩⟩; refine ⟨_, rfl, ?_⟩))
       go_ret
       exact ⟨qne5_, qne0_⟩


/-! ### milllaw3_alive: function 25 -/
def milllaw3_alive.f (k : Nat)  : Option (Bool) := (numeral_Decimal.f k (⟨#[45, 49, 50, 46, 53, 120]⟩ : ByteArray)).bind fun bt330 => (if bt330.1 = true then (if bt330.2.1.toList = ([49, 50] : List UInt8) then (if bt330.2.2.1.toList = ([53] : List UInt8) then (if bt330.2.2.2 = 5 then ((numeral_Compare.f k 16 (⟨#[57]⟩ : ByteArray) (⟨#[49, 48]⟩ : ByteArray)).bind fun t335 => (if t335 = (-1) then ((numeral_Compare.f k 256 (⟨#[98]⟩ : ByteArray) (⟨#[97]⟩ : ByteArray)).bind fun t336 => (some (t336 == 1))) else (some false))) else (some false)) else (some false)) else (some false)) else (some false))
set_option maxHeartbeats 8000000 in
set_option maxRecDepth 100000 in
theorem milllaw3_alive.calls (k : Nat)  (r : Bool) (w : World) (hGL : GOK w) (h : milllaw3_alive.f k  = some r) :
  Calls Tryd.prog 25 #[] w fun e w' => e = .returned (.bool r) ∧ Below w.heap.size w w' := by
 have hu25 := Tryd.underlying25
 have HGL := Aside0.mk hGL
 clear hGL
 have HB := Aside0.mk (Below.refl w.heap.size w)
 have H : ((numeral_Decimal.f k (⟨#[45, 49, 50, 46, 53, 120]⟩ : ByteArray)).bind fun bt330 => (if bt330.1 = true then (if bt330.2.1.toList = ([49, 50] : List UInt8) then (if bt330.2.2.1.toList = ([53] : List UInt8) then (if bt330.2.2.2 = 5 then ((numeral_Compare.f k 16 (⟨#[57]⟩ : ByteArray) (⟨#[49, 48]⟩ : ByteArray)).bind fun t335 => (if t335 = (-1) then ((numeral_Compare.f k 256 (⟨#[98]⟩ : ByteArray) (⟨#[97]⟩ : ByteArray)).bind fun t336 => (some (t336 == 1))) else (some false))) else (some false)) else (some false)) else (some false)) else (some false))) = some r := h
 clear h
 replace H := Option.bind_eq_some_iff.mp H
 obtain ⟨⟨t330, t331, t332, t333⟩, A10, H⟩ := H
 replace H : (if t330 = true then (if t331.toList = ([49, 50] : List UInt8) then (if t332.toList = ([53] : List UInt8) then (if t333 = 5 then ((numeral_Compare.f k 16 (⟨#[57]⟩ : ByteArray) (⟨#[49, 48]⟩ : ByteArray)).bind fun t335 => (if t335 = (-1) then ((numeral_Compare.f k 256 (⟨#[98]⟩ : ByteArray) (⟨#[97]⟩ : ByteArray)).bind fun t336 => (some (t336 == 1))) else (some false))) else (some false)) else (some false)) else (some false)) else (some false)) = some r := H
 have A1 := Aside0.mk A10
 clear A10
 by_cases c2 : t330 = true
 ·
  subst c2
  have H1 : (if t331.toList = ([49, 50] : List UInt8) then (if t332.toList = ([53] : List UInt8) then (if t333 = 5 then ((numeral_Compare.f k 16 (⟨#[57]⟩ : ByteArray) (⟨#[49, 48]⟩ : ByteArray)).bind fun t335 => (if t335 = (-1) then ((numeral_Compare.f k 256 (⟨#[98]⟩ : ByteArray) (⟨#[97]⟩ : ByteArray)).bind fun t336 => (some (t336 == 1))) else (some false))) else (some false)) else (some false)) else (some false)) = some r := by rw [if_pos rfl] at H; exact H
  clear H
  have H := H1
  clear H1
  by_cases c3 : t331.toList = ([49, 50] : List UInt8)
  ·
   rw [if_pos c3] at H
   have c3b0 : (t331.toList == ([49, 50] : List UInt8)) = true := beq_iff_eq.mpr c3
   have c3b1 : (t331.toList != ([49, 50] : List UInt8)) = false := bne_eq_false_iff_eq.mpr c3
   clear c3
   by_cases c4 : t332.toList = ([53] : List UInt8)
   ·
    rw [if_pos c4] at H
    have c4b0 : (t332.toList == ([53] : List UInt8)) = true := beq_iff_eq.mpr c4
    have c4b1 : (t332.toList != ([53] : List UInt8)) = false := bne_eq_false_iff_eq.mpr c4
    clear c4
    by_cases c5 : t333 = 5
    ·
     rw [if_pos c5] at H
     have c5b0 : (t333 == 5) = true := beq_iff_eq.mpr c5
     have c5b1 : (t333 != 5) = false := bne_eq_false_iff_eq.mpr c5
     clear c5
     replace H := Option.bind_eq_some_iff.mp H
     obtain ⟨t335, A60, H⟩ := H
     replace H : (if t335 = (-1) then ((numeral_Compare.f k 256 (⟨#[98]⟩ : ByteArray) (⟨#[97]⟩ : ByteArray)).bind fun t336 => (some (t336 == 1))) else (some false)) = some r := H
     have A6 := Aside0.mk A60
     clear A60
     by_cases c7 : t335 = (-1)
     ·
      rw [if_pos c7] at H
      have c7b0 : (t335 == (-1)) = true := beq_iff_eq.mpr c7
      have c7b1 : (t335 != (-1)) = false := bne_eq_false_iff_eq.mpr c7
      clear c7
      replace H := Option.bind_eq_some_iff.mp H
      obtain ⟨t336, A80, H⟩ := H
      replace H : (some (t336 == 1)) = some r := H
      have A8 := Aside0.mk A80
      clear A80
      obtain rfl := Option.some.inj H
      go_enter Tryd.func25, Tryd.ntmps25
      have tk14 : True := trivial; have tk15 : True := trivial; have tk16 : True := trivial; have tk17 : True := trivial
      go_wp2_with (first | (have ztk14 := tk14; clear tk14 ztk14; (with_reducible refine gate_callee (f := 16) rfl ?_); refine goesL_ (some 2) rfl rfl Tryd.func16 (by kernel_rfl) rfl #[.string (⟨#[45, 49, 50, 46, 53, 120]⟩ : ByteArray)] rfl qne1_ ?_; (with_reducible refine (numeral_Decimal.calls k (⟨#[45, 49, 50, 46, 53, 120]⟩ : ByteArray) true t331 t332 t333 _ A1.out).mono ?_); rintro e w9 ⟨rfl, hb⟩; refine ⟨_, rfl, ?_⟩; have n0_ := Aside0.mk (below_step qne0_ hb); clear HB; have HB := n0_; clear n0_; (try clear hb); (try clear hb2); (try clear hk); (try clear hi)) | (have ztk15 := tk15; clear tk15 ztk15; (with_reducible refine gate_dst (N := 1) rfl ?_); refine box_event ?hg (N := 1) ?hd (cs := #[.bool false, .string (⟨#[]⟩ : ByteArray), .string (⟨#[]⟩ : ByteArray), .int .i64 0]) (t := 25) ?hr ?_; (case hd => rfl); (case hg => rfl); (case hr => first | (go_simp; done) | (go_simp; rfl)); intro gb334 hg w10 hbox hb; have n0_ := Aside0.mk (below_step qne0_ hb); have n1_ := Aside0.mk (hbox); have n2_ := Aside0.mk ((by rw [hg]; exact (below_size qne0_) : w.heap.size ≤ gb334)); have n3_ := Aside0.mk ((by rw [hg]; exact (below_size qne0_) : w.heap.size ≤ gb334)); clear HB; have HB := n0_; have BK334 := n1_; have GW334 := n2_; have GE334 := n3_; clear n0_ n1_ n2_ n3_; clear hb hbox hg; have hcz11_0 : w10.cell? ⟨gb334, 0, none⟩ = some (.bool false) := (blk_cell BK334.out 0).trans rfl; have hcz11_1 : w10.cell? ⟨gb334, 1, none⟩ = some (.string (⟨#[]⟩ : ByteArray)) := (blk_cell BK334.out 1).trans rfl; have hcz11_2 : w10.cell? ⟨gb334, 2, none⟩ = some (.string (⟨#[]⟩ : ByteArray)) := (blk_cell BK334.out 2).trans rfl; have hcz11_3 : w10.cell? ⟨gb334, 3, none⟩ = some (.int .i64 0) := (blk_cell BK334.out 3).trans rfl; have hfz11_0 := blk_frozen BK334.out 0; have hfz11_1 := blk_frozen BK334.out 1; have hfz11_2 := blk_frozen BK334.out 2; have hfz11_3 := blk_frozen BK334.out 3) | (have ztk16 := tk16; clear tk16 ztk16; go_at_call 27; (with_reducible refine (numeral_Compare.calls k 16 (⟨#[57]⟩ : ByteArray) (⟨#[49, 48]⟩ : ByteArray) t335 _ ?side1 A6.out).mono ?_); (case side1 => exact GOK.below HGL.out qne21_); rintro e w12 ⟨rfl, hb⟩; have n0_ := Aside0.mk (blk_below (g := gb334) (o := .cells #[.bool true, .string t331, .string t332, .int .i64 t333] 25 (0, 0)) (by (with_reducible repeat (first | refine blk_drewN ?_ _ | refine blk_drew ?_ | refine blk_alloc ?_ _)); refine blk_put (cs := #[.bool true, .string t331, .string t332, .int .i64 0]) ?_ 3 _ rfl; (with_reducible repeat (first | refine blk_drewN ?_ _ | refine blk_drew ?_ | refine blk_alloc ?_ _)); refine blk_put (cs := #[.bool true, .string t331, .string (⟨#[]⟩ : ByteArray), .int .i64 0]) ?_ 2 _ rfl; (with_reducible repeat (first | refine blk_drewN ?_ _ | refine blk_drew ?_ | refine blk_alloc ?_ _)); refine blk_put (cs := #[.bool true, .string (⟨#[]⟩ : ByteArray), .string (⟨#[]⟩ : ByteArray), .int .i64 0]) ?_ 1 _ rfl; (with_reducible repeat (first | refine blk_drewN ?_ _ | refine blk_drew ?_ | refine blk_alloc ?_ _)); refine blk_put (cs := #[.bool false, .string (⟨#[]⟩ : ByteArray), .string (⟨#[]⟩ : ByteArray), .int .i64 0]) ?_ 0 _ rfl; (with_reducible repeat (first | refine blk_drewN ?_ _ | refine blk_drew ?_ | refine blk_alloc ?_ _)); exact BK334.out) hb); have n1_ := Aside0.mk (below_step qne21_ hb); clear BK334; clear HB; have BK334 := n0_; have HB := n1_; clear n0_ n1_; (try clear hb); (try clear hb2); (try clear hk); (try clear hi)) | (have ztk17 := tk17; clear tk17 ztk17; go_at_call 27; (with_reducible refine (numeral_Compare.calls k 256 (⟨#[98]⟩ : ByteArray) (⟨#[97]⟩ : ByteArray) t336 _ ?side1 A8.out).mono ?_); (case side1 => exact GOK.below HGL.out qne21_); rintro e w13 ⟨rfl, hb⟩; have n0_ := Aside0.mk (blk_below (g := gb334) (o := .cells #[.bool true, .string t331, .string t332, .int .i64 t333] 25 (0, 0)) (by (with_reducible repeat (first | refine blk_drewN ?_ _ | refine blk_drew ?_ | refine blk_alloc ?_ _)); exact BK334.out) hb); have n1_ := Aside0.mk (below_step qne21_ hb); clear BK334; clear HB; have BK334 := n0_; have HB := n1_; clear n0_ n1_; (try clear hb); (try clear hb2); (try clear hk); (try clear hi)))
      go_ret
      exact ⟨qne5_, qne21_⟩
     ·
      rw [if_neg c7] at H
      have c7b0 : (t335 == (-1)) = false := beq_eq_false_iff_ne.mpr c7
      have c7b1 : (t335 != (-1)) = true := bne_iff_ne.mpr c7
      obtain rfl := Option.some.inj H
      go_enter Tryd.func25, Tryd.ntmps25
      have tk22 : True := trivial; have tk23 : True := trivial; have tk24 : True := trivial
      go_wp2_with (first | (have ztk22 := tk22; clear tk22 ztk22; (with_reducible refine gate_callee (f := 16) rfl ?_); refine goesL_ (some 2) rfl rfl Tryd.func16 (by kernel_rfl) rfl #[.string (⟨#[45, 49, 50, 46, 53, 120]⟩ : ByteArray)] rfl qne1_ ?_; (with_reducible refine (numeral_Decimal.calls k (⟨#[45, 49, 50, 46, 53, 120]⟩ : ByteArray) true t331 t332 t333 _ A1.out).mono ?_); rintro e w18 ⟨rfl, hb⟩; refine ⟨_, rfl, ?_⟩; have n0_ := Aside0.mk (below_step qne0_ hb); clear HB; have HB := n0_; clear n0_; (try clear hb); (try clear hb2); (try clear hk); (try clear hi)) | (have ztk23 := tk23; clear tk23 ztk23; (with_reducible refine gate_dst (N := 1) rfl ?_); refine box_event ?hg (N := 1) ?hd (cs := #[.bool false, .string (⟨#[]⟩ : ByteArray), .string (⟨#[]⟩ : ByteArray), .int .i64 0]) (t := 25) ?hr ?_; (case hd => rfl); (case hg => rfl); (case hr => first | (go_simp; done) | (go_simp; rfl)); intro gb334 hg w19 hbox hb; have n0_ := Aside0.mk (below_step qne0_ hb); have n1_ := Aside0.mk (hbox); have n2_ := Aside0.mk ((by rw [hg]; exact (below_size qne0_) : w.heap.size ≤ gb334)); have n3_ := Aside0.mk ((by rw [hg]; exact (below_size qne0_) : w.heap.size ≤ gb334)); clear HB; have HB := n0_; have BK334 := n1_; have GW334 := n2_; have GE334 := n3_; clear n0_ n1_ n2_ n3_; clear hb hbox hg; have hcz20_0 : w19.cell? ⟨gb334, 0, none⟩ = some (.bool false) := (blk_cell BK334.out 0).trans rfl; have hcz20_1 : w19.cell? ⟨gb334, 1, none⟩ = some (.string (⟨#[]⟩ : ByteArray)) := (blk_cell BK334.out 1).trans rfl; have hcz20_2 : w19.cell? ⟨gb334, 2, none⟩ = some (.string (⟨#[]⟩ : ByteArray)) := (blk_cell BK334.out 2).trans rfl; have hcz20_3 : w19.cell? ⟨gb334, 3, none⟩ = some (.int .i64 0) := (blk_cell BK334.out 3).trans rfl; have hfz20_0 := blk_frozen BK334.out 0; have hfz20_1 := blk_frozen BK334.out 1; have hfz20_2 := blk_frozen BK334.out 2; have hfz20_3 := blk_frozen BK334.out 3) | (have ztk24 := tk24; clear tk24 ztk24; go_at_call 27; (with_reducible refine (numeral_Compare.calls k 16 (⟨#[57]⟩ : ByteArray) (⟨#[49, 48]⟩ : ByteArray) t335 _ ?side1 A6.out).mono ?_); (case side1 => exact GOK.below HGL.out qne21_); rintro e w21 ⟨rfl, hb⟩; have n0_ := Aside0.mk (blk_below (g := gb334) (o := .cells #[.bool true, .string t331, .string t332, .int .i64 t333] 25 (0, 0)) (by (with_reducible repeat (first | refine blk_drewN ?_ _ | refine blk_drew ?_ | refine blk_alloc ?_ _)); refine blk_put (cs := #[.bool true, .string t331, .string t332, .int .i64 0]) ?_ 3 _ rfl; (with_reducible repeat (first | refine blk_drewN ?_ _ | refine blk_drew ?_ | refine blk_alloc ?_ _)); refine blk_put (cs := #[.bool true, .string t331, .string (⟨#[]⟩ : ByteArray), .int .i64 0]) ?_ 2 _ rfl; (with_reducible repeat (first | refine blk_drewN ?_ _ | refine blk_drew ?_ | refine blk_alloc ?_ _)); refine blk_put (cs := #[.bool true, .string (⟨#[]⟩ : ByteArray), .string (⟨#[]⟩ : ByteArray), .int .i64 0]) ?_ 1 _ rfl; (with_reducible repeat (first | refine blk_drewN ?_ _ | refine blk_drew ?_ | refine blk_alloc ?_ _)); refine blk_put (cs := #[.bool false, .string (⟨#[]⟩ : ByteArray), .string (⟨#[]⟩ : ByteArray), .int .i64 0]) ?_ 0 _ rfl; (with_reducible repeat (first | refine blk_drewN ?_ _ | refine blk_drew ?_ | refine blk_alloc ?_ _)); exact BK334.out) hb); have n1_ := Aside0.mk (below_step qne21_ hb); clear BK334; clear HB; have BK334 := n0_; have HB := n1_; clear n0_ n1_; (try clear hb); (try clear hb2); (try clear hk); (try clear hi)))
      go_ret
      exact ⟨qne5_, qne21_⟩
    ·
     rw [if_neg c5] at H
     have c5b0 : (t333 == 5) = false := beq_eq_false_iff_ne.mpr c5
     have c5b1 : (t333 != 5) = true := bne_iff_ne.mpr c5
     obtain rfl := Option.some.inj H
     go_enter Tryd.func25, Tryd.ntmps25
     have tk28 : True := trivial; have tk29 : True := trivial
     go_wp2_with (first | (have ztk28 := tk28; clear tk28 ztk28; (with_reducible refine gate_callee (f := 16) rfl ?_); refine goesL_ (some 2) rfl rfl Tryd.func16 (by kernel_rfl) rfl #[.string (⟨#[45, 49, 50, 46, 53, 120]⟩ : ByteArray)] rfl qne1_ ?_; (with_reducible refine (numeral_Decimal.calls k (⟨#[45, 49, 50, 46, 53, 120]⟩ : ByteArray) true t331 t332 t333 _ A1.out).mono ?_); rintro e w25 ⟨rfl, hb⟩; refine ⟨_, rfl, ?_⟩; have n0_ := Aside0.mk (below_step qne0_ hb); clear HB; have HB := n0_; clear n0_; (try clear hb); (try clear hb2); (try clear hk); (try clear hi)) | (have ztk29 := tk29; clear tk29 ztk29; (with_reducible refine gate_dst (N := 1) rfl ?_); refine box_event ?hg (N := 1) ?hd (cs := #[.bool false, .string (⟨#[]⟩ : ByteArray), .string (⟨#[]⟩ : ByteArray), .int .i64 0]) (t := 25) ?hr ?_; (case hd => rfl); (case hg => rfl); (case hr => first | (go_simp; done) | (go_simp; rfl)); intro gb334 hg w26 hbox hb; have n0_ := Aside0.mk (below_step qne0_ hb); have n1_ := Aside0.mk (hbox); have n2_ := Aside0.mk ((by rw [hg]; exact (below_size qne0_) : w.heap.size ≤ gb334)); have n3_ := Aside0.mk ((by rw [hg]; exact (below_size qne0_) : w.heap.size ≤ gb334)); clear HB; have HB := n0_; have BK334 := n1_; have GW334 := n2_; have GE334 := n3_; clear n0_ n1_ n2_ n3_; clear hb hbox hg; have hcz27_0 : w26.cell? ⟨gb334, 0, none⟩ = some (.bool false) := (blk_cell BK334.out 0).trans rfl; have hcz27_1 : w26.cell? ⟨gb334, 1, none⟩ = some (.string (⟨#[]⟩ : ByteArray)) := (blk_cell BK334.out 1).trans rfl; have hcz27_2 : w26.cell? ⟨gb334, 2, none⟩ = some (.string (⟨#[]⟩ : ByteArray)) := (blk_cell BK334.out 2).trans rfl; have hcz27_3 : w26.cell? ⟨gb334, 3, none⟩ = some (.int .i64 0) := (blk_cell BK334.out 3).trans rfl; have hfz27_0 := blk_frozen BK334.out 0; have hfz27_1 := blk_frozen BK334.out 1; have hfz27_2 := blk_frozen BK334.out 2; have hfz27_3 := blk_frozen BK334.out 3))
     go_ret
     exact ⟨qne5_, qne21_⟩
   ·
    rw [if_neg c4] at H
    have c4b0 : (t332.toList == ([53] : List UInt8)) = false := beq_eq_false_iff_ne.mpr c4
    have c4b1 : (t332.toList != ([53] : List UInt8)) = true := bne_iff_ne.mpr c4
    obtain rfl := Option.some.inj H
    go_enter Tryd.func25, Tryd.ntmps25
    have tk33 : True := trivial; have tk34 : True := trivial
    go_wp2_with (first | (have ztk33 := tk33; clear tk33 ztk33; (with_reducible refine gate_callee (f := 16) rfl ?_); refine goesL_ (some 2) rfl rfl Tryd.func16 (by kernel_rfl) rfl #[.string (⟨#[45, 49, 50, 46, 53, 120]⟩ : ByteArray)] rfl qne1_ ?_; (with_reducible refine (numeral_Decimal.calls k (⟨#[45, 49, 50, 46, 53, 120]⟩ : ByteArray) true t331 t332 t333 _ A1.out).mono ?_); rintro e w30 ⟨rfl, hb⟩; refine ⟨_, rfl, ?_⟩; have n0_ := Aside0.mk (below_step qne0_ hb); clear HB; have HB := n0_; clear n0_; (try clear hb); (try clear hb2); (try clear hk); (try clear hi)) | (have ztk34 := tk34; clear tk34 ztk34; (with_reducible refine gate_dst (N := 1) rfl ?_); refine box_event ?hg (N := 1) ?hd (cs := #[.bool false, .string (⟨#[]⟩ : ByteArray), .string (⟨#[]⟩ : ByteArray), .int .i64 0]) (t := 25) ?hr ?_; (case hd => rfl); (case hg => rfl); (case hr => first | (go_simp; done) | (go_simp; rfl)); intro gb334 hg w31 hbox hb; have n0_ := Aside0.mk (below_step qne0_ hb); have n1_ := Aside0.mk (hbox); have n2_ := Aside0.mk ((by rw [hg]; exact (below_size qne0_) : w.heap.size ≤ gb334)); have n3_ := Aside0.mk ((by rw [hg]; exact (below_size qne0_) : w.heap.size ≤ gb334)); clear HB; have HB := n0_; have BK334 := n1_; have GW334 := n2_; have GE334 := n3_; clear n0_ n1_ n2_ n3_; clear hb hbox hg; have hcz32_0 : w31.cell? ⟨gb334, 0, none⟩ = some (.bool false) := (blk_cell BK334.out 0).trans rfl; have hcz32_1 : w31.cell? ⟨gb334, 1, none⟩ = some (.string (⟨#[]⟩ : ByteArray)) := (blk_cell BK334.out 1).trans rfl; have hcz32_2 : w31.cell? ⟨gb334, 2, none⟩ = some (.string (⟨#[]⟩ : ByteArray)) := (blk_cell BK334.out 2).trans rfl; have hcz32_3 : w31.cell? ⟨gb334, 3, none⟩ = some (.int .i64 0) := (blk_cell BK334.out 3).trans rfl; have hfz32_0 := blk_frozen BK334.out 0; have hfz32_1 := blk_frozen BK334.out 1; have hfz32_2 := blk_frozen BK334.out 2; have hfz32_3 := blk_frozen BK334.out 3))
    go_ret
    exact ⟨qne5_, qne21_⟩
  ·
   rw [if_neg c3] at H
   have c3b0 : (t331.toList == ([49, 50] : List UInt8)) = false := beq_eq_false_iff_ne.mpr c3
   have c3b1 : (t331.toList != ([49, 50] : List UInt8)) = true := bne_iff_ne.mpr c3
   obtain rfl := Option.some.inj H
   go_enter Tryd.func25, Tryd.ntmps25
   have tk38 : True := trivial; have tk39 : True := trivial
   go_wp2_with (first | (have ztk38 := tk38; clear tk38 ztk38; (with_reducible refine gate_callee (f := 16) rfl ?_); refine goesL_ (some 2) rfl rfl Tryd.func16 (by kernel_rfl) rfl #[.string (⟨#[45, 49, 50, 46, 53, 120]⟩ : ByteArray)] rfl qne1_ ?_; (with_reducible refine (numeral_Decimal.calls k (⟨#[45, 49, 50, 46, 53, 120]⟩ : ByteArray) true t331 t332 t333 _ A1.out).mono ?_); rintro e w35 ⟨rfl, hb⟩; refine ⟨_, rfl, ?_⟩; have n0_ := Aside0.mk (below_step qne0_ hb); clear HB; have HB := n0_; clear n0_; (try clear hb); (try clear hb2); (try clear hk); (try clear hi)) | (have ztk39 := tk39; clear tk39 ztk39; (with_reducible refine gate_dst (N := 1) rfl ?_); refine box_event ?hg (N := 1) ?hd (cs := #[.bool false, .string (⟨#[]⟩ : ByteArray), .string (⟨#[]⟩ : ByteArray), .int .i64 0]) (t := 25) ?hr ?_; (case hd => rfl); (case hg => rfl); (case hr => first | (go_simp; done) | (go_simp; rfl)); intro gb334 hg w36 hbox hb; have n0_ := Aside0.mk (below_step qne0_ hb); have n1_ := Aside0.mk (hbox); have n2_ := Aside0.mk ((by rw [hg]; exact (below_size qne0_) : w.heap.size ≤ gb334)); have n3_ := Aside0.mk ((by rw [hg]; exact (below_size qne0_) : w.heap.size ≤ gb334)); clear HB; have HB := n0_; have BK334 := n1_; have GW334 := n2_; have GE334 := n3_; clear n0_ n1_ n2_ n3_; clear hb hbox hg; have hcz37_0 : w36.cell? ⟨gb334, 0, none⟩ = some (.bool false) := (blk_cell BK334.out 0).trans rfl; have hcz37_1 : w36.cell? ⟨gb334, 1, none⟩ = some (.string (⟨#[]⟩ : ByteArray)) := (blk_cell BK334.out 1).trans rfl; have hcz37_2 : w36.cell? ⟨gb334, 2, none⟩ = some (.string (⟨#[]⟩ : ByteArray)) := (blk_cell BK334.out 2).trans rfl; have hcz37_3 : w36.cell? ⟨gb334, 3, none⟩ = some (.int .i64 0) := (blk_cell BK334.out 3).trans rfl; have hfz37_0 := blk_frozen BK334.out 0; have hfz37_1 := blk_frozen BK334.out 1; have hfz37_2 := blk_frozen BK334.out 2; have hfz37_3 := blk_frozen BK334.out 3))
   go_ret
   exact ⟨qne5_, qne21_⟩
 ·
  replace c2 := Bool.eq_false_iff.mpr c2
  subst c2
  have H1 : (some false) = some r := by rw [if_neg (show ¬ (false = true) by decide)] at H; exact H
  clear H
  have H := H1
  clear H1
  obtain rfl := Option.some.inj H
  go_enter Tryd.func25, Tryd.ntmps25
  have tk43 : True := trivial; have tk44 : True := trivial
  go_wp2_with (first | (have ztk43 := tk43; clear tk43 ztk43; (with_reducible refine gate_callee (f := 16) rfl ?_); refine goesL_ (some 2) rfl rfl Tryd.func16 (by kernel_rfl) rfl #[.string (⟨#[45, 49, 50, 46, 53, 120]⟩ : ByteArray)] rfl qne1_ ?_; (with_reducible refine (numeral_Decimal.calls k (⟨#[45, 49, 50, 46, 53, 120]⟩ : ByteArray) false t331 t332 t333 _ A1.out).mono ?_); rintro e w40 ⟨rfl, hb⟩; refine ⟨_, rfl, ?_⟩; have n0_ := Aside0.mk (below_step qne0_ hb); clear HB; have HB := n0_; clear n0_; (try clear hb); (try clear hb2); (try clear hk); (try clear hi)) | (have ztk44 := tk44; clear tk44 ztk44; (with_reducible refine gate_dst (N := 1) rfl ?_); refine box_event ?hg (N := 1) ?hd (cs := #[.bool false, .string (⟨#[]⟩ : ByteArray), .string (⟨#[]⟩ : ByteArray), .int .i64 0]) (t := 25) ?hr ?_; (case hd => rfl); (case hg => rfl); (case hr => first | (go_simp; done) | (go_simp; rfl)); intro gb334 hg w41 hbox hb; have n0_ := Aside0.mk (below_step qne0_ hb); have n1_ := Aside0.mk (hbox); have n2_ := Aside0.mk ((by rw [hg]; exact (below_size qne0_) : w.heap.size ≤ gb334)); have n3_ := Aside0.mk ((by rw [hg]; exact (below_size qne0_) : w.heap.size ≤ gb334)); clear HB; have HB := n0_; have BK334 := n1_; have GW334 := n2_; have GE334 := n3_; clear n0_ n1_ n2_ n3_; clear hb hbox hg; have hcz42_0 : w41.cell? ⟨gb334, 0, none⟩ = some (.bool false) := (blk_cell BK334.out 0).trans rfl; have hcz42_1 : w41.cell? ⟨gb334, 1, none⟩ = some (.string (⟨#[]⟩ : ByteArray)) := (blk_cell BK334.out 1).trans rfl; have hcz42_2 : w41.cell? ⟨gb334, 2, none⟩ = some (.string (⟨#[]⟩ : ByteArray)) := (blk_cell BK334.out 2).trans rfl; have hcz42_3 : w41.cell? ⟨gb334, 3, none⟩ = some (.int .i64 0) := (blk_cell BK334.out 3).trans rfl; have hfz42_0 := blk_frozen BK334.out 0; have hfz42_1 := blk_frozen BK334.out 1; have hfz42_2 := blk_frozen BK334.out 2; have hfz42_3 := blk_frozen BK334.out 3))
  go_ret
  exact ⟨qne5_, qne21_⟩


/-! ### millref3_ints: function 58 -/
def millref3_ints.f (a0 : Int) (a1 : Int) : Option (Int) := if a0 < a1 then (some (-1)) else (if a0 > a1 then (some 1) else (some 0))
set_option maxHeartbeats 8000000 in
set_option maxRecDepth 100000 in
theorem millref3_ints.calls (a0 : Int) (a1 : Int) (r : Int) (w : World) (h : millref3_ints.f a0 a1 = some r) :
  Calls Tryd.prog 58 #[.int .i64 a0, .int .i64 a1] w fun e w' => e = .returned (.int .i64 r) ∧ Drawn0 w w' := by
 have H : (if a0 < a1 then (some (-1)) else (if a0 > a1 then (some 1) else (some 0))) = some r := h
 clear h
 by_cases c3 : a0 < a1
 ·
  rw [if_pos c3] at H
  have c3b0 : decide (a0 < a1) = true := decide_eq_true c3
  clear c3
  obtain rfl := Option.some.inj H
  go_enter Tryd.func58, Tryd.ntmps58
  go_wp2
  go_ret
  exact ⟨qne2_, qne12_⟩
 ·
  rw [if_neg c3] at H
  have c3b0 : decide (a0 < a1) = false := decide_eq_false c3
  clear c3
  by_cases c4 : a0 > a1
  ·
   rw [if_pos c4] at H
   have c4b0 : decide (a1 < a0) = true := decide_eq_true c4
   clear c4
   obtain rfl := Option.some.inj H
   go_enter Tryd.func58, Tryd.ntmps58
   go_wp2
   go_ret
   exact ⟨qne2_, qne12_⟩
  ·
   rw [if_neg c4] at H
   have c4b0 : decide (a1 < a0) = false := decide_eq_false c4
   clear c4
   obtain rfl := Option.some.inj H
   go_enter Tryd.func58, Tryd.ntmps58
   go_wp2
   go_ret
   exact ⟨qne2_, qne12_⟩


/-! ### millref3_Bytes: function 31 -/
mutual
def millref3_Bytes.l0 : Nat → ByteArray → ByteArray → Int → Option (Int)
 | 0, _, _, _ => none
 | k + 1, x0, x1, x5 => if x5 < (x0.size : Int) then (millref3_Bytes.j1 k x0 x1 x5 (decide (x5 < (x1.size : Int)))) else (millref3_Bytes.j1 k x0 x1 x5 false)
def millref3_Bytes.j1 : Nat → ByteArray → ByteArray → Int → Bool → Option (Int)
 | 0, _, _, _, _ => none
 | k + 1, x0, x1, x5, x15 => if x15 = true then (if 0 ≤ x5 then (if x5 < (x0.size : Int) then (if x5 < (x1.size : Int) then (if (bt x0 x5) = (bt x1 x5) then (millref3_Bytes.l0 k x0 x1 (wrap64 (x5 + 1))) else ((millref3_ints.f (wrap64 (bt x0 x5)) (wrap64 (bt x1 x5))).bind fun t400 => (some t400))) else (none)) else (none)) else (none)) else ((millref3_ints.f (x0.size : Int) (x1.size : Int)).bind fun t401 => (some t401))
end
def millref3_Bytes.f (k : Nat) (a0 : ByteArray) (a1 : ByteArray) : Option (Int) := millref3_Bytes.l0 k a0 a1 0
set_option maxHeartbeats 8000000 in
set_option maxRecDepth 100000 in
theorem millref3_Bytes.calls (k : Nat) (a0 : ByteArray) (a1 : ByteArray) (r : Int) (w : World) (h : millref3_Bytes.f k a0 a1 = some r) :
  Calls Tryd.prog 31 #[.string a0, .string a1] w fun e w' => e = .returned (.int .i64 r) ∧ Drawn0 w w' := by
 have H : (millref3_Bytes.l0 k a0 a1 0) = some r := h
 clear h
 have H' := Aside0.mk H
 clear H
 go_enter Tryd.func31, Tryd.ntmps31
 go_wp2
 repeat (go_quiet (fail); try go_wp2)
 go_loopg [5] k (fun kq v5 w' => ∃ (x5_1 : Int), v5 = .int .i64 x5_1 ∧ Aside0 (millref3_Bytes.l0 kq a0 a1 x5_1 = some r) ∧ Aside0 (kq ≤ k) ∧ Drawn0 w w')
 case atStart => exact ⟨(0), qne2_, H', ⟨Nat.le_refl _⟩, qne12_⟩
 case round =>
  clear H'
  (try clear p2)
  obtain ⟨x5_1, rfl, HA, HK1, ⟨m1, rfl⟩⟩ := hrel
  cases gk with
  | zero => exact absurd HA.out (by simp [millref3_Bytes.l0])
  | succ k1 =>
   have H := HA.out
   clear HA
   simp only [millref3_Bytes.l0] at H
   have HC3 := Aside0.mk H
   clear H
   go_upto_region 2 with (fail)
   repeat (go_quiet (fail); go_upto_region 2 with (fail))
   go_cut [15] (fun v15 wc => ∃ (kq : Nat) (x15_2 : Bool), v15 = .bool x15_2 ∧ Aside0 (millref3_Bytes.j1 kq a0 a1 x5_1 x15_2 = some r) ∧ Aside0 (kq ≤ k1) ∧ Drawn0 w wc)
   case first =>
    have H := HC3.out
    clear HC3
    by_cases c4 : x5_1 < (a0.size : Int)
    ·
     rw [if_pos c4] at H
     have c4b0 : decide (x5_1 < (a0.size : Int)) = true := decide_eq_true c4
     clear c4
     (first | rw [c4b0] | (simp only [i64_w, i32_w]; rw [c4b0]) | skip)
     have H' := Aside0.mk H
     clear H
     go_wp2
     repeat (go_quiet (fail); try go_wp2)
     go_meet
     case rel => exact ⟨_, (decide (x5_1 < (a1.size : Int))), qne2_, H', ⟨by have := HK1.out; first | omega | exact Nat.le_refl _⟩, qne12_⟩
    ·
     rw [if_neg c4] at H
     have c4b0 : decide (x5_1 < (a0.size : Int)) = false := decide_eq_false c4
     clear c4
     (first | rw [c4b0] | (simp only [i64_w, i32_w]; rw [c4b0]) | skip)
     have H' := Aside0.mk H
     clear H
     go_wp2
     repeat (go_quiet (fail); try go_wp2)
     go_meet
     case rel => exact ⟨_, (false), qne2_, H', ⟨by have := HK1.out; first | omega | exact Nat.le_refl _⟩, qne12_⟩
   case rest =>
    clear HC3
    (try clear p2); (try clear c3); (try clear c4); (try clear c4b0); (try clear p2)
    obtain ⟨kq, x15_2, rfl, HA, HJ2, ⟨mc2, rfl⟩⟩ := hcut
    cases kq with
    | zero => exact absurd HA.out (by simp [millref3_Bytes.j1])
    | succ kj2 =>
     have H := HA.out
     clear HA
     simp only [millref3_Bytes.j1] at H
     by_cases c5 : x15_2 = true
     ·
      subst c5
      have H1 : (if 0 ≤ x5_1 then (if x5_1 < (a0.size : Int) then (if x5_1 < (a1.size : Int) then (if (bt a0 x5_1) = (bt a1 x5_1) then (millref3_Bytes.l0 kj2 a0 a1 (wrap64 (x5_1 + 1))) else ((millref3_ints.f (wrap64 (bt a0 x5_1)) (wrap64 (bt a1 x5_1))).bind fun t400 => (some t400))) else (none)) else (none)) else (none)) = some r := by rw [if_pos rfl] at H; exact H
      clear H
      have H := H1
      clear H1
      by_cases c6 : 0 ≤ x5_1
      ·
       rw [if_pos c6] at H
       have c6b0 : decide (0 ≤ x5_1) = true := decide_eq_true c6
       clear c6
       by_cases c7 : x5_1 < (a0.size : Int)
       ·
        rw [if_pos c7] at H
        have c7b0 : decide (x5_1 < (a0.size : Int)) = true := decide_eq_true c7
        clear c7
        by_cases c9 : x5_1 < (a1.size : Int)
        ·
         rw [if_pos c9] at H
         have c9b0 : decide (x5_1 < (a1.size : Int)) = true := decide_eq_true c9
         clear c9
         by_cases c11 : (bt a0 x5_1) = (bt a1 x5_1)
         ·
          rw [if_pos c11] at H
          have c11b0 : ((bt a0 x5_1) == (bt a1 x5_1)) = true := beq_iff_eq.mpr c11
          have c11b1 : ((bt a0 x5_1) != (bt a1 x5_1)) = false := bne_eq_false_iff_eq.mpr c11
          clear c11
          have H' := Aside0.mk H
          clear H
          have p8 : 0 ≤ (x5_1 : Int) := of_decide_eq_true qne3_
          have q8 : x5_1 < (a0.size : Int) := of_decide_eq_true qne3_
          have hx8 := bt_at a0 x5_1
          replace p8 := eq_true p8
          replace q8 := eq_true q8
          have p10 : 0 ≤ (x5_1 : Int) := of_decide_eq_true qne3_
          have q10 : x5_1 < (a1.size : Int) := of_decide_eq_true qne3_
          have hx10 := bt_at a1 x5_1
          replace p10 := eq_true p10
          replace q10 := eq_true q10
          go_wp2
          repeat (go_quiet (fail); try go_wp2)
          go_roundg kj2
          case measure => have := HK1.out; have := HJ2.out; omega
          case rel => exact ⟨(wrap64 (x5_1 + 1)), qne2_, H', ⟨by have := HK1.out; have := HJ2.out; omega⟩, qne12_⟩
         ·
          rw [if_neg c11] at H
          have c11b0 : ((bt a0 x5_1) == (bt a1 x5_1)) = false := beq_eq_false_iff_ne.mpr c11
          have c11b1 : ((bt a0 x5_1) != (bt a1 x5_1)) = true := bne_iff_ne.mpr c11
          replace H := Option.bind_eq_some_iff.mp H
          obtain ⟨t400, A140, H⟩ := H
          replace H : (some t400) = some r := H
          have A14 := Aside0.mk A140
          clear A140
          obtain rfl := Option.some.inj H
          have p8 : 0 ≤ (x5_1 : Int) := of_decide_eq_true qne3_
          have q8 : x5_1 < (a0.size : Int) := of_decide_eq_true qne3_
          have hx8 := bt_at a0 x5_1
          replace p8 := eq_true p8
          replace q8 := eq_true q8
          have p10 : 0 ≤ (x5_1 : Int) := of_decide_eq_true qne3_
          have q10 : x5_1 < (a1.size : Int) := of_decide_eq_true qne3_
          have hx10 := bt_at a1 x5_1
          replace p10 := eq_true p10
          replace q10 := eq_true q10
          have p12 : 0 ≤ (x5_1 : Int) := of_decide_eq_true qne3_
          have q12 : x5_1 < (a0.size : Int) := of_decide_eq_true qne3_
          have hx12 := bt_at a0 x5_1
          replace p12 := eq_true p12
          replace q12 := eq_true q12
          have p13 : 0 ≤ (x5_1 : Int) := of_decide_eq_true qne3_
          have q13 : x5_1 < (a1.size : Int) := of_decide_eq_true qne3_
          have hx13 := bt_at a1 x5_1
          replace p13 := eq_true p13
          replace q13 := eq_true q13
          go_wp2_with (first | (go_at_call 58; (with_reducible refine (millref3_ints.calls (wrap64 (bt a0 x5_1)) (wrap64 (bt a1 x5_1)) t400 _ A14.out).mono ?_); rintro e w' ⟨rfl, ⟨nd, rfl⟩⟩; (try first | exact ⟨rfl, _, World.drewN_drewN _ _ _⟩ | exact ⟨rfl, _, Eq.trans (World.drewN_drewN _ _ _) (congrArg (World.drewN _) (Nat.add_assoc _ _ _))⟩)))
          repeat (go_quiet (first | (go_at_call 58; (with_reducible refine (millref3_ints.calls (wrap64 (bt a0 x5_1)) (wrap64 (bt a1 x5_1)) t400 _ A14.out).mono ?_); rintro e w' ⟨rfl, ⟨nd, rfl⟩⟩; (try first | exact ⟨rfl, _, World.drewN_drewN _ _ _⟩ | exact ⟨rfl, _, Eq.trans (World.drewN_drewN _ _ _) (congrArg (World.drewN _) (Nat.add_assoc _ _ _))⟩))); try go_wp2_with (first | (go_at_call 58; (with_reducible refine (millref3_ints.calls (wrap64 (bt a0 x5_1)) (wrap64 (bt a1 x5_1)) t400 _ A14.out).mono ?_); rintro e w' ⟨rfl, ⟨nd, rfl⟩⟩; (try first | exact ⟨rfl, _, World.drewN_drewN _ _ _⟩ | exact ⟨rfl, _, Eq.trans (World.drewN_drewN _ _ _) (congrArg (World.drewN _) (Nat.add_assoc _ _ _))⟩))))
          go_ret
          exact ⟨qne2_, qne12_⟩
        ·
         rw [if_neg c9] at H
         exact absurd H (by simp)
       ·
        rw [if_neg c7] at H
        exact absurd H (by simp)
      ·
       rw [if_neg c6] at H
       exact absurd H (by simp)
     ·
      replace c5 := Bool.eq_false_iff.mpr c5
      subst c5
      have H1 : ((millref3_ints.f (a0.size : Int) (a1.size : Int)).bind fun t401 => (some t401)) = some r := by rw [if_neg (show ¬ (false = true) by decide)] at H; exact H
      clear H
      have H := H1
      clear H1
      replace H := Option.bind_eq_some_iff.mp H
      obtain ⟨t401, A150, H⟩ := H
      replace H : (some t401) = some r := H
      have A15 := Aside0.mk A150
      clear A150
      obtain rfl := Option.some.inj H
      go_wp2_with (first | (go_at_call 58; (with_reducible refine (millref3_ints.calls (a0.size : Int) (a1.size : Int) t401 _ A15.out).mono ?_); rintro e w' ⟨rfl, ⟨nd, rfl⟩⟩; (try first | exact ⟨rfl, _, World.drewN_drewN _ _ _⟩ | exact ⟨rfl, _, Eq.trans (World.drewN_drewN _ _ _) (congrArg (World.drewN _) (Nat.add_assoc _ _ _))⟩)))
      repeat (go_quiet (first | (go_at_call 58; (with_reducible refine (millref3_ints.calls (a0.size : Int) (a1.size : Int) t401 _ A15.out).mono ?_); rintro e w' ⟨rfl, ⟨nd, rfl⟩⟩; (try first | exact ⟨rfl, _, World.drewN_drewN _ _ _⟩ | exact ⟨rfl, _, Eq.trans (World.drewN_drewN _ _ _) (congrArg (World.drewN _) (Nat.add_assoc _ _ _))⟩))); try go_wp2_with (first | (go_at_call 58; (with_reducible refine (millref3_ints.calls (a0.size : Int) (a1.size : Int) t401 _ A15.out).mono ?_); rintro e w' ⟨rfl, ⟨nd, rfl⟩⟩; (try first | exact ⟨rfl, _, World.drewN_drewN _ _ _⟩ | exact ⟨rfl, _, Eq.trans (World.drewN_drewN _ _ _) (congrArg (World.drewN _) (Nat.add_assoc _ _ _))⟩))))
      go_ret
      exact ⟨qne2_, qne12_⟩


/-! ### numeral_eight: function 85 -/
def numeral_eight.l0 : Nat → Int → List Int → Int → Option (List Int)
 | 0, _, _, _ => none
 | k + 1, x0, x3, x5 => if x5 < 8 then (if 0 ≤ (wrap64 (56 - (wrap64 (8 * x5)))) then (if x3.length < 140737488355328 then (numeral_eight.l0 k x0 (x3 ++ [(shr .u64 x0 (wrap64 (56 - (wrap64 (8 * x5))))) % 256]) (wrap64 (x5 + 1))) else (none)) else (none)) else (some x3)
def numeral_eight.f (k : Nat) (a0 : Int) : Option (List Int) := numeral_eight.l0 k a0 ([] : List Int) 0
set_option maxHeartbeats 8000000 in
set_option maxRecDepth 100000 in
theorem numeral_eight.calls (k : Nat) (a0 : Int) (r : List Int) (w : World) (h : numeral_eight.f k a0 = some r) :
  Calls Tryd.prog 85 #[.int .u64 a0] w fun e w' => ∃ v0_ : Value, e = .returned (v0_) ∧ Kd.R (Kd.int .u8) 5 w' w.heap.size (fun _ => True) v0_ r ∧ Below w.heap.size w w' := by
 have HB := Aside0.mk (Below.refl w.heap.size w)
 have H : (numeral_eight.l0 k a0 ([] : List Int) 0) = some r := h
 clear h
 have H' := Aside0.mk H
 clear H
 go_enter Tryd.func85, Tryd.ntmps85
 go_wp2
 go_loopg [3, 5] k (fun kq v3 v5 w' => ∃ (x3_1 : List Int) (x5_1 : Int), v5 = .int .i64 x5_1 ∧ Aside0 (numeral_eight.l0 kq a0 x3_1 x5_1 = some r) ∧ Aside0 (kq ≤ k) ∧ Aside0 (Kd.R (Kd.int .u8) 5 w' w.heap.size (fun _ => True) v3 x3_1) ∧ Aside0 (Below w.heap.size w w'))
 case atStart => exact ⟨(([] : List Int)), (0), qne2_, H', ⟨Nat.le_refl _⟩, ⟨qne55_⟩, ⟨qne0_⟩⟩
 case round =>
  clear H'
  obtain ⟨x3_1, x5_1, rfl, HA, HK1, HO_3, HB⟩ := hrel
  cases gk with
  | zero => exact absurd HA.out (by simp [numeral_eight.l0])
  | succ k1 =>
   have H := HA.out
   clear HA
   simp only [numeral_eight.l0] at H
   by_cases c2 : x5_1 < 8
   ·
    rw [if_pos c2] at H
    have c2b0 : decide (x5_1 < 8) = true := decide_eq_true c2
    clear c2
    obtain ⟨ji3, hji3⟩ : ∃ j_ : Int, (wrap64 (56 - (wrap64 (8 * x5_1)))) = j_ := ⟨_, rfl⟩
    replace H : (if 0 ≤ (ji3) then (if x3_1.length < 140737488355328 then (numeral_eight.l0 k1 a0 (x3_1 ++ [(shr .u64 a0 (ji3)) % 256]) (wrap64 (x5_1 + 1))) else (none)) else (none)) = some r := by first | (rw [hji3] at H; exact H) | (simp only [hji3] at H ⊢; exact H)
    have hji3w : (IntKind.i64.wrap (56 - (wrap64 (8 * x5_1)))) = ji3 := (i64_w _).trans hji3
    by_cases c4 : 0 ≤ (ji3)
    ·
     rw [if_pos c4] at H
     have c4b0 := eq_true c4
     have c4b1 : decide (0 ≤ (ji3)) = true := decide_eq_true c4
     clear c4
     obtain ⟨ji5, hji5⟩ : ∃ j_ : Int, (shr .u64 a0 (ji3)) = j_ := ⟨_, rfl⟩
     replace H : (if x3_1.length < 140737488355328 then (numeral_eight.l0 k1 a0 (x3_1 ++ [(ji5) % 256]) (wrap64 (x5_1 + 1))) else (none)) = some r := by first | (rw [hji5] at H; exact H) | (simp only [hji5] at H ⊢; exact H)
     have hji5_ : (a0 / 2 ^ min (ji3).toNat 64) = ji5 := hji5
     have hji5z : (ji3) ≤ 64 → (a0 / 2 ^ (ji3).toNat) = ji5 := shr_small hji5
     by_cases c6 : x3_1.length < 140737488355328
     ·
      rw [if_pos c6] at H
      have LMc6 := Aside0.mk c6
      clear c6
      obtain ⟨y617, hy617⟩ : ∃ y_ : List Int, y_ = (x3_1 ++ [(ji5) % 256]) := ⟨_, rfl⟩
      replace H : (numeral_eight.l0 k1 a0 y617 (wrap64 (x5_1 + 1))) = some r := by first | (rw [hy617]; with_reducible exact H) | (have H2_ := (Option.bind_some _ _).symm.trans H; rw [hy617]; with_reducible exact H2_) | (have H2_ := (Option.bind_some _ _).symm.trans H; with_reducible exact H2_) | with_reducible exact H | (rw [hy617]; exact H) | exact H
      have Ny617 := Aside0.mk hy617
      clear hy617
      have H' := Aside0.mk H
      clear H
      go_wp2_with (first | ((with_reducible refine gate_builtin (b := .append) (xs := #[.tmp 8, .tmp 15]) rfl ?_); at_builtin; refine Kd.R_append (Kd.int .u8) (w0 := w) w.heap.size rfl (.tmp 8) (.tmp 15) 23 5 (.int .u8 0) 1 rfl Tryd.underlying23 info5 rfl (by decide) (by omega) u3 x3_1 ((ji5) % 256) [.int .u8 ((ji5) % 256)] (fun _ => True) (fun _ => False) rfl rfl ?aP (fun _ hk => hk.elim) ?aF ?aO ?aB ?aS ?aL ?_; (case aP => exact rfl); (case aB => exact qne0_); (case aF => exact (fun _ _ => trivial)); (case aO => exact qne39_); (case aS => exact (below_size qne0_)); (case aL => have := LMc6.out; omega); intro v618 w7 ho hb hg hat; rw [← Ny617.out] at ho; have n0_ := Aside0.mk (hb); have n1_ := Aside0.mk (ho); clear HB; clear HO_3; have HB := n0_; have HO619 := n1_; clear n0_ n1_; clear ho hb hg hat))
      go_roundg k1
      case measure => have := HK1.out; omega
      case rel => exact ⟨(y617), (wrap64 (x5_1 + 1)), qne2_, H', ⟨by have := HK1.out; omega⟩, ⟨by (with_reducible repeat (first | apply Kd.R_alloc | apply Kd.R_drewN | apply Kd.R_drew)); exact HO619.out⟩, ⟨qne0_⟩⟩
     ·
      rw [if_neg c6] at H
      exact absurd H (by simp)
    ·
     rw [if_neg c4] at H
     exact absurd H (by simp)
   ·
    rw [if_neg c2] at H
    have c2b0 : decide (x5_1 < 8) = false := decide_eq_false c2
    clear c2
    obtain rfl := Option.some.inj H
    go_wp2
    go_ret
    exact ⟨_, qne5_, qne39_, qne0_⟩


/-! ### numeral_size_embed: function 83 -/
def numeral_size_embed.f (k : Nat) (a0_0 : Int) (a0_1 : Int) (a0_2 : Int) (a0_3 : ByteArray) (a1 : Bool) : Option (List Int) := if a1 = true then (if ([] : List Int).length < 140737488355328 then ((some (([] : List Int) ++ [(a0_1) % 256] : List Int)).bind fun y621 => ((numeral_eight.f k (IntKind.u64.wrap ((IntKind.u64.wrap (a0_2)) + 4611686018427387904))).bind fun t624 => (if y621.length + t624.length < 140737488355328 then ((some (y621 ++ t624 : List Int)).bind fun y627 => (if y627.length + a0_3.size < 140737488355328 then ((some (y627 ++ bytesOf a0_3 : List Int)).bind fun y630 => (if y630.length < 140737488355328 then (some (y630 ++ [0])) else (none))) else (none))) else (none)))) else (none)) else ((numeral_eight.f k (IntKind.u64.wrap ((IntKind.u64.wrap (a0_2)) + 4611686018427387904))).bind fun t636 => (if ([] : List Int).length + t636.length < 140737488355328 then ((some (([] : List Int) ++ t636 : List Int)).bind fun y639 => (if y639.length + a0_3.size < 140737488355328 then ((some (y639 ++ bytesOf a0_3 : List Int)).bind fun y642 => (if y642.length < 140737488355328 then (some (y642 ++ [0])) else (none))) else (none))) else (none)))
set_option maxHeartbeats 8000000 in
set_option maxRecDepth 100000 in
theorem numeral_size_embed.calls (k : Nat) (a0_0 : Int) (a0_1 : Int) (a0_2 : Int) (a0_3 : ByteArray) (a1 : Bool) (r : List Int) (w : World) (h : numeral_size_embed.f k a0_0 a0_1 a0_2 a0_3 a1 = some r) :
  Calls Tryd.prog 83 #[.agg #[.int .i64 a0_0, .int .i64 a0_1, .int .i64 a0_2, .string a0_3], .bool a1] w fun e w' => ∃ v0_ : Value, e = .returned (v0_) ∧ Kd.R (Kd.int .u8) 5 w' w.heap.size (fun _ => True) v0_ r ∧ Below w.heap.size w w' := by
 have hu77 := Tryd.underlying77
 have HB := Aside0.mk (Below.refl w.heap.size w)
 have H : (if a1 = true then (if ([] : List Int).length < 140737488355328 then ((some (([] : List Int) ++ [(a0_1) % 256] : List Int)).bind fun y621 => ((numeral_eight.f k (IntKind.u64.wrap ((IntKind.u64.wrap (a0_2)) + 4611686018427387904))).bind fun t624 => (if y621.length + t624.length < 140737488355328 then ((some (y621 ++ t624 : List Int)).bind fun y627 => (if y627.length + a0_3.size < 140737488355328 then ((some (y627 ++ bytesOf a0_3 : List Int)).bind fun y630 => (if y630.length < 140737488355328 then (some (y630 ++ [0])) else (none))) else (none))) else (none)))) else (none)) else ((numeral_eight.f k (IntKind.u64.wrap ((IntKind.u64.wrap (a0_2)) + 4611686018427387904))).bind fun t636 => (if ([] : List Int).length + t636.length < 140737488355328 then ((some (([] : List Int) ++ t636 : List Int)).bind fun y639 => (if y639.length + a0_3.size < 140737488355328 then ((some (y639 ++ bytesOf a0_3 : List Int)).bind fun y642 => (if y642.length < 140737488355328 then (some (y642 ++ [0])) else (none))) else (none))) else (none)))) = some r := h
 clear h
 by_cases c3 : a1 = true
 ·
  subst c3
  have H1 : (if ([] : List Int).length < 140737488355328 then ((some (([] : List Int) ++ [(a0_1) % 256] : List Int)).bind fun y621 => ((numeral_eight.f k (IntKind.u64.wrap ((IntKind.u64.wrap (a0_2)) + 4611686018427387904))).bind fun t624 => (if y621.length + t624.length < 140737488355328 then ((some (y621 ++ t624 : List Int)).bind fun y627 => (if y627.length + a0_3.size < 140737488355328 then ((some (y627 ++ bytesOf a0_3 : List Int)).bind fun y630 => (if y630.length < 140737488355328 then (some (y630 ++ [0])) else (none))) else (none))) else (none)))) else (none)) = some r := by rw [if_pos rfl] at H; exact H
  clear H
  have H := H1
  clear H1
  by_cases c4 : ([] : List Int).length < 140737488355328
  ·
   rw [if_pos c4] at H
   have LMc4 := Aside0.mk c4
   clear c4
   obtain ⟨y621, hy621⟩ : ∃ y_ : List Int, y_ = (([] : List Int) ++ [(a0_1) % 256]) := ⟨_, rfl⟩
   replace H : ((numeral_eight.f k (IntKind.u64.wrap ((IntKind.u64.wrap (a0_2)) + 4611686018427387904))).bind fun t624 => (if y621.length + t624.length < 140737488355328 then ((some (y621 ++ t624 : List Int)).bind fun y627 => (if y627.length + a0_3.size < 140737488355328 then ((some (y627 ++ bytesOf a0_3 : List Int)).bind fun y630 => (if y630.length < 140737488355328 then (some (y630 ++ [0])) else (none))) else (none))) else (none))) = some r := by first | (rw [hy621]; with_reducible exact H) | (have H2_ := (Option.bind_some _ _).symm.trans H; rw [hy621]; with_reducible exact H2_) | (have H2_ := (Option.bind_some _ _).symm.trans H; with_reducible exact H2_) | with_reducible exact H | (rw [hy621]; exact H) | exact H
   have Ny621 := Aside0.mk hy621
   clear hy621
   replace H := Option.bind_eq_some_iff.mp H
   obtain ⟨t624, A50, H⟩ := H
   replace H : (if y621.length + t624.length < 140737488355328 then ((some (y621 ++ t624 : List Int)).bind fun y627 => (if y627.length + a0_3.size < 140737488355328 then ((some (y627 ++ bytesOf a0_3 : List Int)).bind fun y630 => (if y630.length < 140737488355328 then (some (y630 ++ [0])) else (none))) else (none))) else (none)) = some r := H
   have A5 := Aside0.mk A50
   clear A50
   by_cases c6 : y621.length + t624.length < 140737488355328
   ·
    rw [if_pos c6] at H
    have LMc6 := Aside0.mk c6
    clear c6
    obtain ⟨y627, hy627⟩ : ∃ y_ : List Int, y_ = (y621 ++ t624) := ⟨_, rfl⟩
    replace H : (if y627.length + a0_3.size < 140737488355328 then ((some (y627 ++ bytesOf a0_3 : List Int)).bind fun y630 => (if y630.length < 140737488355328 then (some (y630 ++ [0])) else (none))) else (none)) = some r := by first | (rw [hy627]; with_reducible exact H) | (have H2_ := (Option.bind_some _ _).symm.trans H; rw [hy627]; with_reducible exact H2_) | (have H2_ := (Option.bind_some _ _).symm.trans H; with_reducible exact H2_) | with_reducible exact H | (rw [hy627]; exact H) | exact H
    have Ny627 := Aside0.mk hy627
    clear hy627
    by_cases c7 : y627.length + a0_3.size < 140737488355328
    ·
     rw [if_pos c7] at H
     have LMc7 := Aside0.mk c7
     clear c7
     obtain ⟨y630, hy630⟩ : ∃ y_ : List Int, y_ = (y627 ++ bytesOf a0_3) := ⟨_, rfl⟩
     replace H : (if y630.length < 140737488355328 then (some (y630 ++ [0])) else (none)) = some r := by first | (rw [hy630]; with_reducible exact H) | (have H2_ := (Option.bind_some _ _).symm.trans H; rw [hy630]; with_reducible exact H2_) | (have H2_ := (Option.bind_some _ _).symm.trans H; with_reducible exact H2_) | with_reducible exact H | (rw [hy630]; exact H) | exact H
     have Ny630 := Aside0.mk hy630
     clear hy630
     by_cases c8 : y630.length < 140737488355328
     ·
      rw [if_pos c8] at H
      have LMc8 := Aside0.mk c8
      clear c8
      obtain ⟨y633, hy633⟩ : ∃ y_ : List Int, y_ = (y630 ++ [0]) := ⟨_, rfl⟩
      replace H : (some y633) = some r := by first | (rw [hy633]; with_reducible exact H) | (have H2_ := (Option.bind_some _ _).symm.trans H; rw [hy633]; with_reducible exact H2_) | (have H2_ := (Option.bind_some _ _).symm.trans H; with_reducible exact H2_) | with_reducible exact H | (rw [hy633]; exact H) | exact H
      have Ny633 := Aside0.mk hy633
      clear hy633
      obtain rfl := Option.some.inj H
      go_enter Tryd.func83, Tryd.ntmps83
      have tk19 : True := trivial; have tk20 : True := trivial; have tk21 : True := trivial; have tk22 : True := trivial; have tk23 : True := trivial; have tk24 : True := trivial
      go_wp2_with (first | (have ztk19 := tk19; clear tk19 ztk19; (with_reducible refine gate_dst (N := 2) rfl ?_); refine box_event ?hg (N := 2) ?hd (cs := #[.int .i64 a0_0, .int .i64 a0_1, .int .i64 a0_2, .string a0_3]) (t := 77) ?hr ?_; (case hd => rfl); (case hg => rfl); (case hr => first | (go_simp; done) | (go_simp; rfl)); intro gb620 hg w9 hbox hb; have n0_ := Aside0.mk (below_step qne0_ hb); have n1_ := Aside0.mk (hbox); have n2_ := Aside0.mk ((by rw [hg]; exact (below_size qne0_) : w.heap.size ≤ gb620)); have n3_ := Aside0.mk ((by rw [hg]; exact (below_size qne0_) : w.heap.size ≤ gb620)); clear HB; have HB := n0_; have BK620 := n1_; have GW620 := n2_; have GE620 := n3_; clear n0_ n1_ n2_ n3_; clear hb hbox hg; have hcz10_0 : w9.cell? ⟨gb620, 0, none⟩ = some (.int .i64 a0_0) := (blk_cell BK620.out 0).trans rfl; have hcz10_1 : w9.cell? ⟨gb620, 1, none⟩ = some (.int .i64 a0_1) := (blk_cell BK620.out 1).trans rfl; have hcz10_2 : w9.cell? ⟨gb620, 2, none⟩ = some (.int .i64 a0_2) := (blk_cell BK620.out 2).trans rfl; have hcz10_3 : w9.cell? ⟨gb620, 3, none⟩ = some (.string a0_3) := (blk_cell BK620.out 3).trans rfl; have hfz10_0 := blk_frozen BK620.out 0; have hfz10_1 := blk_frozen BK620.out 1; have hfz10_2 := blk_frozen BK620.out 2; have hfz10_3 := blk_frozen BK620.out 3) | (have ztk20 := tk20; clear tk20 ztk20; (with_reducible refine gate_builtin (b := .append) (xs := #[.tmp 7, .tmp 11]) rfl ?_); at_builtin; refine Kd.R_append (Kd.int .u8) (w0 := w) w.heap.size rfl (.tmp 7) (.tmp 11) 23 5 (.int .u8 0) 1 rfl Tryd.underlying23 info5 rfl (by decide) (by omega) (.slice none 0 0) ([] : List Int) ((a0_1) % 256) [.int .u8 ((a0_1) % 256)] (fun _ => True) (fun _ => False) rfl rfl ?aP (fun _ hk => hk.elim) ?aF ?aO ?aB ?aS ?aL ?_; (case aP => exact rfl); (case aB => exact qne14_); (case aF => exact (fun _ _ => trivial)); (case aO => exact ((Kd.R_nil _ _ _ _ (fun _ => True)))); (case aS => exact (below_size qne14_)); (case aL => have := LMc4.out; omega); intro v622 w11 ho hb hg hat; rw [← Ny621.out] at ho; have n0_ := Aside0.mk (blk_grown (g := gb620) (o := .cells #[.int .i64 a0_0, .int .i64 a0_1, .int .i64 a0_2, .string a0_3] 77 (0, 0)) qne34_ hg (by simp [Value.ownBlock])); have n1_ := Aside0.mk (hb); have n2_ := Aside0.mk (ho); clear BK620; clear HB; have BK620 := n0_; have HB := n1_; have HO623 := n2_; clear n0_ n1_ n2_; clear ho hb hg hat; have hcz12_0 : w11.cell? ⟨gb620, 0, none⟩ = some (.int .i64 a0_0) := (blk_cell BK620.out 0).trans rfl; have hcz12_1 : w11.cell? ⟨gb620, 1, none⟩ = some (.int .i64 a0_1) := (blk_cell BK620.out 1).trans rfl; have hcz12_2 : w11.cell? ⟨gb620, 2, none⟩ = some (.int .i64 a0_2) := (blk_cell BK620.out 2).trans rfl; have hcz12_3 : w11.cell? ⟨gb620, 3, none⟩ = some (.string a0_3) := (blk_cell BK620.out 3).trans rfl; have hfz12_0 := blk_frozen BK620.out 0; have hfz12_1 := blk_frozen BK620.out 1; have hfz12_2 := blk_frozen BK620.out 2; have hfz12_3 := blk_frozen BK620.out 3) | (have ztk21 := tk21; clear tk21 ztk21; (with_reducible refine gate_callee (f := 85) rfl ?_); refine goesL_ (some 18) rfl rfl Tryd.func85 (by kernel_rfl) rfl #[.int .u64 (IntKind.u64.wrap ((IntKind.u64.wrap (a0_2)) + 4611686018427387904))] rfl qne1_ ?_; (with_reducible refine (numeral_eight.calls k (IntKind.u64.wrap ((IntKind.u64.wrap (a0_2)) + 4611686018427387904)) t624 _ A5.out).mono ?_); rintro e w13 ⟨v625, rfl, ho0, hb⟩; refine ⟨_, rfl, ?_⟩; have n0_ := Aside0.mk (Kd.R_elder' (by (with_reducible repeat (first | apply Kd.R_alloc | apply Kd.R_drewN | apply Kd.R_drew)); exact HO623.out) (Kd.R_base ho0) hb); have n1_ := Aside0.mk (Kd.R_lower (Kd.R_new' ho0 (Kd.R_lt (by (with_reducible repeat (first | apply Kd.R_alloc | apply Kd.R_drewN | apply Kd.R_drew)); exact HO623.out))) (below_size qne14_)); have n2_ := Aside0.mk (blk_below (g := gb620) (o := .cells #[.int .i64 a0_0, .int .i64 a0_1, .int .i64 a0_2, .string a0_3] 77 (0, 0)) qne34_ hb); have n3_ := Aside0.mk (below_step qne14_ hb); clear HO623; clear BK620; clear HB; have HO623 := n0_; have HO626 := n1_; have BK620 := n2_; have HB := n3_; clear n0_ n1_ n2_ n3_; (try clear hb); (try clear hb2); (try clear hk); (try clear hi); (try clear ho0); obtain ⟨Ao15, co15, eo15⟩ := Kd.R_slice HO626.out; subst eo15) | (have ztk22 := tk22; clear tk22 ztk22; (with_reducible refine gate_builtin (b := .append) (xs := #[.tmp 13, .tmp 18]) rfl ?_); at_builtin; refine Kd.R_append_rows (Kd.int .u8) (w0 := w) w.heap.size rfl (.tmp 13) (.tmp 18) 23 5 (.int .u8 0) 1 rfl Tryd.underlying23 info5 rfl (by decide) (by omega) v622 y621 t624 _ _ _ (fun k_ => some k_ ≠ (.slice Ao15 t624.length co15 : Value).ownBlock) (fun _ => False) rfl rfl ?aO ?aR (fun _ _ h => h) (fun _ h => h.elim) ?aF ?aB ?aS ?aL ?_; (case aR => repeat (first | exact (Kd.R_reads' HO626.out).2.2 | (with_reducible refine Kd.C_alloc ?_ _) | (with_reducible refine Kd.C_drewN ?_ _) | (with_reducible refine Kd.C_drew ?_))); (case aB => exact qne14_); (case aF => exact (fun k_ hk => Kd.fresh' (Kd.R_lt (by (with_reducible repeat (first | apply Kd.R_alloc | apply Kd.R_drewN | apply Kd.R_drew)); exact HO626.out)) k_ hk)); (case aO => exact (by (with_reducible repeat (first | apply Kd.R_alloc | apply Kd.R_drewN | apply Kd.R_drew)); exact Kd.R_mono HO623.out (fun _ hk => hk.2))); (case aS => exact (below_size qne14_)); (case aL => have := LMc6.out; omega); intro v628 w14 ho hb hg hat; rw [← Ny627.out] at ho; have n0_ := Aside0.mk (blk_grown (g := gb620) (o := .cells #[.int .i64 a0_0, .int .i64 a0_1, .int .i64 a0_2, .string a0_3] 77 (0, 0)) qne34_ hg (Kd.R_ne HO623.out BK620.out (by decide))); have n1_ := Aside0.mk (Kd.R_after (ok := (fun _ => True)) (by (with_reducible repeat (first | apply Kd.R_alloc | apply Kd.R_drewN | apply Kd.R_drew)); exact HO626.out) hg hat); have n2_ := Aside0.mk (hb); have n3_ := Aside0.mk (ho); clear BK620; clear HO626; clear HB; clear HO623; have BK620 := n0_; have HO626 := n1_; have HB := n2_; have HO629 := n3_; clear n0_ n1_ n2_ n3_; clear ho hb hg hat; have hcz16_0 : w14.cell? ⟨gb620, 0, none⟩ = some (.int .i64 a0_0) := (blk_cell BK620.out 0).trans rfl; have hcz16_1 : w14.cell? ⟨gb620, 1, none⟩ = some (.int .i64 a0_1) := (blk_cell BK620.out 1).trans rfl; have hcz16_2 : w14.cell? ⟨gb620, 2, none⟩ = some (.int .i64 a0_2) := (blk_cell BK620.out 2).trans rfl; have hcz16_3 : w14.cell? ⟨gb620, 3, none⟩ = some (.string a0_3) := (blk_cell BK620.out 3).trans rfl; have hfz16_0 := blk_frozen BK620.out 0; have hfz16_1 := blk_frozen BK620.out 1; have hfz16_2 := blk_frozen BK620.out 2; have hfz16_3 := blk_frozen BK620.out 3) | (have ztk23 := tk23; clear tk23 ztk23; at_builtin; refine print_append_str (w0 := w) w.heap.size rfl (.tmp 20) _ 23 9 5 rfl Tryd.underlying23 Tryd.underlying9 info5 v628 y627 a0_3 rfl rfl ?aO ?aB ?aS ?aL ?_; (case aB => exact qne14_); (case aO => exact (Kd.own_of_R (by (with_reducible repeat (first | apply Kd.R_alloc | apply Kd.R_drewN | apply Kd.R_drew)); exact Kd.R_mono HO629.out (fun _ hk => trivial)))); (case aS => exact (below_size qne14_)); (case aL => have := LMc7.out; omega); intro v631 w17 ho0 hb hg; have ho := Kd.R_of_own (h1 := fun _ => rfl) (ok := fun _ => True) ho0 (fun _ _ => trivial); clear ho0; have hat := True.intro; rw [← Ny630.out] at ho; change Kd.R (Kd.int .u8) 5 w17 w.heap.size (fun _ => True) v631 y630 at ho; have n0_ := Aside0.mk (blk_grown (g := gb620) (o := .cells #[.int .i64 a0_0, .int .i64 a0_1, .int .i64 a0_2, .string a0_3] 77 (0, 0)) qne34_ hg (Kd.R_ne HO629.out BK620.out (by decide))); have n1_ := Aside0.mk (hb); have n2_ := Aside0.mk (ho); clear BK620; clear HB; clear HO629; have BK620 := n0_; have HB := n1_; have HO632 := n2_; clear n0_ n1_ n2_; clear ho hb hg hat) | (have ztk24 := tk24; clear tk24 ztk24; (with_reducible refine gate_builtin (b := .append) (xs := #[.tmp 24, .tmp 25]) rfl ?_); at_builtin; refine Kd.R_append (Kd.int .u8) (w0 := w) w.heap.size rfl (.tmp 24) (.tmp 25) 23 5 (.int .u8 0) 1 rfl Tryd.underlying23 info5 rfl (by decide) (by omega) v631 y630 0 [.int .u8 0] (fun _ => True) (fun _ => False) rfl rfl ?aP (fun _ hk => hk.elim) ?aF ?aO ?aB ?aS ?aL ?_; (case aP => exact rfl); (case aB => exact qne14_); (case aF => exact (fun _ _ => trivial)); (case aO => exact (by (with_reducible repeat (first | apply Kd.R_alloc | apply Kd.R_drewN | apply Kd.R_drew)); exact HO632.out)); (case aS => exact (below_size qne14_)); (case aL => have := LMc8.out; omega); intro v634 w18 ho hb hg hat; rw [← Ny633.out] at ho; have n0_ := Aside0.mk (blk_grown (g := gb620) (o := .cells #[.int .i64 a0_0, .int .i64 a0_1, .int .i64 a0_2, .string a0_3] 77 (0, 0)) qne34_ hg (Kd.R_ne HO632.out BK620.out (by decide))); have n1_ := Aside0.mk (hb); have n2_ := Aside0.mk (ho); clear BK620; clear HB; clear HO632; have BK620 := n0_; have HB := n1_; have HO635 := n2_; clear n0_ n1_ n2_; clear ho hb hg hat))
      go_ret
      exact ⟨_, qne5_, by (with_reducible repeat (first | apply Kd.R_alloc | apply Kd.R_drewN | apply Kd.R_drew)); exact HO635.out, qne14_⟩
     ·
      rw [if_neg c8] at H
      exact absurd H (by simp)
    ·
     rw [if_neg c7] at H
     exact absurd H (by simp)
   ·
    rw [if_neg c6] at H
    exact absurd H (by simp)
  ·
   rw [if_neg c4] at H
   exact absurd H (by simp)
 ·
  replace c3 := Bool.eq_false_iff.mpr c3
  subst c3
  have H1 : ((numeral_eight.f k (IntKind.u64.wrap ((IntKind.u64.wrap (a0_2)) + 4611686018427387904))).bind fun t636 => (if ([] : List Int).length + t636.length < 140737488355328 then ((some (([] : List Int) ++ t636 : List Int)).bind fun y639 => (if y639.length + a0_3.size < 140737488355328 then ((some (y639 ++ bytesOf a0_3 : List Int)).bind fun y642 => (if y642.length < 140737488355328 then (some (y642 ++ [0])) else (none))) else (none))) else (none))) = some r := by rw [if_neg (show ¬ (false = true) by decide)] at H; exact H
  clear H
  have H := H1
  clear H1
  replace H := Option.bind_eq_some_iff.mp H
  obtain ⟨t636, A250, H⟩ := H
  replace H : (if ([] : List Int).length + t636.length < 140737488355328 then ((some (([] : List Int) ++ t636 : List Int)).bind fun y639 => (if y639.length + a0_3.size < 140737488355328 then ((some (y639 ++ bytesOf a0_3 : List Int)).bind fun y642 => (if y642.length < 140737488355328 then (some (y642 ++ [0])) else (none))) else (none))) else (none)) = some r := H
  have A25 := Aside0.mk A250
  clear A250
  by_cases c26 : ([] : List Int).length + t636.length < 140737488355328
  ·
   rw [if_pos c26] at H
   have LMc26 := Aside0.mk c26
   clear c26
   obtain ⟨y639, hy639⟩ : ∃ y_ : List Int, y_ = (([] : List Int) ++ t636) := ⟨_, rfl⟩
   replace H : (if y639.length + a0_3.size < 140737488355328 then ((some (y639 ++ bytesOf a0_3 : List Int)).bind fun y642 => (if y642.length < 140737488355328 then (some (y642 ++ [0])) else (none))) else (none)) = some r := by first | (rw [hy639]; with_reducible exact H) | (have H2_ := (Option.bind_some _ _).symm.trans H; rw [hy639]; with_reducible exact H2_) | (have H2_ := (Option.bind_some _ _).symm.trans H; with_reducible exact H2_) | with_reducible exact H | (rw [hy639]; exact H) | exact H
   have Ny639 := Aside0.mk hy639
   clear hy639
   by_cases c27 : y639.length + a0_3.size < 140737488355328
   ·
    rw [if_pos c27] at H
    have LMc27 := Aside0.mk c27
    clear c27
    obtain ⟨y642, hy642⟩ : ∃ y_ : List Int, y_ = (y639 ++ bytesOf a0_3) := ⟨_, rfl⟩
    replace H : (if y642.length < 140737488355328 then (some (y642 ++ [0])) else (none)) = some r := by first | (rw [hy642]; with_reducible exact H) | (have H2_ := (Option.bind_some _ _).symm.trans H; rw [hy642]; with_reducible exact H2_) | (have H2_ := (Option.bind_some _ _).symm.trans H; with_reducible exact H2_) | with_reducible exact H | (rw [hy642]; exact H) | exact H
    have Ny642 := Aside0.mk hy642
    clear hy642
    by_cases c28 : y642.length < 140737488355328
    ·
     rw [if_pos c28] at H
     have LMc28 := Aside0.mk c28
     clear c28
     obtain ⟨y645, hy645⟩ : ∃ y_ : List Int, y_ = (y642 ++ [0]) := ⟨_, rfl⟩
     replace H : (some y645) = some r := by first | (rw [hy645]; with_reducible exact H) | (have H2_ := (Option.bind_some _ _).symm.trans H; rw [hy645]; with_reducible exact H2_) | (have H2_ := (Option.bind_some _ _).symm.trans H; with_reducible exact H2_) | with_reducible exact H | (rw [hy645]; exact H) | exact H
     have Ny645 := Aside0.mk hy645
     clear hy645
     obtain rfl := Option.some.inj H
     go_enter Tryd.func83, Tryd.ntmps83
     have tk37 : True := trivial; have tk38 : True := trivial; have tk39 : True := trivial; have tk40 : True := trivial; have tk41 : True := trivial
     go_wp2_with (first | (have ztk37 := tk37; clear tk37 ztk37; (with_reducible refine gate_dst (N := 2) rfl ?_); refine box_event ?hg (N := 2) ?hd (cs := #[.int .i64 a0_0, .int .i64 a0_1, .int .i64 a0_2, .string a0_3]) (t := 77) ?hr ?_; (case hd => rfl); (case hg => rfl); (case hr => first | (go_simp; done) | (go_simp; rfl)); intro gb620 hg w29 hbox hb; have n0_ := Aside0.mk (below_step qne0_ hb); have n1_ := Aside0.mk (hbox); have n2_ := Aside0.mk ((by rw [hg]; exact (below_size qne0_) : w.heap.size ≤ gb620)); have n3_ := Aside0.mk ((by rw [hg]; exact (below_size qne0_) : w.heap.size ≤ gb620)); clear HB; have HB := n0_; have BK620 := n1_; have GW620 := n2_; have GE620 := n3_; clear n0_ n1_ n2_ n3_; clear hb hbox hg; have hcz30_0 : w29.cell? ⟨gb620, 0, none⟩ = some (.int .i64 a0_0) := (blk_cell BK620.out 0).trans rfl; have hcz30_1 : w29.cell? ⟨gb620, 1, none⟩ = some (.int .i64 a0_1) := (blk_cell BK620.out 1).trans rfl; have hcz30_2 : w29.cell? ⟨gb620, 2, none⟩ = some (.int .i64 a0_2) := (blk_cell BK620.out 2).trans rfl; have hcz30_3 : w29.cell? ⟨gb620, 3, none⟩ = some (.string a0_3) := (blk_cell BK620.out 3).trans rfl; have hfz30_0 := blk_frozen BK620.out 0; have hfz30_1 := blk_frozen BK620.out 1; have hfz30_2 := blk_frozen BK620.out 2; have hfz30_3 := blk_frozen BK620.out 3) | (have ztk38 := tk38; clear tk38 ztk38; (with_reducible refine gate_callee (f := 85) rfl ?_); refine goesL_ (some 18) rfl rfl Tryd.func85 (by kernel_rfl) rfl #[.int .u64 (IntKind.u64.wrap ((IntKind.u64.wrap (a0_2)) + 4611686018427387904))] rfl qne1_ ?_; (with_reducible refine (numeral_eight.calls k (IntKind.u64.wrap ((IntKind.u64.wrap (a0_2)) + 4611686018427387904)) t636 _ A25.out).mono ?_); rintro e w31 ⟨v637, rfl, ho0, hb⟩; refine ⟨_, rfl, ?_⟩; have n0_ := Aside0.mk (Kd.R_lower ho0 (below_size qne14_)); have n1_ := Aside0.mk (blk_below (g := gb620) (o := .cells #[.int .i64 a0_0, .int .i64 a0_1, .int .i64 a0_2, .string a0_3] 77 (0, 0)) qne34_ hb); have n2_ := Aside0.mk (below_step qne14_ hb); clear BK620; clear HB; have HO638 := n0_; have BK620 := n1_; have HB := n2_; clear n0_ n1_ n2_; (try clear hb); (try clear hb2); (try clear hk); (try clear hi); (try clear ho0); obtain ⟨Ao33, co33, eo33⟩ := Kd.R_slice HO638.out; subst eo33) | (have ztk39 := tk39; clear tk39 ztk39; (with_reducible refine gate_builtin (b := .append) (xs := #[.tmp 13, .tmp 18]) rfl ?_); at_builtin; refine Kd.R_append_rows (Kd.int .u8) (w0 := w) w.heap.size rfl (.tmp 13) (.tmp 18) 23 5 (.int .u8 0) 1 rfl Tryd.underlying23 info5 rfl (by decide) (by omega) (.slice none 0 0) ([] : List Int) t636 _ _ _ (fun k_ => some k_ ≠ (.slice Ao33 t636.length co33 : Value).ownBlock) (fun _ => False) rfl rfl ?aO ?aR (fun _ _ h => h) (fun _ h => h.elim) ?aF ?aB ?aS ?aL ?_; (case aR => repeat (first | exact (Kd.R_reads' HO638.out).2.2 | (with_reducible refine Kd.C_alloc ?_ _) | (with_reducible refine Kd.C_drewN ?_ _) | (with_reducible refine Kd.C_drew ?_))); (case aB => exact qne14_); (case aF => exact (fun k_ hk => Kd.fresh' (Kd.R_lt (by (with_reducible repeat (first | apply Kd.R_alloc | apply Kd.R_drewN | apply Kd.R_drew)); exact HO638.out)) k_ hk)); (case aO => exact ((Kd.R_nil _ _ _ _ (fun k_ => some k_ ≠ (.slice Ao33 t636.length co33 : Value).ownBlock)))); (case aS => exact (below_size qne14_)); (case aL => have := LMc26.out; omega); intro v640 w32 ho hb hg hat; rw [← Ny639.out] at ho; have n0_ := Aside0.mk (blk_grown (g := gb620) (o := .cells #[.int .i64 a0_0, .int .i64 a0_1, .int .i64 a0_2, .string a0_3] 77 (0, 0)) qne34_ hg (by simp [Value.ownBlock])); have n1_ := Aside0.mk (Kd.R_after (Kd.R_apart_nil (by (with_reducible repeat (first | apply Kd.R_alloc | apply Kd.R_drewN | apply Kd.R_drew)); exact HO638.out)) hg hat); have n2_ := Aside0.mk (hb); have n3_ := Aside0.mk (ho); clear BK620; clear HO638; clear HB; have BK620 := n0_; have HO638 := n1_; have HB := n2_; have HO641 := n3_; clear n0_ n1_ n2_ n3_; clear ho hb hg hat; have hcz34_0 : w32.cell? ⟨gb620, 0, none⟩ = some (.int .i64 a0_0) := (blk_cell BK620.out 0).trans rfl; have hcz34_1 : w32.cell? ⟨gb620, 1, none⟩ = some (.int .i64 a0_1) := (blk_cell BK620.out 1).trans rfl; have hcz34_2 : w32.cell? ⟨gb620, 2, none⟩ = some (.int .i64 a0_2) := (blk_cell BK620.out 2).trans rfl; have hcz34_3 : w32.cell? ⟨gb620, 3, none⟩ = some (.string a0_3) := (blk_cell BK620.out 3).trans rfl; have hfz34_0 := blk_frozen BK620.out 0; have hfz34_1 := blk_frozen BK620.out 1; have hfz34_2 := blk_frozen BK620.out 2; have hfz34_3 := blk_frozen BK620.out 3) | (have ztk40 := tk40; clear tk40 ztk40; at_builtin; refine print_append_str (w0 := w) w.heap.size rfl (.tmp 20) _ 23 9 5 rfl Tryd.underlying23 Tryd.underlying9 info5 v640 y639 a0_3 rfl rfl ?aO ?aB ?aS ?aL ?_; (case aB => exact qne14_); (case aO => exact (Kd.own_of_R (by (with_reducible repeat (first | apply Kd.R_alloc | apply Kd.R_drewN | apply Kd.R_drew)); exact Kd.R_mono HO641.out (fun _ hk => trivial)))); (case aS => exact (below_size qne14_)); (case aL => have := LMc27.out; omega); intro v643 w35 ho0 hb hg; have ho := Kd.R_of_own (h1 := fun _ => rfl) (ok := fun _ => True) ho0 (fun _ _ => trivial); clear ho0; have hat := True.intro; rw [← Ny642.out] at ho; change Kd.R (Kd.int .u8) 5 w35 w.heap.size (fun _ => True) v643 y642 at ho; have n0_ := Aside0.mk (blk_grown (g := gb620) (o := .cells #[.int .i64 a0_0, .int .i64 a0_1, .int .i64 a0_2, .string a0_3] 77 (0, 0)) qne34_ hg (Kd.R_ne HO641.out BK620.out (by decide))); have n1_ := Aside0.mk (hb); have n2_ := Aside0.mk (ho); clear BK620; clear HB; clear HO641; have BK620 := n0_; have HB := n1_; have HO644 := n2_; clear n0_ n1_ n2_; clear ho hb hg hat) | (have ztk41 := tk41; clear tk41 ztk41; (with_reducible refine gate_builtin (b := .append) (xs := #[.tmp 24, .tmp 25]) rfl ?_); at_builtin; refine Kd.R_append (Kd.int .u8) (w0 := w) w.heap.size rfl (.tmp 24) (.tmp 25) 23 5 (.int .u8 0) 1 rfl Tryd.underlying23 info5 rfl (by decide) (by omega) v643 y642 0 [.int .u8 0] (fun _ => True) (fun _ => False) rfl rfl ?aP (fun _ hk => hk.elim) ?aF ?aO ?aB ?aS ?aL ?_; (case aP => exact rfl); (case aB => exact qne14_); (case aF => exact (fun _ _ => trivial)); (case aO => exact (by (with_reducible repeat (first | apply Kd.R_alloc | apply Kd.R_drewN | apply Kd.R_drew)); exact HO644.out)); (case aS => exact (below_size qne14_)); (case aL => have := LMc28.out; omega); intro v646 w36 ho hb hg hat; rw [← Ny645.out] at ho; have n0_ := Aside0.mk (blk_grown (g := gb620) (o := .cells #[.int .i64 a0_0, .int .i64 a0_1, .int .i64 a0_2, .string a0_3] 77 (0, 0)) qne34_ hg (Kd.R_ne HO644.out BK620.out (by decide))); have n1_ := Aside0.mk (hb); have n2_ := Aside0.mk (ho); clear BK620; clear HB; clear HO644; have BK620 := n0_; have HB := n1_; have HO647 := n2_; clear n0_ n1_ n2_; clear ho hb hg hat))
     go_ret
     exact ⟨_, qne5_, by (with_reducible repeat (first | apply Kd.R_alloc | apply Kd.R_drewN | apply Kd.R_drew)); exact HO647.out, qne14_⟩
    ·
     rw [if_neg c28] at H
     exact absurd H (by simp)
   ·
    rw [if_neg c27] at H
    exact absurd H (by simp)
  ·
   rw [if_neg c26] at H
   exact absurd H (by simp)

end Go.Proofs.YtcdajedmlfhmeaaDoor.XN
