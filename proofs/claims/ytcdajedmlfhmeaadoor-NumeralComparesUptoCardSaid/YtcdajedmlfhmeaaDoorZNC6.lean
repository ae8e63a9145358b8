import Derived.Test.YtcdajedmlfhmeaaDoorZNC0
import Derived.Test.YtcdajedmlfhmeaaDoorZNC1
import Derived.Test.YtcdajedmlfhmeaaDoorZNC2
import Derived.Test.YtcdajedmlfhmeaaDoorZNC3
import Derived.Test.YtcdajedmlfhmeaaDoorZNC5
import Derived.Test.YtcdajedmlfhmeaaDoorZNC4
namespace Go.Proofs.YtcdajedmlfhmeaaDoor.XN
open Go.RowKit Go.Proofs.YtcdajedmlfhmeaaDoorW.PrintWords Go.Proofs.YtcdajedmlfhmeaaDoorW.PrintLast Go.Proofs.YtcdajedmlfhmeaaDoorW.PrintMore
attribute [local go_sem] max2_int min2_int max_two min_two max_three min_three max_four min_four
set_option linter.unusedVariables false
set_option linter.unusedSimpArgs false
set_option maxHeartbeats 8000000
set_option maxRecDepth 100000

def n_Compare.j0:Nat→Int→ByteArray→ByteArray→Int→Bool→Option (Int)
 | 0,_,_,_,_,_ => none
 | k+1,x0,x1,x2,x9,x10 => if x10=true then ((n_human.f k x0 x1).bind fun bt294 => ((n_human.f k x0 x2).bind fun bt298 => ((n_order.f k bt294.1 bt294.2.1 bt294.2.2.1 bt294.2.2.2 bt298.1 bt298.2.1 bt298.2.2.1 bt298.2.2.2).bind fun t302 => (some t302)))) else (if x9=128 then ((n_Month.f k x1).bind fun t303 => ((n_Month.f k x2).bind fun t304 => ((cmp_Compare_int.f t303 t304).bind fun t305 => (some t305)))) else (if x9=256 then ((n_versions.f k x1 x2).bind fun t306 => (some t306)) else (if x9=32 then ((n_General.f k x1).bind fun bt307 => ((n_General.f k x2).bind fun bt312 => (if bt307.1=bt312.1 then ((n_sizeOf.f bt307.2.1 bt307.2.2.1 bt307.2.2.2.1 0).bind fun bt320 => ((n_sizeOf.f bt312.2.1 bt312.2.2.1 bt312.2.2.2.1 0).bind fun bt324 => ((n_order.f k bt320.1 bt320.2.1 bt320.2.2.1 bt320.2.2.2 bt324.1 bt324.2.1 bt324.2.2.1 bt324.2.2.2).bind fun t328 => (some t328)))) else ((api_Class_53.f bt307.1 bt312.1).bind fun t319 => (some t319))))) else ((strings_Compare.f x1 x2).bind fun t329 => (some t329)))))
def n_Compare.f (k:Nat) (a0:Int) (a1:ByteArray) (a2:ByteArray):Option (Int):=if a0=16 then (n_Compare.j0 k a0 a1 a2 a0 (a0 == 16)) else (n_Compare.j0 k a0 a1 a2 a0 (a0 == 64))
def n_Compare.T13:Bool × List (List Nat × List Nat):=(true,[([],[]),([0],[0]),([],[]),([2],[2]),([],[]),([4],[4]),([1,3,5],[1,3,5]),([],[]),([7],[7]),([],[]),([9],[9]),([],[]),([11],[11]),([8,10,12,6],[8,10,12]),([6,13,13],[6,13]),([14,14,0,1,2,3,4,5,6,7,8,9,10,11,12,13,14],[14])])
def n_Compare.B13:List Nat:=[0,1,0,4,0,16,63,0,128,0,512,0,2048,8191,16383,32767]
theorem n_Compare.tab13 : rtab .any (opsOf Tryd.f27 13) = n_Compare.T13 := by kernel_rfl
theorem n_Compare.bits13 : waitsOk n_Compare.T13.2 n_Compare.B13 = true := by kernel_rfl
theorem n_Compare.calls (k : Nat) (a0 : Int) (a1 : ByteArray) (a2 : ByteArray) (r : Int) (w : World) (hGL : GOK w) (h : n_Compare.f k a0 a1 a2 = some r) :
  Calls Tryd.prog 27 #[.int .u16 a0,.string a1,.string a2] w fun e w' => e=.returned (.int .i64 r)∧Below w.heap.size w w':=by
 have hu29:=Tryd.underlying29;have HGL:=M_ hGL;clear hGL;have HB:=M_ (Below.refl w.heap.size w);have H:(if a0=16 then (n_Compare.j0 k a0 a1 a2 a0 (a0 == 16)) else (n_Compare.j0 k a0 a1 a2 a0 (a0 == 64)))=some r:=h;clear h;have HC4:=M_ H;clear H
 go_enter Tryd.func27,Tryd.ntmps27
 go_upto_if 10 with (fail)
 go_cut [10] (fun v10 wc => ∃ (kq:Nat) (x10_3:Bool),v10=.bool x10_3∧Aside0 (n_Compare.j0 kq a0 a1 a2 a0 x10_3=some r)∧Aside0 (kq≤k)∧Aside0 (Below w.heap.size w wc))
 case first =>
  have H:=HC4.out;clear HC4
  by_cases c5:a0=16
  ·rw [if_pos c5] at H;have c5b0:(a0 == 16)=true:=beq_iff_eq.mpr c5;have c5b1:(a0 != 16)=false:=nF_ c5;clear c5
   (first|rw [c5b0]|(simp only [i64_w,i32_w];rw [c5b0])|skip)
   have H':=M_ H;clear H;go_wp2;go_meet
   case rel => exact ⟨_,((a0 == 16)),qnc1_,H',⟨by first|omega|exact Nat.le_refl _⟩,⟨qnc2_⟩⟩
  ·rw [if_neg c5] at H;have c5b0:(a0 == 16)=false:=bF_ c5;have c5b1:(a0 != 16)=true:=bne_iff_ne.mpr c5
   (first|rw [c5b0]|(simp only [i64_w,i32_w];rw [c5b0])|skip)
   have H':=M_ H;clear H;go_wp2;go_meet
   case rel => exact ⟨_,((a0 == 64)),qnc1_,H',⟨by first|omega|exact Nat.le_refl _⟩,⟨qnc2_⟩⟩
 case rest =>
  clear HC4
  (try clear c5);(try clear c5b0);(try clear c5b1)
  obtain ⟨kq,x10_3,rfl,HA,HJ3,HB⟩:=hcut
  cases kq with
  | zero => exact absurd HA.out (by simp [n_Compare.j0])
  | succ kj3 =>
   have H:=HA.out;clear HA;simp only [n_Compare.j0] at H
   by_cases c6:x10_3=true
   ·subst c6;rw [if_pos rfl] at H;obtain ⟨⟨t294,t295,t296,t297⟩,A7,H⟩:=ob_ H;obtain ⟨⟨t298,t299,t300,t301⟩,A8,H⟩:=ob_ H;obtain ⟨t302,A9,H⟩:=ob_ H;obtain rfl:=Option.some.inj H;have tk13:=trivial;have tk14:=trivial;have tk15:=trivial
    go_wp2_with (first|(clear tk13;(with_reducible refine gate_callee (f:=50) rfl ?_);refine goesL_ (some 15) rfl rfl Tryd.func50 (by kernel_rfl) rfl #[.int .u16 a0,.string a1] rfl qnc0_ ?_;(with_reducible refine (n_human.calls kj3 a0 a1 t294 t295 t296 t297 _ A7.out).mono ?_);rintro e w10 ⟨rfl,hb⟩;refine ⟨_,rfl,?_⟩;have n0_:=M_ (below_step qnc2_ hb);clear HB;have HB:=n0_;clear n0_;(try clear hb))|(clear tk14;(with_reducible refine gate_callee (f:=50) rfl ?_);refine goesL_ (some 18) rfl rfl Tryd.func50 (by kernel_rfl) rfl #[.int .u16 a0,.string a2] rfl qnc0_ ?_;(with_reducible refine (n_human.calls kj3 a0 a2 t298 t299 t300 t301 _ A8.out).mono ?_);rintro e w11 ⟨rfl,hb⟩;refine ⟨_,rfl,?_⟩;have n0_:=M_ (below_step qnc2_ hb);clear HB;have HB:=n0_;clear n0_;(try clear hb))|(clear tk15;(with_reducible refine gate_callee (f:=49) rfl ?_);refine goesL_ (some 19) rfl rfl Tryd.func49 (by kernel_rfl) rfl #[.agg #[.int .i64 t294,.int .i64 t295,.int .i64 t296,.string t297],.agg #[.int .i64 t298,.int .i64 t299,.int .i64 t300,.string t301]] rfl qnc0_ ?_;(with_reducible refine (n_order.calls kj3 t294 t295 t296 t297 t298 t299 t300 t301 t302 _ A9.out).mono ?_);rintro e w12 ⟨rfl,hb⟩;refine ⟨_,rfl,?_⟩;have n0_:=M_ (below_step qnc2_ hb);clear HB;have HB:=n0_;clear n0_;(try clear hb)))
    go_ret;exact ⟨qnc5_,qnc2_⟩
   ·replace c6:=Bool.eq_false_iff.mpr c6;subst c6;rw [if_neg (show ¬ (false=true) by decide)] at H
    by_cases c16:a0=128
    ·rw [if_pos c16] at H;have c16b0:(a0 == 128)=true:=beq_iff_eq.mpr c16;have c16b1:(a0 != 128)=false:=nF_ c16;clear c16;obtain ⟨t303,A17,H⟩:=ob_ H;obtain ⟨t304,A18,H⟩:=ob_ H;obtain ⟨t305,A19,H⟩:=ob_ H;obtain rfl:=Option.some.inj H;have tk20:=trivial;have tk21:=trivial;have tk22:=trivial
     go_wp2_with (first|(clear tk20;(with_reducible refine gate_callee (f:=23) rfl ?_);refine goesL_ (some 23) rfl rfl Tryd.func23 (by kernel_rfl) rfl #[.string a1] rfl qnc0_ ?_;(with_reducible refine (n_Month.calls kj3 a1 t303 _ ?side1 A17.out).mono ?_);(case side1 => exact GOK.below HGL.out qnc2_);rintro e w' ⟨rfl,⟨nd,rfl⟩⟩;refine ⟨_,rfl,?_⟩)|(clear tk21;(with_reducible refine gate_callee (f:=23) rfl ?_);refine goesL_ (some 25) rfl rfl Tryd.func23 (by kernel_rfl) rfl #[.string a2] rfl qnc0_ ?_;(with_reducible refine (n_Month.calls kj3 a2 t304 _ ?side1 A18.out).mono ?_);(case side1 => exact GOK.below HGL.out qnc2_);rintro e w' ⟨rfl,⟨nd,rfl⟩⟩;refine ⟨_,rfl,?_⟩)|(clear tk22;(with_reducible refine gate_callee (f:=51) rfl ?_);refine goesL_ (some 26) rfl rfl Tryd.func51 (by kernel_rfl) rfl #[.int .i64 t303,.int .i64 t304] rfl qnc0_ ?_;(with_reducible refine (cmp_Compare_int.calls t303 t304 t305 _ A19.out).mono ?_);rintro e w' ⟨rfl,⟨nd,rfl⟩⟩;refine ⟨_,rfl,?_⟩))
     go_ret;exact ⟨qnc5_,qnc2_⟩
    ·rw [if_neg c16] at H;have c16b0:(a0 == 128)=false:=bF_ c16;have c16b1:(a0 != 128)=true:=bne_iff_ne.mpr c16
     by_cases c23:a0=256
     ·rw [if_pos c23] at H;have c23b0:(a0 == 256)=true:=beq_iff_eq.mpr c23;have c23b1:(a0 != 256)=false:=nF_ c23;clear c23;obtain ⟨t306,A24,H⟩:=ob_ H;obtain rfl:=Option.some.inj H
      go_wp2_with (first|((with_reducible refine gate_callee (f:=52) rfl ?_);refine goesL_ (some 31) rfl rfl Tryd.func52 (by kernel_rfl) rfl #[.string a1,.string a2] rfl qnc0_ ?_;(with_reducible refine (n_versions.calls kj3 a1 a2 t306 _ ?side1 A24.out).mono ?_);(case side1 => exact GOK.below HGL.out qnc2_);rintro e w25 ⟨rfl,hb⟩;refine ⟨_,rfl,?_⟩;have n0_:=M_ (below_step qnc2_ hb);clear HB;have HB:=n0_;clear n0_;(try clear hb)))
      go_ret;exact ⟨qnc5_,qnc2_⟩
     ·rw [if_neg c23] at H;have c23b0:(a0 == 256)=false:=bF_ c23;have c23b1:(a0 != 256)=true:=bne_iff_ne.mpr c23
      by_cases c26:a0=32
      ·rw [if_pos c26] at H;have c26b0:(a0 == 32)=true:=beq_iff_eq.mpr c26;have c26b1:(a0 != 32)=false:=nF_ c26;clear c26;obtain ⟨⟨t307,t308,t309,t310,t311⟩,A27,H⟩:=ob_ H;obtain ⟨⟨t312,t313,t314,t315,t316⟩,A28,H⟩:=ob_ H
       by_cases c29:t307=t312
       ·rw [if_pos c29] at H;have c29b0:(t307 == t312)=true:=beq_iff_eq.mpr c29;have c29b1:(t307 != t312)=false:=nF_ c29;clear c29;obtain ⟨⟨t320,t321,t322,t323⟩,A30,H⟩:=ob_ H;obtain ⟨⟨t324,t325,t326,t327⟩,A31,H⟩:=ob_ H;obtain ⟨t328,A32,H⟩:=ob_ H;obtain rfl:=Option.some.inj H;have tk45:=trivial;have tk46:=trivial;have tk47:=trivial;have tk48:=trivial
        try go_wp2_with (first|(clear tk45;(with_reducible refine gate_callee (f:=17) rfl ?_);refine goesL_ (some 35) rfl rfl Tryd.func17 (by kernel_rfl) rfl #[.string a1] rfl qnc0_ ?_;(with_reducible refine (n_General.calls kj3 a1 t307 t308 t309 t310 t311 _ A27.out).mono ?_);rintro e w33 ⟨rfl,hb⟩;refine ⟨_,rfl,?_⟩;have n0_:=M_ (below_step qnc2_ hb);clear HB;have HB:=n0_;clear n0_;(try clear hb))|(clear tk46;(with_reducible refine gate_callee (f:=17) rfl ?_);refine goesL_ (some 37) rfl rfl Tryd.func17 (by kernel_rfl) rfl #[.string a2] rfl qnc0_ ?_;(with_reducible refine (n_General.calls kj3 a2 t312 t313 t314 t315 t316 _ A28.out).mono ?_);rintro e w34 ⟨rfl,hb⟩;refine ⟨_,rfl,?_⟩;have n0_:=M_ (below_step qnc2_ hb);clear HB;have HB:=n0_;clear n0_;(try clear hb))|(clear tk47;(with_reducible refine gate_dst (N:=7) rfl ?_);refine box_event ?hg (N:=7) ?hd (cs:=#[.int .u8 0,.bool false,.string ⟨#[]⟩,.int .i64 0,.int .i64 0]) (t:=29) ?hr ?_;(case hd => rfl);(case hg => rfl);(case hr => first|(go_simp;done)|(go_simp;rfl));intro gb317 hg w35 hbox hb;have n0_:=M_ (below_step qnc2_ hb);have n1_:=M_ (hbox);have n2_:=M_ ((by rw [hg];exact (below_size qnc2_):w.heap.size≤gb317));have n3_:=n2_;clear HB;have HB:=n0_;have BK317:=n1_;have GW317:=n2_;have GE317:=n3_;clear n0_ n1_ n2_ n3_;clear hb hbox hg)|(clear tk48;(with_reducible refine gate_dst (N:=8) rfl ?_);refine box_event ?hg (N:=8) ?hd (cs:=#[.int .u8 0,.bool false,.string ⟨#[]⟩,.int .i64 0,.int .i64 0]) (t:=29) ?hr ?_;(case hd => rfl);(case hg => rfl);(case hr => first|(go_simp;done)|(go_simp;rfl));intro gb318 hg w36 hbox hb;have n0_:=M_ (blk_below (g:=gb317) (o:=.cells #[.int .u8 0,.bool false,.string ⟨#[]⟩,.int .i64 0,.int .i64 0] 29 (0,0)) qnc66_ hb);have n1_:=M_ (below_step qnc73_ hb);have n2_:=M_ (hbox);have n3_:=M_ ((by rw [hg];exact (below_size qnc73_):w.heap.size≤gb318));have n4_:=n3_;have n5_:=M_ ((by rw [hg];exact Nat.ne_of_lt (blk_lt (g:=gb317) (o:=.cells #[.int .u8 0,.bool false,.string ⟨#[]⟩,.int .i64 0,.int .i64 0] 29 (0,0)) qnc66_):gb317 ≠ gb318));have n6_:=M_ ((by rw [hg];exact Nat.ne_of_gt (blk_lt (g:=gb317) (o:=.cells #[.int .u8 0,.bool false,.string ⟨#[]⟩,.int .i64 0,.int .i64 0] 29 (0,0)) qnc66_):gb318 ≠ gb317));clear BK317;clear HB;have BK317:=n0_;have HB:=n1_;have BK318:=n2_;have GW318:=n3_;have GE318:=n4_;have NB317_318:=n5_;have NB318_317:=n6_;clear n0_ n1_ n2_ n3_ n4_ n5_ n6_;clear hb hbox hg;have hnb37:=NB317_318.out;have hnc37:=NB318_317.out;have hcz38_0:=bc_ (.int .u8 0) BK317.out 0 rfl;have hcz38_1:=bc_ (.bool false) BK317.out 1 rfl;have hcz38_2:=bc_ (.string ⟨#[]⟩) BK317.out 2 rfl;have hcz38_3:=bc_ (.int .i64 0) BK317.out 3 rfl;have hcz38_4:=bc_ (.int .i64 0) BK317.out 4 rfl;have hfz38_0:=bf_ BK317.out 0;have hfz38_1:=bf_ BK317.out 1;have hfz38_2:=bf_ BK317.out 2;have hfz38_3:=bf_ BK317.out 3;have hfz38_4:=bf_ BK317.out 4;have hcz39_0:=bc_ (.int .u8 0) BK318.out 0 rfl;have hcz39_1:=bc_ (.bool false) BK318.out 1 rfl;have hcz39_2:=bc_ (.string ⟨#[]⟩) BK318.out 2 rfl;have hcz39_3:=bc_ (.int .i64 0) BK318.out 3 rfl;have hcz39_4:=bc_ (.int .i64 0) BK318.out 4 rfl;have hfz39_0:=bf_ BK318.out 0;have hfz39_1:=bf_ BK318.out 1;have hfz39_2:=bf_ BK318.out 2;have hfz39_3:=bf_ BK318.out 3;have hfz39_4:=bf_ BK318.out 4))
        have n0_:Aside0 (((((((((((w36.setCell ⟨gb317,0,none⟩ (.int .u8 t307)).setCell ⟨gb317,1,none⟩ (.bool t308)).setCell ⟨gb317,2,none⟩ (.string t309)).setCell ⟨gb317,3,none⟩ (.int .i64 t310)).setCell ⟨gb317,4,none⟩ (.int .i64 t311)).setCell ⟨gb318,0,none⟩ (.int .u8 t312)).setCell ⟨gb318,1,none⟩ (.bool t313)).setCell ⟨gb318,2,none⟩ (.string t314)).setCell ⟨gb318,3,none⟩ (.int .i64 t315)).setCell ⟨gb318,4,none⟩ (.int .i64 t316)).heap[gb317]?=some (.cells #[.int .u8 t307,.bool t308,.string t309,.int .i64 t310,.int .i64 t311] 29 (0,0))):=⟨by (with_reducible repeat first|apply bN_|apply bD_|apply bA_);refine blk_far ?_ NB317_318.out _;(with_reducible repeat first|apply bN_|apply bD_|apply bA_);refine blk_far ?_ NB317_318.out _;(with_reducible repeat first|apply bN_|apply bD_|apply bA_);refine blk_far ?_ NB317_318.out _;(with_reducible repeat first|apply bN_|apply bD_|apply bA_);refine blk_far ?_ NB317_318.out _;(with_reducible repeat first|apply bN_|apply bD_|apply bA_);refine blk_far ?_ NB317_318.out _;(with_reducible repeat first|apply bN_|apply bD_|apply bA_);refine blk_put (cs:=#[.int .u8 t307,.bool t308,.string t309,.int .i64 t310,.int .i64 0]) ?_ 4 _ rfl;(with_reducible repeat first|apply bN_|apply bD_|apply bA_);refine blk_put (cs:=#[.int .u8 t307,.bool t308,.string t309,.int .i64 0,.int .i64 0]) ?_ 3 _ rfl;(with_reducible repeat first|apply bN_|apply bD_|apply bA_);refine blk_put (cs:=#[.int .u8 t307,.bool t308,.string ⟨#[]⟩,.int .i64 0,.int .i64 0]) ?_ 2 _ rfl;(with_reducible repeat first|apply bN_|apply bD_|apply bA_);refine blk_put (cs:=#[.int .u8 t307,.bool false,.string ⟨#[]⟩,.int .i64 0,.int .i64 0]) ?_ 1 _ rfl;(with_reducible repeat first|apply bN_|apply bD_|apply bA_);refine blk_put (cs:=#[.int .u8 0,.bool false,.string ⟨#[]⟩,.int .i64 0,.int .i64 0]) ?_ 0 _ rfl;(with_reducible repeat first|apply bN_|apply bD_|apply bA_);exact BK317.out⟩;have n1_:Aside0 (((((((((((w36.setCell ⟨gb317,0,none⟩ (.int .u8 t307)).setCell ⟨gb317,1,none⟩ (.bool t308)).setCell ⟨gb317,2,none⟩ (.string t309)).setCell ⟨gb317,3,none⟩ (.int .i64 t310)).setCell ⟨gb317,4,none⟩ (.int .i64 t311)).setCell ⟨gb318,0,none⟩ (.int .u8 t312)).setCell ⟨gb318,1,none⟩ (.bool t313)).setCell ⟨gb318,2,none⟩ (.string t314)).setCell ⟨gb318,3,none⟩ (.int .i64 t315)).setCell ⟨gb318,4,none⟩ (.int .i64 t316)).heap[gb318]?=some (.cells #[.int .u8 t312,.bool t313,.string t314,.int .i64 t315,.int .i64 t316] 29 (0,0))):=⟨by (with_reducible repeat first|apply bN_|apply bD_|apply bA_);refine blk_put (cs:=#[.int .u8 t312,.bool t313,.string t314,.int .i64 t315,.int .i64 0]) ?_ 4 _ rfl;(with_reducible repeat first|apply bN_|apply bD_|apply bA_);refine blk_put (cs:=#[.int .u8 t312,.bool t313,.string t314,.int .i64 0,.int .i64 0]) ?_ 3 _ rfl;(with_reducible repeat first|apply bN_|apply bD_|apply bA_);refine blk_put (cs:=#[.int .u8 t312,.bool t313,.string ⟨#[]⟩,.int .i64 0,.int .i64 0]) ?_ 2 _ rfl;(with_reducible repeat first|apply bN_|apply bD_|apply bA_);refine blk_put (cs:=#[.int .u8 t312,.bool false,.string ⟨#[]⟩,.int .i64 0,.int .i64 0]) ?_ 1 _ rfl;(with_reducible repeat first|apply bN_|apply bD_|apply bA_);refine blk_put (cs:=#[.int .u8 0,.bool false,.string ⟨#[]⟩,.int .i64 0,.int .i64 0]) ?_ 0 _ rfl;(with_reducible repeat first|apply bN_|apply bD_|apply bA_);refine blk_far ?_ NB318_317.out _;(with_reducible repeat first|apply bN_|apply bD_|apply bA_);refine blk_far ?_ NB318_317.out _;(with_reducible repeat first|apply bN_|apply bD_|apply bA_);refine blk_far ?_ NB318_317.out _;(with_reducible repeat first|apply bN_|apply bD_|apply bA_);refine blk_far ?_ NB318_317.out _;(with_reducible repeat first|apply bN_|apply bD_|apply bA_);refine blk_far ?_ NB318_317.out _;(with_reducible repeat first|apply bN_|apply bD_|apply bA_);exact BK318.out⟩
        have n2_:Aside0 (Below w.heap.size w ((((((((((w36.setCell ⟨gb317,0,none⟩ (.int .u8 t307)).setCell ⟨gb317,1,none⟩ (.bool t308)).setCell ⟨gb317,2,none⟩ (.string t309)).setCell ⟨gb317,3,none⟩ (.int .i64 t310)).setCell ⟨gb317,4,none⟩ (.int .i64 t311)).setCell ⟨gb318,0,none⟩ (.int .u8 t312)).setCell ⟨gb318,1,none⟩ (.bool t313)).setCell ⟨gb318,2,none⟩ (.string t314)).setCell ⟨gb318,3,none⟩ (.int .i64 t315)).setCell ⟨gb318,4,none⟩ (.int .i64 t316))):=⟨qnc48_⟩
        (try clear BK317);(try clear BK318);(try clear HB)
        generalize ((((((((((w36.setCell ⟨gb317,0,none⟩ (.int .u8 t307)).setCell ⟨gb317,1,none⟩ (.bool t308)).setCell ⟨gb317,2,none⟩ (.string t309)).setCell ⟨gb317,3,none⟩ (.int .i64 t310)).setCell ⟨gb317,4,none⟩ (.int .i64 t311)).setCell ⟨gb318,0,none⟩ (.int .u8 t312)).setCell ⟨gb318,1,none⟩ (.bool t313)).setCell ⟨gb318,2,none⟩ (.string t314)).setCell ⟨gb318,3,none⟩ (.int .i64 t315)).setCell ⟨gb318,4,none⟩ (.int .i64 t316))=w40 at n0_ n1_ n2_ ⊢
        have BK317:=n0_;have BK318:=n1_;have HB:=n2_;clear n0_ n1_ n2_;have n0_:=M_ (blk_drew BK317.out);have n1_:=M_ (blk_drew BK318.out);have n2_:=M_ (below_drew1 HB.out);clear BK317;clear BK318;clear HB;have BK317:=n0_;have BK318:=n1_;have HB:=n2_;clear n0_ n1_ n2_;refine start_ (n:=16) (S:=fun w' => w'.cell? ⟨gb317,0,none⟩=some (.int .u8 t307)∧w'.cell? ⟨gb317,1,none⟩=some (.bool t308)∧w'.cell? ⟨gb317,2,none⟩=some (.string t309)∧w'.cell? ⟨gb317,3,none⟩=some (.int .i64 t310)∧w'.cell? ⟨gb317,4,none⟩=some (.int .i64 t311)∧w'.cell? ⟨gb318,0,none⟩=some (.int .u8 t312)∧w'.cell? ⟨gb318,1,none⟩=some (.bool t313)∧w'.cell? ⟨gb318,2,none⟩=some (.string t314)∧w'.cell? ⟨gb318,3,none⟩=some (.int .i64 t315)∧w'.cell? ⟨gb318,4,none⟩=some (.int .i64 t316)) (ds:=[]) #[false,false,false,false,false,false,false,false,false,false,false,false,false,false,false,false] (by kernel_rfl) rfl rfl ⟨(blk_cell BK317.out 0).trans rfl,(blk_cell BK317.out 1).trans rfl,(blk_cell BK317.out 2).trans rfl,(blk_cell BK317.out 3).trans rfl,(blk_cell BK317.out 4).trans rfl,(blk_cell BK318.out 0).trans rfl,(blk_cell BK318.out 1).trans rfl,(blk_cell BK318.out 2).trans rfl,(blk_cell BK318.out 3).trans rfl,(blk_cell BK318.out 4).trans rfl⟩ (fun hHeld => ?_);refine with_tabW n_Compare.tab13 n_Compare.bits13 (fun HT_ HW_ => ?_)
        generalize w40.drew=w41 at BK317 BK318 HB hHeld ⊢
        refine pure_ (i:=0) (N:=some 48) (v:=?_) (a':=?_) #[true,false,false,false,false,false,false,false,false,false,false,false,false,false,false,false] rfl rfl (any_of HT_.out (by kernel_rfl)) (fun _ _ _ h => h) (Or.inl ⟨by rfl,?_⟩) ?_ ?_
        rotate_left
        ·intro w'
         go_simp
         with_reducible rfl
        rotate_left
        ·simp only [Act.put,sA_,sZ_,sS_,i64_w,i32_w]
         rfl
        refine pure_ (i:=2) (N:=some 50) (v:=?_) (a':=?_) #[true,false,true,false,false,false,false,false,false,false,false,false,false,false,false,false] rfl rfl (any_of HT_.out (by kernel_rfl)) (fun _ _ _ h => h) (Or.inl ⟨by rfl,?_⟩) ?_ ?_
        rotate_left
        ·intro w'
         go_simp
         with_reducible rfl
        rotate_left
        ·simp only [Act.put,sA_,sZ_,sS_,i64_w,i32_w]
         rfl
        refine pure_ (i:=4) (N:=some 52) (v:=?_) (a':=?_) #[true,false,true,false,true,false,false,false,false,false,false,false,false,false,false,false] rfl rfl (any_of HT_.out (by kernel_rfl)) (fun _ _ _ h => h) (Or.inl ⟨by rfl,?_⟩) ?_ ?_
        rotate_left
        ·intro w'
         go_simp
         with_reducible rfl
        rotate_left
        ·simp only [Act.put,sA_,sZ_,sS_,i64_w,i32_w]
         rfl
        refine pure_ (i:=7) (N:=some 55) (v:=?_) (a':=?_) #[true,false,true,false,true,false,false,true,false,false,false,false,false,false,false,false] rfl rfl (any_of HT_.out (by kernel_rfl)) (fun _ _ _ h => h) (Or.inl ⟨by rfl,?_⟩) ?_ ?_
        rotate_left
        ·intro w'
         go_simp
         with_reducible rfl
        rotate_left
        ·simp only [Act.put,sA_,sZ_,sS_,i64_w,i32_w]
         rfl
        refine pure_ (i:=9) (N:=some 57) (v:=?_) (a':=?_) #[true,false,true,false,true,false,false,true,false,true,false,false,false,false,false,false] rfl rfl (any_of HT_.out (by kernel_rfl)) (fun _ _ _ h => h) (Or.inl ⟨by rfl,?_⟩) ?_ ?_
        rotate_left
        ·intro w'
         go_simp
         with_reducible rfl
        rotate_left
        ·simp only [Act.put,sA_,sZ_,sS_,i64_w,i32_w]
         rfl
        refine pure_ (i:=11) (N:=some 59) (v:=?_) (a':=?_) #[true,false,true,false,true,false,false,true,false,true,false,true,false,false,false,false] rfl rfl (any_of HT_.out (by kernel_rfl)) (fun _ _ _ h => h) (Or.inl ⟨by rfl,?_⟩) ?_ ?_
        rotate_left
        ·intro w'
         go_simp
         with_reducible rfl
        rotate_left
        ·simp only [Act.put,sA_,sZ_,sS_,i64_w,i32_w]
         rfl
        refine take_ (i:=1) (N:=some 49) (v:=?_) (a':=?_) #[true,true,true,false,true,false,false,true,false,true,false,true,false,false,false,false] rfl rfl (take_ofW HT_.out HW_.out (by kernel_rfl)) (fun _ _ _ h => h) (Or.inl ⟨by rfl,?_⟩) hHeld ?_ ?_
        rotate_left
        ·rintro w' ⟨s0,s1,s2,s3,s4,s5,s6,s7,s8,s9⟩
         go_simp
         with_reducible rfl
        rotate_left
        ·simp only [Act.put,sA_,sZ_,sS_,i64_w,i32_w]
         rfl
        refine take_ (i:=3) (N:=some 51) (v:=?_) (a':=?_) #[true,true,true,true,true,false,false,true,false,true,false,true,false,false,false,false] rfl rfl (take_ofW HT_.out HW_.out (by kernel_rfl)) (fun _ _ _ h => h) (Or.inl ⟨by rfl,?_⟩) hHeld ?_ ?_
        rotate_left
        ·rintro w' ⟨s0,s1,s2,s3,s4,s5,s6,s7,s8,s9⟩
         go_simp
         with_reducible rfl
        rotate_left
        ·simp only [Act.put,sA_,sZ_,sS_,i64_w,i32_w]
         rfl
        refine take_ (i:=5) (N:=some 53) (v:=?_) (a':=?_) #[true,true,true,true,true,true,false,true,false,true,false,true,false,false,false,false] rfl rfl (take_ofW HT_.out HW_.out (by kernel_rfl)) (fun _ _ _ h => h) (Or.inl ⟨by rfl,?_⟩) hHeld ?_ ?_
        rotate_left
        ·rintro w' ⟨s0,s1,s2,s3,s4,s5,s6,s7,s8,s9⟩
         go_simp
         with_reducible rfl
        rotate_left
        ·simp only [Act.put,sA_,sZ_,sS_,i64_w,i32_w]
         rfl
        refine take_ (i:=8) (N:=some 56) (v:=?_) (a':=?_) #[true,true,true,true,true,true,false,true,true,true,false,true,false,false,false,false] rfl rfl (take_ofW HT_.out HW_.out (by kernel_rfl)) (fun _ _ _ h => h) (Or.inl ⟨by rfl,?_⟩) hHeld ?_ ?_
        rotate_left
        ·rintro w' ⟨s0,s1,s2,s3,s4,s5,s6,s7,s8,s9⟩
         go_simp
         with_reducible rfl
        rotate_left
        ·simp only [Act.put,sA_,sZ_,sS_,i64_w,i32_w]
         rfl
        refine take_ (i:=10) (N:=some 58) (v:=?_) (a':=?_) #[true,true,true,true,true,true,false,true,true,true,true,true,false,false,false,false] rfl rfl (take_ofW HT_.out HW_.out (by kernel_rfl)) (fun _ _ _ h => h) (Or.inl ⟨by rfl,?_⟩) hHeld ?_ ?_
        rotate_left
        ·rintro w' ⟨s0,s1,s2,s3,s4,s5,s6,s7,s8,s9⟩
         go_simp
         with_reducible rfl
        rotate_left
        ·simp only [Act.put,sA_,sZ_,sS_,i64_w,i32_w]
         rfl
        refine take_ (i:=12) (N:=some 60) (v:=?_) (a':=?_) #[true,true,true,true,true,true,false,true,true,true,true,true,true,false,false,false] rfl rfl (take_ofW HT_.out HW_.out (by kernel_rfl)) (fun _ _ _ h => h) (Or.inl ⟨by rfl,?_⟩) hHeld ?_ ?_
        rotate_left
        ·rintro w' ⟨s0,s1,s2,s3,s4,s5,s6,s7,s8,s9⟩
         go_simp
         with_reducible rfl
        rotate_left
        ·simp only [Act.put,sA_,sZ_,sS_,i64_w,i32_w]
         rfl
        refine one_ (i:=6) (N:=some 54) #[true,true,true,true,true,true,true,true,true,true,true,true,true,false,false,false] rfl rfl (one_of HT_.out (by kernel_rfl)) (by decide) (fun K hK => ?_);refine goes_ Tryd.func54 (by kernel_rfl) rfl #[.bool t308,.string t309,.int .i64 t310,.int .i64 0] (by rfl) rfl rfl qnc0_ ?_
        with_reducible refine (n_sizeOf.calls t308 t309 t310 0 t320 t321 t322 t323 _ A30.out).mono ?_
        rintro e w42 ⟨rfl,hb⟩
        refine ⟨_,rfl,?_⟩;have n0_:=M_ (blk_below (g:=gb317) (o:=.cells #[.int .u8 t307,.bool t308,.string t309,.int .i64 t310,.int .i64 t311] 29 (0,0)) qnc66_ hb);have n1_:=M_ (blk_below (g:=gb318) (o:=.cells #[.int .u8 t312,.bool t313,.string t314,.int .i64 t315,.int .i64 t316] 29 (0,0)) qnc99_ hb);have n2_:=M_ (below_step qnc48_ hb);clear BK317;clear BK318;clear HB;have BK317:=n0_;have BK318:=n1_;have HB:=n2_;clear n0_ n1_ n2_
        (try clear hb)
        refine hK.out _ _ ⟨(blk_cell BK317.out 0).trans rfl,(blk_cell BK317.out 1).trans rfl,(blk_cell BK317.out 2).trans rfl,(blk_cell BK317.out 3).trans rfl,(blk_cell BK317.out 4).trans rfl,(blk_cell BK318.out 0).trans rfl,(blk_cell BK318.out 1).trans rfl,(blk_cell BK318.out 2).trans rfl,(blk_cell BK318.out 3).trans rfl,(blk_cell BK318.out 4).trans rfl⟩ (fun hHeld => ?_);clear hK K;refine norm_ (a':=?_) ?_ ?_
        rotate_left
        ·show Act.put _ (some 54) _=_
         simp only [Act.put,sA_,sZ_,sS_,i64_w,i32_w]
         rfl
        refine one_ (i:=13) (N:=some 61) #[true,true,true,true,true,true,true,true,true,true,true,true,true,true,false,false] rfl rfl (one_of HT_.out (by kernel_rfl)) (by decide) (fun K hK => ?_);refine goes_ Tryd.func54 (by kernel_rfl) rfl #[.bool t313,.string t314,.int .i64 t315,.int .i64 0] (by rfl) rfl rfl qnc0_ ?_
        with_reducible refine (n_sizeOf.calls t313 t314 t315 0 t324 t325 t326 t327 _ A31.out).mono ?_
        rintro e w43 ⟨rfl,hb⟩
        refine ⟨_,rfl,?_⟩;have n0_:=M_ (blk_below (g:=gb317) (o:=.cells #[.int .u8 t307,.bool t308,.string t309,.int .i64 t310,.int .i64 t311] 29 (0,0)) qnc66_ hb);have n1_:=M_ (blk_below (g:=gb318) (o:=.cells #[.int .u8 t312,.bool t313,.string t314,.int .i64 t315,.int .i64 t316] 29 (0,0)) qnc99_ hb);have n2_:=M_ (below_step qnc48_ hb);clear BK317;clear BK318;clear HB;have BK317:=n0_;have BK318:=n1_;have HB:=n2_;clear n0_ n1_ n2_
        (try clear hb)
        refine hK.out _ _ ⟨(blk_cell BK317.out 0).trans rfl,(blk_cell BK317.out 1).trans rfl,(blk_cell BK317.out 2).trans rfl,(blk_cell BK317.out 3).trans rfl,(blk_cell BK317.out 4).trans rfl,(blk_cell BK318.out 0).trans rfl,(blk_cell BK318.out 1).trans rfl,(blk_cell BK318.out 2).trans rfl,(blk_cell BK318.out 3).trans rfl,(blk_cell BK318.out 4).trans rfl⟩ (fun hHeld => ?_);clear hK K;refine norm_ (a':=?_) ?_ ?_
        rotate_left
        ·show Act.put _ (some 61) _=_
         simp only [Act.put,sA_,sZ_,sS_,i64_w,i32_w]
         rfl
        refine one_ (i:=14) (N:=some 62) #[true,true,true,true,true,true,true,true,true,true,true,true,true,true,true,false] rfl rfl (one_of HT_.out (by kernel_rfl)) (by decide) (fun K hK => ?_);refine goes_ Tryd.func49 (by kernel_rfl) rfl #[.agg #[.int .i64 t320,.int .i64 t321,.int .i64 t322,.string t323],.agg #[.int .i64 t324,.int .i64 t325,.int .i64 t326,.string t327]] (by rfl) rfl rfl qnc0_ ?_
        with_reducible refine (n_order.calls kj3 t320 t321 t322 t323 t324 t325 t326 t327 t328 _ A32.out).mono ?_
        rintro e w44 ⟨rfl,hb⟩
        refine ⟨_,rfl,?_⟩;have n0_:=M_ (blk_below (g:=gb317) (o:=.cells #[.int .u8 t307,.bool t308,.string t309,.int .i64 t310,.int .i64 t311] 29 (0,0)) qnc66_ hb);have n1_:=M_ (blk_below (g:=gb318) (o:=.cells #[.int .u8 t312,.bool t313,.string t314,.int .i64 t315,.int .i64 t316] 29 (0,0)) qnc99_ hb);have n2_:=M_ (below_step qnc48_ hb);clear BK317;clear BK318;clear HB;have BK317:=n0_;have BK318:=n1_;have HB:=n2_;clear n0_ n1_ n2_
        (try clear hb)
        refine hK.out _ _ ⟨(blk_cell BK317.out 0).trans rfl,(blk_cell BK317.out 1).trans rfl,(blk_cell BK317.out 2).trans rfl,(blk_cell BK317.out 3).trans rfl,(blk_cell BK317.out 4).trans rfl,(blk_cell BK318.out 0).trans rfl,(blk_cell BK318.out 1).trans rfl,(blk_cell BK318.out 2).trans rfl,(blk_cell BK318.out 3).trans rfl,(blk_cell BK318.out 4).trans rfl⟩ (fun hHeld => ?_);clear hK K;refine norm_ (a':=?_) ?_ ?_
        rotate_left
        ·show Act.put _ (some 62) _=_
         simp only [Act.put,sA_,sZ_,sS_,i64_w,i32_w]
         rfl
        refine pure_ (i:=15) (N:=some 6) (v:=?_) (a':=?_) #[true,true,true,true,true,true,true,true,true,true,true,true,true,true,true,true] rfl rfl (any_of HT_.out (by kernel_rfl)) (fun _ _ _ h => h) (Or.inl ⟨by rfl,?_⟩) ?_ ?_
        rotate_left
        ·intro w'
         go_simp
         with_reducible rfl
        rotate_left
        ·simp only [Act.put,sA_,sZ_,sS_,i64_w,i32_w]
         rfl
        refine done_ (done_of HT_.out (by kernel_rfl)) ?_
        try go_wp2
        go_ret;exact ⟨qnc5_,qnc48_⟩
       ·rw [if_neg c29] at H;have c29b0:(t307 == t312)=false:=bF_ c29;have c29b1:(t307 != t312)=true:=bne_iff_ne.mpr c29;obtain ⟨t319,A49,H⟩:=ob_ H;obtain rfl:=Option.some.inj H;have tk57:=trivial;have tk58:=trivial;have tk59:=trivial;have tk60:=trivial;have tk61:=trivial
        go_wp2_with (first|(clear tk57;(with_reducible refine gate_callee (f:=17) rfl ?_);refine goesL_ (some 35) rfl rfl Tryd.func17 (by kernel_rfl) rfl #[.string a1] rfl qnc0_ ?_;(with_reducible refine (n_General.calls kj3 a1 t307 t308 t309 t310 t311 _ A27.out).mono ?_);rintro e w50 ⟨rfl,hb⟩;refine ⟨_,rfl,?_⟩;have n0_:=M_ (below_step qnc2_ hb);clear HB;have HB:=n0_;clear n0_;(try clear hb))|(clear tk58;(with_reducible refine gate_callee (f:=17) rfl ?_);refine goesL_ (some 37) rfl rfl Tryd.func17 (by kernel_rfl) rfl #[.string a2] rfl qnc0_ ?_;(with_reducible refine (n_General.calls kj3 a2 t312 t313 t314 t315 t316 _ A28.out).mono ?_);rintro e w51 ⟨rfl,hb⟩;refine ⟨_,rfl,?_⟩;have n0_:=M_ (below_step qnc2_ hb);clear HB;have HB:=n0_;clear n0_;(try clear hb))|(clear tk59;(with_reducible refine gate_dst (N:=7) rfl ?_);refine box_event ?hg (N:=7) ?hd (cs:=#[.int .u8 0,.bool false,.string ⟨#[]⟩,.int .i64 0,.int .i64 0]) (t:=29) ?hr ?_;(case hd => rfl);(case hg => rfl);(case hr => first|(go_simp;done)|(go_simp;rfl));intro gb317 hg w52 hbox hb;have n0_:=M_ (below_step qnc2_ hb);have n1_:=M_ (hbox);have n2_:=M_ ((by rw [hg];exact (below_size qnc2_):w.heap.size≤gb317));have n3_:=n2_;clear HB;have HB:=n0_;have BK317:=n1_;have GW317:=n2_;have GE317:=n3_;clear n0_ n1_ n2_ n3_;clear hb hbox hg)|(clear tk60;(with_reducible refine gate_dst (N:=8) rfl ?_);refine box_event ?hg (N:=8) ?hd (cs:=#[.int .u8 0,.bool false,.string ⟨#[]⟩,.int .i64 0,.int .i64 0]) (t:=29) ?hr ?_;(case hd => rfl);(case hg => rfl);(case hr => first|(go_simp;done)|(go_simp;rfl));intro gb318 hg w53 hbox hb;have n0_:=M_ (blk_below (g:=gb317) (o:=.cells #[.int .u8 0,.bool false,.string ⟨#[]⟩,.int .i64 0,.int .i64 0] 29 (0,0)) qnc66_ hb);have n1_:=M_ (below_step qnc73_ hb);have n2_:=M_ (hbox);have n3_:=M_ ((by rw [hg];exact (below_size qnc73_):w.heap.size≤gb318));have n4_:=n3_;have n5_:=M_ ((by rw [hg];exact Nat.ne_of_lt (blk_lt (g:=gb317) (o:=.cells #[.int .u8 0,.bool false,.string ⟨#[]⟩,.int .i64 0,.int .i64 0] 29 (0,0)) qnc66_):gb317 ≠ gb318));have n6_:=M_ ((by rw [hg];exact Nat.ne_of_gt (blk_lt (g:=gb317) (o:=.cells #[.int .u8 0,.bool false,.string ⟨#[]⟩,.int .i64 0,.int .i64 0] 29 (0,0)) qnc66_):gb318 ≠ gb317));clear BK317;clear HB;have BK317:=n0_;have HB:=n1_;have BK318:=n2_;have GW318:=n3_;have GE318:=n4_;have NB317_318:=n5_;have NB318_317:=n6_;clear n0_ n1_ n2_ n3_ n4_ n5_ n6_;clear hb hbox hg;have hnb54:=NB317_318.out;have hnc54:=NB318_317.out;have hcz55_0:=bc_ (.int .u8 0) BK317.out 0 rfl;have hcz55_1:=bc_ (.bool false) BK317.out 1 rfl;have hcz55_2:=bc_ (.string ⟨#[]⟩) BK317.out 2 rfl;have hcz55_3:=bc_ (.int .i64 0) BK317.out 3 rfl;have hcz55_4:=bc_ (.int .i64 0) BK317.out 4 rfl;have hfz55_0:=bf_ BK317.out 0;have hfz55_1:=bf_ BK317.out 1;have hfz55_2:=bf_ BK317.out 2;have hfz55_3:=bf_ BK317.out 3;have hfz55_4:=bf_ BK317.out 4;have hcz56_0:=bc_ (.int .u8 0) BK318.out 0 rfl;have hcz56_1:=bc_ (.bool false) BK318.out 1 rfl;have hcz56_2:=bc_ (.string ⟨#[]⟩) BK318.out 2 rfl;have hcz56_3:=bc_ (.int .i64 0) BK318.out 3 rfl;have hcz56_4:=bc_ (.int .i64 0) BK318.out 4 rfl;have hfz56_0:=bf_ BK318.out 0;have hfz56_1:=bf_ BK318.out 1;have hfz56_2:=bf_ BK318.out 2;have hfz56_3:=bf_ BK318.out 3;have hfz56_4:=bf_ BK318.out 4)|(clear tk61;(with_reducible refine gate_callee (f:=53) rfl ?_);refine goesL_ (some 47) rfl rfl Tryd.func53 (by kernel_rfl) rfl #[.int .u8 t307,.int .u8 t312] rfl qnc0_ ?_;(with_reducible refine (api_Class_53.calls t307 t312 t319 _ A49.out).mono ?_);rintro e w' ⟨rfl,⟨nd,rfl⟩⟩;refine ⟨_,rfl,?_⟩))
        go_ret;exact ⟨qnc5_,qnc48_⟩
      ·rw [if_neg c26] at H;have c26b0:(a0 == 32)=false:=bF_ c26;have c26b1:(a0 != 32)=true:=bne_iff_ne.mpr c26;obtain ⟨t329,A62,H⟩:=ob_ H;obtain rfl:=Option.some.inj H
       go_wp2_with (first|((with_reducible refine gate_callee (f:=55) rfl ?_);refine goesL_ (some 65) rfl rfl Tryd.func55 (by kernel_rfl) rfl #[.string a1,.string a2] rfl qnc0_ ?_;(with_reducible refine (strings_Compare.calls a1 a2 t329 _ A62.out).mono ?_);rintro e w' ⟨rfl,⟨nd,rfl⟩⟩;refine ⟨_,rfl,?_⟩))
       go_ret;exact ⟨qnc5_,qnc2_⟩

set_option maxHeartbeats 8000000
set_option maxRecDepth 100000

def w_alive.f (k:Nat)  : Option (Bool):=(n_Decimal.f k (⟨#[45,49,50,46,53,120]⟩:ByteArray)).bind fun bt330 => (if bt330.1=true then (if bt330.2.1.toList=([49,50]:List UInt8) then (if bt330.2.2.1.toList=([53]:List UInt8) then (if bt330.2.2.2=5 then ((n_Compare.f k 16 (⟨#[57]⟩:ByteArray) (⟨#[49,48]⟩:ByteArray)).bind fun t335 => (if t335=(-1) then ((n_Compare.f k 256 (⟨#[98]⟩:ByteArray) (⟨#[97]⟩:ByteArray)).bind fun t336 => (some (t336 == 1))) else (some false))) else (some false)) else (some false)) else (some false)) else (some false))
theorem w_alive.calls (k : Nat)  (r : Bool) (w : World) (hGL : GOK w) (h : w_alive.f k  = some r) :
  Calls Tryd.prog 25 #[] w fun e w' => e=.returned (.bool r)∧Below w.heap.size w w':=by
 have hu25:=Tryd.underlying25;have HGL:=M_ hGL;clear hGL;have HB:=M_ (Below.refl w.heap.size w);have H:((n_Decimal.f k (⟨#[45,49,50,46,53,120]⟩:ByteArray)).bind fun bt330 => (if bt330.1=true then (if bt330.2.1.toList=([49,50]:List UInt8) then (if bt330.2.2.1.toList=([53]:List UInt8) then (if bt330.2.2.2=5 then ((n_Compare.f k 16 (⟨#[57]⟩:ByteArray) (⟨#[49,48]⟩:ByteArray)).bind fun t335 => (if t335=(-1) then ((n_Compare.f k 256 (⟨#[98]⟩:ByteArray) (⟨#[97]⟩:ByteArray)).bind fun t336 => (some (t336 == 1))) else (some false))) else (some false)) else (some false)) else (some false)) else (some false)))=some r:=h;clear h;obtain ⟨⟨t330,t331,t332,t333⟩,A1,H⟩:=ob_ H
 by_cases c2:t330=true
 ·subst c2;rw [if_pos rfl] at H
  by_cases c3:t331.toList=([49,50]:List UInt8)
  ·rw [if_pos c3] at H;have c3b0:(t331.toList == ([49,50]:List UInt8))=true:=beq_iff_eq.mpr c3;have c3b1:(t331.toList != ([49,50]:List UInt8))=false:=nF_ c3;clear c3
   by_cases c4:t332.toList=([53]:List UInt8)
   ·rw [if_pos c4] at H;have c4b0:(t332.toList == ([53]:List UInt8))=true:=beq_iff_eq.mpr c4;have c4b1:(t332.toList != ([53]:List UInt8))=false:=nF_ c4;clear c4
    by_cases c5:t333=5
    ·rw [if_pos c5] at H;have c5b0:(t333 == 5)=true:=beq_iff_eq.mpr c5;have c5b1:(t333 != 5)=false:=nF_ c5;clear c5;obtain ⟨t335,A6,H⟩:=ob_ H
     by_cases c7:t335=(-1)
     ·rw [if_pos c7] at H;have c7b0:(t335 == (-1))=true:=beq_iff_eq.mpr c7;have c7b1:(t335 != (-1))=false:=nF_ c7;clear c7;obtain ⟨t336,A8,H⟩:=ob_ H;obtain rfl:=Option.some.inj H
      go_enter Tryd.func25,Tryd.ntmps25
      have tk14:=trivial;have tk15:=trivial;have tk16:=trivial;have tk17:=trivial
      go_wp2_with (first|(clear tk14;(with_reducible refine gate_callee (f:=16) rfl ?_);refine goesL_ (some 2) rfl rfl Tryd.func16 (by kernel_rfl) rfl #[.string (⟨#[45,49,50,46,53,120]⟩:ByteArray)] rfl qnc0_ ?_;(with_reducible refine (n_Decimal.calls k (⟨#[45,49,50,46,53,120]⟩:ByteArray) true t331 t332 t333 _ A1.out).mono ?_);rintro e w9 ⟨rfl,hb⟩;refine ⟨_,rfl,?_⟩;have n0_:=M_ (below_step qnc2_ hb);clear HB;have HB:=n0_;clear n0_;(try clear hb))|(clear tk15;(with_reducible refine gate_dst (N:=1) rfl ?_);refine box_event ?hg (N:=1) ?hd (cs:=#[.bool false,.string ⟨#[]⟩,.string ⟨#[]⟩,.int .i64 0]) (t:=25) ?hr ?_;(case hd => rfl);(case hg => rfl);(case hr => first|(go_simp;done)|(go_simp;rfl));intro gb334 hg w10 hbox hb;have n0_:=M_ (below_step qnc2_ hb);have n1_:=M_ (hbox);have n2_:=M_ ((by rw [hg];exact (below_size qnc2_):w.heap.size≤gb334));have n3_:=n2_;clear HB;have HB:=n0_;have BK334:=n1_;have GW334:=n2_;have GE334:=n3_;clear n0_ n1_ n2_ n3_;clear hb hbox hg;have hcz11_0:=bc_ (.bool false) BK334.out 0 rfl;have hcz11_1:=bc_ (.string ⟨#[]⟩) BK334.out 1 rfl;have hcz11_2:=bc_ (.string ⟨#[]⟩) BK334.out 2 rfl;have hcz11_3:=bc_ (.int .i64 0) BK334.out 3 rfl;have hfz11_0:=bf_ BK334.out 0;have hfz11_1:=bf_ BK334.out 1;have hfz11_2:=bf_ BK334.out 2;have hfz11_3:=bf_ BK334.out 3)|(clear tk16;go_at_call 27;(with_reducible refine (n_Compare.calls k 16 (⟨#[57]⟩:ByteArray) (⟨#[49,48]⟩:ByteArray) t335 _ ?side1 A6.out).mono ?_);(case side1 => exact GOK.below HGL.out qnc23_);rintro e w12 ⟨rfl,hb⟩;have n0_:=M_ (blk_below (g:=gb334) (o:=.cells #[.bool true,.string t331,.string t332,.int .i64 t333] 25 (0,0)) (by (with_reducible repeat first|apply bN_|apply bD_|apply bA_);refine blk_put (cs:=#[.bool true,.string t331,.string t332,.int .i64 0]) ?_ 3 _ rfl;(with_reducible repeat first|apply bN_|apply bD_|apply bA_);refine blk_put (cs:=#[.bool true,.string t331,.string ⟨#[]⟩,.int .i64 0]) ?_ 2 _ rfl;(with_reducible repeat first|apply bN_|apply bD_|apply bA_);refine blk_put (cs:=#[.bool true,.string ⟨#[]⟩,.string ⟨#[]⟩,.int .i64 0]) ?_ 1 _ rfl;(with_reducible repeat first|apply bN_|apply bD_|apply bA_);refine blk_put (cs:=#[.bool false,.string ⟨#[]⟩,.string ⟨#[]⟩,.int .i64 0]) ?_ 0 _ rfl;(with_reducible repeat first|apply bN_|apply bD_|apply bA_);exact BK334.out) hb);have n1_:=M_ (below_step qnc23_ hb);clear BK334;clear HB;have BK334:=n0_;have HB:=n1_;clear n0_ n1_;(try clear hb))|(clear tk17;go_at_call 27;(with_reducible refine (n_Compare.calls k 256 (⟨#[98]⟩:ByteArray) (⟨#[97]⟩:ByteArray) t336 _ ?side1 A8.out).mono ?_);(case side1 => exact GOK.below HGL.out qnc23_);rintro e w13 ⟨rfl,hb⟩;have n0_:=M_ (blk_below (g:=gb334) (o:=.cells #[.bool true,.string t331,.string t332,.int .i64 t333] 25 (0,0)) (by (with_reducible repeat first|apply bN_|apply bD_|apply bA_);exact BK334.out) hb);have n1_:=M_ (below_step qnc23_ hb);clear BK334;clear HB;have BK334:=n0_;have HB:=n1_;clear n0_ n1_;(try clear hb)))
      go_ret;exact ⟨qnc5_,qnc23_⟩
     ·rw [if_neg c7] at H;have c7b0:(t335 == (-1))=false:=bF_ c7;have c7b1:(t335 != (-1))=true:=bne_iff_ne.mpr c7;obtain rfl:=Option.some.inj H
      go_enter Tryd.func25,Tryd.ntmps25
      have tk22:=trivial;have tk23:=trivial;have tk24:=trivial
      go_wp2_with (first|(clear tk22;(with_reducible refine gate_callee (f:=16) rfl ?_);refine goesL_ (some 2) rfl rfl Tryd.func16 (by kernel_rfl) rfl #[.string (⟨#[45,49,50,46,53,120]⟩:ByteArray)] rfl qnc0_ ?_;(with_reducible refine (n_Decimal.calls k (⟨#[45,49,50,46,53,120]⟩:ByteArray) true t331 t332 t333 _ A1.out).mono ?_);rintro e w18 ⟨rfl,hb⟩;refine ⟨_,rfl,?_⟩;have n0_:=M_ (below_step qnc2_ hb);clear HB;have HB:=n0_;clear n0_;(try clear hb))|(clear tk23;(with_reducible refine gate_dst (N:=1) rfl ?_);refine box_event ?hg (N:=1) ?hd (cs:=#[.bool false,.string ⟨#[]⟩,.string ⟨#[]⟩,.int .i64 0]) (t:=25) ?hr ?_;(case hd => rfl);(case hg => rfl);(case hr => first|(go_simp;done)|(go_simp;rfl));intro gb334 hg w19 hbox hb;have n0_:=M_ (below_step qnc2_ hb);have n1_:=M_ (hbox);have n2_:=M_ ((by rw [hg];exact (below_size qnc2_):w.heap.size≤gb334));have n3_:=n2_;clear HB;have HB:=n0_;have BK334:=n1_;have GW334:=n2_;have GE334:=n3_;clear n0_ n1_ n2_ n3_;clear hb hbox hg;have hcz20_0:=bc_ (.bool false) BK334.out 0 rfl;have hcz20_1:=bc_ (.string ⟨#[]⟩) BK334.out 1 rfl;have hcz20_2:=bc_ (.string ⟨#[]⟩) BK334.out 2 rfl;have hcz20_3:=bc_ (.int .i64 0) BK334.out 3 rfl;have hfz20_0:=bf_ BK334.out 0;have hfz20_1:=bf_ BK334.out 1;have hfz20_2:=bf_ BK334.out 2;have hfz20_3:=bf_ BK334.out 3)|(clear tk24;go_at_call 27;(with_reducible refine (n_Compare.calls k 16 (⟨#[57]⟩:ByteArray) (⟨#[49,48]⟩:ByteArray) t335 _ ?side1 A6.out).mono ?_);(case side1 => exact GOK.below HGL.out qnc23_);rintro e w21 ⟨rfl,hb⟩;have n0_:=M_ (blk_below (g:=gb334) (o:=.cells #[.bool true,.string t331,.string t332,.int .i64 t333] 25 (0,0)) (by (with_reducible repeat first|apply bN_|apply bD_|apply bA_);refine blk_put (cs:=#[.bool true,.string t331,.string t332,.int .i64 0]) ?_ 3 _ rfl;(with_reducible repeat first|apply bN_|apply bD_|apply bA_);refine blk_put (cs:=#[.bool true,.string t331,.string ⟨#[]⟩,.int .i64 0]) ?_ 2 _ rfl;(with_reducible repeat first|apply bN_|apply bD_|apply bA_);refine blk_put (cs:=#[.bool true,.string ⟨#[]⟩,.string ⟨#[]⟩,.int .i64 0]) ?_ 1 _ rfl;(with_reducible repeat first|apply bN_|apply bD_|apply bA_);refine blk_put (cs:=#[.bool false,.string ⟨#[]⟩,.string ⟨#[]⟩,.int .i64 0]) ?_ 0 _ rfl;(with_reducible repeat first|apply bN_|apply bD_|apply bA_);exact BK334.out) hb);have n1_:=M_ (below_step qnc23_ hb);clear BK334;clear HB;have BK334:=n0_;have HB:=n1_;clear n0_ n1_;(try clear hb)))
      go_ret;exact ⟨qnc5_,qnc23_⟩
    ·rw [if_neg c5] at H;have c5b0:(t333 == 5)=false:=bF_ c5;have c5b1:(t333 != 5)=true:=bne_iff_ne.mpr c5;obtain rfl:=Option.some.inj H
     go_enter Tryd.func25,Tryd.ntmps25
     have tk28:=trivial;have tk29:=trivial
     go_wp2_with (first|(clear tk28;(with_reducible refine gate_callee (f:=16) rfl ?_);refine goesL_ (some 2) rfl rfl Tryd.func16 (by kernel_rfl) rfl #[.string (⟨#[45,49,50,46,53,120]⟩:ByteArray)] rfl qnc0_ ?_;(with_reducible refine (n_Decimal.calls k (⟨#[45,49,50,46,53,120]⟩:ByteArray) true t331 t332 t333 _ A1.out).mono ?_);rintro e w25 ⟨rfl,hb⟩;refine ⟨_,rfl,?_⟩;have n0_:=M_ (below_step qnc2_ hb);clear HB;have HB:=n0_;clear n0_;(try clear hb))|(clear tk29;(with_reducible refine gate_dst (N:=1) rfl ?_);refine box_event ?hg (N:=1) ?hd (cs:=#[.bool false,.string ⟨#[]⟩,.string ⟨#[]⟩,.int .i64 0]) (t:=25) ?hr ?_;(case hd => rfl);(case hg => rfl);(case hr => first|(go_simp;done)|(go_simp;rfl));intro gb334 hg w26 hbox hb;have n0_:=M_ (below_step qnc2_ hb);have n1_:=M_ (hbox);have n2_:=M_ ((by rw [hg];exact (below_size qnc2_):w.heap.size≤gb334));have n3_:=n2_;clear HB;have HB:=n0_;have BK334:=n1_;have GW334:=n2_;have GE334:=n3_;clear n0_ n1_ n2_ n3_;clear hb hbox hg;have hcz27_0:=bc_ (.bool false) BK334.out 0 rfl;have hcz27_1:=bc_ (.string ⟨#[]⟩) BK334.out 1 rfl;have hcz27_2:=bc_ (.string ⟨#[]⟩) BK334.out 2 rfl;have hcz27_3:=bc_ (.int .i64 0) BK334.out 3 rfl;have hfz27_0:=bf_ BK334.out 0;have hfz27_1:=bf_ BK334.out 1;have hfz27_2:=bf_ BK334.out 2;have hfz27_3:=bf_ BK334.out 3))
     go_ret;exact ⟨qnc5_,qnc23_⟩
   ·rw [if_neg c4] at H;have c4b0:(t332.toList == ([53]:List UInt8))=false:=bF_ c4;have c4b1:(t332.toList != ([53]:List UInt8))=true:=bne_iff_ne.mpr c4;obtain rfl:=Option.some.inj H
    go_enter Tryd.func25,Tryd.ntmps25
    have tk33:=trivial;have tk34:=trivial
    go_wp2_with (first|(clear tk33;(with_reducible refine gate_callee (f:=16) rfl ?_);refine goesL_ (some 2) rfl rfl Tryd.func16 (by kernel_rfl) rfl #[.string (⟨#[45,49,50,46,53,120]⟩:ByteArray)] rfl qnc0_ ?_;(with_reducible refine (n_Decimal.calls k (⟨#[45,49,50,46,53,120]⟩:ByteArray) true t331 t332 t333 _ A1.out).mono ?_);rintro e w30 ⟨rfl,hb⟩;refine ⟨_,rfl,?_⟩;have n0_:=M_ (below_step qnc2_ hb);clear HB;have HB:=n0_;clear n0_;(try clear hb))|(clear tk34;(with_reducible refine gate_dst (N:=1) rfl ?_);refine box_event ?hg (N:=1) ?hd (cs:=#[.bool false,.string ⟨#[]⟩,.string ⟨#[]⟩,.int .i64 0]) (t:=25) ?hr ?_;(case hd => rfl);(case hg => rfl);(case hr => first|(go_simp;done)|(go_simp;rfl));intro gb334 hg w31 hbox hb;have n0_:=M_ (below_step qnc2_ hb);have n1_:=M_ (hbox);have n2_:=M_ ((by rw [hg];exact (below_size qnc2_):w.heap.size≤gb334));have n3_:=n2_;clear HB;have HB:=n0_;have BK334:=n1_;have GW334:=n2_;have GE334:=n3_;clear n0_ n1_ n2_ n3_;clear hb hbox hg;have hcz32_0:=bc_ (.bool false) BK334.out 0 rfl;have hcz32_1:=bc_ (.string ⟨#[]⟩) BK334.out 1 rfl;have hcz32_2:=bc_ (.string ⟨#[]⟩) BK334.out 2 rfl;have hcz32_3:=bc_ (.int .i64 0) BK334.out 3 rfl;have hfz32_0:=bf_ BK334.out 0;have hfz32_1:=bf_ BK334.out 1;have hfz32_2:=bf_ BK334.out 2;have hfz32_3:=bf_ BK334.out 3))
    go_ret;exact ⟨qnc5_,qnc23_⟩
  ·rw [if_neg c3] at H;have c3b0:(t331.toList == ([49,50]:List UInt8))=false:=bF_ c3;have c3b1:(t331.toList != ([49,50]:List UInt8))=true:=bne_iff_ne.mpr c3;obtain rfl:=Option.some.inj H
   go_enter Tryd.func25,Tryd.ntmps25
   have tk38:=trivial;have tk39:=trivial
   go_wp2_with (first|(clear tk38;(with_reducible refine gate_callee (f:=16) rfl ?_);refine goesL_ (some 2) rfl rfl Tryd.func16 (by kernel_rfl) rfl #[.string (⟨#[45,49,50,46,53,120]⟩:ByteArray)] rfl qnc0_ ?_;(with_reducible refine (n_Decimal.calls k (⟨#[45,49,50,46,53,120]⟩:ByteArray) true t331 t332 t333 _ A1.out).mono ?_);rintro e w35 ⟨rfl,hb⟩;refine ⟨_,rfl,?_⟩;have n0_:=M_ (below_step qnc2_ hb);clear HB;have HB:=n0_;clear n0_;(try clear hb))|(clear tk39;(with_reducible refine gate_dst (N:=1) rfl ?_);refine box_event ?hg (N:=1) ?hd (cs:=#[.bool false,.string ⟨#[]⟩,.string ⟨#[]⟩,.int .i64 0]) (t:=25) ?hr ?_;(case hd => rfl);(case hg => rfl);(case hr => first|(go_simp;done)|(go_simp;rfl));intro gb334 hg w36 hbox hb;have n0_:=M_ (below_step qnc2_ hb);have n1_:=M_ (hbox);have n2_:=M_ ((by rw [hg];exact (below_size qnc2_):w.heap.size≤gb334));have n3_:=n2_;clear HB;have HB:=n0_;have BK334:=n1_;have GW334:=n2_;have GE334:=n3_;clear n0_ n1_ n2_ n3_;clear hb hbox hg;have hcz37_0:=bc_ (.bool false) BK334.out 0 rfl;have hcz37_1:=bc_ (.string ⟨#[]⟩) BK334.out 1 rfl;have hcz37_2:=bc_ (.string ⟨#[]⟩) BK334.out 2 rfl;have hcz37_3:=bc_ (.int .i64 0) BK334.out 3 rfl;have hfz37_0:=bf_ BK334.out 0;have hfz37_1:=bf_ BK334.out 1;have hfz37_2:=bf_ BK334.out 2;have hfz37_3:=bf_ BK334.out 3))
   go_ret;exact ⟨qnc5_,qnc23_⟩
 ·replace c2:=Bool.eq_false_iff.mpr c2;subst c2;rw [if_neg (show ¬ (false=true) by decide)] at H;obtain rfl:=Option.some.inj H
  go_enter Tryd.func25,Tryd.ntmps25
  have tk43:=trivial;have tk44:=trivial
  go_wp2_with (first|(clear tk43;(with_reducible refine gate_callee (f:=16) rfl ?_);refine goesL_ (some 2) rfl rfl Tryd.func16 (by kernel_rfl) rfl #[.string (⟨#[45,49,50,46,53,120]⟩:ByteArray)] rfl qnc0_ ?_;(with_reducible refine (n_Decimal.calls k (⟨#[45,49,50,46,53,120]⟩:ByteArray) false t331 t332 t333 _ A1.out).mono ?_);rintro e w40 ⟨rfl,hb⟩;refine ⟨_,rfl,?_⟩;have n0_:=M_ (below_step qnc2_ hb);clear HB;have HB:=n0_;clear n0_;(try clear hb))|(clear tk44;(with_reducible refine gate_dst (N:=1) rfl ?_);refine box_event ?hg (N:=1) ?hd (cs:=#[.bool false,.string ⟨#[]⟩,.string ⟨#[]⟩,.int .i64 0]) (t:=25) ?hr ?_;(case hd => rfl);(case hg => rfl);(case hr => first|(go_simp;done)|(go_simp;rfl));intro gb334 hg w41 hbox hb;have n0_:=M_ (below_step qnc2_ hb);have n1_:=M_ (hbox);have n2_:=M_ ((by rw [hg];exact (below_size qnc2_):w.heap.size≤gb334));have n3_:=n2_;clear HB;have HB:=n0_;have BK334:=n1_;have GW334:=n2_;have GE334:=n3_;clear n0_ n1_ n2_ n3_;clear hb hbox hg;have hcz42_0:=bc_ (.bool false) BK334.out 0 rfl;have hcz42_1:=bc_ (.string ⟨#[]⟩) BK334.out 1 rfl;have hcz42_2:=bc_ (.string ⟨#[]⟩) BK334.out 2 rfl;have hcz42_3:=bc_ (.int .i64 0) BK334.out 3 rfl;have hfz42_0:=bf_ BK334.out 0;have hfz42_1:=bf_ BK334.out 1;have hfz42_2:=bf_ BK334.out 2;have hfz42_3:=bf_ BK334.out 3))
  go_ret;exact ⟨qnc5_,qnc23_⟩

set_option maxHeartbeats 8000000
set_option maxRecDepth 100000

def r_start.l0:Nat→ByteArray→Int→Option (Int)
 | 0,_,_ => none
 | k+1,x0,x3 => if x3 < (x0.size:Int) then (if 0≤x3 then (if (bt x0 x3)=32 then (r_start.l0 k x0 (wrap64 (x3+1))) else (if (bt x0 x3)=9 then (r_start.l0 k x0 (wrap64 (x3+1))) else (some x3))) else (none)) else (some x3)
def r_start.f (k:Nat) (a0:ByteArray):Option (Int):=r_start.l0 k a0 0
theorem r_start.calls (k : Nat) (a0 : ByteArray) (r : Int) (w : World) (h : r_start.f k a0 = some r) :
  Calls Tryd.prog 44 #[.string a0] w fun e w' => e=.returned (.int .i64 r)∧Drawn0 w w':=by
 have H:(r_start.l0 k a0 0)=some r:=h;clear h;have H':=M_ H;clear H
 go_enter Tryd.func44,Tryd.ntmps44
 go_wp2
 go_loopg [3] k (fun kq v3 w' => ∃ (x3_1:Int),v3=.int .i64 x3_1∧Aside0 (r_start.l0 kq a0 x3_1=some r)∧Aside0 (kq≤k)∧Drawn0 w w')
 case atStart => exact ⟨(0),qnc1_,H',⟨Nat.le_refl _⟩,qnc4_⟩
 case round =>
  clear H';obtain ⟨x3_1,rfl,HA,HK1,⟨m1,rfl⟩⟩:=hrel
  cases gk with
  | zero => exact absurd HA.out (by simp [r_start.l0])
  | succ k1 =>
   have H:=HA.out;clear HA;simp only [r_start.l0] at H
   by_cases c2:x3_1 < (a0.size:Int)
   ·rw [if_pos c2] at H;have c2b0:=dT_ c2;clear c2
    by_cases c3:0≤x3_1
    ·rw [if_pos c3] at H;have c3b0:=dT_ c3;clear c3
     by_cases c5:(bt a0 x3_1)=32
     ·rw [if_pos c5] at H;have c5b0:((bt a0 x3_1) == 32)=true:=beq_iff_eq.mpr c5;have c5b1:((bt a0 x3_1) != 32)=false:=nF_ c5;clear c5;have H':=M_ H;clear H;have p4:0≤(x3_1:Int):=oD_ qnc3_;have q4:x3_1 < (a0.size:Int):=oD_ qnc3_;have hx4:=bt_at a0 x3_1;replace p4:=eq_true p4;replace q4:=eq_true q4;go_wp2
      go_roundg k1
      case measure => have:=HK1.out;omega
      case rel => exact ⟨(wrap64 (x3_1+1)),qnc1_,H',⟨by have:=HK1.out;omega⟩,qnc4_⟩
     ·rw [if_neg c5] at H;have c5b0:((bt a0 x3_1) == 32)=false:=bF_ c5;have c5b1:((bt a0 x3_1) != 32)=true:=bne_iff_ne.mpr c5
      by_cases c7:(bt a0 x3_1)=9
      ·rw [if_pos c7] at H;have c7b0:((bt a0 x3_1) == 9)=true:=beq_iff_eq.mpr c7;have c7b1:((bt a0 x3_1) != 9)=false:=nF_ c7;clear c7;have H':=M_ H;clear H;have p4:0≤(x3_1:Int):=oD_ qnc3_;have q4:x3_1 < (a0.size:Int):=oD_ qnc3_;have hx4:=bt_at a0 x3_1;replace p4:=eq_true p4;replace q4:=eq_true q4;have p6:0≤(x3_1:Int):=oD_ qnc3_;have q6:x3_1 < (a0.size:Int):=oD_ qnc3_;have hx6:=bt_at a0 x3_1;replace p6:=eq_true p6;replace q6:=eq_true q6;go_wp2
       go_roundg k1
       case measure => have:=HK1.out;omega
       case rel => exact ⟨(wrap64 (x3_1+1)),qnc1_,H',⟨by have:=HK1.out;omega⟩,qnc4_⟩
      ·rw [if_neg c7] at H;have c7b0:((bt a0 x3_1) == 9)=false:=bF_ c7;have c7b1:((bt a0 x3_1) != 9)=true:=bne_iff_ne.mpr c7;obtain rfl:=Option.some.inj H;have p4:0≤(x3_1:Int):=oD_ qnc3_;have q4:x3_1 < (a0.size:Int):=oD_ qnc3_;have hx4:=bt_at a0 x3_1;replace p4:=eq_true p4;replace q4:=eq_true q4;have p6:0≤(x3_1:Int):=oD_ qnc3_;have q6:x3_1 < (a0.size:Int):=oD_ qnc3_;have hx6:=bt_at a0 x3_1;replace p6:=eq_true p6;replace q6:=eq_true q6;go_wp2;go_ret;exact ⟨qnc1_,qnc4_⟩
    ·rw [if_neg c3] at H;exact absurd H (by simp)
   ·rw [if_neg c2] at H;have c2b0:=dF_ c2;clear c2;obtain rfl:=Option.some.inj H;go_wp2;go_ret;exact ⟨qnc1_,qnc4_⟩

set_option maxHeartbeats 8000000
set_option maxRecDepth 100000

def r_low.f (a0:Int):Option (Int):=if a0 ≥ 65 then (if a0≤90 then (some ((a0+32) % 256)) else (some a0)) else (some a0)
theorem r_low.calls (a0 : Int) (r : Int) (w : World) (h : r_low.f a0 = some r) :
  Calls Tryd.prog 70 #[.int .u8 a0] w fun e w' => e=.returned (.int .u8 r)∧Drawn0 w w':=by
 have H:(if a0 ≥ 65 then (if a0≤90 then (some ((a0+32) % 256)) else (some a0)) else (some a0))=some r:=h;clear h
 by_cases c2:a0 ≥ 65
 ·rw [if_pos c2] at H;have c2b0:=dT_ c2;clear c2
  by_cases c3:a0≤90
  ·rw [if_pos c3] at H;have c3b0:=dT_ c3;clear c3;obtain rfl:=Option.some.inj H
   go_enter Tryd.func70,Tryd.ntmps70
   go_wp2;go_ret;exact ⟨qnc1_,qnc4_⟩
  ·rw [if_neg c3] at H;have c3b0:=dF_ c3;clear c3;obtain rfl:=Option.some.inj H
   go_enter Tryd.func70,Tryd.ntmps70
   go_wp2;go_ret;exact ⟨qnc1_,qnc4_⟩
 ·rw [if_neg c2] at H;have c2b0:=dF_ c2;clear c2;obtain rfl:=Option.some.inj H
  go_enter Tryd.func70,Tryd.ntmps70
  go_wp2;go_ret;exact ⟨qnc1_,qnc4_⟩

set_option maxHeartbeats 8000000
set_option maxRecDepth 100000

def r_at.l0:Nat→ByteArray→Int→ByteArray→Int→Option (Bool)
 | 0,_,_,_,_ => none
 | k+1,x0,x1,x2,x7 => if x7 < (x2.size:Int) then (if 0≤(wrap64 (x1+x7)) then (if (wrap64 (x1+x7)) < (x0.size:Int) then ((r_low.f (bt x0 (wrap64 (x1+x7)))).bind fun t225 => (if 0≤x7 then (if t225=(bt x2 x7) then (r_at.l0 k x0 x1 x2 (wrap64 (x7+1))) else (some false)) else (none))) else (none)) else (none)) else (some true)
def r_at.f (k:Nat) (a0:ByteArray) (a1:Int) (a2:ByteArray):Option (Bool):=if (wrap64 (a1+(a2.size:Int))) > (a0.size:Int) then (some false) else (r_at.l0 k a0 a1 a2 0)
theorem r_at.calls (k : Nat) (a0 : ByteArray) (a1 : Int) (a2 : ByteArray) (r : Bool) (w : World) (h : r_at.f k a0 a1 a2 = some r) :
  Calls Tryd.prog 45 #[.string a0,.int .i64 a1,.string a2] w fun e w' => e=.returned (.bool r)∧Drawn0 w w':=by
 have H:(if (wrap64 (a1+(a2.size:Int))) > (a0.size:Int) then (some false) else (r_at.l0 k a0 a1 a2 0))=some r:=h;clear h
 by_cases c4:(wrap64 (a1+(a2.size:Int))) > (a0.size:Int)
 ·rw [if_pos c4] at H;have c4b0:=dT_ c4;clear c4;obtain rfl:=Option.some.inj H
  go_enter Tryd.func45,Tryd.ntmps45
  go_wp2
  repeat (go_quiet (fail);try go_wp2)
  go_ret;exact ⟨qnc1_,qnc4_⟩
 ·rw [if_neg c4] at H;have c4b0:=dF_ c4;clear c4;have H':=M_ H;clear H
  go_enter Tryd.func45,Tryd.ntmps45
  go_wp2
  repeat (go_quiet (fail);try go_wp2)
  go_loopg [7] k (fun kq v7 w' => ∃ (x7_1:Int),v7=.int .i64 x7_1∧Aside0 (r_at.l0 kq a0 a1 a2 x7_1=some r)∧Aside0 (kq≤k)∧Drawn0 w w')
  case atStart => exact ⟨(0),qnc1_,H',⟨Nat.le_refl _⟩,qnc4_⟩
  case round =>
   clear H'
   (try clear c4);(try clear c4b0)
   obtain ⟨x7_1,rfl,HA,HK1,⟨m1,rfl⟩⟩:=hrel
   cases gk with
   | zero => exact absurd HA.out (by simp [r_at.l0])
   | succ k1 =>
    have H:=HA.out;clear HA;simp only [r_at.l0] at H
    by_cases c5:x7_1 < (a2.size:Int)
    ·rw [if_pos c5] at H;have c5b0:=dT_ c5;clear c5;obtain ⟨ji6,hji6⟩ : ∃ j_:Int,(wrap64 (a1+x7_1))=j_:=⟨_,rfl⟩;replace H:(if 0≤(ji6) then (if (ji6) < (a0.size:Int) then ((r_low.f (bt a0 (ji6))).bind fun t225 => (if 0≤x7_1 then (if t225=(bt a2 x7_1) then (r_at.l0 k1 a0 a1 a2 (wrap64 (x7_1+1))) else (some false)) else (none))) else (none)) else (none))=some r:=by first|(rw [hji6] at H;exact H)|(simp only [hji6] at H ⊢;exact H)
     have hji6w:(IntKind.i64.wrap (a1+x7_1))=ji6:=(i64_w _).trans hji6
     by_cases c7:0≤(ji6)
     ·rw [if_pos c7] at H;have c7b0:=dT_ c7;clear c7
      by_cases c8:(ji6) < (a0.size:Int)
      ·rw [if_pos c8] at H;have c8b0:=dT_ c8;clear c8;obtain ⟨t225,A10,H⟩:=ob_ H
       by_cases c11:0≤x7_1
       ·rw [if_pos c11] at H;have c11b0:=dT_ c11;clear c11
        by_cases c13:t225=(bt a2 x7_1)
        ·rw [if_pos c13] at H;have c13b0:(t225 == (bt a2 x7_1))=true:=beq_iff_eq.mpr c13;have c13b1:(t225 != (bt a2 x7_1))=false:=nF_ c13;clear c13;have H':=M_ H;clear H;have p9:0≤((ji6):Int):=oD_ qnc3_;have q9:(ji6) < (a0.size:Int):=oD_ qnc3_;have hx9:=bt_at a0 (ji6);replace p9:=eq_true p9;replace q9:=eq_true q9;have p12:0≤(x7_1:Int):=oD_ qnc3_;have q12:x7_1 < (a2.size:Int):=oD_ qnc3_;have hx12:=bt_at a2 x7_1;replace p12:=eq_true p12;replace q12:=eq_true q12
         go_wp2_with (first|(go_at_call 70;(with_reducible refine (r_low.calls (bt a0 (ji6)) t225 _ A10.out).mono ?_);rintro e w' ⟨rfl,⟨nd,rfl⟩⟩;(try first|exact ⟨rfl,_,World.drewN_drewN _ _ _⟩|exact ⟨rfl,_,Eq.trans (World.drewN_drewN _ _ _) (congrArg (World.drewN _) (Nat.add_assoc _ _ _))⟩)))
         repeat (go_quiet (first|(go_at_call 70;(with_reducible refine (r_low.calls (bt a0 (ji6)) t225 _ A10.out).mono ?_);rintro e w' ⟨rfl,⟨nd,rfl⟩⟩;(try first|exact ⟨rfl,_,World.drewN_drewN _ _ _⟩|exact ⟨rfl,_,Eq.trans (World.drewN_drewN _ _ _) (congrArg (World.drewN _) (Nat.add_assoc _ _ _))⟩)));try go_wp2_with (first|(go_at_call 70;(with_reducible refine (r_low.calls (bt a0 (ji6)) t225 _ A10.out).mono ?_);rintro e w' ⟨rfl,⟨nd,rfl⟩⟩;(try first|exact ⟨rfl,_,World.drewN_drewN _ _ _⟩|exact ⟨rfl,_,Eq.trans (World.drewN_drewN _ _ _) (congrArg (World.drewN _) (Nat.add_assoc _ _ _))⟩))))
         go_roundg k1
         case measure => have:=HK1.out;omega
         case rel => exact ⟨(wrap64 (x7_1+1)),qnc1_,H',⟨by have:=HK1.out;omega⟩,qnc4_⟩
        ·rw [if_neg c13] at H;have c13b0:(t225 == (bt a2 x7_1))=false:=bF_ c13;have c13b1:(t225 != (bt a2 x7_1))=true:=bne_iff_ne.mpr c13;obtain rfl:=Option.some.inj H;have p9:0≤((ji6):Int):=oD_ qnc3_;have q9:(ji6) < (a0.size:Int):=oD_ qnc3_;have hx9:=bt_at a0 (ji6);replace p9:=eq_true p9;replace q9:=eq_true q9;have p12:0≤(x7_1:Int):=oD_ qnc3_;have q12:x7_1 < (a2.size:Int):=oD_ qnc3_;have hx12:=bt_at a2 x7_1;replace p12:=eq_true p12;replace q12:=eq_true q12
         go_wp2_with (first|(go_at_call 70;(with_reducible refine (r_low.calls (bt a0 (ji6)) t225 _ A10.out).mono ?_);rintro e w' ⟨rfl,⟨nd,rfl⟩⟩;(try first|exact ⟨rfl,_,World.drewN_drewN _ _ _⟩|exact ⟨rfl,_,Eq.trans (World.drewN_drewN _ _ _) (congrArg (World.drewN _) (Nat.add_assoc _ _ _))⟩)))
         repeat (go_quiet (first|(go_at_call 70;(with_reducible refine (r_low.calls (bt a0 (ji6)) t225 _ A10.out).mono ?_);rintro e w' ⟨rfl,⟨nd,rfl⟩⟩;(try first|exact ⟨rfl,_,World.drewN_drewN _ _ _⟩|exact ⟨rfl,_,Eq.trans (World.drewN_drewN _ _ _) (congrArg (World.drewN _) (Nat.add_assoc _ _ _))⟩)));try go_wp2_with (first|(go_at_call 70;(with_reducible refine (r_low.calls (bt a0 (ji6)) t225 _ A10.out).mono ?_);rintro e w' ⟨rfl,⟨nd,rfl⟩⟩;(try first|exact ⟨rfl,_,World.drewN_drewN _ _ _⟩|exact ⟨rfl,_,Eq.trans (World.drewN_drewN _ _ _) (congrArg (World.drewN _) (Nat.add_assoc _ _ _))⟩))))
         go_ret;exact ⟨qnc86_,qnc4_⟩
       ·rw [if_neg c11] at H;exact absurd H (by simp)
      ·rw [if_neg c8] at H;exact absurd H (by simp)
     ·rw [if_neg c7] at H;exact absurd H (by simp)
    ·rw [if_neg c5] at H;have c5b0:=dF_ c5;clear c5;obtain rfl:=Option.some.inj H;go_wp2
     repeat (go_quiet (fail);try go_wp2)
     go_ret;exact ⟨qnc1_,qnc4_⟩

set_option maxHeartbeats 8000000
set_option maxRecDepth 100000

def r_Month.l0:Nat→ByteArray→Int→Int→Option (Int)
 | 0,_,_,_ => none
 | k+1,x0,x3,x4 => if x4 < 12 then (if 0≤(wrap64 (3 * x4)) then (if (wrap64 (3 * x4))≤(wrap64 ((wrap64 (3 * x4))+3)) then (if (wrap64 ((wrap64 (3 * x4))+3))≤36 then ((r_at.f k x0 x3 ((⟨#[106,97,110,102,101,98,109,97,114,97,112,114,109,97,121,106,117,110,106,117,108,97,117,103,115,101,112,111,99,116,110,111,118,100,101,99]⟩:ByteArray).extract ((wrap64 (3 * x4)):Int).toNat ((wrap64 ((wrap64 (3 * x4))+3)):Int).toNat)).bind fun t227 => (if t227=true then (some (wrap64 (x4+1))) else (r_Month.l0 k x0 x3 (wrap64 (x4+1))))) else (none)) else (none)) else (none)) else (some 0)
def r_Month.f (k:Nat) (a0:ByteArray):Option (Int):=(r_start.f k a0).bind fun t226 => (r_Month.l0 k a0 t226 0)
theorem r_Month.calls (k : Nat) (a0 : ByteArray) (r : Int) (w : World) (h : r_Month.f k a0 = some r) :
  Calls Tryd.prog 24 #[.string a0] w fun e w' => e=.returned (.int .i64 r)∧Drawn0 w w':=by
 have H:((r_start.f k a0).bind fun t226 => (r_Month.l0 k a0 t226 0))=some r:=h;clear h;obtain ⟨t226,A2,H⟩:=ob_ H;have H':=M_ H;clear H
 go_enter Tryd.func24,Tryd.ntmps24
 go_wp2_with (first|((with_reducible refine gate_callee (f:=44) rfl ?_);refine goesL_ (some 6) rfl rfl Tryd.func44 (by kernel_rfl) rfl #[.string a0] rfl qnc0_ ?_;(with_reducible refine (r_start.calls k a0 t226 _ A2.out).mono ?_);rintro e w' ⟨rfl,⟨nd,rfl⟩⟩;refine ⟨_,rfl,?_⟩))
 go_loopg [4] k (fun kq v4 w' => ∃ (x4_1:Int),v4=.int .i64 x4_1∧Aside0 (r_Month.l0 kq a0 t226 x4_1=some r)∧Aside0 (kq≤k)∧Drawn0 w w')
 case atStart => exact ⟨(0),qnc1_,H',⟨Nat.le_refl _⟩,qnc4_⟩
 case round =>
  clear H'
  skip
  obtain ⟨x4_1,rfl,HA,HK1,⟨m1,rfl⟩⟩:=hrel
  cases gk with
  | zero => exact absurd HA.out (by simp [r_Month.l0])
  | succ k1 =>
   have H:=HA.out;clear HA;simp only [r_Month.l0] at H
   by_cases c3:x4_1 < 12
   ·rw [if_pos c3] at H;have c3b0:=dT_ c3;clear c3;obtain ⟨ji4,hji4⟩ : ∃ j_:Int,(wrap64 (3 * x4_1))=j_:=⟨_,rfl⟩;replace H:(if 0≤(ji4) then (if (ji4)≤(wrap64 ((ji4)+3)) then (if (wrap64 ((ji4)+3))≤36 then ((r_at.f k1 a0 t226 ((⟨#[106,97,110,102,101,98,109,97,114,97,112,114,109,97,121,106,117,110,106,117,108,97,117,103,115,101,112,111,99,116,110,111,118,100,101,99]⟩:ByteArray).extract ((ji4):Int).toNat ((wrap64 ((ji4)+3)):Int).toNat)).bind fun t227 => (if t227=true then (some (wrap64 (x4_1+1))) else (r_Month.l0 k1 a0 t226 (wrap64 (x4_1+1))))) else (none)) else (none)) else (none))=some r:=by first|(rw [hji4] at H;exact H)|(simp only [hji4] at H ⊢;exact H)
    have hji4w:(IntKind.i64.wrap (3 * x4_1))=ji4:=(i64_w _).trans hji4
    by_cases c5:0≤(ji4)
    ·rw [if_pos c5] at H;have c5b0:=eq_true c5;have c5b1:=dT_ c5;clear c5
     by_cases c6:(ji4)≤(wrap64 ((ji4)+3))
     ·rw [if_pos c6] at H;have c6b0:=eq_true c6;have c6b1:=dT_ c6
      by_cases c7:(wrap64 ((ji4)+3))≤36
      ·rw [if_pos c7] at H;have c7b0:=eq_true c7;have c7b1:=dT_ c7;obtain ⟨t227,A8,H⟩:=ob_ H
       by_cases c9:t227=true
       ·subst c9;rw [if_pos rfl] at H;obtain rfl:=Option.some.inj H
        go_wp2_with (first|((with_reducible refine gate_callee (f:=45) rfl ?_);refine goesL_ (some 19) rfl rfl Tryd.func45 (by kernel_rfl) rfl #[.string a0,.int .i64 t226,.string ((⟨#[106,97,110,102,101,98,109,97,114,97,112,114,109,97,121,106,117,110,106,117,108,97,117,103,115,101,112,111,99,116,110,111,118,100,101,99]⟩:ByteArray).extract ((ji4):Int).toNat ((wrap64 ((ji4)+3)):Int).toNat)] rfl (by (try simp only [List.map_toArray,List.map_cons,List.map_nil]);first|done|(simp only [hji4];rfl)|rfl|(simp only [List.length_drop,List.length_take];rfl)|(simp;done)|(simp;omega)) ?_;(with_reducible refine (r_at.calls k1 a0 t226 ((⟨#[106,97,110,102,101,98,109,97,114,97,112,114,109,97,121,106,117,110,106,117,108,97,117,103,115,101,112,111,99,116,110,111,118,100,101,99]⟩:ByteArray).extract ((ji4):Int).toNat ((wrap64 ((ji4)+3)):Int).toNat) true _ A8.out).mono ?_);rintro e w' ⟨rfl,⟨nd,rfl⟩⟩;refine ⟨_,rfl,?_⟩))
        go_ret;exact ⟨qnc87_,qnc4_⟩
       ·replace c9:=Bool.eq_false_iff.mpr c9;subst c9;rw [if_neg (show ¬ (false=true) by decide)] at H;have H':=M_ H;clear H
        go_wp2_with (first|((with_reducible refine gate_callee (f:=45) rfl ?_);refine goesL_ (some 19) rfl rfl Tryd.func45 (by kernel_rfl) rfl #[.string a0,.int .i64 t226,.string ((⟨#[106,97,110,102,101,98,109,97,114,97,112,114,109,97,121,106,117,110,106,117,108,97,117,103,115,101,112,111,99,116,110,111,118,100,101,99]⟩:ByteArray).extract ((ji4):Int).toNat ((wrap64 ((ji4)+3)):Int).toNat)] rfl (by (try simp only [List.map_toArray,List.map_cons,List.map_nil]);first|done|(simp only [hji4];rfl)|rfl|(simp only [List.length_drop,List.length_take];rfl)|(simp;done)|(simp;omega)) ?_;(with_reducible refine (r_at.calls k1 a0 t226 ((⟨#[106,97,110,102,101,98,109,97,114,97,112,114,109,97,121,106,117,110,106,117,108,97,117,103,115,101,112,111,99,116,110,111,118,100,101,99]⟩:ByteArray).extract ((ji4):Int).toNat ((wrap64 ((ji4)+3)):Int).toNat) false _ A8.out).mono ?_);rintro e w' ⟨rfl,⟨nd,rfl⟩⟩;refine ⟨_,rfl,?_⟩))
        go_roundg k1
        case measure => have:=HK1.out;omega
        case rel => exact ⟨(wrap64 (x4_1+1)),qnc1_,H',⟨by have:=HK1.out;omega⟩,qnc4_⟩
      ·rw [if_neg c7] at H;exact absurd H (by simp)
     ·rw [if_neg c6] at H;exact absurd H (by simp)
    ·rw [if_neg c5] at H;exact absurd H (by simp)
   ·rw [if_neg c3] at H;have c3b0:=dF_ c3;clear c3;obtain rfl:=Option.some.inj H;go_wp2;go_ret;exact ⟨qnc1_,qnc4_⟩

set_option maxHeartbeats 8000000
set_option maxRecDepth 100000

def r_isDigit.f (a0:Int):Option (Bool):=if a0 ≥ 48 then (some (decide (a0≤57))) else (some false)
theorem r_isDigit.calls (a0 : Int) (r : Bool) (w : World) (h : r_isDigit.f a0 = some r) :
  Calls Tryd.prog 96 #[.int .u8 a0] w fun e w' => e=.returned (.bool r)∧Drawn0 w w':=by
 have H:(if a0 ≥ 48 then (some (decide (a0≤57))) else (some false))=some r:=h;clear h
 by_cases c2:a0 ≥ 48
 ·rw [if_pos c2] at H;have c2b0:=dT_ c2;clear c2;obtain rfl:=Option.some.inj H
  go_enter Tryd.func96,Tryd.ntmps96
  go_wp2;go_ret;exact ⟨qnc1_,qnc4_⟩
 ·rw [if_neg c2] at H;have c2b0:=dF_ c2;clear c2;obtain rfl:=Option.some.inj H
  go_enter Tryd.func96,Tryd.ntmps96
  go_wp2;go_ret;exact ⟨qnc1_,qnc4_⟩

set_option maxHeartbeats 8000000
set_option maxRecDepth 100000

def r_run.l0:Nat→ByteArray→Int→Option (Int)
 | 0,_,_ => none
 | k+1,x0,x1 => if x1 < (x0.size:Int) then (if 0≤x1 then ((r_isDigit.f (bt x0 x1)).bind fun t194 => (if t194=true then (r_run.l0 k x0 (wrap64 (x1+1))) else (some x1))) else (none)) else (some x1)
def r_run.f (k:Nat) (a0:ByteArray) (a1:Int):Option (Int):=r_run.l0 k a0 a1
theorem r_run.calls (k : Nat) (a0 : ByteArray) (a1 : Int) (r : Int) (w : World) (h : r_run.f k a0 a1 = some r) :
  Calls Tryd.prog 71 #[.string a0,.int .i64 a1] w fun e w' => e=.returned (.int .i64 r)∧Drawn0 w w':=by
 have H:(r_run.l0 k a0 a1)=some r:=h;clear h;have H':=M_ H;clear H
 go_enter Tryd.func71,Tryd.ntmps71
 go_wp2
 go_loopg [1] k (fun kq v1 w' => ∃ (x1_1:Int),v1=.int .i64 x1_1∧Aside0 (r_run.l0 kq a0 x1_1=some r)∧Aside0 (kq≤k)∧Drawn0 w w')
 case atStart => exact ⟨(a1),qnc1_,H',⟨Nat.le_refl _⟩,qnc4_⟩
 case round =>
  clear H'
  skip
  obtain ⟨x1_1,rfl,HA,HK1,⟨m1,rfl⟩⟩:=hrel
  cases gk with
  | zero => exact absurd HA.out (by simp [r_run.l0])
  | succ k1 =>
   have H:=HA.out;clear HA;simp only [r_run.l0] at H
   by_cases c3:x1_1 < (a0.size:Int)
   ·rw [if_pos c3] at H;have c3b0:=dT_ c3;clear c3
    by_cases c4:0≤x1_1
    ·rw [if_pos c4] at H;have c4b0:=dT_ c4;clear c4;obtain ⟨t194,A6,H⟩:=ob_ H
     by_cases c7:t194=true
     ·subst c7;rw [if_pos rfl] at H;have H':=M_ H;clear H;have p5:0≤(x1_1:Int):=oD_ qnc3_;have q5:x1_1 < (a0.size:Int):=oD_ qnc3_;have hx5:=bt_at a0 x1_1;replace p5:=eq_true p5;replace q5:=eq_true q5
      go_wp2_with (first|(go_at_call 96;(with_reducible refine (r_isDigit.calls (bt a0 x1_1) true _ A6.out).mono ?_);rintro e w' ⟨rfl,⟨nd,rfl⟩⟩))
      go_roundg k1
      case measure => have:=HK1.out;omega
      case rel => exact ⟨(wrap64 (x1_1+1)),qnc1_,H',⟨by have:=HK1.out;omega⟩,qnc4_⟩
     ·replace c7:=Bool.eq_false_iff.mpr c7;subst c7;rw [if_neg (show ¬ (false=true) by decide)] at H;obtain rfl:=Option.some.inj H;have p5:0≤(x1_1:Int):=oD_ qnc3_;have q5:x1_1 < (a0.size:Int):=oD_ qnc3_;have hx5:=bt_at a0 x1_1;replace p5:=eq_true p5;replace q5:=eq_true q5
      go_wp2_with (first|(go_at_call 96;(with_reducible refine (r_isDigit.calls (bt a0 x1_1) false _ A6.out).mono ?_);rintro e w' ⟨rfl,⟨nd,rfl⟩⟩))
      go_ret;exact ⟨qnc1_,qnc4_⟩
    ·rw [if_neg c4] at H;exact absurd H (by simp)
   ·rw [if_neg c3] at H;have c3b0:=dF_ c3;clear c3;obtain rfl:=Option.some.inj H;go_wp2;go_ret;exact ⟨qnc1_,qnc4_⟩

set_option maxHeartbeats 8000000
set_option maxRecDepth 100000

def r_Plain.f (k:Nat) (a0:ByteArray) (a1:Int):Option (ByteArray × Int × Int):=(r_run.f k a0 a1).bind fun t195 => (if 0≤a1 then (if a1≤t195 then (if t195≤(a0.size:Int) then (if t195 < (a0.size:Int) then (if 0≤t195 then (if (bt a0 t195)=46 then ((r_run.f k a0 (wrap64 (t195+1))).bind fun t196 => (if 0≤(wrap64 (t195+1)) then (if (wrap64 (t195+1))≤t196 then (if t196≤(a0.size:Int) then (if (t195.toNat - a1.toNat)+(t196.toNat - ((wrap64 (t195+1)):Int).toNat)≤9223372036854775807 then (if ((a0.extract (a1:Int).toNat (t195:Int).toNat)++(a0.extract ((wrap64 (t195+1)):Int).toNat (t196:Int).toNat)).toList=([]:List UInt8) then (some ((⟨#[]⟩:ByteArray),0,(-1))) else (some ((a0.extract (a1:Int).toNat (t195:Int).toNat)++(a0.extract ((wrap64 (t195+1)):Int).toNat (t196:Int).toNat),((t195.toNat - a1.toNat:Nat):Int),t196))) else (none)) else (none)) else (none)) else (none))) else (if (a0.extract (a1:Int).toNat (t195:Int).toNat).toList=([]:List UInt8) then (some ((⟨#[]⟩:ByteArray),0,(-1))) else (some (a0.extract (a1:Int).toNat (t195:Int).toNat,((t195.toNat - a1.toNat:Nat):Int),t195)))) else (none)) else (if (a0.extract (a1:Int).toNat (t195:Int).toNat).toList=([]:List UInt8) then (some ((⟨#[]⟩:ByteArray),0,(-1))) else (some (a0.extract (a1:Int).toNat (t195:Int).toNat,((t195.toNat - a1.toNat:Nat):Int),t195)))) else (none)) else (none)) else (none))
theorem r_Plain.calls (k : Nat) (a0 : ByteArray) (a1 : Int) (r1 : ByteArray) (r2 : Int) (r3 : Int) (w : World) (h : r_Plain.f k a0 a1 = some (r1, r2, r3)) :
  Calls Tryd.prog 46 #[.string a0,.int .i64 a1] w fun e w' => e=.returned (.tuple #[.string r1,.int .i64 r2,.int .i64 r3])∧Drawn0 w w':=by
 have H:((r_run.f k a0 a1).bind fun t195 => (if 0≤a1 then (if a1≤t195 then (if t195≤(a0.size:Int) then (if t195 < (a0.size:Int) then (if 0≤t195 then (if (bt a0 t195)=46 then ((r_run.f k a0 (wrap64 (t195+1))).bind fun t196 => (if 0≤(wrap64 (t195+1)) then (if (wrap64 (t195+1))≤t196 then (if t196≤(a0.size:Int) then (if (t195.toNat - a1.toNat)+(t196.toNat - ((wrap64 (t195+1)):Int).toNat)≤9223372036854775807 then (if ((a0.extract (a1:Int).toNat (t195:Int).toNat)++(a0.extract ((wrap64 (t195+1)):Int).toNat (t196:Int).toNat)).toList=([]:List UInt8) then (some ((⟨#[]⟩:ByteArray),0,(-1))) else (some ((a0.extract (a1:Int).toNat (t195:Int).toNat)++(a0.extract ((wrap64 (t195+1)):Int).toNat (t196:Int).toNat),((t195.toNat - a1.toNat:Nat):Int),t196))) else (none)) else (none)) else (none)) else (none))) else (if (a0.extract (a1:Int).toNat (t195:Int).toNat).toList=([]:List UInt8) then (some ((⟨#[]⟩:ByteArray),0,(-1))) else (some (a0.extract (a1:Int).toNat (t195:Int).toNat,((t195.toNat - a1.toNat:Nat):Int),t195)))) else (none)) else (if (a0.extract (a1:Int).toNat (t195:Int).toNat).toList=([]:List UInt8) then (some ((⟨#[]⟩:ByteArray),0,(-1))) else (some (a0.extract (a1:Int).toNat (t195:Int).toNat,((t195.toNat - a1.toNat:Nat):Int),t195)))) else (none)) else (none)) else (none)))=some (r1,r2,r3):=h;clear h;obtain ⟨t195,A3,H⟩:=ob_ H
 by_cases c4:0≤a1
 ·rw [if_pos c4] at H;have c4b0:=eq_true c4;have c4b1:=dT_ c4;clear c4
  by_cases c5:a1≤t195
  ·rw [if_pos c5] at H;have c5b0:=eq_true c5;have c5b1:=dT_ c5;clear c5
   by_cases c6:t195≤(a0.size:Int)
   ·rw [if_pos c6] at H;have c6b0:=eq_true c6;have c6b1:=dT_ c6;clear c6
    by_cases c7:t195 < (a0.size:Int)
    ·rw [if_pos c7] at H;have c7b0:=dT_ c7;clear c7
     by_cases c8:0≤t195
     ·rw [if_pos c8] at H;have c8b0:=dT_ c8;clear c8
      by_cases c10:(bt a0 t195)=46
      ·rw [if_pos c10] at H;have c10b0:((bt a0 t195) == 46)=true:=beq_iff_eq.mpr c10;have c10b1:((bt a0 t195) != 46)=false:=nF_ c10;clear c10;obtain ⟨t196,A11,H⟩:=ob_ H;obtain ⟨ji12,hji12⟩ : ∃ j_:Int,(wrap64 (t195+1))=j_:=⟨_,rfl⟩;replace H:(if 0≤(ji12) then (if (ji12)≤t196 then (if t196≤(a0.size:Int) then (if (t195.toNat - a1.toNat)+(t196.toNat - ((ji12):Int).toNat)≤9223372036854775807 then (if ((a0.extract (a1:Int).toNat (t195:Int).toNat)++(a0.extract ((ji12):Int).toNat (t196:Int).toNat)).toList=([]:List UInt8) then (some ((⟨#[]⟩:ByteArray),0,(-1))) else (some ((a0.extract (a1:Int).toNat (t195:Int).toNat)++(a0.extract ((ji12):Int).toNat (t196:Int).toNat),((t195.toNat - a1.toNat:Nat):Int),t196))) else (none)) else (none)) else (none)) else (none))=some (r1,r2,r3):=by first|(rw [hji12] at H;exact H)|(simp only [hji12] at H ⊢;exact H)
       (try rw [hji12] at A3)
       (try rw [hji12] at A11)
       have hji12w:(IntKind.i64.wrap (t195+1))=ji12:=(i64_w _).trans hji12
       by_cases c13:0≤(ji12)
       ·rw [if_pos c13] at H;have c13b0:=eq_true c13;have c13b1:=dT_ c13;clear c13
        by_cases c14:(ji12)≤t196
        ·rw [if_pos c14] at H;have c14b0:=eq_true c14;have c14b1:=dT_ c14;clear c14
         by_cases c15:t196≤(a0.size:Int)
         ·rw [if_pos c15] at H;have c15b0:=eq_true c15;have c15b1:=dT_ c15;clear c15
          by_cases c16:(t195.toNat - a1.toNat)+(t196.toNat - ((ji12):Int).toNat)≤9223372036854775807
          ·rw [if_pos c16] at H;have c16b0:=eq_true c16;have c16b1:=dT_ c16
           try have c16b2:(9223372036854775807 < (t195.toNat - a1.toNat)+(t196.toNat - ((ji12):Int).toNat))=False:=eq_false (Nat.not_lt.2 c16)
           by_cases c17:((a0.extract (a1:Int).toNat (t195:Int).toNat)++(a0.extract ((ji12):Int).toNat (t196:Int).toNat)).toList=([]:List UInt8)
           ·rw [if_pos c17] at H;have c17b0:(((a0.extract (a1:Int).toNat (t195:Int).toNat)++(a0.extract ((ji12):Int).toNat (t196:Int).toNat)).toList == ([]:List UInt8))=true:=beq_iff_eq.mpr c17;have c17b1:(((a0.extract (a1:Int).toNat (t195:Int).toNat)++(a0.extract ((ji12):Int).toNat (t196:Int).toNat)).toList != ([]:List UInt8))=false:=nF_ c17;clear c17;simp only [Option.some.injEq,Prod.mk.injEq] at H;obtain ⟨rfl,rfl,rfl⟩:=H
            go_enter Tryd.func46,Tryd.ntmps46
            have tk18:=trivial;have tk19:=trivial
            go_wp2_with (first|(clear tk18;(with_reducible refine gate_callee (f:=71) rfl ?_);refine goesL_ (some 13) rfl rfl Tryd.func71 (by kernel_rfl) rfl #[.string a0,.int .i64 a1] rfl qnc0_ ?_;(with_reducible refine (r_run.calls k a0 a1 t195 _ A3.out).mono ?_);rintro e w' ⟨rfl,⟨nd,rfl⟩⟩;refine ⟨_,rfl,?_⟩;have p9:0≤(t195:Int):=oD_ qnc3_;have q9:t195 < (a0.size:Int):=oD_ qnc3_;have hx9:=bt_at a0 t195;replace p9:=eq_true p9;replace q9:=eq_true q9)|(clear tk19;(with_reducible refine gate_callee (f:=71) rfl ?_);refine goesL_ (some 33) rfl rfl Tryd.func71 (by kernel_rfl) rfl #[.string a0,.int .i64 ji12] rfl (by (try simp only [List.map_toArray,List.map_cons,List.map_nil]);first|done|(simp only [hji12];rfl)|rfl|(simp only [List.length_drop,List.length_take];rfl)|(simp;done)|(simp;omega)) ?_;(with_reducible refine (r_run.calls k a0 ji12 t196 _ A11.out).mono ?_);rintro e w' ⟨rfl,⟨nd,rfl⟩⟩;refine ⟨_,rfl,?_⟩))
            go_ret3
            exact ⟨by first|rfl|(simp;done)|(simp only [← hji12] <;> (first|rfl|simp);done)|(simp [*];done)|(simp;simp only [eq_iff_iff,iff_true] at *;omega)|(exfalso;simp_all;done),qnc4_⟩
           ·rw [if_neg c17] at H;have c17b0:(((a0.extract (a1:Int).toNat (t195:Int).toNat)++(a0.extract ((ji12):Int).toNat (t196:Int).toNat)).toList == ([]:List UInt8))=false:=bF_ c17;have c17b1:(((a0.extract (a1:Int).toNat (t195:Int).toNat)++(a0.extract ((ji12):Int).toNat (t196:Int).toNat)).toList != ([]:List UInt8))=true:=bne_iff_ne.mpr c17;simp only [Option.some.injEq,Prod.mk.injEq] at H;obtain ⟨rfl,rfl,rfl⟩:=H
            go_enter Tryd.func46,Tryd.ntmps46
            have tk20:=trivial;have tk21:=trivial
            go_wp2_with (first|(clear tk20;(with_reducible refine gate_callee (f:=71) rfl ?_);refine goesL_ (some 13) rfl rfl Tryd.func71 (by kernel_rfl) rfl #[.string a0,.int .i64 a1] rfl qnc0_ ?_;(with_reducible refine (r_run.calls k a0 a1 t195 _ A3.out).mono ?_);rintro e w' ⟨rfl,⟨nd,rfl⟩⟩;refine ⟨_,rfl,?_⟩;have p9:0≤(t195:Int):=oD_ qnc3_;have q9:t195 < (a0.size:Int):=oD_ qnc3_;have hx9:=bt_at a0 t195;replace p9:=eq_true p9;replace q9:=eq_true q9)|(clear tk21;(with_reducible refine gate_callee (f:=71) rfl ?_);refine goesL_ (some 33) rfl rfl Tryd.func71 (by kernel_rfl) rfl #[.string a0,.int .i64 ji12] rfl (by (try simp only [List.map_toArray,List.map_cons,List.map_nil]);first|done|(simp only [hji12];rfl)|rfl|(simp only [List.length_drop,List.length_take];rfl)|(simp;done)|(simp;omega)) ?_;(with_reducible refine (r_run.calls k a0 ji12 t196 _ A11.out).mono ?_);rintro e w' ⟨rfl,⟨nd,rfl⟩⟩;refine ⟨_,rfl,?_⟩))
            go_ret3
            exact ⟨by first|rfl|(simp;done)|(simp only [← hji12] <;> (first|rfl|simp);done)|(simp [*];done)|(simp;simp only [eq_iff_iff,iff_true] at *;omega)|(exfalso;simp_all;done),qnc4_⟩
          ·rw [if_neg c16] at H;exact absurd H (by simp)
         ·rw [if_neg c15] at H;exact absurd H (by simp)
        ·rw [if_neg c14] at H;exact absurd H (by simp)
       ·rw [if_neg c13] at H;exact absurd H (by simp)
      ·rw [if_neg c10] at H;have c10b0:((bt a0 t195) == 46)=false:=bF_ c10;have c10b1:((bt a0 t195) != 46)=true:=bne_iff_ne.mpr c10
       by_cases c22:(a0.extract (a1:Int).toNat (t195:Int).toNat).toList=([]:List UInt8)
       ·rw [if_pos c22] at H;have c22b0:((a0.extract (a1:Int).toNat (t195:Int).toNat).toList == ([]:List UInt8))=true:=beq_iff_eq.mpr c22;have c22b1:((a0.extract (a1:Int).toNat (t195:Int).toNat).toList != ([]:List UInt8))=false:=nF_ c22;clear c22;simp only [Option.some.injEq,Prod.mk.injEq] at H;obtain ⟨rfl,rfl,rfl⟩:=H
        go_enter Tryd.func46,Tryd.ntmps46
        go_wp2_with (first|((with_reducible refine gate_callee (f:=71) rfl ?_);refine goesL_ (some 13) rfl rfl Tryd.func71 (by kernel_rfl) rfl #[.string a0,.int .i64 a1] rfl qnc0_ ?_;(with_reducible refine (r_run.calls k a0 a1 t195 _ A3.out).mono ?_);rintro e w' ⟨rfl,⟨nd,rfl⟩⟩;refine ⟨_,rfl,?_⟩;have p9:0≤(t195:Int):=oD_ qnc3_;have q9:t195 < (a0.size:Int):=oD_ qnc3_;have hx9:=bt_at a0 t195;replace p9:=eq_true p9;replace q9:=eq_true q9))
        go_ret3
        exact ⟨qnc1_,qnc4_⟩
       ·rw [if_neg c22] at H;have c22b0:((a0.extract (a1:Int).toNat (t195:Int).toNat).toList == ([]:List UInt8))=false:=bF_ c22;have c22b1:((a0.extract (a1:Int).toNat (t195:Int).toNat).toList != ([]:List UInt8))=true:=bne_iff_ne.mpr c22;simp only [Option.some.injEq,Prod.mk.injEq] at H;obtain ⟨rfl,rfl,rfl⟩:=H
        go_enter Tryd.func46,Tryd.ntmps46
        go_wp2_with (first|((with_reducible refine gate_callee (f:=71) rfl ?_);refine goesL_ (some 13) rfl rfl Tryd.func71 (by kernel_rfl) rfl #[.string a0,.int .i64 a1] rfl qnc0_ ?_;(with_reducible refine (r_run.calls k a0 a1 t195 _ A3.out).mono ?_);rintro e w' ⟨rfl,⟨nd,rfl⟩⟩;refine ⟨_,rfl,?_⟩;have p9:0≤(t195:Int):=oD_ qnc3_;have q9:t195 < (a0.size:Int):=oD_ qnc3_;have hx9:=bt_at a0 t195;replace p9:=eq_true p9;replace q9:=eq_true q9))
        go_ret3
        exact ⟨qnc1_,qnc4_⟩
     ·rw [if_neg c8] at H;exact absurd H (by simp)
    ·rw [if_neg c7] at H;have c7b0:=dF_ c7;clear c7
     by_cases c23:(a0.extract (a1:Int).toNat (t195:Int).toNat).toList=([]:List UInt8)
     ·rw [if_pos c23] at H;have c23b0:((a0.extract (a1:Int).toNat (t195:Int).toNat).toList == ([]:List UInt8))=true:=beq_iff_eq.mpr c23;have c23b1:((a0.extract (a1:Int).toNat (t195:Int).toNat).toList != ([]:List UInt8))=false:=nF_ c23;clear c23;simp only [Option.some.injEq,Prod.mk.injEq] at H;obtain ⟨rfl,rfl,rfl⟩:=H
      go_enter Tryd.func46,Tryd.ntmps46
      go_wp2_with (first|((with_reducible refine gate_callee (f:=71) rfl ?_);refine goesL_ (some 13) rfl rfl Tryd.func71 (by kernel_rfl) rfl #[.string a0,.int .i64 a1] rfl qnc0_ ?_;(with_reducible refine (r_run.calls k a0 a1 t195 _ A3.out).mono ?_);rintro e w' ⟨rfl,⟨nd,rfl⟩⟩;refine ⟨_,rfl,?_⟩))
      go_ret3
      exact ⟨qnc1_,qnc4_⟩
     ·rw [if_neg c23] at H;have c23b0:((a0.extract (a1:Int).toNat (t195:Int).toNat).toList == ([]:List UInt8))=false:=bF_ c23;have c23b1:((a0.extract (a1:Int).toNat (t195:Int).toNat).toList != ([]:List UInt8))=true:=bne_iff_ne.mpr c23;simp only [Option.some.injEq,Prod.mk.injEq] at H;obtain ⟨rfl,rfl,rfl⟩:=H
      go_enter Tryd.func46,Tryd.ntmps46
      go_wp2_with (first|((with_reducible refine gate_callee (f:=71) rfl ?_);refine goesL_ (some 13) rfl rfl Tryd.func71 (by kernel_rfl) rfl #[.string a0,.int .i64 a1] rfl qnc0_ ?_;(with_reducible refine (r_run.calls k a0 a1 t195 _ A3.out).mono ?_);rintro e w' ⟨rfl,⟨nd,rfl⟩⟩;refine ⟨_,rfl,?_⟩))
      go_ret3
      exact ⟨qnc1_,qnc4_⟩
   ·rw [if_neg c6] at H;exact absurd H (by simp)
  ·rw [if_neg c5] at H;exact absurd H (by simp)
 ·rw [if_neg c4] at H;exact absurd H (by simp)

set_option maxHeartbeats 8000000
set_option maxRecDepth 100000

def r_zeros.l0:Nat→ByteArray→Int→Option (Int)
 | 0,_,_ => none
 | k+1,x0,x3 => if x3 < (x0.size:Int) then (if 0≤x3 then (if (bt x0 x3)=48 then (r_zeros.l0 k x0 (wrap64 (x3+1))) else (some x3)) else (none)) else (some x3)
def r_zeros.f (k:Nat) (a0:ByteArray):Option (Int):=r_zeros.l0 k a0 0
theorem r_zeros.calls (k : Nat) (a0 : ByteArray) (r : Int) (w : World) (h : r_zeros.f k a0 = some r) :
  Calls Tryd.prog 42 #[.string a0] w fun e w' => e=.returned (.int .i64 r)∧Drawn0 w w':=by
 have H:(r_zeros.l0 k a0 0)=some r:=h;clear h;have H':=M_ H;clear H
 go_enter Tryd.func42,Tryd.ntmps42
 go_wp2
 go_loopg [3] k (fun kq v3 w' => ∃ (x3_1:Int),v3=.int .i64 x3_1∧Aside0 (r_zeros.l0 kq a0 x3_1=some r)∧Aside0 (kq≤k)∧Drawn0 w w')
 case atStart => exact ⟨(0),qnc1_,H',⟨Nat.le_refl _⟩,qnc4_⟩
 case round =>
  clear H';obtain ⟨x3_1,rfl,HA,HK1,⟨m1,rfl⟩⟩:=hrel
  cases gk with
  | zero => exact absurd HA.out (by simp [r_zeros.l0])
  | succ k1 =>
   have H:=HA.out;clear HA;simp only [r_zeros.l0] at H
   by_cases c2:x3_1 < (a0.size:Int)
   ·rw [if_pos c2] at H;have c2b0:=dT_ c2;clear c2
    by_cases c3:0≤x3_1
    ·rw [if_pos c3] at H;have c3b0:=dT_ c3;clear c3
     by_cases c5:(bt a0 x3_1)=48
     ·rw [if_pos c5] at H;have c5b0:((bt a0 x3_1) == 48)=true:=beq_iff_eq.mpr c5;have c5b1:((bt a0 x3_1) != 48)=false:=nF_ c5;clear c5;have H':=M_ H;clear H;have p4:0≤(x3_1:Int):=oD_ qnc3_;have q4:x3_1 < (a0.size:Int):=oD_ qnc3_;have hx4:=bt_at a0 x3_1;replace p4:=eq_true p4;replace q4:=eq_true q4;go_wp2
      go_roundg k1
      case measure => have:=HK1.out;omega
      case rel => exact ⟨(wrap64 (x3_1+1)),qnc1_,H',⟨by have:=HK1.out;omega⟩,qnc4_⟩
     ·rw [if_neg c5] at H;have c5b0:((bt a0 x3_1) == 48)=false:=bF_ c5;have c5b1:((bt a0 x3_1) != 48)=true:=bne_iff_ne.mpr c5;obtain rfl:=Option.some.inj H;have p4:0≤(x3_1:Int):=oD_ qnc3_;have q4:x3_1 < (a0.size:Int):=oD_ qnc3_;have hx4:=bt_at a0 x3_1;replace p4:=eq_true p4;replace q4:=eq_true q4;go_wp2;go_ret;exact ⟨qnc1_,qnc4_⟩
    ·rw [if_neg c3] at H;exact absurd H (by simp)
   ·rw [if_neg c2] at H;have c2b0:=dF_ c2;clear c2;obtain rfl:=Option.some.inj H;go_wp2;go_ret;exact ⟨qnc1_,qnc4_⟩

end Go.Proofs.YtcdajedmlfhmeaaDoor.XN
