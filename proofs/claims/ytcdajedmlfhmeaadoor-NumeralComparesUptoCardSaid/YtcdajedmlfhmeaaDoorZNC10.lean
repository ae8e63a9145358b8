import Derived.Test.YtcdajedmlfhmeaaDoorZNC0
import Derived.Test.YtcdajedmlfhmeaaDoorZNC1
import Derived.Test.YtcdajedmlfhmeaaDoorZNC9
import Derived.Test.YtcdajedmlfhmeaaDoorZNC7
import Derived.Test.YtcdajedmlfhmeaaDoorZNC6
import Derived.Test.YtcdajedmlfhmeaaDoorZNC8
namespace Go.Proofs.YtcdajedmlfhmeaaDoor.XN
open Go.RowKit Go.Proofs.YtcdajedmlfhmeaaDoorW.PrintWords Go.Proofs.YtcdajedmlfhmeaaDoorW.PrintLast Go.Proofs.YtcdajedmlfhmeaaDoorW.PrintMore
attribute [local go_sem] max2_int min2_int max_two min_two max_three min_three max_four min_four
set_option linter.unusedVariables false
set_option linter.unusedSimpArgs false
set_option maxHeartbeats 8000000
set_option maxRecDepth 100000

def r_number.f (k:Nat) (a0:Int) (a1:ByteArray):Option (Bool × ByteArray × Int × Int):=(r_signed.f k a1).bind fun bt424 => ((r_Norm.f k bt424.1 bt424.2.1 bt424.2.2.1 bt424.2.2.2.1).bind fun bt430 => (if a0=64 then (if bt430.2.1.toList=([]:List UInt8) then (some (bt430.1,bt430.2.1,bt430.2.2.1,bt430.2.2.2)) else ((r_Human.f k a1).bind fun bt434 => (some (bt430.1,bt430.2.1,bt430.2.2.1,bt434.2.2.2.2)))) else (some (bt430.1,bt430.2.1,bt430.2.2.1,bt430.2.2.2))))
theorem r_number.calls (k : Nat) (a0 : Int) (a1 : ByteArray) (r1 : Bool) (r2 : ByteArray) (r3 : Int) (r4 : Int) (w : World) (h : r_number.f k a0 a1 = some (r1, r2, r3, r4)) :
  Calls Tryd.prog 57 #[.int .i64 a0,.string a1] w fun e w' => e=.returned (.agg #[.bool r1,.string r2,.int .i64 r3,.int .i64 r4])∧Below w.heap.size w w':=by
 have hu67:=Tryd.underlying67;have HB:=M_ (Below.refl w.heap.size w);have H:((r_signed.f k a1).bind fun bt424 => ((r_Norm.f k bt424.1 bt424.2.1 bt424.2.2.1 bt424.2.2.2.1).bind fun bt430 => (if a0=64 then (if bt430.2.1.toList=([]:List UInt8) then (some (bt430.1,bt430.2.1,bt430.2.2.1,bt430.2.2.2)) else ((r_Human.f k a1).bind fun bt434 => (some (bt430.1,bt430.2.1,bt430.2.2.1,bt434.2.2.2.2)))) else (some (bt430.1,bt430.2.1,bt430.2.2.1,bt430.2.2.2)))))=some (r1,r2,r3,r4):=h;clear h;obtain ⟨⟨t424,t425,t426,t427,t428⟩,A3,H⟩:=ob_ H;obtain ⟨⟨t430,t431,t432,t433⟩,A4,H⟩:=ob_ H
 by_cases c5:a0=64
 ·rw [if_pos c5] at H;have c5b0:(a0 == 64)=true:=beq_iff_eq.mpr c5;have c5b1:(a0 != 64)=false:=nF_ c5;clear c5
  by_cases c6:t431.toList=([]:List UInt8)
  ·rw [if_pos c6] at H;have c6b0:(t431.toList == ([]:List UInt8))=true:=beq_iff_eq.mpr c6;have c6b1:(t431.toList != ([]:List UInt8))=false:=nF_ c6;clear c6;simp only [Option.some.injEq,Prod.mk.injEq] at H;obtain ⟨rfl,rfl,rfl,rfl⟩:=H
   go_enter Tryd.func57,Tryd.ntmps57
   have tk15:=trivial;have tk16:=trivial;have tk17:=trivial;have tk18:=trivial
   go_wp2_with (first|(clear tk15;(with_reducible refine gate_dst (N:=4) rfl ?_);refine box_event ?hg (N:=4) ?hd (cs:=#[.bool false,.string ⟨#[]⟩,.int .i64 0,.int .i64 0]) (t:=67) ?hr ?_;(case hd => rfl);(case hg => rfl);(case hr => first|(go_simp;done)|(go_simp;rfl));intro gb423 hg w7 hbox hb;have n0_:=M_ (below_step qnc2_ hb);have n1_:=M_ (hbox);have n2_:=M_ ((by rw [hg];exact (below_size qnc2_):w.heap.size≤gb423));have n3_:=n2_;clear HB;have HB:=n0_;have BK423:=n1_;have GW423:=n2_;have GE423:=n3_;clear n0_ n1_ n2_ n3_;clear hb hbox hg)|(clear tk16;(with_reducible refine gate_callee (f:=41) rfl ?_);refine goesL_ (some 9) rfl rfl Tryd.func41 (by kernel_rfl) rfl #[.string a1] rfl qnc0_ ?_;(with_reducible refine (r_signed.calls k a1 t424 t425 t426 t427 t428 _ A3.out).mono ?_);rintro e w8 ⟨rfl,hb⟩;refine ⟨_,rfl,?_⟩;have n0_:=M_ (blk_below (g:=gb423) (o:=.cells #[.bool false,.string ⟨#[]⟩,.int .i64 0,.int .i64 0] 67 (0,0)) qnc52_ hb);have n1_:=M_ (below_step qnc36_ hb);clear BK423;clear HB;have BK423:=n0_;have HB:=n1_;clear n0_ n1_;(try clear hb))|(clear tk17;(with_reducible refine gate_dst (N:=5) rfl ?_);refine box_event ?hg (N:=5) ?hd (cs:=#[.bool false,.string ⟨#[]⟩,.int .i64 0,.int .i64 0]) (t:=67) ?hr ?_;(case hd => rfl);(case hg => rfl);(case hr => first|(go_simp;done)|(go_simp;rfl));intro gb429 hg w9 hbox hb;have n0_:=M_ (blk_below (g:=gb423) (o:=.cells #[.bool false,.string ⟨#[]⟩,.int .i64 0,.int .i64 0] 67 (0,0)) qnc52_ hb);have n1_:=M_ (below_step qnc36_ hb);have n2_:=M_ (hbox);have n3_:=M_ ((by rw [hg];exact (below_size qnc36_):w.heap.size≤gb429));have n4_:=n3_;have n5_:=M_ ((by rw [hg];exact Nat.ne_of_lt (blk_lt (g:=gb423) (o:=.cells #[.bool false,.string ⟨#[]⟩,.int .i64 0,.int .i64 0] 67 (0,0)) qnc52_):gb423 ≠ gb429));have n6_:=M_ ((by rw [hg];exact Nat.ne_of_gt (blk_lt (g:=gb423) (o:=.cells #[.bool false,.string ⟨#[]⟩,.int .i64 0,.int .i64 0] 67 (0,0)) qnc52_):gb429 ≠ gb423));clear BK423;clear HB;have BK423:=n0_;have HB:=n1_;have BK429:=n2_;have GW429:=n3_;have GE429:=n4_;have NB423_429:=n5_;have NB429_423:=n6_;clear n0_ n1_ n2_ n3_ n4_ n5_ n6_;clear hb hbox hg;have hnb10:=NB429_423.out;have hnc10:=NB423_429.out;have hcz11_0:=bc_ (.bool false) BK429.out 0 rfl;have hcz11_1:=bc_ (.string ⟨#[]⟩) BK429.out 1 rfl;have hcz11_2:=bc_ (.int .i64 0) BK429.out 2 rfl;have hcz11_3:=bc_ (.int .i64 0) BK429.out 3 rfl;have hfz11_0:=bf_ BK429.out 0;have hfz11_1:=bf_ BK429.out 1;have hfz11_2:=bf_ BK429.out 2;have hfz11_3:=bf_ BK429.out 3)|(clear tk18;(with_reducible refine gate_callee (f:=48) rfl ?_);refine goesL_ (some 13) rfl rfl Tryd.func48 (by kernel_rfl) rfl #[.agg #[.bool t424,.string t425,.int .i64 t426,.int .i64 t427]] rfl qnc0_ ?_;(with_reducible refine (r_Norm.calls k t424 t425 t426 t427 t430 t431 t432 t433 _ A4.out).mono ?_);rintro e w12 ⟨rfl,hb⟩;refine ⟨_,rfl,?_⟩;have n0_:=M_ (blk_below (g:=gb423) (o:=.cells #[.bool false,.string ⟨#[]⟩,.int .i64 0,.int .i64 0] 67 (0,0)) qnc30_ hb);have n1_:=M_ (blk_below (g:=gb429) (o:=.cells #[.bool t424,.string t425,.int .i64 t426,.int .i64 t427] 67 (0,0)) qnc29_ hb);have n2_:=M_ (below_step qnc39_ hb);clear BK423;clear BK429;clear HB;have BK423:=n0_;have BK429:=n1_;have HB:=n2_;clear n0_ n1_ n2_;(try clear hb);have hcz13_0:=bc_ (.bool t424) BK429.out 0 rfl;have hcz13_1:=bc_ (.string t425) BK429.out 1 rfl;have hcz13_2:=bc_ (.int .i64 t426) BK429.out 2 rfl;have hcz13_3:=bc_ (.int .i64 t427) BK429.out 3 rfl;have hfz13_0:=bf_ BK429.out 0;have hfz13_1:=bf_ BK429.out 1;have hfz13_2:=bf_ BK429.out 2;have hfz13_3:=bf_ BK429.out 3;have hcz14_0:=bc_ (.bool false) BK423.out 0 rfl;have hcz14_1:=bc_ (.string ⟨#[]⟩) BK423.out 1 rfl;have hcz14_2:=bc_ (.int .i64 0) BK423.out 2 rfl;have hcz14_3:=bc_ (.int .i64 0) BK423.out 3 rfl;have hfz14_0:=bf_ BK423.out 0;have hfz14_1:=bf_ BK423.out 1;have hfz14_2:=bf_ BK423.out 2;have hfz14_3:=bf_ BK423.out 3))
   refine bodyPost_ret (results_cell_row rfl _ _ gb423 67 #[.bool t430,.string t431,.int .i64 t432,.int .i64 t433] (0,0) _ rfl (by (with_reducible repeat first|apply bN_|apply bD_|apply bA_);refine blk_put (cs:=#[.bool t430,.string t431,.int .i64 t432,.int .i64 0]) ?_ 3 _ rfl;(with_reducible repeat first|apply bN_|apply bD_|apply bA_);refine blk_put (cs:=#[.bool t430,.string t431,.int .i64 0,.int .i64 0]) ?_ 2 _ rfl;(with_reducible repeat first|apply bN_|apply bD_|apply bA_);refine blk_put (cs:=#[.bool t430,.string ⟨#[]⟩,.int .i64 0,.int .i64 0]) ?_ 1 _ rfl;(with_reducible repeat first|apply bN_|apply bD_|apply bA_);refine blk_put (cs:=#[.bool false,.string ⟨#[]⟩,.int .i64 0,.int .i64 0]) ?_ 0 _ rfl;(with_reducible repeat first|apply bN_|apply bD_|apply bA_);refine blk_far ?_ NB423_429.out _;(with_reducible repeat first|apply bN_|apply bD_|apply bA_);refine blk_far ?_ NB423_429.out _;(with_reducible repeat first|apply bN_|apply bD_|apply bA_);refine blk_far ?_ NB423_429.out _;(with_reducible repeat first|apply bN_|apply bD_|apply bA_);refine blk_far ?_ NB423_429.out _;(with_reducible repeat first|apply bN_|apply bD_|apply bA_);exact BK423.out) Tryd.underlying67 rfl (by kernel_rfl)) rfl ?_;exact ⟨qnc5_,qnc39_⟩
  ·rw [if_neg c6] at H;have c6b0:(t431.toList == ([]:List UInt8))=false:=bF_ c6;have c6b1:(t431.toList != ([]:List UInt8))=true:=bne_iff_ne.mpr c6;obtain ⟨⟨t434,t435,t436,t437,t438⟩,A19,H⟩:=ob_ H;simp only [Option.some.injEq,Prod.mk.injEq] at H;obtain ⟨rfl,rfl,rfl,rfl⟩:=H
   go_enter Tryd.func57,Tryd.ntmps57
   have tk30:=trivial;have tk31:=trivial;have tk32:=trivial;have tk33:=trivial;have tk34:=trivial
   go_wp2_with (first|(clear tk30;(with_reducible refine gate_dst (N:=4) rfl ?_);refine box_event ?hg (N:=4) ?hd (cs:=#[.bool false,.string ⟨#[]⟩,.int .i64 0,.int .i64 0]) (t:=67) ?hr ?_;(case hd => rfl);(case hg => rfl);(case hr => first|(go_simp;done)|(go_simp;rfl));intro gb423 hg w20 hbox hb;have n0_:=M_ (below_step qnc2_ hb);have n1_:=M_ (hbox);have n2_:=M_ ((by rw [hg];exact (below_size qnc2_):w.heap.size≤gb423));have n3_:=n2_;clear HB;have HB:=n0_;have BK423:=n1_;have GW423:=n2_;have GE423:=n3_;clear n0_ n1_ n2_ n3_;clear hb hbox hg)|(clear tk31;(with_reducible refine gate_callee (f:=41) rfl ?_);refine goesL_ (some 9) rfl rfl Tryd.func41 (by kernel_rfl) rfl #[.string a1] rfl qnc0_ ?_;(with_reducible refine (r_signed.calls k a1 t424 t425 t426 t427 t428 _ A3.out).mono ?_);rintro e w21 ⟨rfl,hb⟩;refine ⟨_,rfl,?_⟩;have n0_:=M_ (blk_below (g:=gb423) (o:=.cells #[.bool false,.string ⟨#[]⟩,.int .i64 0,.int .i64 0] 67 (0,0)) qnc52_ hb);have n1_:=M_ (below_step qnc36_ hb);clear BK423;clear HB;have BK423:=n0_;have HB:=n1_;clear n0_ n1_;(try clear hb))|(clear tk32;(with_reducible refine gate_dst (N:=5) rfl ?_);refine box_event ?hg (N:=5) ?hd (cs:=#[.bool false,.string ⟨#[]⟩,.int .i64 0,.int .i64 0]) (t:=67) ?hr ?_;(case hd => rfl);(case hg => rfl);(case hr => first|(go_simp;done)|(go_simp;rfl));intro gb429 hg w22 hbox hb;have n0_:=M_ (blk_below (g:=gb423) (o:=.cells #[.bool false,.string ⟨#[]⟩,.int .i64 0,.int .i64 0] 67 (0,0)) qnc52_ hb);have n1_:=M_ (below_step qnc36_ hb);have n2_:=M_ (hbox);have n3_:=M_ ((by rw [hg];exact (below_size qnc36_):w.heap.size≤gb429));have n4_:=n3_;have n5_:=M_ ((by rw [hg];exact Nat.ne_of_lt (blk_lt (g:=gb423) (o:=.cells #[.bool false,.string ⟨#[]⟩,.int .i64 0,.int .i64 0] 67 (0,0)) qnc52_):gb423 ≠ gb429));have n6_:=M_ ((by rw [hg];exact Nat.ne_of_gt (blk_lt (g:=gb423) (o:=.cells #[.bool false,.string ⟨#[]⟩,.int .i64 0,.int .i64 0] 67 (0,0)) qnc52_):gb429 ≠ gb423));clear BK423;clear HB;have BK423:=n0_;have HB:=n1_;have BK429:=n2_;have GW429:=n3_;have GE429:=n4_;have NB423_429:=n5_;have NB429_423:=n6_;clear n0_ n1_ n2_ n3_ n4_ n5_ n6_;clear hb hbox hg;have hnb23:=NB429_423.out;have hnc23:=NB423_429.out;have hcz24_0:=bc_ (.bool false) BK429.out 0 rfl;have hcz24_1:=bc_ (.string ⟨#[]⟩) BK429.out 1 rfl;have hcz24_2:=bc_ (.int .i64 0) BK429.out 2 rfl;have hcz24_3:=bc_ (.int .i64 0) BK429.out 3 rfl;have hfz24_0:=bf_ BK429.out 0;have hfz24_1:=bf_ BK429.out 1;have hfz24_2:=bf_ BK429.out 2;have hfz24_3:=bf_ BK429.out 3)|(clear tk33;(with_reducible refine gate_callee (f:=48) rfl ?_);refine goesL_ (some 13) rfl rfl Tryd.func48 (by kernel_rfl) rfl #[.agg #[.bool t424,.string t425,.int .i64 t426,.int .i64 t427]] rfl qnc0_ ?_;(with_reducible refine (r_Norm.calls k t424 t425 t426 t427 t430 t431 t432 t433 _ A4.out).mono ?_);rintro e w25 ⟨rfl,hb⟩;refine ⟨_,rfl,?_⟩;have n0_:=M_ (blk_below (g:=gb423) (o:=.cells #[.bool false,.string ⟨#[]⟩,.int .i64 0,.int .i64 0] 67 (0,0)) qnc30_ hb);have n1_:=M_ (blk_below (g:=gb429) (o:=.cells #[.bool t424,.string t425,.int .i64 t426,.int .i64 t427] 67 (0,0)) qnc29_ hb);have n2_:=M_ (below_step qnc39_ hb);clear BK423;clear BK429;clear HB;have BK423:=n0_;have BK429:=n1_;have HB:=n2_;clear n0_ n1_ n2_;(try clear hb);have hcz26_0:=bc_ (.bool t424) BK429.out 0 rfl;have hcz26_1:=bc_ (.string t425) BK429.out 1 rfl;have hcz26_2:=bc_ (.int .i64 t426) BK429.out 2 rfl;have hcz26_3:=bc_ (.int .i64 t427) BK429.out 3 rfl;have hfz26_0:=bf_ BK429.out 0;have hfz26_1:=bf_ BK429.out 1;have hfz26_2:=bf_ BK429.out 2;have hfz26_3:=bf_ BK429.out 3)|(clear tk34;(with_reducible refine gate_callee (f:=21) rfl ?_);refine goesL_ (some 23) rfl rfl Tryd.func21 (by kernel_rfl) rfl #[.string a1] rfl qnc0_ ?_;(with_reducible refine (r_Human.calls k a1 t434 t435 t436 t437 t438 _ A19.out).mono ?_);rintro e w27 ⟨rfl,hb⟩;refine ⟨_,rfl,?_⟩;have n0_:=M_ (blk_below (g:=gb423) (o:=.cells #[.bool false,.string ⟨#[]⟩,.int .i64 0,.int .i64 0] 67 (0,0)) qnc30_ hb);have n1_:=M_ (blk_below (g:=gb429) (o:=.cells #[.bool t430,.string t431,.int .i64 t432,.int .i64 t433] 67 (0,0)) (by (with_reducible repeat first|apply bN_|apply bD_|apply bA_);refine blk_put (cs:=#[.bool t430,.string t431,.int .i64 t432,.int .i64 t427]) ?_ 3 _ rfl;(with_reducible repeat first|apply bN_|apply bD_|apply bA_);refine blk_put (cs:=#[.bool t430,.string t431,.int .i64 t426,.int .i64 t427]) ?_ 2 _ rfl;(with_reducible repeat first|apply bN_|apply bD_|apply bA_);refine blk_put (cs:=#[.bool t430,.string t425,.int .i64 t426,.int .i64 t427]) ?_ 1 _ rfl;(with_reducible repeat first|apply bN_|apply bD_|apply bA_);refine blk_put (cs:=#[.bool t424,.string t425,.int .i64 t426,.int .i64 t427]) ?_ 0 _ rfl;(with_reducible repeat first|apply bN_|apply bD_|apply bA_);exact BK429.out) hb);have n2_:=M_ (below_step qnc39_ hb);clear BK423;clear BK429;clear HB;have BK423:=n0_;have BK429:=n1_;have HB:=n2_;clear n0_ n1_ n2_;(try clear hb);have hcz28_0:=bc_ (.bool t430) BK429.out 0 rfl;have hcz28_1:=bc_ (.string t431) BK429.out 1 rfl;have hcz28_2:=bc_ (.int .i64 t432) BK429.out 2 rfl;have hcz28_3:=bc_ (.int .i64 t433) BK429.out 3 rfl;have hfz28_0:=bf_ BK429.out 0;have hfz28_1:=bf_ BK429.out 1;have hfz28_2:=bf_ BK429.out 2;have hfz28_3:=bf_ BK429.out 3;have hcz29_0:=bc_ (.bool false) BK423.out 0 rfl;have hcz29_1:=bc_ (.string ⟨#[]⟩) BK423.out 1 rfl;have hcz29_2:=bc_ (.int .i64 0) BK423.out 2 rfl;have hcz29_3:=bc_ (.int .i64 0) BK423.out 3 rfl;have hfz29_0:=bf_ BK423.out 0;have hfz29_1:=bf_ BK423.out 1;have hfz29_2:=bf_ BK423.out 2;have hfz29_3:=bf_ BK423.out 3))
   refine bodyPost_ret (results_cell_row rfl _ _ gb423 67 #[.bool t430,.string t431,.int .i64 t432,.int .i64 t438] (0,0) _ rfl (by (with_reducible repeat first|apply bN_|apply bD_|apply bA_);refine blk_put (cs:=#[.bool t430,.string t431,.int .i64 t432,.int .i64 0]) ?_ 3 _ rfl;(with_reducible repeat first|apply bN_|apply bD_|apply bA_);refine blk_put (cs:=#[.bool t430,.string t431,.int .i64 0,.int .i64 0]) ?_ 2 _ rfl;(with_reducible repeat first|apply bN_|apply bD_|apply bA_);refine blk_put (cs:=#[.bool t430,.string ⟨#[]⟩,.int .i64 0,.int .i64 0]) ?_ 1 _ rfl;(with_reducible repeat first|apply bN_|apply bD_|apply bA_);refine blk_put (cs:=#[.bool false,.string ⟨#[]⟩,.int .i64 0,.int .i64 0]) ?_ 0 _ rfl;(with_reducible repeat first|apply bN_|apply bD_|apply bA_);refine blk_far ?_ NB423_429.out _;(with_reducible repeat first|apply bN_|apply bD_|apply bA_);exact BK423.out) Tryd.underlying67 rfl (by kernel_rfl)) rfl ?_;exact ⟨qnc5_,qnc39_⟩
 ·rw [if_neg c5] at H;have c5b0:(a0 == 64)=false:=bF_ c5;have c5b1:(a0 != 64)=true:=bne_iff_ne.mpr c5;simp only [Option.some.injEq,Prod.mk.injEq] at H;obtain ⟨rfl,rfl,rfl,rfl⟩:=H
  go_enter Tryd.func57,Tryd.ntmps57
  have tk43:=trivial;have tk44:=trivial;have tk45:=trivial;have tk46:=trivial
  go_wp2_with (first|(clear tk43;(with_reducible refine gate_dst (N:=4) rfl ?_);refine box_event ?hg (N:=4) ?hd (cs:=#[.bool false,.string ⟨#[]⟩,.int .i64 0,.int .i64 0]) (t:=67) ?hr ?_;(case hd => rfl);(case hg => rfl);(case hr => first|(go_simp;done)|(go_simp;rfl));intro gb423 hg w35 hbox hb;have n0_:=M_ (below_step qnc2_ hb);have n1_:=M_ (hbox);have n2_:=M_ ((by rw [hg];exact (below_size qnc2_):w.heap.size≤gb423));have n3_:=n2_;clear HB;have HB:=n0_;have BK423:=n1_;have GW423:=n2_;have GE423:=n3_;clear n0_ n1_ n2_ n3_;clear hb hbox hg)|(clear tk44;(with_reducible refine gate_callee (f:=41) rfl ?_);refine goesL_ (some 9) rfl rfl Tryd.func41 (by kernel_rfl) rfl #[.string a1] rfl qnc0_ ?_;(with_reducible refine (r_signed.calls k a1 t424 t425 t426 t427 t428 _ A3.out).mono ?_);rintro e w36 ⟨rfl,hb⟩;refine ⟨_,rfl,?_⟩;have n0_:=M_ (blk_below (g:=gb423) (o:=.cells #[.bool false,.string ⟨#[]⟩,.int .i64 0,.int .i64 0] 67 (0,0)) qnc52_ hb);have n1_:=M_ (below_step qnc36_ hb);clear BK423;clear HB;have BK423:=n0_;have HB:=n1_;clear n0_ n1_;(try clear hb))|(clear tk45;(with_reducible refine gate_dst (N:=5) rfl ?_);refine box_event ?hg (N:=5) ?hd (cs:=#[.bool false,.string ⟨#[]⟩,.int .i64 0,.int .i64 0]) (t:=67) ?hr ?_;(case hd => rfl);(case hg => rfl);(case hr => first|(go_simp;done)|(go_simp;rfl));intro gb429 hg w37 hbox hb;have n0_:=M_ (blk_below (g:=gb423) (o:=.cells #[.bool false,.string ⟨#[]⟩,.int .i64 0,.int .i64 0] 67 (0,0)) qnc52_ hb);have n1_:=M_ (below_step qnc36_ hb);have n2_:=M_ (hbox);have n3_:=M_ ((by rw [hg];exact (below_size qnc36_):w.heap.size≤gb429));have n4_:=n3_;have n5_:=M_ ((by rw [hg];exact Nat.ne_of_lt (blk_lt (g:=gb423) (o:=.cells #[.bool false,.string ⟨#[]⟩,.int .i64 0,.int .i64 0] 67 (0,0)) qnc52_):gb423 ≠ gb429));have n6_:=M_ ((by rw [hg];exact Nat.ne_of_gt (blk_lt (g:=gb423) (o:=.cells #[.bool false,.string ⟨#[]⟩,.int .i64 0,.int .i64 0] 67 (0,0)) qnc52_):gb429 ≠ gb423));clear BK423;clear HB;have BK423:=n0_;have HB:=n1_;have BK429:=n2_;have GW429:=n3_;have GE429:=n4_;have NB423_429:=n5_;have NB429_423:=n6_;clear n0_ n1_ n2_ n3_ n4_ n5_ n6_;clear hb hbox hg;have hnb38:=NB429_423.out;have hnc38:=NB423_429.out;have hcz39_0:=bc_ (.bool false) BK429.out 0 rfl;have hcz39_1:=bc_ (.string ⟨#[]⟩) BK429.out 1 rfl;have hcz39_2:=bc_ (.int .i64 0) BK429.out 2 rfl;have hcz39_3:=bc_ (.int .i64 0) BK429.out 3 rfl;have hfz39_0:=bf_ BK429.out 0;have hfz39_1:=bf_ BK429.out 1;have hfz39_2:=bf_ BK429.out 2;have hfz39_3:=bf_ BK429.out 3)|(clear tk46;(with_reducible refine gate_callee (f:=48) rfl ?_);refine goesL_ (some 13) rfl rfl Tryd.func48 (by kernel_rfl) rfl #[.agg #[.bool t424,.string t425,.int .i64 t426,.int .i64 t427]] rfl qnc0_ ?_;(with_reducible refine (r_Norm.calls k t424 t425 t426 t427 t430 t431 t432 t433 _ A4.out).mono ?_);rintro e w40 ⟨rfl,hb⟩;refine ⟨_,rfl,?_⟩;have n0_:=M_ (blk_below (g:=gb423) (o:=.cells #[.bool false,.string ⟨#[]⟩,.int .i64 0,.int .i64 0] 67 (0,0)) qnc30_ hb);have n1_:=M_ (blk_below (g:=gb429) (o:=.cells #[.bool t424,.string t425,.int .i64 t426,.int .i64 t427] 67 (0,0)) qnc29_ hb);have n2_:=M_ (below_step qnc39_ hb);clear BK423;clear BK429;clear HB;have BK423:=n0_;have BK429:=n1_;have HB:=n2_;clear n0_ n1_ n2_;(try clear hb);have hcz41_0:=bc_ (.bool t424) BK429.out 0 rfl;have hcz41_1:=bc_ (.string t425) BK429.out 1 rfl;have hcz41_2:=bc_ (.int .i64 t426) BK429.out 2 rfl;have hcz41_3:=bc_ (.int .i64 t427) BK429.out 3 rfl;have hfz41_0:=bf_ BK429.out 0;have hfz41_1:=bf_ BK429.out 1;have hfz41_2:=bf_ BK429.out 2;have hfz41_3:=bf_ BK429.out 3;have hcz42_0:=bc_ (.bool false) BK423.out 0 rfl;have hcz42_1:=bc_ (.string ⟨#[]⟩) BK423.out 1 rfl;have hcz42_2:=bc_ (.int .i64 0) BK423.out 2 rfl;have hcz42_3:=bc_ (.int .i64 0) BK423.out 3 rfl;have hfz42_0:=bf_ BK423.out 0;have hfz42_1:=bf_ BK423.out 1;have hfz42_2:=bf_ BK423.out 2;have hfz42_3:=bf_ BK423.out 3))
  refine bodyPost_ret (results_cell_row rfl _ _ gb423 67 #[.bool t430,.string t431,.int .i64 t432,.int .i64 t433] (0,0) _ rfl (by (with_reducible repeat first|apply bN_|apply bD_|apply bA_);refine blk_put (cs:=#[.bool t430,.string t431,.int .i64 t432,.int .i64 0]) ?_ 3 _ rfl;(with_reducible repeat first|apply bN_|apply bD_|apply bA_);refine blk_put (cs:=#[.bool t430,.string t431,.int .i64 0,.int .i64 0]) ?_ 2 _ rfl;(with_reducible repeat first|apply bN_|apply bD_|apply bA_);refine blk_put (cs:=#[.bool t430,.string ⟨#[]⟩,.int .i64 0,.int .i64 0]) ?_ 1 _ rfl;(with_reducible repeat first|apply bN_|apply bD_|apply bA_);refine blk_put (cs:=#[.bool false,.string ⟨#[]⟩,.int .i64 0,.int .i64 0]) ?_ 0 _ rfl;(with_reducible repeat first|apply bN_|apply bD_|apply bA_);refine blk_far ?_ NB423_429.out _;(with_reducible repeat first|apply bN_|apply bD_|apply bA_);refine blk_far ?_ NB423_429.out _;(with_reducible repeat first|apply bN_|apply bD_|apply bA_);refine blk_far ?_ NB423_429.out _;(with_reducible repeat first|apply bN_|apply bD_|apply bA_);refine blk_far ?_ NB423_429.out _;(with_reducible repeat first|apply bN_|apply bD_|apply bA_);exact BK423.out) Tryd.underlying67 rfl (by kernel_rfl)) rfl ?_;exact ⟨qnc5_,qnc39_⟩

set_option maxHeartbeats 8000000
set_option maxRecDepth 100000

def r_general.f (a0_0:Int) (a0_1:Bool) (a0_2:ByteArray) (a0_3:Int) (a0_4:Int):Option (Bool × ByteArray × Int × Int):=some (a0_1,a0_2,a0_3,0)
theorem r_general.calls (a0_0 : Int) (a0_1 : Bool) (a0_2 : ByteArray) (a0_3 : Int) (a0_4 : Int) (r1 : Bool) (r2 : ByteArray) (r3 : Int) (r4 : Int) (w : World) (h : r_general.f a0_0 a0_1 a0_2 a0_3 a0_4 = some (r1, r2, r3, r4)) :
  Calls Tryd.prog 59 #[.agg #[.int .u8 a0_0,.bool a0_1,.string a0_2,.int .i64 a0_3,.int .i64 a0_4]] w fun e w' => e=.returned (.agg #[.bool r1,.string r2,.int .i64 r3,.int .i64 r4])∧Below w.heap.size w w':=by
 have hu29:=Tryd.underlying29;have hu67:=Tryd.underlying67;have HB:=M_ (Below.refl w.heap.size w);have H:(some (a0_1,a0_2,a0_3,0))=some (r1,r2,r3,r4):=h;clear h;simp only [Option.some.injEq,Prod.mk.injEq] at H;obtain ⟨rfl,rfl,rfl,rfl⟩:=H
 go_enter Tryd.func59,Tryd.ntmps59
 have tk7:=trivial;have tk8:=trivial
 go_wp2_with (first|(clear tk7;(with_reducible refine gate_dst (N:=1) rfl ?_);refine box_event ?hg (N:=1) ?hd (cs:=#[.int .u8 a0_0,.bool a0_1,.string a0_2,.int .i64 a0_3,.int .i64 a0_4]) (t:=29) ?hr ?_;(case hd => rfl);(case hg => rfl);(case hr => first|(go_simp;done)|(go_simp;rfl));intro gb439 hg w2 hbox hb;have n0_:=M_ (below_step qnc2_ hb);have n1_:=M_ (hbox);have n2_:=M_ ((by rw [hg];exact (below_size qnc2_):w.heap.size≤gb439));have n3_:=n2_;clear HB;have HB:=n0_;have BK439:=n1_;have GW439:=n2_;have GE439:=n3_;clear n0_ n1_ n2_ n3_;clear hb hbox hg)|(clear tk8;(with_reducible refine gate_dst (N:=2) rfl ?_);refine box_event ?hg (N:=2) ?hd (cs:=#[.bool false,.string ⟨#[]⟩,.int .i64 0,.int .i64 0]) (t:=67) ?hr ?_;(case hd => rfl);(case hg => rfl);(case hr => first|(go_simp;done)|(go_simp;rfl));intro gb440 hg w3 hbox hb;have n0_:=M_ (blk_below (g:=gb439) (o:=.cells #[.int .u8 a0_0,.bool a0_1,.string a0_2,.int .i64 a0_3,.int .i64 a0_4] 29 (0,0)) qnc97_ hb);have n1_:=M_ (below_step (by repeat (first|(with_reducible first|exact HB.out|apply below_alloc|apply pw_below_drewN|apply below_drew1|refine below_set ?_ GE439.out)|exact HB.out)) hb);have n2_:=M_ (hbox);have n3_:=M_ ((by rw [hg];exact (below_size (by repeat (first|(with_reducible first|exact HB.out|apply below_alloc|apply pw_below_drewN|apply below_drew1|refine below_set ?_ GE439.out)|exact HB.out))):w.heap.size≤gb440));have n4_:=n3_;have n5_:=M_ ((by rw [hg];exact Nat.ne_of_lt (blk_lt (g:=gb439) (o:=.cells #[.int .u8 a0_0,.bool a0_1,.string a0_2,.int .i64 a0_3,.int .i64 a0_4] 29 (0,0)) qnc97_):gb439 ≠ gb440));have n6_:=M_ ((by rw [hg];exact Nat.ne_of_gt (blk_lt (g:=gb439) (o:=.cells #[.int .u8 a0_0,.bool a0_1,.string a0_2,.int .i64 a0_3,.int .i64 a0_4] 29 (0,0)) qnc97_):gb440 ≠ gb439));clear BK439;clear HB;have BK439:=n0_;have HB:=n1_;have BK440:=n2_;have GW440:=n3_;have GE440:=n4_;have NB439_440:=n5_;have NB440_439:=n6_;clear n0_ n1_ n2_ n3_ n4_ n5_ n6_;clear hb hbox hg;have hnb4:=NB439_440.out;have hnc4:=NB440_439.out;have hcz5_0:=bc_ (.int .u8 a0_0) BK439.out 0 rfl;have hcz5_1:=bc_ (.bool a0_1) BK439.out 1 rfl;have hcz5_2:=bc_ (.string a0_2) BK439.out 2 rfl;have hcz5_3:=bc_ (.int .i64 a0_3) BK439.out 3 rfl;have hcz5_4:=bc_ (.int .i64 a0_4) BK439.out 4 rfl;have hfz5_0:=bf_ BK439.out 0;have hfz5_1:=bf_ BK439.out 1;have hfz5_2:=bf_ BK439.out 2;have hfz5_3:=bf_ BK439.out 3;have hfz5_4:=bf_ BK439.out 4;have hcz6_0:=bc_ (.bool false) BK440.out 0 rfl;have hcz6_1:=bc_ (.string ⟨#[]⟩) BK440.out 1 rfl;have hcz6_2:=bc_ (.int .i64 0) BK440.out 2 rfl;have hcz6_3:=bc_ (.int .i64 0) BK440.out 3 rfl;have hfz6_0:=bf_ BK440.out 0;have hfz6_1:=bf_ BK440.out 1;have hfz6_2:=bf_ BK440.out 2;have hfz6_3:=bf_ BK440.out 3))
 refine bodyPost_ret (results_cell_row rfl _ _ gb440 67 #[.bool a0_1,.string a0_2,.int .i64 a0_3,.int .i64 0] (0,0) _ rfl (by (with_reducible repeat first|apply bN_|apply bD_|apply bA_);refine blk_put (cs:=#[.bool a0_1,.string a0_2,.int .i64 a0_3,.int .i64 0]) ?_ 3 _ rfl;(with_reducible repeat first|apply bN_|apply bD_|apply bA_);refine blk_put (cs:=#[.bool a0_1,.string a0_2,.int .i64 0,.int .i64 0]) ?_ 2 _ rfl;(with_reducible repeat first|apply bN_|apply bD_|apply bA_);refine blk_put (cs:=#[.bool a0_1,.string ⟨#[]⟩,.int .i64 0,.int .i64 0]) ?_ 1 _ rfl;(with_reducible repeat first|apply bN_|apply bD_|apply bA_);refine blk_put (cs:=#[.bool false,.string ⟨#[]⟩,.int .i64 0,.int .i64 0]) ?_ 0 _ rfl;(with_reducible repeat first|apply bN_|apply bD_|apply bA_);exact BK440.out) Tryd.underlying67 rfl (by kernel_rfl)) rfl ?_;exact ⟨qnc5_,by repeat (first|(with_reducible first|exact HB.out|apply below_alloc|apply pw_below_drewN|apply below_drew1|refine below_set ?_ GE439.out|refine below_set ?_ GE440.out)|exact HB.out)⟩

set_option maxHeartbeats 8000000
set_option maxRecDepth 100000

mutual
def r_Pairs.l0:Nat→ByteArray→List (S101)→Int→Option ((List (S101)))
 | 0,_,_,_ => none
 | k+1,x0,x3,x4 => if x4 < (x0.size:Int) then (r_Pairs.l1 k x0 x3 x4 x4) else (if x3.length < 4398046511104 then (some (x3 ++ [(⟨(⟨#[]⟩:ByteArray),(⟨#[]⟩:ByteArray)⟩:S101)])) else (none))
def r_Pairs.l1:Nat→ByteArray→List (S101)→Int→Int→Option ((List (S101)))
 | 0,_,_,_,_ => none
 | k+1,x0,x3,x4,x5 => if x5 < (x0.size:Int) then (if 0≤x5 then ((r_isDigit.f (bt x0 x5)).bind fun t444 => (if t444=true then ((r_run.f k x0 x5).bind fun t445 => (if 0≤x4 then (if x4≤x5 then (if x5≤(x0.size:Int) then (if x5≤t445 then (if t445≤(x0.size:Int) then (if x3.length < 4398046511104 then (r_Pairs.l0 k x0 (x3 ++ [(⟨x0.extract (x4:Int).toNat (x5:Int).toNat,x0.extract (x5:Int).toNat (t445:Int).toNat⟩:S101)]) t445) else (none)) else (none)) else (none)) else (none)) else (none)) else (none))) else (r_Pairs.l1 k x0 x3 x4 (wrap64 (x5+1))))) else (none)) else ((r_run.f k x0 x5).bind fun t449 => (if 0≤x4 then (if x4≤x5 then (if x5≤(x0.size:Int) then (if 0≤x5 then (if x5≤t449 then (if t449≤(x0.size:Int) then (if x3.length < 4398046511104 then (r_Pairs.l0 k x0 (x3 ++ [(⟨x0.extract (x4:Int).toNat (x5:Int).toNat,x0.extract (x5:Int).toNat (t449:Int).toNat⟩:S101)]) t449) else (none)) else (none)) else (none)) else (none)) else (none)) else (none)) else (none)))
end
def r_Pairs.f (k:Nat) (a0:ByteArray):Option ((List (S101))):=r_Pairs.l0 k a0 ([]:List (S101)) 0
def r_Pairs.T8:Bool × List (List Nat × List Nat):=(true,[([],[]),([],[]),([],[]),([],[]),([1,2,3],[1,2,3]),([],[]),([],[]),([],[]),([5,6,7],[5,6,7]),([4,8],[4,8]),([9],[9]),([0,10],[0,10]),([11,11,0,1,2,3,4,5,6,7,8,9,10,11],[0,11])])
def r_Pairs.B8:List Nat:=[0,0,0,0,14,0,0,0,224,510,1022,2047,4095]
theorem r_Pairs.tab8 : rtab .any (opsOf Tryd.f81 8) = r_Pairs.T8 := by kernel_rfl
theorem r_Pairs.bits8 : waitsOk r_Pairs.T8.2 r_Pairs.B8 = true := by kernel_rfl
theorem r_Pairs.calls (k : Nat) (a0 : ByteArray) (r : List (S101)) (w : World) (h : r_Pairs.f k a0 = some r) :
  Calls Tryd.prog 81 #[.string a0] w fun e w' => ∃ v0_:Value,e=.returned (v0_)∧Kd.R k101 101 w' w.heap.size (fun _ => True) v0_ r∧Below w.heap.size w w':=by
 have hu101:=Tryd.underlying101;have HB:=M_ (Below.refl w.heap.size w);have H:(r_Pairs.l0 k a0 ([]:List (S101)) 0)=some r:=h;clear h;have H':=M_ H;clear H
 go_enter Tryd.func81,Tryd.ntmps81
 go_wp2
 go_loopg [3,4] k (fun kq v3 v4 w' => ∃ (x3_1:List (S101)) (x4_1:Int),v4=.int .i64 x4_1∧Aside0 (r_Pairs.l0 kq a0 x3_1 x4_1=some r)∧Aside0 (kq≤k)∧Aside0 (Kd.R k101 101 w' w.heap.size (fun _ => True) v3 x3_1)∧Aside0 (Below w.heap.size w w'))
 case atStart => exact ⟨(([]:List (S101))),(0),qnc1_,H',⟨Nat.le_refl _⟩,⟨by first|exact Kd.R_nil _ _ _ _ _|exact Kd.N_nil _ _ _ _ _|exact Kd.V_nil _ _ _ _ _|exact Kd.Q_nil _ _ _ _ _|exact Kd.S_nil _ _ _ _ _⟩,⟨qnc2_⟩⟩
 case round =>
  clear H';obtain ⟨x3_1,x4_1,rfl,HA,HK1,HO_3,HB⟩:=hrel
  cases gk with
  | zero => exact absurd HA.out (by simp [r_Pairs.l0])
  | succ k1 =>
   have H:=HA.out;clear HA;simp only [r_Pairs.l0] at H
   by_cases c2:x4_1 < (a0.size:Int)
   ·rw [if_pos c2] at H;have c2b0:=dT_ c2;clear c2;have H':=M_ H;clear H;go_wp2
    go_loopg [5] k1 (fun kq v5 w' => ∃ (x5_2:Int),v5=.int .i64 x5_2∧Aside0 (r_Pairs.l1 kq a0 x3_1 x4_1 x5_2=some r)∧Aside0 (kq≤k1)∧Aside0 (Kd.R k101 101 w' w.heap.size (fun _ => True) u3 x3_1)∧Aside0 (Below w.heap.size w w'))
    case atStart => exact ⟨(x4_1),qnc1_,H',⟨Nat.le_refl _⟩,⟨qnc68_⟩,⟨qnc2_⟩⟩
    case round =>
     clear H'
     (try clear c2);(try clear c2b0)
     obtain ⟨x5_2,rfl,HA,HK2,HO_3,HB⟩:=hrel
     cases gk with
     | zero => exact absurd HA.out (by simp [r_Pairs.l1])
     | succ k2 =>
      have H:=HA.out;clear HA;simp only [r_Pairs.l1] at H
      by_cases c3:x5_2 < (a0.size:Int)
      ·rw [if_pos c3] at H;have c3b0:=dT_ c3;clear c3
       by_cases c4:0≤x5_2
       ·rw [if_pos c4] at H;have c4b0:=dT_ c4;clear c4;obtain ⟨t444,A6,H⟩:=ob_ H
        by_cases c7:t444=true
        ·subst c7;rw [if_pos rfl] at H;obtain ⟨t445,A8,H⟩:=ob_ H
         by_cases c9:0≤x4_1
         ·rw [if_pos c9] at H;have c9b0:=eq_true c9;have c9b1:=dT_ c9;clear c9
          by_cases c10:x4_1≤x5_2
          ·rw [if_pos c10] at H;have c10b0:=eq_true c10;have c10b1:=dT_ c10;clear c10
           by_cases c11:x5_2≤(a0.size:Int)
           ·rw [if_pos c11] at H;have c11b0:=eq_true c11;have c11b1:=dT_ c11;clear c11;have c12b0:=eq_true (oD_ qnc3_:0≤x5_2)
            by_cases c13:x5_2≤t445
            ·rw [if_pos c13] at H;have c13b0:=eq_true c13;have c13b1:=dT_ c13;clear c13
             by_cases c14:t445≤(a0.size:Int)
             ·rw [if_pos c14] at H;have c14b0:=eq_true c14;have c14b1:=dT_ c14;clear c14
              by_cases c15:x3_1.length < 4398046511104
              ·rw [if_pos c15] at H;have LMc15:=M_ c15;clear c15;obtain ⟨y446,hy446⟩ : ∃ y_:List (S101),y_=(x3_1 ++ [(⟨a0.extract (x4_1:Int).toNat (x5_2:Int).toNat,a0.extract (x5_2:Int).toNat (t445:Int).toNat⟩:S101)]):=⟨_,rfl⟩;replace H:(r_Pairs.l0 k2 a0 y446 t445)=some r:=by first|(rw [hy446];with_reducible exact H)|(have H2_:=(Option.bind_some _ _).symm.trans H;rw [hy446];with_reducible exact H2_)|(have H2_:=(Option.bind_some _ _).symm.trans H;with_reducible exact H2_)|with_reducible exact H|(rw [hy446];exact H)|exact H
               have Ny446:=M_ hy446;clear hy446;have H':=M_ H;clear H;have p5:0≤(x5_2:Int):=oD_ qnc3_;have q5:x5_2 < (a0.size:Int):=oD_ qnc3_;have hx5:=bt_at a0 x5_2;replace p5:=eq_true p5;replace q5:=eq_true q5;have tk18:=trivial;have tk19:=trivial
               try go_wp2_with (first|(clear tk18;go_at_call 96;(with_reducible refine (r_isDigit.calls (bt a0 x5_2) true _ A6.out).mono ?_);rintro e w' ⟨rfl,⟨nd,rfl⟩⟩)|(clear tk19;(with_reducible refine gate_callee (f:=71) rfl ?_);refine goesL_ (some 27) rfl rfl Tryd.func71 (by kernel_rfl) rfl #[.string a0,.int .i64 x5_2] rfl qnc0_ ?_;(with_reducible refine (r_run.calls k2 a0 x5_2 t445 _ A8.out).mono ?_);rintro e w' ⟨rfl,⟨nd,rfl⟩⟩;refine ⟨_,rfl,?_⟩))
               (try (rw [drewN_self wr];generalize hq_:World.drewN wr _=wr;have n0_:Aside0 (Kd.R k101 101 wr w.heap.size (fun _ => True) u3 x3_1):=⟨by rw [← hq_];exact qnc68_⟩;have n1_:Aside0 (Below w.heap.size w wr):=⟨by rw [← hq_];exact qnc2_⟩;clear HO_3 HB hq_;have HO_3:=n0_;have HB:=n1_;clear n0_ n1_))
               have n0_:=M_ (Kd.R_drew HO_3.out);have n1_:=M_ (below_drew1 HB.out);clear HO_3;clear HB;have HO_3:=n0_;have HB:=n1_;clear n0_ n1_;refine start_ (n:=13) (S:=fun w' => True) (ds:=[]) #[false,false,false,false,false,false,false,false,false,false,false,false,false] (by kernel_rfl) rfl rfl trivial (fun hHeld => ?_);refine with_tabW r_Pairs.tab8 r_Pairs.bits8 (fun HT_ HW_ => ?_)
               generalize wr.drew=w16 at HO_3 HB hHeld ⊢
               refine pure_ (i:=0) (N:=some 28) (v:=?_) (a':=?_) #[true,false,false,false,false,false,false,false,false,false,false,false,false] rfl rfl (any_of HT_.out (by kernel_rfl)) (fun _ _ _ h => h) (Or.inl ⟨by rfl,?_⟩) ?_ ?_
               rotate_left
               ·intro w'
                go_simp
                with_reducible rfl
               rotate_left
               ·simp only [Act.put,sA_,sZ_,sS_,i64_w,i32_w]
                rfl
               refine pure_ (i:=1) (N:=some 29) (v:=?_) (a':=?_) #[true,true,false,false,false,false,false,false,false,false,false,false,false] rfl rfl (any_of HT_.out (by kernel_rfl)) (fun _ _ _ h => h) (Or.inl ⟨by rfl,?_⟩) ?_ ?_
               rotate_left
               ·intro w'
                go_simp
                with_reducible rfl
               rotate_left
               ·simp only [Act.put,sA_,sZ_,sS_,i64_w,i32_w]
                rfl
               refine pure_ (i:=2) (N:=some 30) (v:=?_) (a':=?_) #[true,true,true,false,false,false,false,false,false,false,false,false,false] rfl rfl (any_of HT_.out (by kernel_rfl)) (fun _ _ _ h => h) (Or.inl ⟨by rfl,?_⟩) ?_ ?_
               rotate_left
               ·intro w'
                go_simp
                with_reducible rfl
               rotate_left
               ·simp only [Act.put,sA_,sZ_,sS_,i64_w,i32_w]
                rfl
               refine pure_ (i:=3) (N:=some 31) (v:=?_) (a':=?_) #[true,true,true,true,false,false,false,false,false,false,false,false,false] rfl rfl (any_of HT_.out (by kernel_rfl)) (fun _ _ _ h => h) (Or.inl ⟨by rfl,?_⟩) ?_ ?_
               rotate_left
               ·intro w'
                go_simp
                with_reducible rfl
               rotate_left
               ·simp only [Act.put,sA_,sZ_,sS_,i64_w,i32_w]
                rfl
               refine pure_ (i:=4) (N:=some 32) (v:=?_) (a':=?_) #[true,true,true,true,true,false,false,false,false,false,false,false,false] rfl rfl (any_of HT_.out (by kernel_rfl)) (fun _ _ _ h => h) (Or.inl ⟨by rfl,?_⟩) ?_ ?_
               rotate_left
               ·intro w'
                go_simp
                with_reducible rfl
               rotate_left
               ·simp only [Act.put,sA_,sZ_,sS_,i64_w,i32_w]
                rfl
               refine pure_ (i:=5) (N:=some 33) (v:=?_) (a':=?_) #[true,true,true,true,true,true,false,false,false,false,false,false,false] rfl rfl (any_of HT_.out (by kernel_rfl)) (fun _ _ _ h => h) (Or.inl ⟨by rfl,?_⟩) ?_ ?_
               rotate_left
               ·intro w'
                go_simp
                with_reducible rfl
               rotate_left
               ·simp only [Act.put,sA_,sZ_,sS_,i64_w,i32_w]
                rfl
               refine pure_ (i:=6) (N:=some 34) (v:=?_) (a':=?_) #[true,true,true,true,true,true,true,false,false,false,false,false,false] rfl rfl (any_of HT_.out (by kernel_rfl)) (fun _ _ _ h => h) (Or.inl ⟨by rfl,?_⟩) ?_ ?_
               rotate_left
               ·intro w'
                go_simp
                with_reducible rfl
               rotate_left
               ·simp only [Act.put,sA_,sZ_,sS_,i64_w,i32_w]
                rfl
               refine pure_ (i:=7) (N:=some 35) (v:=?_) (a':=?_) #[true,true,true,true,true,true,true,true,false,false,false,false,false] rfl rfl (any_of HT_.out (by kernel_rfl)) (fun _ _ _ h => h) (Or.inl ⟨by rfl,?_⟩) ?_ ?_
               rotate_left
               ·intro w'
                go_simp
                with_reducible rfl
               rotate_left
               ·simp only [Act.put,sA_,sZ_,sS_,i64_w,i32_w]
                rfl
               refine pure_ (i:=8) (N:=some 36) (v:=?_) (a':=?_) #[true,true,true,true,true,true,true,true,true,false,false,false,false] rfl rfl (any_of HT_.out (by kernel_rfl)) (fun _ _ _ h => h) (Or.inl ⟨by rfl,?_⟩) ?_ ?_
               rotate_left
               ·intro w'
                go_simp
                with_reducible rfl
               rotate_left
               ·simp only [Act.put,sA_,sZ_,sS_,i64_w,i32_w]
                rfl
               refine pure_ (i:=9) (N:=some 37) (v:=?_) (a':=?_) #[true,true,true,true,true,true,true,true,true,true,false,false,false] rfl rfl (any_of HT_.out (by kernel_rfl)) (fun _ _ _ h => h) (Or.inl ⟨by rfl,?_⟩) ?_ ?_
               rotate_left
               ·intro w'
                go_simp
                with_reducible rfl
               rotate_left
               ·simp only [Act.put,sA_,sZ_,sS_,i64_w,i32_w]
                rfl
               refine one_ (i:=10) (N:=some 38) #[true,true,true,true,true,true,true,true,true,true,true,false,false] rfl rfl (one_of HT_.out (by kernel_rfl)) (by decide) (fun K hK => ?_);refine value_ (w1:=?_) (v:=?_) (by rfl) rfl ?_ ?_
               rotate_left 2
               ·go_simp
                constructor
                ·rfl
                ·rfl
               refine hK.out _ _ trivial (fun hHeld => ?_);clear hK K;refine norm_ (a':=?_) ?_ ?_
               rotate_left
               ·show Act.put _ (some 38) _=_
                simp only [Act.put,sA_,sZ_,sS_,i64_w,i32_w]
                rfl
               refine one_ (i:=11) (N:=some 39) #[true,true,true,true,true,true,true,true,true,true,true,true,false] rfl rfl (one_of HT_.out (by kernel_rfl)) (by decide) (fun K hK => ?_);refine Kd.R_append_step k101 (w0:=w) w.heap.size (by rfl) (.tmp 28) (.tmp 38) 98 101 (.agg #[(.string ⟨#[]⟩),(.string ⟨#[]⟩)]) 32 rfl Tryd.underlying98 info101 rfl (by decide) (by omega) u3 x3_1 (⟨a0.extract (x4_1:Int).toNat (x5_2:Int).toNat,a0.extract (x5_2:Int).toNat (t445:Int).toNat⟩:S101) [.string (a0.extract (x4_1:Int).toNat (x5_2:Int).toNat),.string (a0.extract (x5_2:Int).toNat (t445:Int).toNat)] (fun _ => True) (fun _ => False) rfl rfl ?aP (fun _ hk => hk.elim) ?aF ?aO ?aB ?aS ?aL ?_
               (case aP => exact k101_mkM _ _ _ (⟨a0.extract (x4_1:Int).toNat (x5_2:Int).toNat,a0.extract (x5_2:Int).toNat (t445:Int).toNat⟩:S101))
               (case aB => exact qnc2_)
               (case aF => exact (fun _ _ => trivial))
               (case aO => exact qnc68_)
               (case aS => exact (below_size qnc2_))
               (case aL => have:=LMc15.out;omega)
               intro v447 w17 ho hb hg hat
               rw [← Ny446.out] at ho;have n0_:=M_ (hb);have n1_:=M_ (ho);clear HB;clear HO_3;have HB:=n0_;have HO448:=n1_;clear n0_ n1_;clear ho hb hg hat;refine hK.out _ _ trivial (fun hHeld => ?_);clear hK K;refine norm_ (a':=?_) ?_ ?_
               rotate_left
               ·show Act.put _ (some 39) _=_
                simp only [Act.put,sA_,sZ_,sS_,i64_w,i32_w]
                rfl
               refine pure_ (i:=12) (N:=some 3) (v:=?_) (a':=?_) #[true,true,true,true,true,true,true,true,true,true,true,true,true] rfl rfl (any_of HT_.out (by kernel_rfl)) (fun _ _ _ h => h) (Or.inl ⟨by rfl,?_⟩) ?_ ?_
               rotate_left
               ·intro w'
                go_simp
                with_reducible rfl
               rotate_left
               ·simp only [Act.put,sA_,sZ_,sS_,i64_w,i32_w]
                rfl
               refine done_ (done_of HT_.out (by kernel_rfl)) ?_
               try go_wp2
               go_roundg k2
               case measure => have:=HK1.out;have:=HK2.out;omega
               case rel => exact ⟨(y446),(t445),qnc1_,H',⟨by have:=HK1.out;have:=HK2.out;omega⟩,⟨by (with_reducible repeat (first|apply Kd.R_alloc|apply Kd.R_drewN|apply Kd.R_drew));exact HO448.out⟩,⟨qnc2_⟩⟩
              ·rw [if_neg c15] at H;exact absurd H (by simp)
             ·rw [if_neg c14] at H;exact absurd H (by simp)
            ·rw [if_neg c13] at H;exact absurd H (by simp)
           ·rw [if_neg c11] at H;exact absurd H (by simp)
          ·rw [if_neg c10] at H;exact absurd H (by simp)
         ·rw [if_neg c9] at H;exact absurd H (by simp)
        ·replace c7:=Bool.eq_false_iff.mpr c7;subst c7;rw [if_neg (show ¬ (false=true) by decide)] at H;have H':=M_ H;clear H;have p5:0≤(x5_2:Int):=oD_ qnc3_;have q5:x5_2 < (a0.size:Int):=oD_ qnc3_;have hx5:=bt_at a0 x5_2;replace p5:=eq_true p5;replace q5:=eq_true q5
         go_wp2_with (first|(go_at_call 96;(with_reducible refine (r_isDigit.calls (bt a0 x5_2) false _ A6.out).mono ?_);rintro e w' ⟨rfl,⟨nd,rfl⟩⟩))
         go_roundg k2
         case measure => have:=HK1.out;have:=HK2.out;omega
         case rel => exact ⟨(wrap64 (x5_2+1)),qnc1_,H',⟨by have:=HK1.out;have:=HK2.out;omega⟩,⟨qnc68_⟩,⟨qnc2_⟩⟩
       ·rw [if_neg c4] at H;exact absurd H (by simp)
      ·rw [if_neg c3] at H;have c3b0:=dF_ c3;clear c3;obtain ⟨t449,A20,H⟩:=ob_ H
       by_cases c21:0≤x4_1
       ·rw [if_pos c21] at H;have c21b0:=eq_true c21;have c21b1:=dT_ c21;clear c21
        by_cases c22:x4_1≤x5_2
        ·rw [if_pos c22] at H;have c22b0:=eq_true c22;have c22b1:=dT_ c22;clear c22
         by_cases c23:x5_2≤(a0.size:Int)
         ·rw [if_pos c23] at H;have c23b0:=eq_true c23;have c23b1:=dT_ c23;clear c23
          by_cases c24:0≤x5_2
          ·rw [if_pos c24] at H;have c24b0:=eq_true c24;have c24b1:=dT_ c24;clear c24
           by_cases c25:x5_2≤t449
           ·rw [if_pos c25] at H;have c25b0:=eq_true c25;have c25b1:=dT_ c25;clear c25
            by_cases c26:t449≤(a0.size:Int)
            ·rw [if_pos c26] at H;have c26b0:=eq_true c26;have c26b1:=dT_ c26;clear c26
             by_cases c27:x3_1.length < 4398046511104
             ·rw [if_pos c27] at H;have LMc27:=M_ c27;clear c27;obtain ⟨y450,hy450⟩ : ∃ y_:List (S101),y_=(x3_1 ++ [(⟨a0.extract (x4_1:Int).toNat (x5_2:Int).toNat,a0.extract (x5_2:Int).toNat (t449:Int).toNat⟩:S101)]):=⟨_,rfl⟩;replace H:(r_Pairs.l0 k2 a0 y450 t449)=some r:=by first|(rw [hy450];with_reducible exact H)|(have H2_:=(Option.bind_some _ _).symm.trans H;rw [hy450];with_reducible exact H2_)|(have H2_:=(Option.bind_some _ _).symm.trans H;with_reducible exact H2_)|with_reducible exact H|(rw [hy450];exact H)|exact H
              have Ny450:=M_ hy450;clear hy450;have H':=M_ H;clear H
              try go_wp2_with (first|((with_reducible refine gate_callee (f:=71) rfl ?_);refine goesL_ (some 27) rfl rfl Tryd.func71 (by kernel_rfl) rfl #[.string a0,.int .i64 x5_2] rfl qnc0_ ?_;(with_reducible refine (r_run.calls k2 a0 x5_2 t449 _ A20.out).mono ?_);rintro e w' ⟨rfl,⟨nd,rfl⟩⟩;refine ⟨_,rfl,?_⟩))
              (try (rw [drewN_self wr];generalize hq_:World.drewN wr _=wr;have n0_:Aside0 (Kd.R k101 101 wr w.heap.size (fun _ => True) u3 x3_1):=⟨by rw [← hq_];exact qnc68_⟩;have n1_:Aside0 (Below w.heap.size w wr):=⟨by rw [← hq_];exact qnc2_⟩;clear HO_3 HB hq_;have HO_3:=n0_;have HB:=n1_;clear n0_ n1_))
              have n0_:=M_ (Kd.R_drew HO_3.out);have n1_:=M_ (below_drew1 HB.out);clear HO_3;clear HB;have HO_3:=n0_;have HB:=n1_;clear n0_ n1_;refine start_ (n:=13) (S:=fun w' => True) (ds:=[]) #[false,false,false,false,false,false,false,false,false,false,false,false,false] (by kernel_rfl) rfl rfl trivial (fun hHeld => ?_);refine with_tabW r_Pairs.tab8 r_Pairs.bits8 (fun HT_ HW_ => ?_)
              generalize wr.drew=w28 at HO_3 HB hHeld ⊢
              refine pure_ (i:=0) (N:=some 28) (v:=?_) (a':=?_) #[true,false,false,false,false,false,false,false,false,false,false,false,false] rfl rfl (any_of HT_.out (by kernel_rfl)) (fun _ _ _ h => h) (Or.inl ⟨by rfl,?_⟩) ?_ ?_
              rotate_left
              ·intro w'
               go_simp
               with_reducible rfl
              rotate_left
              ·simp only [Act.put,sA_,sZ_,sS_,i64_w,i32_w]
               rfl
              refine pure_ (i:=1) (N:=some 29) (v:=?_) (a':=?_) #[true,true,false,false,false,false,false,false,false,false,false,false,false] rfl rfl (any_of HT_.out (by kernel_rfl)) (fun _ _ _ h => h) (Or.inl ⟨by rfl,?_⟩) ?_ ?_
              rotate_left
              ·intro w'
               go_simp
               with_reducible rfl
              rotate_left
              ·simp only [Act.put,sA_,sZ_,sS_,i64_w,i32_w]
               rfl
              refine pure_ (i:=2) (N:=some 30) (v:=?_) (a':=?_) #[true,true,true,false,false,false,false,false,false,false,false,false,false] rfl rfl (any_of HT_.out (by kernel_rfl)) (fun _ _ _ h => h) (Or.inl ⟨by rfl,?_⟩) ?_ ?_
              rotate_left
              ·intro w'
               go_simp
               with_reducible rfl
              rotate_left
              ·simp only [Act.put,sA_,sZ_,sS_,i64_w,i32_w]
               rfl
              refine pure_ (i:=3) (N:=some 31) (v:=?_) (a':=?_) #[true,true,true,true,false,false,false,false,false,false,false,false,false] rfl rfl (any_of HT_.out (by kernel_rfl)) (fun _ _ _ h => h) (Or.inl ⟨by rfl,?_⟩) ?_ ?_
              rotate_left
              ·intro w'
               go_simp
               with_reducible rfl
              rotate_left
              ·simp only [Act.put,sA_,sZ_,sS_,i64_w,i32_w]
               rfl
              refine pure_ (i:=4) (N:=some 32) (v:=?_) (a':=?_) #[true,true,true,true,true,false,false,false,false,false,false,false,false] rfl rfl (any_of HT_.out (by kernel_rfl)) (fun _ _ _ h => h) (Or.inl ⟨by rfl,?_⟩) ?_ ?_
              rotate_left
              ·intro w'
               go_simp
               with_reducible rfl
              rotate_left
              ·simp only [Act.put,sA_,sZ_,sS_,i64_w,i32_w]
               rfl
              refine pure_ (i:=5) (N:=some 33) (v:=?_) (a':=?_) #[true,true,true,true,true,true,false,false,false,false,false,false,false] rfl rfl (any_of HT_.out (by kernel_rfl)) (fun _ _ _ h => h) (Or.inl ⟨by rfl,?_⟩) ?_ ?_
              rotate_left
              ·intro w'
               go_simp
               with_reducible rfl
              rotate_left
              ·simp only [Act.put,sA_,sZ_,sS_,i64_w,i32_w]
               rfl
              refine pure_ (i:=6) (N:=some 34) (v:=?_) (a':=?_) #[true,true,true,true,true,true,true,false,false,false,false,false,false] rfl rfl (any_of HT_.out (by kernel_rfl)) (fun _ _ _ h => h) (Or.inl ⟨by rfl,?_⟩) ?_ ?_
              rotate_left
              ·intro w'
               go_simp
               with_reducible rfl
              rotate_left
              ·simp only [Act.put,sA_,sZ_,sS_,i64_w,i32_w]
               rfl
              refine pure_ (i:=7) (N:=some 35) (v:=?_) (a':=?_) #[true,true,true,true,true,true,true,true,false,false,false,false,false] rfl rfl (any_of HT_.out (by kernel_rfl)) (fun _ _ _ h => h) (Or.inl ⟨by rfl,?_⟩) ?_ ?_
              rotate_left
              ·intro w'
               go_simp
               with_reducible rfl
              rotate_left
              ·simp only [Act.put,sA_,sZ_,sS_,i64_w,i32_w]
               rfl
              refine pure_ (i:=8) (N:=some 36) (v:=?_) (a':=?_) #[true,true,true,true,true,true,true,true,true,false,false,false,false] rfl rfl (any_of HT_.out (by kernel_rfl)) (fun _ _ _ h => h) (Or.inl ⟨by rfl,?_⟩) ?_ ?_
              rotate_left
              ·intro w'
               go_simp
               with_reducible rfl
              rotate_left
              ·simp only [Act.put,sA_,sZ_,sS_,i64_w,i32_w]
               rfl
              refine pure_ (i:=9) (N:=some 37) (v:=?_) (a':=?_) #[true,true,true,true,true,true,true,true,true,true,false,false,false] rfl rfl (any_of HT_.out (by kernel_rfl)) (fun _ _ _ h => h) (Or.inl ⟨by rfl,?_⟩) ?_ ?_
              rotate_left
              ·intro w'
               go_simp
               with_reducible rfl
              rotate_left
              ·simp only [Act.put,sA_,sZ_,sS_,i64_w,i32_w]
               rfl
              refine one_ (i:=10) (N:=some 38) #[true,true,true,true,true,true,true,true,true,true,true,false,false] rfl rfl (one_of HT_.out (by kernel_rfl)) (by decide) (fun K hK => ?_);refine value_ (w1:=?_) (v:=?_) (by rfl) rfl ?_ ?_
              rotate_left 2
              ·go_simp
               constructor
               ·rfl
               ·rfl
              refine hK.out _ _ trivial (fun hHeld => ?_);clear hK K;refine norm_ (a':=?_) ?_ ?_
              rotate_left
              ·show Act.put _ (some 38) _=_
               simp only [Act.put,sA_,sZ_,sS_,i64_w,i32_w]
               rfl
              refine one_ (i:=11) (N:=some 39) #[true,true,true,true,true,true,true,true,true,true,true,true,false] rfl rfl (one_of HT_.out (by kernel_rfl)) (by decide) (fun K hK => ?_);refine Kd.R_append_step k101 (w0:=w) w.heap.size (by rfl) (.tmp 28) (.tmp 38) 98 101 (.agg #[(.string ⟨#[]⟩),(.string ⟨#[]⟩)]) 32 rfl Tryd.underlying98 info101 rfl (by decide) (by omega) u3 x3_1 (⟨a0.extract (x4_1:Int).toNat (x5_2:Int).toNat,a0.extract (x5_2:Int).toNat (t449:Int).toNat⟩:S101) [.string (a0.extract (x4_1:Int).toNat (x5_2:Int).toNat),.string (a0.extract (x5_2:Int).toNat (t449:Int).toNat)] (fun _ => True) (fun _ => False) rfl rfl ?aP (fun _ hk => hk.elim) ?aF ?aO ?aB ?aS ?aL ?_
              (case aP => exact k101_mkM _ _ _ (⟨a0.extract (x4_1:Int).toNat (x5_2:Int).toNat,a0.extract (x5_2:Int).toNat (t449:Int).toNat⟩:S101))
              (case aB => exact qnc2_)
              (case aF => exact (fun _ _ => trivial))
              (case aO => exact qnc68_)
              (case aS => exact (below_size qnc2_))
              (case aL => have:=LMc27.out;omega)
              intro v451 w29 ho hb hg hat
              rw [← Ny450.out] at ho;have n0_:=M_ (hb);have n1_:=M_ (ho);clear HB;clear HO_3;have HB:=n0_;have HO452:=n1_;clear n0_ n1_;clear ho hb hg hat;refine hK.out _ _ trivial (fun hHeld => ?_);clear hK K;refine norm_ (a':=?_) ?_ ?_
              rotate_left
              ·show Act.put _ (some 39) _=_
               simp only [Act.put,sA_,sZ_,sS_,i64_w,i32_w]
               rfl
              refine pure_ (i:=12) (N:=some 3) (v:=?_) (a':=?_) #[true,true,true,true,true,true,true,true,true,true,true,true,true] rfl rfl (any_of HT_.out (by kernel_rfl)) (fun _ _ _ h => h) (Or.inl ⟨by rfl,?_⟩) ?_ ?_
              rotate_left
              ·intro w'
               go_simp
               with_reducible rfl
              rotate_left
              ·simp only [Act.put,sA_,sZ_,sS_,i64_w,i32_w]
               rfl
              refine done_ (done_of HT_.out (by kernel_rfl)) ?_
              try go_wp2
              go_roundg k2
              case measure => have:=HK1.out;have:=HK2.out;omega
              case rel => exact ⟨(y450),(t449),qnc1_,H',⟨by have:=HK1.out;have:=HK2.out;omega⟩,⟨by (with_reducible repeat (first|apply Kd.R_alloc|apply Kd.R_drewN|apply Kd.R_drew));exact HO452.out⟩,⟨qnc2_⟩⟩
             ·rw [if_neg c27] at H;exact absurd H (by simp)
            ·rw [if_neg c26] at H;exact absurd H (by simp)
           ·rw [if_neg c25] at H;exact absurd H (by simp)
          ·rw [if_neg c24] at H;exact absurd H (by simp)
         ·rw [if_neg c23] at H;exact absurd H (by simp)
        ·rw [if_neg c22] at H;exact absurd H (by simp)
       ·rw [if_neg c21] at H;exact absurd H (by simp)
   ·rw [if_neg c2] at H;have c2b0:=dF_ c2;clear c2
    by_cases c30:x3_1.length < 4398046511104
    ·rw [if_pos c30] at H;have LMc30:=M_ c30;clear c30;obtain ⟨y441,hy441⟩ : ∃ y_:List (S101),y_=(x3_1 ++ [(⟨(⟨#[]⟩:ByteArray),(⟨#[]⟩:ByteArray)⟩:S101)]):=⟨_,rfl⟩;replace H:(some y441)=some r:=by first|(rw [hy441];with_reducible exact H)|(have H2_:=(Option.bind_some _ _).symm.trans H;rw [hy441];with_reducible exact H2_)|(have H2_:=(Option.bind_some _ _).symm.trans H;with_reducible exact H2_)|with_reducible exact H|(rw [hy441];exact H)|exact H
     have Ny441:=M_ hy441;clear hy441;obtain rfl:=Option.some.inj H
     go_wp2_with (first|((with_reducible refine gate_builtin (b:=.append) (xs:=#[.tmp 41,.tmp 43]) rfl ?_);at_builtin;refine Kd.R_append k101 (w0:=w) w.heap.size rfl (.tmp 41) (.tmp 43) 98 101 (.agg #[(.string ⟨#[]⟩),(.string ⟨#[]⟩)]) 32 rfl Tryd.underlying98 info101 rfl (by decide) (by omega) u3 x3_1 (⟨(⟨#[]⟩:ByteArray),(⟨#[]⟩:ByteArray)⟩:S101) [.string ⟨#[]⟩,.string ⟨#[]⟩] (fun _ => True) (fun _ => False) rfl rfl ?aP (fun _ hk => hk.elim) ?aF ?aO ?aB ?aS ?aL ?_;(case aP => exact k101_mkM _ _ _ (⟨(⟨#[]⟩:ByteArray),(⟨#[]⟩:ByteArray)⟩:S101));(case aB => exact qnc2_);(case aF => exact (fun _ _ => trivial));(case aO => exact qnc68_);(case aS => exact (below_size qnc2_));(case aL => have:=LMc30.out;omega);intro v442 w31 ho hb hg hat;rw [← Ny441.out] at ho;have n0_:=M_ (hb);have n1_:=M_ (ho);clear HB;clear HO_3;have HB:=n0_;have HO443:=n1_;clear n0_ n1_;clear ho hb hg hat))
     go_ret;exact ⟨_,qnc5_,by (with_reducible repeat (first|apply Kd.R_alloc|apply Kd.R_drewN|apply Kd.R_drew));exact HO443.out,qnc2_⟩
    ·rw [if_neg c30] at H;exact absurd H (by simp)

set_option maxHeartbeats 8000000
set_option maxRecDepth 100000

def r_Rank.l0:Nat→Int→Int→Int→Option (Int)
 | 0,_,_,_ => none
 | k+1,x0,x3,x4 => if x4 < (wrap64 (x0)) then ((r_isDigit.f ((x4) % 256)).bind fun t453 => (if t453=true then (r_Rank.l0 k x0 x3 (wrap64 (x4+1))) else (if ((x4) % 256)=126 then (r_Rank.l0 k x0 x3 (wrap64 (x4+1))) else ((r_low.f ((x4) % 256)).bind fun t454 => (if t454 ≥ 97 then ((r_low.f ((x4) % 256)).bind fun t455 => (if t455≤122 then (r_Rank.l0 k x0 x3 (wrap64 (x4+1))) else (r_Rank.l0 k x0 (wrap64 (x3+1)) (wrap64 (x4+1))))) else (r_Rank.l0 k x0 (wrap64 (x3+1)) (wrap64 (x4+1)))))))) else (some x3)
def r_Rank.f (k:Nat) (a0:Int):Option (Int):=if a0=126 then (some 1) else (if a0 ≥ 65 then (if a0≤90 then (some (3+((a0 - 65) % 256))) else (if a0 ≥ 97 then (if a0≤122 then (some (29+((a0 - 97) % 256))) else (r_Rank.l0 k a0 55 0)) else (r_Rank.l0 k a0 55 0))) else (if a0 ≥ 97 then (if a0≤122 then (some (29+((a0 - 97) % 256))) else (r_Rank.l0 k a0 55 0)) else (r_Rank.l0 k a0 55 0)))
theorem r_Rank.mono_l : ∀ k, (∀ y0 y1 y2, LeO (r_Rank.l0 k y0 y1 y2) (r_Rank.l0 (k + 1) y0 y1 y2))
 | 0 => fun _ _ _ r h => by simp [r_Rank.l0] at h
 | k+1 => by
  have ih0 := r_Rank.mono_l k
  ·
   intro y0 y1 y2
   unfold r_Rank.l0
   repeat' first
   | (with_reducible exact ih0 _ _ _)
   | (with_reducible exact LeO.refl _)
   | (with_reducible exact LeO.none _)
   | (with_reducible refine LeO.ite ?_ ?_)
   | (with_reducible refine LeO.bind ?_ (fun _ => ?_))
   | exact ih0 _ _ _
   | exact LeO.none _
   | refine LeO.ite ?_ ?_
   | refine LeO.bind ?_ (fun _ => ?_)
theorem r_Rank.mono : ∀ a0 k, LeO (r_Rank.f k a0) (r_Rank.f (k + 1) a0) := by
 intro a0 k
 have ih0 := r_Rank.mono_l k
 unfold r_Rank.f
 repeat' first
   | (with_reducible exact ih0 _ _ _)
   | (with_reducible exact LeO.refl _)
   | (with_reducible exact LeO.none _)
   | (with_reducible refine LeO.ite ?_ ?_)
   | (with_reducible refine LeO.bind ?_ (fun _ => ?_))
   | exact ih0 _ _ _
   | exact LeO.none _
   | refine LeO.ite ?_ ?_
   | refine LeO.bind ?_ (fun _ => ?_)
theorem r_Rank.calls (k : Nat) (a0 : Int) (r : Int) (w : World) (h : r_Rank.f k a0 = some r) :
  Calls Tryd.prog 87 #[.int .u8 a0] w fun e w' => e=.returned (.int .i64 r)∧Drawn0 w w':=by
 have H:(if a0=126 then (some 1) else (if a0 ≥ 65 then (if a0≤90 then (some (3+((a0 - 65) % 256))) else (if a0 ≥ 97 then (if a0≤122 then (some (29+((a0 - 97) % 256))) else (r_Rank.l0 k a0 55 0)) else (r_Rank.l0 k a0 55 0))) else (if a0 ≥ 97 then (if a0≤122 then (some (29+((a0 - 97) % 256))) else (r_Rank.l0 k a0 55 0)) else (r_Rank.l0 k a0 55 0))))=some r:=h;clear h
 by_cases c2:a0=126
 ·rw [if_pos c2] at H;have c2b0:(a0 == 126)=true:=beq_iff_eq.mpr c2;have c2b1:(a0 != 126)=false:=nF_ c2;clear c2;obtain rfl:=Option.some.inj H
  go_enter Tryd.func87,Tryd.ntmps87
  go_wp2;go_ret;exact ⟨qnc1_,qnc4_⟩
 ·rw [if_neg c2] at H;have c2b0:(a0 == 126)=false:=bF_ c2;have c2b1:(a0 != 126)=true:=bne_iff_ne.mpr c2
  by_cases c3:a0 ≥ 65
  ·rw [if_pos c3] at H;have c3b0:=dT_ c3;clear c3
   by_cases c4:a0≤90
   ·rw [if_pos c4] at H;have c4b0:=dT_ c4;clear c4;obtain rfl:=Option.some.inj H
    go_enter Tryd.func87,Tryd.ntmps87
    go_wp2;go_ret;exact ⟨qnc1_,qnc4_⟩
   ·rw [if_neg c4] at H;have c4b0:=dF_ c4;clear c4
    by_cases c5:a0 ≥ 97
    ·rw [if_pos c5] at H;have c5b0:=dT_ c5;clear c5
     by_cases c6:a0≤122
     ·rw [if_pos c6] at H;have c6b0:=dT_ c6;clear c6;obtain rfl:=Option.some.inj H
      go_enter Tryd.func87,Tryd.ntmps87
      go_wp2;go_ret;exact ⟨qnc1_,qnc4_⟩
     ·rw [if_neg c6] at H;have c6b0:=dF_ c6;clear c6;have H':=M_ H;clear H
      go_enter Tryd.func87,Tryd.ntmps87
      go_wp2
      go_loopg [3,4] k (fun kq v3 v4 w' => ∃ (x3_1:Int) (x4_1:Int),v3=.int .i64 x3_1∧v4=.int .i64 x4_1∧Aside0 (r_Rank.l0 kq a0 x3_1 x4_1=some r)∧Aside0 (kq≤k)∧Drawn0 w w')
      case atStart => exact ⟨(55),(0),qnc1_,qnc1_,H',⟨Nat.le_refl _⟩,qnc4_⟩
      case round =>
       clear H';obtain ⟨x3_1,x4_1,rfl,rfl,HA,HK1,⟨m1,rfl⟩⟩:=hrel
       cases gk with
       | zero => exact absurd HA.out (by simp [r_Rank.l0])
       | succ k1 =>
        have H:=HA.out;clear HA;simp only [r_Rank.l0] at H
        by_cases c7:x4_1 < (wrap64 (a0))
        ·rw [if_pos c7] at H;have c7b0:=dT_ c7;clear c7;obtain ⟨t453,A8,H⟩:=ob_ H
         by_cases c9:t453=true
         ·subst c9;rw [if_pos rfl] at H;have H':=M_ H;clear H
          go_wp2_with (first|((with_reducible refine gate_callee (f:=96) rfl ?_);refine goesL_ (some 40) rfl rfl Tryd.func96 (by kernel_rfl) rfl #[.int .u8 ((x4_1) % 256)] rfl qnc0_ ?_;(with_reducible refine (r_isDigit.calls ((x4_1) % 256) true _ A8.out).mono ?_);rintro e w' ⟨rfl,⟨nd,rfl⟩⟩;refine ⟨_,rfl,?_⟩))
          go_roundg k1
          case measure => have:=HK1.out;omega
          case rel => exact ⟨(x3_1),(wrap64 (x4_1+1)),qnc1_,qnc1_,H',⟨by have:=HK1.out;omega⟩,qnc4_⟩
         ·replace c9:=Bool.eq_false_iff.mpr c9;subst c9;rw [if_neg (show ¬ (false=true) by decide)] at H
          by_cases c10:((x4_1) % 256)=126
          ·rw [if_pos c10] at H;have c10b0:(((x4_1) % 256) == 126)=true:=beq_iff_eq.mpr c10;have c10b1:(((x4_1) % 256) != 126)=false:=nF_ c10;clear c10;have H':=M_ H;clear H
           go_wp2_with (first|((with_reducible refine gate_callee (f:=96) rfl ?_);refine goesL_ (some 40) rfl rfl Tryd.func96 (by kernel_rfl) rfl #[.int .u8 ((x4_1) % 256)] rfl qnc0_ ?_;(with_reducible refine (r_isDigit.calls ((x4_1) % 256) false _ A8.out).mono ?_);rintro e w' ⟨rfl,⟨nd,rfl⟩⟩;refine ⟨_,rfl,?_⟩))
           go_roundg k1
           case measure => have:=HK1.out;omega
           case rel => exact ⟨(x3_1),(wrap64 (x4_1+1)),qnc1_,qnc1_,H',⟨by have:=HK1.out;omega⟩,qnc4_⟩
          ·rw [if_neg c10] at H;have c10b0:(((x4_1) % 256) == 126)=false:=bF_ c10;have c10b1:(((x4_1) % 256) != 126)=true:=bne_iff_ne.mpr c10;obtain ⟨t454,A11,H⟩:=ob_ H
           by_cases c12:t454 ≥ 97
           ·rw [if_pos c12] at H;have c12b0:=dT_ c12;clear c12;obtain ⟨t455,A13,H⟩:=ob_ H;obtain rfl:=Option.some.inj (A11.out.symm.trans A13.out)
            by_cases c14:t454≤122
            ·rw [if_pos c14] at H;have c14b0:=dT_ c14;clear c14;have H':=M_ H;clear H;have tk15:=trivial;have tk16:=trivial;have tk17:=trivial
             go_wp2_with (first|(clear tk15;(with_reducible refine gate_callee (f:=96) rfl ?_);refine goesL_ (some 40) rfl rfl Tryd.func96 (by kernel_rfl) rfl #[.int .u8 ((x4_1) % 256)] rfl qnc0_ ?_;(with_reducible refine (r_isDigit.calls ((x4_1) % 256) false _ A8.out).mono ?_);rintro e w' ⟨rfl,⟨nd,rfl⟩⟩;refine ⟨_,rfl,?_⟩)|(clear tk16;go_at_call 70;(with_reducible refine (r_low.calls ((x4_1) % 256) t454 _ A11.out).mono ?_);rintro e w' ⟨rfl,⟨nd,rfl⟩⟩)|(clear tk17;go_at_call 70;(with_reducible refine (r_low.calls ((x4_1) % 256) t454 _ A13.out).mono ?_);rintro e w' ⟨rfl,⟨nd,rfl⟩⟩))
             go_roundg k1
             case measure => have:=HK1.out;omega
             case rel => exact ⟨(x3_1),(wrap64 (x4_1+1)),qnc1_,qnc1_,H',⟨by have:=HK1.out;omega⟩,qnc4_⟩
            ·rw [if_neg c14] at H;have c14b0:=dF_ c14;clear c14;have H':=M_ H;clear H;have tk18:=trivial;have tk19:=trivial;have tk20:=trivial
             go_wp2_with (first|(clear tk18;(with_reducible refine gate_callee (f:=96) rfl ?_);refine goesL_ (some 40) rfl rfl Tryd.func96 (by kernel_rfl) rfl #[.int .u8 ((x4_1) % 256)] rfl qnc0_ ?_;(with_reducible refine (r_isDigit.calls ((x4_1) % 256) false _ A8.out).mono ?_);rintro e w' ⟨rfl,⟨nd,rfl⟩⟩;refine ⟨_,rfl,?_⟩)|(clear tk19;go_at_call 70;(with_reducible refine (r_low.calls ((x4_1) % 256) t454 _ A11.out).mono ?_);rintro e w' ⟨rfl,⟨nd,rfl⟩⟩)|(clear tk20;go_at_call 70;(with_reducible refine (r_low.calls ((x4_1) % 256) t454 _ A13.out).mono ?_);rintro e w' ⟨rfl,⟨nd,rfl⟩⟩))
             go_roundg k1
             case measure => have:=HK1.out;omega
             case rel => exact ⟨(wrap64 (x3_1+1)),(wrap64 (x4_1+1)),qnc1_,qnc1_,H',⟨by have:=HK1.out;omega⟩,qnc4_⟩
           ·rw [if_neg c12] at H;have c12b0:=dF_ c12;clear c12;have H':=M_ H;clear H;have tk21:=trivial;have tk22:=trivial
            go_wp2_with (first|(clear tk21;(with_reducible refine gate_callee (f:=96) rfl ?_);refine goesL_ (some 40) rfl rfl Tryd.func96 (by kernel_rfl) rfl #[.int .u8 ((x4_1) % 256)] rfl qnc0_ ?_;(with_reducible refine (r_isDigit.calls ((x4_1) % 256) false _ A8.out).mono ?_);rintro e w' ⟨rfl,⟨nd,rfl⟩⟩;refine ⟨_,rfl,?_⟩)|(clear tk22;go_at_call 70;(with_reducible refine (r_low.calls ((x4_1) % 256) t454 _ A11.out).mono ?_);rintro e w' ⟨rfl,⟨nd,rfl⟩⟩))
            go_roundg k1
            case measure => have:=HK1.out;omega
            case rel => exact ⟨(wrap64 (x3_1+1)),(wrap64 (x4_1+1)),qnc1_,qnc1_,H',⟨by have:=HK1.out;omega⟩,qnc4_⟩
        ·rw [if_neg c7] at H;have c7b0:=dF_ c7;clear c7;obtain rfl:=Option.some.inj H;go_wp2;go_ret;exact ⟨qnc1_,qnc4_⟩
    ·rw [if_neg c5] at H;have c5b0:=dF_ c5;clear c5;have H':=M_ H;clear H
     go_enter Tryd.func87,Tryd.ntmps87
     go_wp2
     go_loopg [3,4] k (fun kq v3 v4 w' => ∃ (x3_1:Int) (x4_1:Int),v3=.int .i64 x3_1∧v4=.int .i64 x4_1∧Aside0 (r_Rank.l0 kq a0 x3_1 x4_1=some r)∧Aside0 (kq≤k)∧Drawn0 w w')
     case atStart => exact ⟨(55),(0),qnc1_,qnc1_,H',⟨Nat.le_refl _⟩,qnc4_⟩
     case round =>
      clear H';obtain ⟨x3_1,x4_1,rfl,rfl,HA,HK1,⟨m1,rfl⟩⟩:=hrel
      cases gk with
      | zero => exact absurd HA.out (by simp [r_Rank.l0])
      | succ k1 =>
       have H:=HA.out;clear HA;simp only [r_Rank.l0] at H
       by_cases c23:x4_1 < (wrap64 (a0))
       ·rw [if_pos c23] at H;have c23b0:=dT_ c23;clear c23;obtain ⟨t453,A24,H⟩:=ob_ H
        by_cases c25:t453=true
        ·subst c25;rw [if_pos rfl] at H;have H':=M_ H;clear H
         go_wp2_with (first|((with_reducible refine gate_callee (f:=96) rfl ?_);refine goesL_ (some 40) rfl rfl Tryd.func96 (by kernel_rfl) rfl #[.int .u8 ((x4_1) % 256)] rfl qnc0_ ?_;(with_reducible refine (r_isDigit.calls ((x4_1) % 256) true _ A24.out).mono ?_);rintro e w' ⟨rfl,⟨nd,rfl⟩⟩;refine ⟨_,rfl,?_⟩))
         go_roundg k1
         case measure => have:=HK1.out;omega
         case rel => exact ⟨(x3_1),(wrap64 (x4_1+1)),qnc1_,qnc1_,H',⟨by have:=HK1.out;omega⟩,qnc4_⟩
        ·replace c25:=Bool.eq_false_iff.mpr c25;subst c25;rw [if_neg (show ¬ (false=true) by decide)] at H
         by_cases c26:((x4_1) % 256)=126
         ·rw [if_pos c26] at H;have c26b0:(((x4_1) % 256) == 126)=true:=beq_iff_eq.mpr c26;have c26b1:(((x4_1) % 256) != 126)=false:=nF_ c26;clear c26;have H':=M_ H;clear H
          go_wp2_with (first|((with_reducible refine gate_callee (f:=96) rfl ?_);refine goesL_ (some 40) rfl rfl Tryd.func96 (by kernel_rfl) rfl #[.int .u8 ((x4_1) % 256)] rfl qnc0_ ?_;(with_reducible refine (r_isDigit.calls ((x4_1) % 256) false _ A24.out).mono ?_);rintro e w' ⟨rfl,⟨nd,rfl⟩⟩;refine ⟨_,rfl,?_⟩))
          go_roundg k1
          case measure => have:=HK1.out;omega
          case rel => exact ⟨(x3_1),(wrap64 (x4_1+1)),qnc1_,qnc1_,H',⟨by have:=HK1.out;omega⟩,qnc4_⟩
         ·rw [if_neg c26] at H;have c26b0:(((x4_1) % 256) == 126)=false:=bF_ c26;have c26b1:(((x4_1) % 256) != 126)=true:=bne_iff_ne.mpr c26;obtain ⟨t454,A27,H⟩:=ob_ H
          by_cases c28:t454 ≥ 97
          ·rw [if_pos c28] at H;have c28b0:=dT_ c28;clear c28;obtain ⟨t455,A29,H⟩:=ob_ H;obtain rfl:=Option.some.inj (A27.out.symm.trans A29.out)
           by_cases c30:t454≤122
           ·rw [if_pos c30] at H;have c30b0:=dT_ c30;clear c30;have H':=M_ H;clear H;have tk31:=trivial;have tk32:=trivial;have tk33:=trivial
            go_wp2_with (first|(clear tk31;(with_reducible refine gate_callee (f:=96) rfl ?_);refine goesL_ (some 40) rfl rfl Tryd.func96 (by kernel_rfl) rfl #[.int .u8 ((x4_1) % 256)] rfl qnc0_ ?_;(with_reducible refine (r_isDigit.calls ((x4_1) % 256) false _ A24.out).mono ?_);rintro e w' ⟨rfl,⟨nd,rfl⟩⟩;refine ⟨_,rfl,?_⟩)|(clear tk32;go_at_call 70;(with_reducible refine (r_low.calls ((x4_1) % 256) t454 _ A27.out).mono ?_);rintro e w' ⟨rfl,⟨nd,rfl⟩⟩)|(clear tk33;go_at_call 70;(with_reducible refine (r_low.calls ((x4_1) % 256) t454 _ A29.out).mono ?_);rintro e w' ⟨rfl,⟨nd,rfl⟩⟩))
            go_roundg k1
            case measure => have:=HK1.out;omega
            case rel => exact ⟨(x3_1),(wrap64 (x4_1+1)),qnc1_,qnc1_,H',⟨by have:=HK1.out;omega⟩,qnc4_⟩
           ·rw [if_neg c30] at H;have c30b0:=dF_ c30;clear c30;have H':=M_ H;clear H;have tk34:=trivial;have tk35:=trivial;have tk36:=trivial
            go_wp2_with (first|(clear tk34;(with_reducible refine gate_callee (f:=96) rfl ?_);refine goesL_ (some 40) rfl rfl Tryd.func96 (by kernel_rfl) rfl #[.int .u8 ((x4_1) % 256)] rfl qnc0_ ?_;(with_reducible refine (r_isDigit.calls ((x4_1) % 256) false _ A24.out).mono ?_);rintro e w' ⟨rfl,⟨nd,rfl⟩⟩;refine ⟨_,rfl,?_⟩)|(clear tk35;go_at_call 70;(with_reducible refine (r_low.calls ((x4_1) % 256) t454 _ A27.out).mono ?_);rintro e w' ⟨rfl,⟨nd,rfl⟩⟩)|(clear tk36;go_at_call 70;(with_reducible refine (r_low.calls ((x4_1) % 256) t454 _ A29.out).mono ?_);rintro e w' ⟨rfl,⟨nd,rfl⟩⟩))
            go_roundg k1
            case measure => have:=HK1.out;omega
            case rel => exact ⟨(wrap64 (x3_1+1)),(wrap64 (x4_1+1)),qnc1_,qnc1_,H',⟨by have:=HK1.out;omega⟩,qnc4_⟩
          ·rw [if_neg c28] at H;have c28b0:=dF_ c28;clear c28;have H':=M_ H;clear H;have tk37:=trivial;have tk38:=trivial
           go_wp2_with (first|(clear tk37;(with_reducible refine gate_callee (f:=96) rfl ?_);refine goesL_ (some 40) rfl rfl Tryd.func96 (by kernel_rfl) rfl #[.int .u8 ((x4_1) % 256)] rfl qnc0_ ?_;(with_reducible refine (r_isDigit.calls ((x4_1) % 256) false _ A24.out).mono ?_);rintro e w' ⟨rfl,⟨nd,rfl⟩⟩;refine ⟨_,rfl,?_⟩)|(clear tk38;go_at_call 70;(with_reducible refine (r_low.calls ((x4_1) % 256) t454 _ A27.out).mono ?_);rintro e w' ⟨rfl,⟨nd,rfl⟩⟩))
           go_roundg k1
           case measure => have:=HK1.out;omega
           case rel => exact ⟨(wrap64 (x3_1+1)),(wrap64 (x4_1+1)),qnc1_,qnc1_,H',⟨by have:=HK1.out;omega⟩,qnc4_⟩
       ·rw [if_neg c23] at H;have c23b0:=dF_ c23;clear c23;obtain rfl:=Option.some.inj H;go_wp2;go_ret;exact ⟨qnc1_,qnc4_⟩
  ·rw [if_neg c3] at H;have c3b0:=dF_ c3;clear c3
   by_cases c39:a0 ≥ 97
   ·rw [if_pos c39] at H;have c39b0:=dT_ c39;clear c39
    by_cases c40:a0≤122
    ·rw [if_pos c40] at H;have c40b0:=dT_ c40;clear c40;obtain rfl:=Option.some.inj H
     go_enter Tryd.func87,Tryd.ntmps87
     go_wp2;go_ret;exact ⟨qnc1_,qnc4_⟩
    ·rw [if_neg c40] at H;have c40b0:=dF_ c40;clear c40;have H':=M_ H;clear H
     go_enter Tryd.func87,Tryd.ntmps87
     go_wp2
     go_loopg [3,4] k (fun kq v3 v4 w' => ∃ (x3_1:Int) (x4_1:Int),v3=.int .i64 x3_1∧v4=.int .i64 x4_1∧Aside0 (r_Rank.l0 kq a0 x3_1 x4_1=some r)∧Aside0 (kq≤k)∧Drawn0 w w')
     case atStart => exact ⟨(55),(0),qnc1_,qnc1_,H',⟨Nat.le_refl _⟩,qnc4_⟩
     case round =>
      clear H';obtain ⟨x3_1,x4_1,rfl,rfl,HA,HK1,⟨m1,rfl⟩⟩:=hrel
      cases gk with
      | zero => exact absurd HA.out (by simp [r_Rank.l0])
      | succ k1 =>
       have H:=HA.out;clear HA;simp only [r_Rank.l0] at H
       by_cases c41:x4_1 < (wrap64 (a0))
       ·rw [if_pos c41] at H;have c41b0:=dT_ c41;clear c41;obtain ⟨t453,A42,H⟩:=ob_ H
        by_cases c43:t453=true
        ·subst c43;rw [if_pos rfl] at H;have H':=M_ H;clear H
         go_wp2_with (first|((with_reducible refine gate_callee (f:=96) rfl ?_);refine goesL_ (some 40) rfl rfl Tryd.func96 (by kernel_rfl) rfl #[.int .u8 ((x4_1) % 256)] rfl qnc0_ ?_;(with_reducible refine (r_isDigit.calls ((x4_1) % 256) true _ A42.out).mono ?_);rintro e w' ⟨rfl,⟨nd,rfl⟩⟩;refine ⟨_,rfl,?_⟩))
         go_roundg k1
         case measure => have:=HK1.out;omega
         case rel => exact ⟨(x3_1),(wrap64 (x4_1+1)),qnc1_,qnc1_,H',⟨by have:=HK1.out;omega⟩,qnc4_⟩
        ·replace c43:=Bool.eq_false_iff.mpr c43;subst c43;rw [if_neg (show ¬ (false=true) by decide)] at H
         by_cases c44:((x4_1) % 256)=126
         ·rw [if_pos c44] at H;have c44b0:(((x4_1) % 256) == 126)=true:=beq_iff_eq.mpr c44;have c44b1:(((x4_1) % 256) != 126)=false:=nF_ c44;clear c44;have H':=M_ H;clear H
          go_wp2_with (first|((with_reducible refine gate_callee (f:=96) rfl ?_);refine goesL_ (some 40) rfl rfl Tryd.func96 (by kernel_rfl) rfl #[.int .u8 ((x4_1) % 256)] rfl qnc0_ ?_;(with_reducible refine (r_isDigit.calls ((x4_1) % 256) false _ A42.out).mono ?_);rintro e w' ⟨rfl,⟨nd,rfl⟩⟩;refine ⟨_,rfl,?_⟩))
          go_roundg k1
          case measure => have:=HK1.out;omega
          case rel => exact ⟨(x3_1),(wrap64 (x4_1+1)),qnc1_,qnc1_,H',⟨by have:=HK1.out;omega⟩,qnc4_⟩
         ·rw [if_neg c44] at H;have c44b0:(((x4_1) % 256) == 126)=false:=bF_ c44;have c44b1:(((x4_1) % 256) != 126)=true:=bne_iff_ne.mpr c44;obtain ⟨t454,A45,H⟩:=ob_ H
          by_cases c46:t454 ≥ 97
          ·rw [if_pos c46] at H;have c46b0:=dT_ c46;clear c46;obtain ⟨t455,A47,H⟩:=ob_ H;obtain rfl:=Option.some.inj (A45.out.symm.trans A47.out)
           by_cases c48:t454≤122
           ·rw [if_pos c48] at H;have c48b0:=dT_ c48;clear c48;have H':=M_ H;clear H;have tk49:=trivial;have tk50:=trivial;have tk51:=trivial
            go_wp2_with (first|(clear tk49;(with_reducible refine gate_callee (f:=96) rfl ?_);refine goesL_ (some 40) rfl rfl Tryd.func96 (by kernel_rfl) rfl #[.int .u8 ((x4_1) % 256)] rfl qnc0_ ?_;(with_reducible refine (r_isDigit.calls ((x4_1) % 256) false _ A42.out).mono ?_);rintro e w' ⟨rfl,⟨nd,rfl⟩⟩;refine ⟨_,rfl,?_⟩)|(clear tk50;go_at_call 70;(with_reducible refine (r_low.calls ((x4_1) % 256) t454 _ A45.out).mono ?_);rintro e w' ⟨rfl,⟨nd,rfl⟩⟩)|(clear tk51;go_at_call 70;(with_reducible refine (r_low.calls ((x4_1) % 256) t454 _ A47.out).mono ?_);rintro e w' ⟨rfl,⟨nd,rfl⟩⟩))
            go_roundg k1
            case measure => have:=HK1.out;omega
            case rel => exact ⟨(x3_1),(wrap64 (x4_1+1)),qnc1_,qnc1_,H',⟨by have:=HK1.out;omega⟩,qnc4_⟩
           ·rw [if_neg c48] at H;have c48b0:=dF_ c48;clear c48;have H':=M_ H;clear H;have tk52:=trivial;have tk53:=trivial;have tk54:=trivial
            go_wp2_with (first|(clear tk52;(with_reducible refine gate_callee (f:=96) rfl ?_);refine goesL_ (some 40) rfl rfl Tryd.func96 (by kernel_rfl) rfl #[.int .u8 ((x4_1) % 256)] rfl qnc0_ ?_;(with_reducible refine (r_isDigit.calls ((x4_1) % 256) false _ A42.out).mono ?_);rintro e w' ⟨rfl,⟨nd,rfl⟩⟩;refine ⟨_,rfl,?_⟩)|(clear tk53;go_at_call 70;(with_reducible refine (r_low.calls ((x4_1) % 256) t454 _ A45.out).mono ?_);rintro e w' ⟨rfl,⟨nd,rfl⟩⟩)|(clear tk54;go_at_call 70;(with_reducible refine (r_low.calls ((x4_1) % 256) t454 _ A47.out).mono ?_);rintro e w' ⟨rfl,⟨nd,rfl⟩⟩))
            go_roundg k1
            case measure => have:=HK1.out;omega
            case rel => exact ⟨(wrap64 (x3_1+1)),(wrap64 (x4_1+1)),qnc1_,qnc1_,H',⟨by have:=HK1.out;omega⟩,qnc4_⟩
          ·rw [if_neg c46] at H;have c46b0:=dF_ c46;clear c46;have H':=M_ H;clear H;have tk55:=trivial;have tk56:=trivial
           go_wp2_with (first|(clear tk55;(with_reducible refine gate_callee (f:=96) rfl ?_);refine goesL_ (some 40) rfl rfl Tryd.func96 (by kernel_rfl) rfl #[.int .u8 ((x4_1) % 256)] rfl qnc0_ ?_;(with_reducible refine (r_isDigit.calls ((x4_1) % 256) false _ A42.out).mono ?_);rintro e w' ⟨rfl,⟨nd,rfl⟩⟩;refine ⟨_,rfl,?_⟩)|(clear tk56;go_at_call 70;(with_reducible refine (r_low.calls ((x4_1) % 256) t454 _ A45.out).mono ?_);rintro e w' ⟨rfl,⟨nd,rfl⟩⟩))
           go_roundg k1
           case measure => have:=HK1.out;omega
           case rel => exact ⟨(wrap64 (x3_1+1)),(wrap64 (x4_1+1)),qnc1_,qnc1_,H',⟨by have:=HK1.out;omega⟩,qnc4_⟩
       ·rw [if_neg c41] at H;have c41b0:=dF_ c41;clear c41;obtain rfl:=Option.some.inj H;go_wp2;go_ret;exact ⟨qnc1_,qnc4_⟩
   ·rw [if_neg c39] at H;have c39b0:=dF_ c39;clear c39;have H':=M_ H;clear H
    go_enter Tryd.func87,Tryd.ntmps87
    go_wp2
    go_loopg [3,4] k (fun kq v3 v4 w' => ∃ (x3_1:Int) (x4_1:Int),v3=.int .i64 x3_1∧v4=.int .i64 x4_1∧Aside0 (r_Rank.l0 kq a0 x3_1 x4_1=some r)∧Aside0 (kq≤k)∧Drawn0 w w')
    case atStart => exact ⟨(55),(0),qnc1_,qnc1_,H',⟨Nat.le_refl _⟩,qnc4_⟩
    case round =>
     clear H';obtain ⟨x3_1,x4_1,rfl,rfl,HA,HK1,⟨m1,rfl⟩⟩:=hrel
     cases gk with
     | zero => exact absurd HA.out (by simp [r_Rank.l0])
     | succ k1 =>
      have H:=HA.out;clear HA;simp only [r_Rank.l0] at H
      by_cases c57:x4_1 < (wrap64 (a0))
      ·rw [if_pos c57] at H;have c57b0:=dT_ c57;clear c57;obtain ⟨t453,A58,H⟩:=ob_ H
       by_cases c59:t453=true
       ·subst c59;rw [if_pos rfl] at H;have H':=M_ H;clear H
        go_wp2_with (first|((with_reducible refine gate_callee (f:=96) rfl ?_);refine goesL_ (some 40) rfl rfl Tryd.func96 (by kernel_rfl) rfl #[.int .u8 ((x4_1) % 256)] rfl qnc0_ ?_;(with_reducible refine (r_isDigit.calls ((x4_1) % 256) true _ A58.out).mono ?_);rintro e w' ⟨rfl,⟨nd,rfl⟩⟩;refine ⟨_,rfl,?_⟩))
        go_roundg k1
        case measure => have:=HK1.out;omega
        case rel => exact ⟨(x3_1),(wrap64 (x4_1+1)),qnc1_,qnc1_,H',⟨by have:=HK1.out;omega⟩,qnc4_⟩
       ·replace c59:=Bool.eq_false_iff.mpr c59;subst c59;rw [if_neg (show ¬ (false=true) by decide)] at H
        by_cases c60:((x4_1) % 256)=126
        ·rw [if_pos c60] at H;have c60b0:(((x4_1) % 256) == 126)=true:=beq_iff_eq.mpr c60;have c60b1:(((x4_1) % 256) != 126)=false:=nF_ c60;clear c60;have H':=M_ H;clear H
         go_wp2_with (first|((with_reducible refine gate_callee (f:=96) rfl ?_);refine goesL_ (some 40) rfl rfl Tryd.func96 (by kernel_rfl) rfl #[.int .u8 ((x4_1) % 256)] rfl qnc0_ ?_;(with_reducible refine (r_isDigit.calls ((x4_1) % 256) false _ A58.out).mono ?_);rintro e w' ⟨rfl,⟨nd,rfl⟩⟩;refine ⟨_,rfl,?_⟩))
         go_roundg k1
         case measure => have:=HK1.out;omega
         case rel => exact ⟨(x3_1),(wrap64 (x4_1+1)),qnc1_,qnc1_,H',⟨by have:=HK1.out;omega⟩,qnc4_⟩
        ·rw [if_neg c60] at H;have c60b0:(((x4_1) % 256) == 126)=false:=bF_ c60;have c60b1:(((x4_1) % 256) != 126)=true:=bne_iff_ne.mpr c60;obtain ⟨t454,A61,H⟩:=ob_ H
         by_cases c62:t454 ≥ 97
         ·rw [if_pos c62] at H;have c62b0:=dT_ c62;clear c62;obtain ⟨t455,A63,H⟩:=ob_ H;obtain rfl:=Option.some.inj (A61.out.symm.trans A63.out)
          by_cases c64:t454≤122
          ·rw [if_pos c64] at H;have c64b0:=dT_ c64;clear c64;have H':=M_ H;clear H;have tk65:=trivial;have tk66:=trivial;have tk67:=trivial
           go_wp2_with (first|(clear tk65;(with_reducible refine gate_callee (f:=96) rfl ?_);refine goesL_ (some 40) rfl rfl Tryd.func96 (by kernel_rfl) rfl #[.int .u8 ((x4_1) % 256)] rfl qnc0_ ?_;(with_reducible refine (r_isDigit.calls ((x4_1) % 256) false _ A58.out).mono ?_);rintro e w' ⟨rfl,⟨nd,rfl⟩⟩;refine ⟨_,rfl,?_⟩)|(clear tk66;go_at_call 70;(with_reducible refine (r_low.calls ((x4_1) % 256) t454 _ A61.out).mono ?_);rintro e w' ⟨rfl,⟨nd,rfl⟩⟩)|(clear tk67;go_at_call 70;(with_reducible refine (r_low.calls ((x4_1) % 256) t454 _ A63.out).mono ?_);rintro e w' ⟨rfl,⟨nd,rfl⟩⟩))
           go_roundg k1
           case measure => have:=HK1.out;omega
           case rel => exact ⟨(x3_1),(wrap64 (x4_1+1)),qnc1_,qnc1_,H',⟨by have:=HK1.out;omega⟩,qnc4_⟩
          ·rw [if_neg c64] at H;have c64b0:=dF_ c64;clear c64;have H':=M_ H;clear H;have tk68:=trivial;have tk69:=trivial;have tk70:=trivial
           go_wp2_with (first|(clear tk68;(with_reducible refine gate_callee (f:=96) rfl ?_);refine goesL_ (some 40) rfl rfl Tryd.func96 (by kernel_rfl) rfl #[.int .u8 ((x4_1) % 256)] rfl qnc0_ ?_;(with_reducible refine (r_isDigit.calls ((x4_1) % 256) false _ A58.out).mono ?_);rintro e w' ⟨rfl,⟨nd,rfl⟩⟩;refine ⟨_,rfl,?_⟩)|(clear tk69;go_at_call 70;(with_reducible refine (r_low.calls ((x4_1) % 256) t454 _ A61.out).mono ?_);rintro e w' ⟨rfl,⟨nd,rfl⟩⟩)|(clear tk70;go_at_call 70;(with_reducible refine (r_low.calls ((x4_1) % 256) t454 _ A63.out).mono ?_);rintro e w' ⟨rfl,⟨nd,rfl⟩⟩))
           go_roundg k1
           case measure => have:=HK1.out;omega
           case rel => exact ⟨(wrap64 (x3_1+1)),(wrap64 (x4_1+1)),qnc1_,qnc1_,H',⟨by have:=HK1.out;omega⟩,qnc4_⟩
         ·rw [if_neg c62] at H;have c62b0:=dF_ c62;clear c62;have H':=M_ H;clear H;have tk71:=trivial;have tk72:=trivial
          go_wp2_with (first|(clear tk71;(with_reducible refine gate_callee (f:=96) rfl ?_);refine goesL_ (some 40) rfl rfl Tryd.func96 (by kernel_rfl) rfl #[.int .u8 ((x4_1) % 256)] rfl qnc0_ ?_;(with_reducible refine (r_isDigit.calls ((x4_1) % 256) false _ A58.out).mono ?_);rintro e w' ⟨rfl,⟨nd,rfl⟩⟩;refine ⟨_,rfl,?_⟩)|(clear tk72;go_at_call 70;(with_reducible refine (r_low.calls ((x4_1) % 256) t454 _ A61.out).mono ?_);rintro e w' ⟨rfl,⟨nd,rfl⟩⟩))
          go_roundg k1
          case measure => have:=HK1.out;omega
          case rel => exact ⟨(wrap64 (x3_1+1)),(wrap64 (x4_1+1)),qnc1_,qnc1_,H',⟨by have:=HK1.out;omega⟩,qnc4_⟩
      ·rw [if_neg c57] at H;have c57b0:=dF_ c57;clear c57;obtain rfl:=Option.some.inj H;go_wp2;go_ret;exact ⟨qnc1_,qnc4_⟩

set_option maxHeartbeats 8000000
set_option maxRecDepth 100000

def r_rankAt.f (k:Nat) (a0:ByteArray) (a1:Int):Option (Int):=if a1 < (a0.size:Int) then (if 0≤a1 then ((r_Rank.f k (bt a0 a1)).bind fun t456 => (some t456)) else (none)) else (some 2)
theorem r_rankAt.calls (k : Nat) (a0 : ByteArray) (a1 : Int) (r : Int) (w : World) (h : r_rankAt.f k a0 a1 = some r) :
  Calls Tryd.prog 100 #[.string a0,.int .i64 a1] w fun e w' => e=.returned (.int .i64 r)∧Drawn0 w w':=by
 have H:(if a1 < (a0.size:Int) then (if 0≤a1 then ((r_Rank.f k (bt a0 a1)).bind fun t456 => (some t456)) else (none)) else (some 2))=some r:=h;clear h
 by_cases c3:a1 < (a0.size:Int)
 ·rw [if_pos c3] at H;have c3b0:=dT_ c3;clear c3
  by_cases c4:0≤a1
  ·rw [if_pos c4] at H;have c4b0:=dT_ c4;clear c4;obtain ⟨t456,A6,H⟩:=ob_ H;obtain rfl:=Option.some.inj H;have p5:0≤(a1:Int):=oD_ qnc3_;have q5:a1 < (a0.size:Int):=oD_ qnc3_;have hx5:=bt_at a0 a1;replace p5:=eq_true p5;replace q5:=eq_true q5
   go_enter Tryd.func100,Tryd.ntmps100
   go_wp2_with (first|((with_reducible refine gate_callee (f:=87) rfl ?_);refine goesL_ (some 12) rfl rfl Tryd.func87 (by kernel_rfl) rfl #[.int .u8 (bt a0 a1)] rfl qnc0_ ?_;(with_reducible refine (r_Rank.calls k (bt a0 a1) t456 _ A6.out).mono ?_);rintro e w' ⟨rfl,⟨nd,rfl⟩⟩;refine ⟨_,rfl,?_⟩))
   go_ret;exact ⟨qnc1_,qnc4_⟩
  ·rw [if_neg c4] at H;exact absurd H (by simp)
 ·rw [if_neg c3] at H;have c3b0:=dF_ c3;clear c3;obtain rfl:=Option.some.inj H
  go_enter Tryd.func100,Tryd.ntmps100
  go_wp2;go_ret;exact ⟨qnc1_,qnc4_⟩

set_option maxHeartbeats 8000000
set_option maxRecDepth 100000

def r_one.f (a0:ByteArray) (a1:ByteArray):Option (Int):=if a0.toList=([]:List UInt8) then (if a1.toList=([]:List UInt8) then (some 0) else (some 1)) else (some 1)
theorem r_one.calls (a0 : ByteArray) (a1 : ByteArray) (r : Int) (w : World) (h : r_one.f a0 a1 = some r) :
  Calls Tryd.prog 107 #[.string a0,.string a1] w fun e w' => e=.returned (.int .i64 r)∧Drawn0 w w':=by
 have H:(if a0.toList=([]:List UInt8) then (if a1.toList=([]:List UInt8) then (some 0) else (some 1)) else (some 1))=some r:=h;clear h
 by_cases c3:a0.toList=([]:List UInt8)
 ·rw [if_pos c3] at H;have c3b0:(a0.toList == ([]:List UInt8))=true:=beq_iff_eq.mpr c3;have c3b1:(a0.toList != ([]:List UInt8))=false:=nF_ c3;clear c3
  by_cases c4:a1.toList=([]:List UInt8)
  ·rw [if_pos c4] at H;have c4b0:(a1.toList == ([]:List UInt8))=true:=beq_iff_eq.mpr c4;have c4b1:(a1.toList != ([]:List UInt8))=false:=nF_ c4;clear c4;obtain rfl:=Option.some.inj H
   go_enter Tryd.func107,Tryd.ntmps107
   go_wp2;go_ret;exact ⟨qnc1_,qnc4_⟩
  ·rw [if_neg c4] at H;have c4b0:(a1.toList == ([]:List UInt8))=false:=bF_ c4;have c4b1:(a1.toList != ([]:List UInt8))=true:=bne_iff_ne.mpr c4;obtain rfl:=Option.some.inj H
   go_enter Tryd.func107,Tryd.ntmps107
   go_wp2;go_ret;exact ⟨qnc1_,qnc4_⟩
 ·rw [if_neg c3] at H;have c3b0:(a0.toList == ([]:List UInt8))=false:=bF_ c3;have c3b1:(a0.toList != ([]:List UInt8))=true:=bne_iff_ne.mpr c3;obtain rfl:=Option.some.inj H
  go_enter Tryd.func107,Tryd.ntmps107
  go_wp2;go_ret;exact ⟨qnc1_,qnc4_⟩

set_option maxHeartbeats 8000000
set_option maxRecDepth 100000

def r_numbers.j0:Nat→ByteArray→ByteArray→Bool→Option (Int)
 | 0,_,_,_ => none
 | k+1,x0,x1,x12 => if x12=true then ((r_ints.f (x0.size:Int) (x1.size:Int)).bind fun t457 => ((r_one.f x0 x1).bind fun t458 => (some (wrap64 (t457 * t458))))) else ((r_zeros.f k x0).bind fun t459 => (if 0≤t459 then (if t459≤(x0.size:Int) then ((r_zeros.f k x1).bind fun t460 => (if 0≤t460 then (if t460≤(x1.size:Int) then (if ((x0.size - t459.toNat:Nat):Int)=((x1.size - t460.toNat:Nat):Int) then ((r_Bytes.f k (x0.extract (t459:Int).toNat x0.size) (x1.extract (t460:Int).toNat x1.size)).bind fun t461 => (some t461)) else ((r_ints.f ((x0.size - t459.toNat:Nat):Int) ((x1.size - t460.toNat:Nat):Int)).bind fun t462 => (some t462))) else (none)) else (none))) else (none)) else (none)))
def r_numbers.f (k:Nat) (a0:ByteArray) (a1:ByteArray):Option (Int):=if a0.toList=([]:List UInt8) then (r_numbers.j0 k a0 a1 true) else (r_numbers.j0 k a0 a1 a1.toList.isEmpty)
theorem r_numbers.calls (k : Nat) (a0 : ByteArray) (a1 : ByteArray) (r : Int) (w : World) (h : r_numbers.f k a0 a1 = some r) :
  Calls Tryd.prog 101 #[.string a0,.string a1] w fun e w' => e=.returned (.int .i64 r)∧Drawn0 w w':=by
 have H:(if a0.toList=([]:List UInt8) then (r_numbers.j0 k a0 a1 true) else (r_numbers.j0 k a0 a1 a1.toList.isEmpty))=some r:=h;clear h;have HC3:=M_ H;clear H
 go_enter Tryd.func101,Tryd.ntmps101
 go_upto_region 1 with (fail)
 go_cut [12] (fun v12 wc => ∃ (kq:Nat) (x12_2:Bool),v12=.bool x12_2∧Aside0 (r_numbers.j0 kq a0 a1 x12_2=some r)∧Aside0 (kq≤k)∧Drawn0 w wc)
 case first =>
  have H:=HC3.out;clear HC3
  by_cases c4:a0.toList=([]:List UInt8)
  ·rw [if_pos c4] at H;have c4b0:(a0.toList == ([]:List UInt8))=true:=beq_iff_eq.mpr c4;have c4b1:(a0.toList != ([]:List UInt8))=false:=nF_ c4;clear c4
   (first|rw [c4b0]|(simp only [i64_w,i32_w];rw [c4b0])|skip)
   have H':=M_ H;clear H;go_wp2;go_meet
   case rel => exact ⟨_,(true),qnc1_,H',⟨by first|omega|exact Nat.le_refl _⟩,qnc4_⟩
  ·rw [if_neg c4] at H;have c4b0:(a0.toList == ([]:List UInt8))=false:=bF_ c4;have c4b1:(a0.toList != ([]:List UInt8))=true:=bne_iff_ne.mpr c4
   (first|rw [c4b0]|(simp only [i64_w,i32_w];rw [c4b0])|skip)
   have H':=M_ H;clear H;go_wp2;go_meet
   case rel => exact ⟨_,(a1.toList.isEmpty),qnc1_,H',⟨by first|omega|exact Nat.le_refl _⟩,qnc4_⟩
 case rest =>
  clear HC3
  (try clear c4);(try clear c4b0);(try clear c4b1)
  obtain ⟨kq,x12_2,rfl,HA,HJ2,⟨mc2,rfl⟩⟩:=hcut
  cases kq with
  | zero => exact absurd HA.out (by simp [r_numbers.j0])
  | succ kj2 =>
   have H:=HA.out;clear HA;simp only [r_numbers.j0] at H
   by_cases c5:x12_2=true
   ·subst c5;rw [if_pos rfl] at H;obtain ⟨t457,A6,H⟩:=ob_ H;obtain ⟨t458,A7,H⟩:=ob_ H;obtain rfl:=Option.some.inj H;have tk8:=trivial;have tk9:=trivial
    go_wp2_with (first|(clear tk8;(with_reducible refine gate_callee (f:=58) rfl ?_);refine goesL_ (some 17) rfl rfl Tryd.func58 (by kernel_rfl) rfl #[.int .i64 (a0.size:Int),.int .i64 (a1.size:Int)] rfl qnc0_ ?_;(with_reducible refine (r_ints.calls (a0.size:Int) (a1.size:Int) t457 _ A6.out).mono ?_);rintro e w' ⟨rfl,⟨nd,rfl⟩⟩;refine ⟨_,rfl,?_⟩)|(clear tk9;(with_reducible refine gate_callee (f:=107) rfl ?_);refine goesL_ (some 20) rfl rfl Tryd.func107 (by kernel_rfl) rfl #[.string a0,.string a1] rfl qnc0_ ?_;(with_reducible refine (r_one.calls a0 a1 t458 _ A7.out).mono ?_);rintro e w' ⟨rfl,⟨nd,rfl⟩⟩;refine ⟨_,rfl,?_⟩))
    go_ret;exact ⟨qnc1_,qnc4_⟩
   ·replace c5:=Bool.eq_false_iff.mpr c5;subst c5;rw [if_neg (show ¬ (false=true) by decide)] at H;obtain ⟨t459,A10,H⟩:=ob_ H
    by_cases c11:0≤t459
    ·rw [if_pos c11] at H;have c11b0:=eq_true c11;have c11b1:=dT_ c11;clear c11
     by_cases c12:t459≤(a0.size:Int)
     ·rw [if_pos c12] at H;have c12b0:=eq_true c12;have c12b1:=dT_ c12;clear c12;obtain ⟨t460,A13,H⟩:=ob_ H
      by_cases c14:0≤t460
      ·rw [if_pos c14] at H;have c14b0:=eq_true c14;have c14b1:=dT_ c14;clear c14
       by_cases c15:t460≤(a1.size:Int)
       ·rw [if_pos c15] at H;have c15b0:=eq_true c15;have c15b1:=dT_ c15;clear c15
        by_cases c16:((a0.size - t459.toNat:Nat):Int)=((a1.size - t460.toNat:Nat):Int)
        ·rw [if_pos c16] at H;have c16x:=c16
         (try simp [*,-c16,-H] at c16x)
         have c16b0:(((a0.size - t459.toNat:Nat):Int) == ((a1.size - t460.toNat:Nat):Int))=true:=beq_iff_eq.mpr c16;have c16b1:(((a0.size - t459.toNat:Nat):Int) != ((a1.size - t460.toNat:Nat):Int))=false:=nF_ c16;have c16b2:((a0.size - t459.toNat:Nat) == (a1.size - t460.toNat:Nat))=true:=by first|simpa using c16|(simp at c16 ⊢;omega)
         clear c16;obtain ⟨t461,A17,H⟩:=ob_ H;obtain rfl:=Option.some.inj H;have tk18:=trivial;have tk19:=trivial;have tk20:=trivial
         go_wp2_with (first|(clear tk18;(with_reducible refine gate_callee (f:=42) rfl ?_);refine goesL_ (some 24) rfl rfl Tryd.func42 (by kernel_rfl) rfl #[.string a0] rfl qnc0_ ?_;(with_reducible refine (r_zeros.calls kj2 a0 t459 _ A10.out).mono ?_);rintro e w' ⟨rfl,⟨nd,rfl⟩⟩;refine ⟨_,rfl,?_⟩)|(clear tk19;(with_reducible refine gate_callee (f:=42) rfl ?_);refine goesL_ (some 28) rfl rfl Tryd.func42 (by kernel_rfl) rfl #[.string a1] rfl qnc0_ ?_;(with_reducible refine (r_zeros.calls kj2 a1 t460 _ A13.out).mono ?_);rintro e w' ⟨rfl,⟨nd,rfl⟩⟩;refine ⟨_,rfl,?_⟩)|(clear tk20;(with_reducible refine gate_callee (f:=31) rfl ?_);refine goesL_ (some 42) rfl rfl Tryd.func31 (by kernel_rfl) rfl #[.string (a0.extract (t459:Int).toNat a0.size),.string (a1.extract (t460:Int).toNat a1.size)] rfl qnc0_ ?_;(with_reducible refine (r_Bytes.calls kj2 (a0.extract (t459:Int).toNat a0.size) (a1.extract (t460:Int).toNat a1.size) t461 _ A17.out).mono ?_);rintro e w' ⟨rfl,⟨nd,rfl⟩⟩;refine ⟨_,rfl,?_⟩))
         go_ret;exact ⟨qnc1_,qnc4_⟩
        ·rw [if_neg c16] at H;have c16x:=c16
         (try simp [*,-c16,-H] at c16x)
         have c16b0:(((a0.size - t459.toNat:Nat):Int) == ((a1.size - t460.toNat:Nat):Int))=false:=bF_ c16;have c16b1:(((a0.size - t459.toNat:Nat):Int) != ((a1.size - t460.toNat:Nat):Int))=true:=bne_iff_ne.mpr c16;have c16b2:((a0.size - t459.toNat:Nat) == (a1.size - t460.toNat:Nat))=false:=by first|simpa using c16|(simp at c16 ⊢;omega)
         obtain ⟨t462,A21,H⟩:=ob_ H;obtain rfl:=Option.some.inj H;have tk22:=trivial;have tk23:=trivial;have tk24:=trivial
         go_wp2_with (first|(clear tk22;(with_reducible refine gate_callee (f:=42) rfl ?_);refine goesL_ (some 24) rfl rfl Tryd.func42 (by kernel_rfl) rfl #[.string a0] rfl qnc0_ ?_;(with_reducible refine (r_zeros.calls kj2 a0 t459 _ A10.out).mono ?_);rintro e w' ⟨rfl,⟨nd,rfl⟩⟩;refine ⟨_,rfl,?_⟩)|(clear tk23;(with_reducible refine gate_callee (f:=42) rfl ?_);refine goesL_ (some 28) rfl rfl Tryd.func42 (by kernel_rfl) rfl #[.string a1] rfl qnc0_ ?_;(with_reducible refine (r_zeros.calls kj2 a1 t460 _ A13.out).mono ?_);rintro e w' ⟨rfl,⟨nd,rfl⟩⟩;refine ⟨_,rfl,?_⟩)|(clear tk24;(with_reducible refine gate_callee (f:=58) rfl ?_);refine goesL_ (some 39) rfl rfl Tryd.func58 (by kernel_rfl) rfl #[.int .i64 ((a0.size - t459.toNat:Nat):Int),.int .i64 ((a1.size - t460.toNat:Nat):Int)] rfl qnc0_ ?_;(with_reducible refine (r_ints.calls ((a0.size - t459.toNat:Nat):Int) ((a1.size - t460.toNat:Nat):Int) t462 _ A21.out).mono ?_);rintro e w' ⟨rfl,⟨nd,rfl⟩⟩;refine ⟨_,rfl,?_⟩))
         go_ret;exact ⟨qnc1_,qnc4_⟩
       ·rw [if_neg c15] at H;exact absurd H (by simp)
      ·rw [if_neg c14] at H;exact absurd H (by simp)
     ·rw [if_neg c12] at H;exact absurd H (by simp)
    ·rw [if_neg c11] at H;exact absurd H (by simp)

set_option maxHeartbeats 8000000
set_option maxRecDepth 100000

mutual
def r_pairs.l0:Nat→Int→ByteArray→ByteArray→ByteArray→ByteArray→Option (Int)
 | 0,_,_,_,_,_ => none
 | k+1,x5,x464000,x464001,x465000,x465001 => if x5 < (x464000.size:Int) then (r_pairs.j1 k x5 true x464000 x464001 x465000 x465001) else (r_pairs.j1 k x5 (decide (x5 < (x465000.size:Int))) x464000 x464001 x465000 x465001)
def r_pairs.j1:Nat→Int→Bool→ByteArray→ByteArray→ByteArray→ByteArray→Option (Int)
 | 0,_,_,_,_,_,_ => none
 | k+1,x5,x17,x464000,x464001,x465000,x465001 => if x17=true then ((r_rankAt.f k x464000 x5).bind fun t466 => ((r_rankAt.f k x465000 x5).bind fun t467 => (if t466=t467 then (r_pairs.l0 k (wrap64 (x5+1)) x464000 x464001 x465000 x465001) else ((r_rankAt.f k x464000 x5).bind fun t468 => ((r_rankAt.f k x465000 x5).bind fun t469 => ((r_ints.f t468 t469).bind fun t470 => (some t470))))))) else ((r_numbers.f k x464001 x465001).bind fun t465 => (some t465))
end
def r_pairs.f (k:Nat) (a0_0:ByteArray) (a0_1:ByteArray) (a1_0:ByteArray) (a1_1:ByteArray):Option (Int):=r_pairs.l0 k 0 a0_0 a0_1 a1_0 a1_1
theorem r_pairs.calls (k : Nat) (a0_0 : ByteArray) (a0_1 : ByteArray) (a1_0 : ByteArray) (a1_1 : ByteArray) (r : Int) (w : World) (h : r_pairs.f k a0_0 a0_1 a1_0 a1_1 = some r) :
  Calls Tryd.prog 82 #[.agg #[.string a0_0,.string a0_1],.agg #[.string a1_0,.string a1_1]] w fun e w' => e=.returned (.int .i64 r)∧Below w.heap.size w w':=by
 have hu101:=Tryd.underlying101;have HB:=M_ (Below.refl w.heap.size w);have H:(r_pairs.l0 k 0 a0_0 a0_1 a1_0 a1_1)=some r:=h;clear h;have H':=M_ H;clear H
 go_enter Tryd.func82,Tryd.ntmps82
 go_wp2_with (first|((with_reducible refine gate_dst (N:=2) rfl ?_);(try (refine gate_guard (by rfl) ?_;dsimp only));refine box_event ?hg (N:=2) ?hd (cs:=#[.string a0_0,.string a0_1]) (t:=101) ?hr ?_;(case hd => rfl);(case hg => rfl);(case hr => first|(go_simp;done)|(go_simp;rfl));intro gb463 hg w3 hbox hb;have n0_:=M_ (below_step qnc2_ hb);have n1_:=M_ (hbox);have n2_:=M_ ((by rw [hg];exact (below_size qnc2_):w.heap.size≤gb463));have n3_:=n2_;clear HB;have HB:=n0_;have BK463:=n1_;have GW463:=n2_;have GE463:=n3_;clear n0_ n1_ n2_ n3_;clear hb hbox hg)|((with_reducible refine gate_dst (N:=3) rfl ?_);(try (refine gate_guard (by rfl) ?_;dsimp only));refine box_event ?hg (N:=3) ?hd (cs:=#[.string a1_0,.string a1_1]) (t:=101) ?hr ?_;(case hd => rfl);(case hg => rfl);(case hr => first|(go_simp;done)|(go_simp;rfl));intro gb464 hg w4 hbox hb;have n0_:=M_ (blk_below (g:=gb463) (o:=.cells #[.string a0_0,.string a0_1] 101 (0,0)) qnc51_ hb);have n1_:=M_ (below_step qnc57_ hb);have n2_:=M_ (hbox);have n3_:=M_ ((by rw [hg];exact (below_size qnc57_):w.heap.size≤gb464));have n4_:=n3_;have n5_:=M_ ((by rw [hg];exact Nat.ne_of_lt (blk_lt (g:=gb463) (o:=.cells #[.string a0_0,.string a0_1] 101 (0,0)) qnc51_):gb463 ≠ gb464));have n6_:=M_ ((by rw [hg];exact Nat.ne_of_gt (blk_lt (g:=gb463) (o:=.cells #[.string a0_0,.string a0_1] 101 (0,0)) qnc51_):gb464 ≠ gb463));clear BK463;clear HB;have BK463:=n0_;have HB:=n1_;have BK464:=n2_;have GW464:=n3_;have GE464:=n4_;have NB463_464:=n5_;have NB464_463:=n6_;clear n0_ n1_ n2_ n3_ n4_ n5_ n6_;clear hb hbox hg))
 repeat (go_quiet (first|((with_reducible refine gate_dst (N:=2) rfl ?_);(try (refine gate_guard (by rfl) ?_;dsimp only));refine box_event ?hg (N:=2) ?hd (cs:=#[.string a0_0,.string a0_1]) (t:=101) ?hr ?_;(case hd => rfl);(case hg => rfl);(case hr => first|(go_simp;done)|(go_simp;rfl));intro gb463 hg w3 hbox hb;have n0_:=M_ (below_step qnc2_ hb);have n1_:=M_ (hbox);have n2_:=M_ ((by rw [hg];exact (below_size qnc2_):w.heap.size≤gb463));have n3_:=n2_;clear HB;have HB:=n0_;have BK463:=n1_;have GW463:=n2_;have GE463:=n3_;clear n0_ n1_ n2_ n3_;clear hb hbox hg)|((with_reducible refine gate_dst (N:=3) rfl ?_);(try (refine gate_guard (by rfl) ?_;dsimp only));refine box_event ?hg (N:=3) ?hd (cs:=#[.string a1_0,.string a1_1]) (t:=101) ?hr ?_;(case hd => rfl);(case hg => rfl);(case hr => first|(go_simp;done)|(go_simp;rfl));intro gb464 hg w4 hbox hb;have n0_:=M_ (blk_below (g:=gb463) (o:=.cells #[.string a0_0,.string a0_1] 101 (0,0)) qnc51_ hb);have n1_:=M_ (below_step qnc57_ hb);have n2_:=M_ (hbox);have n3_:=M_ ((by rw [hg];exact (below_size qnc57_):w.heap.size≤gb464));have n4_:=n3_;have n5_:=M_ ((by rw [hg];exact Nat.ne_of_lt (blk_lt (g:=gb463) (o:=.cells #[.string a0_0,.string a0_1] 101 (0,0)) qnc51_):gb463 ≠ gb464));have n6_:=M_ ((by rw [hg];exact Nat.ne_of_gt (blk_lt (g:=gb463) (o:=.cells #[.string a0_0,.string a0_1] 101 (0,0)) qnc51_):gb464 ≠ gb463));clear BK463;clear HB;have BK463:=n0_;have HB:=n1_;have BK464:=n2_;have GW464:=n3_;have GE464:=n4_;have NB463_464:=n5_;have NB464_463:=n6_;clear n0_ n1_ n2_ n3_ n4_ n5_ n6_;clear hb hbox hg));try go_wp2_with (first|((with_reducible refine gate_dst (N:=2) rfl ?_);(try (refine gate_guard (by rfl) ?_;dsimp only));refine box_event ?hg (N:=2) ?hd (cs:=#[.string a0_0,.string a0_1]) (t:=101) ?hr ?_;(case hd => rfl);(case hg => rfl);(case hr => first|(go_simp;done)|(go_simp;rfl));intro gb463 hg w3 hbox hb;have n0_:=M_ (below_step qnc2_ hb);have n1_:=M_ (hbox);have n2_:=M_ ((by rw [hg];exact (below_size qnc2_):w.heap.size≤gb463));have n3_:=n2_;clear HB;have HB:=n0_;have BK463:=n1_;have GW463:=n2_;have GE463:=n3_;clear n0_ n1_ n2_ n3_;clear hb hbox hg)|((with_reducible refine gate_dst (N:=3) rfl ?_);(try (refine gate_guard (by rfl) ?_;dsimp only));refine box_event ?hg (N:=3) ?hd (cs:=#[.string a1_0,.string a1_1]) (t:=101) ?hr ?_;(case hd => rfl);(case hg => rfl);(case hr => first|(go_simp;done)|(go_simp;rfl));intro gb464 hg w4 hbox hb;have n0_:=M_ (blk_below (g:=gb463) (o:=.cells #[.string a0_0,.string a0_1] 101 (0,0)) qnc51_ hb);have n1_:=M_ (below_step qnc57_ hb);have n2_:=M_ (hbox);have n3_:=M_ ((by rw [hg];exact (below_size qnc57_):w.heap.size≤gb464));have n4_:=n3_;have n5_:=M_ ((by rw [hg];exact Nat.ne_of_lt (blk_lt (g:=gb463) (o:=.cells #[.string a0_0,.string a0_1] 101 (0,0)) qnc51_):gb463 ≠ gb464));have n6_:=M_ ((by rw [hg];exact Nat.ne_of_gt (blk_lt (g:=gb463) (o:=.cells #[.string a0_0,.string a0_1] 101 (0,0)) qnc51_):gb464 ≠ gb463));clear BK463;clear HB;have BK463:=n0_;have HB:=n1_;have BK464:=n2_;have GW464:=n3_;have GE464:=n4_;have NB463_464:=n5_;have NB464_463:=n6_;clear n0_ n1_ n2_ n3_ n4_ n5_ n6_;clear hb hbox hg)))
 go_loopg [5] k (fun kq v5 w' => ∃ (x5_1:Int),v5=.int .i64 x5_1∧Aside0 (r_pairs.l0 kq x5_1 a0_0 a0_1 a1_0 a1_1=some r)∧Aside0 (kq≤k)∧Aside0 (w'.heap[gb463]?=some (.cells #[.string a0_0,.string a0_1] 101 (0,0)))∧Aside0 (w'.heap[gb464]?=some (.cells #[.string a1_0,.string a1_1] 101 (0,0)))∧Aside0 (Below w.heap.size w w'))
 case atStart => exact ⟨(0),qnc1_,H',⟨Nat.le_refl _⟩,⟨qnc51_⟩,⟨qnc94_⟩,⟨qnc45_⟩⟩
 case round =>
  clear H'
  skip
  obtain ⟨x5_1,rfl,HA,HK1,BK463,BK464,HB⟩:=hrel
  cases gk with
  | zero => exact absurd HA.out (by simp [r_pairs.l0])
  | succ k1 =>
   have H:=HA.out;clear HA;simp only [r_pairs.l0] at H;have HC5:=M_ H;clear H
   go_upto_region 2 with (fail)
   repeat (go_quiet (fail);go_upto_region 2 with (fail))
   go_cut [17] (fun v17 wc => ∃ (kq:Nat) (x17_4:Bool),v17=.bool x17_4∧Aside0 (r_pairs.j1 kq x5_1 x17_4 a0_0 a0_1 a1_0 a1_1=some r)∧Aside0 (kq≤k1)∧Aside0 (wc.heap[gb463]?=some (.cells #[.string a0_0,.string a0_1] 101 (0,0)))∧Aside0 (wc.heap[gb464]?=some (.cells #[.string a1_0,.string a1_1] 101 (0,0)))∧Aside0 (Below w.heap.size w wc))
   case first =>
    have H:=HC5.out;clear HC5
    by_cases c6:x5_1 < (a0_0.size:Int)
    ·rw [if_pos c6] at H;have c6b0:=dT_ c6;clear c6
     (first|rw [c6b0]|(simp only [i64_w,i32_w];rw [c6b0])|skip)
     have H':=M_ H;clear H;have hnb7:=NB463_464.out;have hnc7:=NB464_463.out;have hcz8_0:=bc_ (.string a0_0) BK463.out 0 rfl;have hcz8_1:=bc_ (.string a0_1) BK463.out 1 rfl;have hfz8_0:=bf_ BK463.out 0;have hfz8_1:=bf_ BK463.out 1;go_wp2
     repeat (go_quiet (fail);try go_wp2)
     go_meet
     case rel => exact ⟨_,(true),qnc1_,H',⟨by have:=HK1.out;first|omega|exact Nat.le_refl _⟩,⟨qnc51_⟩,⟨qnc94_⟩,⟨qnc45_⟩⟩
    ·rw [if_neg c6] at H;have c6b0:=dF_ c6;clear c6
     (first|rw [c6b0]|(simp only [i64_w,i32_w];rw [c6b0])|skip)
     have H':=M_ H;clear H;have hnb9:=NB463_464.out;have hnc9:=NB464_463.out;have hcz10_0:=bc_ (.string a0_0) BK463.out 0 rfl;have hcz10_1:=bc_ (.string a0_1) BK463.out 1 rfl;have hfz10_0:=bf_ BK463.out 0;have hfz10_1:=bf_ BK463.out 1;have hcz11_0:=bc_ (.string a1_0) BK464.out 0 rfl;have hcz11_1:=bc_ (.string a1_1) BK464.out 1 rfl;have hfz11_0:=bf_ BK464.out 0;have hfz11_1:=bf_ BK464.out 1;go_wp2
     repeat (go_quiet (fail);try go_wp2)
     go_meet
     case rel => exact ⟨_,(decide (x5_1 < (a1_0.size:Int))),qnc1_,H',⟨by have:=HK1.out;first|omega|exact Nat.le_refl _⟩,⟨qnc51_⟩,⟨qnc94_⟩,⟨qnc45_⟩⟩
   case rest =>
    clear HC5
    (try clear c6);(try clear c6b0);(try clear hcz10_0);(try clear hcz10_1);(try clear hcz11_0);(try clear hcz11_1);(try clear hcz8_0);(try clear hcz8_1);(try clear hfz10_0);(try clear hfz10_1);(try clear hfz11_0);(try clear hfz11_1);(try clear hfz8_0);(try clear hfz8_1)
    obtain ⟨kq,x17_4,rfl,HA,HJ4,BK463,BK464,HB⟩:=hcut
    cases kq with
    | zero => exact absurd HA.out (by simp [r_pairs.j1])
    | succ kj4 =>
     have H:=HA.out;clear HA;simp only [r_pairs.j1] at H
     by_cases c12:x17_4=true
     ·subst c12;rw [if_pos rfl] at H;obtain ⟨t466,A13,H⟩:=ob_ H;obtain ⟨t467,A14,H⟩:=ob_ H
      by_cases c15:t466=t467
      ·rw [if_pos c15] at H;have c15b0:(t466 == t467)=true:=beq_iff_eq.mpr c15;have c15b1:(t466 != t467)=false:=nF_ c15;clear c15;have H':=M_ H;clear H;have hnb16:=NB463_464.out;have hnc16:=NB464_463.out;have hcz17_0:=bc_ (.string a0_0) BK463.out 0 rfl;have hcz17_1:=bc_ (.string a0_1) BK463.out 1 rfl;have hfz17_0:=bf_ BK463.out 0;have hfz17_1:=bf_ BK463.out 1;have hcz18_0:=bc_ (.string a1_0) BK464.out 0 rfl;have hcz18_1:=bc_ (.string a1_1) BK464.out 1 rfl;have hfz18_0:=bf_ BK464.out 0;have hfz18_1:=bf_ BK464.out 1
       go_wp2_with (first|(go_at_call 100;(with_reducible refine (r_rankAt.calls kj4 a0_0 x5_1 t466 _ A13.out).mono ?_);rintro e w' ⟨rfl,⟨nd,rfl⟩⟩;(try first|exact ⟨rfl,_,World.drewN_drewN _ _ _⟩|exact ⟨rfl,_,Eq.trans (World.drewN_drewN _ _ _) (congrArg (World.drewN _) (Nat.add_assoc _ _ _))⟩))|(go_at_call 100;(with_reducible refine (r_rankAt.calls kj4 a1_0 x5_1 t467 _ A14.out).mono ?_);rintro e w' ⟨rfl,⟨nd,rfl⟩⟩;(try first|exact ⟨rfl,_,World.drewN_drewN _ _ _⟩|exact ⟨rfl,_,Eq.trans (World.drewN_drewN _ _ _) (congrArg (World.drewN _) (Nat.add_assoc _ _ _))⟩)))
       repeat (go_quiet (first|(go_at_call 100;(with_reducible refine (r_rankAt.calls kj4 a0_0 x5_1 t466 _ A13.out).mono ?_);rintro e w' ⟨rfl,⟨nd,rfl⟩⟩;(try first|exact ⟨rfl,_,World.drewN_drewN _ _ _⟩|exact ⟨rfl,_,Eq.trans (World.drewN_drewN _ _ _) (congrArg (World.drewN _) (Nat.add_assoc _ _ _))⟩))|(go_at_call 100;(with_reducible refine (r_rankAt.calls kj4 a1_0 x5_1 t467 _ A14.out).mono ?_);rintro e w' ⟨rfl,⟨nd,rfl⟩⟩;(try first|exact ⟨rfl,_,World.drewN_drewN _ _ _⟩|exact ⟨rfl,_,Eq.trans (World.drewN_drewN _ _ _) (congrArg (World.drewN _) (Nat.add_assoc _ _ _))⟩)));try go_wp2_with (first|(go_at_call 100;(with_reducible refine (r_rankAt.calls kj4 a0_0 x5_1 t466 _ A13.out).mono ?_);rintro e w' ⟨rfl,⟨nd,rfl⟩⟩;(try first|exact ⟨rfl,_,World.drewN_drewN _ _ _⟩|exact ⟨rfl,_,Eq.trans (World.drewN_drewN _ _ _) (congrArg (World.drewN _) (Nat.add_assoc _ _ _))⟩))|(go_at_call 100;(with_reducible refine (r_rankAt.calls kj4 a1_0 x5_1 t467 _ A14.out).mono ?_);rintro e w' ⟨rfl,⟨nd,rfl⟩⟩;(try first|exact ⟨rfl,_,World.drewN_drewN _ _ _⟩|exact ⟨rfl,_,Eq.trans (World.drewN_drewN _ _ _) (congrArg (World.drewN _) (Nat.add_assoc _ _ _))⟩))))
       go_roundg kj4
       case measure => have:=HK1.out;have:=HJ4.out;omega
       case rel => exact ⟨(wrap64 (x5_1+1)),qnc1_,H',⟨by have:=HK1.out;have:=HJ4.out;omega⟩,⟨qnc51_⟩,⟨qnc94_⟩,⟨qnc45_⟩⟩
      ·rw [if_neg c15] at H;have c15b0:(t466 == t467)=false:=bF_ c15;have c15b1:(t466 != t467)=true:=bne_iff_ne.mpr c15;obtain ⟨t468,A19,H⟩:=ob_ H;obtain rfl:=Option.some.inj (A13.out.symm.trans A19.out);obtain ⟨t469,A20,H⟩:=ob_ H;obtain rfl:=Option.some.inj (A14.out.symm.trans A20.out);obtain ⟨t470,A21,H⟩:=ob_ H;obtain rfl:=Option.some.inj H;have hnb22:=NB463_464.out;have hnc22:=NB464_463.out;have hcz23_0:=bc_ (.string a0_0) BK463.out 0 rfl;have hcz23_1:=bc_ (.string a0_1) BK463.out 1 rfl;have hfz23_0:=bf_ BK463.out 0;have hfz23_1:=bf_ BK463.out 1;have hcz24_0:=bc_ (.string a1_0) BK464.out 0 rfl;have hcz24_1:=bc_ (.string a1_1) BK464.out 1 rfl;have hfz24_0:=bf_ BK464.out 0;have hfz24_1:=bf_ BK464.out 1
       go_wp2_with (first|(go_at_call 100;(with_reducible refine (r_rankAt.calls kj4 a0_0 x5_1 t466 _ A13.out).mono ?_);rintro e w' ⟨rfl,⟨nd,rfl⟩⟩;(try first|exact ⟨rfl,_,World.drewN_drewN _ _ _⟩|exact ⟨rfl,_,Eq.trans (World.drewN_drewN _ _ _) (congrArg (World.drewN _) (Nat.add_assoc _ _ _))⟩))|(go_at_call 100;(with_reducible refine (r_rankAt.calls kj4 a1_0 x5_1 t467 _ A14.out).mono ?_);rintro e w' ⟨rfl,⟨nd,rfl⟩⟩;(try first|exact ⟨rfl,_,World.drewN_drewN _ _ _⟩|exact ⟨rfl,_,Eq.trans (World.drewN_drewN _ _ _) (congrArg (World.drewN _) (Nat.add_assoc _ _ _))⟩))|(go_at_call 100;(with_reducible refine (r_rankAt.calls kj4 a0_0 x5_1 t466 _ A19.out).mono ?_);rintro e w' ⟨rfl,⟨nd,rfl⟩⟩;(try first|exact ⟨rfl,_,World.drewN_drewN _ _ _⟩|exact ⟨rfl,_,Eq.trans (World.drewN_drewN _ _ _) (congrArg (World.drewN _) (Nat.add_assoc _ _ _))⟩))|(go_at_call 100;(with_reducible refine (r_rankAt.calls kj4 a1_0 x5_1 t467 _ A20.out).mono ?_);rintro e w' ⟨rfl,⟨nd,rfl⟩⟩;(try first|exact ⟨rfl,_,World.drewN_drewN _ _ _⟩|exact ⟨rfl,_,Eq.trans (World.drewN_drewN _ _ _) (congrArg (World.drewN _) (Nat.add_assoc _ _ _))⟩))|(go_at_call 58;(with_reducible refine (r_ints.calls t466 t467 t470 _ A21.out).mono ?_);rintro e w' ⟨rfl,⟨nd,rfl⟩⟩;(try first|exact ⟨rfl,_,World.drewN_drewN _ _ _⟩|exact ⟨rfl,_,Eq.trans (World.drewN_drewN _ _ _) (congrArg (World.drewN _) (Nat.add_assoc _ _ _))⟩)))
       repeat (go_quiet (first|(go_at_call 100;(with_reducible refine (r_rankAt.calls kj4 a0_0 x5_1 t466 _ A13.out).mono ?_);rintro e w' ⟨rfl,⟨nd,rfl⟩⟩;(try first|exact ⟨rfl,_,World.drewN_drewN _ _ _⟩|exact ⟨rfl,_,Eq.trans (World.drewN_drewN _ _ _) (congrArg (World.drewN _) (Nat.add_assoc _ _ _))⟩))|(go_at_call 100;(with_reducible refine (r_rankAt.calls kj4 a1_0 x5_1 t467 _ A14.out).mono ?_);rintro e w' ⟨rfl,⟨nd,rfl⟩⟩;(try first|exact ⟨rfl,_,World.drewN_drewN _ _ _⟩|exact ⟨rfl,_,Eq.trans (World.drewN_drewN _ _ _) (congrArg (World.drewN _) (Nat.add_assoc _ _ _))⟩))|(go_at_call 100;(with_reducible refine (r_rankAt.calls kj4 a0_0 x5_1 t466 _ A19.out).mono ?_);rintro e w' ⟨rfl,⟨nd,rfl⟩⟩;(try first|exact ⟨rfl,_,World.drewN_drewN _ _ _⟩|exact ⟨rfl,_,Eq.trans (World.drewN_drewN _ _ _) (congrArg (World.drewN _) (Nat.add_assoc _ _ _))⟩))|(go_at_call 100;(with_reducible refine (r_rankAt.calls kj4 a1_0 x5_1 t467 _ A20.out).mono ?_);rintro e w' ⟨rfl,⟨nd,rfl⟩⟩;(try first|exact ⟨rfl,_,World.drewN_drewN _ _ _⟩|exact ⟨rfl,_,Eq.trans (World.drewN_drewN _ _ _) (congrArg (World.drewN _) (Nat.add_assoc _ _ _))⟩))|(go_at_call 58;(with_reducible refine (r_ints.calls t466 t467 t470 _ A21.out).mono ?_);rintro e w' ⟨rfl,⟨nd,rfl⟩⟩;(try first|exact ⟨rfl,_,World.drewN_drewN _ _ _⟩|exact ⟨rfl,_,Eq.trans (World.drewN_drewN _ _ _) (congrArg (World.drewN _) (Nat.add_assoc _ _ _))⟩)));try go_wp2_with (first|(go_at_call 100;(with_reducible refine (r_rankAt.calls kj4 a0_0 x5_1 t466 _ A13.out).mono ?_);rintro e w' ⟨rfl,⟨nd,rfl⟩⟩;(try first|exact ⟨rfl,_,World.drewN_drewN _ _ _⟩|exact ⟨rfl,_,Eq.trans (World.drewN_drewN _ _ _) (congrArg (World.drewN _) (Nat.add_assoc _ _ _))⟩))|(go_at_call 100;(with_reducible refine (r_rankAt.calls kj4 a1_0 x5_1 t467 _ A14.out).mono ?_);rintro e w' ⟨rfl,⟨nd,rfl⟩⟩;(try first|exact ⟨rfl,_,World.drewN_drewN _ _ _⟩|exact ⟨rfl,_,Eq.trans (World.drewN_drewN _ _ _) (congrArg (World.drewN _) (Nat.add_assoc _ _ _))⟩))|(go_at_call 100;(with_reducible refine (r_rankAt.calls kj4 a0_0 x5_1 t466 _ A19.out).mono ?_);rintro e w' ⟨rfl,⟨nd,rfl⟩⟩;(try first|exact ⟨rfl,_,World.drewN_drewN _ _ _⟩|exact ⟨rfl,_,Eq.trans (World.drewN_drewN _ _ _) (congrArg (World.drewN _) (Nat.add_assoc _ _ _))⟩))|(go_at_call 100;(with_reducible refine (r_rankAt.calls kj4 a1_0 x5_1 t467 _ A20.out).mono ?_);rintro e w' ⟨rfl,⟨nd,rfl⟩⟩;(try first|exact ⟨rfl,_,World.drewN_drewN _ _ _⟩|exact ⟨rfl,_,Eq.trans (World.drewN_drewN _ _ _) (congrArg (World.drewN _) (Nat.add_assoc _ _ _))⟩))|(go_at_call 58;(with_reducible refine (r_ints.calls t466 t467 t470 _ A21.out).mono ?_);rintro e w' ⟨rfl,⟨nd,rfl⟩⟩;(try first|exact ⟨rfl,_,World.drewN_drewN _ _ _⟩|exact ⟨rfl,_,Eq.trans (World.drewN_drewN _ _ _) (congrArg (World.drewN _) (Nat.add_assoc _ _ _))⟩))))
       go_ret;exact ⟨qnc5_,qnc45_⟩
     ·replace c12:=Bool.eq_false_iff.mpr c12;subst c12;rw [if_neg (show ¬ (false=true) by decide)] at H;obtain ⟨t465,A25,H⟩:=ob_ H;obtain rfl:=Option.some.inj H;have hnb26:=NB463_464.out;have hnc26:=NB464_463.out;have hcz27_0:=bc_ (.string a0_0) BK463.out 0 rfl;have hcz27_1:=bc_ (.string a0_1) BK463.out 1 rfl;have hfz27_0:=bf_ BK463.out 0;have hfz27_1:=bf_ BK463.out 1;have hcz28_0:=bc_ (.string a1_0) BK464.out 0 rfl;have hcz28_1:=bc_ (.string a1_1) BK464.out 1 rfl;have hfz28_0:=bf_ BK464.out 0;have hfz28_1:=bf_ BK464.out 1
      go_wp2_with (first|(go_at_call 101;(with_reducible refine (r_numbers.calls kj4 a0_1 a1_1 t465 _ A25.out).mono ?_);rintro e w' ⟨rfl,⟨nd,rfl⟩⟩;(try first|exact ⟨rfl,_,World.drewN_drewN _ _ _⟩|exact ⟨rfl,_,Eq.trans (World.drewN_drewN _ _ _) (congrArg (World.drewN _) (Nat.add_assoc _ _ _))⟩)))
      repeat (go_quiet (first|(go_at_call 101;(with_reducible refine (r_numbers.calls kj4 a0_1 a1_1 t465 _ A25.out).mono ?_);rintro e w' ⟨rfl,⟨nd,rfl⟩⟩;(try first|exact ⟨rfl,_,World.drewN_drewN _ _ _⟩|exact ⟨rfl,_,Eq.trans (World.drewN_drewN _ _ _) (congrArg (World.drewN _) (Nat.add_assoc _ _ _))⟩)));try go_wp2_with (first|(go_at_call 101;(with_reducible refine (r_numbers.calls kj4 a0_1 a1_1 t465 _ A25.out).mono ?_);rintro e w' ⟨rfl,⟨nd,rfl⟩⟩;(try first|exact ⟨rfl,_,World.drewN_drewN _ _ _⟩|exact ⟨rfl,_,Eq.trans (World.drewN_drewN _ _ _) (congrArg (World.drewN _) (Nat.add_assoc _ _ _))⟩))))
      go_ret;exact ⟨qnc5_,qnc45_⟩

end Go.Proofs.YtcdajedmlfhmeaaDoor.XN
