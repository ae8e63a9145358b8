import Derived.Test.YtcdajedmlfhmeaaDoorZNC0
import Derived.Test.YtcdajedmlfhmeaaDoorZNC1
import Derived.Test.YtcdajedmlfhmeaaDoorZNC6
import Derived.Test.YtcdajedmlfhmeaaDoorZNC7
namespace Go.Proofs.YtcdajedmlfhmeaaDoor.XN
open Go.RowKit Go.Proofs.YtcdajedmlfhmeaaDoorW.PrintWords Go.Proofs.YtcdajedmlfhmeaaDoorW.PrintLast Go.Proofs.YtcdajedmlfhmeaaDoorW.PrintMore
attribute [local go_sem] max2_int min2_int max_two min_two max_three min_three max_four min_four
set_option linter.unusedVariables false
set_option linter.unusedSimpArgs false
set_option maxHeartbeats 8000000
set_option maxRecDepth 100000

def r_signed.j0:Nat→ByteArray→Int→Bool→Bool→Option (Bool × ByteArray × Int × Int × Int)
 | 0,_,_,_,_ => none
 | k+1,x0,x4,x5,x20 => if x20=true then ((r_Plain.f k x0 (wrap64 (x4+1))).bind fun bt199 => (if bt199.2.2 < 0 then (some (false,(⟨#[]⟩:ByteArray),0,0,0)) else (some (true,bt199.1,bt199.2.1,0,bt199.2.2)))) else ((r_Plain.f k x0 x4).bind fun bt202 => (if bt202.2.2 < 0 then (some (false,(⟨#[]⟩:ByteArray),0,0,0)) else (some (x5,bt202.1,bt202.2.1,0,bt202.2.2))))
def r_signed.f (k:Nat) (a0:ByteArray):Option (Bool × ByteArray × Int × Int × Int):=(r_start.f k a0).bind fun t198 => (if t198 < (a0.size:Int) then (if 0≤t198 then (r_signed.j0 k a0 t198 false ((bt a0 t198) == 45)) else (none)) else (r_signed.j0 k a0 t198 false false))
theorem r_signed.calls (k : Nat) (a0 : ByteArray) (r1 : Bool) (r2 : ByteArray) (r3 : Int) (r4 : Int) (r5 : Int) (w : World) (h : r_signed.f k a0 = some (r1, r2, r3, r4, r5)) :
  Calls Tryd.prog 41 #[.string a0] w fun e w' => e=.returned (.tuple #[.agg #[.bool r1,.string r2,.int .i64 r3,.int .i64 r4],.int .i64 r5])∧Below w.heap.size w w':=by
 have hu67:=Tryd.underlying67;have HB:=M_ (Below.refl w.heap.size w);have H:((r_start.f k a0).bind fun t198 => (if t198 < (a0.size:Int) then (if 0≤t198 then (r_signed.j0 k a0 t198 false ((bt a0 t198) == 45)) else (none)) else (r_signed.j0 k a0 t198 false false)))=some (r1,r2,r3,r4,r5):=h;clear h;obtain ⟨t198,A2,H⟩:=ob_ H;have HC3:=M_ H;clear H
 go_enter Tryd.func41,Tryd.ntmps41
 have tk5:=trivial;have tk6:=trivial
 go_upto_region 3 with (first|(clear tk5;(with_reducible refine gate_dst (N:=2) rfl ?_);refine box_event ?hg (N:=2) ?hd (cs:=#[.bool false,.string ⟨#[]⟩,.int .i64 0,.int .i64 0]) (t:=67) ?hr ?_;(case hd => rfl);(case hg => rfl);(case hr => first|(go_simp;done)|(go_simp;rfl));intro gb197 hg w4 hbox hb;have n0_:=M_ (below_step qnc2_ hb);have n1_:=M_ (hbox);have n2_:=M_ ((by rw [hg];exact (below_size qnc2_):w.heap.size≤gb197));have n3_:=n2_;clear HB;have HB:=n0_;have BK197:=n1_;have GW197:=n2_;have GE197:=n3_;clear n0_ n1_ n2_ n3_;clear hb hbox hg)|(clear tk6;(with_reducible refine gate_callee (f:=44) rfl ?_);refine goesL_ (some 10) rfl rfl Tryd.func44 (by kernel_rfl) rfl #[.string a0] rfl qnc0_ ?_;(with_reducible refine (r_start.calls k a0 t198 _ A2.out).mono ?_);rintro e w' ⟨rfl,⟨nd,rfl⟩⟩;refine ⟨_,rfl,?_⟩))
 (try simp only [Act.put,List.setIfInBounds_toArray,List.set_cons_zero,List.set_cons_succ])
 go_cut [20] (fun v20 wc => ∃ (kq:Nat) (x20_2:Bool),v20=.bool x20_2∧Aside0 (r_signed.j0 kq a0 t198 false x20_2=some (r1,r2,r3,r4,r5))∧Aside0 (kq≤k)∧Aside0 (wc.heap[gb197]?=some (.cells #[.bool false,.string ⟨#[]⟩,.int .i64 0,.int .i64 0] 67 (0,0)))∧Aside0 (Below w.heap.size w wc))
 case first =>
  have H:=HC3.out;clear HC3
  by_cases c7:t198 < (a0.size:Int)
  ·rw [if_pos c7] at H;have c7b0:=dT_ c7;clear c7
   (first|rw [c7b0]|(simp only [i64_w,i32_w];rw [c7b0])|skip)
   by_cases c8:0≤t198
   ·rw [if_pos c8] at H;have c8b0:=dT_ c8;clear c8;have H':=M_ H;clear H;have p9:0≤(t198:Int):=oD_ qnc3_;have q9:t198 < (a0.size:Int):=oD_ qnc3_;have hx9:=bt_at a0 t198;replace p9:=eq_true p9;replace q9:=eq_true q9;go_wp2;go_meet
    case rel => exact ⟨_,(((bt a0 t198) == 45)),qnc1_,H',⟨by first|omega|exact Nat.le_refl _⟩,⟨qnc79_⟩,⟨qnc31_⟩⟩
   ·rw [if_neg c8] at H;exact absurd H (by simp)
  ·rw [if_neg c7] at H;have c7b0:=dF_ c7;clear c7
   (first|rw [c7b0]|(simp only [i64_w,i32_w];rw [c7b0])|skip)
   have H':=M_ H;clear H;go_wp2;go_meet
   case rel => exact ⟨_,(false),qnc1_,H',⟨by first|omega|exact Nat.le_refl _⟩,⟨qnc79_⟩,⟨qnc31_⟩⟩
 case rest =>
  clear HC3
  (try clear c7);(try clear c7b0);(try clear c8);(try clear c8b0);(try clear p9);(try clear q9);(try clear hx9)
  obtain ⟨kq,x20_2,rfl,HA,HJ2,BK197,HB⟩:=hcut
  cases kq with
  | zero => exact absurd HA.out (by simp [r_signed.j0])
  | succ kj2 =>
   have H:=HA.out;clear HA;simp only [r_signed.j0] at H
   by_cases c10:x20_2=true
   ·subst c10;rw [if_pos rfl] at H;obtain ⟨⟨t199,t200,t201⟩,A11,H⟩:=ob_ H
    by_cases c12:t201 < 0
    ·rw [if_pos c12] at H;have c12b0:=dT_ c12;clear c12;simp only [Option.some.injEq,Prod.mk.injEq] at H;obtain ⟨rfl,rfl,rfl,rfl,rfl⟩:=H
     go_wp2_with (first|((with_reducible refine gate_callee (f:=46) rfl ?_);refine goesL_ (some 26) rfl rfl Tryd.func46 (by kernel_rfl) rfl #[.string a0,.int .i64 (wrap64 (t198+1))] rfl qnc0_ ?_;(with_reducible refine (r_Plain.calls kj2 a0 (wrap64 (t198+1)) t199 t200 t201 _ A11.out).mono ?_);rintro e w' ⟨rfl,⟨nd,rfl⟩⟩;refine ⟨_,rfl,?_⟩;(try (rw [drewN_self wc];generalize hq_:World.drewN wc _=wc;have n0_:Aside0 (wc.heap[gb197]?=some (.cells #[.bool false,.string ⟨#[]⟩,.int .i64 0,.int .i64 0] 67 (0,0))):=⟨by rw [← hq_];exact qnc79_⟩;have n1_:Aside0 (Below w.heap.size w wc):=⟨by rw [← hq_];exact qnc31_⟩;clear BK197 HB hq_;have BK197:=n0_;have HB:=n1_;clear n0_ n1_));(try (have hcu13_0:wc.cell? ⟨gb197,0,none⟩=some (.bool false):=(blk_cell BK197.out 0).trans rfl;have hfu13_0:=bf_ BK197.out 0;have hcu13_1:wc.cell? ⟨gb197,1,none⟩=some (.string ⟨#[]⟩):=(blk_cell BK197.out 1).trans rfl;have hfu13_1:=bf_ BK197.out 1;have hcu13_2:wc.cell? ⟨gb197,2,none⟩=some (.int .i64 0):=(blk_cell BK197.out 2).trans rfl;have hfu13_2:=bf_ BK197.out 2;have hcu13_3:wc.cell? ⟨gb197,3,none⟩=some (.int .i64 0):=(blk_cell BK197.out 3).trans rfl;have hfu13_3:=bf_ BK197.out 3));have hcz14_0:=bc_ (.bool false) BK197.out 0 rfl;have hcz14_1:=bc_ (.string ⟨#[]⟩) BK197.out 1 rfl;have hcz14_2:=bc_ (.int .i64 0) BK197.out 2 rfl;have hcz14_3:=bc_ (.int .i64 0) BK197.out 3 rfl;have hfz14_0:=bf_ BK197.out 0;have hfz14_1:=bf_ BK197.out 1;have hfz14_2:=bf_ BK197.out 2;have hfz14_3:=bf_ BK197.out 3))
     refine bodyPost_ret (results_ct rfl _ _ gb197 67 #[.bool false,.string ⟨#[]⟩,.int .i64 0,.int .i64 0] (0,0) _ rfl (by (with_reducible repeat first|apply bN_|apply bD_|apply bA_);refine blk_put (cs:=#[.bool false,.string ⟨#[]⟩,.int .i64 0,.int .i64 0]) ?_ 3 _ rfl;(with_reducible repeat first|apply bN_|apply bD_|apply bA_);refine blk_put (cs:=#[.bool false,.string ⟨#[]⟩,.int .i64 0,.int .i64 0]) ?_ 2 _ rfl;(with_reducible repeat first|apply bN_|apply bD_|apply bA_);refine blk_put (cs:=#[.bool false,.string ⟨#[]⟩,.int .i64 0,.int .i64 0]) ?_ 1 _ rfl;(with_reducible repeat first|apply bN_|apply bD_|apply bA_);refine blk_put (cs:=#[.bool false,.string ⟨#[]⟩,.int .i64 0,.int .i64 0]) ?_ 0 _ rfl;(with_reducible repeat first|apply bN_|apply bD_|apply bA_);exact BK197.out) Tryd.underlying67 rfl (by kernel_rfl)) rfl ?_;exact ⟨qnc5_,qnc31_⟩
    ·rw [if_neg c12] at H;have c12b0:=dF_ c12;clear c12;simp only [Option.some.injEq,Prod.mk.injEq] at H;obtain ⟨rfl,rfl,rfl,rfl,rfl⟩:=H
     go_wp2_with (first|((with_reducible refine gate_callee (f:=46) rfl ?_);refine goesL_ (some 26) rfl rfl Tryd.func46 (by kernel_rfl) rfl #[.string a0,.int .i64 (wrap64 (t198+1))] rfl qnc0_ ?_;(with_reducible refine (r_Plain.calls kj2 a0 (wrap64 (t198+1)) t199 t200 t201 _ A11.out).mono ?_);rintro e w' ⟨rfl,⟨nd,rfl⟩⟩;refine ⟨_,rfl,?_⟩;(try (rw [drewN_self wc];generalize hq_:World.drewN wc _=wc;have n0_:Aside0 (wc.heap[gb197]?=some (.cells #[.bool false,.string ⟨#[]⟩,.int .i64 0,.int .i64 0] 67 (0,0))):=⟨by rw [← hq_];exact qnc79_⟩;have n1_:Aside0 (Below w.heap.size w wc):=⟨by rw [← hq_];exact qnc31_⟩;clear BK197 HB hq_;have BK197:=n0_;have HB:=n1_;clear n0_ n1_));(try (have hcu15_0:wc.cell? ⟨gb197,0,none⟩=some (.bool false):=(blk_cell BK197.out 0).trans rfl;have hfu15_0:=bf_ BK197.out 0;have hcu15_1:wc.cell? ⟨gb197,1,none⟩=some (.string ⟨#[]⟩):=(blk_cell BK197.out 1).trans rfl;have hfu15_1:=bf_ BK197.out 1;have hcu15_2:wc.cell? ⟨gb197,2,none⟩=some (.int .i64 0):=(blk_cell BK197.out 2).trans rfl;have hfu15_2:=bf_ BK197.out 2;have hcu15_3:wc.cell? ⟨gb197,3,none⟩=some (.int .i64 0):=(blk_cell BK197.out 3).trans rfl;have hfu15_3:=bf_ BK197.out 3));have hcz16_0:=bc_ (.bool false) BK197.out 0 rfl;have hcz16_1:=bc_ (.string ⟨#[]⟩) BK197.out 1 rfl;have hcz16_2:=bc_ (.int .i64 0) BK197.out 2 rfl;have hcz16_3:=bc_ (.int .i64 0) BK197.out 3 rfl;have hfz16_0:=bf_ BK197.out 0;have hfz16_1:=bf_ BK197.out 1;have hfz16_2:=bf_ BK197.out 2;have hfz16_3:=bf_ BK197.out 3))
     refine bodyPost_ret (results_ct rfl _ _ gb197 67 #[.bool true,.string t199,.int .i64 t200,.int .i64 0] (0,0) _ rfl (by (with_reducible repeat first|apply bN_|apply bD_|apply bA_);refine blk_put (cs:=#[.bool true,.string t199,.int .i64 t200,.int .i64 0]) ?_ 3 _ rfl;(with_reducible repeat first|apply bN_|apply bD_|apply bA_);refine blk_put (cs:=#[.bool true,.string t199,.int .i64 0,.int .i64 0]) ?_ 2 _ rfl;(with_reducible repeat first|apply bN_|apply bD_|apply bA_);refine blk_put (cs:=#[.bool true,.string ⟨#[]⟩,.int .i64 0,.int .i64 0]) ?_ 1 _ rfl;(with_reducible repeat first|apply bN_|apply bD_|apply bA_);refine blk_put (cs:=#[.bool false,.string ⟨#[]⟩,.int .i64 0,.int .i64 0]) ?_ 0 _ rfl;(with_reducible repeat first|apply bN_|apply bD_|apply bA_);exact BK197.out) Tryd.underlying67 rfl (by kernel_rfl)) rfl ?_;exact ⟨qnc5_,qnc31_⟩
   ·replace c10:=Bool.eq_false_iff.mpr c10;subst c10;rw [if_neg (show ¬ (false=true) by decide)] at H;obtain ⟨⟨t202,t203,t204⟩,A17,H⟩:=ob_ H
    by_cases c18:t204 < 0
    ·rw [if_pos c18] at H;have c18b0:=dT_ c18;clear c18;simp only [Option.some.injEq,Prod.mk.injEq] at H;obtain ⟨rfl,rfl,rfl,rfl,rfl⟩:=H
     go_wp2_with (first|((with_reducible refine gate_callee (f:=46) rfl ?_);refine goesL_ (some 26) rfl rfl Tryd.func46 (by kernel_rfl) rfl #[.string a0,.int .i64 t198] rfl qnc0_ ?_;(with_reducible refine (r_Plain.calls kj2 a0 t198 t202 t203 t204 _ A17.out).mono ?_);rintro e w' ⟨rfl,⟨nd,rfl⟩⟩;refine ⟨_,rfl,?_⟩;(try (rw [drewN_self wc];generalize hq_:World.drewN wc _=wc;have n0_:Aside0 (wc.heap[gb197]?=some (.cells #[.bool false,.string ⟨#[]⟩,.int .i64 0,.int .i64 0] 67 (0,0))):=⟨by rw [← hq_];exact qnc79_⟩;have n1_:Aside0 (Below w.heap.size w wc):=⟨by rw [← hq_];exact qnc31_⟩;clear BK197 HB hq_;have BK197:=n0_;have HB:=n1_;clear n0_ n1_));(try (have hcu19_0:wc.cell? ⟨gb197,0,none⟩=some (.bool false):=(blk_cell BK197.out 0).trans rfl;have hfu19_0:=bf_ BK197.out 0;have hcu19_1:wc.cell? ⟨gb197,1,none⟩=some (.string ⟨#[]⟩):=(blk_cell BK197.out 1).trans rfl;have hfu19_1:=bf_ BK197.out 1;have hcu19_2:wc.cell? ⟨gb197,2,none⟩=some (.int .i64 0):=(blk_cell BK197.out 2).trans rfl;have hfu19_2:=bf_ BK197.out 2;have hcu19_3:wc.cell? ⟨gb197,3,none⟩=some (.int .i64 0):=(blk_cell BK197.out 3).trans rfl;have hfu19_3:=bf_ BK197.out 3));have hcz20_0:=bc_ (.bool false) BK197.out 0 rfl;have hcz20_1:=bc_ (.string ⟨#[]⟩) BK197.out 1 rfl;have hcz20_2:=bc_ (.int .i64 0) BK197.out 2 rfl;have hcz20_3:=bc_ (.int .i64 0) BK197.out 3 rfl;have hfz20_0:=bf_ BK197.out 0;have hfz20_1:=bf_ BK197.out 1;have hfz20_2:=bf_ BK197.out 2;have hfz20_3:=bf_ BK197.out 3))
     refine bodyPost_ret (results_ct rfl _ _ gb197 67 #[.bool false,.string ⟨#[]⟩,.int .i64 0,.int .i64 0] (0,0) _ rfl (by (with_reducible repeat first|apply bN_|apply bD_|apply bA_);refine blk_put (cs:=#[.bool false,.string ⟨#[]⟩,.int .i64 0,.int .i64 0]) ?_ 3 _ rfl;(with_reducible repeat first|apply bN_|apply bD_|apply bA_);refine blk_put (cs:=#[.bool false,.string ⟨#[]⟩,.int .i64 0,.int .i64 0]) ?_ 2 _ rfl;(with_reducible repeat first|apply bN_|apply bD_|apply bA_);refine blk_put (cs:=#[.bool false,.string ⟨#[]⟩,.int .i64 0,.int .i64 0]) ?_ 1 _ rfl;(with_reducible repeat first|apply bN_|apply bD_|apply bA_);refine blk_put (cs:=#[.bool false,.string ⟨#[]⟩,.int .i64 0,.int .i64 0]) ?_ 0 _ rfl;(with_reducible repeat first|apply bN_|apply bD_|apply bA_);exact BK197.out) Tryd.underlying67 rfl (by kernel_rfl)) rfl ?_;exact ⟨qnc5_,qnc31_⟩
    ·rw [if_neg c18] at H;have c18b0:=dF_ c18;clear c18;simp only [Option.some.injEq,Prod.mk.injEq] at H;obtain ⟨rfl,rfl,rfl,rfl,rfl⟩:=H
     go_wp2_with (first|((with_reducible refine gate_callee (f:=46) rfl ?_);refine goesL_ (some 26) rfl rfl Tryd.func46 (by kernel_rfl) rfl #[.string a0,.int .i64 t198] rfl qnc0_ ?_;(with_reducible refine (r_Plain.calls kj2 a0 t198 t202 t203 t204 _ A17.out).mono ?_);rintro e w' ⟨rfl,⟨nd,rfl⟩⟩;refine ⟨_,rfl,?_⟩;(try (rw [drewN_self wc];generalize hq_:World.drewN wc _=wc;have n0_:Aside0 (wc.heap[gb197]?=some (.cells #[.bool false,.string ⟨#[]⟩,.int .i64 0,.int .i64 0] 67 (0,0))):=⟨by rw [← hq_];exact qnc79_⟩;have n1_:Aside0 (Below w.heap.size w wc):=⟨by rw [← hq_];exact qnc31_⟩;clear BK197 HB hq_;have BK197:=n0_;have HB:=n1_;clear n0_ n1_));(try (have hcu21_0:wc.cell? ⟨gb197,0,none⟩=some (.bool false):=(blk_cell BK197.out 0).trans rfl;have hfu21_0:=bf_ BK197.out 0;have hcu21_1:wc.cell? ⟨gb197,1,none⟩=some (.string ⟨#[]⟩):=(blk_cell BK197.out 1).trans rfl;have hfu21_1:=bf_ BK197.out 1;have hcu21_2:wc.cell? ⟨gb197,2,none⟩=some (.int .i64 0):=(blk_cell BK197.out 2).trans rfl;have hfu21_2:=bf_ BK197.out 2;have hcu21_3:wc.cell? ⟨gb197,3,none⟩=some (.int .i64 0):=(blk_cell BK197.out 3).trans rfl;have hfu21_3:=bf_ BK197.out 3));have hcz22_0:=bc_ (.bool false) BK197.out 0 rfl;have hcz22_1:=bc_ (.string ⟨#[]⟩) BK197.out 1 rfl;have hcz22_2:=bc_ (.int .i64 0) BK197.out 2 rfl;have hcz22_3:=bc_ (.int .i64 0) BK197.out 3 rfl;have hfz22_0:=bf_ BK197.out 0;have hfz22_1:=bf_ BK197.out 1;have hfz22_2:=bf_ BK197.out 2;have hfz22_3:=bf_ BK197.out 3))
     refine bodyPost_ret (results_ct rfl _ _ gb197 67 #[.bool false,.string t202,.int .i64 t203,.int .i64 0] (0,0) _ rfl (by (with_reducible repeat first|apply bN_|apply bD_|apply bA_);refine blk_put (cs:=#[.bool false,.string t202,.int .i64 t203,.int .i64 0]) ?_ 3 _ rfl;(with_reducible repeat first|apply bN_|apply bD_|apply bA_);refine blk_put (cs:=#[.bool false,.string t202,.int .i64 0,.int .i64 0]) ?_ 2 _ rfl;(with_reducible repeat first|apply bN_|apply bD_|apply bA_);refine blk_put (cs:=#[.bool false,.string ⟨#[]⟩,.int .i64 0,.int .i64 0]) ?_ 1 _ rfl;(with_reducible repeat first|apply bN_|apply bD_|apply bA_);refine blk_put (cs:=#[.bool false,.string ⟨#[]⟩,.int .i64 0,.int .i64 0]) ?_ 0 _ rfl;(with_reducible repeat first|apply bN_|apply bD_|apply bA_);exact BK197.out) Tryd.underlying67 rfl (by kernel_rfl)) rfl ?_;exact ⟨qnc5_,qnc31_⟩

set_option maxHeartbeats 8000000
set_option maxRecDepth 100000

def r_Decimal.f (k:Nat) (a0:ByteArray):Option (Bool × ByteArray × ByteArray × Int):=(r_signed.f k a0).bind fun bt206 => (if bt206.2.2.2.2=0 then (some (false,(⟨#[]⟩:ByteArray),(⟨#[]⟩:ByteArray),0)) else (if 0≤bt206.2.2.1 then (if bt206.2.2.1≤(bt206.2.1.size:Int) then ((r_zeros.f k (bt206.2.1.extract 0 (bt206.2.2.1:Int).toNat)).bind fun t212 => (if 0≤t212 then (if t212≤((bt206.2.2.1.toNat:Nat):Int) then ((r_trimmed.f k (bt206.2.1.extract (bt206.2.2.1:Int).toNat bt206.2.1.size)).bind fun t213 => (if bt206.1=true then (if (bt206.2.2.1.toNat - t212.toNat)+t213.size≤9223372036854775807 then (some ((!((((bt206.2.1.extract 0 (bt206.2.2.1:Int).toNat).extract (t212:Int).toNat bt206.2.2.1.toNat)++t213).toList).isEmpty),(bt206.2.1.extract 0 (bt206.2.2.1:Int).toNat).extract (t212:Int).toNat bt206.2.2.1.toNat,t213,bt206.2.2.2.2)) else (none)) else (some (false,(bt206.2.1.extract 0 (bt206.2.2.1:Int).toNat).extract (t212:Int).toNat bt206.2.2.1.toNat,t213,bt206.2.2.2.2)))) else (none)) else (none))) else (none)) else (none)))
def r_Decimal.T5:Bool × List (List Nat × List Nat):=(true,[([],[]),([],[]),([1],[1]),([0,2],[0,2]),([],[]),([4],[4]),([],[]),([6],[6]),([5,7],[5,7]),([8,2],[8]),([],[]),([3,9,10],[3,9,10]),([],[]),([12,11,9,0,1,2,3,4,5,6,7,8,9,10,11,12],[11,12])])
def r_Decimal.B5:List Nat:=[0,0,2,7,0,16,0,64,240,502,0,2047,0,8191]
theorem r_Decimal.tab5 : rtab .any (opsOf Tryd.f22 5) = r_Decimal.T5 := by kernel_rfl
theorem r_Decimal.bits5 : waitsOk r_Decimal.T5.2 r_Decimal.B5 = true := by kernel_rfl
theorem r_Decimal.calls (k : Nat) (a0 : ByteArray) (r1 : Bool) (r2 : ByteArray) (r3 : ByteArray) (r4 : Int) (w : World) (h : r_Decimal.f k a0 = some (r1, r2, r3, r4)) :
  Calls Tryd.prog 22 #[.string a0] w fun e w' => e=.returned (.agg #[.bool r1,.string r2,.string r3,.int .i64 r4])∧Below w.heap.size w w':=by
 have hu25:=Tryd.underlying25;have hu67:=Tryd.underlying67;have HB:=M_ (Below.refl w.heap.size w);have H:((r_signed.f k a0).bind fun bt206 => (if bt206.2.2.2.2=0 then (some (false,(⟨#[]⟩:ByteArray),(⟨#[]⟩:ByteArray),0)) else (if 0≤bt206.2.2.1 then (if bt206.2.2.1≤(bt206.2.1.size:Int) then ((r_zeros.f k (bt206.2.1.extract 0 (bt206.2.2.1:Int).toNat)).bind fun t212 => (if 0≤t212 then (if t212≤((bt206.2.2.1.toNat:Nat):Int) then ((r_trimmed.f k (bt206.2.1.extract (bt206.2.2.1:Int).toNat bt206.2.1.size)).bind fun t213 => (if bt206.1=true then (if (bt206.2.2.1.toNat - t212.toNat)+t213.size≤9223372036854775807 then (some ((!((((bt206.2.1.extract 0 (bt206.2.2.1:Int).toNat).extract (t212:Int).toNat bt206.2.2.1.toNat)++t213).toList).isEmpty),(bt206.2.1.extract 0 (bt206.2.2.1:Int).toNat).extract (t212:Int).toNat bt206.2.2.1.toNat,t213,bt206.2.2.2.2)) else (none)) else (some (false,(bt206.2.1.extract 0 (bt206.2.2.1:Int).toNat).extract (t212:Int).toNat bt206.2.2.1.toNat,t213,bt206.2.2.2.2)))) else (none)) else (none))) else (none)) else (none))))=some (r1,r2,r3,r4):=h;clear h;obtain ⟨⟨t206,t207,t208,t209,t210⟩,A2,H⟩:=ob_ H
 by_cases c3:t210=0
 ·rw [if_pos c3] at H;have c3b0:(t210 == 0)=true:=beq_iff_eq.mpr c3;have c3b1:(t210 != 0)=false:=nF_ c3;clear c3;simp only [Option.some.injEq,Prod.mk.injEq] at H;obtain ⟨rfl,rfl,rfl,rfl⟩:=H
  go_enter Tryd.func22,Tryd.ntmps22
  have tk10:=trivial;have tk11:=trivial;have tk12:=trivial
  go_wp2_with (first|(clear tk10;(with_reducible refine gate_dst (N:=2) rfl ?_);refine box_event ?hg (N:=2) ?hd (cs:=#[.bool false,.string ⟨#[]⟩,.string ⟨#[]⟩,.int .i64 0]) (t:=25) ?hr ?_;(case hd => rfl);(case hg => rfl);(case hr => first|(go_simp;done)|(go_simp;rfl));intro gb205 hg w4 hbox hb;have n0_:=M_ (below_step qnc2_ hb);have n1_:=M_ (hbox);have n2_:=M_ ((by rw [hg];exact (below_size qnc2_):w.heap.size≤gb205));have n3_:=n2_;clear HB;have HB:=n0_;have BK205:=n1_;have GW205:=n2_;have GE205:=n3_;clear n0_ n1_ n2_ n3_;clear hb hbox hg)|(clear tk11;(with_reducible refine gate_callee (f:=41) rfl ?_);refine goesL_ (some 9) rfl rfl Tryd.func41 (by kernel_rfl) rfl #[.string a0] rfl qnc0_ ?_;(with_reducible refine (r_signed.calls k a0 t206 t207 t208 t209 t210 _ A2.out).mono ?_);rintro e w5 ⟨rfl,hb⟩;refine ⟨_,rfl,?_⟩;have n0_:=M_ (blk_below (g:=gb205) (o:=.cells #[.bool false,.string ⟨#[]⟩,.string ⟨#[]⟩,.int .i64 0] 25 (0,0)) qnc15_ hb);have n1_:=M_ (below_step qnc37_ hb);clear BK205;clear HB;have BK205:=n0_;have HB:=n1_;clear n0_ n1_;(try clear hb))|(clear tk12;(with_reducible refine gate_dst (N:=3) rfl ?_);refine box_event ?hg (N:=3) ?hd (cs:=#[.bool false,.string ⟨#[]⟩,.int .i64 0,.int .i64 0]) (t:=67) ?hr ?_;(case hd => rfl);(case hg => rfl);(case hr => first|(go_simp;done)|(go_simp;rfl));intro gb211 hg w6 hbox hb;have n0_:=M_ (blk_below (g:=gb205) (o:=.cells #[.bool false,.string ⟨#[]⟩,.string ⟨#[]⟩,.int .i64 0] 25 (0,0)) qnc15_ hb);have n1_:=M_ (below_step qnc37_ hb);have n2_:=M_ (hbox);have n3_:=M_ ((by rw [hg];exact (below_size qnc37_):w.heap.size≤gb211));have n4_:=n3_;have n5_:=M_ ((by rw [hg];exact Nat.ne_of_lt (blk_lt (g:=gb205) (o:=.cells #[.bool false,.string ⟨#[]⟩,.string ⟨#[]⟩,.int .i64 0] 25 (0,0)) qnc15_):gb205 ≠ gb211));have n6_:=M_ ((by rw [hg];exact Nat.ne_of_gt (blk_lt (g:=gb205) (o:=.cells #[.bool false,.string ⟨#[]⟩,.string ⟨#[]⟩,.int .i64 0] 25 (0,0)) qnc15_):gb211 ≠ gb205));clear BK205;clear HB;have BK205:=n0_;have HB:=n1_;have BK211:=n2_;have GW211:=n3_;have GE211:=n4_;have NB205_211:=n5_;have NB211_205:=n6_;clear n0_ n1_ n2_ n3_ n4_ n5_ n6_;clear hb hbox hg;have hnb7:=NB211_205.out;have hnc7:=NB205_211.out;have hcz8_0:=bc_ (.bool false) BK211.out 0 rfl;have hcz8_1:=bc_ (.string ⟨#[]⟩) BK211.out 1 rfl;have hcz8_2:=bc_ (.int .i64 0) BK211.out 2 rfl;have hcz8_3:=bc_ (.int .i64 0) BK211.out 3 rfl;have hfz8_0:=bf_ BK211.out 0;have hfz8_1:=bf_ BK211.out 1;have hfz8_2:=bf_ BK211.out 2;have hfz8_3:=bf_ BK211.out 3;have hcz9_0:=bc_ (.bool false) BK205.out 0 rfl;have hcz9_1:=bc_ (.string ⟨#[]⟩) BK205.out 1 rfl;have hcz9_2:=bc_ (.string ⟨#[]⟩) BK205.out 2 rfl;have hcz9_3:=bc_ (.int .i64 0) BK205.out 3 rfl;have hfz9_0:=bf_ BK205.out 0;have hfz9_1:=bf_ BK205.out 1;have hfz9_2:=bf_ BK205.out 2;have hfz9_3:=bf_ BK205.out 3))
  refine bodyPost_ret (results_cell_row rfl _ _ gb205 25 #[.bool false,.string ⟨#[]⟩,.string ⟨#[]⟩,.int .i64 0] (0,0) _ rfl (by (with_reducible repeat first|apply bN_|apply bD_|apply bA_);refine blk_put (cs:=#[.bool false,.string ⟨#[]⟩,.string ⟨#[]⟩,.int .i64 0]) ?_ 3 _ rfl;(with_reducible repeat first|apply bN_|apply bD_|apply bA_);refine blk_put (cs:=#[.bool false,.string ⟨#[]⟩,.string ⟨#[]⟩,.int .i64 0]) ?_ 2 _ rfl;(with_reducible repeat first|apply bN_|apply bD_|apply bA_);refine blk_put (cs:=#[.bool false,.string ⟨#[]⟩,.string ⟨#[]⟩,.int .i64 0]) ?_ 1 _ rfl;(with_reducible repeat first|apply bN_|apply bD_|apply bA_);refine blk_put (cs:=#[.bool false,.string ⟨#[]⟩,.string ⟨#[]⟩,.int .i64 0]) ?_ 0 _ rfl;(with_reducible repeat first|apply bN_|apply bD_|apply bA_);refine blk_far ?_ NB205_211.out _;(with_reducible repeat first|apply bN_|apply bD_|apply bA_);refine blk_far ?_ NB205_211.out _;(with_reducible repeat first|apply bN_|apply bD_|apply bA_);refine blk_far ?_ NB205_211.out _;(with_reducible repeat first|apply bN_|apply bD_|apply bA_);refine blk_far ?_ NB205_211.out _;(with_reducible repeat first|apply bN_|apply bD_|apply bA_);exact BK205.out) Tryd.underlying25 rfl (by kernel_rfl)) rfl ?_;exact ⟨qnc5_,qnc11_⟩
 ·rw [if_neg c3] at H;have c3b0:(t210 == 0)=false:=bF_ c3;have c3b1:(t210 != 0)=true:=bne_iff_ne.mpr c3
  by_cases c13:0≤t208
  ·rw [if_pos c13] at H;have c13b0:=eq_true c13;have c13b1:=dT_ c13;clear c13
   by_cases c14:t208≤(t207.size:Int)
   ·rw [if_pos c14] at H;have c14b0:=eq_true c14;have c14b1:=dT_ c14;clear c14;obtain ⟨t212,A15,H⟩:=ob_ H
    by_cases c16:0≤t212
    ·rw [if_pos c16] at H;have c16b0:=eq_true c16;have c16b1:=dT_ c16;clear c16
     by_cases c17:t212≤((t208.toNat:Nat):Int)
     ·rw [if_pos c17] at H;have c17x:=c17
      (try simp [*,-c17,-H] at c17x)
      have c17b0:=eq_true c17;have c17b1:=dT_ c17;clear c17;have c18b0:=eq_true (oD_ qnc3_:0≤t208);have c19b0:=eq_true (oD_ qnc3_:t208≤(t207.size:Int));obtain ⟨t213,A20,H⟩:=ob_ H
      by_cases c21:t206=true
      ·subst c21;rw [if_pos rfl] at H
       by_cases c22:(t208.toNat - t212.toNat)+t213.size≤9223372036854775807
       ·rw [if_pos c22] at H;have c22b0:=eq_true c22;have c22b1:=dT_ c22
        try have c22b2:(9223372036854775807 < (t208.toNat - t212.toNat)+t213.size)=False:=eq_false (Nat.not_lt.2 c22)
        simp only [Option.some.injEq,Prod.mk.injEq] at H;obtain ⟨rfl,rfl,rfl,rfl⟩:=H
        go_enter Tryd.func22,Tryd.ntmps22
        have tk41:=trivial;have tk42:=trivial;have tk43:=trivial
        try go_wp2_with (first|(clear tk41;(with_reducible refine gate_dst (N:=2) rfl ?_);refine box_event ?hg (N:=2) ?hd (cs:=#[.bool false,.string ⟨#[]⟩,.string ⟨#[]⟩,.int .i64 0]) (t:=25) ?hr ?_;(case hd => rfl);(case hg => rfl);(case hr => first|(go_simp;done)|(go_simp;rfl));intro gb205 hg w23 hbox hb;have n0_:=M_ (below_step qnc2_ hb);have n1_:=M_ (hbox);have n2_:=M_ ((by rw [hg];exact (below_size qnc2_):w.heap.size≤gb205));have n3_:=n2_;clear HB;have HB:=n0_;have BK205:=n1_;have GW205:=n2_;have GE205:=n3_;clear n0_ n1_ n2_ n3_;clear hb hbox hg)|(clear tk42;(with_reducible refine gate_callee (f:=41) rfl ?_);refine goesL_ (some 9) rfl rfl Tryd.func41 (by kernel_rfl) rfl #[.string a0] rfl qnc0_ ?_;(with_reducible refine (r_signed.calls k a0 true t207 t208 t209 t210 _ A2.out).mono ?_);rintro e w24 ⟨rfl,hb⟩;refine ⟨_,rfl,?_⟩;have n0_:=M_ (blk_below (g:=gb205) (o:=.cells #[.bool false,.string ⟨#[]⟩,.string ⟨#[]⟩,.int .i64 0] 25 (0,0)) qnc15_ hb);have n1_:=M_ (below_step qnc37_ hb);clear BK205;clear HB;have BK205:=n0_;have HB:=n1_;clear n0_ n1_;(try clear hb))|(clear tk43;(with_reducible refine gate_dst (N:=3) rfl ?_);refine box_event ?hg (N:=3) ?hd (cs:=#[.bool false,.string ⟨#[]⟩,.int .i64 0,.int .i64 0]) (t:=67) ?hr ?_;(case hd => rfl);(case hg => rfl);(case hr => first|(go_simp;done)|(go_simp;rfl));intro gb211 hg w25 hbox hb;have n0_:=M_ (blk_below (g:=gb205) (o:=.cells #[.bool false,.string ⟨#[]⟩,.string ⟨#[]⟩,.int .i64 0] 25 (0,0)) qnc15_ hb);have n1_:=M_ (below_step qnc37_ hb);have n2_:=M_ (hbox);have n3_:=M_ ((by rw [hg];exact (below_size qnc37_):w.heap.size≤gb211));have n4_:=n3_;have n5_:=M_ ((by rw [hg];exact Nat.ne_of_lt (blk_lt (g:=gb205) (o:=.cells #[.bool false,.string ⟨#[]⟩,.string ⟨#[]⟩,.int .i64 0] 25 (0,0)) qnc15_):gb205 ≠ gb211));have n6_:=M_ ((by rw [hg];exact Nat.ne_of_gt (blk_lt (g:=gb205) (o:=.cells #[.bool false,.string ⟨#[]⟩,.string ⟨#[]⟩,.int .i64 0] 25 (0,0)) qnc15_):gb211 ≠ gb205));clear BK205;clear HB;have BK205:=n0_;have HB:=n1_;have BK211:=n2_;have GW211:=n3_;have GE211:=n4_;have NB205_211:=n5_;have NB211_205:=n6_;clear n0_ n1_ n2_ n3_ n4_ n5_ n6_;clear hb hbox hg;have hnb26:=NB211_205.out;have hnc26:=NB205_211.out;have hcz27_0:=bc_ (.bool false) BK211.out 0 rfl;have hcz27_1:=bc_ (.string ⟨#[]⟩) BK211.out 1 rfl;have hcz27_2:=bc_ (.int .i64 0) BK211.out 2 rfl;have hcz27_3:=bc_ (.int .i64 0) BK211.out 3 rfl;have hfz27_0:=bf_ BK211.out 0;have hfz27_1:=bf_ BK211.out 1;have hfz27_2:=bf_ BK211.out 2;have hfz27_3:=bf_ BK211.out 3))
        have n0_:Aside0 (((((w25.setCell ⟨gb211,0,none⟩ (.bool true)).setCell ⟨gb211,1,none⟩ (.string t207)).setCell ⟨gb211,2,none⟩ (.int .i64 t208)).setCell ⟨gb211,3,none⟩ (.int .i64 t209)).heap[gb205]?=some (.cells #[.bool false,.string ⟨#[]⟩,.string ⟨#[]⟩,.int .i64 0] 25 (0,0))):=⟨by (with_reducible repeat first|apply bN_|apply bD_|apply bA_);refine blk_far ?_ NB205_211.out _;(with_reducible repeat first|apply bN_|apply bD_|apply bA_);refine blk_far ?_ NB205_211.out _;(with_reducible repeat first|apply bN_|apply bD_|apply bA_);refine blk_far ?_ NB205_211.out _;(with_reducible repeat first|apply bN_|apply bD_|apply bA_);refine blk_far ?_ NB205_211.out _;(with_reducible repeat first|apply bN_|apply bD_|apply bA_);exact BK205.out⟩;have n1_:Aside0 (((((w25.setCell ⟨gb211,0,none⟩ (.bool true)).setCell ⟨gb211,1,none⟩ (.string t207)).setCell ⟨gb211,2,none⟩ (.int .i64 t208)).setCell ⟨gb211,3,none⟩ (.int .i64 t209)).heap[gb211]?=some (.cells #[.bool true,.string t207,.int .i64 t208,.int .i64 t209] 67 (0,0))):=⟨by (with_reducible repeat first|apply bN_|apply bD_|apply bA_);refine blk_put (cs:=#[.bool true,.string t207,.int .i64 t208,.int .i64 0]) ?_ 3 _ rfl;(with_reducible repeat first|apply bN_|apply bD_|apply bA_);refine blk_put (cs:=#[.bool true,.string t207,.int .i64 0,.int .i64 0]) ?_ 2 _ rfl;(with_reducible repeat first|apply bN_|apply bD_|apply bA_);refine blk_put (cs:=#[.bool true,.string ⟨#[]⟩,.int .i64 0,.int .i64 0]) ?_ 1 _ rfl;(with_reducible repeat first|apply bN_|apply bD_|apply bA_);refine blk_put (cs:=#[.bool false,.string ⟨#[]⟩,.int .i64 0,.int .i64 0]) ?_ 0 _ rfl;(with_reducible repeat first|apply bN_|apply bD_|apply bA_);exact BK211.out⟩;have n2_:Aside0 (Below w.heap.size w ((((w25.setCell ⟨gb211,0,none⟩ (.bool true)).setCell ⟨gb211,1,none⟩ (.string t207)).setCell ⟨gb211,2,none⟩ (.int .i64 t208)).setCell ⟨gb211,3,none⟩ (.int .i64 t209))):=⟨qnc11_⟩
        (try clear BK205);(try clear BK211);(try clear HB)
        generalize ((((w25.setCell ⟨gb211,0,none⟩ (.bool true)).setCell ⟨gb211,1,none⟩ (.string t207)).setCell ⟨gb211,2,none⟩ (.int .i64 t208)).setCell ⟨gb211,3,none⟩ (.int .i64 t209))=w28 at n0_ n1_ n2_ ⊢
        have BK205:=n0_;have BK211:=n1_;have HB:=n2_;clear n0_ n1_ n2_;have n0_:=M_ (blk_drew BK205.out);have n1_:=M_ (blk_drew BK211.out);have n2_:=M_ (below_drew1 HB.out);clear BK205;clear BK211;clear HB;have BK205:=n0_;have BK211:=n1_;have HB:=n2_;clear n0_ n1_ n2_;refine start_ (n:=14) (S:=fun w' => w'.cell? ⟨gb211,0,none⟩=some (.bool true)∧w'.cell? ⟨gb211,1,none⟩=some (.string t207)∧w'.cell? ⟨gb211,2,none⟩=some (.int .i64 t208)∧w'.cell? ⟨gb211,3,none⟩=some (.int .i64 t209)) (ds:=[]) #[false,false,false,false,false,false,false,false,false,false,false,false,false,false] (by kernel_rfl) rfl rfl ⟨(blk_cell BK211.out 0).trans rfl,(blk_cell BK211.out 1).trans rfl,(blk_cell BK211.out 2).trans rfl,(blk_cell BK211.out 3).trans rfl⟩ (fun hHeld => ?_);refine with_tabW r_Decimal.tab5 r_Decimal.bits5 (fun HT_ HW_ => ?_)
        generalize w28.drew=w29 at BK205 BK211 HB hHeld ⊢
        refine pure_ (i:=0) (N:=some 20) (v:=?_) (a':=?_) #[true,false,false,false,false,false,false,false,false,false,false,false,false,false] rfl rfl (any_of HT_.out (by kernel_rfl)) (fun _ _ _ h => h) (Or.inl ⟨by rfl,?_⟩) ?_ ?_
        rotate_left
        ·intro w'
         go_simp
         with_reducible rfl
        rotate_left
        ·simp only [Act.put,sA_,sZ_,sS_,i64_w,i32_w]
         rfl
        refine pure_ (i:=1) (N:=some 21) (v:=?_) (a':=?_) #[true,true,false,false,false,false,false,false,false,false,false,false,false,false] rfl rfl (any_of HT_.out (by kernel_rfl)) (fun _ _ _ h => h) (Or.inl ⟨by rfl,?_⟩) ?_ ?_
        rotate_left
        ·intro w'
         go_simp
         with_reducible rfl
        rotate_left
        ·simp only [Act.put,sA_,sZ_,sS_,i64_w,i32_w]
         rfl
        refine pure_ (i:=4) (N:=some 24) (v:=?_) (a':=?_) #[true,true,false,false,true,false,false,false,false,false,false,false,false,false] rfl rfl (any_of HT_.out (by kernel_rfl)) (fun _ _ _ h => h) (Or.inl ⟨by rfl,?_⟩) ?_ ?_
        rotate_left
        ·intro w'
         go_simp
         with_reducible rfl
        rotate_left
        ·simp only [Act.put,sA_,sZ_,sS_,i64_w,i32_w]
         rfl
        refine pure_ (i:=6) (N:=some 26) (v:=?_) (a':=?_) #[true,true,false,false,true,false,true,false,false,false,false,false,false,false] rfl rfl (any_of HT_.out (by kernel_rfl)) (fun _ _ _ h => h) (Or.inl ⟨by rfl,?_⟩) ?_ ?_
        rotate_left
        ·intro w'
         go_simp
         with_reducible rfl
        rotate_left
        ·simp only [Act.put,sA_,sZ_,sS_,i64_w,i32_w]
         rfl
        refine pure_ (i:=10) (N:=some 30) (v:=?_) (a':=?_) #[true,true,false,false,true,false,true,false,false,false,true,false,false,false] rfl rfl (any_of HT_.out (by kernel_rfl)) (fun _ _ _ h => h) (Or.inl ⟨by rfl,?_⟩) ?_ ?_
        rotate_left
        ·intro w'
         go_simp
         with_reducible rfl
        rotate_left
        ·simp only [Act.put,sA_,sZ_,sS_,i64_w,i32_w]
         rfl
        refine take_ (i:=5) (N:=some 25) (v:=?_) (a':=?_) #[true,true,false,false,true,true,true,false,false,false,true,false,false,false] rfl rfl (take_ofW HT_.out HW_.out (by kernel_rfl)) (fun _ _ _ h => h) (Or.inl ⟨by rfl,?_⟩) hHeld ?_ ?_
        rotate_left
        ·rintro w' ⟨s0,s1,s2,s3⟩
         go_simp
         with_reducible rfl
        rotate_left
        ·simp only [Act.put,sA_,sZ_,sS_,i64_w,i32_w]
         rfl
        refine take_ (i:=7) (N:=some 27) (v:=?_) (a':=?_) #[true,true,false,false,true,true,true,true,false,false,true,false,false,false] rfl rfl (take_ofW HT_.out HW_.out (by kernel_rfl)) (fun _ _ _ h => h) (Or.inl ⟨by rfl,?_⟩) hHeld ?_ ?_
        rotate_left
        ·rintro w' ⟨s0,s1,s2,s3⟩
         go_simp
         with_reducible rfl
        rotate_left
        ·simp only [Act.put,sA_,sZ_,sS_,i64_w,i32_w]
         rfl
        refine pure_ (i:=8) (N:=some 28) (v:=?_) (a':=?_) #[true,true,false,false,true,true,true,true,true,false,true,false,false,false] rfl rfl (any_of HT_.out (by kernel_rfl)) (fun _ _ _ h => h) (Or.inl ⟨by rfl,?_⟩) ?_ ?_
        rotate_left
        ·intro w'
         go_simp
         with_reducible rfl
        rotate_left
        ·simp only [Act.put,sA_,sZ_,sS_,i64_w,i32_w]
         rfl
        refine join_ (σ:=Nat) 1 #[true,true,true,true,true,true,true,true,true,true,true,true,true,false] (fun s_ => [(22,.int .i64 t212),(29,.string t213),(6,.pointer (some ⟨s_,0,none⟩)),(23,.string ((t207.extract 0 (t208:Int).toNat).extract (t212:Int).toNat t208.toNat)),(31,.agg #[.bool false,.string ((t207.extract 0 (t208:Int).toNat).extract (t212:Int).toNat t208.toNat),.string t213,.int .i64 t210])]) (fun s_ w' => (w'.cell? ⟨gb211,0,none⟩=some (.bool true)∧w'.cell? ⟨gb211,1,none⟩=some (.string t207)∧w'.cell? ⟨gb211,2,none⟩=some (.int .i64 t208)∧w'.cell? ⟨gb211,3,none⟩=some (.int .i64 t209))∧(w'.heap[gb205]?=some (.cells #[.bool false,.string ⟨#[]⟩,.string ⟨#[]⟩,.int .i64 0] 25 (0,0)))∧(w'.heap[gb211]?=some (.cells #[.bool true,.string t207,.int .i64 t208,.int .i64 t209] 67 (0,0)))∧(w'.heap[s_]?=some (.cells #[.bool false,.string ⟨#[]⟩,.string ⟨#[]⟩,.int .i64 0] 25 (0,0)))∧(w.heap.size≤s_)∧(w.heap.size≤s_)∧(gb205 ≠ s_)∧(s_ ≠ gb205)∧(gb211 ≠ s_)∧(s_ ≠ gb211)∧(Below w.heap.size w w')) ?_ ?_
        rotate_left
        ·intro hCont
         refine two_ (i:=2) (j:=12) (Ni:=some 22) (Nj:=some 6) #[true,true,true,false,true,true,true,true,true,false,true,false,false,false] #[true,true,false,false,true,true,true,true,true,false,true,false,true,false] rfl rfl rfl rfl (two_of HT_.out (by kernel_rfl)) (by decide) (by decide) (fun K hK => ?_) (fun K hK => ?_)
         ·skip
          refine goes_ Tryd.func42 (by kernel_rfl) rfl #[.string (t207.extract 0 (t208:Int).toNat)] (by rfl) rfl rfl qnc0_ ?_
          with_reducible refine (r_zeros.calls k (t207.extract 0 (t208:Int).toNat) t212 _ A15.out).mono ?_
          rintro e w' ⟨rfl,⟨nd,rfl⟩⟩
          refine ⟨_,rfl,?_⟩;refine hK.out _ _ ⟨(blk_cell BK211.out 0).trans rfl,(blk_cell BK211.out 1).trans rfl,(blk_cell BK211.out 2).trans rfl,(blk_cell BK211.out 3).trans rfl⟩ (fun hHeld => ?_);clear hK K;refine norm_ (a':=?_) ?_ ?_
          rotate_left
          ·show Act.put _ (some 22) _=_
           simp only [Act.put,sA_,sZ_,sS_,i64_w,i32_w]
           rfl
          refine pure_ (i:=3) (N:=some 23) (v:=?_) (a':=?_) #[true,true,true,true,true,true,true,true,true,false,true,false,false,false] rfl rfl (any_of HT_.out (by kernel_rfl)) (fun _ _ _ h => h) (Or.inl ⟨by rfl,?_⟩) ?_ ?_
          rotate_left
          ·intro w'
           go_simp
           with_reducible rfl
          rotate_left
          ·simp only [Act.put,sA_,sZ_,sS_,i64_w,i32_w]
           rfl
          refine two_ (i:=9) (j:=12) (Ni:=some 29) (Nj:=some 6) #[true,true,true,true,true,true,true,true,true,true,true,false,false,false] #[true,true,true,true,true,true,true,true,true,false,true,false,true,false] rfl rfl rfl rfl (two_of HT_.out (by kernel_rfl)) (by decide) (by decide) (fun K hK => ?_) (fun K hK => ?_)
          ·skip
           refine goes_ Tryd.func43 (by kernel_rfl) rfl #[.string (t207.extract (t208:Int).toNat t207.size)] (by rfl) rfl rfl qnc0_ ?_
           with_reducible refine (r_trimmed.calls k (t207.extract (t208:Int).toNat t207.size) t213 _ A20.out).mono ?_
           rintro e w' ⟨rfl,⟨nd,rfl⟩⟩
           refine ⟨_,rfl,?_⟩;refine hK.out _ _ ⟨(blk_cell BK211.out 0).trans rfl,(blk_cell BK211.out 1).trans rfl,(blk_cell BK211.out 2).trans rfl,(blk_cell BK211.out 3).trans rfl⟩ (fun hHeld => ?_);clear hK K;refine norm_ (a':=?_) ?_ ?_
           rotate_left
           ·show Act.put _ (some 29) _=_
            simp only [Act.put,sA_,sZ_,sS_,i64_w,i32_w]
            rfl
           refine pure_ (i:=11) (N:=some 31) (v:=?_) (a':=?_) #[true,true,true,true,true,true,true,true,true,true,true,true,false,false] rfl rfl (any_of HT_.out (by kernel_rfl)) (fun _ _ _ h => h) (Or.inl ⟨by rfl,?_⟩) ?_ ?_
           rotate_left
           ·intro w'
            go_simp
            with_reducible rfl
           rotate_left
           ·simp only [Act.put,sA_,sZ_,sS_,i64_w,i32_w]
            rfl
           refine one_ (i:=12) (N:=some 6) #[true,true,true,true,true,true,true,true,true,true,true,true,true,false] rfl rfl (one_of HT_.out (by kernel_rfl)) (by decide) (fun K hK => ?_);refine box_step ?hg (N:=6) ?hd (cs:=#[.bool false,.string ⟨#[]⟩,.string ⟨#[]⟩,.int .i64 0]) (t:=25) ?hr ?_;(case hd => rfl);(case hg => rfl);(case hr => first|(go_simp;done)|(go_simp;rfl))
           intro gb214 hg w30 hbox hb
           have n0_:=M_ (blk_below (g:=gb205) (o:=.cells #[.bool false,.string ⟨#[]⟩,.string ⟨#[]⟩,.int .i64 0] 25 (0,0)) qnc15_ hb);have n1_:=M_ (blk_below (g:=gb211) (o:=.cells #[.bool true,.string t207,.int .i64 t208,.int .i64 t209] 67 (0,0)) qnc22_ hb);have n2_:=M_ (below_step qnc11_ hb);have n3_:=M_ (hbox);have n4_:=M_ ((by rw [hg];exact (below_size qnc11_):w.heap.size≤gb214));have n5_:=M_ ((by rw [hg];exact (below_size qnc11_):w.heap.size≤gb214));have n6_:=M_ ((by rw [hg];exact Nat.ne_of_lt (blk_lt (g:=gb205) (o:=.cells #[.bool false,.string ⟨#[]⟩,.string ⟨#[]⟩,.int .i64 0] 25 (0,0)) qnc15_):gb205 ≠ gb214));have n7_:=M_ ((by rw [hg];exact Nat.ne_of_gt (blk_lt (g:=gb205) (o:=.cells #[.bool false,.string ⟨#[]⟩,.string ⟨#[]⟩,.int .i64 0] 25 (0,0)) qnc15_):gb214 ≠ gb205));have n8_:=M_ ((by rw [hg];exact Nat.ne_of_lt (blk_lt (g:=gb211) (o:=.cells #[.bool true,.string t207,.int .i64 t208,.int .i64 t209] 67 (0,0)) qnc22_):gb211 ≠ gb214));have n9_:=M_ ((by rw [hg];exact Nat.ne_of_gt (blk_lt (g:=gb211) (o:=.cells #[.bool true,.string t207,.int .i64 t208,.int .i64 t209] 67 (0,0)) qnc22_):gb214 ≠ gb211));clear BK205;clear BK211;clear HB;have BK205:=n0_;have BK211:=n1_;have HB:=n2_;have BK214:=n3_;have GW214:=n4_;have GE214:=n5_;have NB205_214:=n6_;have NB214_205:=n7_;have NB211_214:=n8_;have NB214_211:=n9_;clear n0_ n1_ n2_ n3_ n4_ n5_ n6_ n7_ n8_ n9_;clear hb hbox hg;refine hK.out _ _ ⟨(blk_cell BK211.out 0).trans rfl,(blk_cell BK211.out 1).trans rfl,(blk_cell BK211.out 2).trans rfl,(blk_cell BK211.out 3).trans rfl⟩ (fun hHeld => ?_);clear hK K;refine norm_ (a':=?_) ?_ ?_
           rotate_left
           ·show Act.put _ (some 6) _=_
            simp only [Act.put,sA_,sZ_,sS_,i64_w,i32_w]
            rfl
           exact norm_ qnc35_ (hCont (gb214) _ ⟨hHeld,qnc15_,qnc22_,qnc78_,GW214.out,GE214.out,NB205_214.out,NB214_205.out,NB211_214.out,NB214_211.out,qnc28_⟩)
          ·skip
           refine box_step ?hg (N:=6) ?hd (cs:=#[.bool false,.string ⟨#[]⟩,.string ⟨#[]⟩,.int .i64 0]) (t:=25) ?hr ?_;(case hd => rfl);(case hg => rfl);(case hr => first|(go_simp;done)|(go_simp;rfl))
           intro gb214 hg w30 hbox hb
           have n0_:=M_ (blk_below (g:=gb205) (o:=.cells #[.bool false,.string ⟨#[]⟩,.string ⟨#[]⟩,.int .i64 0] 25 (0,0)) qnc15_ hb);have n1_:=M_ (blk_below (g:=gb211) (o:=.cells #[.bool true,.string t207,.int .i64 t208,.int .i64 t209] 67 (0,0)) qnc22_ hb);have n2_:=M_ (below_step qnc11_ hb);have n3_:=M_ (hbox);have n4_:=M_ ((by rw [hg];exact (below_size qnc11_):w.heap.size≤gb214));have n5_:=M_ ((by rw [hg];exact (below_size qnc11_):w.heap.size≤gb214));have n6_:=M_ ((by rw [hg];exact Nat.ne_of_lt (blk_lt (g:=gb205) (o:=.cells #[.bool false,.string ⟨#[]⟩,.string ⟨#[]⟩,.int .i64 0] 25 (0,0)) qnc15_):gb205 ≠ gb214));have n7_:=M_ ((by rw [hg];exact Nat.ne_of_gt (blk_lt (g:=gb205) (o:=.cells #[.bool false,.string ⟨#[]⟩,.string ⟨#[]⟩,.int .i64 0] 25 (0,0)) qnc15_):gb214 ≠ gb205));have n8_:=M_ ((by rw [hg];exact Nat.ne_of_lt (blk_lt (g:=gb211) (o:=.cells #[.bool true,.string t207,.int .i64 t208,.int .i64 t209] 67 (0,0)) qnc22_):gb211 ≠ gb214));have n9_:=M_ ((by rw [hg];exact Nat.ne_of_gt (blk_lt (g:=gb211) (o:=.cells #[.bool true,.string t207,.int .i64 t208,.int .i64 t209] 67 (0,0)) qnc22_):gb214 ≠ gb211));clear BK205;clear BK211;clear HB;have BK205:=n0_;have BK211:=n1_;have HB:=n2_;have BK214:=n3_;have GW214:=n4_;have GE214:=n5_;have NB205_214:=n6_;have NB214_205:=n7_;have NB211_214:=n8_;have NB214_211:=n9_;clear n0_ n1_ n2_ n3_ n4_ n5_ n6_ n7_ n8_ n9_;clear hb hbox hg;refine hK.out _ _ ⟨(blk_cell BK211.out 0).trans rfl,(blk_cell BK211.out 1).trans rfl,(blk_cell BK211.out 2).trans rfl,(blk_cell BK211.out 3).trans rfl⟩ (fun hHeld => ?_);clear hK K;refine norm_ (a':=?_) ?_ ?_
           rotate_left
           ·show Act.put _ (some 6) _=_
            simp only [Act.put,sA_,sZ_,sS_,i64_w,i32_w]
            rfl
           refine one_ (i:=9) (N:=some 29) #[true,true,true,true,true,true,true,true,true,true,true,false,true,false] rfl rfl (one_of HT_.out (by kernel_rfl)) (by decide) (fun K hK => ?_);refine goes_ Tryd.func43 (by kernel_rfl) rfl #[.string (t207.extract (t208:Int).toNat t207.size)] (by rfl) rfl rfl qnc0_ ?_
           with_reducible refine (r_trimmed.calls k (t207.extract (t208:Int).toNat t207.size) t213 _ A20.out).mono ?_
           rintro e w' ⟨rfl,⟨nd,rfl⟩⟩
           refine ⟨_,rfl,?_⟩;refine hK.out _ _ ⟨(blk_cell BK211.out 0).trans rfl,(blk_cell BK211.out 1).trans rfl,(blk_cell BK211.out 2).trans rfl,(blk_cell BK211.out 3).trans rfl⟩ (fun hHeld => ?_);clear hK K;refine norm_ (a':=?_) ?_ ?_
           rotate_left
           ·show Act.put _ (some 29) _=_
            simp only [Act.put,sA_,sZ_,sS_,i64_w,i32_w]
            rfl
           refine pure_ (i:=11) (N:=some 31) (v:=?_) (a':=?_) #[true,true,true,true,true,true,true,true,true,true,true,true,true,false] rfl rfl (any_of HT_.out (by kernel_rfl)) (fun _ _ _ h => h) (Or.inl ⟨by rfl,?_⟩) ?_ ?_
           rotate_left
           ·intro w'
            go_simp
            with_reducible rfl
           rotate_left
           ·simp only [Act.put,sA_,sZ_,sS_,i64_w,i32_w]
            rfl
           exact norm_ qnc35_ (hCont (gb214) _ ⟨hHeld,qnc15_,qnc22_,qnc78_,GW214.out,GE214.out,NB205_214.out,NB214_205.out,NB211_214.out,NB214_211.out,qnc28_⟩)
         ·skip
          refine box_step ?hg (N:=6) ?hd (cs:=#[.bool false,.string ⟨#[]⟩,.string ⟨#[]⟩,.int .i64 0]) (t:=25) ?hr ?_;(case hd => rfl);(case hg => rfl);(case hr => first|(go_simp;done)|(go_simp;rfl))
          intro gb214 hg w30 hbox hb
          have n0_:=M_ (blk_below (g:=gb205) (o:=.cells #[.bool false,.string ⟨#[]⟩,.string ⟨#[]⟩,.int .i64 0] 25 (0,0)) qnc15_ hb);have n1_:=M_ (blk_below (g:=gb211) (o:=.cells #[.bool true,.string t207,.int .i64 t208,.int .i64 t209] 67 (0,0)) qnc22_ hb);have n2_:=M_ (below_step qnc11_ hb);have n3_:=M_ (hbox);have n4_:=M_ ((by rw [hg];exact (below_size qnc11_):w.heap.size≤gb214));have n5_:=M_ ((by rw [hg];exact (below_size qnc11_):w.heap.size≤gb214));have n6_:=M_ ((by rw [hg];exact Nat.ne_of_lt (blk_lt (g:=gb205) (o:=.cells #[.bool false,.string ⟨#[]⟩,.string ⟨#[]⟩,.int .i64 0] 25 (0,0)) qnc15_):gb205 ≠ gb214));have n7_:=M_ ((by rw [hg];exact Nat.ne_of_gt (blk_lt (g:=gb205) (o:=.cells #[.bool false,.string ⟨#[]⟩,.string ⟨#[]⟩,.int .i64 0] 25 (0,0)) qnc15_):gb214 ≠ gb205));have n8_:=M_ ((by rw [hg];exact Nat.ne_of_lt (blk_lt (g:=gb211) (o:=.cells #[.bool true,.string t207,.int .i64 t208,.int .i64 t209] 67 (0,0)) qnc22_):gb211 ≠ gb214));have n9_:=M_ ((by rw [hg];exact Nat.ne_of_gt (blk_lt (g:=gb211) (o:=.cells #[.bool true,.string t207,.int .i64 t208,.int .i64 t209] 67 (0,0)) qnc22_):gb214 ≠ gb211));clear BK205;clear BK211;clear HB;have BK205:=n0_;have BK211:=n1_;have HB:=n2_;have BK214:=n3_;have GW214:=n4_;have GE214:=n5_;have NB205_214:=n6_;have NB214_205:=n7_;have NB211_214:=n8_;have NB214_211:=n9_;clear n0_ n1_ n2_ n3_ n4_ n5_ n6_ n7_ n8_ n9_;clear hb hbox hg;refine hK.out _ _ ⟨(blk_cell BK211.out 0).trans rfl,(blk_cell BK211.out 1).trans rfl,(blk_cell BK211.out 2).trans rfl,(blk_cell BK211.out 3).trans rfl⟩ (fun hHeld => ?_);clear hK K;refine norm_ (a':=?_) ?_ ?_
          rotate_left
          ·show Act.put _ (some 6) _=_
           simp only [Act.put,sA_,sZ_,sS_,i64_w,i32_w]
           rfl
          refine one_ (i:=2) (N:=some 22) #[true,true,true,false,true,true,true,true,true,false,true,false,true,false] rfl rfl (one_of HT_.out (by kernel_rfl)) (by decide) (fun K hK => ?_);refine goes_ Tryd.func42 (by kernel_rfl) rfl #[.string (t207.extract 0 (t208:Int).toNat)] (by rfl) rfl rfl qnc0_ ?_
          with_reducible refine (r_zeros.calls k (t207.extract 0 (t208:Int).toNat) t212 _ A15.out).mono ?_
          rintro e w' ⟨rfl,⟨nd,rfl⟩⟩
          refine ⟨_,rfl,?_⟩;refine hK.out _ _ ⟨(blk_cell BK211.out 0).trans rfl,(blk_cell BK211.out 1).trans rfl,(blk_cell BK211.out 2).trans rfl,(blk_cell BK211.out 3).trans rfl⟩ (fun hHeld => ?_);clear hK K;refine norm_ (a':=?_) ?_ ?_
          rotate_left
          ·show Act.put _ (some 22) _=_
           simp only [Act.put,sA_,sZ_,sS_,i64_w,i32_w]
           rfl
          refine pure_ (i:=3) (N:=some 23) (v:=?_) (a':=?_) #[true,true,true,true,true,true,true,true,true,false,true,false,true,false] rfl rfl (any_of HT_.out (by kernel_rfl)) (fun _ _ _ h => h) (Or.inl ⟨by rfl,?_⟩) ?_ ?_
          rotate_left
          ·intro w'
           go_simp
           with_reducible rfl
          rotate_left
          ·simp only [Act.put,sA_,sZ_,sS_,i64_w,i32_w]
           rfl
          refine one_ (i:=9) (N:=some 29) #[true,true,true,true,true,true,true,true,true,true,true,false,true,false] rfl rfl (one_of HT_.out (by kernel_rfl)) (by decide) (fun K hK => ?_);refine goes_ Tryd.func43 (by kernel_rfl) rfl #[.string (t207.extract (t208:Int).toNat t207.size)] (by rfl) rfl rfl qnc0_ ?_
          with_reducible refine (r_trimmed.calls k (t207.extract (t208:Int).toNat t207.size) t213 _ A20.out).mono ?_
          rintro e w' ⟨rfl,⟨nd,rfl⟩⟩
          refine ⟨_,rfl,?_⟩;refine hK.out _ _ ⟨(blk_cell BK211.out 0).trans rfl,(blk_cell BK211.out 1).trans rfl,(blk_cell BK211.out 2).trans rfl,(blk_cell BK211.out 3).trans rfl⟩ (fun hHeld => ?_);clear hK K;refine norm_ (a':=?_) ?_ ?_
          rotate_left
          ·show Act.put _ (some 29) _=_
           simp only [Act.put,sA_,sZ_,sS_,i64_w,i32_w]
           rfl
          refine pure_ (i:=11) (N:=some 31) (v:=?_) (a':=?_) #[true,true,true,true,true,true,true,true,true,true,true,true,true,false] rfl rfl (any_of HT_.out (by kernel_rfl)) (fun _ _ _ h => h) (Or.inl ⟨by rfl,?_⟩) ?_ ?_
          rotate_left
          ·intro w'
           go_simp
           with_reducible rfl
          rotate_left
          ·simp only [Act.put,sA_,sZ_,sS_,i64_w,i32_w]
           rfl
          exact norm_ qnc35_ (hCont (gb214) _ ⟨hHeld,qnc15_,qnc22_,qnc78_,GW214.out,GE214.out,NB205_214.out,NB214_205.out,NB211_214.out,NB214_211.out,qnc28_⟩)
        rintro gb214 w31 ⟨hS_,h0_,h1_,h2_,h3_,h4_,h5_,h6_,h7_,h8_,h9_⟩
        have n0_:Aside0 (w31.heap[gb205]?=some (.cells #[.bool false,.string ⟨#[]⟩,.string ⟨#[]⟩,.int .i64 0] 25 (0,0))):=⟨h0_⟩;have n1_:Aside0 (w31.heap[gb211]?=some (.cells #[.bool true,.string t207,.int .i64 t208,.int .i64 t209] 67 (0,0))):=⟨h1_⟩;have n2_:Aside0 (w31.heap[gb214]?=some (.cells #[.bool false,.string ⟨#[]⟩,.string ⟨#[]⟩,.int .i64 0] 25 (0,0))):=⟨h2_⟩;have n3_:Aside0 (w.heap.size≤gb214):=⟨h3_⟩;have n4_:Aside0 (w.heap.size≤gb214):=⟨h4_⟩;have n5_:Aside0 (gb205 ≠ gb214):=⟨h5_⟩;have n6_:Aside0 (gb214 ≠ gb205):=⟨h6_⟩;have n7_:Aside0 (gb211 ≠ gb214):=⟨h7_⟩;have n8_:Aside0 (gb214 ≠ gb211):=⟨h8_⟩;have n9_:Aside0 (Below w.heap.size w w31):=⟨h9_⟩;clear BK205;clear BK211;clear HB;clear h0_ h1_ h2_ h3_ h4_ h5_ h6_ h7_ h8_ h9_;have BK205:=n0_;have BK211:=n1_;have BK214:=n2_;have GW214:=n3_;have GE214:=n4_;have NB205_214:=n5_;have NB214_205:=n6_;have NB211_214:=n7_;have NB214_211:=n8_;have HB:=n9_;clear n0_ n1_ n2_ n3_ n4_ n5_ n6_ n7_ n8_ n9_;have hHeld:w31.cell? ⟨gb211,0,none⟩=some (.bool true)∧w31.cell? ⟨gb211,1,none⟩=some (.string t207)∧w31.cell? ⟨gb211,2,none⟩=some (.int .i64 t208)∧w31.cell? ⟨gb211,3,none⟩=some (.int .i64 t209):=hS_;refine norm_ (a':=?_) ?_ ?_
        rotate_left
        ·simp only [putAll,Act.put,List.setIfInBounds_toArray,List.set_cons_zero,List.set_cons_succ]
         rfl
        refine one_ (i:=13) (N:=none) #[true,true,true,true,true,true,true,true,true,true,true,true,true,true] rfl rfl (one_of HT_.out (by kernel_rfl)) (by decide) (fun K hK => ?_);have hs32:w31.cell? ⟨gb214,0,none⟩=some (.bool false):=(blk_cell BK214.out 0).trans rfl;have hfs32:=bf_ BK214.out 0;have hns32_0:=NB205_214.out;have hns32_1:=NB211_214.out;have hms32_0:=NB214_205.out;have hms32_1:=NB214_211.out;have hs33:w31.cell? ⟨gb214,1,none⟩=some (.string ⟨#[]⟩):=(blk_cell BK214.out 1).trans rfl;have hfs33:=bf_ BK214.out 1;have hns33_0:=NB205_214.out;have hns33_1:=NB211_214.out;have hms33_0:=NB214_205.out;have hms33_1:=NB214_211.out;have hs34:w31.cell? ⟨gb214,2,none⟩=some (.string ⟨#[]⟩):=(blk_cell BK214.out 2).trans rfl;have hfs34:=bf_ BK214.out 2;have hns34_0:=NB205_214.out;have hns34_1:=NB211_214.out;have hms34_0:=NB214_205.out;have hms34_1:=NB214_211.out;have hs35:w31.cell? ⟨gb214,3,none⟩=some (.int .i64 0):=(blk_cell BK214.out 3).trans rfl;have hfs35:=bf_ BK214.out 3;have hns35_0:=NB205_214.out;have hns35_1:=NB211_214.out;have hms35_0:=NB214_205.out;have hms35_1:=NB214_211.out;refine skip_ (w1:=?_) (by rfl) rfl ?_ ?_
        rotate_left
        ·go_simp
         rfl
        refine hK.out _ _ ⟨((cell_far (p:=⟨gb214,_,none⟩) NB211_214.out _).trans (((cell_far (p:=⟨gb214,_,none⟩) NB211_214.out _).trans (((cell_far (p:=⟨gb214,_,none⟩) NB211_214.out _).trans (((cell_far (p:=⟨gb214,_,none⟩) NB211_214.out _).trans (hHeld.1)))))))),((cell_far (p:=⟨gb214,_,none⟩) NB211_214.out _).trans (((cell_far (p:=⟨gb214,_,none⟩) NB211_214.out _).trans (((cell_far (p:=⟨gb214,_,none⟩) NB211_214.out _).trans (((cell_far (p:=⟨gb214,_,none⟩) NB211_214.out _).trans (hHeld.2.1)))))))),((cell_far (p:=⟨gb214,_,none⟩) NB211_214.out _).trans (((cell_far (p:=⟨gb214,_,none⟩) NB211_214.out _).trans (((cell_far (p:=⟨gb214,_,none⟩) NB211_214.out _).trans (((cell_far (p:=⟨gb214,_,none⟩) NB211_214.out _).trans (hHeld.2.2.1)))))))),((cell_far (p:=⟨gb214,_,none⟩) NB211_214.out _).trans (((cell_far (p:=⟨gb214,_,none⟩) NB211_214.out _).trans (((cell_far (p:=⟨gb214,_,none⟩) NB211_214.out _).trans (((cell_far (p:=⟨gb214,_,none⟩) NB211_214.out _).trans (hHeld.2.2.2))))))))⟩ (fun hHeld => ?_);clear hK K;refine done_ (done_of HT_.out (by kernel_rfl)) ?_;have hnb36:=NB211_214.out;have hnc36:=NB214_211.out;have hcz37_0:=bc_ (.bool true) BK211.out 0 rfl;have hcz37_1:=bc_ (.string t207) BK211.out 1 rfl;have hcz37_2:=bc_ (.int .i64 t208) BK211.out 2 rfl;have hcz37_3:=bc_ (.int .i64 t209) BK211.out 3 rfl;have hfz37_0:=bf_ BK211.out 0;have hfz37_1:=bf_ BK211.out 1;have hfz37_2:=bf_ BK211.out 2;have hfz37_3:=bf_ BK211.out 3;have hnb38:=NB214_205.out;have hnc38:=NB205_214.out;have hcz39_0:=bc_ (.bool false) BK214.out 0 rfl;have hcz39_1:=bc_ (.string ⟨#[]⟩) BK214.out 1 rfl;have hcz39_2:=bc_ (.string ⟨#[]⟩) BK214.out 2 rfl;have hcz39_3:=bc_ (.int .i64 0) BK214.out 3 rfl;have hfz39_0:=bf_ BK214.out 0;have hfz39_1:=bf_ BK214.out 1;have hfz39_2:=bf_ BK214.out 2;have hfz39_3:=bf_ BK214.out 3;have hcz40_0:=bc_ (.bool false) BK205.out 0 rfl;have hcz40_1:=bc_ (.string ⟨#[]⟩) BK205.out 1 rfl;have hcz40_2:=bc_ (.string ⟨#[]⟩) BK205.out 2 rfl;have hcz40_3:=bc_ (.int .i64 0) BK205.out 3 rfl;have hfz40_0:=bf_ BK205.out 0;have hfz40_1:=bf_ BK205.out 1;have hfz40_2:=bf_ BK205.out 2;have hfz40_3:=bf_ BK205.out 3
        try go_wp2
        refine bodyPost_ret (results_cell_row rfl _ _ gb205 25 #[.bool (!((((t207.extract 0 (t208:Int).toNat).extract (t212:Int).toNat t208.toNat)++t213).toList).isEmpty),.string ((t207.extract 0 (t208:Int).toNat).extract (t212:Int).toNat t208.toNat),.string t213,.int .i64 t210] (0,0) _ rfl (by (with_reducible repeat first|apply bN_|apply bD_|apply bA_);refine blk_put (cs:=#[.bool (!((((t207.extract 0 (t208:Int).toNat).extract (t212:Int).toNat t208.toNat)++t213).toList).isEmpty),.string ((t207.extract 0 (t208:Int).toNat).extract (t212:Int).toNat t208.toNat),.string t213,.int .i64 0]) ?_ 3 _ rfl;(with_reducible repeat first|apply bN_|apply bD_|apply bA_);refine blk_put (cs:=#[.bool (!((((t207.extract 0 (t208:Int).toNat).extract (t212:Int).toNat t208.toNat)++t213).toList).isEmpty),.string ((t207.extract 0 (t208:Int).toNat).extract (t212:Int).toNat t208.toNat),.string ⟨#[]⟩,.int .i64 0]) ?_ 2 _ rfl;(with_reducible repeat first|apply bN_|apply bD_|apply bA_);refine blk_put (cs:=#[.bool (!((((t207.extract 0 (t208:Int).toNat).extract (t212:Int).toNat t208.toNat)++t213).toList).isEmpty),.string ⟨#[]⟩,.string ⟨#[]⟩,.int .i64 0]) ?_ 1 _ rfl;(with_reducible repeat first|apply bN_|apply bD_|apply bA_);refine blk_put (cs:=#[.bool false,.string ⟨#[]⟩,.string ⟨#[]⟩,.int .i64 0]) ?_ 0 _ rfl;(with_reducible repeat first|apply bN_|apply bD_|apply bA_);refine blk_far ?_ NB205_214.out _;(with_reducible repeat first|apply bN_|apply bD_|apply bA_);refine blk_far ?_ NB205_214.out _;(with_reducible repeat first|apply bN_|apply bD_|apply bA_);refine blk_far ?_ NB205_214.out _;(with_reducible repeat first|apply bN_|apply bD_|apply bA_);refine blk_far ?_ NB205_214.out _;(with_reducible repeat first|apply bN_|apply bD_|apply bA_);refine blk_far ?_ NB205_214.out _;(with_reducible repeat first|apply bN_|apply bD_|apply bA_);exact BK205.out) Tryd.underlying25 rfl (by kernel_rfl)) rfl ?_;exact ⟨qnc5_,qnc28_⟩
       ·rw [if_neg c22] at H;exact absurd H (by simp)
      ·replace c21:=Bool.eq_false_iff.mpr c21;subst c21;rw [if_neg (show ¬ (false=true) by decide)] at H;simp only [Option.some.injEq,Prod.mk.injEq] at H;obtain ⟨rfl,rfl,rfl,rfl⟩:=H
       go_enter Tryd.func22,Tryd.ntmps22
       have tk62:=trivial;have tk63:=trivial;have tk64:=trivial
       try go_wp2_with (first|(clear tk62;(with_reducible refine gate_dst (N:=2) rfl ?_);refine box_event ?hg (N:=2) ?hd (cs:=#[.bool false,.string ⟨#[]⟩,.string ⟨#[]⟩,.int .i64 0]) (t:=25) ?hr ?_;(case hd => rfl);(case hg => rfl);(case hr => first|(go_simp;done)|(go_simp;rfl));intro gb205 hg w44 hbox hb;have n0_:=M_ (below_step qnc2_ hb);have n1_:=M_ (hbox);have n2_:=M_ ((by rw [hg];exact (below_size qnc2_):w.heap.size≤gb205));have n3_:=n2_;clear HB;have HB:=n0_;have BK205:=n1_;have GW205:=n2_;have GE205:=n3_;clear n0_ n1_ n2_ n3_;clear hb hbox hg)|(clear tk63;(with_reducible refine gate_callee (f:=41) rfl ?_);refine goesL_ (some 9) rfl rfl Tryd.func41 (by kernel_rfl) rfl #[.string a0] rfl qnc0_ ?_;(with_reducible refine (r_signed.calls k a0 false t207 t208 t209 t210 _ A2.out).mono ?_);rintro e w45 ⟨rfl,hb⟩;refine ⟨_,rfl,?_⟩;have n0_:=M_ (blk_below (g:=gb205) (o:=.cells #[.bool false,.string ⟨#[]⟩,.string ⟨#[]⟩,.int .i64 0] 25 (0,0)) qnc15_ hb);have n1_:=M_ (below_step qnc37_ hb);clear BK205;clear HB;have BK205:=n0_;have HB:=n1_;clear n0_ n1_;(try clear hb))|(clear tk64;(with_reducible refine gate_dst (N:=3) rfl ?_);refine box_event ?hg (N:=3) ?hd (cs:=#[.bool false,.string ⟨#[]⟩,.int .i64 0,.int .i64 0]) (t:=67) ?hr ?_;(case hd => rfl);(case hg => rfl);(case hr => first|(go_simp;done)|(go_simp;rfl));intro gb211 hg w46 hbox hb;have n0_:=M_ (blk_below (g:=gb205) (o:=.cells #[.bool false,.string ⟨#[]⟩,.string ⟨#[]⟩,.int .i64 0] 25 (0,0)) qnc15_ hb);have n1_:=M_ (below_step qnc37_ hb);have n2_:=M_ (hbox);have n3_:=M_ ((by rw [hg];exact (below_size qnc37_):w.heap.size≤gb211));have n4_:=n3_;have n5_:=M_ ((by rw [hg];exact Nat.ne_of_lt (blk_lt (g:=gb205) (o:=.cells #[.bool false,.string ⟨#[]⟩,.string ⟨#[]⟩,.int .i64 0] 25 (0,0)) qnc15_):gb205 ≠ gb211));have n6_:=M_ ((by rw [hg];exact Nat.ne_of_gt (blk_lt (g:=gb205) (o:=.cells #[.bool false,.string ⟨#[]⟩,.string ⟨#[]⟩,.int .i64 0] 25 (0,0)) qnc15_):gb211 ≠ gb205));clear BK205;clear HB;have BK205:=n0_;have HB:=n1_;have BK211:=n2_;have GW211:=n3_;have GE211:=n4_;have NB205_211:=n5_;have NB211_205:=n6_;clear n0_ n1_ n2_ n3_ n4_ n5_ n6_;clear hb hbox hg;have hnb47:=NB211_205.out;have hnc47:=NB205_211.out;have hcz48_0:=bc_ (.bool false) BK211.out 0 rfl;have hcz48_1:=bc_ (.string ⟨#[]⟩) BK211.out 1 rfl;have hcz48_2:=bc_ (.int .i64 0) BK211.out 2 rfl;have hcz48_3:=bc_ (.int .i64 0) BK211.out 3 rfl;have hfz48_0:=bf_ BK211.out 0;have hfz48_1:=bf_ BK211.out 1;have hfz48_2:=bf_ BK211.out 2;have hfz48_3:=bf_ BK211.out 3))
       have n0_:Aside0 (((((w46.setCell ⟨gb211,0,none⟩ (.bool false)).setCell ⟨gb211,1,none⟩ (.string t207)).setCell ⟨gb211,2,none⟩ (.int .i64 t208)).setCell ⟨gb211,3,none⟩ (.int .i64 t209)).heap[gb205]?=some (.cells #[.bool false,.string ⟨#[]⟩,.string ⟨#[]⟩,.int .i64 0] 25 (0,0))):=⟨by (with_reducible repeat first|apply bN_|apply bD_|apply bA_);refine blk_far ?_ NB205_211.out _;(with_reducible repeat first|apply bN_|apply bD_|apply bA_);refine blk_far ?_ NB205_211.out _;(with_reducible repeat first|apply bN_|apply bD_|apply bA_);refine blk_far ?_ NB205_211.out _;(with_reducible repeat first|apply bN_|apply bD_|apply bA_);refine blk_far ?_ NB205_211.out _;(with_reducible repeat first|apply bN_|apply bD_|apply bA_);exact BK205.out⟩;have n1_:Aside0 (((((w46.setCell ⟨gb211,0,none⟩ (.bool false)).setCell ⟨gb211,1,none⟩ (.string t207)).setCell ⟨gb211,2,none⟩ (.int .i64 t208)).setCell ⟨gb211,3,none⟩ (.int .i64 t209)).heap[gb211]?=some (.cells #[.bool false,.string t207,.int .i64 t208,.int .i64 t209] 67 (0,0))):=⟨by (with_reducible repeat first|apply bN_|apply bD_|apply bA_);refine blk_put (cs:=#[.bool false,.string t207,.int .i64 t208,.int .i64 0]) ?_ 3 _ rfl;(with_reducible repeat first|apply bN_|apply bD_|apply bA_);refine blk_put (cs:=#[.bool false,.string t207,.int .i64 0,.int .i64 0]) ?_ 2 _ rfl;(with_reducible repeat first|apply bN_|apply bD_|apply bA_);refine blk_put (cs:=#[.bool false,.string ⟨#[]⟩,.int .i64 0,.int .i64 0]) ?_ 1 _ rfl;(with_reducible repeat first|apply bN_|apply bD_|apply bA_);refine blk_put (cs:=#[.bool false,.string ⟨#[]⟩,.int .i64 0,.int .i64 0]) ?_ 0 _ rfl;(with_reducible repeat first|apply bN_|apply bD_|apply bA_);exact BK211.out⟩;have n2_:Aside0 (Below w.heap.size w ((((w46.setCell ⟨gb211,0,none⟩ (.bool false)).setCell ⟨gb211,1,none⟩ (.string t207)).setCell ⟨gb211,2,none⟩ (.int .i64 t208)).setCell ⟨gb211,3,none⟩ (.int .i64 t209))):=⟨qnc11_⟩
       (try clear BK205);(try clear BK211);(try clear HB)
       generalize ((((w46.setCell ⟨gb211,0,none⟩ (.bool false)).setCell ⟨gb211,1,none⟩ (.string t207)).setCell ⟨gb211,2,none⟩ (.int .i64 t208)).setCell ⟨gb211,3,none⟩ (.int .i64 t209))=w49 at n0_ n1_ n2_ ⊢
       have BK205:=n0_;have BK211:=n1_;have HB:=n2_;clear n0_ n1_ n2_;have n0_:=M_ (blk_drew BK205.out);have n1_:=M_ (blk_drew BK211.out);have n2_:=M_ (below_drew1 HB.out);clear BK205;clear BK211;clear HB;have BK205:=n0_;have BK211:=n1_;have HB:=n2_;clear n0_ n1_ n2_;refine start_ (n:=14) (S:=fun w' => w'.cell? ⟨gb211,0,none⟩=some (.bool false)∧w'.cell? ⟨gb211,1,none⟩=some (.string t207)∧w'.cell? ⟨gb211,2,none⟩=some (.int .i64 t208)∧w'.cell? ⟨gb211,3,none⟩=some (.int .i64 t209)) (ds:=[]) #[false,false,false,false,false,false,false,false,false,false,false,false,false,false] (by kernel_rfl) rfl rfl ⟨(blk_cell BK211.out 0).trans rfl,(blk_cell BK211.out 1).trans rfl,(blk_cell BK211.out 2).trans rfl,(blk_cell BK211.out 3).trans rfl⟩ (fun hHeld => ?_);refine with_tabW r_Decimal.tab5 r_Decimal.bits5 (fun HT_ HW_ => ?_)
       generalize w49.drew=w50 at BK205 BK211 HB hHeld ⊢
       refine pure_ (i:=0) (N:=some 20) (v:=?_) (a':=?_) #[true,false,false,false,false,false,false,false,false,false,false,false,false,false] rfl rfl (any_of HT_.out (by kernel_rfl)) (fun _ _ _ h => h) (Or.inl ⟨by rfl,?_⟩) ?_ ?_
       rotate_left
       ·intro w'
        go_simp
        with_reducible rfl
       rotate_left
       ·simp only [Act.put,sA_,sZ_,sS_,i64_w,i32_w]
        rfl
       refine pure_ (i:=1) (N:=some 21) (v:=?_) (a':=?_) #[true,true,false,false,false,false,false,false,false,false,false,false,false,false] rfl rfl (any_of HT_.out (by kernel_rfl)) (fun _ _ _ h => h) (Or.inl ⟨by rfl,?_⟩) ?_ ?_
       rotate_left
       ·intro w'
        go_simp
        with_reducible rfl
       rotate_left
       ·simp only [Act.put,sA_,sZ_,sS_,i64_w,i32_w]
        rfl
       refine pure_ (i:=4) (N:=some 24) (v:=?_) (a':=?_) #[true,true,false,false,true,false,false,false,false,false,false,false,false,false] rfl rfl (any_of HT_.out (by kernel_rfl)) (fun _ _ _ h => h) (Or.inl ⟨by rfl,?_⟩) ?_ ?_
       rotate_left
       ·intro w'
        go_simp
        with_reducible rfl
       rotate_left
       ·simp only [Act.put,sA_,sZ_,sS_,i64_w,i32_w]
        rfl
       refine pure_ (i:=6) (N:=some 26) (v:=?_) (a':=?_) #[true,true,false,false,true,false,true,false,false,false,false,false,false,false] rfl rfl (any_of HT_.out (by kernel_rfl)) (fun _ _ _ h => h) (Or.inl ⟨by rfl,?_⟩) ?_ ?_
       rotate_left
       ·intro w'
        go_simp
        with_reducible rfl
       rotate_left
       ·simp only [Act.put,sA_,sZ_,sS_,i64_w,i32_w]
        rfl
       refine pure_ (i:=10) (N:=some 30) (v:=?_) (a':=?_) #[true,true,false,false,true,false,true,false,false,false,true,false,false,false] rfl rfl (any_of HT_.out (by kernel_rfl)) (fun _ _ _ h => h) (Or.inl ⟨by rfl,?_⟩) ?_ ?_
       rotate_left
       ·intro w'
        go_simp
        with_reducible rfl
       rotate_left
       ·simp only [Act.put,sA_,sZ_,sS_,i64_w,i32_w]
        rfl
       refine take_ (i:=5) (N:=some 25) (v:=?_) (a':=?_) #[true,true,false,false,true,true,true,false,false,false,true,false,false,false] rfl rfl (take_ofW HT_.out HW_.out (by kernel_rfl)) (fun _ _ _ h => h) (Or.inl ⟨by rfl,?_⟩) hHeld ?_ ?_
       rotate_left
       ·rintro w' ⟨s0,s1,s2,s3⟩
        go_simp
        with_reducible rfl
       rotate_left
       ·simp only [Act.put,sA_,sZ_,sS_,i64_w,i32_w]
        rfl
       refine take_ (i:=7) (N:=some 27) (v:=?_) (a':=?_) #[true,true,false,false,true,true,true,true,false,false,true,false,false,false] rfl rfl (take_ofW HT_.out HW_.out (by kernel_rfl)) (fun _ _ _ h => h) (Or.inl ⟨by rfl,?_⟩) hHeld ?_ ?_
       rotate_left
       ·rintro w' ⟨s0,s1,s2,s3⟩
        go_simp
        with_reducible rfl
       rotate_left
       ·simp only [Act.put,sA_,sZ_,sS_,i64_w,i32_w]
        rfl
       refine pure_ (i:=8) (N:=some 28) (v:=?_) (a':=?_) #[true,true,false,false,true,true,true,true,true,false,true,false,false,false] rfl rfl (any_of HT_.out (by kernel_rfl)) (fun _ _ _ h => h) (Or.inl ⟨by rfl,?_⟩) ?_ ?_
       rotate_left
       ·intro w'
        go_simp
        with_reducible rfl
       rotate_left
       ·simp only [Act.put,sA_,sZ_,sS_,i64_w,i32_w]
        rfl
       refine join_ (σ:=Nat) 1 #[true,true,true,true,true,true,true,true,true,true,true,true,true,false] (fun s_ => [(22,.int .i64 t212),(29,.string t213),(6,.pointer (some ⟨s_,0,none⟩)),(23,.string ((t207.extract 0 (t208:Int).toNat).extract (t212:Int).toNat t208.toNat)),(31,.agg #[.bool false,.string ((t207.extract 0 (t208:Int).toNat).extract (t212:Int).toNat t208.toNat),.string t213,.int .i64 t210])]) (fun s_ w' => (w'.cell? ⟨gb211,0,none⟩=some (.bool false)∧w'.cell? ⟨gb211,1,none⟩=some (.string t207)∧w'.cell? ⟨gb211,2,none⟩=some (.int .i64 t208)∧w'.cell? ⟨gb211,3,none⟩=some (.int .i64 t209))∧(w'.heap[gb205]?=some (.cells #[.bool false,.string ⟨#[]⟩,.string ⟨#[]⟩,.int .i64 0] 25 (0,0)))∧(w'.heap[gb211]?=some (.cells #[.bool false,.string t207,.int .i64 t208,.int .i64 t209] 67 (0,0)))∧(w'.heap[s_]?=some (.cells #[.bool false,.string ⟨#[]⟩,.string ⟨#[]⟩,.int .i64 0] 25 (0,0)))∧(w.heap.size≤s_)∧(w.heap.size≤s_)∧(gb205 ≠ s_)∧(s_ ≠ gb205)∧(gb211 ≠ s_)∧(s_ ≠ gb211)∧(Below w.heap.size w w')) ?_ ?_
       rotate_left
       ·intro hCont
        refine two_ (i:=2) (j:=12) (Ni:=some 22) (Nj:=some 6) #[true,true,true,false,true,true,true,true,true,false,true,false,false,false] #[true,true,false,false,true,true,true,true,true,false,true,false,true,false] rfl rfl rfl rfl (two_of HT_.out (by kernel_rfl)) (by decide) (by decide) (fun K hK => ?_) (fun K hK => ?_)
        ·skip
         refine goes_ Tryd.func42 (by kernel_rfl) rfl #[.string (t207.extract 0 (t208:Int).toNat)] (by rfl) rfl rfl qnc0_ ?_
         with_reducible refine (r_zeros.calls k (t207.extract 0 (t208:Int).toNat) t212 _ A15.out).mono ?_
         rintro e w' ⟨rfl,⟨nd,rfl⟩⟩
         refine ⟨_,rfl,?_⟩;refine hK.out _ _ ⟨(blk_cell BK211.out 0).trans rfl,(blk_cell BK211.out 1).trans rfl,(blk_cell BK211.out 2).trans rfl,(blk_cell BK211.out 3).trans rfl⟩ (fun hHeld => ?_);clear hK K;refine norm_ (a':=?_) ?_ ?_
         rotate_left
         ·show Act.put _ (some 22) _=_
          simp only [Act.put,sA_,sZ_,sS_,i64_w,i32_w]
          rfl
         refine pure_ (i:=3) (N:=some 23) (v:=?_) (a':=?_) #[true,true,true,true,true,true,true,true,true,false,true,false,false,false] rfl rfl (any_of HT_.out (by kernel_rfl)) (fun _ _ _ h => h) (Or.inl ⟨by rfl,?_⟩) ?_ ?_
         rotate_left
         ·intro w'
          go_simp
          with_reducible rfl
         rotate_left
         ·simp only [Act.put,sA_,sZ_,sS_,i64_w,i32_w]
          rfl
         refine two_ (i:=9) (j:=12) (Ni:=some 29) (Nj:=some 6) #[true,true,true,true,true,true,true,true,true,true,true,false,false,false] #[true,true,true,true,true,true,true,true,true,false,true,false,true,false] rfl rfl rfl rfl (two_of HT_.out (by kernel_rfl)) (by decide) (by decide) (fun K hK => ?_) (fun K hK => ?_)
         ·skip
          refine goes_ Tryd.func43 (by kernel_rfl) rfl #[.string (t207.extract (t208:Int).toNat t207.size)] (by rfl) rfl rfl qnc0_ ?_
          with_reducible refine (r_trimmed.calls k (t207.extract (t208:Int).toNat t207.size) t213 _ A20.out).mono ?_
          rintro e w' ⟨rfl,⟨nd,rfl⟩⟩
          refine ⟨_,rfl,?_⟩;refine hK.out _ _ ⟨(blk_cell BK211.out 0).trans rfl,(blk_cell BK211.out 1).trans rfl,(blk_cell BK211.out 2).trans rfl,(blk_cell BK211.out 3).trans rfl⟩ (fun hHeld => ?_);clear hK K;refine norm_ (a':=?_) ?_ ?_
          rotate_left
          ·show Act.put _ (some 29) _=_
           simp only [Act.put,sA_,sZ_,sS_,i64_w,i32_w]
           rfl
          refine pure_ (i:=11) (N:=some 31) (v:=?_) (a':=?_) #[true,true,true,true,true,true,true,true,true,true,true,true,false,false] rfl rfl (any_of HT_.out (by kernel_rfl)) (fun _ _ _ h => h) (Or.inl ⟨by rfl,?_⟩) ?_ ?_
          rotate_left
          ·intro w'
           go_simp
           with_reducible rfl
          rotate_left
          ·simp only [Act.put,sA_,sZ_,sS_,i64_w,i32_w]
           rfl
          refine one_ (i:=12) (N:=some 6) #[true,true,true,true,true,true,true,true,true,true,true,true,true,false] rfl rfl (one_of HT_.out (by kernel_rfl)) (by decide) (fun K hK => ?_);refine box_step ?hg (N:=6) ?hd (cs:=#[.bool false,.string ⟨#[]⟩,.string ⟨#[]⟩,.int .i64 0]) (t:=25) ?hr ?_;(case hd => rfl);(case hg => rfl);(case hr => first|(go_simp;done)|(go_simp;rfl))
          intro gb214 hg w51 hbox hb
          have n0_:=M_ (blk_below (g:=gb205) (o:=.cells #[.bool false,.string ⟨#[]⟩,.string ⟨#[]⟩,.int .i64 0] 25 (0,0)) qnc15_ hb);have n1_:=M_ (blk_below (g:=gb211) (o:=.cells #[.bool false,.string t207,.int .i64 t208,.int .i64 t209] 67 (0,0)) qnc22_ hb);have n2_:=M_ (below_step qnc11_ hb);have n3_:=M_ (hbox);have n4_:=M_ ((by rw [hg];exact (below_size qnc11_):w.heap.size≤gb214));have n5_:=M_ ((by rw [hg];exact (below_size qnc11_):w.heap.size≤gb214));have n6_:=M_ ((by rw [hg];exact Nat.ne_of_lt (blk_lt (g:=gb205) (o:=.cells #[.bool false,.string ⟨#[]⟩,.string ⟨#[]⟩,.int .i64 0] 25 (0,0)) qnc15_):gb205 ≠ gb214));have n7_:=M_ ((by rw [hg];exact Nat.ne_of_gt (blk_lt (g:=gb205) (o:=.cells #[.bool false,.string ⟨#[]⟩,.string ⟨#[]⟩,.int .i64 0] 25 (0,0)) qnc15_):gb214 ≠ gb205));have n8_:=M_ ((by rw [hg];exact Nat.ne_of_lt (blk_lt (g:=gb211) (o:=.cells #[.bool false,.string t207,.int .i64 t208,.int .i64 t209] 67 (0,0)) qnc22_):gb211 ≠ gb214));have n9_:=M_ ((by rw [hg];exact Nat.ne_of_gt (blk_lt (g:=gb211) (o:=.cells #[.bool false,.string t207,.int .i64 t208,.int .i64 t209] 67 (0,0)) qnc22_):gb214 ≠ gb211));clear BK205;clear BK211;clear HB;have BK205:=n0_;have BK211:=n1_;have HB:=n2_;have BK214:=n3_;have GW214:=n4_;have GE214:=n5_;have NB205_214:=n6_;have NB214_205:=n7_;have NB211_214:=n8_;have NB214_211:=n9_;clear n0_ n1_ n2_ n3_ n4_ n5_ n6_ n7_ n8_ n9_;clear hb hbox hg;refine hK.out _ _ ⟨(blk_cell BK211.out 0).trans rfl,(blk_cell BK211.out 1).trans rfl,(blk_cell BK211.out 2).trans rfl,(blk_cell BK211.out 3).trans rfl⟩ (fun hHeld => ?_);clear hK K;refine norm_ (a':=?_) ?_ ?_
          rotate_left
          ·show Act.put _ (some 6) _=_
           simp only [Act.put,sA_,sZ_,sS_,i64_w,i32_w]
           rfl
          exact norm_ qnc35_ (hCont (gb214) _ ⟨hHeld,qnc15_,qnc22_,qnc78_,GW214.out,GE214.out,NB205_214.out,NB214_205.out,NB211_214.out,NB214_211.out,qnc28_⟩)
         ·skip
          refine box_step ?hg (N:=6) ?hd (cs:=#[.bool false,.string ⟨#[]⟩,.string ⟨#[]⟩,.int .i64 0]) (t:=25) ?hr ?_;(case hd => rfl);(case hg => rfl);(case hr => first|(go_simp;done)|(go_simp;rfl))
          intro gb214 hg w51 hbox hb
          have n0_:=M_ (blk_below (g:=gb205) (o:=.cells #[.bool false,.string ⟨#[]⟩,.string ⟨#[]⟩,.int .i64 0] 25 (0,0)) qnc15_ hb);have n1_:=M_ (blk_below (g:=gb211) (o:=.cells #[.bool false,.string t207,.int .i64 t208,.int .i64 t209] 67 (0,0)) qnc22_ hb);have n2_:=M_ (below_step qnc11_ hb);have n3_:=M_ (hbox);have n4_:=M_ ((by rw [hg];exact (below_size qnc11_):w.heap.size≤gb214));have n5_:=M_ ((by rw [hg];exact (below_size qnc11_):w.heap.size≤gb214));have n6_:=M_ ((by rw [hg];exact Nat.ne_of_lt (blk_lt (g:=gb205) (o:=.cells #[.bool false,.string ⟨#[]⟩,.string ⟨#[]⟩,.int .i64 0] 25 (0,0)) qnc15_):gb205 ≠ gb214));have n7_:=M_ ((by rw [hg];exact Nat.ne_of_gt (blk_lt (g:=gb205) (o:=.cells #[.bool false,.string ⟨#[]⟩,.string ⟨#[]⟩,.int .i64 0] 25 (0,0)) qnc15_):gb214 ≠ gb205));have n8_:=M_ ((by rw [hg];exact Nat.ne_of_lt (blk_lt (g:=gb211) (o:=.cells #[.bool false,.string t207,.int .i64 t208,.int .i64 t209] 67 (0,0)) qnc22_):gb211 ≠ gb214));have n9_:=M_ ((by rw [hg];exact Nat.ne_of_gt (blk_lt (g:=gb211) (o:=.cells #[.bool false,.string t207,.int .i64 t208,.int .i64 t209] 67 (0,0)) qnc22_):gb214 ≠ gb211));clear BK205;clear BK211;clear HB;have BK205:=n0_;have BK211:=n1_;have HB:=n2_;have BK214:=n3_;have GW214:=n4_;have GE214:=n5_;have NB205_214:=n6_;have NB214_205:=n7_;have NB211_214:=n8_;have NB214_211:=n9_;clear n0_ n1_ n2_ n3_ n4_ n5_ n6_ n7_ n8_ n9_;clear hb hbox hg;refine hK.out _ _ ⟨(blk_cell BK211.out 0).trans rfl,(blk_cell BK211.out 1).trans rfl,(blk_cell BK211.out 2).trans rfl,(blk_cell BK211.out 3).trans rfl⟩ (fun hHeld => ?_);clear hK K;refine norm_ (a':=?_) ?_ ?_
          rotate_left
          ·show Act.put _ (some 6) _=_
           simp only [Act.put,sA_,sZ_,sS_,i64_w,i32_w]
           rfl
          refine one_ (i:=9) (N:=some 29) #[true,true,true,true,true,true,true,true,true,true,true,false,true,false] rfl rfl (one_of HT_.out (by kernel_rfl)) (by decide) (fun K hK => ?_);refine goes_ Tryd.func43 (by kernel_rfl) rfl #[.string (t207.extract (t208:Int).toNat t207.size)] (by rfl) rfl rfl qnc0_ ?_
          with_reducible refine (r_trimmed.calls k (t207.extract (t208:Int).toNat t207.size) t213 _ A20.out).mono ?_
          rintro e w' ⟨rfl,⟨nd,rfl⟩⟩
          refine ⟨_,rfl,?_⟩;refine hK.out _ _ ⟨(blk_cell BK211.out 0).trans rfl,(blk_cell BK211.out 1).trans rfl,(blk_cell BK211.out 2).trans rfl,(blk_cell BK211.out 3).trans rfl⟩ (fun hHeld => ?_);clear hK K;refine norm_ (a':=?_) ?_ ?_
          rotate_left
          ·show Act.put _ (some 29) _=_
           simp only [Act.put,sA_,sZ_,sS_,i64_w,i32_w]
           rfl
          refine pure_ (i:=11) (N:=some 31) (v:=?_) (a':=?_) #[true,true,true,true,true,true,true,true,true,true,true,true,true,false] rfl rfl (any_of HT_.out (by kernel_rfl)) (fun _ _ _ h => h) (Or.inl ⟨by rfl,?_⟩) ?_ ?_
          rotate_left
          ·intro w'
           go_simp
           with_reducible rfl
          rotate_left
          ·simp only [Act.put,sA_,sZ_,sS_,i64_w,i32_w]
           rfl
          exact norm_ qnc35_ (hCont (gb214) _ ⟨hHeld,qnc15_,qnc22_,qnc78_,GW214.out,GE214.out,NB205_214.out,NB214_205.out,NB211_214.out,NB214_211.out,qnc28_⟩)
        ·skip
         refine box_step ?hg (N:=6) ?hd (cs:=#[.bool false,.string ⟨#[]⟩,.string ⟨#[]⟩,.int .i64 0]) (t:=25) ?hr ?_;(case hd => rfl);(case hg => rfl);(case hr => first|(go_simp;done)|(go_simp;rfl))
         intro gb214 hg w51 hbox hb
         have n0_:=M_ (blk_below (g:=gb205) (o:=.cells #[.bool false,.string ⟨#[]⟩,.string ⟨#[]⟩,.int .i64 0] 25 (0,0)) qnc15_ hb);have n1_:=M_ (blk_below (g:=gb211) (o:=.cells #[.bool false,.string t207,.int .i64 t208,.int .i64 t209] 67 (0,0)) qnc22_ hb);have n2_:=M_ (below_step qnc11_ hb);have n3_:=M_ (hbox);have n4_:=M_ ((by rw [hg];exact (below_size qnc11_):w.heap.size≤gb214));have n5_:=M_ ((by rw [hg];exact (below_size qnc11_):w.heap.size≤gb214));have n6_:=M_ ((by rw [hg];exact Nat.ne_of_lt (blk_lt (g:=gb205) (o:=.cells #[.bool false,.string ⟨#[]⟩,.string ⟨#[]⟩,.int .i64 0] 25 (0,0)) qnc15_):gb205 ≠ gb214));have n7_:=M_ ((by rw [hg];exact Nat.ne_of_gt (blk_lt (g:=gb205) (o:=.cells #[.bool false,.string ⟨#[]⟩,.string ⟨#[]⟩,.int .i64 0] 25 (0,0)) qnc15_):gb214 ≠ gb205));have n8_:=M_ ((by rw [hg];exact Nat.ne_of_lt (blk_lt (g:=gb211) (o:=.cells #[.bool false,.string t207,.int .i64 t208,.int .i64 t209] 67 (0,0)) qnc22_):gb211 ≠ gb214));have n9_:=M_ ((by rw [hg];exact Nat.ne_of_gt (blk_lt (g:=gb211) (o:=.cells #[.bool false,.string t207,.int .i64 t208,.int .i64 t209] 67 (0,0)) qnc22_):gb214 ≠ gb211));clear BK205;clear BK211;clear HB;have BK205:=n0_;have BK211:=n1_;have HB:=n2_;have BK214:=n3_;have GW214:=n4_;have GE214:=n5_;have NB205_214:=n6_;have NB214_205:=n7_;have NB211_214:=n8_;have NB214_211:=n9_;clear n0_ n1_ n2_ n3_ n4_ n5_ n6_ n7_ n8_ n9_;clear hb hbox hg;refine hK.out _ _ ⟨(blk_cell BK211.out 0).trans rfl,(blk_cell BK211.out 1).trans rfl,(blk_cell BK211.out 2).trans rfl,(blk_cell BK211.out 3).trans rfl⟩ (fun hHeld => ?_);clear hK K;refine norm_ (a':=?_) ?_ ?_
         rotate_left
         ·show Act.put _ (some 6) _=_
          simp only [Act.put,sA_,sZ_,sS_,i64_w,i32_w]
          rfl
         refine one_ (i:=2) (N:=some 22) #[true,true,true,false,true,true,true,true,true,false,true,false,true,false] rfl rfl (one_of HT_.out (by kernel_rfl)) (by decide) (fun K hK => ?_);refine goes_ Tryd.func42 (by kernel_rfl) rfl #[.string (t207.extract 0 (t208:Int).toNat)] (by rfl) rfl rfl qnc0_ ?_
         with_reducible refine (r_zeros.calls k (t207.extract 0 (t208:Int).toNat) t212 _ A15.out).mono ?_
         rintro e w' ⟨rfl,⟨nd,rfl⟩⟩
         refine ⟨_,rfl,?_⟩;refine hK.out _ _ ⟨(blk_cell BK211.out 0).trans rfl,(blk_cell BK211.out 1).trans rfl,(blk_cell BK211.out 2).trans rfl,(blk_cell BK211.out 3).trans rfl⟩ (fun hHeld => ?_);clear hK K;refine norm_ (a':=?_) ?_ ?_
         rotate_left
         ·show Act.put _ (some 22) _=_
          simp only [Act.put,sA_,sZ_,sS_,i64_w,i32_w]
          rfl
         refine pure_ (i:=3) (N:=some 23) (v:=?_) (a':=?_) #[true,true,true,true,true,true,true,true,true,false,true,false,true,false] rfl rfl (any_of HT_.out (by kernel_rfl)) (fun _ _ _ h => h) (Or.inl ⟨by rfl,?_⟩) ?_ ?_
         rotate_left
         ·intro w'
          go_simp
          with_reducible rfl
         rotate_left
         ·simp only [Act.put,sA_,sZ_,sS_,i64_w,i32_w]
          rfl
         refine one_ (i:=9) (N:=some 29) #[true,true,true,true,true,true,true,true,true,true,true,false,true,false] rfl rfl (one_of HT_.out (by kernel_rfl)) (by decide) (fun K hK => ?_);refine goes_ Tryd.func43 (by kernel_rfl) rfl #[.string (t207.extract (t208:Int).toNat t207.size)] (by rfl) rfl rfl qnc0_ ?_
         with_reducible refine (r_trimmed.calls k (t207.extract (t208:Int).toNat t207.size) t213 _ A20.out).mono ?_
         rintro e w' ⟨rfl,⟨nd,rfl⟩⟩
         refine ⟨_,rfl,?_⟩;refine hK.out _ _ ⟨(blk_cell BK211.out 0).trans rfl,(blk_cell BK211.out 1).trans rfl,(blk_cell BK211.out 2).trans rfl,(blk_cell BK211.out 3).trans rfl⟩ (fun hHeld => ?_);clear hK K;refine norm_ (a':=?_) ?_ ?_
         rotate_left
         ·show Act.put _ (some 29) _=_
          simp only [Act.put,sA_,sZ_,sS_,i64_w,i32_w]
          rfl
         refine pure_ (i:=11) (N:=some 31) (v:=?_) (a':=?_) #[true,true,true,true,true,true,true,true,true,true,true,true,true,false] rfl rfl (any_of HT_.out (by kernel_rfl)) (fun _ _ _ h => h) (Or.inl ⟨by rfl,?_⟩) ?_ ?_
         rotate_left
         ·intro w'
          go_simp
          with_reducible rfl
         rotate_left
         ·simp only [Act.put,sA_,sZ_,sS_,i64_w,i32_w]
          rfl
         exact norm_ qnc35_ (hCont (gb214) _ ⟨hHeld,qnc15_,qnc22_,qnc78_,GW214.out,GE214.out,NB205_214.out,NB214_205.out,NB211_214.out,NB214_211.out,qnc28_⟩)
       rintro gb214 w52 ⟨hS_,h0_,h1_,h2_,h3_,h4_,h5_,h6_,h7_,h8_,h9_⟩
       have n0_:Aside0 (w52.heap[gb205]?=some (.cells #[.bool false,.string ⟨#[]⟩,.string ⟨#[]⟩,.int .i64 0] 25 (0,0))):=⟨h0_⟩;have n1_:Aside0 (w52.heap[gb211]?=some (.cells #[.bool false,.string t207,.int .i64 t208,.int .i64 t209] 67 (0,0))):=⟨h1_⟩;have n2_:Aside0 (w52.heap[gb214]?=some (.cells #[.bool false,.string ⟨#[]⟩,.string ⟨#[]⟩,.int .i64 0] 25 (0,0))):=⟨h2_⟩;have n3_:Aside0 (w.heap.size≤gb214):=⟨h3_⟩;have n4_:Aside0 (w.heap.size≤gb214):=⟨h4_⟩;have n5_:Aside0 (gb205 ≠ gb214):=⟨h5_⟩;have n6_:Aside0 (gb214 ≠ gb205):=⟨h6_⟩;have n7_:Aside0 (gb211 ≠ gb214):=⟨h7_⟩;have n8_:Aside0 (gb214 ≠ gb211):=⟨h8_⟩;have n9_:Aside0 (Below w.heap.size w w52):=⟨h9_⟩;clear BK205;clear BK211;clear HB;clear h0_ h1_ h2_ h3_ h4_ h5_ h6_ h7_ h8_ h9_;have BK205:=n0_;have BK211:=n1_;have BK214:=n2_;have GW214:=n3_;have GE214:=n4_;have NB205_214:=n5_;have NB214_205:=n6_;have NB211_214:=n7_;have NB214_211:=n8_;have HB:=n9_;clear n0_ n1_ n2_ n3_ n4_ n5_ n6_ n7_ n8_ n9_;have hHeld:w52.cell? ⟨gb211,0,none⟩=some (.bool false)∧w52.cell? ⟨gb211,1,none⟩=some (.string t207)∧w52.cell? ⟨gb211,2,none⟩=some (.int .i64 t208)∧w52.cell? ⟨gb211,3,none⟩=some (.int .i64 t209):=hS_;refine norm_ (a':=?_) ?_ ?_
       rotate_left
       ·simp only [putAll,Act.put,List.setIfInBounds_toArray,List.set_cons_zero,List.set_cons_succ]
        rfl
       refine one_ (i:=13) (N:=none) #[true,true,true,true,true,true,true,true,true,true,true,true,true,true] rfl rfl (one_of HT_.out (by kernel_rfl)) (by decide) (fun K hK => ?_);have hs53:w52.cell? ⟨gb214,0,none⟩=some (.bool false):=(blk_cell BK214.out 0).trans rfl;have hfs53:=bf_ BK214.out 0;have hns53_0:=NB205_214.out;have hns53_1:=NB211_214.out;have hms53_0:=NB214_205.out;have hms53_1:=NB214_211.out;have hs54:w52.cell? ⟨gb214,1,none⟩=some (.string ⟨#[]⟩):=(blk_cell BK214.out 1).trans rfl;have hfs54:=bf_ BK214.out 1;have hns54_0:=NB205_214.out;have hns54_1:=NB211_214.out;have hms54_0:=NB214_205.out;have hms54_1:=NB214_211.out;have hs55:w52.cell? ⟨gb214,2,none⟩=some (.string ⟨#[]⟩):=(blk_cell BK214.out 2).trans rfl;have hfs55:=bf_ BK214.out 2;have hns55_0:=NB205_214.out;have hns55_1:=NB211_214.out;have hms55_0:=NB214_205.out;have hms55_1:=NB214_211.out;have hs56:w52.cell? ⟨gb214,3,none⟩=some (.int .i64 0):=(blk_cell BK214.out 3).trans rfl;have hfs56:=bf_ BK214.out 3;have hns56_0:=NB205_214.out;have hns56_1:=NB211_214.out;have hms56_0:=NB214_205.out;have hms56_1:=NB214_211.out;refine skip_ (w1:=?_) (by rfl) rfl ?_ ?_
       rotate_left
       ·go_simp
        rfl
       refine hK.out _ _ ⟨((cell_far (p:=⟨gb214,_,none⟩) NB211_214.out _).trans (((cell_far (p:=⟨gb214,_,none⟩) NB211_214.out _).trans (((cell_far (p:=⟨gb214,_,none⟩) NB211_214.out _).trans (((cell_far (p:=⟨gb214,_,none⟩) NB211_214.out _).trans (hHeld.1)))))))),((cell_far (p:=⟨gb214,_,none⟩) NB211_214.out _).trans (((cell_far (p:=⟨gb214,_,none⟩) NB211_214.out _).trans (((cell_far (p:=⟨gb214,_,none⟩) NB211_214.out _).trans (((cell_far (p:=⟨gb214,_,none⟩) NB211_214.out _).trans (hHeld.2.1)))))))),((cell_far (p:=⟨gb214,_,none⟩) NB211_214.out _).trans (((cell_far (p:=⟨gb214,_,none⟩) NB211_214.out _).trans (((cell_far (p:=⟨gb214,_,none⟩) NB211_214.out _).trans (((cell_far (p:=⟨gb214,_,none⟩) NB211_214.out _).trans (hHeld.2.2.1)))))))),((cell_far (p:=⟨gb214,_,none⟩) NB211_214.out _).trans (((cell_far (p:=⟨gb214,_,none⟩) NB211_214.out _).trans (((cell_far (p:=⟨gb214,_,none⟩) NB211_214.out _).trans (((cell_far (p:=⟨gb214,_,none⟩) NB211_214.out _).trans (hHeld.2.2.2))))))))⟩ (fun hHeld => ?_);clear hK K;refine done_ (done_of HT_.out (by kernel_rfl)) ?_;have hnb57:=NB211_214.out;have hnc57:=NB214_211.out;have hcz58_0:=bc_ (.bool false) BK211.out 0 rfl;have hcz58_1:=bc_ (.string t207) BK211.out 1 rfl;have hcz58_2:=bc_ (.int .i64 t208) BK211.out 2 rfl;have hcz58_3:=bc_ (.int .i64 t209) BK211.out 3 rfl;have hfz58_0:=bf_ BK211.out 0;have hfz58_1:=bf_ BK211.out 1;have hfz58_2:=bf_ BK211.out 2;have hfz58_3:=bf_ BK211.out 3;have hnb59:=NB214_205.out;have hnc59:=NB205_214.out;have hcz60_0:=bc_ (.bool false) BK214.out 0 rfl;have hcz60_1:=bc_ (.string ⟨#[]⟩) BK214.out 1 rfl;have hcz60_2:=bc_ (.string ⟨#[]⟩) BK214.out 2 rfl;have hcz60_3:=bc_ (.int .i64 0) BK214.out 3 rfl;have hfz60_0:=bf_ BK214.out 0;have hfz60_1:=bf_ BK214.out 1;have hfz60_2:=bf_ BK214.out 2;have hfz60_3:=bf_ BK214.out 3;have hcz61_0:=bc_ (.bool false) BK205.out 0 rfl;have hcz61_1:=bc_ (.string ⟨#[]⟩) BK205.out 1 rfl;have hcz61_2:=bc_ (.string ⟨#[]⟩) BK205.out 2 rfl;have hcz61_3:=bc_ (.int .i64 0) BK205.out 3 rfl;have hfz61_0:=bf_ BK205.out 0;have hfz61_1:=bf_ BK205.out 1;have hfz61_2:=bf_ BK205.out 2;have hfz61_3:=bf_ BK205.out 3
       try go_wp2
       refine bodyPost_ret (results_cell_row rfl _ _ gb205 25 #[.bool false,.string ((t207.extract 0 (t208:Int).toNat).extract (t212:Int).toNat t208.toNat),.string t213,.int .i64 t210] (0,0) _ rfl (by (with_reducible repeat first|apply bN_|apply bD_|apply bA_);refine blk_put (cs:=#[.bool false,.string ((t207.extract 0 (t208:Int).toNat).extract (t212:Int).toNat t208.toNat),.string t213,.int .i64 0]) ?_ 3 _ rfl;(with_reducible repeat first|apply bN_|apply bD_|apply bA_);refine blk_put (cs:=#[.bool false,.string ((t207.extract 0 (t208:Int).toNat).extract (t212:Int).toNat t208.toNat),.string ⟨#[]⟩,.int .i64 0]) ?_ 2 _ rfl;(with_reducible repeat first|apply bN_|apply bD_|apply bA_);refine blk_put (cs:=#[.bool false,.string ⟨#[]⟩,.string ⟨#[]⟩,.int .i64 0]) ?_ 1 _ rfl;(with_reducible repeat first|apply bN_|apply bD_|apply bA_);refine blk_put (cs:=#[.bool false,.string ⟨#[]⟩,.string ⟨#[]⟩,.int .i64 0]) ?_ 0 _ rfl;(with_reducible repeat first|apply bN_|apply bD_|apply bA_);refine blk_far ?_ NB205_214.out _;(with_reducible repeat first|apply bN_|apply bD_|apply bA_);refine blk_far ?_ NB205_214.out _;(with_reducible repeat first|apply bN_|apply bD_|apply bA_);refine blk_far ?_ NB205_214.out _;(with_reducible repeat first|apply bN_|apply bD_|apply bA_);refine blk_far ?_ NB205_214.out _;(with_reducible repeat first|apply bN_|apply bD_|apply bA_);refine blk_far ?_ NB205_214.out _;(with_reducible repeat first|apply bN_|apply bD_|apply bA_);exact BK205.out) Tryd.underlying25 rfl (by kernel_rfl)) rfl ?_;exact ⟨qnc5_,qnc28_⟩
     ·rw [if_neg c17] at H;exact absurd H (by simp)
    ·rw [if_neg c16] at H;exact absurd H (by simp)
   ·rw [if_neg c14] at H;exact absurd H (by simp)
  ·rw [if_neg c13] at H;exact absurd H (by simp)

set_option maxHeartbeats 8000000
set_option maxRecDepth 100000

def r_letter.l0:Nat→Int→Int→Option (Int)
 | 0,_,_ => none
 | k+1,x0,x3 => if x3 < 10 then (if 0≤x3 then (if (bt (⟨#[75,77,71,84,80,69,90,89,82,81]⟩:ByteArray) x3)=x0 then (some (wrap64 (x3+1))) else (r_letter.l0 k x0 (wrap64 (x3+1)))) else (none)) else (some 0)
def r_letter.f (k:Nat) (a0:Int):Option (Int):=if a0=107 then (some 1) else (r_letter.l0 k a0 0)
theorem r_letter.mono_l : ∀ k, (∀ y0 y1, LeO (r_letter.l0 k y0 y1) (r_letter.l0 (k + 1) y0 y1))
 | 0 => fun _ _ r h => by simp [r_letter.l0] at h
 | k+1 => by
  have ih0 := r_letter.mono_l k
  ·
   intro y0 y1
   unfold r_letter.l0
   repeat' first
   | (with_reducible exact ih0 _ _)
   | (with_reducible exact LeO.refl _)
   | (with_reducible exact LeO.none _)
   | (with_reducible refine LeO.ite ?_ ?_)
   | (with_reducible refine LeO.bind ?_ (fun _ => ?_))
   | exact ih0 _ _
   | exact LeO.none _
   | refine LeO.ite ?_ ?_
   | refine LeO.bind ?_ (fun _ => ?_)
theorem r_letter.mono : ∀ a0 k, LeO (r_letter.f k a0) (r_letter.f (k + 1) a0) := by
 intro a0 k
 have ih0 := r_letter.mono_l k
 unfold r_letter.f
 repeat' first
   | (with_reducible exact ih0 _ _)
   | (with_reducible exact LeO.refl _)
   | (with_reducible exact LeO.none _)
   | (with_reducible refine LeO.ite ?_ ?_)
   | (with_reducible refine LeO.bind ?_ (fun _ => ?_))
   | exact ih0 _ _
   | exact LeO.none _
   | refine LeO.ite ?_ ?_
   | refine LeO.bind ?_ (fun _ => ?_)
theorem r_letter.calls (k : Nat) (a0 : Int) (r : Int) (w : World) (h : r_letter.f k a0 = some r) :
  Calls Tryd.prog 40 #[.int .u8 a0] w fun e w' => e=.returned (.int .i64 r)∧Drawn0 w w':=by
 have H:(if a0=107 then (some 1) else (r_letter.l0 k a0 0))=some r:=h;clear h
 by_cases c2:a0=107
 ·rw [if_pos c2] at H;have c2b0:(a0 == 107)=true:=beq_iff_eq.mpr c2;have c2b1:(a0 != 107)=false:=nF_ c2;clear c2;obtain rfl:=Option.some.inj H
  go_enter Tryd.func40,Tryd.ntmps40
  go_wp2;go_ret;exact ⟨qnc1_,qnc4_⟩
 ·rw [if_neg c2] at H;have c2b0:(a0 == 107)=false:=bF_ c2;have c2b1:(a0 != 107)=true:=bne_iff_ne.mpr c2;have H':=M_ H;clear H
  go_enter Tryd.func40,Tryd.ntmps40
  go_wp2
  go_loopg [3] k (fun kq v3 w' => ∃ (x3_1:Int),v3=.int .i64 x3_1∧Aside0 (r_letter.l0 kq a0 x3_1=some r)∧Aside0 (kq≤k)∧Drawn0 w w')
  case atStart => exact ⟨(0),qnc1_,H',⟨Nat.le_refl _⟩,qnc4_⟩
  case round =>
   clear H'
   (try clear c2);(try clear c2b0);(try clear c2b1)
   obtain ⟨x3_1,rfl,HA,HK1,⟨m1,rfl⟩⟩:=hrel
   cases gk with
   | zero => exact absurd HA.out (by simp [r_letter.l0])
   | succ k1 =>
    have H:=HA.out;clear HA;simp only [r_letter.l0] at H
    by_cases c3:x3_1 < 10
    ·rw [if_pos c3] at H;have c3b0:=dT_ c3;clear c3
     by_cases c4:0≤x3_1
     ·rw [if_pos c4] at H;have c4b0:=dT_ c4;clear c4
      by_cases c6:(bt (⟨#[75,77,71,84,80,69,90,89,82,81]⟩:ByteArray) x3_1)=a0
      ·rw [if_pos c6] at H;have c6b0:((bt (⟨#[75,77,71,84,80,69,90,89,82,81]⟩:ByteArray) x3_1) == a0)=true:=beq_iff_eq.mpr c6;have c6b1:((bt (⟨#[75,77,71,84,80,69,90,89,82,81]⟩:ByteArray) x3_1) != a0)=false:=nF_ c6;clear c6;obtain rfl:=Option.some.inj H;have p5:0≤(x3_1:Int):=oD_ qnc3_;have q5:x3_1 < (10:Int):=oD_ qnc3_;have hx5:=bt_at (⟨#[75,77,71,84,80,69,90,89,82,81]⟩:ByteArray) x3_1;replace p5:=eq_true p5;replace q5:=eq_true q5;go_wp2;go_ret;exact ⟨qnc1_,qnc4_⟩
      ·rw [if_neg c6] at H;have c6b0:((bt (⟨#[75,77,71,84,80,69,90,89,82,81]⟩:ByteArray) x3_1) == a0)=false:=bF_ c6;have c6b1:((bt (⟨#[75,77,71,84,80,69,90,89,82,81]⟩:ByteArray) x3_1) != a0)=true:=bne_iff_ne.mpr c6;have H':=M_ H;clear H;have p5:0≤(x3_1:Int):=oD_ qnc3_;have q5:x3_1 < (10:Int):=oD_ qnc3_;have hx5:=bt_at (⟨#[75,77,71,84,80,69,90,89,82,81]⟩:ByteArray) x3_1;replace p5:=eq_true p5;replace q5:=eq_true q5;go_wp2
       go_roundg k1
       case measure => have:=HK1.out;omega
       case rel => exact ⟨(wrap64 (x3_1+1)),qnc1_,H',⟨by have:=HK1.out;omega⟩,qnc4_⟩
     ·rw [if_neg c4] at H;exact absurd H (by simp)
    ·rw [if_neg c3] at H;have c3b0:=dF_ c3;clear c3;obtain rfl:=Option.some.inj H;go_wp2;go_ret;exact ⟨qnc1_,qnc4_⟩

set_option maxHeartbeats 8000000
set_option maxRecDepth 100000

mutual
def r_Human.j0:Nat→ByteArray→Int→Bool→Bool→ByteArray→ByteArray→Int→Option (Bool × ByteArray × ByteArray × Int × Int)
 | 0,_,_,_,_,_,_,_ => none
 | k+1,x0,x5,x17,x221000,x221001,x221002,x221003 => if x17=true then (if 0≤x221003 then (if x221003 < (x0.size:Int) then ((r_letter.f k (bt x0 x221003)).bind fun t221 => (r_Human.j1 k t221 x221000 x221001 x221002 x221003)) else (none)) else (none)) else (r_Human.j1 k x5 x221000 x221001 x221002 x221003)
def r_Human.j1:Nat→Int→Bool→ByteArray→ByteArray→Int→Option (Bool × ByteArray × ByteArray × Int × Int)
 | 0,_,_,_,_,_ => none
 | k+1,x5,x221000,x221001,x221002,x221003 => if x5 > 0 then (if x221001.size+x221002.size≤9223372036854775807 then (if (x221001++x221002).toList=([]:List UInt8) then (some (x221000,x221001,x221002,wrap64 (x221003+1),0)) else (some (x221000,x221001,x221002,wrap64 (x221003+1),x5))) else (none)) else (if x221001.size+x221002.size≤9223372036854775807 then (if (x221001++x221002).toList=([]:List UInt8) then (some (x221000,x221001,x221002,x221003,0)) else (some (x221000,x221001,x221002,x221003,x5))) else (none))
end
def r_Human.f (k:Nat) (a0:ByteArray):Option (Bool × ByteArray × ByteArray × Int × Int):=(r_Decimal.f k a0).bind fun bt216 => (if bt216.2.2.2 > 0 then (r_Human.j0 k a0 0 (decide (bt216.2.2.2 < (a0.size:Int))) bt216.1 bt216.2.1 bt216.2.2.1 bt216.2.2.2) else (r_Human.j0 k a0 0 false bt216.1 bt216.2.1 bt216.2.2.1 bt216.2.2.2))
theorem r_Human.calls (k : Nat) (a0 : ByteArray) (r1 : Bool) (r2 : ByteArray) (r3 : ByteArray) (r4 : Int) (r5 : Int) (w : World) (h : r_Human.f k a0 = some (r1, r2, r3, r4, r5)) :
  Calls Tryd.prog 21 #[.string a0] w fun e w' => e=.returned (.tuple #[.agg #[.bool r1,.string r2,.string r3,.int .i64 r4],.int .i64 r5])∧Below w.heap.size w w':=by
 have hu25:=Tryd.underlying25;have HB:=M_ (Below.refl w.heap.size w);have H:((r_Decimal.f k a0).bind fun bt216 => (if bt216.2.2.2 > 0 then (r_Human.j0 k a0 0 (decide (bt216.2.2.2 < (a0.size:Int))) bt216.1 bt216.2.1 bt216.2.2.1 bt216.2.2.2) else (r_Human.j0 k a0 0 false bt216.1 bt216.2.1 bt216.2.2.1 bt216.2.2.2)))=some (r1,r2,r3,r4,r5):=h;clear h;obtain ⟨⟨t216,t217,t218,t219⟩,A2,H⟩:=ob_ H;have HC3:=M_ H;clear H
 go_enter Tryd.func21,Tryd.ntmps21
 have tk9:=trivial;have tk10:=trivial;have tk11:=trivial
 go_upto_region 3 with (first|(clear tk9;(with_reducible refine gate_dst (N:=2) rfl ?_);(try (refine gate_guard (by rfl) ?_;dsimp only));refine box_event ?hg (N:=2) ?hd (cs:=#[.bool false,.string ⟨#[]⟩,.string ⟨#[]⟩,.int .i64 0]) (t:=25) ?hr ?_;(case hd => rfl);(case hg => rfl);(case hr => first|(go_simp;done)|(go_simp;rfl));intro gb215 hg w4 hbox hb;have n0_:=M_ (below_step qnc2_ hb);have n1_:=M_ (hbox);have n2_:=M_ ((by rw [hg];exact (below_size qnc2_):w.heap.size≤gb215));have n3_:=n2_;clear HB;have HB:=n0_;have BK215:=n1_;have GW215:=n2_;have GE215:=n3_;clear n0_ n1_ n2_ n3_;clear hb hbox hg)|(clear tk10;(with_reducible refine gate_callee (f:=22) rfl ?_);refine goesL_ (some 7) rfl rfl Tryd.func22 (by kernel_rfl) rfl #[.string a0] rfl qnc0_ ?_;(with_reducible refine (r_Decimal.calls k a0 t216 t217 t218 t219 _ A2.out).mono ?_);rintro e w5 ⟨rfl,hb⟩;refine ⟨_,rfl,?_⟩;have n0_:=M_ (blk_below (g:=gb215) (o:=.cells #[.bool false,.string ⟨#[]⟩,.string ⟨#[]⟩,.int .i64 0] 25 (0,0)) qnc77_ hb);have n1_:=M_ (below_step qnc90_ hb);clear BK215;clear HB;have BK215:=n0_;have HB:=n1_;clear n0_ n1_;(try clear hb))|(clear tk11;(with_reducible refine gate_dst (N:=4) rfl ?_);(try (refine gate_guard (by rfl) ?_;dsimp only));refine box_event ?hg (N:=4) ?hd (cs:=#[.bool false,.string ⟨#[]⟩,.string ⟨#[]⟩,.int .i64 0]) (t:=25) ?hr ?_;(case hd => rfl);(case hg => rfl);(case hr => first|(go_simp;done)|(go_simp;rfl));intro gb220 hg w6 hbox hb;have n0_:=M_ (blk_below (g:=gb215) (o:=.cells #[.bool false,.string ⟨#[]⟩,.string ⟨#[]⟩,.int .i64 0] 25 (0,0)) qnc77_ hb);have n1_:=M_ (below_step qnc90_ hb);have n2_:=M_ (hbox);have n3_:=M_ ((by rw [hg];exact (below_size qnc90_):w.heap.size≤gb220));have n4_:=n3_;have n5_:=M_ ((by rw [hg];exact Nat.ne_of_lt (blk_lt (g:=gb215) (o:=.cells #[.bool false,.string ⟨#[]⟩,.string ⟨#[]⟩,.int .i64 0] 25 (0,0)) qnc77_):gb215 ≠ gb220));have n6_:=M_ ((by rw [hg];exact Nat.ne_of_gt (blk_lt (g:=gb215) (o:=.cells #[.bool false,.string ⟨#[]⟩,.string ⟨#[]⟩,.int .i64 0] 25 (0,0)) qnc77_):gb220 ≠ gb215));clear BK215;clear HB;have BK215:=n0_;have HB:=n1_;have BK220:=n2_;have GW220:=n3_;have GE220:=n4_;have NB215_220:=n5_;have NB220_215:=n6_;clear n0_ n1_ n2_ n3_ n4_ n5_ n6_;clear hb hbox hg;have hnb7:=NB220_215.out;have hnc7:=NB215_220.out;have hcz8_0:=bc_ (.bool false) BK220.out 0 rfl;have hcz8_1:=bc_ (.string ⟨#[]⟩) BK220.out 1 rfl;have hcz8_2:=bc_ (.string ⟨#[]⟩) BK220.out 2 rfl;have hcz8_3:=bc_ (.int .i64 0) BK220.out 3 rfl;have hfz8_0:=bf_ BK220.out 0;have hfz8_1:=bf_ BK220.out 1;have hfz8_2:=bf_ BK220.out 2;have hfz8_3:=bf_ BK220.out 3))
 (try simp only [Act.put,List.setIfInBounds_toArray,List.set_cons_zero,List.set_cons_succ])
 go_cut [17] (fun v17 wc => ∃ (kq:Nat) (x17_2:Bool),v17=.bool x17_2∧Aside0 (r_Human.j0 kq a0 0 x17_2 t216 t217 t218 t219=some (r1,r2,r3,r4,r5))∧Aside0 (kq≤k)∧Aside0 (wc.heap[gb215]?=some (.cells #[.bool false,.string ⟨#[]⟩,.string ⟨#[]⟩,.int .i64 0] 25 (0,0)))∧Aside0 (wc.heap[gb220]?=some (.cells #[.bool t216,.string t217,.string t218,.int .i64 t219] 25 (0,0)))∧Aside0 (Below w.heap.size w wc))
 case first =>
  have H:=HC3.out;clear HC3
  by_cases c12:t219 > 0
  ·rw [if_pos c12] at H;have c12b0:=dT_ c12;clear c12
   (first|rw [c12b0]|(simp only [i64_w,i32_w];rw [c12b0])|skip)
   have H':=M_ H;clear H;have hnb13:=NB220_215.out;have hnc13:=NB215_220.out;have hcz14_0:=bc_ (.bool false) BK220.out 0 rfl;have hcz14_1:=bc_ (.string ⟨#[]⟩) BK220.out 1 rfl;have hcz14_2:=bc_ (.string ⟨#[]⟩) BK220.out 2 rfl;have hcz14_3:=bc_ (.int .i64 0) BK220.out 3 rfl;have hfz14_0:=bf_ BK220.out 0;have hfz14_1:=bf_ BK220.out 1;have hfz14_2:=bf_ BK220.out 2;have hfz14_3:=bf_ BK220.out 3;go_wp2;go_meet
   case rel => exact ⟨_,(decide (t219 < (a0.size:Int))),qnc1_,H',⟨by first|omega|exact Nat.le_refl _⟩,⟨by (with_reducible repeat first|apply bN_|apply bD_|apply bA_);refine blk_far ?_ NB215_220.out _;(with_reducible repeat first|apply bN_|apply bD_|apply bA_);refine blk_far ?_ NB215_220.out _;(with_reducible repeat first|apply bN_|apply bD_|apply bA_);refine blk_far ?_ NB215_220.out _;(with_reducible repeat first|apply bN_|apply bD_|apply bA_);refine blk_far ?_ NB215_220.out _;(with_reducible repeat first|apply bN_|apply bD_|apply bA_);exact BK215.out⟩,⟨by (with_reducible repeat first|apply bN_|apply bD_|apply bA_);refine blk_put (cs:=#[.bool t216,.string t217,.string t218,.int .i64 0]) ?_ 3 _ rfl;(with_reducible repeat first|apply bN_|apply bD_|apply bA_);refine blk_put (cs:=#[.bool t216,.string t217,.string ⟨#[]⟩,.int .i64 0]) ?_ 2 _ rfl;(with_reducible repeat first|apply bN_|apply bD_|apply bA_);refine blk_put (cs:=#[.bool t216,.string ⟨#[]⟩,.string ⟨#[]⟩,.int .i64 0]) ?_ 1 _ rfl;(with_reducible repeat first|apply bN_|apply bD_|apply bA_);refine blk_put (cs:=#[.bool false,.string ⟨#[]⟩,.string ⟨#[]⟩,.int .i64 0]) ?_ 0 _ rfl;(with_reducible repeat first|apply bN_|apply bD_|apply bA_);exact BK220.out⟩,⟨qnc33_⟩⟩
  ·rw [if_neg c12] at H;have c12b0:=dF_ c12;clear c12
   (first|rw [c12b0]|(simp only [i64_w,i32_w];rw [c12b0])|skip)
   have H':=M_ H;clear H;have hnb15:=NB220_215.out;have hnc15:=NB215_220.out;have hcz16_0:=bc_ (.bool false) BK220.out 0 rfl;have hcz16_1:=bc_ (.string ⟨#[]⟩) BK220.out 1 rfl;have hcz16_2:=bc_ (.string ⟨#[]⟩) BK220.out 2 rfl;have hcz16_3:=bc_ (.int .i64 0) BK220.out 3 rfl;have hfz16_0:=bf_ BK220.out 0;have hfz16_1:=bf_ BK220.out 1;have hfz16_2:=bf_ BK220.out 2;have hfz16_3:=bf_ BK220.out 3;go_wp2;go_meet
   case rel => exact ⟨_,(false),qnc1_,H',⟨by first|omega|exact Nat.le_refl _⟩,⟨by (with_reducible repeat first|apply bN_|apply bD_|apply bA_);refine blk_far ?_ NB215_220.out _;(with_reducible repeat first|apply bN_|apply bD_|apply bA_);refine blk_far ?_ NB215_220.out _;(with_reducible repeat first|apply bN_|apply bD_|apply bA_);refine blk_far ?_ NB215_220.out _;(with_reducible repeat first|apply bN_|apply bD_|apply bA_);refine blk_far ?_ NB215_220.out _;(with_reducible repeat first|apply bN_|apply bD_|apply bA_);exact BK215.out⟩,⟨by (with_reducible repeat first|apply bN_|apply bD_|apply bA_);refine blk_put (cs:=#[.bool t216,.string t217,.string t218,.int .i64 0]) ?_ 3 _ rfl;(with_reducible repeat first|apply bN_|apply bD_|apply bA_);refine blk_put (cs:=#[.bool t216,.string t217,.string ⟨#[]⟩,.int .i64 0]) ?_ 2 _ rfl;(with_reducible repeat first|apply bN_|apply bD_|apply bA_);refine blk_put (cs:=#[.bool t216,.string ⟨#[]⟩,.string ⟨#[]⟩,.int .i64 0]) ?_ 1 _ rfl;(with_reducible repeat first|apply bN_|apply bD_|apply bA_);refine blk_put (cs:=#[.bool false,.string ⟨#[]⟩,.string ⟨#[]⟩,.int .i64 0]) ?_ 0 _ rfl;(with_reducible repeat first|apply bN_|apply bD_|apply bA_);exact BK220.out⟩,⟨qnc33_⟩⟩
 case rest =>
  clear HC3
  (try clear c12);(try clear c12b0);(try clear hcz14_0);(try clear hcz14_1);(try clear hcz14_2);(try clear hcz14_3);(try clear hcz16_0);(try clear hcz16_1);(try clear hcz16_2);(try clear hcz16_3);(try clear hcz8_0);(try clear hcz8_1);(try clear hcz8_2);(try clear hcz8_3);(try clear hfz14_0);(try clear hfz14_1);(try clear hfz14_2);(try clear hfz14_3);(try clear hfz16_0);(try clear hfz16_1);(try clear hfz16_2);(try clear hfz16_3);(try clear hfz8_0);(try clear hfz8_1);(try clear hfz8_2);(try clear hfz8_3)
  obtain ⟨kq,x17_2,rfl,HA,HJ2,BK215,BK220,HB⟩:=hcut
  cases kq with
  | zero => exact absurd HA.out (by simp [r_Human.j0])
  | succ kj2 =>
   have H:=HA.out;clear HA;simp only [r_Human.j0] at H;have HC17:=M_ H;clear H;go_upto_if 17 with (fail)
   go_cut [5] (fun v5 wc => ∃ (kq:Nat) (x5_16:Int),v5=.int .i64 x5_16∧Aside0 (r_Human.j1 kq x5_16 t216 t217 t218 t219=some (r1,r2,r3,r4,r5))∧Aside0 (kq≤kj2)∧Aside0 (wc.heap[gb215]?=some (.cells #[.bool false,.string ⟨#[]⟩,.string ⟨#[]⟩,.int .i64 0] 25 (0,0)))∧Aside0 (wc.heap[gb220]?=some (.cells #[.bool t216,.string t217,.string t218,.int .i64 t219] 25 (0,0)))∧Aside0 (Below w.heap.size w wc))
   case first =>
    have H:=HC17.out;clear HC17
    by_cases c18:x17_2=true
    ·subst c18;rw [if_pos rfl] at H
     by_cases c19:0≤t219
     ·rw [if_pos c19] at H;have c19b0:=dT_ c19;clear c19
      (first|rw [c19b0]|(simp only [i64_w,i32_w];rw [c19b0])|skip)
      by_cases c20:t219 < (a0.size:Int)
      ·rw [if_pos c20] at H;have c20b0:=dT_ c20;clear c20;obtain ⟨t221,A22,H⟩:=ob_ H;have H':=M_ H;clear H;have hnb23:=NB220_215.out;have hnc23:=NB215_220.out;have hcz24_0:=bc_ (.bool t216) BK220.out 0 rfl;have hcz24_1:=bc_ (.string t217) BK220.out 1 rfl;have hcz24_2:=bc_ (.string t218) BK220.out 2 rfl;have hcz24_3:=bc_ (.int .i64 t219) BK220.out 3 rfl;have hfz24_0:=bf_ BK220.out 0;have hfz24_1:=bf_ BK220.out 1;have hfz24_2:=bf_ BK220.out 2;have hfz24_3:=bf_ BK220.out 3;have p21:0≤(t219:Int):=oD_ qnc3_;have q21:t219 < (a0.size:Int):=oD_ qnc3_;have hx21:=bt_at a0 t219;replace p21:=eq_true p21;replace q21:=eq_true q21
       go_wp2_with (first|((with_reducible refine gate_callee (f:=40) rfl ?_);refine goesL_ (some 22) rfl rfl Tryd.func40 (by kernel_rfl) rfl #[.int .u8 (bt a0 t219)] rfl qnc0_ ?_;(with_reducible refine (r_letter.calls kj2 (bt a0 t219) t221 _ A22.out).mono ?_);rintro e w' ⟨rfl,⟨nd,rfl⟩⟩;refine ⟨_,rfl,?_⟩))
       go_meet
       case rel => exact ⟨_,(t221),qnc1_,H',⟨by have:=HJ2.out;first|omega|exact Nat.le_refl _⟩,⟨qnc77_⟩,⟨by (with_reducible repeat first|apply bN_|apply bD_|apply bA_);exact BK220.out⟩,⟨qnc33_⟩⟩
      ·rw [if_neg c20] at H;exact absurd H (by simp)
     ·rw [if_neg c19] at H;exact absurd H (by simp)
    ·replace c18:=Bool.eq_false_iff.mpr c18;subst c18;rw [if_neg (show ¬ (false=true) by decide)] at H;have H':=M_ H;clear H;go_wp2;go_meet
     case rel => exact ⟨_,(0),qnc1_,H',⟨by have:=HJ2.out;first|omega|exact Nat.le_refl _⟩,⟨qnc77_⟩,⟨by (with_reducible repeat first|apply bN_|apply bD_|apply bA_);exact BK220.out⟩,⟨qnc33_⟩⟩
   case rest =>
    clear HC17
    (try clear c12);(try clear c12b0);(try clear c18);(try clear c19);(try clear c19b0);(try clear c20);(try clear c20b0);(try clear p21);(try clear q21);(try clear hx21);(try clear hcz14_0);(try clear hcz14_1);(try clear hcz14_2);(try clear hcz14_3);(try clear hcz16_0);(try clear hcz16_1);(try clear hcz16_2);(try clear hcz16_3);(try clear hcz24_0);(try clear hcz24_1);(try clear hcz24_2);(try clear hcz24_3);(try clear hcz8_0);(try clear hcz8_1);(try clear hcz8_2);(try clear hcz8_3);(try clear hfz14_0);(try clear hfz14_1);(try clear hfz14_2);(try clear hfz14_3);(try clear hfz16_0);(try clear hfz16_1);(try clear hfz16_2);(try clear hfz16_3);(try clear hfz24_0);(try clear hfz24_1);(try clear hfz24_2);(try clear hfz24_3);(try clear hfz8_0);(try clear hfz8_1);(try clear hfz8_2);(try clear hfz8_3)
    obtain ⟨kq,x5_16,rfl,HA,HJ16,BK215,BK220,HB⟩:=hcut
    cases kq with
    | zero => exact absurd HA.out (by simp [r_Human.j1])
    | succ kj16 =>
     have H:=HA.out;clear HA;simp only [r_Human.j1] at H
     by_cases c25:x5_16 > 0
     ·rw [if_pos c25] at H;have c25b0:=dT_ c25;clear c25
      by_cases c26:t217.size+t218.size≤9223372036854775807
      ·rw [if_pos c26] at H;have c26b0:=eq_true c26;have c26b1:=dT_ c26
       try have c26b2:(9223372036854775807 < t217.size+t218.size)=False:=eq_false (Nat.not_lt.2 c26)
       by_cases c27:(t217++t218).toList=([]:List UInt8)
       ·rw [if_pos c27] at H;have c27b0:((t217++t218).toList == ([]:List UInt8))=true:=beq_iff_eq.mpr c27;have c27b1:((t217++t218).toList != ([]:List UInt8))=false:=nF_ c27;clear c27;simp only [Option.some.injEq,Prod.mk.injEq] at H;obtain ⟨rfl,rfl,rfl,rfl,rfl⟩:=H;have hnb28:=NB220_215.out;have hnc28:=NB215_220.out;have hcz29_0:=bc_ (.bool t216) BK220.out 0 rfl;have hcz29_1:=bc_ (.string t217) BK220.out 1 rfl;have hcz29_2:=bc_ (.string t218) BK220.out 2 rfl;have hcz29_3:=bc_ (.int .i64 t219) BK220.out 3 rfl;have hfz29_0:=bf_ BK220.out 0;have hfz29_1:=bf_ BK220.out 1;have hfz29_2:=bf_ BK220.out 2;have hfz29_3:=bf_ BK220.out 3;have hcz30_0:=bc_ (.bool false) BK215.out 0 rfl;have hcz30_1:=bc_ (.string ⟨#[]⟩) BK215.out 1 rfl;have hcz30_2:=bc_ (.string ⟨#[]⟩) BK215.out 2 rfl;have hcz30_3:=bc_ (.int .i64 0) BK215.out 3 rfl;have hfz30_0:=bf_ BK215.out 0;have hfz30_1:=bf_ BK215.out 1;have hfz30_2:=bf_ BK215.out 2;have hfz30_3:=bf_ BK215.out 3;go_wp2;refine bodyPost_ret (results_ct rfl _ _ gb215 25 #[.bool t216,.string t217,.string t218,.int .i64 (wrap64 (t219+1))] (0,0) _ rfl (by (with_reducible repeat first|apply bN_|apply bD_|apply bA_);refine blk_put (cs:=#[.bool t216,.string t217,.string t218,.int .i64 0]) ?_ 3 _ rfl;(with_reducible repeat first|apply bN_|apply bD_|apply bA_);refine blk_put (cs:=#[.bool t216,.string t217,.string ⟨#[]⟩,.int .i64 0]) ?_ 2 _ rfl;(with_reducible repeat first|apply bN_|apply bD_|apply bA_);refine blk_put (cs:=#[.bool t216,.string ⟨#[]⟩,.string ⟨#[]⟩,.int .i64 0]) ?_ 1 _ rfl;(with_reducible repeat first|apply bN_|apply bD_|apply bA_);refine blk_put (cs:=#[.bool false,.string ⟨#[]⟩,.string ⟨#[]⟩,.int .i64 0]) ?_ 0 _ rfl;(with_reducible repeat first|apply bN_|apply bD_|apply bA_);refine blk_far ?_ NB215_220.out _;(with_reducible repeat first|apply bN_|apply bD_|apply bA_);exact BK215.out) Tryd.underlying25 rfl (by kernel_rfl)) rfl ?_;exact ⟨qnc5_,qnc33_⟩
       ·rw [if_neg c27] at H;have c27b0:((t217++t218).toList == ([]:List UInt8))=false:=bF_ c27;have c27b1:((t217++t218).toList != ([]:List UInt8))=true:=bne_iff_ne.mpr c27;simp only [Option.some.injEq,Prod.mk.injEq] at H;obtain ⟨rfl,rfl,rfl,rfl,rfl⟩:=H;have hnb31:=NB220_215.out;have hnc31:=NB215_220.out;have hcz32_0:=bc_ (.bool t216) BK220.out 0 rfl;have hcz32_1:=bc_ (.string t217) BK220.out 1 rfl;have hcz32_2:=bc_ (.string t218) BK220.out 2 rfl;have hcz32_3:=bc_ (.int .i64 t219) BK220.out 3 rfl;have hfz32_0:=bf_ BK220.out 0;have hfz32_1:=bf_ BK220.out 1;have hfz32_2:=bf_ BK220.out 2;have hfz32_3:=bf_ BK220.out 3;have hcz33_0:=bc_ (.bool false) BK215.out 0 rfl;have hcz33_1:=bc_ (.string ⟨#[]⟩) BK215.out 1 rfl;have hcz33_2:=bc_ (.string ⟨#[]⟩) BK215.out 2 rfl;have hcz33_3:=bc_ (.int .i64 0) BK215.out 3 rfl;have hfz33_0:=bf_ BK215.out 0;have hfz33_1:=bf_ BK215.out 1;have hfz33_2:=bf_ BK215.out 2;have hfz33_3:=bf_ BK215.out 3;go_wp2;refine bodyPost_ret (results_ct rfl _ _ gb215 25 #[.bool t216,.string t217,.string t218,.int .i64 (wrap64 (t219+1))] (0,0) _ rfl (by (with_reducible repeat first|apply bN_|apply bD_|apply bA_);refine blk_put (cs:=#[.bool t216,.string t217,.string t218,.int .i64 0]) ?_ 3 _ rfl;(with_reducible repeat first|apply bN_|apply bD_|apply bA_);refine blk_put (cs:=#[.bool t216,.string t217,.string ⟨#[]⟩,.int .i64 0]) ?_ 2 _ rfl;(with_reducible repeat first|apply bN_|apply bD_|apply bA_);refine blk_put (cs:=#[.bool t216,.string ⟨#[]⟩,.string ⟨#[]⟩,.int .i64 0]) ?_ 1 _ rfl;(with_reducible repeat first|apply bN_|apply bD_|apply bA_);refine blk_put (cs:=#[.bool false,.string ⟨#[]⟩,.string ⟨#[]⟩,.int .i64 0]) ?_ 0 _ rfl;(with_reducible repeat first|apply bN_|apply bD_|apply bA_);refine blk_far ?_ NB215_220.out _;(with_reducible repeat first|apply bN_|apply bD_|apply bA_);exact BK215.out) Tryd.underlying25 rfl (by kernel_rfl)) rfl ?_;exact ⟨qnc5_,qnc33_⟩
      ·rw [if_neg c26] at H;exact absurd H (by simp)
     ·rw [if_neg c25] at H;have c25b0:=dF_ c25;clear c25
      by_cases c34:t217.size+t218.size≤9223372036854775807
      ·rw [if_pos c34] at H;have c34b0:=eq_true c34;have c34b1:=dT_ c34
       try have c34b2:(9223372036854775807 < t217.size+t218.size)=False:=eq_false (Nat.not_lt.2 c34)
       by_cases c35:(t217++t218).toList=([]:List UInt8)
       ·rw [if_pos c35] at H;have c35b0:((t217++t218).toList == ([]:List UInt8))=true:=beq_iff_eq.mpr c35;have c35b1:((t217++t218).toList != ([]:List UInt8))=false:=nF_ c35;clear c35;simp only [Option.some.injEq,Prod.mk.injEq] at H;obtain ⟨rfl,rfl,rfl,rfl,rfl⟩:=H;have hnb36:=NB220_215.out;have hnc36:=NB215_220.out;have hcz37_0:=bc_ (.bool t216) BK220.out 0 rfl;have hcz37_1:=bc_ (.string t217) BK220.out 1 rfl;have hcz37_2:=bc_ (.string t218) BK220.out 2 rfl;have hcz37_3:=bc_ (.int .i64 t219) BK220.out 3 rfl;have hfz37_0:=bf_ BK220.out 0;have hfz37_1:=bf_ BK220.out 1;have hfz37_2:=bf_ BK220.out 2;have hfz37_3:=bf_ BK220.out 3;have hcz38_0:=bc_ (.bool false) BK215.out 0 rfl;have hcz38_1:=bc_ (.string ⟨#[]⟩) BK215.out 1 rfl;have hcz38_2:=bc_ (.string ⟨#[]⟩) BK215.out 2 rfl;have hcz38_3:=bc_ (.int .i64 0) BK215.out 3 rfl;have hfz38_0:=bf_ BK215.out 0;have hfz38_1:=bf_ BK215.out 1;have hfz38_2:=bf_ BK215.out 2;have hfz38_3:=bf_ BK215.out 3;go_wp2;refine bodyPost_ret (results_ct rfl _ _ gb215 25 #[.bool t216,.string t217,.string t218,.int .i64 t219] (0,0) _ rfl (by (with_reducible repeat first|apply bN_|apply bD_|apply bA_);refine blk_put (cs:=#[.bool t216,.string t217,.string t218,.int .i64 0]) ?_ 3 _ rfl;(with_reducible repeat first|apply bN_|apply bD_|apply bA_);refine blk_put (cs:=#[.bool t216,.string t217,.string ⟨#[]⟩,.int .i64 0]) ?_ 2 _ rfl;(with_reducible repeat first|apply bN_|apply bD_|apply bA_);refine blk_put (cs:=#[.bool t216,.string ⟨#[]⟩,.string ⟨#[]⟩,.int .i64 0]) ?_ 1 _ rfl;(with_reducible repeat first|apply bN_|apply bD_|apply bA_);refine blk_put (cs:=#[.bool false,.string ⟨#[]⟩,.string ⟨#[]⟩,.int .i64 0]) ?_ 0 _ rfl;(with_reducible repeat first|apply bN_|apply bD_|apply bA_);exact BK215.out) Tryd.underlying25 rfl (by kernel_rfl)) rfl ?_;exact ⟨qnc5_,qnc33_⟩
       ·rw [if_neg c35] at H;have c35b0:((t217++t218).toList == ([]:List UInt8))=false:=bF_ c35;have c35b1:((t217++t218).toList != ([]:List UInt8))=true:=bne_iff_ne.mpr c35;simp only [Option.some.injEq,Prod.mk.injEq] at H;obtain ⟨rfl,rfl,rfl,rfl,rfl⟩:=H;have hnb39:=NB220_215.out;have hnc39:=NB215_220.out;have hcz40_0:=bc_ (.bool t216) BK220.out 0 rfl;have hcz40_1:=bc_ (.string t217) BK220.out 1 rfl;have hcz40_2:=bc_ (.string t218) BK220.out 2 rfl;have hcz40_3:=bc_ (.int .i64 t219) BK220.out 3 rfl;have hfz40_0:=bf_ BK220.out 0;have hfz40_1:=bf_ BK220.out 1;have hfz40_2:=bf_ BK220.out 2;have hfz40_3:=bf_ BK220.out 3;have hcz41_0:=bc_ (.bool false) BK215.out 0 rfl;have hcz41_1:=bc_ (.string ⟨#[]⟩) BK215.out 1 rfl;have hcz41_2:=bc_ (.string ⟨#[]⟩) BK215.out 2 rfl;have hcz41_3:=bc_ (.int .i64 0) BK215.out 3 rfl;have hfz41_0:=bf_ BK215.out 0;have hfz41_1:=bf_ BK215.out 1;have hfz41_2:=bf_ BK215.out 2;have hfz41_3:=bf_ BK215.out 3;go_wp2;refine bodyPost_ret (results_ct rfl _ _ gb215 25 #[.bool t216,.string t217,.string t218,.int .i64 t219] (0,0) _ rfl (by (with_reducible repeat first|apply bN_|apply bD_|apply bA_);refine blk_put (cs:=#[.bool t216,.string t217,.string t218,.int .i64 0]) ?_ 3 _ rfl;(with_reducible repeat first|apply bN_|apply bD_|apply bA_);refine blk_put (cs:=#[.bool t216,.string t217,.string ⟨#[]⟩,.int .i64 0]) ?_ 2 _ rfl;(with_reducible repeat first|apply bN_|apply bD_|apply bA_);refine blk_put (cs:=#[.bool t216,.string ⟨#[]⟩,.string ⟨#[]⟩,.int .i64 0]) ?_ 1 _ rfl;(with_reducible repeat first|apply bN_|apply bD_|apply bA_);refine blk_put (cs:=#[.bool false,.string ⟨#[]⟩,.string ⟨#[]⟩,.int .i64 0]) ?_ 0 _ rfl;(with_reducible repeat first|apply bN_|apply bD_|apply bA_);exact BK215.out) Tryd.underlying25 rfl (by kernel_rfl)) rfl ?_;exact ⟨qnc5_,qnc33_⟩
      ·rw [if_neg c34] at H;exact absurd H (by simp)

end Go.Proofs.YtcdajedmlfhmeaaDoor.XN
