import Derived.Test.YtcdajedmlfhmeaaDoorZNC0
import Derived.Test.YtcdajedmlfhmeaaDoorZNC1
import Derived.Test.YtcdajedmlfhmeaaDoorZNC4
import Derived.Test.YtcdajedmlfhmeaaDoorZNC2
import Derived.Test.YtcdajedmlfhmeaaDoorZNC3
namespace Go.Proofs.YtcdajedmlfhmeaaDoor.XN
open Go.RowKit Go.Proofs.YtcdajedmlfhmeaaDoorW.PrintWords Go.Proofs.YtcdajedmlfhmeaaDoorW.PrintLast Go.Proofs.YtcdajedmlfhmeaaDoorW.PrintMore
attribute [local go_sem] max2_int min2_int max_two min_two max_three min_three max_four min_four
set_option linter.unusedVariables false
set_option linter.unusedSimpArgs false
set_option maxHeartbeats 8000000
set_option maxRecDepth 100000

mutual
def n_Human.j0:Nat→ByteArray→Bool→Bool→ByteArray→ByteArray→Int→Option (Bool × ByteArray × ByteArray × Int × Int)
 | 0,_,_,_,_,_,_ => none
 | k+1,x0,x18,x193000,x193001,x193002,x193003 => if x18=true then (some (x193000,x193001,x193002,x193003,0)) else (if 0≤x193003 then (if x193003 < (x0.size:Int) then (if (bt x0 x193003)=107 then (n_Human.j1 k 75 x193000 x193001 x193002 x193003) else (n_Human.j1 k (bt x0 x193003) x193000 x193001 x193002 x193003)) else (none)) else (none))
def n_Human.j1:Nat→Int→Bool→ByteArray→ByteArray→Int→Option (Bool × ByteArray × ByteArray × Int × Int)
 | 0,_,_,_,_,_ => none
 | k+1,x5,x193000,x193001,x193002,x193003 => (strings_IndexByte.f (⟨#[75,77,71,84,80,69,90,89,82,81]⟩:ByteArray) x5).bind fun t193 => (if (wrap64 (t193+1)) > 0 then (if x193001.toList=([]:List UInt8) then (if x193002.toList=([]:List UInt8) then (some (x193000,x193001,x193002,wrap64 (x193003+1),0)) else (some (x193000,x193001,x193002,wrap64 (x193003+1),wrap64 (t193+1)))) else (some (x193000,x193001,x193002,wrap64 (x193003+1),wrap64 (t193+1)))) else (if x193001.toList=([]:List UInt8) then (if x193002.toList=([]:List UInt8) then (some (x193000,x193001,x193002,x193003,0)) else (some (x193000,x193001,x193002,x193003,wrap64 (t193+1)))) else (some (x193000,x193001,x193002,x193003,wrap64 (t193+1)))))
end
def n_Human.f (k:Nat) (a0:ByteArray):Option (Bool × ByteArray × ByteArray × Int × Int):=(n_Decimal.f k a0).bind fun bt188 => (if bt188.2.2.2=0 then (n_Human.j0 k a0 true bt188.1 bt188.2.1 bt188.2.2.1 bt188.2.2.2) else (n_Human.j0 k a0 (bt188.2.2.2 == (a0.size:Int)) bt188.1 bt188.2.1 bt188.2.2.1 bt188.2.2.2))
theorem n_Human.calls (k : Nat) (a0 : ByteArray) (r1 : Bool) (r2 : ByteArray) (r3 : ByteArray) (r4 : Int) (r5 : Int) (w : World) (h : n_Human.f k a0 = some (r1, r2, r3, r4, r5)) :
  Calls Tryd.prog 20 #[.string a0] w fun e w' => e=.returned (.tuple #[.agg #[.bool r1,.string r2,.string r3,.int .i64 r4],.int .i64 r5])∧Below w.heap.size w w':=by
 have hu25:=Tryd.underlying25;have HB:=M_ (Below.refl w.heap.size w);have H:((n_Decimal.f k a0).bind fun bt188 => (if bt188.2.2.2=0 then (n_Human.j0 k a0 true bt188.1 bt188.2.1 bt188.2.2.1 bt188.2.2.2) else (n_Human.j0 k a0 (bt188.2.2.2 == (a0.size:Int)) bt188.1 bt188.2.1 bt188.2.2.1 bt188.2.2.2)))=some (r1,r2,r3,r4,r5):=h;clear h;obtain ⟨⟨t188,t189,t190,t191⟩,A2,H⟩:=ob_ H;have HC3:=M_ H;clear H
 go_enter Tryd.func20,Tryd.ntmps20
 have tk9:=trivial;have tk10:=trivial;have tk11:=trivial
 go_upto_region 2 with (first|(clear tk9;(with_reducible refine gate_dst (N:=2) rfl ?_);(try (refine gate_guard (by rfl) ?_;dsimp only));refine box_event ?hg (N:=2) ?hd (cs:=#[.bool false,.string ⟨#[]⟩,.string ⟨#[]⟩,.int .i64 0]) (t:=25) ?hr ?_;(case hd => rfl);(case hg => rfl);(case hr => first|(go_simp;done)|(go_simp;rfl));intro gb187 hg w4 hbox hb;have n0_:=M_ (below_step qnc2_ hb);have n1_:=M_ (hbox);have n2_:=M_ ((by rw [hg];exact (below_size qnc2_):w.heap.size≤gb187));have n3_:=n2_;clear HB;have HB:=n0_;have BK187:=n1_;have GW187:=n2_;have GE187:=n3_;clear n0_ n1_ n2_ n3_;clear hb hbox hg)|(clear tk10;(with_reducible refine gate_callee (f:=16) rfl ?_);refine goesL_ (some 8) rfl rfl Tryd.func16 (by kernel_rfl) rfl #[.string a0] rfl qnc0_ ?_;(with_reducible refine (n_Decimal.calls k a0 t188 t189 t190 t191 _ A2.out).mono ?_);rintro e w5 ⟨rfl,hb⟩;refine ⟨_,rfl,?_⟩;have n0_:=M_ (blk_below (g:=gb187) (o:=.cells #[.bool false,.string ⟨#[]⟩,.string ⟨#[]⟩,.int .i64 0] 25 (0,0)) qnc53_ hb);have n1_:=M_ (below_step qnc91_ hb);clear BK187;clear HB;have BK187:=n0_;have HB:=n1_;clear n0_ n1_;(try clear hb))|(clear tk11;(with_reducible refine gate_dst (N:=4) rfl ?_);(try (refine gate_guard (by rfl) ?_;dsimp only));refine box_event ?hg (N:=4) ?hd (cs:=#[.bool false,.string ⟨#[]⟩,.string ⟨#[]⟩,.int .i64 0]) (t:=25) ?hr ?_;(case hd => rfl);(case hg => rfl);(case hr => first|(go_simp;done)|(go_simp;rfl));intro gb192 hg w6 hbox hb;have n0_:=M_ (blk_below (g:=gb187) (o:=.cells #[.bool false,.string ⟨#[]⟩,.string ⟨#[]⟩,.int .i64 0] 25 (0,0)) qnc53_ hb);have n1_:=M_ (below_step qnc91_ hb);have n2_:=M_ (hbox);have n3_:=M_ ((by rw [hg];exact (below_size qnc91_):w.heap.size≤gb192));have n4_:=n3_;have n5_:=M_ ((by rw [hg];exact Nat.ne_of_lt (blk_lt (g:=gb187) (o:=.cells #[.bool false,.string ⟨#[]⟩,.string ⟨#[]⟩,.int .i64 0] 25 (0,0)) qnc53_):gb187 ≠ gb192));have n6_:=M_ ((by rw [hg];exact Nat.ne_of_gt (blk_lt (g:=gb187) (o:=.cells #[.bool false,.string ⟨#[]⟩,.string ⟨#[]⟩,.int .i64 0] 25 (0,0)) qnc53_):gb192 ≠ gb187));clear BK187;clear HB;have BK187:=n0_;have HB:=n1_;have BK192:=n2_;have GW192:=n3_;have GE192:=n4_;have NB187_192:=n5_;have NB192_187:=n6_;clear n0_ n1_ n2_ n3_ n4_ n5_ n6_;clear hb hbox hg;have hnb7:=NB192_187.out;have hnc7:=NB187_192.out;have hcz8_0:=bc_ (.bool false) BK192.out 0 rfl;have hcz8_1:=bc_ (.string ⟨#[]⟩) BK192.out 1 rfl;have hcz8_2:=bc_ (.string ⟨#[]⟩) BK192.out 2 rfl;have hcz8_3:=bc_ (.int .i64 0) BK192.out 3 rfl;have hfz8_0:=bf_ BK192.out 0;have hfz8_1:=bf_ BK192.out 1;have hfz8_2:=bf_ BK192.out 2;have hfz8_3:=bf_ BK192.out 3))
 (try simp only [Act.put,List.setIfInBounds_toArray,List.set_cons_zero,List.set_cons_succ])
 go_cut [18] (fun v18 wc => ∃ (kq:Nat) (x18_2:Bool),v18=.bool x18_2∧Aside0 (n_Human.j0 kq a0 x18_2 t188 t189 t190 t191=some (r1,r2,r3,r4,r5))∧Aside0 (kq≤k)∧Aside0 (wc.heap[gb187]?=some (.cells #[.bool false,.string ⟨#[]⟩,.string ⟨#[]⟩,.int .i64 0] 25 (0,0)))∧Aside0 (wc.heap[gb192]?=some (.cells #[.bool t188,.string t189,.string t190,.int .i64 t191] 25 (0,0)))∧Aside0 (Below w.heap.size w wc))
 case first =>
  have H:=HC3.out;clear HC3
  by_cases c12:t191=0
  ·rw [if_pos c12] at H;have c12b0:(t191 == 0)=true:=beq_iff_eq.mpr c12;have c12b1:(t191 != 0)=false:=nF_ c12;clear c12
   (first|rw [c12b0]|(simp only [i64_w,i32_w];rw [c12b0])|skip)
   have H':=M_ H;clear H;have hnb13:=NB192_187.out;have hnc13:=NB187_192.out;have hcz14_0:=bc_ (.bool false) BK192.out 0 rfl;have hcz14_1:=bc_ (.string ⟨#[]⟩) BK192.out 1 rfl;have hcz14_2:=bc_ (.string ⟨#[]⟩) BK192.out 2 rfl;have hcz14_3:=bc_ (.int .i64 0) BK192.out 3 rfl;have hfz14_0:=bf_ BK192.out 0;have hfz14_1:=bf_ BK192.out 1;have hfz14_2:=bf_ BK192.out 2;have hfz14_3:=bf_ BK192.out 3;go_wp2;go_meet
   case rel => exact ⟨_,(true),qnc1_,H',⟨by first|omega|exact Nat.le_refl _⟩,⟨by (with_reducible repeat first|apply bN_|apply bD_|apply bA_);refine blk_far ?_ NB187_192.out _;(with_reducible repeat first|apply bN_|apply bD_|apply bA_);refine blk_far ?_ NB187_192.out _;(with_reducible repeat first|apply bN_|apply bD_|apply bA_);refine blk_far ?_ NB187_192.out _;(with_reducible repeat first|apply bN_|apply bD_|apply bA_);refine blk_far ?_ NB187_192.out _;(with_reducible repeat first|apply bN_|apply bD_|apply bA_);exact BK187.out⟩,⟨by (with_reducible repeat first|apply bN_|apply bD_|apply bA_);refine blk_put (cs:=#[.bool t188,.string t189,.string t190,.int .i64 0]) ?_ 3 _ rfl;(with_reducible repeat first|apply bN_|apply bD_|apply bA_);refine blk_put (cs:=#[.bool t188,.string t189,.string ⟨#[]⟩,.int .i64 0]) ?_ 2 _ rfl;(with_reducible repeat first|apply bN_|apply bD_|apply bA_);refine blk_put (cs:=#[.bool t188,.string ⟨#[]⟩,.string ⟨#[]⟩,.int .i64 0]) ?_ 1 _ rfl;(with_reducible repeat first|apply bN_|apply bD_|apply bA_);refine blk_put (cs:=#[.bool false,.string ⟨#[]⟩,.string ⟨#[]⟩,.int .i64 0]) ?_ 0 _ rfl;(with_reducible repeat first|apply bN_|apply bD_|apply bA_);exact BK192.out⟩,⟨qnc14_⟩⟩
  ·rw [if_neg c12] at H;have c12b0:(t191 == 0)=false:=bF_ c12;have c12b1:(t191 != 0)=true:=bne_iff_ne.mpr c12
   (first|rw [c12b0]|(simp only [i64_w,i32_w];rw [c12b0])|skip)
   have H':=M_ H;clear H;have hnb15:=NB192_187.out;have hnc15:=NB187_192.out;have hcz16_0:=bc_ (.bool false) BK192.out 0 rfl;have hcz16_1:=bc_ (.string ⟨#[]⟩) BK192.out 1 rfl;have hcz16_2:=bc_ (.string ⟨#[]⟩) BK192.out 2 rfl;have hcz16_3:=bc_ (.int .i64 0) BK192.out 3 rfl;have hfz16_0:=bf_ BK192.out 0;have hfz16_1:=bf_ BK192.out 1;have hfz16_2:=bf_ BK192.out 2;have hfz16_3:=bf_ BK192.out 3;go_wp2;go_meet
   case rel => exact ⟨_,((t191 == (a0.size:Int))),qnc1_,H',⟨by first|omega|exact Nat.le_refl _⟩,⟨by (with_reducible repeat first|apply bN_|apply bD_|apply bA_);refine blk_far ?_ NB187_192.out _;(with_reducible repeat first|apply bN_|apply bD_|apply bA_);refine blk_far ?_ NB187_192.out _;(with_reducible repeat first|apply bN_|apply bD_|apply bA_);refine blk_far ?_ NB187_192.out _;(with_reducible repeat first|apply bN_|apply bD_|apply bA_);refine blk_far ?_ NB187_192.out _;(with_reducible repeat first|apply bN_|apply bD_|apply bA_);exact BK187.out⟩,⟨by (with_reducible repeat first|apply bN_|apply bD_|apply bA_);refine blk_put (cs:=#[.bool t188,.string t189,.string t190,.int .i64 0]) ?_ 3 _ rfl;(with_reducible repeat first|apply bN_|apply bD_|apply bA_);refine blk_put (cs:=#[.bool t188,.string t189,.string ⟨#[]⟩,.int .i64 0]) ?_ 2 _ rfl;(with_reducible repeat first|apply bN_|apply bD_|apply bA_);refine blk_put (cs:=#[.bool t188,.string ⟨#[]⟩,.string ⟨#[]⟩,.int .i64 0]) ?_ 1 _ rfl;(with_reducible repeat first|apply bN_|apply bD_|apply bA_);refine blk_put (cs:=#[.bool false,.string ⟨#[]⟩,.string ⟨#[]⟩,.int .i64 0]) ?_ 0 _ rfl;(with_reducible repeat first|apply bN_|apply bD_|apply bA_);exact BK192.out⟩,⟨qnc14_⟩⟩
 case rest =>
  clear HC3
  (try clear c12);(try clear c12b0);(try clear c12b1);(try clear hcz14_0);(try clear hcz14_1);(try clear hcz14_2);(try clear hcz14_3);(try clear hcz16_0);(try clear hcz16_1);(try clear hcz16_2);(try clear hcz16_3);(try clear hcz8_0);(try clear hcz8_1);(try clear hcz8_2);(try clear hcz8_3);(try clear hfz14_0);(try clear hfz14_1);(try clear hfz14_2);(try clear hfz14_3);(try clear hfz16_0);(try clear hfz16_1);(try clear hfz16_2);(try clear hfz16_3);(try clear hfz8_0);(try clear hfz8_1);(try clear hfz8_2);(try clear hfz8_3)
  obtain ⟨kq,x18_2,rfl,HA,HJ2,BK187,BK192,HB⟩:=hcut
  cases kq with
  | zero => exact absurd HA.out (by simp [n_Human.j0])
  | succ kj2 =>
   have H:=HA.out;clear HA;simp only [n_Human.j0] at H
   by_cases c17:x18_2=true
   ·subst c17;rw [if_pos rfl] at H;simp only [Option.some.injEq,Prod.mk.injEq] at H;obtain ⟨rfl,rfl,rfl,rfl,rfl⟩:=H;have hnb18:=NB192_187.out;have hnc18:=NB187_192.out;have hcz19_0:=bc_ (.bool t188) BK192.out 0 rfl;have hcz19_1:=bc_ (.string t189) BK192.out 1 rfl;have hcz19_2:=bc_ (.string t190) BK192.out 2 rfl;have hcz19_3:=bc_ (.int .i64 t191) BK192.out 3 rfl;have hfz19_0:=bf_ BK192.out 0;have hfz19_1:=bf_ BK192.out 1;have hfz19_2:=bf_ BK192.out 2;have hfz19_3:=bf_ BK192.out 3;have hcz20_0:=bc_ (.bool false) BK187.out 0 rfl;have hcz20_1:=bc_ (.string ⟨#[]⟩) BK187.out 1 rfl;have hcz20_2:=bc_ (.string ⟨#[]⟩) BK187.out 2 rfl;have hcz20_3:=bc_ (.int .i64 0) BK187.out 3 rfl;have hfz20_0:=bf_ BK187.out 0;have hfz20_1:=bf_ BK187.out 1;have hfz20_2:=bf_ BK187.out 2;have hfz20_3:=bf_ BK187.out 3;go_wp2;refine bodyPost_ret (results_ct rfl _ _ gb187 25 #[.bool t188,.string t189,.string t190,.int .i64 t191] (0,0) _ rfl qnc17_ Tryd.underlying25 rfl (by kernel_rfl)) rfl ?_;exact ⟨qnc5_,qnc14_⟩
   ·replace c17:=Bool.eq_false_iff.mpr c17;subst c17;rw [if_neg (show ¬ (false=true) by decide)] at H
    by_cases c21:0≤t191
    ·rw [if_pos c21] at H;have c21b0:=dT_ c21;clear c21
     by_cases c22:t191 < (a0.size:Int)
     ·rw [if_pos c22] at H;have c22b0:=dT_ c22;clear c22;have HC24:=M_ H;clear H;have hnb25:=NB192_187.out;have hnc25:=NB187_192.out;have hcz26_0:=bc_ (.bool t188) BK192.out 0 rfl;have hcz26_1:=bc_ (.string t189) BK192.out 1 rfl;have hcz26_2:=bc_ (.string t190) BK192.out 2 rfl;have hcz26_3:=bc_ (.int .i64 t191) BK192.out 3 rfl;have hfz26_0:=bf_ BK192.out 0;have hfz26_1:=bf_ BK192.out 1;have hfz26_2:=bf_ BK192.out 2;have hfz26_3:=bf_ BK192.out 3;have p23:0≤(t191:Int):=oD_ qnc3_;have q23:t191 < (a0.size:Int):=oD_ qnc3_;have hx23:=bt_at a0 t191;replace p23:=eq_true p23;replace q23:=eq_true q23;go_upto_if 25 with (fail)
      go_cut [5] (fun v5 wc => ∃ (kq:Nat) (x5_23:Int),v5=.int .u8 x5_23∧Aside0 (n_Human.j1 kq x5_23 t188 t189 t190 t191=some (r1,r2,r3,r4,r5))∧Aside0 (kq≤kj2)∧Aside0 (wc.heap[gb187]?=some (.cells #[.bool false,.string ⟨#[]⟩,.string ⟨#[]⟩,.int .i64 0] 25 (0,0)))∧Aside0 (wc.heap[gb192]?=some (.cells #[.bool t188,.string t189,.string t190,.int .i64 t191] 25 (0,0)))∧Aside0 (Below w.heap.size w wc))
      case first =>
       have H:=HC24.out;clear HC24
       by_cases c27:(bt a0 t191)=107
       ·rw [if_pos c27] at H;have c27b0:((bt a0 t191) == 107)=true:=beq_iff_eq.mpr c27;have c27b1:((bt a0 t191) != 107)=false:=nF_ c27;clear c27
        (first|rw [c27b0]|(simp only [i64_w,i32_w];rw [c27b0])|skip)
        have H':=M_ H;clear H;go_wp2;go_meet
        case rel => exact ⟨_,(75),qnc1_,H',⟨by have:=HJ2.out;first|omega|exact Nat.le_refl _⟩,⟨qnc53_⟩,⟨qnc71_⟩,⟨qnc14_⟩⟩
       ·rw [if_neg c27] at H;have c27b0:((bt a0 t191) == 107)=false:=bF_ c27;have c27b1:((bt a0 t191) != 107)=true:=bne_iff_ne.mpr c27
        (first|rw [c27b0]|(simp only [i64_w,i32_w];rw [c27b0])|skip)
        have H':=M_ H;clear H;go_wp2;go_meet
        case rel => exact ⟨_,(bt a0 t191),qnc1_,H',⟨by have:=HJ2.out;first|omega|exact Nat.le_refl _⟩,⟨qnc53_⟩,⟨qnc71_⟩,⟨qnc14_⟩⟩
      case rest =>
       clear HC24
       (try clear c12);(try clear c12b0);(try clear c12b1);(try clear c17);(try clear c21);(try clear c21b0);(try clear c22);(try clear c22b0);(try clear p23);(try clear q23);(try clear hx23);(try clear c27);(try clear c27b0);(try clear c27b1);(try clear hcz14_0);(try clear hcz14_1);(try clear hcz14_2);(try clear hcz14_3);(try clear hcz16_0);(try clear hcz16_1);(try clear hcz16_2);(try clear hcz16_3);(try clear hcz19_0);(try clear hcz19_1);(try clear hcz19_2);(try clear hcz19_3);(try clear hcz20_0);(try clear hcz20_1);(try clear hcz20_2);(try clear hcz20_3);(try clear hcz26_0);(try clear hcz26_1);(try clear hcz26_2);(try clear hcz26_3);(try clear hcz8_0);(try clear hcz8_1);(try clear hcz8_2);(try clear hcz8_3);(try clear hfz14_0);(try clear hfz14_1);(try clear hfz14_2);(try clear hfz14_3);(try clear hfz16_0);(try clear hfz16_1);(try clear hfz16_2);(try clear hfz16_3);(try clear hfz19_0);(try clear hfz19_1);(try clear hfz19_2);(try clear hfz19_3);(try clear hfz20_0);(try clear hfz20_1);(try clear hfz20_2);(try clear hfz20_3);(try clear hfz26_0);(try clear hfz26_1);(try clear hfz26_2);(try clear hfz26_3);(try clear hfz8_0);(try clear hfz8_1);(try clear hfz8_2);(try clear hfz8_3)
       obtain ⟨kq,x5_23,rfl,HA,HJ23,BK187,BK192,HB⟩:=hcut
       cases kq with
       | zero => exact absurd HA.out (by simp [n_Human.j1])
       | succ kj23 =>
        have H:=HA.out;clear HA;simp only [n_Human.j1] at H;obtain ⟨t193,A28,H⟩:=ob_ H
        by_cases c29:(wrap64 (t193+1)) > 0
        ·rw [if_pos c29] at H;have c29b0:=dT_ c29;clear c29
         by_cases c30:t189.toList=([]:List UInt8)
         ·rw [if_pos c30] at H;have c30b0:(t189.toList == ([]:List UInt8))=true:=beq_iff_eq.mpr c30;have c30b1:(t189.toList != ([]:List UInt8))=false:=nF_ c30;clear c30
          by_cases c31:t190.toList=([]:List UInt8)
          ·rw [if_pos c31] at H;have c31b0:(t190.toList == ([]:List UInt8))=true:=beq_iff_eq.mpr c31;have c31b1:(t190.toList != ([]:List UInt8))=false:=nF_ c31;clear c31;simp only [Option.some.injEq,Prod.mk.injEq] at H;obtain ⟨rfl,rfl,rfl,rfl,rfl⟩:=H
           go_wp2_with (first|((with_reducible refine gate_callee (f:=39) rfl ?_);refine goesL_ (some 27) rfl rfl Tryd.func39 (by kernel_rfl) rfl #[.string (⟨#[75,77,71,84,80,69,90,89,82,81]⟩:ByteArray),.int .u8 x5_23] rfl qnc0_ ?_;(with_reducible refine (strings_IndexByte.calls (⟨#[75,77,71,84,80,69,90,89,82,81]⟩:ByteArray) x5_23 t193 _ A28.out).mono ?_);rintro e w' ⟨rfl,⟨nd,rfl⟩⟩;refine ⟨_,rfl,?_⟩;(try (rw [drewN_self wc];generalize hq_:World.drewN wc _=wc;have n0_:Aside0 (wc.heap[gb187]?=some (.cells #[.bool false,.string ⟨#[]⟩,.string ⟨#[]⟩,.int .i64 0] 25 (0,0))):=⟨by rw [← hq_];exact qnc53_⟩;have n1_:Aside0 (wc.heap[gb192]?=some (.cells #[.bool t188,.string t189,.string t190,.int .i64 t191] 25 (0,0))):=⟨by rw [← hq_];exact qnc71_⟩;have n2_:Aside0 (Below w.heap.size w wc):=⟨by rw [← hq_];exact qnc14_⟩;clear BK187 BK192 HB hq_;have BK187:=n0_;have BK192:=n1_;have HB:=n2_;clear n0_ n1_ n2_));(try (have hcu32_0:wc.cell? ⟨gb187,0,none⟩=some (.bool false):=(blk_cell BK187.out 0).trans rfl;have hfu32_0:=bf_ BK187.out 0;have hcu32_1:wc.cell? ⟨gb187,1,none⟩=some (.string ⟨#[]⟩):=(blk_cell BK187.out 1).trans rfl;have hfu32_1:=bf_ BK187.out 1;have hcu32_2:wc.cell? ⟨gb187,2,none⟩=some (.string ⟨#[]⟩):=(blk_cell BK187.out 2).trans rfl;have hfu32_2:=bf_ BK187.out 2;have hcu32_3:wc.cell? ⟨gb187,3,none⟩=some (.int .i64 0):=(blk_cell BK187.out 3).trans rfl;have hfu32_3:=bf_ BK187.out 3));(try (have hcu33_0:wc.cell? ⟨gb192,0,none⟩=some (.bool t188):=(blk_cell BK192.out 0).trans rfl;have hfu33_0:=bf_ BK192.out 0;have hcu33_1:wc.cell? ⟨gb192,1,none⟩=some (.string t189):=(blk_cell BK192.out 1).trans rfl;have hfu33_1:=bf_ BK192.out 1;have hcu33_2:wc.cell? ⟨gb192,2,none⟩=some (.string t190):=(blk_cell BK192.out 2).trans rfl;have hfu33_2:=bf_ BK192.out 2;have hcu33_3:wc.cell? ⟨gb192,3,none⟩=some (.int .i64 t191):=(blk_cell BK192.out 3).trans rfl;have hfu33_3:=bf_ BK192.out 3));have hnb34:=NB192_187.out;have hnc34:=NB187_192.out;have hcz35_0:=bc_ (.bool t188) BK192.out 0 rfl;have hcz35_1:=bc_ (.string t189) BK192.out 1 rfl;have hcz35_2:=bc_ (.string t190) BK192.out 2 rfl;have hcz35_3:=bc_ (.int .i64 t191) BK192.out 3 rfl;have hfz35_0:=bf_ BK192.out 0;have hfz35_1:=bf_ BK192.out 1;have hfz35_2:=bf_ BK192.out 2;have hfz35_3:=bf_ BK192.out 3;have hcz36_0:=bc_ (.bool false) BK187.out 0 rfl;have hcz36_1:=bc_ (.string ⟨#[]⟩) BK187.out 1 rfl;have hcz36_2:=bc_ (.string ⟨#[]⟩) BK187.out 2 rfl;have hcz36_3:=bc_ (.int .i64 0) BK187.out 3 rfl;have hfz36_0:=bf_ BK187.out 0;have hfz36_1:=bf_ BK187.out 1;have hfz36_2:=bf_ BK187.out 2;have hfz36_3:=bf_ BK187.out 3))
           refine bodyPost_ret (results_ct rfl _ _ gb187 25 #[.bool t188,.string t189,.string t190,.int .i64 (wrap64 (t191+1))] (0,0) _ rfl qnc25_ Tryd.underlying25 rfl (by kernel_rfl)) rfl ?_;exact ⟨qnc5_,qnc14_⟩
          ·rw [if_neg c31] at H;have c31b0:(t190.toList == ([]:List UInt8))=false:=bF_ c31;have c31b1:(t190.toList != ([]:List UInt8))=true:=bne_iff_ne.mpr c31;simp only [Option.some.injEq,Prod.mk.injEq] at H;obtain ⟨rfl,rfl,rfl,rfl,rfl⟩:=H
           go_wp2_with (first|((with_reducible refine gate_callee (f:=39) rfl ?_);refine goesL_ (some 27) rfl rfl Tryd.func39 (by kernel_rfl) rfl #[.string (⟨#[75,77,71,84,80,69,90,89,82,81]⟩:ByteArray),.int .u8 x5_23] rfl qnc0_ ?_;(with_reducible refine (strings_IndexByte.calls (⟨#[75,77,71,84,80,69,90,89,82,81]⟩:ByteArray) x5_23 t193 _ A28.out).mono ?_);rintro e w' ⟨rfl,⟨nd,rfl⟩⟩;refine ⟨_,rfl,?_⟩;(try (rw [drewN_self wc];generalize hq_:World.drewN wc _=wc;have n0_:Aside0 (wc.heap[gb187]?=some (.cells #[.bool false,.string ⟨#[]⟩,.string ⟨#[]⟩,.int .i64 0] 25 (0,0))):=⟨by rw [← hq_];exact qnc53_⟩;have n1_:Aside0 (wc.heap[gb192]?=some (.cells #[.bool t188,.string t189,.string t190,.int .i64 t191] 25 (0,0))):=⟨by rw [← hq_];exact qnc71_⟩;have n2_:Aside0 (Below w.heap.size w wc):=⟨by rw [← hq_];exact qnc14_⟩;clear BK187 BK192 HB hq_;have BK187:=n0_;have BK192:=n1_;have HB:=n2_;clear n0_ n1_ n2_));(try (have hcu37_0:wc.cell? ⟨gb187,0,none⟩=some (.bool false):=(blk_cell BK187.out 0).trans rfl;have hfu37_0:=bf_ BK187.out 0;have hcu37_1:wc.cell? ⟨gb187,1,none⟩=some (.string ⟨#[]⟩):=(blk_cell BK187.out 1).trans rfl;have hfu37_1:=bf_ BK187.out 1;have hcu37_2:wc.cell? ⟨gb187,2,none⟩=some (.string ⟨#[]⟩):=(blk_cell BK187.out 2).trans rfl;have hfu37_2:=bf_ BK187.out 2;have hcu37_3:wc.cell? ⟨gb187,3,none⟩=some (.int .i64 0):=(blk_cell BK187.out 3).trans rfl;have hfu37_3:=bf_ BK187.out 3));(try (have hcu38_0:wc.cell? ⟨gb192,0,none⟩=some (.bool t188):=(blk_cell BK192.out 0).trans rfl;have hfu38_0:=bf_ BK192.out 0;have hcu38_1:wc.cell? ⟨gb192,1,none⟩=some (.string t189):=(blk_cell BK192.out 1).trans rfl;have hfu38_1:=bf_ BK192.out 1;have hcu38_2:wc.cell? ⟨gb192,2,none⟩=some (.string t190):=(blk_cell BK192.out 2).trans rfl;have hfu38_2:=bf_ BK192.out 2;have hcu38_3:wc.cell? ⟨gb192,3,none⟩=some (.int .i64 t191):=(blk_cell BK192.out 3).trans rfl;have hfu38_3:=bf_ BK192.out 3));have hnb39:=NB192_187.out;have hnc39:=NB187_192.out;have hcz40_0:=bc_ (.bool t188) BK192.out 0 rfl;have hcz40_1:=bc_ (.string t189) BK192.out 1 rfl;have hcz40_2:=bc_ (.string t190) BK192.out 2 rfl;have hcz40_3:=bc_ (.int .i64 t191) BK192.out 3 rfl;have hfz40_0:=bf_ BK192.out 0;have hfz40_1:=bf_ BK192.out 1;have hfz40_2:=bf_ BK192.out 2;have hfz40_3:=bf_ BK192.out 3;have hcz41_0:=bc_ (.bool false) BK187.out 0 rfl;have hcz41_1:=bc_ (.string ⟨#[]⟩) BK187.out 1 rfl;have hcz41_2:=bc_ (.string ⟨#[]⟩) BK187.out 2 rfl;have hcz41_3:=bc_ (.int .i64 0) BK187.out 3 rfl;have hfz41_0:=bf_ BK187.out 0;have hfz41_1:=bf_ BK187.out 1;have hfz41_2:=bf_ BK187.out 2;have hfz41_3:=bf_ BK187.out 3))
           refine bodyPost_ret (results_ct rfl _ _ gb187 25 #[.bool t188,.string t189,.string t190,.int .i64 (wrap64 (t191+1))] (0,0) _ rfl qnc25_ Tryd.underlying25 rfl (by kernel_rfl)) rfl ?_;exact ⟨qnc5_,qnc14_⟩
         ·rw [if_neg c30] at H;have c30b0:(t189.toList == ([]:List UInt8))=false:=bF_ c30;have c30b1:(t189.toList != ([]:List UInt8))=true:=bne_iff_ne.mpr c30;simp only [Option.some.injEq,Prod.mk.injEq] at H;obtain ⟨rfl,rfl,rfl,rfl,rfl⟩:=H
          go_wp2_with (first|((with_reducible refine gate_callee (f:=39) rfl ?_);refine goesL_ (some 27) rfl rfl Tryd.func39 (by kernel_rfl) rfl #[.string (⟨#[75,77,71,84,80,69,90,89,82,81]⟩:ByteArray),.int .u8 x5_23] rfl qnc0_ ?_;(with_reducible refine (strings_IndexByte.calls (⟨#[75,77,71,84,80,69,90,89,82,81]⟩:ByteArray) x5_23 t193 _ A28.out).mono ?_);rintro e w' ⟨rfl,⟨nd,rfl⟩⟩;refine ⟨_,rfl,?_⟩;(try (rw [drewN_self wc];generalize hq_:World.drewN wc _=wc;have n0_:Aside0 (wc.heap[gb187]?=some (.cells #[.bool false,.string ⟨#[]⟩,.string ⟨#[]⟩,.int .i64 0] 25 (0,0))):=⟨by rw [← hq_];exact qnc53_⟩;have n1_:Aside0 (wc.heap[gb192]?=some (.cells #[.bool t188,.string t189,.string t190,.int .i64 t191] 25 (0,0))):=⟨by rw [← hq_];exact qnc71_⟩;have n2_:Aside0 (Below w.heap.size w wc):=⟨by rw [← hq_];exact qnc14_⟩;clear BK187 BK192 HB hq_;have BK187:=n0_;have BK192:=n1_;have HB:=n2_;clear n0_ n1_ n2_));(try (have hcu42_0:wc.cell? ⟨gb187,0,none⟩=some (.bool false):=(blk_cell BK187.out 0).trans rfl;have hfu42_0:=bf_ BK187.out 0;have hcu42_1:wc.cell? ⟨gb187,1,none⟩=some (.string ⟨#[]⟩):=(blk_cell BK187.out 1).trans rfl;have hfu42_1:=bf_ BK187.out 1;have hcu42_2:wc.cell? ⟨gb187,2,none⟩=some (.string ⟨#[]⟩):=(blk_cell BK187.out 2).trans rfl;have hfu42_2:=bf_ BK187.out 2;have hcu42_3:wc.cell? ⟨gb187,3,none⟩=some (.int .i64 0):=(blk_cell BK187.out 3).trans rfl;have hfu42_3:=bf_ BK187.out 3));(try (have hcu43_0:wc.cell? ⟨gb192,0,none⟩=some (.bool t188):=(blk_cell BK192.out 0).trans rfl;have hfu43_0:=bf_ BK192.out 0;have hcu43_1:wc.cell? ⟨gb192,1,none⟩=some (.string t189):=(blk_cell BK192.out 1).trans rfl;have hfu43_1:=bf_ BK192.out 1;have hcu43_2:wc.cell? ⟨gb192,2,none⟩=some (.string t190):=(blk_cell BK192.out 2).trans rfl;have hfu43_2:=bf_ BK192.out 2;have hcu43_3:wc.cell? ⟨gb192,3,none⟩=some (.int .i64 t191):=(blk_cell BK192.out 3).trans rfl;have hfu43_3:=bf_ BK192.out 3));have hnb44:=NB192_187.out;have hnc44:=NB187_192.out;have hcz45_0:=bc_ (.bool t188) BK192.out 0 rfl;have hcz45_1:=bc_ (.string t189) BK192.out 1 rfl;have hcz45_2:=bc_ (.string t190) BK192.out 2 rfl;have hcz45_3:=bc_ (.int .i64 t191) BK192.out 3 rfl;have hfz45_0:=bf_ BK192.out 0;have hfz45_1:=bf_ BK192.out 1;have hfz45_2:=bf_ BK192.out 2;have hfz45_3:=bf_ BK192.out 3;have hcz46_0:=bc_ (.bool false) BK187.out 0 rfl;have hcz46_1:=bc_ (.string ⟨#[]⟩) BK187.out 1 rfl;have hcz46_2:=bc_ (.string ⟨#[]⟩) BK187.out 2 rfl;have hcz46_3:=bc_ (.int .i64 0) BK187.out 3 rfl;have hfz46_0:=bf_ BK187.out 0;have hfz46_1:=bf_ BK187.out 1;have hfz46_2:=bf_ BK187.out 2;have hfz46_3:=bf_ BK187.out 3))
          refine bodyPost_ret (results_ct rfl _ _ gb187 25 #[.bool t188,.string t189,.string t190,.int .i64 (wrap64 (t191+1))] (0,0) _ rfl qnc25_ Tryd.underlying25 rfl (by kernel_rfl)) rfl ?_;exact ⟨qnc5_,qnc14_⟩
        ·rw [if_neg c29] at H;have c29b0:=dF_ c29;clear c29
         by_cases c47:t189.toList=([]:List UInt8)
         ·rw [if_pos c47] at H;have c47b0:(t189.toList == ([]:List UInt8))=true:=beq_iff_eq.mpr c47;have c47b1:(t189.toList != ([]:List UInt8))=false:=nF_ c47;clear c47
          by_cases c48:t190.toList=([]:List UInt8)
          ·rw [if_pos c48] at H;have c48b0:(t190.toList == ([]:List UInt8))=true:=beq_iff_eq.mpr c48;have c48b1:(t190.toList != ([]:List UInt8))=false:=nF_ c48;clear c48;simp only [Option.some.injEq,Prod.mk.injEq] at H;obtain ⟨rfl,rfl,rfl,rfl,rfl⟩:=H
           go_wp2_with (first|((with_reducible refine gate_callee (f:=39) rfl ?_);refine goesL_ (some 27) rfl rfl Tryd.func39 (by kernel_rfl) rfl #[.string (⟨#[75,77,71,84,80,69,90,89,82,81]⟩:ByteArray),.int .u8 x5_23] rfl qnc0_ ?_;(with_reducible refine (strings_IndexByte.calls (⟨#[75,77,71,84,80,69,90,89,82,81]⟩:ByteArray) x5_23 t193 _ A28.out).mono ?_);rintro e w' ⟨rfl,⟨nd,rfl⟩⟩;refine ⟨_,rfl,?_⟩;(try (rw [drewN_self wc];generalize hq_:World.drewN wc _=wc;have n0_:Aside0 (wc.heap[gb187]?=some (.cells #[.bool false,.string ⟨#[]⟩,.string ⟨#[]⟩,.int .i64 0] 25 (0,0))):=⟨by rw [← hq_];exact qnc53_⟩;have n1_:Aside0 (wc.heap[gb192]?=some (.cells #[.bool t188,.string t189,.string t190,.int .i64 t191] 25 (0,0))):=⟨by rw [← hq_];exact qnc71_⟩;have n2_:Aside0 (Below w.heap.size w wc):=⟨by rw [← hq_];exact qnc14_⟩;clear BK187 BK192 HB hq_;have BK187:=n0_;have BK192:=n1_;have HB:=n2_;clear n0_ n1_ n2_));(try (have hcu49_0:wc.cell? ⟨gb187,0,none⟩=some (.bool false):=(blk_cell BK187.out 0).trans rfl;have hfu49_0:=bf_ BK187.out 0;have hcu49_1:wc.cell? ⟨gb187,1,none⟩=some (.string ⟨#[]⟩):=(blk_cell BK187.out 1).trans rfl;have hfu49_1:=bf_ BK187.out 1;have hcu49_2:wc.cell? ⟨gb187,2,none⟩=some (.string ⟨#[]⟩):=(blk_cell BK187.out 2).trans rfl;have hfu49_2:=bf_ BK187.out 2;have hcu49_3:wc.cell? ⟨gb187,3,none⟩=some (.int .i64 0):=(blk_cell BK187.out 3).trans rfl;have hfu49_3:=bf_ BK187.out 3));(try (have hcu50_0:wc.cell? ⟨gb192,0,none⟩=some (.bool t188):=(blk_cell BK192.out 0).trans rfl;have hfu50_0:=bf_ BK192.out 0;have hcu50_1:wc.cell? ⟨gb192,1,none⟩=some (.string t189):=(blk_cell BK192.out 1).trans rfl;have hfu50_1:=bf_ BK192.out 1;have hcu50_2:wc.cell? ⟨gb192,2,none⟩=some (.string t190):=(blk_cell BK192.out 2).trans rfl;have hfu50_2:=bf_ BK192.out 2;have hcu50_3:wc.cell? ⟨gb192,3,none⟩=some (.int .i64 t191):=(blk_cell BK192.out 3).trans rfl;have hfu50_3:=bf_ BK192.out 3));have hnb51:=NB192_187.out;have hnc51:=NB187_192.out;have hcz52_0:=bc_ (.bool t188) BK192.out 0 rfl;have hcz52_1:=bc_ (.string t189) BK192.out 1 rfl;have hcz52_2:=bc_ (.string t190) BK192.out 2 rfl;have hcz52_3:=bc_ (.int .i64 t191) BK192.out 3 rfl;have hfz52_0:=bf_ BK192.out 0;have hfz52_1:=bf_ BK192.out 1;have hfz52_2:=bf_ BK192.out 2;have hfz52_3:=bf_ BK192.out 3;have hcz53_0:=bc_ (.bool false) BK187.out 0 rfl;have hcz53_1:=bc_ (.string ⟨#[]⟩) BK187.out 1 rfl;have hcz53_2:=bc_ (.string ⟨#[]⟩) BK187.out 2 rfl;have hcz53_3:=bc_ (.int .i64 0) BK187.out 3 rfl;have hfz53_0:=bf_ BK187.out 0;have hfz53_1:=bf_ BK187.out 1;have hfz53_2:=bf_ BK187.out 2;have hfz53_3:=bf_ BK187.out 3))
           refine bodyPost_ret (results_ct rfl _ _ gb187 25 #[.bool t188,.string t189,.string t190,.int .i64 t191] (0,0) _ rfl qnc17_ Tryd.underlying25 rfl (by kernel_rfl)) rfl ?_;exact ⟨qnc5_,qnc14_⟩
          ·rw [if_neg c48] at H;have c48b0:(t190.toList == ([]:List UInt8))=false:=bF_ c48;have c48b1:(t190.toList != ([]:List UInt8))=true:=bne_iff_ne.mpr c48;simp only [Option.some.injEq,Prod.mk.injEq] at H;obtain ⟨rfl,rfl,rfl,rfl,rfl⟩:=H
           go_wp2_with (first|((with_reducible refine gate_callee (f:=39) rfl ?_);refine goesL_ (some 27) rfl rfl Tryd.func39 (by kernel_rfl) rfl #[.string (⟨#[75,77,71,84,80,69,90,89,82,81]⟩:ByteArray),.int .u8 x5_23] rfl qnc0_ ?_;(with_reducible refine (strings_IndexByte.calls (⟨#[75,77,71,84,80,69,90,89,82,81]⟩:ByteArray) x5_23 t193 _ A28.out).mono ?_);rintro e w' ⟨rfl,⟨nd,rfl⟩⟩;refine ⟨_,rfl,?_⟩;(try (rw [drewN_self wc];generalize hq_:World.drewN wc _=wc;have n0_:Aside0 (wc.heap[gb187]?=some (.cells #[.bool false,.string ⟨#[]⟩,.string ⟨#[]⟩,.int .i64 0] 25 (0,0))):=⟨by rw [← hq_];exact qnc53_⟩;have n1_:Aside0 (wc.heap[gb192]?=some (.cells #[.bool t188,.string t189,.string t190,.int .i64 t191] 25 (0,0))):=⟨by rw [← hq_];exact qnc71_⟩;have n2_:Aside0 (Below w.heap.size w wc):=⟨by rw [← hq_];exact qnc14_⟩;clear BK187 BK192 HB hq_;have BK187:=n0_;have BK192:=n1_;have HB:=n2_;clear n0_ n1_ n2_));(try (have hcu54_0:wc.cell? ⟨gb187,0,none⟩=some (.bool false):=(blk_cell BK187.out 0).trans rfl;have hfu54_0:=bf_ BK187.out 0;have hcu54_1:wc.cell? ⟨gb187,1,none⟩=some (.string ⟨#[]⟩):=(blk_cell BK187.out 1).trans rfl;have hfu54_1:=bf_ BK187.out 1;have hcu54_2:wc.cell? ⟨gb187,2,none⟩=some (.string ⟨#[]⟩):=(blk_cell BK187.out 2).trans rfl;have hfu54_2:=bf_ BK187.out 2;have hcu54_3:wc.cell? ⟨gb187,3,none⟩=some (.int .i64 0):=(blk_cell BK187.out 3).trans rfl;have hfu54_3:=bf_ BK187.out 3));(try (have hcu55_0:wc.cell? ⟨gb192,0,none⟩=some (.bool t188):=(blk_cell BK192.out 0).trans rfl;have hfu55_0:=bf_ BK192.out 0;have hcu55_1:wc.cell? ⟨gb192,1,none⟩=some (.string t189):=(blk_cell BK192.out 1).trans rfl;have hfu55_1:=bf_ BK192.out 1;have hcu55_2:wc.cell? ⟨gb192,2,none⟩=some (.string t190):=(blk_cell BK192.out 2).trans rfl;have hfu55_2:=bf_ BK192.out 2;have hcu55_3:wc.cell? ⟨gb192,3,none⟩=some (.int .i64 t191):=(blk_cell BK192.out 3).trans rfl;have hfu55_3:=bf_ BK192.out 3));have hnb56:=NB192_187.out;have hnc56:=NB187_192.out;have hcz57_0:=bc_ (.bool t188) BK192.out 0 rfl;have hcz57_1:=bc_ (.string t189) BK192.out 1 rfl;have hcz57_2:=bc_ (.string t190) BK192.out 2 rfl;have hcz57_3:=bc_ (.int .i64 t191) BK192.out 3 rfl;have hfz57_0:=bf_ BK192.out 0;have hfz57_1:=bf_ BK192.out 1;have hfz57_2:=bf_ BK192.out 2;have hfz57_3:=bf_ BK192.out 3;have hcz58_0:=bc_ (.bool false) BK187.out 0 rfl;have hcz58_1:=bc_ (.string ⟨#[]⟩) BK187.out 1 rfl;have hcz58_2:=bc_ (.string ⟨#[]⟩) BK187.out 2 rfl;have hcz58_3:=bc_ (.int .i64 0) BK187.out 3 rfl;have hfz58_0:=bf_ BK187.out 0;have hfz58_1:=bf_ BK187.out 1;have hfz58_2:=bf_ BK187.out 2;have hfz58_3:=bf_ BK187.out 3))
           refine bodyPost_ret (results_ct rfl _ _ gb187 25 #[.bool t188,.string t189,.string t190,.int .i64 t191] (0,0) _ rfl qnc17_ Tryd.underlying25 rfl (by kernel_rfl)) rfl ?_;exact ⟨qnc5_,qnc14_⟩
         ·rw [if_neg c47] at H;have c47b0:(t189.toList == ([]:List UInt8))=false:=bF_ c47;have c47b1:(t189.toList != ([]:List UInt8))=true:=bne_iff_ne.mpr c47;simp only [Option.some.injEq,Prod.mk.injEq] at H;obtain ⟨rfl,rfl,rfl,rfl,rfl⟩:=H
          go_wp2_with (first|((with_reducible refine gate_callee (f:=39) rfl ?_);refine goesL_ (some 27) rfl rfl Tryd.func39 (by kernel_rfl) rfl #[.string (⟨#[75,77,71,84,80,69,90,89,82,81]⟩:ByteArray),.int .u8 x5_23] rfl qnc0_ ?_;(with_reducible refine (strings_IndexByte.calls (⟨#[75,77,71,84,80,69,90,89,82,81]⟩:ByteArray) x5_23 t193 _ A28.out).mono ?_);rintro e w' ⟨rfl,⟨nd,rfl⟩⟩;refine ⟨_,rfl,?_⟩;(try (rw [drewN_self wc];generalize hq_:World.drewN wc _=wc;have n0_:Aside0 (wc.heap[gb187]?=some (.cells #[.bool false,.string ⟨#[]⟩,.string ⟨#[]⟩,.int .i64 0] 25 (0,0))):=⟨by rw [← hq_];exact qnc53_⟩;have n1_:Aside0 (wc.heap[gb192]?=some (.cells #[.bool t188,.string t189,.string t190,.int .i64 t191] 25 (0,0))):=⟨by rw [← hq_];exact qnc71_⟩;have n2_:Aside0 (Below w.heap.size w wc):=⟨by rw [← hq_];exact qnc14_⟩;clear BK187 BK192 HB hq_;have BK187:=n0_;have BK192:=n1_;have HB:=n2_;clear n0_ n1_ n2_));(try (have hcu59_0:wc.cell? ⟨gb187,0,none⟩=some (.bool false):=(blk_cell BK187.out 0).trans rfl;have hfu59_0:=bf_ BK187.out 0;have hcu59_1:wc.cell? ⟨gb187,1,none⟩=some (.string ⟨#[]⟩):=(blk_cell BK187.out 1).trans rfl;have hfu59_1:=bf_ BK187.out 1;have hcu59_2:wc.cell? ⟨gb187,2,none⟩=some (.string ⟨#[]⟩):=(blk_cell BK187.out 2).trans rfl;have hfu59_2:=bf_ BK187.out 2;have hcu59_3:wc.cell? ⟨gb187,3,none⟩=some (.int .i64 0):=(blk_cell BK187.out 3).trans rfl;have hfu59_3:=bf_ BK187.out 3));(try (have hcu60_0:wc.cell? ⟨gb192,0,none⟩=some (.bool t188):=(blk_cell BK192.out 0).trans rfl;have hfu60_0:=bf_ BK192.out 0;have hcu60_1:wc.cell? ⟨gb192,1,none⟩=some (.string t189):=(blk_cell BK192.out 1).trans rfl;have hfu60_1:=bf_ BK192.out 1;have hcu60_2:wc.cell? ⟨gb192,2,none⟩=some (.string t190):=(blk_cell BK192.out 2).trans rfl;have hfu60_2:=bf_ BK192.out 2;have hcu60_3:wc.cell? ⟨gb192,3,none⟩=some (.int .i64 t191):=(blk_cell BK192.out 3).trans rfl;have hfu60_3:=bf_ BK192.out 3));have hnb61:=NB192_187.out;have hnc61:=NB187_192.out;have hcz62_0:=bc_ (.bool t188) BK192.out 0 rfl;have hcz62_1:=bc_ (.string t189) BK192.out 1 rfl;have hcz62_2:=bc_ (.string t190) BK192.out 2 rfl;have hcz62_3:=bc_ (.int .i64 t191) BK192.out 3 rfl;have hfz62_0:=bf_ BK192.out 0;have hfz62_1:=bf_ BK192.out 1;have hfz62_2:=bf_ BK192.out 2;have hfz62_3:=bf_ BK192.out 3;have hcz63_0:=bc_ (.bool false) BK187.out 0 rfl;have hcz63_1:=bc_ (.string ⟨#[]⟩) BK187.out 1 rfl;have hcz63_2:=bc_ (.string ⟨#[]⟩) BK187.out 2 rfl;have hcz63_3:=bc_ (.int .i64 0) BK187.out 3 rfl;have hfz63_0:=bf_ BK187.out 0;have hfz63_1:=bf_ BK187.out 1;have hfz63_2:=bf_ BK187.out 2;have hfz63_3:=bf_ BK187.out 3))
          refine bodyPost_ret (results_ct rfl _ _ gb187 25 #[.bool t188,.string t189,.string t190,.int .i64 t191] (0,0) _ rfl qnc17_ Tryd.underlying25 rfl (by kernel_rfl)) rfl ?_;exact ⟨qnc5_,qnc14_⟩
     ·rw [if_neg c22] at H;exact absurd H (by simp)
    ·rw [if_neg c21] at H;exact absurd H (by simp)

set_option maxHeartbeats 8000000
set_option maxRecDepth 100000

def n_human.f (k:Nat) (a0:Int) (a1:ByteArray):Option (Int × Int × Int × ByteArray):=(n_Human.f k a1).bind fun bt245 => (if a0=16 then ((n_digits.f k bt245.2.1 bt245.2.2.1 0).bind fun bt251 => ((n_sizeOf.f bt245.1 bt251.1 bt251.2 0).bind fun bt253 => (some (bt253.1,bt253.2.1,bt253.2.2.1,bt253.2.2.2)))) else ((n_digits.f k bt245.2.1 bt245.2.2.1 0).bind fun bt257 => ((n_sizeOf.f bt245.1 bt257.1 bt257.2 bt245.2.2.2.2).bind fun bt259 => (some (bt259.1,bt259.2.1,bt259.2.2.1,bt259.2.2.2)))))
theorem n_human.calls (k : Nat) (a0 : Int) (a1 : ByteArray) (r1 : Int) (r2 : Int) (r3 : Int) (r4 : ByteArray) (w : World) (h : n_human.f k a0 a1 = some (r1, r2, r3, r4)) :
  Calls Tryd.prog 50 #[.int .u16 a0,.string a1] w fun e w' => e=.returned (.agg #[.int .i64 r1,.int .i64 r2,.int .i64 r3,.string r4])∧Below w.heap.size w w':=by
 have hu77:=Tryd.underlying77;have hu25:=Tryd.underlying25;have HB:=M_ (Below.refl w.heap.size w);have H:((n_Human.f k a1).bind fun bt245 => (if a0=16 then ((n_digits.f k bt245.2.1 bt245.2.2.1 0).bind fun bt251 => ((n_sizeOf.f bt245.1 bt251.1 bt251.2 0).bind fun bt253 => (some (bt253.1,bt253.2.1,bt253.2.2.1,bt253.2.2.2)))) else ((n_digits.f k bt245.2.1 bt245.2.2.1 0).bind fun bt257 => ((n_sizeOf.f bt245.1 bt257.1 bt257.2 bt245.2.2.2.2).bind fun bt259 => (some (bt259.1,bt259.2.1,bt259.2.2.1,bt259.2.2.2))))))=some (r1,r2,r3,r4):=h;clear h;obtain ⟨⟨t245,t246,t247,t248,t249⟩,A3,H⟩:=ob_ H
 by_cases c4:a0=16
 ·rw [if_pos c4] at H;have c4b0:(a0 == 16)=true:=beq_iff_eq.mpr c4;have c4b1:(a0 != 16)=false:=nF_ c4;clear c4;obtain ⟨⟨t251,t252⟩,A5,H⟩:=ob_ H;obtain ⟨⟨t253,t254,t255,t256⟩,A6,H⟩:=ob_ H;simp only [Option.some.injEq,Prod.mk.injEq] at H;obtain ⟨rfl,rfl,rfl,rfl⟩:=H
  go_enter Tryd.func50,Tryd.ntmps50
  have tk16:=trivial;have tk17:=trivial;have tk18:=trivial;have tk19:=trivial;have tk20:=trivial
  go_wp2_with (first|(clear tk16;(with_reducible refine gate_dst (N:=4) rfl ?_);refine box_event ?hg (N:=4) ?hd (cs:=#[.int .i64 0,.int .i64 0,.int .i64 0,.string ⟨#[]⟩]) (t:=77) ?hr ?_;(case hd => rfl);(case hg => rfl);(case hr => first|(go_simp;done)|(go_simp;rfl));intro gb244 hg w7 hbox hb;have n0_:=M_ (below_step qnc2_ hb);have n1_:=M_ (hbox);have n2_:=M_ ((by rw [hg];exact (below_size qnc2_):w.heap.size≤gb244));have n3_:=n2_;clear HB;have HB:=n0_;have BK244:=n1_;have GW244:=n2_;have GE244:=n3_;clear n0_ n1_ n2_ n3_;clear hb hbox hg)|(clear tk17;(with_reducible refine gate_callee (f:=20) rfl ?_);refine goesL_ (some 11) rfl rfl Tryd.func20 (by kernel_rfl) rfl #[.string a1] rfl qnc0_ ?_;(with_reducible refine (n_Human.calls k a1 t245 t246 t247 t248 t249 _ A3.out).mono ?_);rintro e w8 ⟨rfl,hb⟩;refine ⟨_,rfl,?_⟩;have n0_:=M_ (blk_below (g:=gb244) (o:=.cells #[.int .i64 0,.int .i64 0,.int .i64 0,.string ⟨#[]⟩] 77 (0,0)) qnc63_ hb);have n1_:=M_ (below_step qnc58_ hb);clear BK244;clear HB;have BK244:=n0_;have HB:=n1_;clear n0_ n1_;(try clear hb))|(clear tk18;(with_reducible refine gate_dst (N:=5) rfl ?_);refine box_event ?hg (N:=5) ?hd (cs:=#[.bool false,.string ⟨#[]⟩,.string ⟨#[]⟩,.int .i64 0]) (t:=25) ?hr ?_;(case hd => rfl);(case hg => rfl);(case hr => first|(go_simp;done)|(go_simp;rfl));intro gb250 hg w9 hbox hb;have n0_:=M_ (blk_below (g:=gb244) (o:=.cells #[.int .i64 0,.int .i64 0,.int .i64 0,.string ⟨#[]⟩] 77 (0,0)) qnc63_ hb);have n1_:=M_ (below_step qnc58_ hb);have n2_:=M_ (hbox);have n3_:=M_ ((by rw [hg];exact (below_size qnc58_):w.heap.size≤gb250));have n4_:=n3_;have n5_:=M_ ((by rw [hg];exact Nat.ne_of_lt (blk_lt (g:=gb244) (o:=.cells #[.int .i64 0,.int .i64 0,.int .i64 0,.string ⟨#[]⟩] 77 (0,0)) qnc63_):gb244 ≠ gb250));have n6_:=M_ ((by rw [hg];exact Nat.ne_of_gt (blk_lt (g:=gb244) (o:=.cells #[.int .i64 0,.int .i64 0,.int .i64 0,.string ⟨#[]⟩] 77 (0,0)) qnc63_):gb250 ≠ gb244));clear BK244;clear HB;have BK244:=n0_;have HB:=n1_;have BK250:=n2_;have GW250:=n3_;have GE250:=n4_;have NB244_250:=n5_;have NB250_244:=n6_;clear n0_ n1_ n2_ n3_ n4_ n5_ n6_;clear hb hbox hg;have hnb10:=NB250_244.out;have hnc10:=NB244_250.out;have hcz11_0:=bc_ (.bool false) BK250.out 0 rfl;have hcz11_1:=bc_ (.string ⟨#[]⟩) BK250.out 1 rfl;have hcz11_2:=bc_ (.string ⟨#[]⟩) BK250.out 2 rfl;have hcz11_3:=bc_ (.int .i64 0) BK250.out 3 rfl;have hfz11_0:=bf_ BK250.out 0;have hfz11_1:=bf_ BK250.out 1;have hfz11_2:=bf_ BK250.out 2;have hfz11_3:=bf_ BK250.out 3)|(clear tk19;(with_reducible refine gate_callee (f:=38) rfl ?_);refine goesL_ (some 21) rfl rfl Tryd.func38 (by kernel_rfl) rfl #[.string t246,.string t247,.int .i64 0] rfl qnc0_ ?_;(with_reducible refine (n_digits.calls k t246 t247 0 t251 t252 _ A5.out).mono ?_);rintro e w12 ⟨rfl,hb⟩;refine ⟨_,rfl,?_⟩;have n0_:=M_ (blk_below (g:=gb244) (o:=.cells #[.int .i64 0,.int .i64 0,.int .i64 0,.string ⟨#[]⟩] 77 (0,0)) (by (with_reducible repeat first|apply bN_|apply bD_|apply bA_);refine blk_far ?_ NB244_250.out _;(with_reducible repeat first|apply bN_|apply bD_|apply bA_);refine blk_far ?_ NB244_250.out _;(with_reducible repeat first|apply bN_|apply bD_|apply bA_);refine blk_far ?_ NB244_250.out _;(with_reducible repeat first|apply bN_|apply bD_|apply bA_);refine blk_far ?_ NB244_250.out _;(with_reducible repeat first|apply bN_|apply bD_|apply bA_);exact BK244.out) hb);have n1_:=M_ (blk_below (g:=gb250) (o:=.cells #[.bool t245,.string t246,.string t247,.int .i64 t248] 25 (0,0)) (by (with_reducible repeat first|apply bN_|apply bD_|apply bA_);refine blk_put (cs:=#[.bool t245,.string t246,.string t247,.int .i64 0]) ?_ 3 _ rfl;(with_reducible repeat first|apply bN_|apply bD_|apply bA_);refine blk_put (cs:=#[.bool t245,.string t246,.string ⟨#[]⟩,.int .i64 0]) ?_ 2 _ rfl;(with_reducible repeat first|apply bN_|apply bD_|apply bA_);refine blk_put (cs:=#[.bool t245,.string ⟨#[]⟩,.string ⟨#[]⟩,.int .i64 0]) ?_ 1 _ rfl;(with_reducible repeat first|apply bN_|apply bD_|apply bA_);refine blk_put (cs:=#[.bool false,.string ⟨#[]⟩,.string ⟨#[]⟩,.int .i64 0]) ?_ 0 _ rfl;(with_reducible repeat first|apply bN_|apply bD_|apply bA_);exact BK250.out) hb);have n2_:=M_ (below_step qnc49_ hb);clear BK244;clear BK250;clear HB;have BK244:=n0_;have BK250:=n1_;have HB:=n2_;clear n0_ n1_ n2_;(try clear hb);have hcz13_0:=bc_ (.bool t245) BK250.out 0 rfl;have hcz13_1:=bc_ (.string t246) BK250.out 1 rfl;have hcz13_2:=bc_ (.string t247) BK250.out 2 rfl;have hcz13_3:=bc_ (.int .i64 t248) BK250.out 3 rfl;have hfz13_0:=bf_ BK250.out 0;have hfz13_1:=bf_ BK250.out 1;have hfz13_2:=bf_ BK250.out 2;have hfz13_3:=bf_ BK250.out 3)|(clear tk20;(with_reducible refine gate_callee (f:=54) rfl ?_);refine goesL_ (some 29) rfl rfl Tryd.func54 (by kernel_rfl) rfl #[.bool t245,.string t251,.int .i64 t252,.int .i64 0] rfl qnc0_ ?_;(with_reducible refine (n_sizeOf.calls t245 t251 t252 0 t253 t254 t255 t256 _ A6.out).mono ?_);rintro e w14 ⟨rfl,hb⟩;refine ⟨_,rfl,?_⟩;have n0_:=M_ (blk_below (g:=gb244) (o:=.cells #[.int .i64 0,.int .i64 0,.int .i64 0,.string ⟨#[]⟩] 77 (0,0)) qnc63_ hb);have n1_:=M_ (blk_below (g:=gb250) (o:=.cells #[.bool t245,.string t246,.string t247,.int .i64 t248] 25 (0,0)) (by (with_reducible repeat first|apply bN_|apply bD_|apply bA_);exact BK250.out) hb);have n2_:=M_ (below_step qnc49_ hb);clear BK244;clear BK250;clear HB;have BK244:=n0_;have BK250:=n1_;have HB:=n2_;clear n0_ n1_ n2_;(try clear hb);have hcz15_0:=bc_ (.int .i64 0) BK244.out 0 rfl;have hcz15_1:=bc_ (.int .i64 0) BK244.out 1 rfl;have hcz15_2:=bc_ (.int .i64 0) BK244.out 2 rfl;have hcz15_3:=bc_ (.string ⟨#[]⟩) BK244.out 3 rfl;have hfz15_0:=bf_ BK244.out 0;have hfz15_1:=bf_ BK244.out 1;have hfz15_2:=bf_ BK244.out 2;have hfz15_3:=bf_ BK244.out 3))
  refine bodyPost_ret (results_cell_row rfl _ _ gb244 77 #[.int .i64 t253,.int .i64 t254,.int .i64 t255,.string t256] (0,0) _ rfl (by (with_reducible repeat first|apply bN_|apply bD_|apply bA_);refine blk_put (cs:=#[.int .i64 t253,.int .i64 t254,.int .i64 t255,.string ⟨#[]⟩]) ?_ 3 _ rfl;(with_reducible repeat first|apply bN_|apply bD_|apply bA_);refine blk_put (cs:=#[.int .i64 t253,.int .i64 t254,.int .i64 0,.string ⟨#[]⟩]) ?_ 2 _ rfl;(with_reducible repeat first|apply bN_|apply bD_|apply bA_);refine blk_put (cs:=#[.int .i64 t253,.int .i64 0,.int .i64 0,.string ⟨#[]⟩]) ?_ 1 _ rfl;(with_reducible repeat first|apply bN_|apply bD_|apply bA_);refine blk_put (cs:=#[.int .i64 0,.int .i64 0,.int .i64 0,.string ⟨#[]⟩]) ?_ 0 _ rfl;(with_reducible repeat first|apply bN_|apply bD_|apply bA_);exact BK244.out) Tryd.underlying77 rfl (by kernel_rfl)) rfl ?_;exact ⟨qnc5_,qnc49_⟩
 ·rw [if_neg c4] at H;have c4b0:(a0 == 16)=false:=bF_ c4;have c4b1:(a0 != 16)=true:=bne_iff_ne.mpr c4;obtain ⟨⟨t257,t258⟩,A21,H⟩:=ob_ H;obtain ⟨⟨t259,t260,t261,t262⟩,A22,H⟩:=ob_ H;simp only [Option.some.injEq,Prod.mk.injEq] at H;obtain ⟨rfl,rfl,rfl,rfl⟩:=H
  go_enter Tryd.func50,Tryd.ntmps50
  have tk32:=trivial;have tk33:=trivial;have tk34:=trivial;have tk35:=trivial;have tk36:=trivial
  go_wp2_with (first|(clear tk32;(with_reducible refine gate_dst (N:=4) rfl ?_);refine box_event ?hg (N:=4) ?hd (cs:=#[.int .i64 0,.int .i64 0,.int .i64 0,.string ⟨#[]⟩]) (t:=77) ?hr ?_;(case hd => rfl);(case hg => rfl);(case hr => first|(go_simp;done)|(go_simp;rfl));intro gb244 hg w23 hbox hb;have n0_:=M_ (below_step qnc2_ hb);have n1_:=M_ (hbox);have n2_:=M_ ((by rw [hg];exact (below_size qnc2_):w.heap.size≤gb244));have n3_:=n2_;clear HB;have HB:=n0_;have BK244:=n1_;have GW244:=n2_;have GE244:=n3_;clear n0_ n1_ n2_ n3_;clear hb hbox hg)|(clear tk33;(with_reducible refine gate_callee (f:=20) rfl ?_);refine goesL_ (some 11) rfl rfl Tryd.func20 (by kernel_rfl) rfl #[.string a1] rfl qnc0_ ?_;(with_reducible refine (n_Human.calls k a1 t245 t246 t247 t248 t249 _ A3.out).mono ?_);rintro e w24 ⟨rfl,hb⟩;refine ⟨_,rfl,?_⟩;have n0_:=M_ (blk_below (g:=gb244) (o:=.cells #[.int .i64 0,.int .i64 0,.int .i64 0,.string ⟨#[]⟩] 77 (0,0)) qnc63_ hb);have n1_:=M_ (below_step qnc58_ hb);clear BK244;clear HB;have BK244:=n0_;have HB:=n1_;clear n0_ n1_;(try clear hb))|(clear tk34;(with_reducible refine gate_dst (N:=5) rfl ?_);refine box_event ?hg (N:=5) ?hd (cs:=#[.bool false,.string ⟨#[]⟩,.string ⟨#[]⟩,.int .i64 0]) (t:=25) ?hr ?_;(case hd => rfl);(case hg => rfl);(case hr => first|(go_simp;done)|(go_simp;rfl));intro gb250 hg w25 hbox hb;have n0_:=M_ (blk_below (g:=gb244) (o:=.cells #[.int .i64 0,.int .i64 0,.int .i64 0,.string ⟨#[]⟩] 77 (0,0)) qnc63_ hb);have n1_:=M_ (below_step qnc58_ hb);have n2_:=M_ (hbox);have n3_:=M_ ((by rw [hg];exact (below_size qnc58_):w.heap.size≤gb250));have n4_:=n3_;have n5_:=M_ ((by rw [hg];exact Nat.ne_of_lt (blk_lt (g:=gb244) (o:=.cells #[.int .i64 0,.int .i64 0,.int .i64 0,.string ⟨#[]⟩] 77 (0,0)) qnc63_):gb244 ≠ gb250));have n6_:=M_ ((by rw [hg];exact Nat.ne_of_gt (blk_lt (g:=gb244) (o:=.cells #[.int .i64 0,.int .i64 0,.int .i64 0,.string ⟨#[]⟩] 77 (0,0)) qnc63_):gb250 ≠ gb244));clear BK244;clear HB;have BK244:=n0_;have HB:=n1_;have BK250:=n2_;have GW250:=n3_;have GE250:=n4_;have NB244_250:=n5_;have NB250_244:=n6_;clear n0_ n1_ n2_ n3_ n4_ n5_ n6_;clear hb hbox hg;have hnb26:=NB250_244.out;have hnc26:=NB244_250.out;have hcz27_0:=bc_ (.bool false) BK250.out 0 rfl;have hcz27_1:=bc_ (.string ⟨#[]⟩) BK250.out 1 rfl;have hcz27_2:=bc_ (.string ⟨#[]⟩) BK250.out 2 rfl;have hcz27_3:=bc_ (.int .i64 0) BK250.out 3 rfl;have hfz27_0:=bf_ BK250.out 0;have hfz27_1:=bf_ BK250.out 1;have hfz27_2:=bf_ BK250.out 2;have hfz27_3:=bf_ BK250.out 3)|(clear tk35;(with_reducible refine gate_callee (f:=38) rfl ?_);refine goesL_ (some 21) rfl rfl Tryd.func38 (by kernel_rfl) rfl #[.string t246,.string t247,.int .i64 0] rfl qnc0_ ?_;(with_reducible refine (n_digits.calls k t246 t247 0 t257 t258 _ A21.out).mono ?_);rintro e w28 ⟨rfl,hb⟩;refine ⟨_,rfl,?_⟩;have n0_:=M_ (blk_below (g:=gb244) (o:=.cells #[.int .i64 0,.int .i64 0,.int .i64 0,.string ⟨#[]⟩] 77 (0,0)) (by (with_reducible repeat first|apply bN_|apply bD_|apply bA_);refine blk_far ?_ NB244_250.out _;(with_reducible repeat first|apply bN_|apply bD_|apply bA_);refine blk_far ?_ NB244_250.out _;(with_reducible repeat first|apply bN_|apply bD_|apply bA_);refine blk_far ?_ NB244_250.out _;(with_reducible repeat first|apply bN_|apply bD_|apply bA_);refine blk_far ?_ NB244_250.out _;(with_reducible repeat first|apply bN_|apply bD_|apply bA_);exact BK244.out) hb);have n1_:=M_ (blk_below (g:=gb250) (o:=.cells #[.bool t245,.string t246,.string t247,.int .i64 t248] 25 (0,0)) (by (with_reducible repeat first|apply bN_|apply bD_|apply bA_);refine blk_put (cs:=#[.bool t245,.string t246,.string t247,.int .i64 0]) ?_ 3 _ rfl;(with_reducible repeat first|apply bN_|apply bD_|apply bA_);refine blk_put (cs:=#[.bool t245,.string t246,.string ⟨#[]⟩,.int .i64 0]) ?_ 2 _ rfl;(with_reducible repeat first|apply bN_|apply bD_|apply bA_);refine blk_put (cs:=#[.bool t245,.string ⟨#[]⟩,.string ⟨#[]⟩,.int .i64 0]) ?_ 1 _ rfl;(with_reducible repeat first|apply bN_|apply bD_|apply bA_);refine blk_put (cs:=#[.bool false,.string ⟨#[]⟩,.string ⟨#[]⟩,.int .i64 0]) ?_ 0 _ rfl;(with_reducible repeat first|apply bN_|apply bD_|apply bA_);exact BK250.out) hb);have n2_:=M_ (below_step qnc49_ hb);clear BK244;clear BK250;clear HB;have BK244:=n0_;have BK250:=n1_;have HB:=n2_;clear n0_ n1_ n2_;(try clear hb);have hcz29_0:=bc_ (.bool t245) BK250.out 0 rfl;have hcz29_1:=bc_ (.string t246) BK250.out 1 rfl;have hcz29_2:=bc_ (.string t247) BK250.out 2 rfl;have hcz29_3:=bc_ (.int .i64 t248) BK250.out 3 rfl;have hfz29_0:=bf_ BK250.out 0;have hfz29_1:=bf_ BK250.out 1;have hfz29_2:=bf_ BK250.out 2;have hfz29_3:=bf_ BK250.out 3)|(clear tk36;(with_reducible refine gate_callee (f:=54) rfl ?_);refine goesL_ (some 29) rfl rfl Tryd.func54 (by kernel_rfl) rfl #[.bool t245,.string t257,.int .i64 t258,.int .i64 t249] rfl qnc0_ ?_;(with_reducible refine (n_sizeOf.calls t245 t257 t258 t249 t259 t260 t261 t262 _ A22.out).mono ?_);rintro e w30 ⟨rfl,hb⟩;refine ⟨_,rfl,?_⟩;have n0_:=M_ (blk_below (g:=gb244) (o:=.cells #[.int .i64 0,.int .i64 0,.int .i64 0,.string ⟨#[]⟩] 77 (0,0)) qnc63_ hb);have n1_:=M_ (blk_below (g:=gb250) (o:=.cells #[.bool t245,.string t246,.string t247,.int .i64 t248] 25 (0,0)) (by (with_reducible repeat first|apply bN_|apply bD_|apply bA_);exact BK250.out) hb);have n2_:=M_ (below_step qnc49_ hb);clear BK244;clear BK250;clear HB;have BK244:=n0_;have BK250:=n1_;have HB:=n2_;clear n0_ n1_ n2_;(try clear hb);have hcz31_0:=bc_ (.int .i64 0) BK244.out 0 rfl;have hcz31_1:=bc_ (.int .i64 0) BK244.out 1 rfl;have hcz31_2:=bc_ (.int .i64 0) BK244.out 2 rfl;have hcz31_3:=bc_ (.string ⟨#[]⟩) BK244.out 3 rfl;have hfz31_0:=bf_ BK244.out 0;have hfz31_1:=bf_ BK244.out 1;have hfz31_2:=bf_ BK244.out 2;have hfz31_3:=bf_ BK244.out 3))
  refine bodyPost_ret (results_cell_row rfl _ _ gb244 77 #[.int .i64 t259,.int .i64 t260,.int .i64 t261,.string t262] (0,0) _ rfl (by (with_reducible repeat first|apply bN_|apply bD_|apply bA_);refine blk_put (cs:=#[.int .i64 t259,.int .i64 t260,.int .i64 t261,.string ⟨#[]⟩]) ?_ 3 _ rfl;(with_reducible repeat first|apply bN_|apply bD_|apply bA_);refine blk_put (cs:=#[.int .i64 t259,.int .i64 t260,.int .i64 0,.string ⟨#[]⟩]) ?_ 2 _ rfl;(with_reducible repeat first|apply bN_|apply bD_|apply bA_);refine blk_put (cs:=#[.int .i64 t259,.int .i64 0,.int .i64 0,.string ⟨#[]⟩]) ?_ 1 _ rfl;(with_reducible repeat first|apply bN_|apply bD_|apply bA_);refine blk_put (cs:=#[.int .i64 0,.int .i64 0,.int .i64 0,.string ⟨#[]⟩]) ?_ 0 _ rfl;(with_reducible repeat first|apply bN_|apply bD_|apply bA_);exact BK244.out) Tryd.underlying77 rfl (by kernel_rfl)) rfl ?_;exact ⟨qnc5_,qnc49_⟩

set_option maxHeartbeats 8000000
set_option maxRecDepth 100000

mutual
def n_pair.j1:Nat→ByteArray→Int→Option (ByteArray × ByteArray × ByteArray)
 | 0,_,_ => none
 | k+1,x0,x5 => n_pair.l1 k x0 x5 x5
def n_pair.l1:Nat→ByteArray→Int→Int→Option (ByteArray × ByteArray × ByteArray)
 | 0,_,_,_ => none
 | k+1,x0,x5,x6 => if x6 < (x0.size:Int) then (if 0≤x6 then ((n_digit.f (bt x0 x6)).bind fun t264 => (if t264=true then (n_pair.l1 k x0 x5 (wrap64 (x6+1))) else (if 0≤x5 then (if x5≤(x0.size:Int) then (if x5≤x6 then (if x6≤(x0.size:Int) then (some (x0.extract 0 (x5:Int).toNat,x0.extract (x5:Int).toNat (x6:Int).toNat,x0.extract (x6:Int).toNat x0.size)) else (none)) else (none)) else (none)) else (none)))) else (none)) else (if 0≤x5 then (if x5≤(x0.size:Int) then (if x5≤x6 then (if x6≤(x0.size:Int) then (if 0≤x6 then (some (x0.extract 0 (x5:Int).toNat,x0.extract (x5:Int).toNat (x6:Int).toNat,x0.extract (x6:Int).toNat x0.size)) else (none)) else (none)) else (none)) else (none)) else (none))
def n_pair.l0:Nat→ByteArray→Int→Option (ByteArray × ByteArray × ByteArray)
 | 0,_,_ => none
 | k+1,x0,x5 => if x5 < (x0.size:Int) then (if 0≤x5 then ((n_digit.f (bt x0 x5)).bind fun t263 => (if t263=true then (n_pair.j1 k x0 x5) else (n_pair.l0 k x0 (wrap64 (x5+1))))) else (none)) else (n_pair.j1 k x0 x5)
end
def n_pair.f (k:Nat) (a0:ByteArray):Option (ByteArray × ByteArray × ByteArray):=n_pair.l0 k a0 0
theorem n_pair.calls (k : Nat) (a0 : ByteArray) (r1 : ByteArray) (r2 : ByteArray) (r3 : ByteArray) (w : World) (h : n_pair.f k a0 = some (r1, r2, r3)) :
  Calls Tryd.prog 74 #[.string a0] w fun e w' => e=.returned (.tuple #[.string r1,.string r2,.string r3])∧Drawn0 w w':=by
 have H:(n_pair.l0 k a0 0)=some (r1,r2,r3):=h;clear h;have HC2:=M_ H;clear H
 go_enter Tryd.func74,Tryd.ntmps74
 go_upto_block 0 with (fail)
 repeat (go_quiet (fail);go_upto_block 0 with (fail))
 go_cut [5] (fun v5 wc => ∃ (kq:Nat) (x5_1:Int),v5=.int .i64 x5_1∧Aside0 (n_pair.j1 kq a0 x5_1=some (r1,r2,r3))∧Aside0 (kq≤k)∧Drawn0 w wc)
 case first =>
  have H:=HC2.out;clear HC2;have H':=M_ H;clear H;go_wp2
  repeat (go_quiet (fail);try go_wp2)
  go_loopg [5] k (fun kq v5 w' => ∃ (x5_1:Int),v5=.int .i64 x5_1∧Aside0 (n_pair.l0 kq a0 x5_1=some (r1,r2,r3))∧Aside0 (kq≤k)∧Drawn0 w w')
  case atStart => exact ⟨(0),qnc1_,H',⟨Nat.le_refl _⟩,qnc4_⟩
  case round =>
   clear H'
   skip
   obtain ⟨x5_1,rfl,HA,HK1,⟨m1,rfl⟩⟩:=hrel
   cases gk with
   | zero => exact absurd HA.out (by simp [n_pair.l0])
   | succ k1 =>
    have H:=HA.out;clear HA;simp only [n_pair.l0] at H
    by_cases c3:x5_1 < (a0.size:Int)
    ·rw [if_pos c3] at H;have c3b0:=dT_ c3;clear c3
     (first|rw [c3b0]|(simp only [i64_w,i32_w];rw [c3b0])|skip)
     by_cases c4:0≤x5_1
     ·rw [if_pos c4] at H;have c4b0:=dT_ c4;clear c4;obtain ⟨t263,A6,H⟩:=ob_ H
      by_cases c7:t263=true
      ·subst c7;rw [if_pos rfl] at H;have H':=M_ H;clear H;have p5:0≤(x5_1:Int):=oD_ qnc3_;have q5:x5_1 < (a0.size:Int):=oD_ qnc3_;have hx5:=bt_at a0 x5_1;replace p5:=eq_true p5;replace q5:=eq_true q5
       go_wp2_with (first|(go_at_call 68;(with_reducible refine (n_digit.calls (bt a0 x5_1) true _ A6.out).mono ?_);rintro e w' ⟨rfl,⟨nd,rfl⟩⟩;(try first|exact ⟨rfl,_,World.drewN_drewN _ _ _⟩|exact ⟨rfl,_,Eq.trans (World.drewN_drewN _ _ _) (congrArg (World.drewN _) (Nat.add_assoc _ _ _))⟩)))
       repeat (go_quiet (first|(go_at_call 68;(with_reducible refine (n_digit.calls (bt a0 x5_1) true _ A6.out).mono ?_);rintro e w' ⟨rfl,⟨nd,rfl⟩⟩;(try first|exact ⟨rfl,_,World.drewN_drewN _ _ _⟩|exact ⟨rfl,_,Eq.trans (World.drewN_drewN _ _ _) (congrArg (World.drewN _) (Nat.add_assoc _ _ _))⟩)));try go_wp2_with (first|(go_at_call 68;(with_reducible refine (n_digit.calls (bt a0 x5_1) true _ A6.out).mono ?_);rintro e w' ⟨rfl,⟨nd,rfl⟩⟩;(try first|exact ⟨rfl,_,World.drewN_drewN _ _ _⟩|exact ⟨rfl,_,Eq.trans (World.drewN_drewN _ _ _) (congrArg (World.drewN _) (Nat.add_assoc _ _ _))⟩))))
       go_meet
       case rel => exact ⟨_,(x5_1),qnc1_,H',⟨by have:=HK1.out;first|omega|exact Nat.le_refl _⟩,qnc4_⟩
      ·replace c7:=Bool.eq_false_iff.mpr c7;subst c7;rw [if_neg (show ¬ (false=true) by decide)] at H;have H':=M_ H;clear H;have p5:0≤(x5_1:Int):=oD_ qnc3_;have q5:x5_1 < (a0.size:Int):=oD_ qnc3_;have hx5:=bt_at a0 x5_1;replace p5:=eq_true p5;replace q5:=eq_true q5
       go_wp2_with (first|(go_at_call 68;(with_reducible refine (n_digit.calls (bt a0 x5_1) false _ A6.out).mono ?_);rintro e w' ⟨rfl,⟨nd,rfl⟩⟩;(try first|exact ⟨rfl,_,World.drewN_drewN _ _ _⟩|exact ⟨rfl,_,Eq.trans (World.drewN_drewN _ _ _) (congrArg (World.drewN _) (Nat.add_assoc _ _ _))⟩)))
       repeat (go_quiet (first|(go_at_call 68;(with_reducible refine (n_digit.calls (bt a0 x5_1) false _ A6.out).mono ?_);rintro e w' ⟨rfl,⟨nd,rfl⟩⟩;(try first|exact ⟨rfl,_,World.drewN_drewN _ _ _⟩|exact ⟨rfl,_,Eq.trans (World.drewN_drewN _ _ _) (congrArg (World.drewN _) (Nat.add_assoc _ _ _))⟩)));try go_wp2_with (first|(go_at_call 68;(with_reducible refine (n_digit.calls (bt a0 x5_1) false _ A6.out).mono ?_);rintro e w' ⟨rfl,⟨nd,rfl⟩⟩;(try first|exact ⟨rfl,_,World.drewN_drewN _ _ _⟩|exact ⟨rfl,_,Eq.trans (World.drewN_drewN _ _ _) (congrArg (World.drewN _) (Nat.add_assoc _ _ _))⟩))))
       go_roundg k1
       case measure => have:=HK1.out;omega
       case rel => exact ⟨(wrap64 (x5_1+1)),qnc1_,H',⟨by have:=HK1.out;omega⟩,qnc4_⟩
     ·rw [if_neg c4] at H;exact absurd H (by simp)
    ·rw [if_neg c3] at H;have c3b0:=dF_ c3;clear c3
     (first|rw [c3b0]|(simp only [i64_w,i32_w];rw [c3b0])|skip)
     have H':=M_ H;clear H;go_wp2
     repeat (go_quiet (fail);try go_wp2)
     go_meet
     case rel => exact ⟨_,(x5_1),qnc1_,H',⟨by have:=HK1.out;first|omega|exact Nat.le_refl _⟩,qnc4_⟩
 case rest =>
  clear HC2
  (try clear c3);(try clear c3b0);(try clear c4);(try clear c4b0);(try clear p5);(try clear q5);(try clear hx5);(try clear c7)
  obtain ⟨kq,x5_1,rfl,HA,HJ1,⟨mc1,rfl⟩⟩:=hcut
  cases kq with
  | zero => exact absurd HA.out (by simp [n_pair.j1])
  | succ kj1 =>
   have H:=HA.out;clear HA;simp only [n_pair.j1] at H;have H':=M_ H;clear H;go_wp2
   repeat (go_quiet (fail);try go_wp2)
   go_loopg [6] kj1 (fun kq v6 w' => ∃ (x6_2:Int),v6=.int .i64 x6_2∧Aside0 (n_pair.l1 kq a0 x5_1 x6_2=some (r1,r2,r3))∧Aside0 (kq≤kj1)∧Drawn0 w w')
   case atStart => exact ⟨(x5_1),qnc1_,H',⟨Nat.le_refl _⟩,qnc4_⟩
   case round =>
    clear H'
    (try clear c3);(try clear c3b0);(try clear c4);(try clear c4b0);(try clear p5);(try clear q5);(try clear hx5);(try clear c7)
    obtain ⟨x6_2,rfl,HA,HK2,⟨m2,rfl⟩⟩:=hrel
    cases gk with
    | zero => exact absurd HA.out (by simp [n_pair.l1])
    | succ k2 =>
     have H:=HA.out;clear HA;simp only [n_pair.l1] at H
     by_cases c8:x6_2 < (a0.size:Int)
     ·rw [if_pos c8] at H;have c8b0:=dT_ c8;clear c8
      by_cases c9:0≤x6_2
      ·rw [if_pos c9] at H;have c9b0:=dT_ c9;clear c9;obtain ⟨t264,A11,H⟩:=ob_ H
       by_cases c12:t264=true
       ·subst c12;rw [if_pos rfl] at H;have H':=M_ H;clear H;have p10:0≤(x6_2:Int):=oD_ qnc3_;have q10:x6_2 < (a0.size:Int):=oD_ qnc3_;have hx10:=bt_at a0 x6_2;replace p10:=eq_true p10;replace q10:=eq_true q10
        go_wp2_with (first|(go_at_call 68;(with_reducible refine (n_digit.calls (bt a0 x6_2) true _ A11.out).mono ?_);rintro e w' ⟨rfl,⟨nd,rfl⟩⟩;(try first|exact ⟨rfl,_,World.drewN_drewN _ _ _⟩|exact ⟨rfl,_,Eq.trans (World.drewN_drewN _ _ _) (congrArg (World.drewN _) (Nat.add_assoc _ _ _))⟩)))
        repeat (go_quiet (first|(go_at_call 68;(with_reducible refine (n_digit.calls (bt a0 x6_2) true _ A11.out).mono ?_);rintro e w' ⟨rfl,⟨nd,rfl⟩⟩;(try first|exact ⟨rfl,_,World.drewN_drewN _ _ _⟩|exact ⟨rfl,_,Eq.trans (World.drewN_drewN _ _ _) (congrArg (World.drewN _) (Nat.add_assoc _ _ _))⟩)));try go_wp2_with (first|(go_at_call 68;(with_reducible refine (n_digit.calls (bt a0 x6_2) true _ A11.out).mono ?_);rintro e w' ⟨rfl,⟨nd,rfl⟩⟩;(try first|exact ⟨rfl,_,World.drewN_drewN _ _ _⟩|exact ⟨rfl,_,Eq.trans (World.drewN_drewN _ _ _) (congrArg (World.drewN _) (Nat.add_assoc _ _ _))⟩))))
        go_roundg k2
        case measure => have:=HJ1.out;have:=HK2.out;omega
        case rel => exact ⟨(wrap64 (x6_2+1)),qnc1_,H',⟨by have:=HJ1.out;have:=HK2.out;omega⟩,qnc4_⟩
       ·replace c12:=Bool.eq_false_iff.mpr c12;subst c12;rw [if_neg (show ¬ (false=true) by decide)] at H
        by_cases c13:0≤x5_1
        ·rw [if_pos c13] at H;have c13b0:=eq_true c13;have c13b1:=dT_ c13;clear c13
         by_cases c14:x5_1≤(a0.size:Int)
         ·rw [if_pos c14] at H;have c14b0:=eq_true c14;have c14b1:=dT_ c14;clear c14;have c15b0:=eq_true (oD_ qnc3_:0≤x5_1)
          by_cases c16:x5_1≤x6_2
          ·rw [if_pos c16] at H;have c16b0:=eq_true c16;have c16b1:=dT_ c16;clear c16
           by_cases c17:x6_2≤(a0.size:Int)
           ·rw [if_pos c17] at H;have c17b0:=eq_true c17;have c17b1:=dT_ c17;clear c17;have c18b0:=eq_true (oD_ qnc3_:0≤x6_2);have c19b0:=eq_true (oD_ qnc3_:x6_2≤(a0.size:Int));simp only [Option.some.injEq,Prod.mk.injEq] at H;obtain ⟨rfl,rfl,rfl⟩:=H;have p10:0≤(x6_2:Int):=oD_ qnc3_;have q10:x6_2 < (a0.size:Int):=oD_ qnc3_;have hx10:=bt_at a0 x6_2;replace p10:=eq_true p10;replace q10:=eq_true q10
            go_wp2_with (first|(go_at_call 68;(with_reducible refine (n_digit.calls (bt a0 x6_2) false _ A11.out).mono ?_);rintro e w' ⟨rfl,⟨nd,rfl⟩⟩;(try first|exact ⟨rfl,_,World.drewN_drewN _ _ _⟩|exact ⟨rfl,_,Eq.trans (World.drewN_drewN _ _ _) (congrArg (World.drewN _) (Nat.add_assoc _ _ _))⟩)))
            repeat (go_quiet (first|(go_at_call 68;(with_reducible refine (n_digit.calls (bt a0 x6_2) false _ A11.out).mono ?_);rintro e w' ⟨rfl,⟨nd,rfl⟩⟩;(try first|exact ⟨rfl,_,World.drewN_drewN _ _ _⟩|exact ⟨rfl,_,Eq.trans (World.drewN_drewN _ _ _) (congrArg (World.drewN _) (Nat.add_assoc _ _ _))⟩)));try go_wp2_with (first|(go_at_call 68;(with_reducible refine (n_digit.calls (bt a0 x6_2) false _ A11.out).mono ?_);rintro e w' ⟨rfl,⟨nd,rfl⟩⟩;(try first|exact ⟨rfl,_,World.drewN_drewN _ _ _⟩|exact ⟨rfl,_,Eq.trans (World.drewN_drewN _ _ _) (congrArg (World.drewN _) (Nat.add_assoc _ _ _))⟩))))
            go_ret3
            exact ⟨qnc1_,qnc4_⟩
           ·rw [if_neg c17] at H;exact absurd H (by simp)
          ·rw [if_neg c16] at H;exact absurd H (by simp)
         ·rw [if_neg c14] at H;exact absurd H (by simp)
        ·rw [if_neg c13] at H;exact absurd H (by simp)
      ·rw [if_neg c9] at H;exact absurd H (by simp)
     ·rw [if_neg c8] at H;have c8b0:=dF_ c8;clear c8
      by_cases c20:0≤x5_1
      ·rw [if_pos c20] at H;have c20b0:=eq_true c20;have c20b1:=dT_ c20;clear c20
       by_cases c21:x5_1≤(a0.size:Int)
       ·rw [if_pos c21] at H;have c21b0:=eq_true c21;have c21b1:=dT_ c21;clear c21;have c22b0:=eq_true (oD_ qnc3_:0≤x5_1)
        by_cases c23:x5_1≤x6_2
        ·rw [if_pos c23] at H;have c23b0:=eq_true c23;have c23b1:=dT_ c23;clear c23
         by_cases c24:x6_2≤(a0.size:Int)
         ·rw [if_pos c24] at H;have c24b0:=eq_true c24;have c24b1:=dT_ c24;clear c24
          by_cases c25:0≤x6_2
          ·rw [if_pos c25] at H;have c25b0:=eq_true c25;have c25b1:=dT_ c25;clear c25;have c26b0:=eq_true (oD_ qnc3_:x6_2≤(a0.size:Int));simp only [Option.some.injEq,Prod.mk.injEq] at H;obtain ⟨rfl,rfl,rfl⟩:=H;go_wp2
           repeat (go_quiet (fail);try go_wp2)
           go_ret3
           exact ⟨qnc1_,qnc4_⟩
          ·rw [if_neg c25] at H;exact absurd H (by simp)
         ·rw [if_neg c24] at H;exact absurd H (by simp)
        ·rw [if_neg c23] at H;exact absurd H (by simp)
       ·rw [if_neg c21] at H;exact absurd H (by simp)
      ·rw [if_neg c20] at H;exact absurd H (by simp)

set_option maxHeartbeats 8000000
set_option maxRecDepth 100000

def rankR (c:Int) (k:Nat):Int:=c+55 - (if 0 < k∧57 < c then 10 else 0) - (if 1 < k∧90 < c then 26 else 0) - (if 2 < k∧122 < c then 26 else 0) - (if 3 < k∧126 < c then 1 else 0)
def rankF (c:Int):Int:=if c=126 then 1 else if 65≤c∧c≤90 then c - 62 else if 97≤c∧c≤122 then c - 68 else rankR c 4
def n_rank.f (a0:Int):Option Int:=if 0≤a0∧a0≤255 then some (rankF a0) else none
theorem n_rank_ret {a b : Int} (h : a = b) : Ending.returned (.int .u8 a) = .returned (.int .u8 b) := by rw [h]
def rankCells:Array Value:=#[.int .u8 57,.int .i64 10,.int .u8 90,.int .i64 26,.int .u8 122,.int .i64 26,.int .u8 126,.int .i64 1]
set_option maxRecDepth 100000 in
set_option maxHeartbeats 4000000 in
theorem n_rank.calls (a0 : Int) (r : Int) (w : World) (hGL : GOK w) (h : n_rank.f a0 = some r) :
    Calls Tryd.prog 84 #[.int .u8 a0] w fun e w' => e=.returned (.int .u8 r)∧Below w.heap.size w w':=by
  unfold n_rank.f at h
  split at h
  · rename_i hh
    obtain ⟨h0,h1⟩:=hh;have HR:=M_ (Option.some.inj h);clear h;obtain ⟨fr,hfr⟩:=hGL.g2;have HG:=M_ (show w.heap[2]?=some (.cells rankCells 116 fr) from hfr);have HB:=M_ (Below.refl w.heap.size w);clear hGL hfr
    by_cases e1:a0=126
    · subst e1
      go_enter Tryd.func84,Tryd.ntmps84
      go_wp2;go_ret;exact ⟨n_rank_ret (by rw [← HR.out];rfl),HB.out⟩
    · have b1:(a0 == 126)=false:=by simpa using e1
      have E1:=M_ e1;clear e1
      by_cases e2:65≤a0∧a0≤90
      · obtain ⟨e2,e3⟩:=e2
        go_enter Tryd.func84,Tryd.ntmps84
        go_wp2;go_ret;exact ⟨n_rank_ret (by rw [← HR.out];unfold rankF;rw [if_neg E1.out,if_pos ⟨e2,e3⟩];omega),HB.out⟩
      · by_cases e4:97≤a0∧a0≤122
        · obtain ⟨e4,e5⟩:=e4
          have n2 : ¬ a0≤90:=by omega
          have n1:65≤a0:=by omega
          go_enter Tryd.func84,Tryd.ntmps84
          go_wp2;go_ret;exact ⟨n_rank_ret (by rw [← HR.out];unfold rankF;rw [if_neg E1.out,if_neg e2,if_pos ⟨e4,e5⟩];omega),HB.out⟩
        · have HF:=M_ (show r=rankR a0 4 from by rw [← HR.out];unfold rankF;rw [if_neg E1.out,if_neg e2,if_neg e4])
          have hi0 : ∀ W:World,(Instr.index 116 (.agg rankCells) (.int .i64 0)).run Tryd.prog W=.ok (.agg #[.int .u8 57,.int .i64 10]) W:=fun _ => by kernel_rfl
          have hi1 : ∀ W:World,(Instr.index 116 (.agg rankCells) (.int .i64 1)).run Tryd.prog W=.ok (.agg #[.int .u8 90,.int .i64 26]) W:=fun _ => by kernel_rfl
          have hi2 : ∀ W:World,(Instr.index 116 (.agg rankCells) (.int .i64 2)).run Tryd.prog W=.ok (.agg #[.int .u8 122,.int .i64 26]) W:=fun _ => by kernel_rfl
          have hi3 : ∀ W:World,(Instr.index 116 (.agg rankCells) (.int .i64 3)).run Tryd.prog W=.ok (.agg #[.int .u8 126,.int .i64 1]) W:=fun _ => by kernel_rfl
          have hu1:=Tryd.underlying116;have hu2:=Tryd.underlying115;have hcs:(65≤a0→¬ a0≤90)∧(97≤a0→¬ a0≤122):=by omega
          have HCS:=M_ hcs;clear hcs e2 e4
          by_cases n1:65≤a0
          all_goals by_cases n2:97≤a0
          all_goals first
            | (exfalso;omega)
            | skip
          all_goals (try have n3:90 < a0:=by have:=HCS.out;omega)
          all_goals (try have n4:122 < a0:=by have:=HCS.out;omega)
          all_goals (try have d90:decide (a0≤90)=false:=decide_eq_false (by have:=HCS.out;omega))
          all_goals (try have d122:decide (a0≤122)=false:=decide_eq_false (by have:=HCS.out;omega))
          all_goals
            go_enter Tryd.func84,Tryd.ntmps84
            go_wp2_with (refine wpList_load_row rfl 116 _ rfl 2 rfl _ rankCells fr _ HG.out hu1 rfl (by kernel_rfl) ?_)
            go_loopw [3,33] (fun v3 v33 wr => ∃ (j x:Int),v33=.int .i64 j∧v3=.int .i64 x∧Aside0 (x=rankR a0 j.toNat∧0≤j∧j≤4)∧0≤x∧x≤400∧Aside0 (Below w.heap.size w wr)) (fun _ v33 _ => 4 - (intOf v33).toNat)
            case atStart => exact ⟨0,a0+55,rfl,rfl,⟨by simp [rankR],by omega,by omega⟩,by omega,by omega,HB⟩
            case round =>
            clear HB;obtain ⟨j,x,rfl,rfl,hx,hx0,hx1,HB⟩:=hrel
            rcases (by have:=hx.out;omega:j=0∨j=1∨j=2∨j=3∨j=4) with rfl|rfl|rfl|rfl|rfl
            · by_cases hgt:57 < a0
              · first
                | (exfalso;omega)
                | (have hge:decide (57 < a0)=true:=decide_eq_true hgt
                   go_wp2
                   go_roundw
                   case rel => exact ⟨1,x - 10,rfl,(by first|rfl|(simp;omega)),⟨by rw [hx.out.1];simp [rankR];omega,by omega,by omega⟩,by have:=hx.out.1;simp [rankR] at this;omega,by omega,⟨qnc38_⟩⟩
                   case measure => simp [intOf])
              · first
                | (exfalso;omega)
                | (have hge:decide (57 < a0)=false:=decide_eq_false hgt
                   go_wp2
                   go_roundw
                   case rel => exact ⟨1,x,rfl,rfl,⟨by rw [hx.out.1];simp [rankR];omega,by omega,by omega⟩,by have:=hx.out.1;simp [rankR] at this;omega,by omega,⟨qnc38_⟩⟩
                   case measure => simp [intOf])
            · by_cases hgt:90 < a0
              · first
                | (exfalso;omega)
                | (have hge:decide (90 < a0)=true:=decide_eq_true hgt
                   go_wp2
                   go_roundw
                   case rel => exact ⟨2,x - 26,rfl,(by first|rfl|(simp;omega)),⟨by rw [hx.out.1];simp [rankR];omega,by omega,by omega⟩,by have:=hx.out.1;simp [rankR] at this;omega,by omega,⟨qnc38_⟩⟩
                   case measure => simp [intOf])
              · first
                | (exfalso;omega)
                | (have hge:decide (90 < a0)=false:=decide_eq_false hgt
                   go_wp2
                   go_roundw
                   case rel => exact ⟨2,x,rfl,rfl,⟨by rw [hx.out.1];simp [rankR];omega,by omega,by omega⟩,by have:=hx.out.1;simp [rankR] at this;omega,by omega,⟨qnc38_⟩⟩
                   case measure => simp [intOf])
            · by_cases hgt:122 < a0
              · first
                | (exfalso;omega)
                | (have hge:decide (122 < a0)=true:=decide_eq_true hgt
                   go_wp2
                   go_roundw
                   case rel => exact ⟨3,x - 26,rfl,(by first|rfl|(simp;omega)),⟨by rw [hx.out.1];simp [rankR];omega,by omega,by omega⟩,by have:=hx.out.1;simp [rankR] at this;omega,by omega,⟨qnc38_⟩⟩
                   case measure => simp [intOf])
              · first
                | (exfalso;omega)
                | (have hge:decide (122 < a0)=false:=decide_eq_false hgt
                   go_wp2
                   go_roundw
                   case rel => exact ⟨3,x,rfl,rfl,⟨by rw [hx.out.1];simp [rankR];omega,by omega,by omega⟩,by have:=hx.out.1;simp [rankR] at this;omega,by omega,⟨qnc38_⟩⟩
                   case measure => simp [intOf])
            · by_cases hgt:126 < a0
              · first
                | (exfalso;omega)
                | (have hge:decide (126 < a0)=true:=decide_eq_true hgt
                   go_wp2
                   go_roundw
                   case rel => exact ⟨4,x - 1,rfl,(by first|rfl|(simp;omega)),⟨by rw [hx.out.1];simp [rankR];omega,by omega,by omega⟩,by have:=hx.out.1;simp [rankR] at this;omega,by omega,⟨qnc38_⟩⟩
                   case measure => simp [intOf])
              · first
                | (exfalso;omega)
                | (have hge:decide (126 < a0)=false:=decide_eq_false hgt
                   go_wp2
                   go_roundw
                   case rel => exact ⟨4,x,rfl,rfl,⟨by rw [hx.out.1];simp [rankR];omega,by omega,by omega⟩,by have:=hx.out.1;simp [rankR] at this;omega,by omega,⟨qnc38_⟩⟩
                   case measure => simp [intOf])
            · go_wp2
              go_ret;exact ⟨n_rank_ret (by rw [HF.out,hx.out.1];simp [rankR];omega),HB.out⟩
  · cases h

set_option maxHeartbeats 8000000
set_option maxRecDepth 100000

def cmp_isNaN_byte.f (a0:Int):Option (Bool):=some (a0 != a0)
theorem cmp_isNaN_byte.calls (a0 : Int) (r : Bool) (w : World) (h : cmp_isNaN_byte.f a0 = some r) :
  Calls Tryd.prog 106 #[.int .u8 a0] w fun e w' => e=.returned (.bool r)∧Drawn0 w w':=by
 have H:(some (a0 != a0))=some r:=h;clear h;obtain rfl:=Option.some.inj H
 go_enter Tryd.func106,Tryd.ntmps106
 go_wp2;go_ret;exact ⟨qnc1_,qnc4_⟩

set_option maxHeartbeats 8000000
set_option maxRecDepth 100000

def cmp_Compare_byte.f (a0:Int) (a1:Int):Option (Int):=(cmp_isNaN_byte.f a0).bind fun t265 => ((cmp_isNaN_byte.f a1).bind fun t266 => (if t265=true then (if t266=true then (some 0) else (some (-1))) else (if t266=true then (some 1) else (if a0 < a1 then (some (-1)) else (if a0 > a1 then (some 1) else (some 0))))))
theorem cmp_Compare_byte.calls (a0 : Int) (a1 : Int) (r : Int) (w : World) (h : cmp_Compare_byte.f a0 a1 = some r) :
  Calls Tryd.prog 97 #[.int .u8 a0,.int .u8 a1] w fun e w' => e=.returned (.int .i64 r)∧Drawn0 w w':=by
 have H:((cmp_isNaN_byte.f a0).bind fun t265 => ((cmp_isNaN_byte.f a1).bind fun t266 => (if t265=true then (if t266=true then (some 0) else (some (-1))) else (if t266=true then (some 1) else (if a0 < a1 then (some (-1)) else (if a0 > a1 then (some 1) else (some 0)))))))=some r:=h;clear h;obtain ⟨t265,A3,H⟩:=ob_ H;obtain ⟨t266,A4,H⟩:=ob_ H
 by_cases c5:t265=true
 ·subst c5;rw [if_pos rfl] at H
  by_cases c6:t266=true
  ·subst c6;rw [if_pos rfl] at H;obtain rfl:=Option.some.inj H
   go_enter Tryd.func97,Tryd.ntmps97
   have tk7:=trivial;have tk8:=trivial
   go_wp2_with (first|(clear tk7;(with_reducible refine gate_callee (f:=106) rfl ?_);refine goesL_ (some 8) rfl rfl Tryd.func106 (by kernel_rfl) rfl #[.int .u8 a0] rfl qnc0_ ?_;(with_reducible refine (cmp_isNaN_byte.calls a0 true _ A3.out).mono ?_);rintro e w' ⟨rfl,⟨nd,rfl⟩⟩;refine ⟨_,rfl,?_⟩)|(clear tk8;(with_reducible refine gate_callee (f:=106) rfl ?_);refine goesL_ (some 10) rfl rfl Tryd.func106 (by kernel_rfl) rfl #[.int .u8 a1] rfl qnc0_ ?_;(with_reducible refine (cmp_isNaN_byte.calls a1 true _ A4.out).mono ?_);rintro e w' ⟨rfl,⟨nd,rfl⟩⟩;refine ⟨_,rfl,?_⟩))
   go_ret;exact ⟨qnc1_,qnc4_⟩
  ·replace c6:=Bool.eq_false_iff.mpr c6;subst c6;rw [if_neg (show ¬ (false=true) by decide)] at H;obtain rfl:=Option.some.inj H
   go_enter Tryd.func97,Tryd.ntmps97
   have tk9:=trivial;have tk10:=trivial
   go_wp2_with (first|(clear tk9;(with_reducible refine gate_callee (f:=106) rfl ?_);refine goesL_ (some 8) rfl rfl Tryd.func106 (by kernel_rfl) rfl #[.int .u8 a0] rfl qnc0_ ?_;(with_reducible refine (cmp_isNaN_byte.calls a0 true _ A3.out).mono ?_);rintro e w' ⟨rfl,⟨nd,rfl⟩⟩;refine ⟨_,rfl,?_⟩)|(clear tk10;(with_reducible refine gate_callee (f:=106) rfl ?_);refine goesL_ (some 10) rfl rfl Tryd.func106 (by kernel_rfl) rfl #[.int .u8 a1] rfl qnc0_ ?_;(with_reducible refine (cmp_isNaN_byte.calls a1 false _ A4.out).mono ?_);rintro e w' ⟨rfl,⟨nd,rfl⟩⟩;refine ⟨_,rfl,?_⟩))
   go_ret;exact ⟨qnc1_,qnc4_⟩
 ·replace c5:=Bool.eq_false_iff.mpr c5;subst c5;rw [if_neg (show ¬ (false=true) by decide)] at H
  by_cases c11:t266=true
  ·subst c11;rw [if_pos rfl] at H;obtain rfl:=Option.some.inj H
   go_enter Tryd.func97,Tryd.ntmps97
   have tk12:=trivial;have tk13:=trivial
   go_wp2_with (first|(clear tk12;(with_reducible refine gate_callee (f:=106) rfl ?_);refine goesL_ (some 8) rfl rfl Tryd.func106 (by kernel_rfl) rfl #[.int .u8 a0] rfl qnc0_ ?_;(with_reducible refine (cmp_isNaN_byte.calls a0 false _ A3.out).mono ?_);rintro e w' ⟨rfl,⟨nd,rfl⟩⟩;refine ⟨_,rfl,?_⟩)|(clear tk13;(with_reducible refine gate_callee (f:=106) rfl ?_);refine goesL_ (some 10) rfl rfl Tryd.func106 (by kernel_rfl) rfl #[.int .u8 a1] rfl qnc0_ ?_;(with_reducible refine (cmp_isNaN_byte.calls a1 true _ A4.out).mono ?_);rintro e w' ⟨rfl,⟨nd,rfl⟩⟩;refine ⟨_,rfl,?_⟩))
   go_ret;exact ⟨qnc1_,qnc4_⟩
  ·replace c11:=Bool.eq_false_iff.mpr c11;subst c11;rw [if_neg (show ¬ (false=true) by decide)] at H
   by_cases c14:a0 < a1
   ·rw [if_pos c14] at H;have c14b0:=dT_ c14;clear c14;obtain rfl:=Option.some.inj H
    go_enter Tryd.func97,Tryd.ntmps97
    have tk15:=trivial;have tk16:=trivial
    go_wp2_with (first|(clear tk15;(with_reducible refine gate_callee (f:=106) rfl ?_);refine goesL_ (some 8) rfl rfl Tryd.func106 (by kernel_rfl) rfl #[.int .u8 a0] rfl qnc0_ ?_;(with_reducible refine (cmp_isNaN_byte.calls a0 false _ A3.out).mono ?_);rintro e w' ⟨rfl,⟨nd,rfl⟩⟩;refine ⟨_,rfl,?_⟩)|(clear tk16;(with_reducible refine gate_callee (f:=106) rfl ?_);refine goesL_ (some 10) rfl rfl Tryd.func106 (by kernel_rfl) rfl #[.int .u8 a1] rfl qnc0_ ?_;(with_reducible refine (cmp_isNaN_byte.calls a1 false _ A4.out).mono ?_);rintro e w' ⟨rfl,⟨nd,rfl⟩⟩;refine ⟨_,rfl,?_⟩))
    go_ret;exact ⟨qnc1_,qnc4_⟩
   ·rw [if_neg c14] at H;have c14b0:=dF_ c14;clear c14
    by_cases c17:a0 > a1
    ·rw [if_pos c17] at H;have c17b0:=dT_ c17;clear c17;obtain rfl:=Option.some.inj H
     go_enter Tryd.func97,Tryd.ntmps97
     have tk18:=trivial;have tk19:=trivial
     go_wp2_with (first|(clear tk18;(with_reducible refine gate_callee (f:=106) rfl ?_);refine goesL_ (some 8) rfl rfl Tryd.func106 (by kernel_rfl) rfl #[.int .u8 a0] rfl qnc0_ ?_;(with_reducible refine (cmp_isNaN_byte.calls a0 false _ A3.out).mono ?_);rintro e w' ⟨rfl,⟨nd,rfl⟩⟩;refine ⟨_,rfl,?_⟩)|(clear tk19;(with_reducible refine gate_callee (f:=106) rfl ?_);refine goesL_ (some 10) rfl rfl Tryd.func106 (by kernel_rfl) rfl #[.int .u8 a1] rfl qnc0_ ?_;(with_reducible refine (cmp_isNaN_byte.calls a1 false _ A4.out).mono ?_);rintro e w' ⟨rfl,⟨nd,rfl⟩⟩;refine ⟨_,rfl,?_⟩))
     go_ret;exact ⟨qnc1_,qnc4_⟩
    ·rw [if_neg c17] at H;have c17b0:=dF_ c17;clear c17;obtain rfl:=Option.some.inj H
     go_enter Tryd.func97,Tryd.ntmps97
     have tk20:=trivial;have tk21:=trivial
     go_wp2_with (first|(clear tk20;(with_reducible refine gate_callee (f:=106) rfl ?_);refine goesL_ (some 8) rfl rfl Tryd.func106 (by kernel_rfl) rfl #[.int .u8 a0] rfl qnc0_ ?_;(with_reducible refine (cmp_isNaN_byte.calls a0 false _ A3.out).mono ?_);rintro e w' ⟨rfl,⟨nd,rfl⟩⟩;refine ⟨_,rfl,?_⟩)|(clear tk21;(with_reducible refine gate_callee (f:=106) rfl ?_);refine goesL_ (some 10) rfl rfl Tryd.func106 (by kernel_rfl) rfl #[.int .u8 a1] rfl qnc0_ ?_;(with_reducible refine (cmp_isNaN_byte.calls a1 false _ A4.out).mono ?_);rintro e w' ⟨rfl,⟨nd,rfl⟩⟩;refine ⟨_,rfl,?_⟩))
     go_ret;exact ⟨qnc1_,qnc4_⟩

set_option maxHeartbeats 8000000
set_option maxRecDepth 100000

mutual
def n_words.l0:Nat→ByteArray→ByteArray→Int→Int→Option (Int)
 | 0,_,_,_,_ => none
 | k+1,x0,x1,x12,x13 => if x13 < x12 then (if x13 < (x0.size:Int) then (if 0≤x13 then ((n_rank.f (bt x0 x13)).bind fun t267 => (n_words.j1 k x0 x1 x13 t267 2 x12 x13)) else (none)) else (n_words.j1 k x0 x1 x13 2 2 x12 x13)) else (some 0)
def n_words.j1:Nat→ByteArray→ByteArray→Int→Int→Int→Int→Int→Option (Int)
 | 0,_,_,_,_,_,_,_ => none
 | k+1,x0,x1,x5,x6,x7,x12,x13 => if x5 < (x1.size:Int) then (if 0≤x5 then ((n_rank.f (bt x1 x5)).bind fun t268 => (if x6=t268 then (n_words.l0 k x0 x1 x12 (wrap64 (x13+1))) else ((cmp_Compare_byte.f x6 t268).bind fun t269 => (some t269)))) else (none)) else (if x6=x7 then (n_words.l0 k x0 x1 x12 (wrap64 (x13+1))) else ((cmp_Compare_byte.f x6 x7).bind fun t270 => (some t270)))
end
def n_words.f (k:Nat) (a0:ByteArray) (a1:ByteArray):Option (Int):=n_words.l0 k a0 a1 (mx (a0.size:Int) (a1.size:Int)) 0
theorem n_words.calls (k : Nat) (a0 : ByteArray) (a1 : ByteArray) (r : Int) (w : World) (hGL : GOK w) (h : n_words.f k a0 a1 = some r) :
  Calls Tryd.prog 75 #[.string a0,.string a1] w fun e w' => e=.returned (.int .i64 r)∧Below w.heap.size w w':=by
 have HGL:=M_ hGL;clear hGL;have HB:=M_ (Below.refl w.heap.size w);have H:(n_words.l0 k a0 a1 (mx (a0.size:Int) (a1.size:Int)) 0)=some r:=h;clear h;obtain ⟨ji3,hji3⟩ : ∃ j_:Int,(mx (a0.size:Int) (a1.size:Int))=j_:=⟨_,rfl⟩;replace H:(n_words.l0 k a0 a1 ji3 0)=some r:=by first|(rw [hji3] at H;exact H)|(simp only [hji3] at H ⊢;exact H)
 (try (have hji3l:0≤ji3:=by (rw [← hji3];unfold mx;(repeat' split) <;> omega)))
 (try (have hji3m:0≤ji3:=by omega))
 have hji3_:(if (a0.size:Int) < (a1.size:Int) then (a1.size:Int) else (a0.size:Int))=ji3:=hji3
 (try have hji3N:(if a0.size < a1.size then (a1.size:Int) else (a0.size:Int))=ji3:=by simpa only [Int.ofNat_lt] using hji3_)
 have H':=M_ H;clear H
 go_enter Tryd.func75,Tryd.ntmps75
 go_wp2
 go_loopg [13] k (fun kq v13 w' => ∃ (x13_1:Int),v13=.int .i64 x13_1∧Aside0 (n_words.l0 kq a0 a1 ji3 x13_1=some r)∧Aside0 (kq≤k)∧Aside0 (Below w.heap.size w w'))
 case atStart => exact ⟨(0),qnc1_,H',⟨Nat.le_refl _⟩,⟨qnc2_⟩⟩
 case round =>
  clear H'
  skip
  obtain ⟨x13_1,rfl,HA,HK1,HB⟩:=hrel
  cases gk with
  | zero => exact absurd HA.out (by simp [n_words.l0])
  | succ k1 =>
   have H:=HA.out;clear HA;simp only [n_words.l0] at H
   by_cases c4:x13_1 < ji3
   ·rw [if_pos c4] at H;have c4b0:=dT_ c4;clear c4;have HC5:=M_ H;clear H;go_upto_if 19 with (fail)
    go_cut [6] (fun v6 wc => ∃ (kq:Nat) (x6_4:Int),v6=.int .u8 x6_4∧Aside0 (n_words.j1 kq a0 a1 x13_1 x6_4 2 ji3 x13_1=some r)∧Aside0 (kq≤k1)∧Aside0 (Below w.heap.size w wc))
    case first =>
     have H:=HC5.out;clear HC5
     by_cases c6:x13_1 < (a0.size:Int)
     ·rw [if_pos c6] at H;have c6b0:=dT_ c6;clear c6
      (first|rw [c6b0]|(simp only [i64_w,i32_w];rw [c6b0])|skip)
      by_cases c7:0≤x13_1
      ·rw [if_pos c7] at H;have c7b0:=dT_ c7;clear c7;obtain ⟨t267,A9,H⟩:=ob_ H;have H':=M_ H;clear H;have p8:0≤(x13_1:Int):=oD_ qnc3_;have q8:x13_1 < (a0.size:Int):=oD_ qnc3_;have hx8:=bt_at a0 x13_1;replace p8:=eq_true p8;replace q8:=eq_true q8
       go_wp2_with (first|((with_reducible refine gate_callee (f:=84) rfl ?_);refine goesL_ (some 23) rfl rfl Tryd.func84 (by kernel_rfl) rfl #[.int .u8 (bt a0 x13_1)] rfl qnc0_ ?_;(with_reducible refine (n_rank.calls (bt a0 x13_1) t267 _ ?side1 A9.out).mono ?_);(case side1 => exact GOK.below HGL.out qnc2_);rintro e w10 ⟨rfl,hb⟩;refine ⟨_,rfl,?_⟩;have n0_:=M_ (below_step qnc2_ hb);clear HB;have HB:=n0_;clear n0_;(try clear hb)))
       go_meet
       case rel => exact ⟨_,(t267),qnc1_,H',⟨by have:=HK1.out;first|omega|exact Nat.le_refl _⟩,⟨qnc2_⟩⟩
      ·rw [if_neg c7] at H;exact absurd H (by simp)
     ·rw [if_neg c6] at H;have c6b0:=dF_ c6;clear c6
      (first|rw [c6b0]|(simp only [i64_w,i32_w];rw [c6b0])|skip)
      have H':=M_ H;clear H;go_wp2;go_meet
      case rel => exact ⟨_,(2),qnc1_,H',⟨by have:=HK1.out;first|omega|exact Nat.le_refl _⟩,⟨qnc2_⟩⟩
    case rest =>
     clear HC5
     (try clear c4);(try clear c4b0);(try clear c6);(try clear c6b0);(try clear c7);(try clear c7b0);(try clear p8);(try clear q8);(try clear hx8)
     obtain ⟨kq,x6_4,rfl,HA,HJ4,HB⟩:=hcut
     cases kq with
     | zero => exact absurd HA.out (by simp [n_words.j1])
     | succ kj4 =>
      have H:=HA.out;clear HA;simp only [n_words.j1] at H
      by_cases c11:x13_1 < (a1.size:Int)
      ·rw [if_pos c11] at H;have c11b0:=dT_ c11;clear c11
       by_cases c12:0≤x13_1
       ·rw [if_pos c12] at H;have c12b0:=dT_ c12;clear c12;obtain ⟨t268,A14,H⟩:=ob_ H
        by_cases c15:x6_4=t268
        ·rw [if_pos c15] at H;have c15b0:(x6_4 == t268)=true:=beq_iff_eq.mpr c15;have c15b1:(x6_4 != t268)=false:=nF_ c15;clear c15;have H':=M_ H;clear H;have p13:0≤(x13_1:Int):=oD_ qnc3_;have q13:x13_1 < (a1.size:Int):=oD_ qnc3_;have hx13:=bt_at a1 x13_1;replace p13:=eq_true p13;replace q13:=eq_true q13
         go_wp2_with (first|((with_reducible refine gate_callee (f:=84) rfl ?_);refine goesL_ (some 31) rfl rfl Tryd.func84 (by kernel_rfl) rfl #[.int .u8 (bt a1 x13_1)] rfl qnc0_ ?_;(with_reducible refine (n_rank.calls (bt a1 x13_1) t268 _ ?side1 A14.out).mono ?_);(case side1 => exact GOK.below HGL.out qnc2_);rintro e w16 ⟨rfl,hb⟩;refine ⟨_,rfl,?_⟩;have n0_:=M_ (below_step qnc2_ hb);clear HB;have HB:=n0_;clear n0_;(try clear hb)))
         go_roundg kj4
         case measure => have:=HK1.out;have:=HJ4.out;omega
         case rel => exact ⟨(wrap64 (x13_1+1)),qnc1_,H',⟨by have:=HK1.out;have:=HJ4.out;omega⟩,⟨qnc2_⟩⟩
        ·rw [if_neg c15] at H;have c15b0:(x6_4 == t268)=false:=bF_ c15;have c15b1:(x6_4 != t268)=true:=bne_iff_ne.mpr c15;obtain ⟨t269,A17,H⟩:=ob_ H;obtain rfl:=Option.some.inj H;have p13:0≤(x13_1:Int):=oD_ qnc3_;have q13:x13_1 < (a1.size:Int):=oD_ qnc3_;have hx13:=bt_at a1 x13_1;replace p13:=eq_true p13;replace q13:=eq_true q13;have tk19:=trivial;have tk20:=trivial
         go_wp2_with (first|(clear tk19;(with_reducible refine gate_callee (f:=84) rfl ?_);refine goesL_ (some 31) rfl rfl Tryd.func84 (by kernel_rfl) rfl #[.int .u8 (bt a1 x13_1)] rfl qnc0_ ?_;(with_reducible refine (n_rank.calls (bt a1 x13_1) t268 _ ?side1 A14.out).mono ?_);(case side1 => exact GOK.below HGL.out qnc2_);rintro e w18 ⟨rfl,hb⟩;refine ⟨_,rfl,?_⟩;have n0_:=M_ (below_step qnc2_ hb);clear HB;have HB:=n0_;clear n0_;(try clear hb))|(clear tk20;(with_reducible refine gate_callee (f:=97) rfl ?_);refine goesL_ (some 37) rfl rfl Tryd.func97 (by kernel_rfl) rfl #[.int .u8 x6_4,.int .u8 t268] rfl qnc0_ ?_;(with_reducible refine (cmp_Compare_byte.calls x6_4 t268 t269 _ A17.out).mono ?_);rintro e w' ⟨rfl,⟨nd,rfl⟩⟩;refine ⟨_,rfl,?_⟩))
         go_ret;exact ⟨qnc88_,qnc2_⟩
       ·rw [if_neg c12] at H;exact absurd H (by simp)
      ·rw [if_neg c11] at H;have c11b0:=dF_ c11;clear c11
       by_cases c21:x6_4=2
       ·rw [if_pos c21] at H;have c21b0:(x6_4 == 2)=true:=beq_iff_eq.mpr c21;have c21b1:(x6_4 != 2)=false:=nF_ c21;clear c21;have H':=M_ H;clear H;go_wp2
        go_roundg kj4
        case measure => have:=HK1.out;have:=HJ4.out;omega
        case rel => exact ⟨(wrap64 (x13_1+1)),qnc1_,H',⟨by have:=HK1.out;have:=HJ4.out;omega⟩,⟨qnc2_⟩⟩
       ·rw [if_neg c21] at H;have c21b0:(x6_4 == 2)=false:=bF_ c21;have c21b1:(x6_4 != 2)=true:=bne_iff_ne.mpr c21;obtain ⟨t270,A22,H⟩:=ob_ H;obtain rfl:=Option.some.inj H
        go_wp2_with (first|((with_reducible refine gate_callee (f:=97) rfl ?_);refine goesL_ (some 37) rfl rfl Tryd.func97 (by kernel_rfl) rfl #[.int .u8 x6_4,.int .u8 2] rfl qnc0_ ?_;(with_reducible refine (cmp_Compare_byte.calls x6_4 2 t270 _ A22.out).mono ?_);rintro e w' ⟨rfl,⟨nd,rfl⟩⟩;refine ⟨_,rfl,?_⟩))
        go_ret;exact ⟨qnc88_,qnc2_⟩
   ·rw [if_neg c4] at H;have c4b0:=dF_ c4;clear c4;obtain rfl:=Option.some.inj H;go_wp2;go_ret;exact ⟨qnc88_,qnc2_⟩

set_option maxHeartbeats 8000000
set_option maxRecDepth 100000

def n_runs.j0:Nat→ByteArray→ByteArray→Bool→Option (Int)
 | 0,_,_,_ => none
 | k+1,x0,x1,x10 => if x10=true then ((cmp_Compare_int.f (mn (x0.size:Int) 1) (mn (x1.size:Int) 1)).bind fun t271 => (some t271)) else ((strings_TrimLeft.f k x0 (⟨#[48]⟩:ByteArray)).bind fun t272 => ((strings_TrimLeft.f k x1 (⟨#[48]⟩:ByteArray)).bind fun t273 => ((cmp_Compare_int.f (t272.size:Int) (t273.size:Int)).bind fun t274 => ((strings_Compare.f t272 t273).bind fun t275 => ((cmp_Or_int.f k (([t274,t275]:List Int))).bind fun t279 => (some t279))))))
def n_runs.f (k:Nat) (a0:ByteArray) (a1:ByteArray):Option (Int):=if a0.toList=([]:List UInt8) then (n_runs.j0 k a0 a1 true) else (n_runs.j0 k a0 a1 a1.toList.isEmpty)
theorem n_runs.calls (k : Nat) (a0 : ByteArray) (a1 : ByteArray) (r : Int) (w : World) (h : n_runs.f k a0 a1 = some r) :
  Calls Tryd.prog 76 #[.string a0,.string a1] w fun e w' => e=.returned (.int .i64 r)∧Below w.heap.size w w':=by
 have HB:=M_ (Below.refl w.heap.size w);have H:(if a0.toList=([]:List UInt8) then (n_runs.j0 k a0 a1 true) else (n_runs.j0 k a0 a1 a1.toList.isEmpty))=some r:=h;clear h;have HC3:=M_ H;clear H
 go_enter Tryd.func76,Tryd.ntmps76
 go_upto_region 1 with (fail)
 go_cut [10] (fun v10 wc => ∃ (kq:Nat) (x10_2:Bool),v10=.bool x10_2∧Aside0 (n_runs.j0 kq a0 a1 x10_2=some r)∧Aside0 (kq≤k)∧Aside0 (Below w.heap.size w wc))
 case first =>
  have H:=HC3.out;clear HC3
  by_cases c4:a0.toList=([]:List UInt8)
  ·rw [if_pos c4] at H;have c4b0:(a0.toList == ([]:List UInt8))=true:=beq_iff_eq.mpr c4;have c4b1:(a0.toList != ([]:List UInt8))=false:=nF_ c4;clear c4
   (first|rw [c4b0]|(simp only [i64_w,i32_w];rw [c4b0])|skip)
   have H':=M_ H;clear H;go_wp2;go_meet
   case rel => exact ⟨_,(true),qnc1_,H',⟨by first|omega|exact Nat.le_refl _⟩,⟨qnc2_⟩⟩
  ·rw [if_neg c4] at H;have c4b0:(a0.toList == ([]:List UInt8))=false:=bF_ c4;have c4b1:(a0.toList != ([]:List UInt8))=true:=bne_iff_ne.mpr c4
   (first|rw [c4b0]|(simp only [i64_w,i32_w];rw [c4b0])|skip)
   have H':=M_ H;clear H;go_wp2;go_meet
   case rel => exact ⟨_,(a1.toList.isEmpty),qnc1_,H',⟨by first|omega|exact Nat.le_refl _⟩,⟨qnc2_⟩⟩
 case rest =>
  clear HC3
  (try clear c4);(try clear c4b0);(try clear c4b1)
  obtain ⟨kq,x10_2,rfl,HA,HJ2,HB⟩:=hcut
  cases kq with
  | zero => exact absurd HA.out (by simp [n_runs.j0])
  | succ kj2 =>
   have H:=HA.out;clear HA;simp only [n_runs.j0] at H
   by_cases c5:x10_2=true
   ·subst c5;rw [if_pos rfl] at H;obtain ⟨ji6,hji6⟩ : ∃ j_:Int,(mn (a0.size:Int) 1)=j_:=⟨_,rfl⟩;replace H:((cmp_Compare_int.f (ji6) (mn (a1.size:Int) 1)).bind fun t271 => (some t271))=some r:=by first|(rw [hji6] at H;exact H)|(simp only [hji6] at H ⊢;exact H)
    have hji6_:(if 1 < (a0.size:Int) then 1 else (a0.size:Int))=ji6:=hji6;obtain ⟨ji7,hji7⟩ : ∃ j_:Int,(mn (a1.size:Int) 1)=j_:=⟨_,rfl⟩;replace H:((cmp_Compare_int.f (ji6) (ji7)).bind fun t271 => (some t271))=some r:=by first|(rw [hji7] at H;exact H)|(simp only [hji7] at H ⊢;exact H)
    have hji7_:(if 1 < (a1.size:Int) then 1 else (a1.size:Int))=ji7:=hji7;obtain ⟨t271,A8,H⟩:=ob_ H;obtain rfl:=Option.some.inj H
    go_wp2_with (first|((with_reducible refine gate_callee (f:=51) rfl ?_);refine goesL_ (some 17) rfl rfl Tryd.func51 (by kernel_rfl) rfl #[.int .i64 ji6,.int .i64 ji7] rfl (by (try simp only [List.map_toArray,List.map_cons,List.map_nil]);first|done|(simp only [hji6,hji7];rfl)|rfl|(simp only [List.length_drop,List.length_take];rfl)|(simp;done)|(simp;omega)) ?_;(with_reducible refine (cmp_Compare_int.calls ji6 ji7 t271 _ A8.out).mono ?_);rintro e w' ⟨rfl,⟨nd,rfl⟩⟩;refine ⟨_,rfl,?_⟩))
    go_ret;exact ⟨by first|rfl|(simp [errW_none,errW_some] <;> rfl)|(simp only [← hji6,← hji7];first|rfl|(simp [errW_none,errW_some] <;> rfl))|(simp [*,errW_none,errW_some] <;> rfl),qnc2_⟩
   ·replace c5:=Bool.eq_false_iff.mpr c5;subst c5;rw [if_neg (show ¬ (false=true) by decide)] at H;obtain ⟨t272,A9,H⟩:=ob_ H;obtain ⟨t273,A10,H⟩:=ob_ H;obtain ⟨t274,A11,H⟩:=ob_ H;obtain ⟨t275,A12,H⟩:=ob_ H;obtain ⟨y276,hy276⟩ : ∃ y_:List Int,y_=(([t274,t275]:List Int)):=⟨_,rfl⟩;replace H:((cmp_Or_int.f kj2 y276).bind fun t279 => (some t279))=some r:=by first|(rw [hy276];with_reducible exact H)|(have H2_:=(Option.bind_some _ _).symm.trans H;rw [hy276];with_reducible exact H2_)|(have H2_:=(Option.bind_some _ _).symm.trans H;with_reducible exact H2_)|with_reducible exact H|(rw [hy276];exact H)|exact H
    have Ny276:=M_ hy276;clear hy276;obtain ⟨t279,A13,H⟩:=ob_ H;obtain rfl:=Option.some.inj H;have tk19:=trivial;have tk20:=trivial;have tk21:=trivial;have tk22:=trivial;have tk23:=trivial;have tk24:=trivial
    go_wp2_with (first|(clear tk19;(with_reducible refine gate_callee (f:=66) rfl ?_);refine goesL_ (some 19) rfl rfl Tryd.func66 (by kernel_rfl) rfl #[.string a0,.string (⟨#[48]⟩:ByteArray)] rfl qnc0_ ?_;(with_reducible refine (strings_TrimLeft.calls kj2 a0 (⟨#[48]⟩:ByteArray) t272 _ A9.out).mono ?_);rintro e w14 ⟨rfl,hb⟩;refine ⟨_,rfl,?_⟩;have n0_:=M_ (below_step qnc2_ hb);clear HB;have HB:=n0_;clear n0_;(try clear hb);(try clear hk))|(clear tk20;(with_reducible refine gate_callee (f:=66) rfl ?_);refine goesL_ (some 21) rfl rfl Tryd.func66 (by kernel_rfl) rfl #[.string a1,.string (⟨#[48]⟩:ByteArray)] rfl qnc0_ ?_;(with_reducible refine (strings_TrimLeft.calls kj2 a1 (⟨#[48]⟩:ByteArray) t273 _ A10.out).mono ?_);rintro e w15 ⟨rfl,hb⟩;refine ⟨_,rfl,?_⟩;have n0_:=M_ (below_step qnc2_ hb);clear HB;have HB:=n0_;clear n0_;(try clear hb);(try clear hk))|(clear tk21;(with_reducible refine gate_callee (f:=51) rfl ?_);refine goesL_ (some 26) rfl rfl Tryd.func51 (by kernel_rfl) rfl #[.int .i64 (t272.size:Int),.int .i64 (t273.size:Int)] rfl qnc0_ ?_;(with_reducible refine (cmp_Compare_int.calls (t272.size:Int) (t273.size:Int) t274 _ A11.out).mono ?_);rintro e w' ⟨rfl,⟨nd,rfl⟩⟩;refine ⟨_,rfl,?_⟩)|(clear tk22;(with_reducible refine gate_callee (f:=55) rfl ?_);refine goesL_ (some 29) rfl rfl Tryd.func55 (by kernel_rfl) rfl #[.string t272,.string t273] rfl qnc0_ ?_;(with_reducible refine (strings_Compare.calls t272 t273 t275 _ A12.out).mono ?_);rintro e w' ⟨rfl,⟨nd,rfl⟩⟩;refine ⟨_,rfl,?_⟩)|(clear tk23;(with_reducible refine gate_dst (N:=30) rfl ?_);refine Kd.R_lit (Kd.int .i64) _ 3 ?hg (N:=30) ?hd (xs:=([t274,t275]:List Int)) (inner:=[.int .i64 t274,.int .i64 t275]) (ok:=fun _ => True) (okp:=fun _ => True) ?hr ?hp (fun _ hk => hk) trivial (Below.refl _ _) (Nat.le_refl _) (by simp) ?_;(case hd => rfl);(case hg => rfl);(case hr => first|(go_simp;done)|(go_simp;rfl));(case hp => exact (Reps.one (show Kd.M (Kd.int .i64) _ _ _ t274 [.int .i64 t274] from rfl) (Reps.one (show Kd.M (Kd.int .i64) _ _ _ t275 [.int .i64 t275] from rfl) (Reps.none _ _))));intro v277 w16 ho17 hb hg_ hnew_;clear hg_ hnew_;(first|rw [← Ny276.out] at ho17|(simp only [Int.reduceToNat] at ho17;rw [← Ny276.out] at ho17));have n0_:=M_ (Kd.R_lower ho17 (below_size qnc2_));have n1_:=M_ (below_step qnc2_ hb);clear HB;have HO278:=n0_;have HB:=n1_;clear n0_ n1_;clear hb ho17;obtain ⟨Ao18,co18,eo18⟩:=Kd.R_slice HO278.out;subst eo18)|(clear tk24;(with_reducible refine gate_callee (f:=72) rfl ?_);refine goesL_ (some 31) rfl rfl Tryd.func72 (by kernel_rfl) rfl #[.slice Ao18 y276.length co18] rfl qnc0_ ?_;(with_reducible refine (cmp_Or_int.calls kj2 _ _ y276 t279 _ ?side1 ?side2 A13.out).mono ?_);(case side1 => repeat (first|exact (Kd.R_reads' HO278.out).2.2|(with_reducible refine Kd.C_alloc ?_ _)|(with_reducible refine Kd.C_drewN ?_ _)|(with_reducible refine Kd.C_drew ?_)));(case side2 => exact (Kd.R_reads' HO278.out).2.1);rintro e w' ⟨rfl,⟨nd,rfl⟩⟩;refine ⟨_,rfl,?_⟩))
    go_ret;exact ⟨qnc5_,qnc2_⟩

set_option maxHeartbeats 8000000
set_option maxRecDepth 100000

mutual
def n_versions.l0:Nat→ByteArray→ByteArray→Option (Int)
 | 0,_,_ => none
 | k+1,x0,x1 => if x0.toList=([]:List UInt8) then (n_versions.j1 k x0 x1 (!x1.toList.isEmpty)) else (n_versions.j1 k x0 x1 true)
def n_versions.j1:Nat→ByteArray→ByteArray→Bool→Option (Int)
 | 0,_,_,_ => none
 | k+1,x0,x1,x17 => if x17=true then ((n_pair.f k x0).bind fun bt280 => ((n_pair.f k x1).bind fun bt283 => ((n_words.f k bt280.1 bt283.1).bind fun t286 => ((n_runs.f k bt280.2.1 bt283.2.1).bind fun t287 => ((cmp_Or_int.f k (([t286,t287]:List Int))).bind fun t291 => (if t291=0 then (n_versions.l0 k bt280.2.2 bt283.2.2) else (some t291))))))) else (some 0)
end
def n_versions.f (k:Nat) (a0:ByteArray) (a1:ByteArray):Option (Int):=n_versions.l0 k a0 a1
theorem n_versions.calls (k : Nat) (a0 : ByteArray) (a1 : ByteArray) (r : Int) (w : World) (hGL : GOK w) (h : n_versions.f k a0 a1 = some r) :
  Calls Tryd.prog 52 #[.string a0,.string a1] w fun e w' => e=.returned (.int .i64 r)∧Below w.heap.size w w':=by
 have HGL:=M_ hGL;clear hGL;have HB:=M_ (Below.refl w.heap.size w);have H:(n_versions.l0 k a0 a1)=some r:=h;clear h;have H':=M_ H;clear H
 go_enter Tryd.func52,Tryd.ntmps52
 go_wp2
 go_loopg [0,1] k (fun kq v0 v1 w' => ∃ (x0_1:ByteArray) (x1_1:ByteArray),v0=.string x0_1∧v1=.string x1_1∧Aside0 (n_versions.l0 kq x0_1 x1_1=some r)∧Aside0 (kq≤k)∧Aside0 (Below w.heap.size w w'))
 case atStart => exact ⟨(a0),(a1),qnc1_,qnc1_,H',⟨Nat.le_refl _⟩,⟨qnc2_⟩⟩
 case round =>
  clear H'
  skip
  obtain ⟨x0_1,x1_1,rfl,rfl,HA,HK1,HB⟩:=hrel
  cases gk with
  | zero => exact absurd HA.out (by simp [n_versions.l0])
  | succ k1 =>
   have H:=HA.out;clear HA;simp only [n_versions.l0] at H;have HC3:=M_ H;clear H
   go_upto_region 1 with (fail)
   go_cut [17] (fun v17 wc => ∃ (kq:Nat) (x17_2:Bool),v17=.bool x17_2∧Aside0 (n_versions.j1 kq x0_1 x1_1 x17_2=some r)∧Aside0 (kq≤k1)∧Aside0 (Below w.heap.size w wc))
   case first =>
    have H:=HC3.out;clear HC3
    by_cases c4:x0_1.toList=([]:List UInt8)
    ·rw [if_pos c4] at H;have c4b0:(x0_1.toList == ([]:List UInt8))=true:=beq_iff_eq.mpr c4;have c4b1:(x0_1.toList != ([]:List UInt8))=false:=nF_ c4;clear c4
     (first|rw [c4b0]|(simp only [i64_w,i32_w];rw [c4b0])|skip)
     have H':=M_ H;clear H;go_wp2;go_meet
     case rel => exact ⟨_,((!x1_1.toList.isEmpty)),qnc1_,H',⟨by have:=HK1.out;first|omega|exact Nat.le_refl _⟩,⟨qnc2_⟩⟩
    ·rw [if_neg c4] at H;have c4b0:(x0_1.toList == ([]:List UInt8))=false:=bF_ c4;have c4b1:(x0_1.toList != ([]:List UInt8))=true:=bne_iff_ne.mpr c4
     (first|rw [c4b0]|(simp only [i64_w,i32_w];rw [c4b0])|skip)
     have H':=M_ H;clear H;go_wp2;go_meet
     case rel => exact ⟨_,(true),qnc1_,H',⟨by have:=HK1.out;first|omega|exact Nat.le_refl _⟩,⟨qnc2_⟩⟩
   case rest =>
    clear HC3
    (try clear c4);(try clear c4b0);(try clear c4b1)
    obtain ⟨kq,x17_2,rfl,HA,HJ2,HB⟩:=hcut
    cases kq with
    | zero => exact absurd HA.out (by simp [n_versions.j1])
    | succ kj2 =>
     have H:=HA.out;clear HA;simp only [n_versions.j1] at H
     by_cases c5:x17_2=true
     ·subst c5;rw [if_pos rfl] at H;obtain ⟨⟨t280,t281,t282⟩,A6,H⟩:=ob_ H;obtain ⟨⟨t283,t284,t285⟩,A7,H⟩:=ob_ H;obtain ⟨t286,A8,H⟩:=ob_ H;obtain ⟨t287,A9,H⟩:=ob_ H;obtain ⟨y288,hy288⟩ : ∃ y_:List Int,y_=(([t286,t287]:List Int)):=⟨_,rfl⟩;replace H:((cmp_Or_int.f kj2 y288).bind fun t291 => (if t291=0 then (n_versions.l0 kj2 t282 t285) else (some t291)))=some r:=by first|(rw [hy288];with_reducible exact H)|(have H2_:=(Option.bind_some _ _).symm.trans H;rw [hy288];with_reducible exact H2_)|(have H2_:=(Option.bind_some _ _).symm.trans H;with_reducible exact H2_)|with_reducible exact H|(rw [hy288];exact H)|exact H
      have Ny288:=M_ hy288;clear hy288;obtain ⟨t291,A10,H⟩:=ob_ H
      by_cases c11:t291=0
      ·rw [if_pos c11] at H;have c11b0:(t291 == 0)=true:=beq_iff_eq.mpr c11;have c11b1:(t291 != 0)=false:=nF_ c11;clear c11;have H':=M_ H;clear H;have tk17:=trivial;have tk18:=trivial;have tk19:=trivial;have tk20:=trivial;have tk21:=trivial;have tk22:=trivial
       go_wp2_with (first|(clear tk17;(with_reducible refine gate_callee (f:=74) rfl ?_);refine goesL_ (some 20) rfl rfl Tryd.func74 (by kernel_rfl) rfl #[.string x0_1] rfl qnc0_ ?_;(with_reducible refine (n_pair.calls kj2 x0_1 t280 t281 t282 _ A6.out).mono ?_);rintro e w' ⟨rfl,⟨nd,rfl⟩⟩;refine ⟨_,rfl,?_⟩)|(clear tk18;(with_reducible refine gate_callee (f:=74) rfl ?_);refine goesL_ (some 26) rfl rfl Tryd.func74 (by kernel_rfl) rfl #[.string x1_1] rfl qnc0_ ?_;(with_reducible refine (n_pair.calls kj2 x1_1 t283 t284 t285 _ A7.out).mono ?_);rintro e w' ⟨rfl,⟨nd,rfl⟩⟩;refine ⟨_,rfl,?_⟩)|(clear tk19;(with_reducible refine gate_callee (f:=75) rfl ?_);refine goesL_ (some 32) rfl rfl Tryd.func75 (by kernel_rfl) rfl #[.string t280,.string t283] rfl qnc0_ ?_;(with_reducible refine (n_words.calls kj2 t280 t283 t286 _ ?side1 A8.out).mono ?_);(case side1 => exact GOK.below HGL.out qnc2_);rintro e w12 ⟨rfl,hb⟩;refine ⟨_,rfl,?_⟩;have n0_:=M_ (below_step qnc2_ hb);clear HB;have HB:=n0_;clear n0_;(try clear hb);(try clear hk))|(clear tk20;(with_reducible refine gate_callee (f:=76) rfl ?_);refine goesL_ (some 35) rfl rfl Tryd.func76 (by kernel_rfl) rfl #[.string t281,.string t284] rfl qnc0_ ?_;(with_reducible refine (n_runs.calls kj2 t281 t284 t287 _ A9.out).mono ?_);rintro e w13 ⟨rfl,hb⟩;refine ⟨_,rfl,?_⟩;have n0_:=M_ (below_step qnc2_ hb);clear HB;have HB:=n0_;clear n0_;(try clear hb);(try clear hk))|(clear tk21;(with_reducible refine gate_dst (N:=36) rfl ?_);refine Kd.R_lit (Kd.int .i64) _ 3 ?hg (N:=36) ?hd (xs:=([t286,t287]:List Int)) (inner:=[.int .i64 t286,.int .i64 t287]) (ok:=fun _ => True) (okp:=fun _ => True) ?hr ?hp (fun _ hk => hk) trivial (Below.refl _ _) (Nat.le_refl _) (by simp) ?_;(case hd => rfl);(case hg => rfl);(case hr => first|(go_simp;done)|(go_simp;rfl));(case hp => exact (Reps.one (show Kd.M (Kd.int .i64) _ _ _ t286 [.int .i64 t286] from rfl) (Reps.one (show Kd.M (Kd.int .i64) _ _ _ t287 [.int .i64 t287] from rfl) (Reps.none _ _))));intro v289 w14 ho15 hb hg_ hnew_;clear hg_ hnew_;(first|rw [← Ny288.out] at ho15|(simp only [Int.reduceToNat] at ho15;rw [← Ny288.out] at ho15));have n0_:=M_ (Kd.R_lower ho15 (below_size qnc2_));have n1_:=M_ (below_step qnc2_ hb);clear HB;have HO290:=n0_;have HB:=n1_;clear n0_ n1_;clear hb ho15;obtain ⟨Ao16,co16,eo16⟩:=Kd.R_slice HO290.out;subst eo16)|(clear tk22;(with_reducible refine gate_callee (f:=72) rfl ?_);refine goesL_ (some 37) rfl rfl Tryd.func72 (by kernel_rfl) rfl #[.slice Ao16 y288.length co16] rfl qnc0_ ?_;(with_reducible refine (cmp_Or_int.calls kj2 _ _ y288 t291 _ ?side1 ?side2 A10.out).mono ?_);(case side1 => repeat (first|exact (Kd.R_reads' HO290.out).2.2|(with_reducible refine Kd.C_alloc ?_ _)|(with_reducible refine Kd.C_drewN ?_ _)|(with_reducible refine Kd.C_drew ?_)));(case side2 => exact (Kd.R_reads' HO290.out).2.1);rintro e w' ⟨rfl,⟨nd,rfl⟩⟩;refine ⟨_,rfl,?_⟩))
       go_roundg kj2
       case measure => have:=HK1.out;have:=HJ2.out;omega
       case rel => exact ⟨(t282),(t285),qnc1_,qnc1_,H',⟨by have:=HK1.out;have:=HJ2.out;omega⟩,⟨qnc2_⟩⟩
      ·rw [if_neg c11] at H;have c11b0:(t291 == 0)=false:=bF_ c11;have c11b1:(t291 != 0)=true:=bne_iff_ne.mpr c11;obtain rfl:=Option.some.inj H;have tk28:=trivial;have tk29:=trivial;have tk30:=trivial;have tk31:=trivial;have tk32:=trivial;have tk33:=trivial
       go_wp2_with (first|(clear tk28;(with_reducible refine gate_callee (f:=74) rfl ?_);refine goesL_ (some 20) rfl rfl Tryd.func74 (by kernel_rfl) rfl #[.string x0_1] rfl qnc0_ ?_;(with_reducible refine (n_pair.calls kj2 x0_1 t280 t281 t282 _ A6.out).mono ?_);rintro e w' ⟨rfl,⟨nd,rfl⟩⟩;refine ⟨_,rfl,?_⟩)|(clear tk29;(with_reducible refine gate_callee (f:=74) rfl ?_);refine goesL_ (some 26) rfl rfl Tryd.func74 (by kernel_rfl) rfl #[.string x1_1] rfl qnc0_ ?_;(with_reducible refine (n_pair.calls kj2 x1_1 t283 t284 t285 _ A7.out).mono ?_);rintro e w' ⟨rfl,⟨nd,rfl⟩⟩;refine ⟨_,rfl,?_⟩)|(clear tk30;(with_reducible refine gate_callee (f:=75) rfl ?_);refine goesL_ (some 32) rfl rfl Tryd.func75 (by kernel_rfl) rfl #[.string t280,.string t283] rfl qnc0_ ?_;(with_reducible refine (n_words.calls kj2 t280 t283 t286 _ ?side1 A8.out).mono ?_);(case side1 => exact GOK.below HGL.out qnc2_);rintro e w23 ⟨rfl,hb⟩;refine ⟨_,rfl,?_⟩;have n0_:=M_ (below_step qnc2_ hb);clear HB;have HB:=n0_;clear n0_;(try clear hb);(try clear hk))|(clear tk31;(with_reducible refine gate_callee (f:=76) rfl ?_);refine goesL_ (some 35) rfl rfl Tryd.func76 (by kernel_rfl) rfl #[.string t281,.string t284] rfl qnc0_ ?_;(with_reducible refine (n_runs.calls kj2 t281 t284 t287 _ A9.out).mono ?_);rintro e w24 ⟨rfl,hb⟩;refine ⟨_,rfl,?_⟩;have n0_:=M_ (below_step qnc2_ hb);clear HB;have HB:=n0_;clear n0_;(try clear hb);(try clear hk))|(clear tk32;(with_reducible refine gate_dst (N:=36) rfl ?_);refine Kd.R_lit (Kd.int .i64) _ 3 ?hg (N:=36) ?hd (xs:=([t286,t287]:List Int)) (inner:=[.int .i64 t286,.int .i64 t287]) (ok:=fun _ => True) (okp:=fun _ => True) ?hr ?hp (fun _ hk => hk) trivial (Below.refl _ _) (Nat.le_refl _) (by simp) ?_;(case hd => rfl);(case hg => rfl);(case hr => first|(go_simp;done)|(go_simp;rfl));(case hp => exact (Reps.one (show Kd.M (Kd.int .i64) _ _ _ t286 [.int .i64 t286] from rfl) (Reps.one (show Kd.M (Kd.int .i64) _ _ _ t287 [.int .i64 t287] from rfl) (Reps.none _ _))));intro v289 w25 ho26 hb hg_ hnew_;clear hg_ hnew_;(first|rw [← Ny288.out] at ho26|(simp only [Int.reduceToNat] at ho26;rw [← Ny288.out] at ho26));have n0_:=M_ (Kd.R_lower ho26 (below_size qnc2_));have n1_:=M_ (below_step qnc2_ hb);clear HB;have HO290:=n0_;have HB:=n1_;clear n0_ n1_;clear hb ho26;obtain ⟨Ao27,co27,eo27⟩:=Kd.R_slice HO290.out;subst eo27)|(clear tk33;(with_reducible refine gate_callee (f:=72) rfl ?_);refine goesL_ (some 37) rfl rfl Tryd.func72 (by kernel_rfl) rfl #[.slice Ao27 y288.length co27] rfl qnc0_ ?_;(with_reducible refine (cmp_Or_int.calls kj2 _ _ y288 t291 _ ?side1 ?side2 A10.out).mono ?_);(case side1 => repeat (first|exact (Kd.R_reads' HO290.out).2.2|(with_reducible refine Kd.C_alloc ?_ _)|(with_reducible refine Kd.C_drewN ?_ _)|(with_reducible refine Kd.C_drew ?_)));(case side2 => exact (Kd.R_reads' HO290.out).2.1);rintro e w' ⟨rfl,⟨nd,rfl⟩⟩;refine ⟨_,rfl,?_⟩))
       go_ret;exact ⟨qnc5_,qnc2_⟩
     ·replace c5:=Bool.eq_false_iff.mpr c5;subst c5;rw [if_neg (show ¬ (false=true) by decide)] at H;obtain rfl:=Option.some.inj H;go_wp2;go_ret;exact ⟨qnc5_,qnc2_⟩

set_option maxHeartbeats 8000000
set_option maxRecDepth 100000

def api_Class_77.f (a0:Int):Option (Bool):=some (a0 != a0)
theorem api_Class_77.calls (a0 : Int) (r : Bool) (w : World) (h : api_Class_77.f a0 = some r) :
  Calls Tryd.prog 77 #[.int .u8 a0] w fun e w' => e=.returned (.bool r)∧Drawn0 w w':=by
 have H:(some (a0 != a0))=some r:=h;clear h;obtain rfl:=Option.some.inj H
 go_enter Tryd.func77,Tryd.ntmps77
 go_wp2;go_ret;exact ⟨qnc1_,qnc4_⟩

set_option maxHeartbeats 8000000
set_option maxRecDepth 100000

def api_Class_53.f (a0:Int) (a1:Int):Option (Int):=(api_Class_77.f a0).bind fun t292 => ((api_Class_77.f a1).bind fun t293 => (if t292=true then (if t293=true then (some 0) else (some (-1))) else (if t293=true then (some 1) else (if a0 < a1 then (some (-1)) else (if a0 > a1 then (some 1) else (some 0))))))
theorem api_Class_53.calls (a0 : Int) (a1 : Int) (r : Int) (w : World) (h : api_Class_53.f a0 a1 = some r) :
  Calls Tryd.prog 53 #[.int .u8 a0,.int .u8 a1] w fun e w' => e=.returned (.int .i64 r)∧Drawn0 w w':=by
 have H:((api_Class_77.f a0).bind fun t292 => ((api_Class_77.f a1).bind fun t293 => (if t292=true then (if t293=true then (some 0) else (some (-1))) else (if t293=true then (some 1) else (if a0 < a1 then (some (-1)) else (if a0 > a1 then (some 1) else (some 0)))))))=some r:=h;clear h;obtain ⟨t292,A3,H⟩:=ob_ H;obtain ⟨t293,A4,H⟩:=ob_ H
 by_cases c5:t292=true
 ·subst c5;rw [if_pos rfl] at H
  by_cases c6:t293=true
  ·subst c6;rw [if_pos rfl] at H;obtain rfl:=Option.some.inj H
   go_enter Tryd.func53,Tryd.ntmps53
   have tk7:=trivial;have tk8:=trivial
   go_wp2_with (first|(clear tk7;(with_reducible refine gate_callee (f:=77) rfl ?_);refine goesL_ (some 8) rfl rfl Tryd.func77 (by kernel_rfl) rfl #[.int .u8 a0] rfl qnc0_ ?_;(with_reducible refine (api_Class_77.calls a0 true _ A3.out).mono ?_);rintro e w' ⟨rfl,⟨nd,rfl⟩⟩;refine ⟨_,rfl,?_⟩)|(clear tk8;(with_reducible refine gate_callee (f:=77) rfl ?_);refine goesL_ (some 10) rfl rfl Tryd.func77 (by kernel_rfl) rfl #[.int .u8 a1] rfl qnc0_ ?_;(with_reducible refine (api_Class_77.calls a1 true _ A4.out).mono ?_);rintro e w' ⟨rfl,⟨nd,rfl⟩⟩;refine ⟨_,rfl,?_⟩))
   go_ret;exact ⟨qnc1_,qnc4_⟩
  ·replace c6:=Bool.eq_false_iff.mpr c6;subst c6;rw [if_neg (show ¬ (false=true) by decide)] at H;obtain rfl:=Option.some.inj H
   go_enter Tryd.func53,Tryd.ntmps53
   have tk9:=trivial;have tk10:=trivial
   go_wp2_with (first|(clear tk9;(with_reducible refine gate_callee (f:=77) rfl ?_);refine goesL_ (some 8) rfl rfl Tryd.func77 (by kernel_rfl) rfl #[.int .u8 a0] rfl qnc0_ ?_;(with_reducible refine (api_Class_77.calls a0 true _ A3.out).mono ?_);rintro e w' ⟨rfl,⟨nd,rfl⟩⟩;refine ⟨_,rfl,?_⟩)|(clear tk10;(with_reducible refine gate_callee (f:=77) rfl ?_);refine goesL_ (some 10) rfl rfl Tryd.func77 (by kernel_rfl) rfl #[.int .u8 a1] rfl qnc0_ ?_;(with_reducible refine (api_Class_77.calls a1 false _ A4.out).mono ?_);rintro e w' ⟨rfl,⟨nd,rfl⟩⟩;refine ⟨_,rfl,?_⟩))
   go_ret;exact ⟨qnc1_,qnc4_⟩
 ·replace c5:=Bool.eq_false_iff.mpr c5;subst c5;rw [if_neg (show ¬ (false=true) by decide)] at H
  by_cases c11:t293=true
  ·subst c11;rw [if_pos rfl] at H;obtain rfl:=Option.some.inj H
   go_enter Tryd.func53,Tryd.ntmps53
   have tk12:=trivial;have tk13:=trivial
   go_wp2_with (first|(clear tk12;(with_reducible refine gate_callee (f:=77) rfl ?_);refine goesL_ (some 8) rfl rfl Tryd.func77 (by kernel_rfl) rfl #[.int .u8 a0] rfl qnc0_ ?_;(with_reducible refine (api_Class_77.calls a0 false _ A3.out).mono ?_);rintro e w' ⟨rfl,⟨nd,rfl⟩⟩;refine ⟨_,rfl,?_⟩)|(clear tk13;(with_reducible refine gate_callee (f:=77) rfl ?_);refine goesL_ (some 10) rfl rfl Tryd.func77 (by kernel_rfl) rfl #[.int .u8 a1] rfl qnc0_ ?_;(with_reducible refine (api_Class_77.calls a1 true _ A4.out).mono ?_);rintro e w' ⟨rfl,⟨nd,rfl⟩⟩;refine ⟨_,rfl,?_⟩))
   go_ret;exact ⟨qnc1_,qnc4_⟩
  ·replace c11:=Bool.eq_false_iff.mpr c11;subst c11;rw [if_neg (show ¬ (false=true) by decide)] at H
   by_cases c14:a0 < a1
   ·rw [if_pos c14] at H;have c14b0:=dT_ c14;clear c14;obtain rfl:=Option.some.inj H
    go_enter Tryd.func53,Tryd.ntmps53
    have tk15:=trivial;have tk16:=trivial
    go_wp2_with (first|(clear tk15;(with_reducible refine gate_callee (f:=77) rfl ?_);refine goesL_ (some 8) rfl rfl Tryd.func77 (by kernel_rfl) rfl #[.int .u8 a0] rfl qnc0_ ?_;(with_reducible refine (api_Class_77.calls a0 false _ A3.out).mono ?_);rintro e w' ⟨rfl,⟨nd,rfl⟩⟩;refine ⟨_,rfl,?_⟩)|(clear tk16;(with_reducible refine gate_callee (f:=77) rfl ?_);refine goesL_ (some 10) rfl rfl Tryd.func77 (by kernel_rfl) rfl #[.int .u8 a1] rfl qnc0_ ?_;(with_reducible refine (api_Class_77.calls a1 false _ A4.out).mono ?_);rintro e w' ⟨rfl,⟨nd,rfl⟩⟩;refine ⟨_,rfl,?_⟩))
    go_ret;exact ⟨qnc1_,qnc4_⟩
   ·rw [if_neg c14] at H;have c14b0:=dF_ c14;clear c14
    by_cases c17:a0 > a1
    ·rw [if_pos c17] at H;have c17b0:=dT_ c17;clear c17;obtain rfl:=Option.some.inj H
     go_enter Tryd.func53,Tryd.ntmps53
     have tk18:=trivial;have tk19:=trivial
     go_wp2_with (first|(clear tk18;(with_reducible refine gate_callee (f:=77) rfl ?_);refine goesL_ (some 8) rfl rfl Tryd.func77 (by kernel_rfl) rfl #[.int .u8 a0] rfl qnc0_ ?_;(with_reducible refine (api_Class_77.calls a0 false _ A3.out).mono ?_);rintro e w' ⟨rfl,⟨nd,rfl⟩⟩;refine ⟨_,rfl,?_⟩)|(clear tk19;(with_reducible refine gate_callee (f:=77) rfl ?_);refine goesL_ (some 10) rfl rfl Tryd.func77 (by kernel_rfl) rfl #[.int .u8 a1] rfl qnc0_ ?_;(with_reducible refine (api_Class_77.calls a1 false _ A4.out).mono ?_);rintro e w' ⟨rfl,⟨nd,rfl⟩⟩;refine ⟨_,rfl,?_⟩))
     go_ret;exact ⟨qnc1_,qnc4_⟩
    ·rw [if_neg c17] at H;have c17b0:=dF_ c17;clear c17;obtain rfl:=Option.some.inj H
     go_enter Tryd.func53,Tryd.ntmps53
     have tk20:=trivial;have tk21:=trivial
     go_wp2_with (first|(clear tk20;(with_reducible refine gate_callee (f:=77) rfl ?_);refine goesL_ (some 8) rfl rfl Tryd.func77 (by kernel_rfl) rfl #[.int .u8 a0] rfl qnc0_ ?_;(with_reducible refine (api_Class_77.calls a0 false _ A3.out).mono ?_);rintro e w' ⟨rfl,⟨nd,rfl⟩⟩;refine ⟨_,rfl,?_⟩)|(clear tk21;(with_reducible refine gate_callee (f:=77) rfl ?_);refine goesL_ (some 10) rfl rfl Tryd.func77 (by kernel_rfl) rfl #[.int .u8 a1] rfl qnc0_ ?_;(with_reducible refine (api_Class_77.calls a1 false _ A4.out).mono ?_);rintro e w' ⟨rfl,⟨nd,rfl⟩⟩;refine ⟨_,rfl,?_⟩))
     go_ret;exact ⟨qnc1_,qnc4_⟩

end Go.Proofs.YtcdajedmlfhmeaaDoor.XN
