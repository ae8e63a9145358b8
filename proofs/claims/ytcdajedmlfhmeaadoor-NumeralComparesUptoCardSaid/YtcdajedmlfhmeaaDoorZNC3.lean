import Derived.Test.YtcdajedmlfhmeaaDoorZNC0
import Derived.Test.YtcdajedmlfhmeaaDoorZNC1
import Derived.Test.YtcdajedmlfhmeaaDoorZNC2
namespace Go.Proofs.YtcdajedmlfhmeaaDoor.XN
open Go.RowKit Go.Proofs.YtcdajedmlfhmeaaDoorW.PrintWords Go.Proofs.YtcdajedmlfhmeaaDoorW.PrintLast Go.Proofs.YtcdajedmlfhmeaaDoorW.PrintMore
attribute [local go_sem] max2_int min2_int max_two min_two max_three min_three max_four min_four
set_option linter.unusedVariables false
set_option linter.unusedSimpArgs false
set_option maxHeartbeats 8000000
set_option maxRecDepth 100000

def cmp_Or_int.l0:Nat→Int→List Int→Int→Int→Option (Int)
 | 0,_,_,_,_ => none
 | k+1,x3,x6,x7,x8 => if x8 < x7 then (if 0≤x8 then (if x8 < (x6.length:Int) then (if (rd x6 x8)=x3 then (cmp_Or_int.l0 k x3 x6 x7 (wrap64 (x8+1))) else (some (rd x6 x8))) else (none)) else (none)) else (some x3)
def cmp_Or_int.f (k:Nat) (l0:List Int):Option (Int):=cmp_Or_int.l0 k 0 l0 (l0.length:Int) 0
theorem cmp_Or_int.calls (k : Nat) (A0 : Option Addr) (c0 : Nat) (l0 : List Int) (r : Int) (w : World) (hr0 : Kd.C (Kd.int .i64) w A0 l0.length l0) (hc0 : l0.length ≤ c0) (h : cmp_Or_int.f k l0 = some r) :
  Calls Tryd.prog 72 #[.slice A0 l0.length c0] w fun e w' => e=.returned (.int .i64 r)∧Drawn0 w w':=by
 have HR0:=M_ hr0;have HC0:=M_ hc0;clear hr0 hc0;have H:(cmp_Or_int.l0 k 0 l0 (l0.length:Int) 0)=some r:=h;clear h;have H':=M_ H;clear H
 go_enter Tryd.func72,Tryd.ntmps72
 go_wp2
 go_loopg [8] k (fun kq v8 w' => ∃ (x8_1:Int),v8=.int .i64 x8_1∧Aside0 (cmp_Or_int.l0 kq 0 l0 (l0.length:Int) x8_1=some r)∧Aside0 (kq≤k)∧Drawn0 w w')
 case atStart => exact ⟨(0),qnc1_,H',⟨Nat.le_refl _⟩,qnc4_⟩
 case round =>
  clear H';obtain ⟨x8_1,rfl,HA,HK1,⟨m1,rfl⟩⟩:=hrel
  cases gk with
  | zero => exact absurd HA.out (by simp [cmp_Or_int.l0])
  | succ k1 =>
   have H:=HA.out;clear HA;simp only [cmp_Or_int.l0] at H
   by_cases c2:x8_1 < (l0.length:Int)
   ·rw [if_pos c2] at H;have c2b0:=dT_ c2;clear c2
    by_cases c3:0≤x8_1
    ·rw [if_pos c3] at H;have c3b0:=dT_ c3;clear c3
     by_cases c4:x8_1 < (l0.length:Int)
     ·rw [if_pos c4] at H;have c4b0:=dT_ c4;clear c4
      by_cases c5:(rd l0 x8_1)=0
      ·rw [if_pos c5] at H;have c5b0:((rd l0 x8_1) == 0)=true:=beq_iff_eq.mpr c5;have c5b1:((rd l0 x8_1) != 0)=false:=nF_ c5;clear c5;have H':=M_ H;clear H;have p231:0≤(x8_1:Int):=oD_ qnc3_;have q231:x8_1 < (l0.length:Int):=oD_ qnc3_;obtain ⟨ad231,e231,hx231_0⟩:=Kd.at_int HR0.out x8_1 p231 q231
       cases e231
       replace p231:=eq_true p231;replace q231:=eq_true q231;go_wp2
       go_roundg k1
       case measure => have:=HK1.out;omega
       case rel => exact ⟨(wrap64 (x8_1+1)),qnc1_,H',⟨by have:=HK1.out;omega⟩,qnc4_⟩
      ·rw [if_neg c5] at H;have c5b0:((rd l0 x8_1) == 0)=false:=bF_ c5;have c5b1:((rd l0 x8_1) != 0)=true:=bne_iff_ne.mpr c5;obtain rfl:=Option.some.inj H;have p231:0≤(x8_1:Int):=oD_ qnc3_;have q231:x8_1 < (l0.length:Int):=oD_ qnc3_;obtain ⟨ad231,e231,hx231_0⟩:=Kd.at_int HR0.out x8_1 p231 q231
       cases e231
       replace p231:=eq_true p231;replace q231:=eq_true q231;go_wp2;go_ret;exact ⟨qnc1_,qnc4_⟩
     ·rw [if_neg c4] at H;exact absurd H (by simp)
    ·rw [if_neg c3] at H;exact absurd H (by simp)
   ·rw [if_neg c2] at H;have c2b0:=dF_ c2;clear c2;obtain rfl:=Option.some.inj H;go_wp2;go_ret;exact ⟨qnc1_,qnc4_⟩

set_option maxHeartbeats 8000000
set_option maxRecDepth 100000

def n_order.j0:Nat→Bool→Int→Int→Int→ByteArray→Int→Int→Int→ByteArray→Option (Int)
 | 0,_,_,_,_,_,_,_,_,_ => none
 | k+1,x14,x233000,x233001,x233002,x233003,x234000,x234001,x234002,x234003 => if x14=true then ((cmp_Compare_int.f x233000 x234000).bind fun t234 => (some t234)) else ((cmp_Compare_int.f x233001 x234001).bind fun t235 => ((cmp_Compare_int.f x233002 x234002).bind fun t236 => ((strings_Compare.f x233003 x234003).bind fun t237 => ((cmp_Or_int.f k (([t235,t236,t237]:List Int))).bind fun t241 => (some (wrap64 (x233000 * t241)))))))
def n_order.f (k:Nat) (a0_0:Int) (a0_1:Int) (a0_2:Int) (a0_3:ByteArray) (a1_0:Int) (a1_1:Int) (a1_2:Int) (a1_3:ByteArray):Option (Int):=if a0_0=a1_0 then (n_order.j0 k (a0_0 == 0) a0_0 a0_1 a0_2 a0_3 a1_0 a1_1 a1_2 a1_3) else (n_order.j0 k true a0_0 a0_1 a0_2 a0_3 a1_0 a1_1 a1_2 a1_3)
def n_order.T3:Bool × List (List Nat × List Nat):=(true,[([],[]),([0],[0]),([],[]),([2],[2]),([],[]),([4],[4]),([3,5],[3,5]),([],[]),([7],[7]),([],[]),([9],[9]),([8,10,6],[8,10]),([],[]),([12],[12]),([],[]),([14],[14]),([13,15,11],[13,15]),([6,11,16],[6,11,16]),([17,16],[17]),([1,18],[1,18]),([19,18,0,1,2,3,4,5,6,7,8,9,10,11,12,13,14,15,16,17,18,19],[19])])
def n_order.B3:List Nat:=[0,1,0,4,0,16,60,0,128,0,512,2044,0,4096,0,16384,65532,131068,262140,524287,1048575]
theorem n_order.tab3 : rtab .any (opsOf Tryd.f49 3) = n_order.T3 := by kernel_rfl
theorem n_order.bits3 : waitsOk n_order.T3.2 n_order.B3 = true := by kernel_rfl
theorem n_order.calls (k : Nat) (a0_0 : Int) (a0_1 : Int) (a0_2 : Int) (a0_3 : ByteArray) (a1_0 : Int) (a1_1 : Int) (a1_2 : Int) (a1_3 : ByteArray) (r : Int) (w : World) (h : n_order.f k a0_0 a0_1 a0_2 a0_3 a1_0 a1_1 a1_2 a1_3 = some r) :
  Calls Tryd.prog 49 #[.agg #[.int .i64 a0_0,.int .i64 a0_1,.int .i64 a0_2,.string a0_3],.agg #[.int .i64 a1_0,.int .i64 a1_1,.int .i64 a1_2,.string a1_3]] w fun e w' => e=.returned (.int .i64 r)∧Below w.heap.size w w':=by
 have hu77:=Tryd.underlying77;have HB:=M_ (Below.refl w.heap.size w);have H:(if a0_0=a1_0 then (n_order.j0 k (a0_0 == 0) a0_0 a0_1 a0_2 a0_3 a1_0 a1_1 a1_2 a1_3) else (n_order.j0 k true a0_0 a0_1 a0_2 a0_3 a1_0 a1_1 a1_2 a1_3))=some r:=h;clear h;have HC3:=M_ H;clear H
 go_enter Tryd.func49,Tryd.ntmps49
 have tk6:=trivial;have tk7:=trivial
 go_upto_region 1 with (first|(clear tk6;(with_reducible refine gate_dst (N:=2) rfl ?_);refine box_event ?hg (N:=2) ?hd (cs:=#[.int .i64 a0_0,.int .i64 a0_1,.int .i64 a0_2,.string a0_3]) (t:=77) ?hr ?_;(case hd => rfl);(case hg => rfl);(case hr => first|(go_simp;done)|(go_simp;rfl));intro gb232 hg w4 hbox hb;have n0_:=M_ (below_step qnc2_ hb);have n1_:=M_ (hbox);have n2_:=M_ ((by rw [hg];exact (below_size qnc2_):w.heap.size≤gb232));have n3_:=n2_;clear HB;have HB:=n0_;have BK232:=n1_;have GW232:=n2_;have GE232:=n3_;clear n0_ n1_ n2_ n3_;clear hb hbox hg)|(clear tk7;(with_reducible refine gate_dst (N:=3) rfl ?_);refine box_event ?hg (N:=3) ?hd (cs:=#[.int .i64 a1_0,.int .i64 a1_1,.int .i64 a1_2,.string a1_3]) (t:=77) ?hr ?_;(case hd => rfl);(case hg => rfl);(case hr => first|(go_simp;done)|(go_simp;rfl));intro gb233 hg w5 hbox hb;have n0_:=M_ (blk_below (g:=gb232) (o:=.cells #[.int .i64 a0_0,.int .i64 a0_1,.int .i64 a0_2,.string a0_3] 77 (0,0)) qnc76_ hb);have n1_:=M_ (below_step (by repeat (first|(with_reducible first|exact HB.out|apply below_alloc|apply pw_below_drewN|apply below_drew1|refine below_set ?_ GE232.out)|exact HB.out)) hb);have n2_:=M_ (hbox);have n3_:=M_ ((by rw [hg];exact (below_size (by repeat (first|(with_reducible first|exact HB.out|apply below_alloc|apply pw_below_drewN|apply below_drew1|refine below_set ?_ GE232.out)|exact HB.out))):w.heap.size≤gb233));have n4_:=n3_;have n5_:=M_ ((by rw [hg];exact Nat.ne_of_lt (blk_lt (g:=gb232) (o:=.cells #[.int .i64 a0_0,.int .i64 a0_1,.int .i64 a0_2,.string a0_3] 77 (0,0)) qnc76_):gb232 ≠ gb233));have n6_:=M_ ((by rw [hg];exact Nat.ne_of_gt (blk_lt (g:=gb232) (o:=.cells #[.int .i64 a0_0,.int .i64 a0_1,.int .i64 a0_2,.string a0_3] 77 (0,0)) qnc76_):gb233 ≠ gb232));clear BK232;clear HB;have BK232:=n0_;have HB:=n1_;have BK233:=n2_;have GW233:=n3_;have GE233:=n4_;have NB232_233:=n5_;have NB233_232:=n6_;clear n0_ n1_ n2_ n3_ n4_ n5_ n6_;clear hb hbox hg))
 (try simp only [Act.put,List.setIfInBounds_toArray,List.set_cons_zero,List.set_cons_succ])
 go_cut [14] (fun v14 wc => ∃ (kq:Nat) (x14_2:Bool),v14=.bool x14_2∧Aside0 (n_order.j0 kq x14_2 a0_0 a0_1 a0_2 a0_3 a1_0 a1_1 a1_2 a1_3=some r)∧Aside0 (kq≤k)∧Aside0 (wc.heap[gb232]?=some (.cells #[.int .i64 a0_0,.int .i64 a0_1,.int .i64 a0_2,.string a0_3] 77 (0,0)))∧Aside0 (wc.heap[gb233]?=some (.cells #[.int .i64 a1_0,.int .i64 a1_1,.int .i64 a1_2,.string a1_3] 77 (0,0)))∧Aside0 (Below w.heap.size w wc))
 case first =>
  have H:=HC3.out;clear HC3
  by_cases c8:a0_0=a1_0
  ·rw [if_pos c8] at H;have c8b0:(a0_0 == a1_0)=true:=beq_iff_eq.mpr c8;have c8b1:(a0_0 != a1_0)=false:=nF_ c8;clear c8
   (first|rw [c8b0]|(simp only [i64_w,i32_w];rw [c8b0])|skip)
   have H':=M_ H;clear H;have hnb9:=NB232_233.out;have hnc9:=NB233_232.out;have hcz10_0:=bc_ (.int .i64 a0_0) BK232.out 0 rfl;have hcz10_1:=bc_ (.int .i64 a0_1) BK232.out 1 rfl;have hcz10_2:=bc_ (.int .i64 a0_2) BK232.out 2 rfl;have hcz10_3:=bc_ (.string a0_3) BK232.out 3 rfl;have hfz10_0:=bf_ BK232.out 0;have hfz10_1:=bf_ BK232.out 1;have hfz10_2:=bf_ BK232.out 2;have hfz10_3:=bf_ BK232.out 3;have hcz11_0:=bc_ (.int .i64 a1_0) BK233.out 0 rfl;have hcz11_1:=bc_ (.int .i64 a1_1) BK233.out 1 rfl;have hcz11_2:=bc_ (.int .i64 a1_2) BK233.out 2 rfl;have hcz11_3:=bc_ (.string a1_3) BK233.out 3 rfl;have hfz11_0:=bf_ BK233.out 0;have hfz11_1:=bf_ BK233.out 1;have hfz11_2:=bf_ BK233.out 2;have hfz11_3:=bf_ BK233.out 3;go_wp2;go_meet
   case rel => exact ⟨_,((a0_0 == 0)),qnc1_,H',⟨by first|omega|exact Nat.le_refl _⟩,⟨qnc76_⟩,⟨qnc100_⟩,⟨qnc50_⟩⟩
  ·rw [if_neg c8] at H;have c8b0:(a0_0 == a1_0)=false:=bF_ c8;have c8b1:(a0_0 != a1_0)=true:=bne_iff_ne.mpr c8
   (first|rw [c8b0]|(simp only [i64_w,i32_w];rw [c8b0])|skip)
   have H':=M_ H;clear H;have hnb12:=NB232_233.out;have hnc12:=NB233_232.out;have hcz13_0:=bc_ (.int .i64 a0_0) BK232.out 0 rfl;have hcz13_1:=bc_ (.int .i64 a0_1) BK232.out 1 rfl;have hcz13_2:=bc_ (.int .i64 a0_2) BK232.out 2 rfl;have hcz13_3:=bc_ (.string a0_3) BK232.out 3 rfl;have hfz13_0:=bf_ BK232.out 0;have hfz13_1:=bf_ BK232.out 1;have hfz13_2:=bf_ BK232.out 2;have hfz13_3:=bf_ BK232.out 3;have hcz14_0:=bc_ (.int .i64 a1_0) BK233.out 0 rfl;have hcz14_1:=bc_ (.int .i64 a1_1) BK233.out 1 rfl;have hcz14_2:=bc_ (.int .i64 a1_2) BK233.out 2 rfl;have hcz14_3:=bc_ (.string a1_3) BK233.out 3 rfl;have hfz14_0:=bf_ BK233.out 0;have hfz14_1:=bf_ BK233.out 1;have hfz14_2:=bf_ BK233.out 2;have hfz14_3:=bf_ BK233.out 3;go_wp2;go_meet
   case rel => exact ⟨_,(true),qnc1_,H',⟨by first|omega|exact Nat.le_refl _⟩,⟨qnc76_⟩,⟨qnc100_⟩,⟨qnc50_⟩⟩
 case rest =>
  clear HC3
  (try clear c8);(try clear c8b0);(try clear c8b1);(try clear hcz10_0);(try clear hcz10_1);(try clear hcz10_2);(try clear hcz10_3);(try clear hcz11_0);(try clear hcz11_1);(try clear hcz11_2);(try clear hcz11_3);(try clear hcz13_0);(try clear hcz13_1);(try clear hcz13_2);(try clear hcz13_3);(try clear hcz14_0);(try clear hcz14_1);(try clear hcz14_2);(try clear hcz14_3);(try clear hfz10_0);(try clear hfz10_1);(try clear hfz10_2);(try clear hfz10_3);(try clear hfz11_0);(try clear hfz11_1);(try clear hfz11_2);(try clear hfz11_3);(try clear hfz13_0);(try clear hfz13_1);(try clear hfz13_2);(try clear hfz13_3);(try clear hfz14_0);(try clear hfz14_1);(try clear hfz14_2);(try clear hfz14_3)
  obtain ⟨kq,x14_2,rfl,HA,HJ2,BK232,BK233,HB⟩:=hcut
  cases kq with
  | zero => exact absurd HA.out (by simp [n_order.j0])
  | succ kj2 =>
   have H:=HA.out;clear HA;simp only [n_order.j0] at H
   by_cases c15:x14_2=true
   ·subst c15;rw [if_pos rfl] at H;obtain ⟨t234,A16,H⟩:=ob_ H;obtain rfl:=Option.some.inj H;have hnb17:=NB232_233.out;have hnc17:=NB233_232.out;have hcz18_0:=bc_ (.int .i64 a0_0) BK232.out 0 rfl;have hcz18_1:=bc_ (.int .i64 a0_1) BK232.out 1 rfl;have hcz18_2:=bc_ (.int .i64 a0_2) BK232.out 2 rfl;have hcz18_3:=bc_ (.string a0_3) BK232.out 3 rfl;have hfz18_0:=bf_ BK232.out 0;have hfz18_1:=bf_ BK232.out 1;have hfz18_2:=bf_ BK232.out 2;have hfz18_3:=bf_ BK232.out 3;have hcz19_0:=bc_ (.int .i64 a1_0) BK233.out 0 rfl;have hcz19_1:=bc_ (.int .i64 a1_1) BK233.out 1 rfl;have hcz19_2:=bc_ (.int .i64 a1_2) BK233.out 2 rfl;have hcz19_3:=bc_ (.string a1_3) BK233.out 3 rfl;have hfz19_0:=bf_ BK233.out 0;have hfz19_1:=bf_ BK233.out 1;have hfz19_2:=bf_ BK233.out 2;have hfz19_3:=bf_ BK233.out 3
    go_wp2_with (first|((with_reducible refine gate_callee (f:=51) rfl ?_);refine goesL_ (some 19) rfl rfl Tryd.func51 (by kernel_rfl) rfl #[.int .i64 a0_0,.int .i64 a1_0] rfl qnc0_ ?_;(with_reducible refine (cmp_Compare_int.calls a0_0 a1_0 t234 _ A16.out).mono ?_);rintro e w' ⟨rfl,⟨nd,rfl⟩⟩;refine ⟨_,rfl,?_⟩))
    go_ret;exact ⟨qnc5_,qnc50_⟩
   ·replace c15:=Bool.eq_false_iff.mpr c15;subst c15;rw [if_neg (show ¬ (false=true) by decide)] at H;obtain ⟨t235,A20,H⟩:=ob_ H;obtain ⟨t236,A21,H⟩:=ob_ H;obtain ⟨t237,A22,H⟩:=ob_ H;obtain ⟨y238,hy238⟩ : ∃ y_:List Int,y_=(([t235,t236,t237]:List Int)):=⟨_,rfl⟩;replace H:((cmp_Or_int.f kj2 y238).bind fun t241 => (some (wrap64 (a0_0 * t241))))=some r:=by first|(rw [hy238];with_reducible exact H)|(have H2_:=(Option.bind_some _ _).symm.trans H;rw [hy238];with_reducible exact H2_)|(have H2_:=(Option.bind_some _ _).symm.trans H;with_reducible exact H2_)|with_reducible exact H|(rw [hy238];exact H)|exact H
    have Ny238:=M_ hy238;clear hy238;obtain ⟨t241,A23,H⟩:=ob_ H;obtain rfl:=Option.some.inj H
    try go_wp2
    have n0_:=M_ (blk_drew BK232.out);have n1_:=M_ (blk_drew BK233.out);have n2_:=M_ (below_drew1 HB.out);clear BK232;clear BK233;clear HB;have BK232:=n0_;have BK233:=n1_;have HB:=n2_;clear n0_ n1_ n2_;refine start_ (n:=21) (S:=fun w' => w'.cell? ⟨gb232,0,none⟩=some (.int .i64 a0_0)∧w'.cell? ⟨gb232,1,none⟩=some (.int .i64 a0_1)∧w'.cell? ⟨gb232,2,none⟩=some (.int .i64 a0_2)∧w'.cell? ⟨gb232,3,none⟩=some (.string a0_3)∧w'.cell? ⟨gb233,0,none⟩=some (.int .i64 a1_0)∧w'.cell? ⟨gb233,1,none⟩=some (.int .i64 a1_1)∧w'.cell? ⟨gb233,2,none⟩=some (.int .i64 a1_2)∧w'.cell? ⟨gb233,3,none⟩=some (.string a1_3)) (ds:=[]) #[false,false,false,false,false,false,false,false,false,false,false,false,false,false,false,false,false,false,false,false,false] (by kernel_rfl) rfl rfl ⟨(blk_cell BK232.out 0).trans rfl,(blk_cell BK232.out 1).trans rfl,(blk_cell BK232.out 2).trans rfl,(blk_cell BK232.out 3).trans rfl,(blk_cell BK233.out 0).trans rfl,(blk_cell BK233.out 1).trans rfl,(blk_cell BK233.out 2).trans rfl,(blk_cell BK233.out 3).trans rfl⟩ (fun hHeld => ?_);refine with_tabW n_order.tab3 n_order.bits3 (fun HT_ HW_ => ?_)
    generalize wc.drew=w24 at BK232 BK233 HB hHeld ⊢
    refine pure_ (i:=0) (N:=some 20) (v:=?_) (a':=?_) #[true,false,false,false,false,false,false,false,false,false,false,false,false,false,false,false,false,false,false,false,false] rfl rfl (any_of HT_.out (by kernel_rfl)) (fun _ _ _ h => h) (Or.inl ⟨by rfl,?_⟩) ?_ ?_
    rotate_left
    ·intro w'
     go_simp
     with_reducible rfl
    rotate_left
    ·simp only [Act.put,sA_,sZ_,sS_,i64_w,i32_w]
     rfl
    refine pure_ (i:=2) (N:=some 22) (v:=?_) (a':=?_) #[true,false,true,false,false,false,false,false,false,false,false,false,false,false,false,false,false,false,false,false,false] rfl rfl (any_of HT_.out (by kernel_rfl)) (fun _ _ _ h => h) (Or.inl ⟨by rfl,?_⟩) ?_ ?_
    rotate_left
    ·intro w'
     go_simp
     with_reducible rfl
    rotate_left
    ·simp only [Act.put,sA_,sZ_,sS_,i64_w,i32_w]
     rfl
    refine pure_ (i:=4) (N:=some 24) (v:=?_) (a':=?_) #[true,false,true,false,true,false,false,false,false,false,false,false,false,false,false,false,false,false,false,false,false] rfl rfl (any_of HT_.out (by kernel_rfl)) (fun _ _ _ h => h) (Or.inl ⟨by rfl,?_⟩) ?_ ?_
    rotate_left
    ·intro w'
     go_simp
     with_reducible rfl
    rotate_left
    ·simp only [Act.put,sA_,sZ_,sS_,i64_w,i32_w]
     rfl
    refine pure_ (i:=7) (N:=some 27) (v:=?_) (a':=?_) #[true,false,true,false,true,false,false,true,false,false,false,false,false,false,false,false,false,false,false,false,false] rfl rfl (any_of HT_.out (by kernel_rfl)) (fun _ _ _ h => h) (Or.inl ⟨by rfl,?_⟩) ?_ ?_
    rotate_left
    ·intro w'
     go_simp
     with_reducible rfl
    rotate_left
    ·simp only [Act.put,sA_,sZ_,sS_,i64_w,i32_w]
     rfl
    refine pure_ (i:=9) (N:=some 29) (v:=?_) (a':=?_) #[true,false,true,false,true,false,false,true,false,true,false,false,false,false,false,false,false,false,false,false,false] rfl rfl (any_of HT_.out (by kernel_rfl)) (fun _ _ _ h => h) (Or.inl ⟨by rfl,?_⟩) ?_ ?_
    rotate_left
    ·intro w'
     go_simp
     with_reducible rfl
    rotate_left
    ·simp only [Act.put,sA_,sZ_,sS_,i64_w,i32_w]
     rfl
    refine pure_ (i:=12) (N:=some 32) (v:=?_) (a':=?_) #[true,false,true,false,true,false,false,true,false,true,false,false,true,false,false,false,false,false,false,false,false] rfl rfl (any_of HT_.out (by kernel_rfl)) (fun _ _ _ h => h) (Or.inl ⟨by rfl,?_⟩) ?_ ?_
    rotate_left
    ·intro w'
     go_simp
     with_reducible rfl
    rotate_left
    ·simp only [Act.put,sA_,sZ_,sS_,i64_w,i32_w]
     rfl
    refine pure_ (i:=14) (N:=some 34) (v:=?_) (a':=?_) #[true,false,true,false,true,false,false,true,false,true,false,false,true,false,true,false,false,false,false,false,false] rfl rfl (any_of HT_.out (by kernel_rfl)) (fun _ _ _ h => h) (Or.inl ⟨by rfl,?_⟩) ?_ ?_
    rotate_left
    ·intro w'
     go_simp
     with_reducible rfl
    rotate_left
    ·simp only [Act.put,sA_,sZ_,sS_,i64_w,i32_w]
     rfl
    refine take_ (i:=1) (N:=some 21) (v:=?_) (a':=?_) #[true,true,true,false,true,false,false,true,false,true,false,false,true,false,true,false,false,false,false,false,false] rfl rfl (take_ofW HT_.out HW_.out (by kernel_rfl)) (fun _ _ _ h => h) (Or.inl ⟨by rfl,?_⟩) hHeld ?_ ?_
    rotate_left
    ·rintro w' ⟨s0,s1,s2,s3,s4,s5,s6,s7⟩
     go_simp
     with_reducible rfl
    rotate_left
    ·simp only [Act.put,sA_,sZ_,sS_,i64_w,i32_w]
     rfl
    refine take_ (i:=3) (N:=some 23) (v:=?_) (a':=?_) #[true,true,true,true,true,false,false,true,false,true,false,false,true,false,true,false,false,false,false,false,false] rfl rfl (take_ofW HT_.out HW_.out (by kernel_rfl)) (fun _ _ _ h => h) (Or.inl ⟨by rfl,?_⟩) hHeld ?_ ?_
    rotate_left
    ·rintro w' ⟨s0,s1,s2,s3,s4,s5,s6,s7⟩
     go_simp
     with_reducible rfl
    rotate_left
    ·simp only [Act.put,sA_,sZ_,sS_,i64_w,i32_w]
     rfl
    refine take_ (i:=5) (N:=some 25) (v:=?_) (a':=?_) #[true,true,true,true,true,true,false,true,false,true,false,false,true,false,true,false,false,false,false,false,false] rfl rfl (take_ofW HT_.out HW_.out (by kernel_rfl)) (fun _ _ _ h => h) (Or.inl ⟨by rfl,?_⟩) hHeld ?_ ?_
    rotate_left
    ·rintro w' ⟨s0,s1,s2,s3,s4,s5,s6,s7⟩
     go_simp
     with_reducible rfl
    rotate_left
    ·simp only [Act.put,sA_,sZ_,sS_,i64_w,i32_w]
     rfl
    refine take_ (i:=8) (N:=some 28) (v:=?_) (a':=?_) #[true,true,true,true,true,true,false,true,true,true,false,false,true,false,true,false,false,false,false,false,false] rfl rfl (take_ofW HT_.out HW_.out (by kernel_rfl)) (fun _ _ _ h => h) (Or.inl ⟨by rfl,?_⟩) hHeld ?_ ?_
    rotate_left
    ·rintro w' ⟨s0,s1,s2,s3,s4,s5,s6,s7⟩
     go_simp
     with_reducible rfl
    rotate_left
    ·simp only [Act.put,sA_,sZ_,sS_,i64_w,i32_w]
     rfl
    refine take_ (i:=10) (N:=some 30) (v:=?_) (a':=?_) #[true,true,true,true,true,true,false,true,true,true,true,false,true,false,true,false,false,false,false,false,false] rfl rfl (take_ofW HT_.out HW_.out (by kernel_rfl)) (fun _ _ _ h => h) (Or.inl ⟨by rfl,?_⟩) hHeld ?_ ?_
    rotate_left
    ·rintro w' ⟨s0,s1,s2,s3,s4,s5,s6,s7⟩
     go_simp
     with_reducible rfl
    rotate_left
    ·simp only [Act.put,sA_,sZ_,sS_,i64_w,i32_w]
     rfl
    refine take_ (i:=13) (N:=some 33) (v:=?_) (a':=?_) #[true,true,true,true,true,true,false,true,true,true,true,false,true,true,true,false,false,false,false,false,false] rfl rfl (take_ofW HT_.out HW_.out (by kernel_rfl)) (fun _ _ _ h => h) (Or.inl ⟨by rfl,?_⟩) hHeld ?_ ?_
    rotate_left
    ·rintro w' ⟨s0,s1,s2,s3,s4,s5,s6,s7⟩
     go_simp
     with_reducible rfl
    rotate_left
    ·simp only [Act.put,sA_,sZ_,sS_,i64_w,i32_w]
     rfl
    refine take_ (i:=15) (N:=some 35) (v:=?_) (a':=?_) #[true,true,true,true,true,true,false,true,true,true,true,false,true,true,true,true,false,false,false,false,false] rfl rfl (take_ofW HT_.out HW_.out (by kernel_rfl)) (fun _ _ _ h => h) (Or.inl ⟨by rfl,?_⟩) hHeld ?_ ?_
    rotate_left
    ·rintro w' ⟨s0,s1,s2,s3,s4,s5,s6,s7⟩
     go_simp
     with_reducible rfl
    rotate_left
    ·simp only [Act.put,sA_,sZ_,sS_,i64_w,i32_w]
     rfl
    refine one_ (i:=6) (N:=some 26) #[true,true,true,true,true,true,true,true,true,true,true,false,true,true,true,true,false,false,false,false,false] rfl rfl (one_of HT_.out (by kernel_rfl)) (by decide) (fun K hK => ?_);refine goes_ Tryd.func51 (by kernel_rfl) rfl #[.int .i64 a0_1,.int .i64 a1_1] (by rfl) rfl rfl qnc0_ ?_
    with_reducible refine (cmp_Compare_int.calls a0_1 a1_1 t235 _ A20.out).mono ?_
    rintro e w' ⟨rfl,⟨nd,rfl⟩⟩
    refine ⟨_,rfl,?_⟩;refine hK.out _ _ ⟨(blk_cell BK232.out 0).trans rfl,(blk_cell BK232.out 1).trans rfl,(blk_cell BK232.out 2).trans rfl,(blk_cell BK232.out 3).trans rfl,(blk_cell BK233.out 0).trans rfl,(blk_cell BK233.out 1).trans rfl,(blk_cell BK233.out 2).trans rfl,(blk_cell BK233.out 3).trans rfl⟩ (fun hHeld => ?_);clear hK K;refine norm_ (a':=?_) ?_ ?_
    rotate_left
    ·show Act.put _ (some 26) _=_
     simp only [Act.put,sA_,sZ_,sS_,i64_w,i32_w]
     rfl
    refine one_ (i:=11) (N:=some 31) #[true,true,true,true,true,true,true,true,true,true,true,true,true,true,true,true,false,false,false,false,false] rfl rfl (one_of HT_.out (by kernel_rfl)) (by decide) (fun K hK => ?_);refine goes_ Tryd.func51 (by kernel_rfl) rfl #[.int .i64 a0_2,.int .i64 a1_2] (by rfl) rfl rfl qnc0_ ?_
    with_reducible refine (cmp_Compare_int.calls a0_2 a1_2 t236 _ A21.out).mono ?_
    rintro e w' ⟨rfl,⟨nd,rfl⟩⟩
    refine ⟨_,rfl,?_⟩;refine hK.out _ _ ⟨(blk_cell BK232.out 0).trans rfl,(blk_cell BK232.out 1).trans rfl,(blk_cell BK232.out 2).trans rfl,(blk_cell BK232.out 3).trans rfl,(blk_cell BK233.out 0).trans rfl,(blk_cell BK233.out 1).trans rfl,(blk_cell BK233.out 2).trans rfl,(blk_cell BK233.out 3).trans rfl⟩ (fun hHeld => ?_);clear hK K;refine norm_ (a':=?_) ?_ ?_
    rotate_left
    ·show Act.put _ (some 31) _=_
     simp only [Act.put,sA_,sZ_,sS_,i64_w,i32_w]
     rfl
    refine one_ (i:=16) (N:=some 36) #[true,true,true,true,true,true,true,true,true,true,true,true,true,true,true,true,true,false,false,false,false] rfl rfl (one_of HT_.out (by kernel_rfl)) (by decide) (fun K hK => ?_);refine goes_ Tryd.func55 (by kernel_rfl) rfl #[.string a0_3,.string a1_3] (by rfl) rfl rfl qnc0_ ?_
    with_reducible refine (strings_Compare.calls a0_3 a1_3 t237 _ A22.out).mono ?_
    rintro e w' ⟨rfl,⟨nd,rfl⟩⟩
    refine ⟨_,rfl,?_⟩;refine hK.out _ _ ⟨(blk_cell BK232.out 0).trans rfl,(blk_cell BK232.out 1).trans rfl,(blk_cell BK232.out 2).trans rfl,(blk_cell BK232.out 3).trans rfl,(blk_cell BK233.out 0).trans rfl,(blk_cell BK233.out 1).trans rfl,(blk_cell BK233.out 2).trans rfl,(blk_cell BK233.out 3).trans rfl⟩ (fun hHeld => ?_);clear hK K;refine norm_ (a':=?_) ?_ ?_
    rotate_left
    ·show Act.put _ (some 36) _=_
     simp only [Act.put,sA_,sZ_,sS_,i64_w,i32_w]
     rfl
    refine one_ (i:=17) (N:=some 37) #[true,true,true,true,true,true,true,true,true,true,true,true,true,true,true,true,true,true,false,false,false] rfl rfl (one_of HT_.out (by kernel_rfl)) (by decide) (fun K hK => ?_);refine Kd.R_lit_step (Kd.int .i64) _ 3 ?hg (N:=37) ?hd (xs:=([t235,t236,t237]:List Int)) (inner:=[.int .i64 t235,.int .i64 t236,.int .i64 t237]) (ok:=fun _ => True) (okp:=fun _ => True) ?hr ?hp (fun _ hk => hk) trivial (Below.refl _ _) (Nat.le_refl _) (by simp) ?_;(case hd => rfl);(case hg => rfl);(case hr => first|(go_simp;done)|(go_simp;rfl));(case hp => exact (Reps.one (show Kd.M (Kd.int .i64) _ _ _ t235 [.int .i64 t235] from rfl) (Reps.one (show Kd.M (Kd.int .i64) _ _ _ t236 [.int .i64 t236] from rfl) (Reps.one (show Kd.M (Kd.int .i64) _ _ _ t237 [.int .i64 t237] from rfl) (Reps.none _ _)))))
    intro v239 w25 ho26 hb hg_ hnew_
    clear hg_ hnew_
    (first|rw [← Ny238.out] at ho26|(simp only [Int.reduceToNat] at ho26;rw [← Ny238.out] at ho26))
    have n0_:=M_ (Kd.R_lower ho26 (below_size qnc50_));have n1_:=M_ (blk_below (g:=gb232) (o:=.cells #[.int .i64 a0_0,.int .i64 a0_1,.int .i64 a0_2,.string a0_3] 77 (0,0)) qnc76_ hb);have n2_:=M_ (blk_below (g:=gb233) (o:=.cells #[.int .i64 a1_0,.int .i64 a1_1,.int .i64 a1_2,.string a1_3] 77 (0,0)) qnc100_ hb);have n3_:=M_ (below_step qnc50_ hb);clear BK232;clear BK233;clear HB;have HO240:=n0_;have BK232:=n1_;have BK233:=n2_;have HB:=n3_;clear n0_ n1_ n2_ n3_;clear hb ho26;obtain ⟨Ao27,co27,eo27⟩:=Kd.R_slice HO240.out
    (first|subst eo27|(injection eo27 with f1_ f2_ f3_;have f4_:=f1_.symm;have f5_:=f3_.symm;clear f1_ f2_ f3_;subst f4_;subst f5_))
    refine hK.out _ _ ⟨(blk_cell BK232.out 0).trans rfl,(blk_cell BK232.out 1).trans rfl,(blk_cell BK232.out 2).trans rfl,(blk_cell BK232.out 3).trans rfl,(blk_cell BK233.out 0).trans rfl,(blk_cell BK233.out 1).trans rfl,(blk_cell BK233.out 2).trans rfl,(blk_cell BK233.out 3).trans rfl⟩ (fun hHeld => ?_);clear hK K;refine norm_ (a':=?_) ?_ ?_
    rotate_left
    ·show Act.put _ (some 37) _=_
     simp only [Act.put,sA_,sZ_,sS_,i64_w,i32_w]
     rfl
    refine one_ (i:=18) (N:=some 38) #[true,true,true,true,true,true,true,true,true,true,true,true,true,true,true,true,true,true,true,false,false] rfl rfl (one_of HT_.out (by kernel_rfl)) (by decide) (fun K hK => ?_);refine goes_ Tryd.func72 (by kernel_rfl) rfl #[.slice Ao27 y238.length co27] (by rfl) rfl rfl qnc0_ ?_
    with_reducible refine (cmp_Or_int.calls kj2 _ _ y238 t241 _ ?side1 ?side2 A23.out).mono ?_
    (case side1 => repeat (first|exact (Kd.R_reads' HO240.out).2.2|(with_reducible refine Kd.C_alloc ?_ _)|(with_reducible refine Kd.C_drewN ?_ _)|(with_reducible refine Kd.C_drew ?_)))
    (case side2 => exact (Kd.R_reads' HO240.out).2.1)
    rintro e w' ⟨rfl,⟨nd,rfl⟩⟩
    refine ⟨_,rfl,?_⟩;refine hK.out _ _ ⟨(blk_cell BK232.out 0).trans rfl,(blk_cell BK232.out 1).trans rfl,(blk_cell BK232.out 2).trans rfl,(blk_cell BK232.out 3).trans rfl,(blk_cell BK233.out 0).trans rfl,(blk_cell BK233.out 1).trans rfl,(blk_cell BK233.out 2).trans rfl,(blk_cell BK233.out 3).trans rfl⟩ (fun hHeld => ?_);clear hK K;refine norm_ (a':=?_) ?_ ?_
    rotate_left
    ·show Act.put _ (some 38) _=_
     simp only [Act.put,sA_,sZ_,sS_,i64_w,i32_w]
     rfl
    refine pure_ (i:=19) (N:=some 39) (v:=?_) (a':=?_) #[true,true,true,true,true,true,true,true,true,true,true,true,true,true,true,true,true,true,true,true,false] rfl rfl (any_of HT_.out (by kernel_rfl)) (fun _ _ _ h => h) (Or.inl ⟨by rfl,?_⟩) ?_ ?_
    rotate_left
    ·intro w'
     go_simp
     with_reducible rfl
    rotate_left
    ·simp only [Act.put,sA_,sZ_,sS_,i64_w,i32_w]
     rfl
    refine pure_ (i:=20) (N:=some 4) (v:=?_) (a':=?_) #[true,true,true,true,true,true,true,true,true,true,true,true,true,true,true,true,true,true,true,true,true] rfl rfl (any_of HT_.out (by kernel_rfl)) (fun _ _ _ h => h) (Or.inl ⟨by rfl,?_⟩) ?_ ?_
    rotate_left
    ·intro w'
     go_simp
     with_reducible rfl
    rotate_left
    ·simp only [Act.put,sA_,sZ_,sS_,i64_w,i32_w]
     rfl
    refine done_ (done_of HT_.out (by kernel_rfl)) ?_
    try go_wp2
    go_ret;exact ⟨qnc5_,qnc50_⟩

set_option maxHeartbeats 8000000
set_option maxRecDepth 100000

def n_sizeOf.f (a0:Bool) (a1:ByteArray) (a2:Int) (a3:Int):Option (Int × Int × Int × ByteArray):=if a1.toList=([]:List UInt8) then (some (0,0,0,(⟨#[]⟩:ByteArray))) else (if a0=true then (some ((-1),a3,a2,a1)) else (some (1,a3,a2,a1)))
theorem n_sizeOf.calls (a0 : Bool) (a1 : ByteArray) (a2 : Int) (a3 : Int) (r1 : Int) (r2 : Int) (r3 : Int) (r4 : ByteArray) (w : World) (h : n_sizeOf.f a0 a1 a2 a3 = some (r1, r2, r3, r4)) :
  Calls Tryd.prog 54 #[.bool a0,.string a1,.int .i64 a2,.int .i64 a3] w fun e w' => e=.returned (.agg #[.int .i64 r1,.int .i64 r2,.int .i64 r3,.string r4])∧Below w.heap.size w w':=by
 have hu77:=Tryd.underlying77;have HB:=M_ (Below.refl w.heap.size w);have H:(if a1.toList=([]:List UInt8) then (some (0,0,0,(⟨#[]⟩:ByteArray))) else (if a0=true then (some ((-1),a3,a2,a1)) else (some (1,a3,a2,a1))))=some (r1,r2,r3,r4):=h;clear h
 by_cases c5:a1.toList=([]:List UInt8)
 ·rw [if_pos c5] at H;have c5b0:(a1.toList == ([]:List UInt8))=true:=beq_iff_eq.mpr c5;have c5b1:(a1.toList != ([]:List UInt8))=false:=nF_ c5;clear c5;simp only [Option.some.injEq,Prod.mk.injEq] at H;obtain ⟨rfl,rfl,rfl,rfl⟩:=H
  go_enter Tryd.func54,Tryd.ntmps54
  have tk11:=trivial;have tk12:=trivial
  go_wp2_with (first|(clear tk11;(with_reducible refine gate_dst (N:=8) rfl ?_);refine box_event ?hg (N:=8) ?hd (cs:=#[.int .i64 0,.int .i64 0,.int .i64 0,.string ⟨#[]⟩]) (t:=77) ?hr ?_;(case hd => rfl);(case hg => rfl);(case hr => first|(go_simp;done)|(go_simp;rfl));intro gb242 hg w6 hbox hb;have n0_:=M_ (below_step qnc2_ hb);have n1_:=M_ (hbox);have n2_:=M_ ((by rw [hg];exact (below_size qnc2_):w.heap.size≤gb242));have n3_:=n2_;clear HB;have HB:=n0_;have BK242:=n1_;have GW242:=n2_;have GE242:=n3_;clear n0_ n1_ n2_ n3_;clear hb hbox hg)|(clear tk12;(with_reducible refine gate_dst (N:=9) rfl ?_);refine box_event ?hg (N:=9) ?hd (cs:=#[.int .i64 0,.int .i64 0,.int .i64 0,.string ⟨#[]⟩]) (t:=77) ?hr ?_;(case hd => rfl);(case hg => rfl);(case hr => first|(go_simp;done)|(go_simp;rfl));intro gb243 hg w7 hbox hb;have n0_:=M_ (blk_below (g:=gb242) (o:=.cells #[.int .i64 0,.int .i64 0,.int .i64 0,.string ⟨#[]⟩] 77 (0,0)) qnc67_ hb);have n1_:=M_ (below_step qnc59_ hb);have n2_:=M_ (hbox);have n3_:=M_ ((by rw [hg];exact (below_size qnc59_):w.heap.size≤gb243));have n4_:=n3_;have n5_:=M_ ((by rw [hg];exact Nat.ne_of_lt (blk_lt (g:=gb242) (o:=.cells #[.int .i64 0,.int .i64 0,.int .i64 0,.string ⟨#[]⟩] 77 (0,0)) qnc67_):gb242 ≠ gb243));have n6_:=M_ ((by rw [hg];exact Nat.ne_of_gt (blk_lt (g:=gb242) (o:=.cells #[.int .i64 0,.int .i64 0,.int .i64 0,.string ⟨#[]⟩] 77 (0,0)) qnc67_):gb243 ≠ gb242));clear BK242;clear HB;have BK242:=n0_;have HB:=n1_;have BK243:=n2_;have GW243:=n3_;have GE243:=n4_;have NB242_243:=n5_;have NB243_242:=n6_;clear n0_ n1_ n2_ n3_ n4_ n5_ n6_;clear hb hbox hg;have hnb8:=NB243_242.out;have hnc8:=NB242_243.out;have hcz9_0:=bc_ (.int .i64 0) BK243.out 0 rfl;have hcz9_1:=bc_ (.int .i64 0) BK243.out 1 rfl;have hcz9_2:=bc_ (.int .i64 0) BK243.out 2 rfl;have hcz9_3:=bc_ (.string ⟨#[]⟩) BK243.out 3 rfl;have hfz9_0:=bf_ BK243.out 0;have hfz9_1:=bf_ BK243.out 1;have hfz9_2:=bf_ BK243.out 2;have hfz9_3:=bf_ BK243.out 3;have hcz10_0:=bc_ (.int .i64 0) BK242.out 0 rfl;have hcz10_1:=bc_ (.int .i64 0) BK242.out 1 rfl;have hcz10_2:=bc_ (.int .i64 0) BK242.out 2 rfl;have hcz10_3:=bc_ (.string ⟨#[]⟩) BK242.out 3 rfl;have hfz10_0:=bf_ BK242.out 0;have hfz10_1:=bf_ BK242.out 1;have hfz10_2:=bf_ BK242.out 2;have hfz10_3:=bf_ BK242.out 3))
  refine bodyPost_ret (results_cell_row rfl _ _ gb242 77 #[.int .i64 0,.int .i64 0,.int .i64 0,.string ⟨#[]⟩] (0,0) _ rfl (by (with_reducible repeat first|apply bN_|apply bD_|apply bA_);refine blk_put (cs:=#[.int .i64 0,.int .i64 0,.int .i64 0,.string ⟨#[]⟩]) ?_ 3 _ rfl;(with_reducible repeat first|apply bN_|apply bD_|apply bA_);refine blk_put (cs:=#[.int .i64 0,.int .i64 0,.int .i64 0,.string ⟨#[]⟩]) ?_ 2 _ rfl;(with_reducible repeat first|apply bN_|apply bD_|apply bA_);refine blk_put (cs:=#[.int .i64 0,.int .i64 0,.int .i64 0,.string ⟨#[]⟩]) ?_ 1 _ rfl;(with_reducible repeat first|apply bN_|apply bD_|apply bA_);refine blk_put (cs:=#[.int .i64 0,.int .i64 0,.int .i64 0,.string ⟨#[]⟩]) ?_ 0 _ rfl;(with_reducible repeat first|apply bN_|apply bD_|apply bA_);refine blk_far ?_ NB242_243.out _;(with_reducible repeat first|apply bN_|apply bD_|apply bA_);refine blk_far ?_ NB242_243.out _;(with_reducible repeat first|apply bN_|apply bD_|apply bA_);refine blk_far ?_ NB242_243.out _;(with_reducible repeat first|apply bN_|apply bD_|apply bA_);refine blk_far ?_ NB242_243.out _;(with_reducible repeat first|apply bN_|apply bD_|apply bA_);exact BK242.out) Tryd.underlying77 rfl (by kernel_rfl)) rfl ?_;exact ⟨qnc5_,qnc81_⟩
 ·rw [if_neg c5] at H;have c5b0:(a1.toList == ([]:List UInt8))=false:=bF_ c5;have c5b1:(a1.toList != ([]:List UInt8))=true:=bne_iff_ne.mpr c5
  by_cases c13:a0=true
  ·subst c13;rw [if_pos rfl] at H;simp only [Option.some.injEq,Prod.mk.injEq] at H;obtain ⟨rfl,rfl,rfl,rfl⟩:=H
   go_enter Tryd.func54,Tryd.ntmps54
   have tk19:=trivial;have tk20:=trivial
   go_wp2_with (first|(clear tk19;(with_reducible refine gate_dst (N:=8) rfl ?_);refine box_event ?hg (N:=8) ?hd (cs:=#[.int .i64 0,.int .i64 0,.int .i64 0,.string ⟨#[]⟩]) (t:=77) ?hr ?_;(case hd => rfl);(case hg => rfl);(case hr => first|(go_simp;done)|(go_simp;rfl));intro gb242 hg w14 hbox hb;have n0_:=M_ (below_step qnc2_ hb);have n1_:=M_ (hbox);have n2_:=M_ ((by rw [hg];exact (below_size qnc2_):w.heap.size≤gb242));have n3_:=n2_;clear HB;have HB:=n0_;have BK242:=n1_;have GW242:=n2_;have GE242:=n3_;clear n0_ n1_ n2_ n3_;clear hb hbox hg)|(clear tk20;(with_reducible refine gate_dst (N:=9) rfl ?_);refine box_event ?hg (N:=9) ?hd (cs:=#[.int .i64 0,.int .i64 0,.int .i64 0,.string ⟨#[]⟩]) (t:=77) ?hr ?_;(case hd => rfl);(case hg => rfl);(case hr => first|(go_simp;done)|(go_simp;rfl));intro gb243 hg w15 hbox hb;have n0_:=M_ (blk_below (g:=gb242) (o:=.cells #[.int .i64 0,.int .i64 0,.int .i64 0,.string ⟨#[]⟩] 77 (0,0)) qnc67_ hb);have n1_:=M_ (below_step qnc59_ hb);have n2_:=M_ (hbox);have n3_:=M_ ((by rw [hg];exact (below_size qnc59_):w.heap.size≤gb243));have n4_:=n3_;have n5_:=M_ ((by rw [hg];exact Nat.ne_of_lt (blk_lt (g:=gb242) (o:=.cells #[.int .i64 0,.int .i64 0,.int .i64 0,.string ⟨#[]⟩] 77 (0,0)) qnc67_):gb242 ≠ gb243));have n6_:=M_ ((by rw [hg];exact Nat.ne_of_gt (blk_lt (g:=gb242) (o:=.cells #[.int .i64 0,.int .i64 0,.int .i64 0,.string ⟨#[]⟩] 77 (0,0)) qnc67_):gb243 ≠ gb242));clear BK242;clear HB;have BK242:=n0_;have HB:=n1_;have BK243:=n2_;have GW243:=n3_;have GE243:=n4_;have NB242_243:=n5_;have NB243_242:=n6_;clear n0_ n1_ n2_ n3_ n4_ n5_ n6_;clear hb hbox hg;have hnb16:=NB243_242.out;have hnc16:=NB242_243.out;have hcz17_0:=bc_ (.int .i64 0) BK243.out 0 rfl;have hcz17_1:=bc_ (.int .i64 0) BK243.out 1 rfl;have hcz17_2:=bc_ (.int .i64 0) BK243.out 2 rfl;have hcz17_3:=bc_ (.string ⟨#[]⟩) BK243.out 3 rfl;have hfz17_0:=bf_ BK243.out 0;have hfz17_1:=bf_ BK243.out 1;have hfz17_2:=bf_ BK243.out 2;have hfz17_3:=bf_ BK243.out 3;have hcz18_0:=bc_ (.int .i64 0) BK242.out 0 rfl;have hcz18_1:=bc_ (.int .i64 0) BK242.out 1 rfl;have hcz18_2:=bc_ (.int .i64 0) BK242.out 2 rfl;have hcz18_3:=bc_ (.string ⟨#[]⟩) BK242.out 3 rfl;have hfz18_0:=bf_ BK242.out 0;have hfz18_1:=bf_ BK242.out 1;have hfz18_2:=bf_ BK242.out 2;have hfz18_3:=bf_ BK242.out 3))
   refine bodyPost_ret (results_cell_row rfl _ _ gb242 77 #[.int .i64 (-1),.int .i64 a3,.int .i64 a2,.string a1] (0,0) _ rfl (by (with_reducible repeat first|apply bN_|apply bD_|apply bA_);refine blk_put (cs:=#[.int .i64 (-1),.int .i64 a3,.int .i64 a2,.string ⟨#[]⟩]) ?_ 3 _ rfl;(with_reducible repeat first|apply bN_|apply bD_|apply bA_);refine blk_put (cs:=#[.int .i64 (-1),.int .i64 a3,.int .i64 0,.string ⟨#[]⟩]) ?_ 2 _ rfl;(with_reducible repeat first|apply bN_|apply bD_|apply bA_);refine blk_put (cs:=#[.int .i64 (-1),.int .i64 0,.int .i64 0,.string ⟨#[]⟩]) ?_ 1 _ rfl;(with_reducible repeat first|apply bN_|apply bD_|apply bA_);refine blk_put (cs:=#[.int .i64 0,.int .i64 0,.int .i64 0,.string ⟨#[]⟩]) ?_ 0 _ rfl;(with_reducible repeat first|apply bN_|apply bD_|apply bA_);refine blk_far ?_ NB242_243.out _;(with_reducible repeat first|apply bN_|apply bD_|apply bA_);refine blk_far ?_ NB242_243.out _;(with_reducible repeat first|apply bN_|apply bD_|apply bA_);refine blk_far ?_ NB242_243.out _;(with_reducible repeat first|apply bN_|apply bD_|apply bA_);refine blk_far ?_ NB242_243.out _;(with_reducible repeat first|apply bN_|apply bD_|apply bA_);refine blk_far ?_ NB242_243.out _;(with_reducible repeat first|apply bN_|apply bD_|apply bA_);exact BK242.out) Tryd.underlying77 rfl (by kernel_rfl)) rfl ?_;exact ⟨qnc5_,qnc81_⟩
  ·replace c13:=Bool.eq_false_iff.mpr c13;subst c13;rw [if_neg (show ¬ (false=true) by decide)] at H;simp only [Option.some.injEq,Prod.mk.injEq] at H;obtain ⟨rfl,rfl,rfl,rfl⟩:=H
   go_enter Tryd.func54,Tryd.ntmps54
   have tk26:=trivial;have tk27:=trivial
   go_wp2_with (first|(clear tk26;(with_reducible refine gate_dst (N:=8) rfl ?_);refine box_event ?hg (N:=8) ?hd (cs:=#[.int .i64 0,.int .i64 0,.int .i64 0,.string ⟨#[]⟩]) (t:=77) ?hr ?_;(case hd => rfl);(case hg => rfl);(case hr => first|(go_simp;done)|(go_simp;rfl));intro gb242 hg w21 hbox hb;have n0_:=M_ (below_step qnc2_ hb);have n1_:=M_ (hbox);have n2_:=M_ ((by rw [hg];exact (below_size qnc2_):w.heap.size≤gb242));have n3_:=n2_;clear HB;have HB:=n0_;have BK242:=n1_;have GW242:=n2_;have GE242:=n3_;clear n0_ n1_ n2_ n3_;clear hb hbox hg)|(clear tk27;(with_reducible refine gate_dst (N:=9) rfl ?_);refine box_event ?hg (N:=9) ?hd (cs:=#[.int .i64 0,.int .i64 0,.int .i64 0,.string ⟨#[]⟩]) (t:=77) ?hr ?_;(case hd => rfl);(case hg => rfl);(case hr => first|(go_simp;done)|(go_simp;rfl));intro gb243 hg w22 hbox hb;have n0_:=M_ (blk_below (g:=gb242) (o:=.cells #[.int .i64 0,.int .i64 0,.int .i64 0,.string ⟨#[]⟩] 77 (0,0)) qnc67_ hb);have n1_:=M_ (below_step qnc59_ hb);have n2_:=M_ (hbox);have n3_:=M_ ((by rw [hg];exact (below_size qnc59_):w.heap.size≤gb243));have n4_:=n3_;have n5_:=M_ ((by rw [hg];exact Nat.ne_of_lt (blk_lt (g:=gb242) (o:=.cells #[.int .i64 0,.int .i64 0,.int .i64 0,.string ⟨#[]⟩] 77 (0,0)) qnc67_):gb242 ≠ gb243));have n6_:=M_ ((by rw [hg];exact Nat.ne_of_gt (blk_lt (g:=gb242) (o:=.cells #[.int .i64 0,.int .i64 0,.int .i64 0,.string ⟨#[]⟩] 77 (0,0)) qnc67_):gb243 ≠ gb242));clear BK242;clear HB;have BK242:=n0_;have HB:=n1_;have BK243:=n2_;have GW243:=n3_;have GE243:=n4_;have NB242_243:=n5_;have NB243_242:=n6_;clear n0_ n1_ n2_ n3_ n4_ n5_ n6_;clear hb hbox hg;have hnb23:=NB243_242.out;have hnc23:=NB242_243.out;have hcz24_0:=bc_ (.int .i64 0) BK243.out 0 rfl;have hcz24_1:=bc_ (.int .i64 0) BK243.out 1 rfl;have hcz24_2:=bc_ (.int .i64 0) BK243.out 2 rfl;have hcz24_3:=bc_ (.string ⟨#[]⟩) BK243.out 3 rfl;have hfz24_0:=bf_ BK243.out 0;have hfz24_1:=bf_ BK243.out 1;have hfz24_2:=bf_ BK243.out 2;have hfz24_3:=bf_ BK243.out 3;have hcz25_0:=bc_ (.int .i64 0) BK242.out 0 rfl;have hcz25_1:=bc_ (.int .i64 0) BK242.out 1 rfl;have hcz25_2:=bc_ (.int .i64 0) BK242.out 2 rfl;have hcz25_3:=bc_ (.string ⟨#[]⟩) BK242.out 3 rfl;have hfz25_0:=bf_ BK242.out 0;have hfz25_1:=bf_ BK242.out 1;have hfz25_2:=bf_ BK242.out 2;have hfz25_3:=bf_ BK242.out 3))
   refine bodyPost_ret (results_cell_row rfl _ _ gb242 77 #[.int .i64 1,.int .i64 a3,.int .i64 a2,.string a1] (0,0) _ rfl (by (with_reducible repeat first|apply bN_|apply bD_|apply bA_);refine blk_put (cs:=#[.int .i64 1,.int .i64 a3,.int .i64 a2,.string ⟨#[]⟩]) ?_ 3 _ rfl;(with_reducible repeat first|apply bN_|apply bD_|apply bA_);refine blk_put (cs:=#[.int .i64 1,.int .i64 a3,.int .i64 0,.string ⟨#[]⟩]) ?_ 2 _ rfl;(with_reducible repeat first|apply bN_|apply bD_|apply bA_);refine blk_put (cs:=#[.int .i64 1,.int .i64 0,.int .i64 0,.string ⟨#[]⟩]) ?_ 1 _ rfl;(with_reducible repeat first|apply bN_|apply bD_|apply bA_);refine blk_put (cs:=#[.int .i64 0,.int .i64 0,.int .i64 0,.string ⟨#[]⟩]) ?_ 0 _ rfl;(with_reducible repeat first|apply bN_|apply bD_|apply bA_);refine blk_far ?_ NB242_243.out _;(with_reducible repeat first|apply bN_|apply bD_|apply bA_);refine blk_far ?_ NB242_243.out _;(with_reducible repeat first|apply bN_|apply bD_|apply bA_);refine blk_far ?_ NB242_243.out _;(with_reducible repeat first|apply bN_|apply bD_|apply bA_);refine blk_far ?_ NB242_243.out _;(with_reducible repeat first|apply bN_|apply bD_|apply bA_);exact BK242.out) Tryd.underlying77 rfl (by kernel_rfl)) rfl ?_;exact ⟨qnc5_,qnc81_⟩

end Go.Proofs.YtcdajedmlfhmeaaDoor.XN
