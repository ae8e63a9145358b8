import Derived.Test.YtcdajedmlfhmeaaDoorZNC0
import Derived.Test.YtcdajedmlfhmeaaDoorZNC1
import Derived.Test.YtcdajedmlfhmeaaDoorZNC10
import Derived.Test.YtcdajedmlfhmeaaDoorZNC6
import Derived.Test.YtcdajedmlfhmeaaDoorZNC8
import Derived.Lib.Strings
import Derived.Lib.LazyBuf
import Derived.IntWalk
import Derived.Test.YtcdajedmlfhmeaaDoorZNC2
import Derived.Test.YtcdajedmlfhmeaaDoorZNC4
import Derived.Test.YtcdajedmlfhmeaaDoorZNC5
import Derived.Test.YtcdajedmlfhmeaaDoorZNC9
import Derived.Test.YtcdajedmlfhmeaaDoorZNC7
namespace Go.Proofs.YtcdajedmlfhmeaaDoor.XN
open Go.RowKit Go.Proofs.YtcdajedmlfhmeaaDoorW.PrintWords Go.Proofs.YtcdajedmlfhmeaaDoorW.PrintLast Go.Proofs.YtcdajedmlfhmeaaDoorW.PrintMore
attribute [local go_sem] max2_int min2_int max_two min_two max_three min_three max_four min_four
set_option linter.unusedVariables false
set_option linter.unusedSimpArgs false
set_option maxHeartbeats 8000000
set_option maxRecDepth 100000

mutual
def r_Versions.l0:Nat→List (S101)→List (S101)→Int→Option (Int)
 | 0,_,_,_ => none
 | k+1,x5,x6,x7 => if x7 < (x5.length:Int) then (r_Versions.j1 k x5 x6 x7 true) else (r_Versions.j1 k x5 x6 x7 (decide (x7 < (x6.length:Int))))
def r_Versions.j1:Nat→List (S101)→List (S101)→Int→Bool→Option (Int)
 | 0,_,_,_,_ => none
 | k+1,x5,x6,x7,x24 => if x24=true then (if x7 < (x5.length:Int) then (if 0≤x7 then (r_Versions.j2 k x5 x6 x7 ((rd_T101 x5 x7).f0) ((rd_T101 x5 x7).f1) (⟨#[]⟩:ByteArray) (⟨#[]⟩:ByteArray)) else (none)) else (r_Versions.j2 k x5 x6 x7 (⟨#[]⟩:ByteArray) (⟨#[]⟩:ByteArray) (⟨#[]⟩:ByteArray) (⟨#[]⟩:ByteArray))) else (some 0)
def r_Versions.j2:Nat→List (S101)→List (S101)→Int→ByteArray→ByteArray→ByteArray→ByteArray→Option (Int)
 | 0,_,_,_,_,_,_,_ => none
 | k+1,x5,x6,x7,x478000,x478001,x479000,x479001 => if x7 < (x6.length:Int) then (if 0≤x7 then ((r_pairs.f k x478000 x478001 ((rd_T101 x6 x7).f0) ((rd_T101 x6 x7).f1)).bind fun t481 => (if t481=0 then (r_Versions.l0 k x5 x6 (wrap64 (x7+1))) else (some t481))) else (none)) else ((r_pairs.f k x478000 x478001 x479000 x479001).bind fun t482 => (if t482=0 then (r_Versions.l0 k x5 x6 (wrap64 (x7+1))) else (some t482)))
end
def r_Versions.f (k:Nat) (a0:ByteArray) (a1:ByteArray):Option (Int):=(r_Pairs.f k a0).bind fun t471 => ((r_Pairs.f k a1).bind fun t474 => (r_Versions.l0 k t471 t474 0))
theorem r_Versions.calls (k : Nat) (a0 : ByteArray) (a1 : ByteArray) (r : Int) (w : World) (h : r_Versions.f k a0 a1 = some r) :
  Calls Tryd.prog 60 #[.string a0,.string a1] w fun e w' => e=.returned (.int .i64 r)∧Below w.heap.size w w':=by
 have hu101:=Tryd.underlying101;have HB:=M_ (Below.refl w.heap.size w);have H:((r_Pairs.f k a0).bind fun t471 => ((r_Pairs.f k a1).bind fun t474 => (r_Versions.l0 k t471 t474 0)))=some r:=h;clear h;obtain ⟨t471,A3,H⟩:=ob_ H;obtain ⟨t474,A4,H⟩:=ob_ H;have H':=M_ H;clear H
 go_enter Tryd.func60,Tryd.ntmps60
 have tk7:=trivial;have tk8:=trivial
 go_wp2_with (first|(clear tk7;(with_reducible refine gate_callee (f:=81) rfl ?_);refine goesL_ (some 12) rfl rfl Tryd.func81 (by kernel_rfl) rfl #[.string a0] rfl qnc0_ ?_;(with_reducible refine (r_Pairs.calls k a0 t471 _ A3.out).mono ?_);rintro e w5 ⟨v472,rfl,ho0,hb⟩;refine ⟨_,rfl,?_⟩;have n0_:=M_ (Kd.R_lower ho0 (below_size qnc2_));have n1_:=M_ (below_step qnc2_ hb);clear HB;have HO473:=n0_;have HB:=n1_;clear n0_ n1_;(try clear hb);(try clear hk);(try clear ho0))|(clear tk8;(with_reducible refine gate_callee (f:=81) rfl ?_);refine goesL_ (some 14) rfl rfl Tryd.func81 (by kernel_rfl) rfl #[.string a1] rfl qnc0_ ?_;(with_reducible refine (r_Pairs.calls k a1 t474 _ A4.out).mono ?_);rintro e w6 ⟨v475,rfl,ho0,hb⟩;refine ⟨_,rfl,?_⟩;have n0_:=M_ (Kd.R_elder' (by (with_reducible repeat (first|apply Kd.R_alloc|apply Kd.R_drewN|apply Kd.R_drew));exact HO473.out) (Kd.R_base ho0) hb);have n1_:=M_ (Kd.R_lower (Kd.R_new' ho0 (Kd.R_lt (by (with_reducible repeat (first|apply Kd.R_alloc|apply Kd.R_drewN|apply Kd.R_drew));exact HO473.out))) (below_size qnc2_));have n2_:=M_ (below_step qnc2_ hb);clear HO473;clear HB;have HO473:=n0_;have HO476:=n1_;have HB:=n2_;clear n0_ n1_ n2_;(try clear hb);(try clear hk);(try clear ho0)))
 go_loopg [7] k (fun kq v7 w' => ∃ (x7_1:Int),v7=.int .i64 x7_1∧Aside0 (r_Versions.l0 kq t471 t474 x7_1=some r)∧Aside0 (kq≤k)∧Aside0 (Kd.R k101 101 w' w.heap.size (fun k_ => some k_ ≠ (v475:Value).ownBlock) v472 t471)∧Aside0 (Kd.R k101 101 w' w.heap.size (fun k_ => some k_ ≠ (v472:Value).ownBlock) v475 t474)∧Aside0 (Below w.heap.size w w'))
 case atStart => exact ⟨(0),qnc1_,H',⟨Nat.le_refl _⟩,⟨by (with_reducible repeat (first|apply Kd.R_alloc|apply Kd.R_drewN|apply Kd.R_drew));exact Kd.R_mono HO473.out (fun _ hk => hk.2)⟩,⟨by (with_reducible repeat (first|apply Kd.R_alloc|apply Kd.R_drewN|apply Kd.R_drew));exact Kd.R_mono HO476.out (fun _ hk => hk.2)⟩,⟨qnc2_⟩⟩
 case round =>
  clear H'
  skip
  obtain ⟨x7_1,rfl,HA,HK1,HO_5,HO_6,HB⟩:=hrel
  cases gk with
  | zero => exact absurd HA.out (by simp [r_Versions.l0])
  | succ k1 =>
   have H:=HA.out;clear HA;simp only [r_Versions.l0] at H;have HC9:=M_ H;clear H
   go_upto_region 4 with (fail)
   go_cut [24] (fun v24 wc => ∃ (kq:Nat) (x24_8:Bool),v24=.bool x24_8∧Aside0 (r_Versions.j1 kq t471 t474 x7_1 x24_8=some r)∧Aside0 (kq≤k1)∧Aside0 (Kd.R k101 101 wc w.heap.size (fun k_ => some k_ ≠ (v475:Value).ownBlock) v472 t471)∧Aside0 (Kd.R k101 101 wc w.heap.size (fun k_ => some k_ ≠ (v472:Value).ownBlock) v475 t474)∧Aside0 (Below w.heap.size w wc))
   case first =>
    have H:=HC9.out;clear HC9
    by_cases c10:x7_1 < (t471.length:Int)
    ·rw [if_pos c10] at H;have c10b0:=dT_ c10;clear c10
     (first|rw [c10b0]|(simp only [i64_w,i32_w];rw [c10b0])|skip)
     have H':=M_ H;clear H;obtain ⟨Ao11,co11,eo11⟩:=Kd.R_slice HO_5.out;subst eo11;go_wp2;go_meet
     case rel => exact ⟨_,(true),qnc1_,H',⟨by have:=HK1.out;first|omega|exact Nat.le_refl _⟩,⟨qnc75_⟩,⟨qnc74_⟩,⟨qnc2_⟩⟩
    ·rw [if_neg c10] at H;have c10b0:=dF_ c10;clear c10
     (first|rw [c10b0]|(simp only [i64_w,i32_w];rw [c10b0])|skip)
     have H':=M_ H;clear H;obtain ⟨Ao12,co12,eo12⟩:=Kd.R_slice HO_5.out;subst eo12;obtain ⟨Ao13,co13,eo13⟩:=Kd.R_slice HO_6.out;subst eo13;go_wp2;go_meet
     case rel => exact ⟨_,(decide (x7_1 < (t474.length:Int))),qnc1_,H',⟨by have:=HK1.out;first|omega|exact Nat.le_refl _⟩,⟨qnc75_⟩,⟨qnc74_⟩,⟨qnc2_⟩⟩
   case rest =>
    clear HC9
    (try clear c10);(try clear c10b0)
    obtain ⟨kq,x24_8,rfl,HA,HJ8,HO_5,HO_6,HB⟩:=hcut
    cases kq with
    | zero => exact absurd HA.out (by simp [r_Versions.j1])
    | succ kj8 =>
     have H:=HA.out;clear HA;simp only [r_Versions.j1] at H
     by_cases c14:x24_8=true
     ·subst c14;rw [if_pos rfl] at H;have HC15:=M_ H;clear H;have tk22:=trivial;have tk23:=trivial;go_upto_if 32 with (first|(clear tk22;(with_reducible refine gate_dst (N:=8) rfl ?_);(try (refine gate_guard (by rfl) ?_;dsimp only));refine box_event ?hg (N:=8) ?hd (cs:=#[.string ⟨#[]⟩,.string ⟨#[]⟩]) (t:=101) ?hr ?_;(case hd => rfl);(case hg => rfl);(case hr => first|(go_simp;done)|(go_simp;rfl));intro gb477 hg w16 hbox hb;have n0_:=M_ (Kd.R_below (Kd.R_elderB qnc75_ gb477 (Nat.le_of_eq hg.symm)) hb);have n1_:=M_ (Kd.R_below (Kd.R_elderB qnc74_ gb477 (Nat.le_of_eq hg.symm)) hb);have n2_:=M_ (below_step qnc2_ hb);have n3_:=M_ (hbox);have n4_:=M_ ((by rw [hg];exact (below_size qnc2_):w.heap.size≤gb477));have n5_:=n4_;clear HO_5;clear HO_6;clear HB;have HO_5:=n0_;have HO_6:=n1_;have HB:=n2_;have BK477:=n3_;have GW477:=n4_;have GE477:=n5_;clear n0_ n1_ n2_ n3_ n4_ n5_;clear hb hbox hg;have hcz17_0:=bc_ (.string ⟨#[]⟩) BK477.out 0 rfl;have hcz17_1:=bc_ (.string ⟨#[]⟩) BK477.out 1 rfl;have hfz17_0:=bf_ BK477.out 0;have hfz17_1:=bf_ BK477.out 1)|(clear tk23;(with_reducible refine gate_dst (N:=9) rfl ?_);(try (refine gate_guard (by rfl) ?_;dsimp only));refine box_event ?hg (N:=9) ?hd (cs:=#[.string ⟨#[]⟩,.string ⟨#[]⟩]) (t:=101) ?hr ?_;(case hd => rfl);(case hg => rfl);(case hr => first|(go_simp;done)|(go_simp;rfl));intro gb478 hg w18 hbox hb;have n0_:=M_ (Kd.R_below (Kd.R_elderB (by (with_reducible repeat (first|apply Kd.R_alloc|apply Kd.R_drewN|apply Kd.R_drew));exact (Kd.R_mono (Kd.R_far (p:=⟨gb477,1,none⟩) (Kd.R_far (p:=⟨gb477,0,none⟩) (Kd.R_mono HO_5.out (fun k_ hk => (⟨hk,hk.2⟩:_∧k_ ≠ gb477))) (fun _ hk => hk.2) (.string ⟨#[]⟩)) (fun _ hk => hk.2) (.string ⟨#[]⟩)) (fun _ h_ => h_.1))) gb478 (Nat.le_of_eq hg.symm)) hb);have n1_:=M_ (Kd.R_below (Kd.R_elderB (by (with_reducible repeat (first|apply Kd.R_alloc|apply Kd.R_drewN|apply Kd.R_drew));exact (Kd.R_mono (Kd.R_far (p:=⟨gb477,1,none⟩) (Kd.R_far (p:=⟨gb477,0,none⟩) (Kd.R_mono HO_6.out (fun k_ hk => (⟨hk,hk.2⟩:_∧k_ ≠ gb477))) (fun _ hk => hk.2) (.string ⟨#[]⟩)) (fun _ hk => hk.2) (.string ⟨#[]⟩)) (fun _ h_ => h_.1))) gb478 (Nat.le_of_eq hg.symm)) hb);have n2_:=M_ (blk_below (g:=gb477) (o:=.cells #[.string ⟨#[]⟩,.string ⟨#[]⟩] 101 (0,0)) qnc55_ hb);have n3_:=M_ (below_step (by repeat (first|(with_reducible first|exact HB.out|apply below_alloc|apply pw_below_drewN|apply below_drew1|refine below_set ?_ GE477.out)|exact HB.out)) hb);have n4_:=M_ (hbox);have n5_:=M_ ((by rw [hg];exact (below_size (by repeat (first|(with_reducible first|exact HB.out|apply below_alloc|apply pw_below_drewN|apply below_drew1|refine below_set ?_ GE477.out)|exact HB.out))):w.heap.size≤gb478));have n6_:=n5_;have n7_:=M_ ((by rw [hg];exact Nat.ne_of_lt (blk_lt (g:=gb477) (o:=.cells #[.string ⟨#[]⟩,.string ⟨#[]⟩] 101 (0,0)) qnc55_):gb477 ≠ gb478));have n8_:=M_ ((by rw [hg];exact Nat.ne_of_gt (blk_lt (g:=gb477) (o:=.cells #[.string ⟨#[]⟩,.string ⟨#[]⟩] 101 (0,0)) qnc55_):gb478 ≠ gb477));clear HO_5;clear HO_6;clear BK477;clear HB;have HO_5:=n0_;have HO_6:=n1_;have BK477:=n2_;have HB:=n3_;have BK478:=n4_;have GW478:=n5_;have GE478:=n6_;have NB477_478:=n7_;have NB478_477:=n8_;clear n0_ n1_ n2_ n3_ n4_ n5_ n6_ n7_ n8_;clear hb hbox hg;have hnb19:=NB478_477.out;have hnc19:=NB477_478.out;have hcz20_0:=bc_ (.string ⟨#[]⟩) BK478.out 0 rfl;have hcz20_1:=bc_ (.string ⟨#[]⟩) BK478.out 1 rfl;have hfz20_0:=bf_ BK478.out 0;have hfz20_1:=bf_ BK478.out 1;obtain ⟨Ao21,co21,eo21⟩:=Kd.R_slice HO_5.out;subst eo21))
      (try simp only [Act.put,List.setIfInBounds_toArray,List.set_cons_zero,List.set_cons_succ])
      go_cut [] (fun wc => ∃ (kq:Nat) (x478000_14:ByteArray) (x478001_14:ByteArray),Aside0 (r_Versions.j2 kq t471 t474 x7_1 x478000_14 x478001_14 (⟨#[]⟩:ByteArray) (⟨#[]⟩:ByteArray)=some r)∧Aside0 (kq≤kj8)∧Aside0 (Kd.R k101 101 wc w.heap.size (fun k_ => some k_ ≠ (v475:Value).ownBlock∧k_ ≠ gb477∧k_ ≠ gb478) (.slice Ao21 t471.length co21) t471)∧Aside0 (Kd.R k101 101 wc w.heap.size (fun k_ => some k_ ≠ ((.slice Ao21 t471.length co21):Value).ownBlock∧k_ ≠ gb477∧k_ ≠ gb478) v475 t474)∧Aside0 (wc.heap[gb477]?=some (.cells #[.string x478000_14,.string x478001_14] 101 (0,0)))∧Aside0 (wc.heap[gb478]?=some (.cells #[.string ⟨#[]⟩,.string ⟨#[]⟩] 101 (0,0)))∧Aside0 (Below w.heap.size w wc))
      case first =>
       have H:=HC15.out;clear HC15
       by_cases c24:x7_1 < (t471.length:Int)
       ·rw [if_pos c24] at H;have c24b0:=dT_ c24;clear c24
        (first|rw [c24b0]|(simp only [i64_w,i32_w];rw [c24b0])|skip)
        by_cases c25:0≤x7_1
        ·rw [if_pos c25] at H;have c25b0:=dT_ c25;clear c25;have H':=M_ H;clear H;have p479:0≤(x7_1:Int):=oD_ qnc3_;have q479:x7_1 < (t471.length:Int):=oD_ qnc3_;obtain ⟨ad479,e479,hx479_0,hx479_1⟩:=at_T101 (Kd.R_reads' HO_5.out).2.2 x7_1 p479 q479
         cases e479
         have hn479_0:ad479.block ≠ gb478:=Kd.own_blk (Kd.R_away HO_5.out (fun _ hk => hk.2));have hn479_1:ad479.block ≠ gb478:=Kd.own_blk (Kd.R_away HO_5.out (fun _ hk => hk.2));replace hx479_0:=(cell_far (p:=⟨gb478,0,none⟩) (by first|(rw [add_block];exact hn479_0)|(show (Addr.add _ _).block ≠ _;rw [add_block];exact hn479_0)|exact hn479_0) (.string ⟨#[]⟩)).trans hx479_0;replace hx479_1:=(cell_far (p:=⟨gb478,0,none⟩) (by first|(rw [add_block];exact hn479_0)|(show (Addr.add _ _).block ≠ _;rw [add_block];exact hn479_0)|exact hn479_0) (.string ⟨#[]⟩)).trans hx479_1;replace hx479_0:=(cell_far (p:=⟨gb478,1,none⟩) (by first|(rw [add_block];exact hn479_1)|(show (Addr.add _ _).block ≠ _;rw [add_block];exact hn479_1)|exact hn479_1) (.string ⟨#[]⟩)).trans hx479_0;replace hx479_1:=(cell_far (p:=⟨gb478,1,none⟩) (by first|(rw [add_block];exact hn479_1)|(show (Addr.add _ _).block ≠ _;rw [add_block];exact hn479_1)|exact hn479_1) (.string ⟨#[]⟩)).trans hx479_1;clear hn479_0;clear hn479_1;replace p479:=eq_true p479;replace q479:=eq_true q479;have hnb26:=NB477_478.out;have hnc26:=NB478_477.out;have hcz27_0:=bc_ (.string ⟨#[]⟩) BK477.out 0 rfl;have hcz27_1:=bc_ (.string ⟨#[]⟩) BK477.out 1 rfl;have hfz27_0:=bf_ BK477.out 0;have hfz27_1:=bf_ BK477.out 1;go_wp2;go_meet
         case rel => exact ⟨_,((rd_T101 t471 x7_1).f0),((rd_T101 t471 x7_1).f1),H',⟨by have:=HK1.out;have:=HJ8.out;first|omega|exact Nat.le_refl _⟩,⟨by (with_reducible repeat (first|apply Kd.R_alloc|apply Kd.R_drewN|apply Kd.R_drew));exact Kd.R_mono (Kd.R_far (p:=⟨gb477,1,none⟩) (Kd.R_far (p:=⟨gb477,0,none⟩) (Kd.R_far (p:=⟨gb478,1,none⟩) (Kd.R_far (p:=⟨gb478,0,none⟩) (Kd.R_mono (Kd.R_mono HO_5.out (fun k_ hk => (⟨hk,hk.2⟩:_∧k_ ≠ gb478))) (fun k_ hk => (⟨hk,hk.1.1.2⟩:_∧k_ ≠ gb477))) (fun _ hk => hk.1.2) (.string ⟨#[]⟩)) (fun _ hk => hk.1.2) (.string ⟨#[]⟩)) (fun _ hk => hk.2) (.string ((rd_T101 t471 x7_1).f0))) (fun _ hk => hk.2) (.string ((rd_T101 t471 x7_1).f1))) (fun _ hk => ⟨hk.1.1.1.1,⟨hk.1.1.1.2,hk.1.1.2⟩⟩)⟩,⟨by (with_reducible repeat (first|apply Kd.R_alloc|apply Kd.R_drewN|apply Kd.R_drew));exact Kd.R_mono (Kd.R_far (p:=⟨gb477,1,none⟩) (Kd.R_far (p:=⟨gb477,0,none⟩) (Kd.R_far (p:=⟨gb478,1,none⟩) (Kd.R_far (p:=⟨gb478,0,none⟩) (Kd.R_mono (Kd.R_mono HO_6.out (fun k_ hk => (⟨hk,hk.2⟩:_∧k_ ≠ gb478))) (fun k_ hk => (⟨hk,hk.1.1.2⟩:_∧k_ ≠ gb477))) (fun _ hk => hk.1.2) (.string ⟨#[]⟩)) (fun _ hk => hk.1.2) (.string ⟨#[]⟩)) (fun _ hk => hk.2) (.string ((rd_T101 t471 x7_1).f0))) (fun _ hk => hk.2) (.string ((rd_T101 t471 x7_1).f1))) (fun _ hk => ⟨hk.1.1.1.1,⟨hk.1.1.1.2,hk.1.1.2⟩⟩)⟩,⟨by (with_reducible repeat first|apply bN_|apply bD_|apply bA_);refine blk_put (cs:=#[.string ((rd_T101 t471 x7_1).f0),.string ⟨#[]⟩]) ?_ 1 _ rfl;(with_reducible repeat first|apply bN_|apply bD_|apply bA_);refine blk_put (cs:=#[.string ⟨#[]⟩,.string ⟨#[]⟩]) ?_ 0 _ rfl;(with_reducible repeat first|apply bN_|apply bD_|apply bA_);refine blk_far ?_ NB477_478.out _;(with_reducible repeat first|apply bN_|apply bD_|apply bA_);refine blk_far ?_ NB477_478.out _;(with_reducible repeat first|apply bN_|apply bD_|apply bA_);exact BK477.out⟩,⟨by (with_reducible repeat first|apply bN_|apply bD_|apply bA_);refine blk_far ?_ NB478_477.out _;(with_reducible repeat first|apply bN_|apply bD_|apply bA_);refine blk_far ?_ NB478_477.out _;(with_reducible repeat first|apply bN_|apply bD_|apply bA_);refine blk_put (cs:=#[.string ⟨#[]⟩,.string ⟨#[]⟩]) ?_ 1 _ rfl;(with_reducible repeat first|apply bN_|apply bD_|apply bA_);refine blk_put (cs:=#[.string ⟨#[]⟩,.string ⟨#[]⟩]) ?_ 0 _ rfl;(with_reducible repeat first|apply bN_|apply bD_|apply bA_);exact BK478.out⟩,⟨qnc26_⟩⟩
        ·rw [if_neg c25] at H;exact absurd H (by simp)
       ·rw [if_neg c24] at H;have c24b0:=dF_ c24;clear c24
        (first|rw [c24b0]|(simp only [i64_w,i32_w];rw [c24b0])|skip)
        have H':=M_ H;clear H;go_wp2;go_meet
        case rel => exact ⟨_,((⟨#[]⟩:ByteArray)),((⟨#[]⟩:ByteArray)),H',⟨by have:=HK1.out;have:=HJ8.out;first|omega|exact Nat.le_refl _⟩,⟨by (with_reducible repeat (first|apply Kd.R_alloc|apply Kd.R_drewN|apply Kd.R_drew));exact Kd.R_mono (Kd.R_far (p:=⟨gb478,1,none⟩) (Kd.R_far (p:=⟨gb478,0,none⟩) (Kd.R_mono HO_5.out (fun k_ hk => (⟨hk,hk.2⟩:_∧k_ ≠ gb478))) (fun _ hk => hk.2) (.string ⟨#[]⟩)) (fun _ hk => hk.2) (.string ⟨#[]⟩)) (fun _ hk => ⟨hk.1.1.1,⟨hk.1.1.2,hk.1.2⟩⟩)⟩,⟨by (with_reducible repeat (first|apply Kd.R_alloc|apply Kd.R_drewN|apply Kd.R_drew));exact Kd.R_mono (Kd.R_far (p:=⟨gb478,1,none⟩) (Kd.R_far (p:=⟨gb478,0,none⟩) (Kd.R_mono HO_6.out (fun k_ hk => (⟨hk,hk.2⟩:_∧k_ ≠ gb478))) (fun _ hk => hk.2) (.string ⟨#[]⟩)) (fun _ hk => hk.2) (.string ⟨#[]⟩)) (fun _ hk => ⟨hk.1.1.1,⟨hk.1.1.2,hk.1.2⟩⟩)⟩,⟨qnc69_⟩,⟨by (with_reducible repeat first|apply bN_|apply bD_|apply bA_);refine blk_put (cs:=#[.string ⟨#[]⟩,.string ⟨#[]⟩]) ?_ 1 _ rfl;(with_reducible repeat first|apply bN_|apply bD_|apply bA_);refine blk_put (cs:=#[.string ⟨#[]⟩,.string ⟨#[]⟩]) ?_ 0 _ rfl;(with_reducible repeat first|apply bN_|apply bD_|apply bA_);exact BK478.out⟩,⟨qnc26_⟩⟩
      case rest =>
       clear HC15
       (try clear c10);(try clear c10b0);(try clear c14);(try clear c24);(try clear c24b0);(try clear c25);(try clear c25b0);(try clear hcz17_0);(try clear hcz17_1);(try clear hcz20_0);(try clear hcz20_1);(try clear hcz27_0);(try clear hcz27_1);(try clear hfz17_0);(try clear hfz17_1);(try clear hfz20_0);(try clear hfz20_1);(try clear hfz27_0);(try clear hfz27_1);(try clear hx479_0);(try clear hx479_1);(try clear p479);(try clear q479)
       obtain ⟨kq,x478000_14,x478001_14,HA,HJ14,HO_5,HO_6,BK477,BK478,HB⟩:=hcut
       cases kq with
       | zero => exact absurd HA.out (by simp [r_Versions.j2])
       | succ kj14 =>
        have H:=HA.out;clear HA;simp only [r_Versions.j2] at H
        by_cases c28:x7_1 < (t474.length:Int)
        ·rw [if_pos c28] at H;have c28b0:=dT_ c28;clear c28
         by_cases c29:0≤x7_1
         ·rw [if_pos c29] at H;have c29b0:=dT_ c29;clear c29;obtain ⟨t481,A30,H⟩:=ob_ H
          by_cases c31:t481=0
          ·rw [if_pos c31] at H;have c31b0:(t481 == 0)=true:=beq_iff_eq.mpr c31;have c31b1:(t481 != 0)=false:=nF_ c31;clear c31;have H':=M_ H;clear H;obtain ⟨Ao32,co32,eo32⟩:=Kd.R_slice HO_6.out;subst eo32;have p480:0≤(x7_1:Int):=oD_ qnc3_;have q480:x7_1 < (t474.length:Int):=oD_ qnc3_;obtain ⟨ad480,e480,hx480_0,hx480_1⟩:=at_T101 (Kd.R_reads' HO_6.out).2.2 x7_1 p480 q480
           cases e480
           replace p480:=eq_true p480;replace q480:=eq_true q480;have hnb33:=NB478_477.out;have hnc33:=NB477_478.out;have hcz34_0:=bc_ (.string ⟨#[]⟩) BK478.out 0 rfl;have hcz34_1:=bc_ (.string ⟨#[]⟩) BK478.out 1 rfl;have hfz34_0:=bf_ BK478.out 0;have hfz34_1:=bf_ BK478.out 1;have hcz35_0:=bc_ (.string x478000_14) BK477.out 0 rfl;have hcz35_1:=bc_ (.string x478001_14) BK477.out 1 rfl;have hfz35_0:=bf_ BK477.out 0;have hfz35_1:=bf_ BK477.out 1
           go_wp2_with (first|((with_reducible refine gate_callee (f:=82) rfl ?_);refine goesL_ (some 47) rfl rfl Tryd.func82 (by kernel_rfl) rfl #[.agg #[.string x478000_14,.string x478001_14],.agg #[.string ((rd_T101 t474 x7_1).f0),.string ((rd_T101 t474 x7_1).f1)]] rfl qnc0_ ?_;(with_reducible refine (r_pairs.calls kj14 x478000_14 x478001_14 ((rd_T101 t474 x7_1).f0) ((rd_T101 t474 x7_1).f1) t481 _ A30.out).mono ?_);rintro e w36 ⟨rfl,hb⟩;refine ⟨_,rfl,?_⟩;have n0_:=M_ (Kd.R_below (by (with_reducible repeat (first|apply Kd.R_alloc|apply Kd.R_drewN|apply Kd.R_drew));exact (Kd.R_mono (Kd.R_far (p:=⟨gb478,1,none⟩) (Kd.R_far (p:=⟨gb478,0,none⟩) (Kd.R_mono HO_5.out (fun k_ hk => (⟨hk,hk.2.2⟩:_∧k_ ≠ gb478))) (fun _ hk => hk.2) (.string ((rd_T101 t474 x7_1).f0))) (fun _ hk => hk.2) (.string ((rd_T101 t474 x7_1).f1))) (fun _ h_ => h_.1))) hb);have n1_:=M_ (Kd.R_below (by (with_reducible repeat (first|apply Kd.R_alloc|apply Kd.R_drewN|apply Kd.R_drew));exact (Kd.R_mono (Kd.R_far (p:=⟨gb478,1,none⟩) (Kd.R_far (p:=⟨gb478,0,none⟩) (Kd.R_mono HO_6.out (fun k_ hk => (⟨hk,hk.2.2⟩:_∧k_ ≠ gb478))) (fun _ hk => hk.2) (.string ((rd_T101 t474 x7_1).f0))) (fun _ hk => hk.2) (.string ((rd_T101 t474 x7_1).f1))) (fun _ h_ => h_.1))) hb);have n2_:=M_ (blk_below (g:=gb477) (o:=.cells #[.string x478000_14,.string x478001_14] 101 (0,0)) qnc69_ hb);have n3_:=M_ (blk_below (g:=gb478) (o:=.cells #[.string ((rd_T101 t474 x7_1).f0),.string ((rd_T101 t474 x7_1).f1)] 101 (0,0)) (by (with_reducible repeat first|apply bN_|apply bD_|apply bA_);refine blk_put (cs:=#[.string ((rd_T101 t474 x7_1).f0),.string ⟨#[]⟩]) ?_ 1 _ rfl;(with_reducible repeat first|apply bN_|apply bD_|apply bA_);refine blk_put (cs:=#[.string ⟨#[]⟩,.string ⟨#[]⟩]) ?_ 0 _ rfl;(with_reducible repeat first|apply bN_|apply bD_|apply bA_);exact BK478.out) hb);have n4_:=M_ (below_step qnc26_ hb);clear HO_5;clear HO_6;clear BK477;clear BK478;clear HB;have HO_5:=n0_;have HO_6:=n1_;have BK477:=n2_;have BK478:=n3_;have HB:=n4_;clear n0_ n1_ n2_ n3_ n4_;(try clear hb);(try clear hk)))
           go_roundg kj14
           case measure => have:=HK1.out;have:=HJ8.out;have:=HJ14.out;omega
           case rel => exact ⟨(wrap64 (x7_1+1)),qnc1_,H',⟨by have:=HK1.out;have:=HJ8.out;have:=HJ14.out;omega⟩,⟨by (with_reducible repeat (first|apply Kd.R_alloc|apply Kd.R_drewN|apply Kd.R_drew));exact Kd.R_mono HO_5.out (fun _ hk => hk.1)⟩,⟨by (with_reducible repeat (first|apply Kd.R_alloc|apply Kd.R_drewN|apply Kd.R_drew));exact Kd.R_mono HO_6.out (fun _ hk => hk.1)⟩,⟨qnc26_⟩⟩
          ·rw [if_neg c31] at H;have c31b0:(t481 == 0)=false:=bF_ c31;have c31b1:(t481 != 0)=true:=bne_iff_ne.mpr c31;obtain rfl:=Option.some.inj H;obtain ⟨Ao37,co37,eo37⟩:=Kd.R_slice HO_6.out;subst eo37;have p480:0≤(x7_1:Int):=oD_ qnc3_;have q480:x7_1 < (t474.length:Int):=oD_ qnc3_;obtain ⟨ad480,e480,hx480_0,hx480_1⟩:=at_T101 (Kd.R_reads' HO_6.out).2.2 x7_1 p480 q480
           cases e480
           replace p480:=eq_true p480;replace q480:=eq_true q480;have hnb38:=NB478_477.out;have hnc38:=NB477_478.out;have hcz39_0:=bc_ (.string ⟨#[]⟩) BK478.out 0 rfl;have hcz39_1:=bc_ (.string ⟨#[]⟩) BK478.out 1 rfl;have hfz39_0:=bf_ BK478.out 0;have hfz39_1:=bf_ BK478.out 1;have hcz40_0:=bc_ (.string x478000_14) BK477.out 0 rfl;have hcz40_1:=bc_ (.string x478001_14) BK477.out 1 rfl;have hfz40_0:=bf_ BK477.out 0;have hfz40_1:=bf_ BK477.out 1
           go_wp2_with (first|((with_reducible refine gate_callee (f:=82) rfl ?_);refine goesL_ (some 47) rfl rfl Tryd.func82 (by kernel_rfl) rfl #[.agg #[.string x478000_14,.string x478001_14],.agg #[.string ((rd_T101 t474 x7_1).f0),.string ((rd_T101 t474 x7_1).f1)]] rfl qnc0_ ?_;(with_reducible refine (r_pairs.calls kj14 x478000_14 x478001_14 ((rd_T101 t474 x7_1).f0) ((rd_T101 t474 x7_1).f1) t481 _ A30.out).mono ?_);rintro e w41 ⟨rfl,hb⟩;refine ⟨_,rfl,?_⟩;have n0_:=M_ (Kd.R_below (by (with_reducible repeat (first|apply Kd.R_alloc|apply Kd.R_drewN|apply Kd.R_drew));exact (Kd.R_mono (Kd.R_far (p:=⟨gb478,1,none⟩) (Kd.R_far (p:=⟨gb478,0,none⟩) (Kd.R_mono HO_5.out (fun k_ hk => (⟨hk,hk.2.2⟩:_∧k_ ≠ gb478))) (fun _ hk => hk.2) (.string ((rd_T101 t474 x7_1).f0))) (fun _ hk => hk.2) (.string ((rd_T101 t474 x7_1).f1))) (fun _ h_ => h_.1))) hb);have n1_:=M_ (Kd.R_below (by (with_reducible repeat (first|apply Kd.R_alloc|apply Kd.R_drewN|apply Kd.R_drew));exact (Kd.R_mono (Kd.R_far (p:=⟨gb478,1,none⟩) (Kd.R_far (p:=⟨gb478,0,none⟩) (Kd.R_mono HO_6.out (fun k_ hk => (⟨hk,hk.2.2⟩:_∧k_ ≠ gb478))) (fun _ hk => hk.2) (.string ((rd_T101 t474 x7_1).f0))) (fun _ hk => hk.2) (.string ((rd_T101 t474 x7_1).f1))) (fun _ h_ => h_.1))) hb);have n2_:=M_ (blk_below (g:=gb477) (o:=.cells #[.string x478000_14,.string x478001_14] 101 (0,0)) qnc69_ hb);have n3_:=M_ (blk_below (g:=gb478) (o:=.cells #[.string ((rd_T101 t474 x7_1).f0),.string ((rd_T101 t474 x7_1).f1)] 101 (0,0)) (by (with_reducible repeat first|apply bN_|apply bD_|apply bA_);refine blk_put (cs:=#[.string ((rd_T101 t474 x7_1).f0),.string ⟨#[]⟩]) ?_ 1 _ rfl;(with_reducible repeat first|apply bN_|apply bD_|apply bA_);refine blk_put (cs:=#[.string ⟨#[]⟩,.string ⟨#[]⟩]) ?_ 0 _ rfl;(with_reducible repeat first|apply bN_|apply bD_|apply bA_);exact BK478.out) hb);have n4_:=M_ (below_step qnc26_ hb);clear HO_5;clear HO_6;clear BK477;clear BK478;clear HB;have HO_5:=n0_;have HO_6:=n1_;have BK477:=n2_;have BK478:=n3_;have HB:=n4_;clear n0_ n1_ n2_ n3_ n4_;(try clear hb);(try clear hk)))
           go_ret;exact ⟨qnc5_,qnc26_⟩
         ·rw [if_neg c29] at H;exact absurd H (by simp)
        ·rw [if_neg c28] at H;have c28b0:=dF_ c28;clear c28;obtain ⟨t482,A42,H⟩:=ob_ H
         by_cases c43:t482=0
         ·rw [if_pos c43] at H;have c43b0:(t482 == 0)=true:=beq_iff_eq.mpr c43;have c43b1:(t482 != 0)=false:=nF_ c43;clear c43;have H':=M_ H;clear H;obtain ⟨Ao44,co44,eo44⟩:=Kd.R_slice HO_6.out;subst eo44;have hnb45:=NB477_478.out;have hnc45:=NB478_477.out;have hcz46_0:=bc_ (.string x478000_14) BK477.out 0 rfl;have hcz46_1:=bc_ (.string x478001_14) BK477.out 1 rfl;have hfz46_0:=bf_ BK477.out 0;have hfz46_1:=bf_ BK477.out 1;have hcz47_0:=bc_ (.string ⟨#[]⟩) BK478.out 0 rfl;have hcz47_1:=bc_ (.string ⟨#[]⟩) BK478.out 1 rfl;have hfz47_0:=bf_ BK478.out 0;have hfz47_1:=bf_ BK478.out 1
          go_wp2_with (first|((with_reducible refine gate_callee (f:=82) rfl ?_);refine goesL_ (some 47) rfl rfl Tryd.func82 (by kernel_rfl) rfl #[.agg #[.string x478000_14,.string x478001_14],.agg #[.string ⟨#[]⟩,.string ⟨#[]⟩]] rfl qnc0_ ?_;(with_reducible refine (r_pairs.calls kj14 x478000_14 x478001_14 (⟨#[]⟩:ByteArray) (⟨#[]⟩:ByteArray) t482 _ A42.out).mono ?_);rintro e w48 ⟨rfl,hb⟩;refine ⟨_,rfl,?_⟩;have n0_:=M_ (Kd.R_below qnc75_ hb);have n1_:=M_ (Kd.R_below qnc74_ hb);have n2_:=M_ (blk_below (g:=gb477) (o:=.cells #[.string x478000_14,.string x478001_14] 101 (0,0)) (by (with_reducible repeat first|apply bN_|apply bD_|apply bA_);exact BK477.out) hb);have n3_:=M_ (blk_below (g:=gb478) (o:=.cells #[.string ⟨#[]⟩,.string ⟨#[]⟩] 101 (0,0)) (by (with_reducible repeat first|apply bN_|apply bD_|apply bA_);exact BK478.out) hb);have n4_:=M_ (below_step qnc26_ hb);clear HO_5;clear HO_6;clear BK477;clear BK478;clear HB;have HO_5:=n0_;have HO_6:=n1_;have BK477:=n2_;have BK478:=n3_;have HB:=n4_;clear n0_ n1_ n2_ n3_ n4_;(try clear hb);(try clear hk)))
          go_roundg kj14
          case measure => have:=HK1.out;have:=HJ8.out;have:=HJ14.out;omega
          case rel => exact ⟨(wrap64 (x7_1+1)),qnc1_,H',⟨by have:=HK1.out;have:=HJ8.out;have:=HJ14.out;omega⟩,⟨by (with_reducible repeat (first|apply Kd.R_alloc|apply Kd.R_drewN|apply Kd.R_drew));exact Kd.R_mono HO_5.out (fun _ hk => hk.1)⟩,⟨by (with_reducible repeat (first|apply Kd.R_alloc|apply Kd.R_drewN|apply Kd.R_drew));exact Kd.R_mono HO_6.out (fun _ hk => hk.1)⟩,⟨qnc26_⟩⟩
         ·rw [if_neg c43] at H;have c43b0:(t482 == 0)=false:=bF_ c43;have c43b1:(t482 != 0)=true:=bne_iff_ne.mpr c43;obtain rfl:=Option.some.inj H;obtain ⟨Ao49,co49,eo49⟩:=Kd.R_slice HO_6.out;subst eo49;have hnb50:=NB477_478.out;have hnc50:=NB478_477.out;have hcz51_0:=bc_ (.string x478000_14) BK477.out 0 rfl;have hcz51_1:=bc_ (.string x478001_14) BK477.out 1 rfl;have hfz51_0:=bf_ BK477.out 0;have hfz51_1:=bf_ BK477.out 1;have hcz52_0:=bc_ (.string ⟨#[]⟩) BK478.out 0 rfl;have hcz52_1:=bc_ (.string ⟨#[]⟩) BK478.out 1 rfl;have hfz52_0:=bf_ BK478.out 0;have hfz52_1:=bf_ BK478.out 1
          go_wp2_with (first|((with_reducible refine gate_callee (f:=82) rfl ?_);refine goesL_ (some 47) rfl rfl Tryd.func82 (by kernel_rfl) rfl #[.agg #[.string x478000_14,.string x478001_14],.agg #[.string ⟨#[]⟩,.string ⟨#[]⟩]] rfl qnc0_ ?_;(with_reducible refine (r_pairs.calls kj14 x478000_14 x478001_14 (⟨#[]⟩:ByteArray) (⟨#[]⟩:ByteArray) t482 _ A42.out).mono ?_);rintro e w53 ⟨rfl,hb⟩;refine ⟨_,rfl,?_⟩;have n0_:=M_ (Kd.R_below qnc75_ hb);have n1_:=M_ (Kd.R_below qnc74_ hb);have n2_:=M_ (blk_below (g:=gb477) (o:=.cells #[.string x478000_14,.string x478001_14] 101 (0,0)) (by (with_reducible repeat first|apply bN_|apply bD_|apply bA_);exact BK477.out) hb);have n3_:=M_ (blk_below (g:=gb478) (o:=.cells #[.string ⟨#[]⟩,.string ⟨#[]⟩] 101 (0,0)) (by (with_reducible repeat first|apply bN_|apply bD_|apply bA_);exact BK478.out) hb);have n4_:=M_ (below_step qnc26_ hb);clear HO_5;clear HO_6;clear BK477;clear BK478;clear HB;have HO_5:=n0_;have HO_6:=n1_;have BK477:=n2_;have BK478:=n3_;have HB:=n4_;clear n0_ n1_ n2_ n3_ n4_;(try clear hb);(try clear hk)))
          go_ret;exact ⟨qnc5_,qnc26_⟩
     ·replace c14:=Bool.eq_false_iff.mpr c14;subst c14;rw [if_neg (show ¬ (false=true) by decide)] at H;obtain rfl:=Option.some.inj H;go_wp2;go_ret;exact ⟨qnc5_,qnc2_⟩

set_option maxHeartbeats 8000000
set_option maxRecDepth 100000

def r_Compare.j0:Nat→Int→ByteArray→ByteArray→Int→Bool→Option (Int)
 | 0,_,_,_,_,_ => none
 | k+1,x0,x1,x2,x9,x10 => if x10=true then ((r_number.f k x0 x1).bind fun bt483 => ((r_number.f k x0 x2).bind fun bt487 => ((r_Order.f k bt483.1 bt483.2.1 bt483.2.2.1 bt483.2.2.2 bt487.1 bt487.2.1 bt487.2.2.1 bt487.2.2.2).bind fun t491 => (some t491)))) else (if x9=32 then ((r_General.f k x1).bind fun bt492 => ((r_General.f k x2).bind fun bt498 => (if bt492.1=bt498.1 then ((r_general.f bt492.1 bt492.2.1 bt492.2.2.1 bt492.2.2.2.1 bt492.2.2.2.2).bind fun bt505 => ((r_general.f bt498.1 bt498.2.1 bt498.2.2.1 bt498.2.2.2.1 bt498.2.2.2.2).bind fun bt509 => ((r_Order.f k bt505.1 bt505.2.1 bt505.2.2.1 bt505.2.2.2 bt509.1 bt509.2.1 bt509.2.2.1 bt509.2.2.2).bind fun t513 => (some t513)))) else ((r_ints.f (wrap64 (bt492.1)) (wrap64 (bt498.1))).bind fun t504 => (some t504))))) else (if x9=128 then ((r_Month.f k x1).bind fun t514 => ((r_Month.f k x2).bind fun t515 => ((r_ints.f t514 t515).bind fun t516 => (some t516)))) else (if x9=256 then ((r_Versions.f k x1 x2).bind fun t517 => (some t517)) else ((r_Bytes.f k x1 x2).bind fun t518 => (some t518)))))
def r_Compare.f (k:Nat) (a0:Int) (a1:ByteArray) (a2:ByteArray):Option (Int):=if a0=16 then (r_Compare.j0 k a0 a1 a2 a0 (a0 == 16)) else (r_Compare.j0 k a0 a1 a2 a0 (a0 == 64))
theorem r_Compare.calls (k : Nat) (a0 : Int) (a1 : ByteArray) (a2 : ByteArray) (r : Int) (w : World) (h : r_Compare.f k a0 a1 a2 = some r) :
  Calls Tryd.prog 28 #[.int .i64 a0,.string a1,.string a2] w fun e w' => e=.returned (.int .i64 r)∧Below w.heap.size w w':=by
 have hu29:=Tryd.underlying29;have HB:=M_ (Below.refl w.heap.size w);have H:(if a0=16 then (r_Compare.j0 k a0 a1 a2 a0 (a0 == 16)) else (r_Compare.j0 k a0 a1 a2 a0 (a0 == 64)))=some r:=h;clear h;have HC4:=M_ H;clear H
 go_enter Tryd.func28,Tryd.ntmps28
 go_upto_if 10 with (fail)
 go_cut [10] (fun v10 wc => ∃ (kq:Nat) (x10_3:Bool),v10=.bool x10_3∧Aside0 (r_Compare.j0 kq a0 a1 a2 a0 x10_3=some r)∧Aside0 (kq≤k)∧Aside0 (Below w.heap.size w wc))
 case first =>
  have H:=HC4.out;clear HC4
  by_cases c5:a0=16
  ·rw [if_pos c5] at H;have c5b0:(a0 == 16)=true:=beq_iff_eq.mpr c5;have c5b1:(a0 != 16)=false:=nF_ c5;clear c5
   (first|rw [c5b0]|(simp only [i64_w,i32_w];rw [c5b0])|skip)
   have H':=M_ H;clear H;go_wp2;go_meet
   case rel => exact ⟨_,((a0 == 16)),qnc1_,H',⟨by first|omega|exact Nat.le_refl _⟩,⟨qnc2_⟩⟩
  ·rw [if_neg c5] at H;have c5b0:(a0 == 16)=false:=bF_ c5;have c5b1:(a0 != 16)=true:=bne_iff_ne.mpr c5
   (first|rw [c5b0]|(simp only [i64_w,i32_w];rw [c5b0])|skip)
   have H':=M_ H;clear H;go_wp2;go_meet
   case rel => exact ⟨_,((a0 == 64)),qnc1_,H',⟨by first|omega|exact Nat.le_refl _⟩,⟨qnc2_⟩⟩
 case rest =>
  clear HC4
  (try clear c5);(try clear c5b0);(try clear c5b1)
  obtain ⟨kq,x10_3,rfl,HA,HJ3,HB⟩:=hcut
  cases kq with
  | zero => exact absurd HA.out (by simp [r_Compare.j0])
  | succ kj3 =>
   have H:=HA.out;clear HA;simp only [r_Compare.j0] at H
   by_cases c6:x10_3=true
   ·subst c6;rw [if_pos rfl] at H;obtain ⟨⟨t483,t484,t485,t486⟩,A7,H⟩:=ob_ H;obtain ⟨⟨t487,t488,t489,t490⟩,A8,H⟩:=ob_ H;obtain ⟨t491,A9,H⟩:=ob_ H;obtain rfl:=Option.some.inj H;have tk13:=trivial;have tk14:=trivial;have tk15:=trivial
    go_wp2_with (first|(clear tk13;(with_reducible refine gate_callee (f:=57) rfl ?_);refine goesL_ (some 15) rfl rfl Tryd.func57 (by kernel_rfl) rfl #[.int .i64 a0,.string a1] rfl qnc0_ ?_;(with_reducible refine (r_number.calls kj3 a0 a1 t483 t484 t485 t486 _ A7.out).mono ?_);rintro e w10 ⟨rfl,hb⟩;refine ⟨_,rfl,?_⟩;have n0_:=M_ (below_step qnc2_ hb);clear HB;have HB:=n0_;clear n0_;(try clear hb))|(clear tk14;(with_reducible refine gate_callee (f:=57) rfl ?_);refine goesL_ (some 18) rfl rfl Tryd.func57 (by kernel_rfl) rfl #[.int .i64 a0,.string a2] rfl qnc0_ ?_;(with_reducible refine (r_number.calls kj3 a0 a2 t487 t488 t489 t490 _ A8.out).mono ?_);rintro e w11 ⟨rfl,hb⟩;refine ⟨_,rfl,?_⟩;have n0_:=M_ (below_step qnc2_ hb);clear HB;have HB:=n0_;clear n0_;(try clear hb))|(clear tk15;(with_reducible refine gate_callee (f:=56) rfl ?_);refine goesL_ (some 19) rfl rfl Tryd.func56 (by kernel_rfl) rfl #[.agg #[.bool t483,.string t484,.int .i64 t485,.int .i64 t486],.agg #[.bool t487,.string t488,.int .i64 t489,.int .i64 t490]] rfl qnc0_ ?_;(with_reducible refine (r_Order.calls kj3 t483 t484 t485 t486 t487 t488 t489 t490 t491 _ A9.out).mono ?_);rintro e w12 ⟨rfl,hb⟩;refine ⟨_,rfl,?_⟩;have n0_:=M_ (below_step qnc2_ hb);clear HB;have HB:=n0_;clear n0_;(try clear hb)))
    go_ret;exact ⟨qnc5_,qnc2_⟩
   ·replace c6:=Bool.eq_false_iff.mpr c6;subst c6;rw [if_neg (show ¬ (false=true) by decide)] at H
    by_cases c16:a0=32
    ·rw [if_pos c16] at H;have c16b0:(a0 == 32)=true:=beq_iff_eq.mpr c16;have c16b1:(a0 != 32)=false:=nF_ c16;clear c16;obtain ⟨⟨t492,t493,t494,t495,t496⟩,A17,H⟩:=ob_ H;obtain ⟨⟨t498,t499,t500,t501,t502⟩,A18,H⟩:=ob_ H
     by_cases c19:t492=t498
     ·rw [if_pos c19] at H;have c19b0:(t492 == t498)=true:=beq_iff_eq.mpr c19;have c19b1:(t492 != t498)=false:=nF_ c19;clear c19;obtain ⟨⟨t505,t506,t507,t508⟩,A20,H⟩:=ob_ H;obtain ⟨⟨t509,t510,t511,t512⟩,A21,H⟩:=ob_ H;obtain ⟨t513,A22,H⟩:=ob_ H;obtain rfl:=Option.some.inj H;have tk36:=trivial;have tk37:=trivial;have tk38:=trivial;have tk39:=trivial
      try go_wp2_with (first|(clear tk36;(with_reducible refine gate_callee (f:=26) rfl ?_);refine goesL_ (some 23) rfl rfl Tryd.func26 (by kernel_rfl) rfl #[.string a1] rfl qnc0_ ?_;(with_reducible refine (r_General.calls kj3 a1 t492 t493 t494 t495 t496 _ A17.out).mono ?_);rintro e w23 ⟨rfl,hb⟩;refine ⟨_,rfl,?_⟩;have n0_:=M_ (below_step qnc2_ hb);clear HB;have HB:=n0_;clear n0_;(try clear hb))|(clear tk37;(with_reducible refine gate_dst (N:=7) rfl ?_);refine box_event ?hg (N:=7) ?hd (cs:=#[.int .u8 0,.bool false,.string ⟨#[]⟩,.int .i64 0,.int .i64 0]) (t:=29) ?hr ?_;(case hd => rfl);(case hg => rfl);(case hr => first|(go_simp;done)|(go_simp;rfl));intro gb497 hg w24 hbox hb;have n0_:=M_ (below_step qnc2_ hb);have n1_:=M_ (hbox);have n2_:=M_ ((by rw [hg];exact (below_size qnc2_):w.heap.size≤gb497));have n3_:=n2_;clear HB;have HB:=n0_;have BK497:=n1_;have GW497:=n2_;have GE497:=n3_;clear n0_ n1_ n2_ n3_;clear hb hbox hg;have hcz25_0:=bc_ (.int .u8 0) BK497.out 0 rfl;have hcz25_1:=bc_ (.bool false) BK497.out 1 rfl;have hcz25_2:=bc_ (.string ⟨#[]⟩) BK497.out 2 rfl;have hcz25_3:=bc_ (.int .i64 0) BK497.out 3 rfl;have hcz25_4:=bc_ (.int .i64 0) BK497.out 4 rfl;have hfz25_0:=bf_ BK497.out 0;have hfz25_1:=bf_ BK497.out 1;have hfz25_2:=bf_ BK497.out 2;have hfz25_3:=bf_ BK497.out 3;have hfz25_4:=bf_ BK497.out 4)|(clear tk38;(with_reducible refine gate_callee (f:=26) rfl ?_);refine goesL_ (some 25) rfl rfl Tryd.func26 (by kernel_rfl) rfl #[.string a2] rfl qnc0_ ?_;(with_reducible refine (r_General.calls kj3 a2 t498 t499 t500 t501 t502 _ A18.out).mono ?_);rintro e w26 ⟨rfl,hb⟩;refine ⟨_,rfl,?_⟩;have n0_:=M_ (blk_below (g:=gb497) (o:=.cells #[.int .u8 t492,.bool t493,.string t494,.int .i64 t495,.int .i64 t496] 29 (0,0)) (by (with_reducible repeat first|apply bN_|apply bD_|apply bA_);refine blk_put (cs:=#[.int .u8 t492,.bool t493,.string t494,.int .i64 t495,.int .i64 0]) ?_ 4 _ rfl;(with_reducible repeat first|apply bN_|apply bD_|apply bA_);refine blk_put (cs:=#[.int .u8 t492,.bool t493,.string t494,.int .i64 0,.int .i64 0]) ?_ 3 _ rfl;(with_reducible repeat first|apply bN_|apply bD_|apply bA_);refine blk_put (cs:=#[.int .u8 t492,.bool t493,.string ⟨#[]⟩,.int .i64 0,.int .i64 0]) ?_ 2 _ rfl;(with_reducible repeat first|apply bN_|apply bD_|apply bA_);refine blk_put (cs:=#[.int .u8 t492,.bool false,.string ⟨#[]⟩,.int .i64 0,.int .i64 0]) ?_ 1 _ rfl;(with_reducible repeat first|apply bN_|apply bD_|apply bA_);refine blk_put (cs:=#[.int .u8 0,.bool false,.string ⟨#[]⟩,.int .i64 0,.int .i64 0]) ?_ 0 _ rfl;(with_reducible repeat first|apply bN_|apply bD_|apply bA_);exact BK497.out) hb);have n1_:=M_ (below_step qnc56_ hb);clear BK497;clear HB;have BK497:=n0_;have HB:=n1_;clear n0_ n1_;(try clear hb))|(clear tk39;(with_reducible refine gate_dst (N:=8) rfl ?_);refine box_event ?hg (N:=8) ?hd (cs:=#[.int .u8 0,.bool false,.string ⟨#[]⟩,.int .i64 0,.int .i64 0]) (t:=29) ?hr ?_;(case hd => rfl);(case hg => rfl);(case hr => first|(go_simp;done)|(go_simp;rfl));intro gb503 hg w27 hbox hb;have n0_:=M_ (blk_below (g:=gb497) (o:=.cells #[.int .u8 t492,.bool t493,.string t494,.int .i64 t495,.int .i64 t496] 29 (0,0)) qnc65_ hb);have n1_:=M_ (below_step qnc56_ hb);have n2_:=M_ (hbox);have n3_:=M_ ((by rw [hg];exact (below_size qnc56_):w.heap.size≤gb503));have n4_:=n3_;have n5_:=M_ ((by rw [hg];exact Nat.ne_of_lt (blk_lt (g:=gb497) (o:=.cells #[.int .u8 t492,.bool t493,.string t494,.int .i64 t495,.int .i64 t496] 29 (0,0)) qnc65_):gb497 ≠ gb503));have n6_:=M_ ((by rw [hg];exact Nat.ne_of_gt (blk_lt (g:=gb497) (o:=.cells #[.int .u8 t492,.bool t493,.string t494,.int .i64 t495,.int .i64 t496] 29 (0,0)) qnc65_):gb503 ≠ gb497));clear BK497;clear HB;have BK497:=n0_;have HB:=n1_;have BK503:=n2_;have GW503:=n3_;have GE503:=n4_;have NB497_503:=n5_;have NB503_497:=n6_;clear n0_ n1_ n2_ n3_ n4_ n5_ n6_;clear hb hbox hg;have hnb28:=NB503_497.out;have hnc28:=NB497_503.out;have hcz29_0:=bc_ (.int .u8 0) BK503.out 0 rfl;have hcz29_1:=bc_ (.bool false) BK503.out 1 rfl;have hcz29_2:=bc_ (.string ⟨#[]⟩) BK503.out 2 rfl;have hcz29_3:=bc_ (.int .i64 0) BK503.out 3 rfl;have hcz29_4:=bc_ (.int .i64 0) BK503.out 4 rfl;have hfz29_0:=bf_ BK503.out 0;have hfz29_1:=bf_ BK503.out 1;have hfz29_2:=bf_ BK503.out 2;have hfz29_3:=bf_ BK503.out 3;have hfz29_4:=bf_ BK503.out 4;have hcz30_0:=bc_ (.int .u8 t492) BK497.out 0 rfl;have hcz30_1:=bc_ (.bool t493) BK497.out 1 rfl;have hcz30_2:=bc_ (.string t494) BK497.out 2 rfl;have hcz30_3:=bc_ (.int .i64 t495) BK497.out 3 rfl;have hcz30_4:=bc_ (.int .i64 t496) BK497.out 4 rfl;have hfz30_0:=bf_ BK497.out 0;have hfz30_1:=bf_ BK497.out 1;have hfz30_2:=bf_ BK497.out 2;have hfz30_3:=bf_ BK497.out 3;have hfz30_4:=bf_ BK497.out 4))
      have n0_:Aside0 ((((((w27.setCell ⟨gb503,0,none⟩ (.int .u8 t498)).setCell ⟨gb503,1,none⟩ (.bool t499)).setCell ⟨gb503,2,none⟩ (.string t500)).setCell ⟨gb503,3,none⟩ (.int .i64 t501)).setCell ⟨gb503,4,none⟩ (.int .i64 t502)).heap[gb497]?=some (.cells #[.int .u8 t492,.bool t493,.string t494,.int .i64 t495,.int .i64 t496] 29 (0,0))):=⟨by (with_reducible repeat first|apply bN_|apply bD_|apply bA_);refine blk_far ?_ NB497_503.out _;(with_reducible repeat first|apply bN_|apply bD_|apply bA_);refine blk_far ?_ NB497_503.out _;(with_reducible repeat first|apply bN_|apply bD_|apply bA_);refine blk_far ?_ NB497_503.out _;(with_reducible repeat first|apply bN_|apply bD_|apply bA_);refine blk_far ?_ NB497_503.out _;(with_reducible repeat first|apply bN_|apply bD_|apply bA_);refine blk_far ?_ NB497_503.out _;(with_reducible repeat first|apply bN_|apply bD_|apply bA_);exact BK497.out⟩;have n1_:Aside0 ((((((w27.setCell ⟨gb503,0,none⟩ (.int .u8 t498)).setCell ⟨gb503,1,none⟩ (.bool t499)).setCell ⟨gb503,2,none⟩ (.string t500)).setCell ⟨gb503,3,none⟩ (.int .i64 t501)).setCell ⟨gb503,4,none⟩ (.int .i64 t502)).heap[gb503]?=some (.cells #[.int .u8 t498,.bool t499,.string t500,.int .i64 t501,.int .i64 t502] 29 (0,0))):=⟨by (with_reducible repeat first|apply bN_|apply bD_|apply bA_);refine blk_put (cs:=#[.int .u8 t498,.bool t499,.string t500,.int .i64 t501,.int .i64 0]) ?_ 4 _ rfl;(with_reducible repeat first|apply bN_|apply bD_|apply bA_);refine blk_put (cs:=#[.int .u8 t498,.bool t499,.string t500,.int .i64 0,.int .i64 0]) ?_ 3 _ rfl;(with_reducible repeat first|apply bN_|apply bD_|apply bA_);refine blk_put (cs:=#[.int .u8 t498,.bool t499,.string ⟨#[]⟩,.int .i64 0,.int .i64 0]) ?_ 2 _ rfl;(with_reducible repeat first|apply bN_|apply bD_|apply bA_);refine blk_put (cs:=#[.int .u8 t498,.bool false,.string ⟨#[]⟩,.int .i64 0,.int .i64 0]) ?_ 1 _ rfl;(with_reducible repeat first|apply bN_|apply bD_|apply bA_);refine blk_put (cs:=#[.int .u8 0,.bool false,.string ⟨#[]⟩,.int .i64 0,.int .i64 0]) ?_ 0 _ rfl;(with_reducible repeat first|apply bN_|apply bD_|apply bA_);exact BK503.out⟩;have n2_:Aside0 (Below w.heap.size w (((((w27.setCell ⟨gb503,0,none⟩ (.int .u8 t498)).setCell ⟨gb503,1,none⟩ (.bool t499)).setCell ⟨gb503,2,none⟩ (.string t500)).setCell ⟨gb503,3,none⟩ (.int .i64 t501)).setCell ⟨gb503,4,none⟩ (.int .i64 t502))):=⟨qnc44_⟩
      (try clear BK497);(try clear BK503);(try clear HB)
      generalize (((((w27.setCell ⟨gb503,0,none⟩ (.int .u8 t498)).setCell ⟨gb503,1,none⟩ (.bool t499)).setCell ⟨gb503,2,none⟩ (.string t500)).setCell ⟨gb503,3,none⟩ (.int .i64 t501)).setCell ⟨gb503,4,none⟩ (.int .i64 t502))=w31 at n0_ n1_ n2_ ⊢
      have BK497:=n0_;have BK503:=n1_;have HB:=n2_;clear n0_ n1_ n2_;have n0_:=M_ (blk_drew BK497.out);have n1_:=M_ (blk_drew BK503.out);have n2_:=M_ (below_drew1 HB.out);clear BK497;clear BK503;clear HB;have BK497:=n0_;have BK503:=n1_;have HB:=n2_;clear n0_ n1_ n2_;refine start_ (n:=6) (S:=fun w' => w'.cell? ⟨gb497,0,none⟩=some (.int .u8 t492)∧w'.cell? ⟨gb497,1,none⟩=some (.bool t493)∧w'.cell? ⟨gb497,2,none⟩=some (.string t494)∧w'.cell? ⟨gb497,3,none⟩=some (.int .i64 t495)∧w'.cell? ⟨gb497,4,none⟩=some (.int .i64 t496)∧w'.cell? ⟨gb503,0,none⟩=some (.int .u8 t498)∧w'.cell? ⟨gb503,1,none⟩=some (.bool t499)∧w'.cell? ⟨gb503,2,none⟩=some (.string t500)∧w'.cell? ⟨gb503,3,none⟩=some (.int .i64 t501)∧w'.cell? ⟨gb503,4,none⟩=some (.int .i64 t502)) (ds:=[]) #[false,false,false,false,false,false] (by kernel_rfl) rfl rfl ⟨(blk_cell BK497.out 0).trans rfl,(blk_cell BK497.out 1).trans rfl,(blk_cell BK497.out 2).trans rfl,(blk_cell BK497.out 3).trans rfl,(blk_cell BK497.out 4).trans rfl,(blk_cell BK503.out 0).trans rfl,(blk_cell BK503.out 1).trans rfl,(blk_cell BK503.out 2).trans rfl,(blk_cell BK503.out 3).trans rfl,(blk_cell BK503.out 4).trans rfl⟩ (fun hHeld => ?_)
      generalize w31.drew=w32 at BK497 BK503 HB hHeld ⊢
      refine take_ (i:=0) (N:=some 38) (v:=?_) (a':=?_) #[true,false,false,false,false,false] rfl rfl (by kernel_rfl) (fun _ _ _ h => h) (Or.inl ⟨by rfl,?_⟩) hHeld ?_ ?_
      rotate_left
      ·rintro w' ⟨s0,s1,s2,s3,s4,s5,s6,s7,s8,s9⟩
       go_simp
       with_reducible rfl
      rotate_left
      ·simp only [Act.put,sA_,sZ_,sS_,i64_w,i32_w]
       rfl
      refine take_ (i:=2) (N:=some 40) (v:=?_) (a':=?_) #[true,false,true,false,false,false] rfl rfl (by kernel_rfl) (fun _ _ _ h => h) (Or.inl ⟨by rfl,?_⟩) hHeld ?_ ?_
      rotate_left
      ·rintro w' ⟨s0,s1,s2,s3,s4,s5,s6,s7,s8,s9⟩
       go_simp
       with_reducible rfl
      rotate_left
      ·simp only [Act.put,sA_,sZ_,sS_,i64_w,i32_w]
       rfl
      refine one_ (i:=1) (N:=some 39) #[true,true,true,false,false,false] rfl rfl (by kernel_rfl) (by decide) (fun K hK => ?_);refine goes_ Tryd.func59 (by kernel_rfl) rfl #[.agg #[.int .u8 t492,.bool t493,.string t494,.int .i64 t495,.int .i64 t496]] (by rfl) rfl rfl qnc0_ ?_
      with_reducible refine (r_general.calls t492 t493 t494 t495 t496 t505 t506 t507 t508 _ A20.out).mono ?_
      rintro e w33 ⟨rfl,hb⟩
      refine ⟨_,rfl,?_⟩;have n0_:=M_ (blk_below (g:=gb497) (o:=.cells #[.int .u8 t492,.bool t493,.string t494,.int .i64 t495,.int .i64 t496] 29 (0,0)) qnc65_ hb);have n1_:=M_ (blk_below (g:=gb503) (o:=.cells #[.int .u8 t498,.bool t499,.string t500,.int .i64 t501,.int .i64 t502] 29 (0,0)) qnc96_ hb);have n2_:=M_ (below_step qnc44_ hb);clear BK497;clear BK503;clear HB;have BK497:=n0_;have BK503:=n1_;have HB:=n2_;clear n0_ n1_ n2_
      (try clear hb)
      refine hK.out _ _ ⟨(blk_cell BK497.out 0).trans rfl,(blk_cell BK497.out 1).trans rfl,(blk_cell BK497.out 2).trans rfl,(blk_cell BK497.out 3).trans rfl,(blk_cell BK497.out 4).trans rfl,(blk_cell BK503.out 0).trans rfl,(blk_cell BK503.out 1).trans rfl,(blk_cell BK503.out 2).trans rfl,(blk_cell BK503.out 3).trans rfl,(blk_cell BK503.out 4).trans rfl⟩ (fun hHeld => ?_);clear hK K;refine norm_ (a':=?_) ?_ ?_
      rotate_left
      ·show Act.put _ (some 39) _=_
       simp only [Act.put,sA_,sZ_,sS_,i64_w,i32_w]
       rfl
      refine one_ (i:=3) (N:=some 41) #[true,true,true,true,false,false] rfl rfl (by kernel_rfl) (by decide) (fun K hK => ?_);refine goes_ Tryd.func59 (by kernel_rfl) rfl #[.agg #[.int .u8 t498,.bool t499,.string t500,.int .i64 t501,.int .i64 t502]] (by rfl) rfl rfl qnc0_ ?_
      with_reducible refine (r_general.calls t498 t499 t500 t501 t502 t509 t510 t511 t512 _ A21.out).mono ?_
      rintro e w34 ⟨rfl,hb⟩
      refine ⟨_,rfl,?_⟩;have n0_:=M_ (blk_below (g:=gb497) (o:=.cells #[.int .u8 t492,.bool t493,.string t494,.int .i64 t495,.int .i64 t496] 29 (0,0)) qnc65_ hb);have n1_:=M_ (blk_below (g:=gb503) (o:=.cells #[.int .u8 t498,.bool t499,.string t500,.int .i64 t501,.int .i64 t502] 29 (0,0)) qnc96_ hb);have n2_:=M_ (below_step qnc44_ hb);clear BK497;clear BK503;clear HB;have BK497:=n0_;have BK503:=n1_;have HB:=n2_;clear n0_ n1_ n2_
      (try clear hb)
      refine hK.out _ _ ⟨(blk_cell BK497.out 0).trans rfl,(blk_cell BK497.out 1).trans rfl,(blk_cell BK497.out 2).trans rfl,(blk_cell BK497.out 3).trans rfl,(blk_cell BK497.out 4).trans rfl,(blk_cell BK503.out 0).trans rfl,(blk_cell BK503.out 1).trans rfl,(blk_cell BK503.out 2).trans rfl,(blk_cell BK503.out 3).trans rfl,(blk_cell BK503.out 4).trans rfl⟩ (fun hHeld => ?_);clear hK K;refine norm_ (a':=?_) ?_ ?_
      rotate_left
      ·show Act.put _ (some 41) _=_
       simp only [Act.put,sA_,sZ_,sS_,i64_w,i32_w]
       rfl
      refine one_ (i:=4) (N:=some 42) #[true,true,true,true,true,false] rfl rfl (by kernel_rfl) (by decide) (fun K hK => ?_);refine goes_ Tryd.func56 (by kernel_rfl) rfl #[.agg #[.bool t505,.string t506,.int .i64 t507,.int .i64 t508],.agg #[.bool t509,.string t510,.int .i64 t511,.int .i64 t512]] (by rfl) rfl rfl qnc0_ ?_
      with_reducible refine (r_Order.calls kj3 t505 t506 t507 t508 t509 t510 t511 t512 t513 _ A22.out).mono ?_
      rintro e w35 ⟨rfl,hb⟩
      refine ⟨_,rfl,?_⟩;have n0_:=M_ (blk_below (g:=gb497) (o:=.cells #[.int .u8 t492,.bool t493,.string t494,.int .i64 t495,.int .i64 t496] 29 (0,0)) qnc65_ hb);have n1_:=M_ (blk_below (g:=gb503) (o:=.cells #[.int .u8 t498,.bool t499,.string t500,.int .i64 t501,.int .i64 t502] 29 (0,0)) qnc96_ hb);have n2_:=M_ (below_step qnc44_ hb);clear BK497;clear BK503;clear HB;have BK497:=n0_;have BK503:=n1_;have HB:=n2_;clear n0_ n1_ n2_
      (try clear hb)
      refine hK.out _ _ ⟨(blk_cell BK497.out 0).trans rfl,(blk_cell BK497.out 1).trans rfl,(blk_cell BK497.out 2).trans rfl,(blk_cell BK497.out 3).trans rfl,(blk_cell BK497.out 4).trans rfl,(blk_cell BK503.out 0).trans rfl,(blk_cell BK503.out 1).trans rfl,(blk_cell BK503.out 2).trans rfl,(blk_cell BK503.out 3).trans rfl,(blk_cell BK503.out 4).trans rfl⟩ (fun hHeld => ?_);clear hK K;refine norm_ (a':=?_) ?_ ?_
      rotate_left
      ·show Act.put _ (some 42) _=_
       simp only [Act.put,sA_,sZ_,sS_,i64_w,i32_w]
       rfl
      refine pure_ (i:=5) (N:=some 6) (v:=?_) (a':=?_) #[true,true,true,true,true,true] rfl rfl (by kernel_rfl) (fun _ _ _ h => h) (Or.inl ⟨by rfl,?_⟩) ?_ ?_
      rotate_left
      ·intro w'
       go_simp
       with_reducible rfl
      rotate_left
      ·simp only [Act.put,sA_,sZ_,sS_,i64_w,i32_w]
       rfl
      refine done_ (by kernel_rfl) ?_
      try go_wp2
      go_ret;exact ⟨qnc5_,qnc44_⟩
     ·rw [if_neg c19] at H;have c19b0:(t492 == t498)=false:=bF_ c19;have c19b1:(t492 != t498)=true:=bne_iff_ne.mpr c19;obtain ⟨t504,A40,H⟩:=ob_ H;obtain rfl:=Option.some.inj H;have tk49:=trivial;have tk50:=trivial;have tk51:=trivial;have tk52:=trivial;have tk53:=trivial
      go_wp2_with (first|(clear tk49;(with_reducible refine gate_callee (f:=26) rfl ?_);refine goesL_ (some 23) rfl rfl Tryd.func26 (by kernel_rfl) rfl #[.string a1] rfl qnc0_ ?_;(with_reducible refine (r_General.calls kj3 a1 t492 t493 t494 t495 t496 _ A17.out).mono ?_);rintro e w41 ⟨rfl,hb⟩;refine ⟨_,rfl,?_⟩;have n0_:=M_ (below_step qnc2_ hb);clear HB;have HB:=n0_;clear n0_;(try clear hb))|(clear tk50;(with_reducible refine gate_dst (N:=7) rfl ?_);refine box_event ?hg (N:=7) ?hd (cs:=#[.int .u8 0,.bool false,.string ⟨#[]⟩,.int .i64 0,.int .i64 0]) (t:=29) ?hr ?_;(case hd => rfl);(case hg => rfl);(case hr => first|(go_simp;done)|(go_simp;rfl));intro gb497 hg w42 hbox hb;have n0_:=M_ (below_step qnc2_ hb);have n1_:=M_ (hbox);have n2_:=M_ ((by rw [hg];exact (below_size qnc2_):w.heap.size≤gb497));have n3_:=n2_;clear HB;have HB:=n0_;have BK497:=n1_;have GW497:=n2_;have GE497:=n3_;clear n0_ n1_ n2_ n3_;clear hb hbox hg;have hcz43_0:=bc_ (.int .u8 0) BK497.out 0 rfl;have hcz43_1:=bc_ (.bool false) BK497.out 1 rfl;have hcz43_2:=bc_ (.string ⟨#[]⟩) BK497.out 2 rfl;have hcz43_3:=bc_ (.int .i64 0) BK497.out 3 rfl;have hcz43_4:=bc_ (.int .i64 0) BK497.out 4 rfl;have hfz43_0:=bf_ BK497.out 0;have hfz43_1:=bf_ BK497.out 1;have hfz43_2:=bf_ BK497.out 2;have hfz43_3:=bf_ BK497.out 3;have hfz43_4:=bf_ BK497.out 4)|(clear tk51;(with_reducible refine gate_callee (f:=26) rfl ?_);refine goesL_ (some 25) rfl rfl Tryd.func26 (by kernel_rfl) rfl #[.string a2] rfl qnc0_ ?_;(with_reducible refine (r_General.calls kj3 a2 t498 t499 t500 t501 t502 _ A18.out).mono ?_);rintro e w44 ⟨rfl,hb⟩;refine ⟨_,rfl,?_⟩;have n0_:=M_ (blk_below (g:=gb497) (o:=.cells #[.int .u8 t492,.bool t493,.string t494,.int .i64 t495,.int .i64 t496] 29 (0,0)) (by (with_reducible repeat first|apply bN_|apply bD_|apply bA_);refine blk_put (cs:=#[.int .u8 t492,.bool t493,.string t494,.int .i64 t495,.int .i64 0]) ?_ 4 _ rfl;(with_reducible repeat first|apply bN_|apply bD_|apply bA_);refine blk_put (cs:=#[.int .u8 t492,.bool t493,.string t494,.int .i64 0,.int .i64 0]) ?_ 3 _ rfl;(with_reducible repeat first|apply bN_|apply bD_|apply bA_);refine blk_put (cs:=#[.int .u8 t492,.bool t493,.string ⟨#[]⟩,.int .i64 0,.int .i64 0]) ?_ 2 _ rfl;(with_reducible repeat first|apply bN_|apply bD_|apply bA_);refine blk_put (cs:=#[.int .u8 t492,.bool false,.string ⟨#[]⟩,.int .i64 0,.int .i64 0]) ?_ 1 _ rfl;(with_reducible repeat first|apply bN_|apply bD_|apply bA_);refine blk_put (cs:=#[.int .u8 0,.bool false,.string ⟨#[]⟩,.int .i64 0,.int .i64 0]) ?_ 0 _ rfl;(with_reducible repeat first|apply bN_|apply bD_|apply bA_);exact BK497.out) hb);have n1_:=M_ (below_step qnc56_ hb);clear BK497;clear HB;have BK497:=n0_;have HB:=n1_;clear n0_ n1_;(try clear hb))|(clear tk52;(with_reducible refine gate_dst (N:=8) rfl ?_);refine box_event ?hg (N:=8) ?hd (cs:=#[.int .u8 0,.bool false,.string ⟨#[]⟩,.int .i64 0,.int .i64 0]) (t:=29) ?hr ?_;(case hd => rfl);(case hg => rfl);(case hr => first|(go_simp;done)|(go_simp;rfl));intro gb503 hg w45 hbox hb;have n0_:=M_ (blk_below (g:=gb497) (o:=.cells #[.int .u8 t492,.bool t493,.string t494,.int .i64 t495,.int .i64 t496] 29 (0,0)) qnc65_ hb);have n1_:=M_ (below_step qnc56_ hb);have n2_:=M_ (hbox);have n3_:=M_ ((by rw [hg];exact (below_size qnc56_):w.heap.size≤gb503));have n4_:=n3_;have n5_:=M_ ((by rw [hg];exact Nat.ne_of_lt (blk_lt (g:=gb497) (o:=.cells #[.int .u8 t492,.bool t493,.string t494,.int .i64 t495,.int .i64 t496] 29 (0,0)) qnc65_):gb497 ≠ gb503));have n6_:=M_ ((by rw [hg];exact Nat.ne_of_gt (blk_lt (g:=gb497) (o:=.cells #[.int .u8 t492,.bool t493,.string t494,.int .i64 t495,.int .i64 t496] 29 (0,0)) qnc65_):gb503 ≠ gb497));clear BK497;clear HB;have BK497:=n0_;have HB:=n1_;have BK503:=n2_;have GW503:=n3_;have GE503:=n4_;have NB497_503:=n5_;have NB503_497:=n6_;clear n0_ n1_ n2_ n3_ n4_ n5_ n6_;clear hb hbox hg;have hnb46:=NB503_497.out;have hnc46:=NB497_503.out;have hcz47_0:=bc_ (.int .u8 0) BK503.out 0 rfl;have hcz47_1:=bc_ (.bool false) BK503.out 1 rfl;have hcz47_2:=bc_ (.string ⟨#[]⟩) BK503.out 2 rfl;have hcz47_3:=bc_ (.int .i64 0) BK503.out 3 rfl;have hcz47_4:=bc_ (.int .i64 0) BK503.out 4 rfl;have hfz47_0:=bf_ BK503.out 0;have hfz47_1:=bf_ BK503.out 1;have hfz47_2:=bf_ BK503.out 2;have hfz47_3:=bf_ BK503.out 3;have hfz47_4:=bf_ BK503.out 4;have hcz48_0:=bc_ (.int .u8 t492) BK497.out 0 rfl;have hcz48_1:=bc_ (.bool t493) BK497.out 1 rfl;have hcz48_2:=bc_ (.string t494) BK497.out 2 rfl;have hcz48_3:=bc_ (.int .i64 t495) BK497.out 3 rfl;have hcz48_4:=bc_ (.int .i64 t496) BK497.out 4 rfl;have hfz48_0:=bf_ BK497.out 0;have hfz48_1:=bf_ BK497.out 1;have hfz48_2:=bf_ BK497.out 2;have hfz48_3:=bf_ BK497.out 3;have hfz48_4:=bf_ BK497.out 4)|(clear tk53;(with_reducible refine gate_callee (f:=58) rfl ?_);refine goesL_ (some 37) rfl rfl Tryd.func58 (by kernel_rfl) rfl #[.int .i64 (wrap64 (t492)),.int .i64 (wrap64 (t498))] rfl qnc0_ ?_;(with_reducible refine (r_ints.calls (wrap64 (t492)) (wrap64 (t498)) t504 _ A40.out).mono ?_);rintro e w' ⟨rfl,⟨nd,rfl⟩⟩;refine ⟨_,rfl,?_⟩))
      go_ret;exact ⟨qnc5_,qnc44_⟩
    ·rw [if_neg c16] at H;have c16b0:(a0 == 32)=false:=bF_ c16;have c16b1:(a0 != 32)=true:=bne_iff_ne.mpr c16
     by_cases c54:a0=128
     ·rw [if_pos c54] at H;have c54b0:(a0 == 128)=true:=beq_iff_eq.mpr c54;have c54b1:(a0 != 128)=false:=nF_ c54;clear c54;obtain ⟨t514,A55,H⟩:=ob_ H;obtain ⟨t515,A56,H⟩:=ob_ H;obtain ⟨t516,A57,H⟩:=ob_ H;obtain rfl:=Option.some.inj H;have tk58:=trivial;have tk59:=trivial;have tk60:=trivial
      go_wp2_with (first|(clear tk58;(with_reducible refine gate_callee (f:=24) rfl ?_);refine goesL_ (some 46) rfl rfl Tryd.func24 (by kernel_rfl) rfl #[.string a1] rfl qnc0_ ?_;(with_reducible refine (r_Month.calls kj3 a1 t514 _ A55.out).mono ?_);rintro e w' ⟨rfl,⟨nd,rfl⟩⟩;refine ⟨_,rfl,?_⟩)|(clear tk59;(with_reducible refine gate_callee (f:=24) rfl ?_);refine goesL_ (some 48) rfl rfl Tryd.func24 (by kernel_rfl) rfl #[.string a2] rfl qnc0_ ?_;(with_reducible refine (r_Month.calls kj3 a2 t515 _ A56.out).mono ?_);rintro e w' ⟨rfl,⟨nd,rfl⟩⟩;refine ⟨_,rfl,?_⟩)|(clear tk60;(with_reducible refine gate_callee (f:=58) rfl ?_);refine goesL_ (some 49) rfl rfl Tryd.func58 (by kernel_rfl) rfl #[.int .i64 t514,.int .i64 t515] rfl qnc0_ ?_;(with_reducible refine (r_ints.calls t514 t515 t516 _ A57.out).mono ?_);rintro e w' ⟨rfl,⟨nd,rfl⟩⟩;refine ⟨_,rfl,?_⟩))
      go_ret;exact ⟨qnc5_,qnc2_⟩
     ·rw [if_neg c54] at H;have c54b0:(a0 == 128)=false:=bF_ c54;have c54b1:(a0 != 128)=true:=bne_iff_ne.mpr c54
      by_cases c61:a0=256
      ·rw [if_pos c61] at H;have c61b0:(a0 == 256)=true:=beq_iff_eq.mpr c61;have c61b1:(a0 != 256)=false:=nF_ c61;clear c61;obtain ⟨t517,A62,H⟩:=ob_ H;obtain rfl:=Option.some.inj H
       go_wp2_with (first|((with_reducible refine gate_callee (f:=60) rfl ?_);refine goesL_ (some 54) rfl rfl Tryd.func60 (by kernel_rfl) rfl #[.string a1,.string a2] rfl qnc0_ ?_;(with_reducible refine (r_Versions.calls kj3 a1 a2 t517 _ A62.out).mono ?_);rintro e w63 ⟨rfl,hb⟩;refine ⟨_,rfl,?_⟩;have n0_:=M_ (below_step qnc2_ hb);clear HB;have HB:=n0_;clear n0_;(try clear hb)))
       go_ret;exact ⟨qnc5_,qnc2_⟩
      ·rw [if_neg c61] at H;have c61b0:(a0 == 256)=false:=bF_ c61;have c61b1:(a0 != 256)=true:=bne_iff_ne.mpr c61;obtain ⟨t518,A64,H⟩:=ob_ H;obtain rfl:=Option.some.inj H
       go_wp2_with (first|((with_reducible refine gate_callee (f:=31) rfl ?_);refine goesL_ (some 57) rfl rfl Tryd.func31 (by kernel_rfl) rfl #[.string a1,.string a2] rfl qnc0_ ?_;(with_reducible refine (r_Bytes.calls kj3 a1 a2 t518 _ A64.out).mono ?_);rintro e w' ⟨rfl,⟨nd,rfl⟩⟩;refine ⟨_,rfl,?_⟩))
       go_ret;exact ⟨qnc5_,qnc2_⟩

set_option maxHeartbeats 8000000
set_option maxRecDepth 100000

def w_NumeralCompares.f (k:Nat) (a0:Int) (a1:ByteArray) (a2:ByteArray):Option (Bool):=(n_Compare.f k a0 a1 a2).bind fun t519 => ((r_Compare.f k (wrap64 (a0)) a1 a2).bind fun t520 => (if t519=t520 then ((w_alive.f k).bind fun t521 => (some t521)) else (some false)))
theorem w_NumeralCompares.calls (k : Nat) (a0 : Int) (a1 : ByteArray) (a2 : ByteArray) (r : Bool) (w : World) (hGL : GOK w) (h : w_NumeralCompares.f k a0 a1 a2 = some r) :
  Calls Tryd.prog 6 #[.int .u16 a0,.string a1,.string a2] w fun e w' => e=.returned (.bool r)∧Below w.heap.size w w':=by
 have HGL:=M_ hGL;clear hGL;have HB:=M_ (Below.refl w.heap.size w);have H:((n_Compare.f k a0 a1 a2).bind fun t519 => ((r_Compare.f k (wrap64 (a0)) a1 a2).bind fun t520 => (if t519=t520 then ((w_alive.f k).bind fun t521 => (some t521)) else (some false))))=some r:=h;clear h;obtain ⟨t519,A4,H⟩:=ob_ H;obtain ⟨t520,A5,H⟩:=ob_ H
 by_cases c6:t519=t520
 ·rw [if_pos c6] at H;have c6b0:(t519 == t520)=true:=beq_iff_eq.mpr c6;have c6b1:(t519 != t520)=false:=nF_ c6;clear c6;obtain ⟨t521,A7,H⟩:=ob_ H;obtain rfl:=Option.some.inj H
  go_enter Tryd.func6,Tryd.ntmps6
  have tk11:=trivial;have tk12:=trivial;have tk13:=trivial
  go_wp2_with (first|(clear tk11;(with_reducible refine gate_callee (f:=27) rfl ?_);refine goesL_ (some 10) rfl rfl Tryd.func27 (by kernel_rfl) rfl #[.int .u16 a0,.string a1,.string a2] rfl qnc0_ ?_;(with_reducible refine (n_Compare.calls k a0 a1 a2 t519 _ ?side1 A4.out).mono ?_);(case side1 => exact GOK.below HGL.out qnc2_);rintro e w8 ⟨rfl,hb⟩;refine ⟨_,rfl,?_⟩;have n0_:=M_ (below_step qnc2_ hb);clear HB;have HB:=n0_;clear n0_;(try clear hb))|(clear tk12;(with_reducible refine gate_callee (f:=28) rfl ?_);refine goesL_ (some 15) rfl rfl Tryd.func28 (by kernel_rfl) rfl #[.int .i64 (wrap64 (a0)),.string a1,.string a2] rfl qnc0_ ?_;(with_reducible refine (r_Compare.calls k (wrap64 (a0)) a1 a2 t520 _ A5.out).mono ?_);rintro e w9 ⟨rfl,hb⟩;refine ⟨_,rfl,?_⟩;have n0_:=M_ (below_step qnc2_ hb);clear HB;have HB:=n0_;clear n0_;(try clear hb))|(clear tk13;go_at_call 25;(with_reducible refine (w_alive.calls k  t521 _ ?side1 A7.out).mono ?_);(case side1 => exact GOK.below HGL.out qnc2_);rintro e w10 ⟨rfl,hb⟩;have n0_:=M_ (below_step qnc2_ hb);clear HB;have HB:=n0_;clear n0_;(try clear hb)))
  go_ret;exact ⟨qnc5_,qnc2_⟩
 ·rw [if_neg c6] at H;have c6b0:(t519 == t520)=false:=bF_ c6;have c6b1:(t519 != t520)=true:=bne_iff_ne.mpr c6;obtain rfl:=Option.some.inj H
  go_enter Tryd.func6,Tryd.ntmps6
  have tk16:=trivial;have tk17:=trivial
  go_wp2_with (first|(clear tk16;(with_reducible refine gate_callee (f:=27) rfl ?_);refine goesL_ (some 10) rfl rfl Tryd.func27 (by kernel_rfl) rfl #[.int .u16 a0,.string a1,.string a2] rfl qnc0_ ?_;(with_reducible refine (n_Compare.calls k a0 a1 a2 t519 _ ?side1 A4.out).mono ?_);(case side1 => exact GOK.below HGL.out qnc2_);rintro e w14 ⟨rfl,hb⟩;refine ⟨_,rfl,?_⟩;have n0_:=M_ (below_step qnc2_ hb);clear HB;have HB:=n0_;clear n0_;(try clear hb))|(clear tk17;(with_reducible refine gate_callee (f:=28) rfl ?_);refine goesL_ (some 15) rfl rfl Tryd.func28 (by kernel_rfl) rfl #[.int .i64 (wrap64 (a0)),.string a1,.string a2] rfl qnc0_ ?_;(with_reducible refine (r_Compare.calls k (wrap64 (a0)) a1 a2 t520 _ A5.out).mono ?_);rintro e w15 ⟨rfl,hb⟩;refine ⟨_,rfl,?_⟩;have n0_:=M_ (below_step qnc2_ hb);clear HB;have HB:=n0_;clear n0_;(try clear hb)))
  go_ret;exact ⟨qnc5_,qnc2_⟩

def w_NumeralCompares.Pure:Prop:=∀ (a0:Int) (a1:ByteArray) (a2:ByteArray),(Lit.int .u16 a0).wf=true→a1.size≤140737488351232→a2.size≤140737488351232→∃ k,w_NumeralCompares.f k a0 a1 a2=some true
end Go.Proofs.YtcdajedmlfhmeaaDoor.XN

section
/- What the pure laws stand on: 'enough rounds', bytes as a list, places. (by this session) -/
set_option linter.unusedVariables false
set_option linter.unusedSimpArgs false
namespace Go.Proofs.YtcdajedmlfhmeaaDoor.XN
open Go.RowKit Go.Proofs.YtcdajedmlfhmeaaDoorW.PrintWords Go.Proofs.YtcdajedmlfhmeaaDoorW.PrintMore

def Ev {α:Type} (f:Nat→Option α) (v:α):Prop:=∃ k0,∀ k,k0≤k→f k=some v
namespace Ev
variable {α β : Type}
theorem pure (v : α) : Ev (fun _ => some v) v := ⟨0, fun _ _ => rfl⟩
theorem done {v w : α} (h : v = w) : Ev (fun _ => some v) w := ⟨0, fun _ _ => by rw [h]⟩
theorem congr {f g : Nat → Option α} {v : α} (h : ∀ k, f k = g k) (hg : Ev g v) : Ev f v := by
  obtain ⟨k0,hk⟩:=hg
  exact ⟨k0,fun k h0 => by rw [h,hk k h0]⟩
theorem val {f : Nat → Option α} {v w : α} (h : Ev f v) (e : v = w) : Ev f w := e ▸ h
theorem bind {f : Nat → Option α} {g : Nat → α → Option β} {a : α} {v : β} (h : Ev f a) (h2 : Ev (fun k => g k a) v) : Ev (fun k => (f k).bind (g k)) v := by
  obtain ⟨k1,e1⟩:=h
  obtain ⟨k2,e2⟩:=h2
  refine ⟨max k1 k2,fun k hk => ?_⟩
  show (f k).bind (g k)=some v
  rw [e1 k (by omega)]
  exact e2 k (by omega)
theorem succ {f : Nat → Option α} {v : α} (h : Ev (fun k => f (k + 1)) v) : Ev f v := by
  obtain ⟨k0,e⟩:=h
  refine ⟨k0+1,fun k hk => ?_⟩
  obtain ⟨k',rfl⟩ : ∃ k',k=k' + 1:=⟨k - 1,by omega⟩
  exact e k' (by omega)
theorem pos {c : Prop} [Decidable c] {f g : Nat → Option α} {v : α} (hc : c) (h : Ev f v) : Ev (fun k => if c then f k else g k) v := by
  simpa only [if_pos hc] using h
theorem neg {c : Prop} [Decidable c] {f g : Nat → Option α} {v : α} (hc : ¬ c) (h : Ev g v) : Ev (fun k => if c then f k else g k) v := by
  simpa only [if_neg hc] using h
theorem ite {c : Prop} [Decidable c] {f g : Nat → Option α} {v : α} (h1 : c → Ev f v) (h2 : ¬ c → Ev g v) : Ev (fun k => if c then f k else g k) v := by
  by_cases hc:c
  · exact pos hc (h1 hc)
  · exact neg hc (h2 hc)
theorem ex {f : Nat → Option α} {v : α} (h : Ev f v) : ∃ k, f k = some v := by
  obtain ⟨k0,e⟩:=h
  exact ⟨k0,e k0 (Nat.le_refl _)⟩
theorem of_ex {f : Nat → Option α} {v : α} (h : ∃ k, f k = some v) (hm : ∀ k, LeO (f k) (f (k + 1))) : Ev f v := by
  obtain ⟨k0,e⟩:=h
  refine ⟨k0,fun k hk => ?_⟩
  induction hk with
  | refl => exact e
  | step _ ih => exact hm _ _ ih
end Ev

def L (s:ByteArray):List UInt8:=s.data.toList
def mkB (l:List UInt8):ByteArray:=⟨l.toArray⟩
theorem L_mk (l : List UInt8) : L (mkB l) = l := rfl
theorem mk_L (s : ByteArray) : mkB (L s) = s := by cases s; rfl
theorem L_len (s : ByteArray) : (L s).length = s.size := Array.length_toList
theorem size_mk (l : List UInt8) : (mkB l).size = l.length := by simp [mkB, ByteArray.size]
theorem toList_L (s : ByteArray) : s.toList = L s := ByteArray.toList_eq s
theorem toList_mk (l : List UInt8) : (mkB l).toList = l := by rw [toList_L, L_mk]
theorem L_inj {s t : ByteArray} (h : L s = L t) : s = t := by rw [← mk_L s, h, mk_L]
theorem L_extract (s : ByteArray) (a b : Nat) : L (s.extract a b) = ((L s).drop a).take (b - a) := Lib.extract_data s a b
theorem extract_mk' (s : ByteArray) (a b : Nat) : s.extract a b = mkB (((L s).drop a).take (b - a)) := L_inj (by rw [L_extract, L_mk])
theorem extract_end (s : ByteArray) (a : Nat) : s.extract a s.size = mkB ((L s).drop a) := by
  rw [extract_mk',List.take_of_length_le]
  rw [List.length_drop,L_len]
  omega
theorem extract_front (s : ByteArray) (b : Nat) : s.extract 0 b = mkB ((L s).take b) := by rw [extract_mk']; rfl
theorem L_append (s t : ByteArray) : L (s ++ t) = L s ++ L t := by
  unfold L
  rw [ByteArray.data_append,Array.toList_append]
theorem mk_append (l m : List UInt8) : mkB l ++ mkB m = mkB (l ++ m) := L_inj (by rw [L_append, L_mk, L_mk, L_mk])
theorem bt_nat (s : ByteArray) (i : Nat) (h : i < (L s).length) : bt s (i : Int) = ((L s)[i].toNat : Int) := by
  have h' : i < s.size:=by rwa [L_len] at h
  unfold bt
  have e:((i:Int)).toNat=i:=by omega
  simp only [e,h',dite_true]
  rfl
theorem drop_nil {s : ByteArray} {i : Nat} (h : (L s).drop i = []) : s.size ≤ i := by
  rw [← L_len];exact List.drop_eq_nil_iff.1 h
theorem drop_cons {s : ByteArray} {i : Nat} {c : UInt8} {r : List UInt8} (h : (L s).drop i = c :: r) : i < s.size ∧ bt s (i : Int) = (c.toNat : Int) ∧ (L s).drop (i + 1) = r := by
  have hl:i < (L s).length:=by
    rcases Nat.lt_or_ge i (L s).length with h' | h'
    · exact h'
    · rw [List.drop_eq_nil_iff.2 h'] at h;cases h
  have e:=List.drop_eq_getElem_cons hl
  rw [h] at e
  injection e with e1 e2
  exact ⟨by rwa [L_len] at hl,by rw [bt_nat s i hl,e1],e2.symm⟩
theorem drop_some {s : ByteArray} {i : Nat} (h : i < s.size) : ∃ c, (L s).drop i = c :: (L s).drop (i + 1) ∧ bt s (i : Int) = (c.toNat : Int) := by
  have hl:i < (L s).length:=by rwa [L_len]
  exact ⟨_,List.drop_eq_getElem_cons hl,bt_nat s i hl⟩

theorem w64 {x : Int} (h : -9223372036854775808 ≤ x ∧ x ≤ 9223372036854775807) : wrap64 x = x := by unfold wrap64; omega
theorem w64_nat {x : Int} {n : Nat} (e : x = (n : Int)) (h : n ≤ 9223372036854775807) : wrap64 x = (n : Int) := by rw [e]; exact w64 (by omega)
theorem w64_succ {i : Nat} (h : i < 9223372036854775807) : wrap64 ((i : Int) + 1) = ((i + 1 : Nat) : Int) := w64_nat (by omega) (by omega)
theorem u8_lt (c : UInt8) : (c.toNat : Int) < 256 ∧ (0 : Int) ≤ (c.toNat : Int) := by have := c.toNat_lt; omega
theorem u8_eq {c d : UInt8} (h : (c.toNat : Int) = (d.toNat : Int)) : c = d := UInt8.toNat_inj.1 (by omega)
def big:Nat:=4611686018427387904
theorem big_eq : big = 4611686018427387904 := rfl

theorem take_len {p : UInt8 → Bool} (l : List UInt8) : (l.takeWhile p).length ≤ l.length := by
  induction l with
  | nil => simp
  | cons c r ih => simp only [List.takeWhile_cons];split <;> simp <;> omega
theorem take_run {p : UInt8 → Bool} (l : List UInt8) : l.take (l.takeWhile p).length = l.takeWhile p := by
  induction l with
  | nil => rfl
  | cons c r ih =>
    simp only [List.takeWhile_cons]
    split
    · simp [ih]
    · simp
theorem drop_run {p : UInt8 → Bool} (l : List UInt8) : l.drop (l.takeWhile p).length = l.dropWhile p := by
  induction l with
  | nil => rfl
  | cons c r ih =>
    simp only [List.takeWhile_cons,List.dropWhile_cons]
    split
    · simp [ih]
    · simp
theorem scan {β : Type} {s : ByteArray} {p : UInt8 → Bool} {F : Nat → Int → Option β} {v : β} (hs : s.size < big)
    (hstep : ∀ (k i:Nat) (c:UInt8),i < s.size→bt s (i:Int)=(c.toNat:Int)→p c=true→F (k+1) (i:Int)=F k ((i+1:Nat):Int)) :
    ∀ (l:List UInt8) (i:Nat),(L s).drop i=l→Ev (fun k => F k ((i+(l.takeWhile p).length:Nat):Int)) v→Ev (fun k => F k (i:Int)) v
  | [],i,h,hend => by simpa using hend
  | c :: r,i,h,hend => by
    obtain ⟨h1,h2,h3⟩:=drop_cons h
    by_cases hp:p c=true
    · rw [List.takeWhile_cons, if_pos hp] at hend
      refine Ev.succ (Ev.congr (fun k => hstep k i c h1 h2 hp) (scan hs hstep r (i+1) h3 ?_))
      rw [show i+1+(r.takeWhile p).length=i+(c :: r.takeWhile p).length by simp;omega]
      exact hend
    · rw [List.takeWhile_cons, if_neg hp] at hend
      simpa using hend
theorem behind {s : ByteArray} {p : UInt8 → Bool} {i : Nat} (hi : i ≤ s.size) : let j := i + (((L s).drop i).takeWhile p).length; j ≤ s.size ∧ (L s).drop j = ((L s).drop i).dropWhile p := by
  refine ⟨?_,?_⟩
  · have := take_len (p := p) ((L s).drop i)
    rw [List.length_drop,L_len] at this
    omega
  · rw [← List.drop_drop,drop_run]
theorem dropWhile_head {p : UInt8 → Bool} {l r : List UInt8} {c : UInt8} (h : l.dropWhile p = c :: r) : p c = false := by
  induction l with
  | nil => cases h
  | cons d l ih =>
    rw [List.dropWhile_cons] at h
    split at h
    · exact ih h
    · rename_i hd
      injection h with h1 h2
      subst h1
      simpa using hd
end Go.Proofs.YtcdajedmlfhmeaaDoor.XN
end

section
/- What numeral and millref3 compute at the head of a text: blanks, digits, the parts of a number. (by this session) -/
-- NEEDS n_blanks n_plain r_start r_isDigit r_run r_Plain
set_option linter.unusedVariables false
set_option linter.unusedSimpArgs false
namespace Go.Proofs.YtcdajedmlfhmeaaDoor.XN
open Go.RowKit Go.Proofs.YtcdajedmlfhmeaaDoorW.PrintWords Go.Proofs.YtcdajedmlfhmeaaDoorW.PrintMore

theorem stop_at {s : ByteArray} {p : UInt8 → Bool} {i : Nat} (hi : i ≤ s.size) :
    (i+(((L s).drop i).takeWhile p).length=s.size∧((L s).drop i).dropWhile p=[])∨
    (∃ c r,i+(((L s).drop i).takeWhile p).length < s.size∧bt s ((i+(((L s).drop i).takeWhile p).length:Nat):Int)=(c.toNat:Int)∧p c=false∧((L s).drop i).dropWhile p=c :: r∧(L s).drop (i+(((L s).drop i).takeWhile p).length+1)=r):=by
  obtain ⟨h1,h2⟩:=behind (p:=p) hi
  cases h:((L s).drop i).dropWhile p with
  | nil =>
    left
    rw [h] at h2
    have:=drop_nil h2
    exact ⟨by omega,rfl⟩
  | cons c r =>
    right
    rw [h] at h2
    obtain ⟨a,b,d⟩:=drop_cons h2
    exact ⟨c,r,a,b,dropWhile_head h,rfl,d⟩

def isBl (c:UInt8):Bool:=decide ((c.toNat:Int)=32) || decide ((c.toNat:Int)=9)
def isDg (c:UInt8):Bool:=plainDig (c.toNat:Int)
def is0 (c:UInt8):Bool:=decide ((c.toNat:Int)=48)
def blkN (l:List UInt8):Nat:=(l.takeWhile isBl).length

theorem blanks_ev (s : ByteArray) (hs : s.size < big) : Ev (fun k => n_blanks.f k s) (blkN (L s) : Int) := by
  unfold n_blanks.f
  refine scan (p:=isBl) (F:=fun k i => n_blanks.l0 k s i) hs (fun k i c h1 h2 hp => ?_) (L s) 0 rfl ?_
  · simp only [n_blanks.l0, h2, w64_succ (i := i) (by rw [big_eq] at hs; omega)]
    rw [if_pos (by omega),if_pos (by omega)]
    simp only [isBl,Bool.or_eq_true,decide_eq_true_eq] at hp
    split
    · rfl
    · rw [if_pos (by omega)]
  · simp only [Nat.zero_add]
    have hst:=stop_at (s:=s) (p:=isBl) (i:=0) (Nat.zero_le _)
    simp only [Nat.zero_add,List.drop_zero] at hst
    refine Ev.succ ?_
    rcases hst with ⟨h,_⟩|⟨c,r,h1,h2,h3,_⟩
    · simp only [n_blanks.l0]
      exact Ev.neg (by rw [h];omega) (Ev.pure _)
    · simp only [n_blanks.l0, h2]
      simp only [isBl,Bool.or_eq_false_iff,decide_eq_false_iff_not] at h3
      exact Ev.pos (by omega) (Ev.pos (by omega) (Ev.neg h3.1 (Ev.neg h3.2 (Ev.pure _))))
theorem start_ev (s : ByteArray) (hs : s.size < big) : Ev (fun k => r_start.f k s) (blkN (L s) : Int) := by
  unfold r_start.f
  refine scan (p:=isBl) (F:=fun k i => r_start.l0 k s i) hs (fun k i c h1 h2 hp => ?_) (L s) 0 rfl ?_
  · simp only [r_start.l0, h2, w64_succ (i := i) (by rw [big_eq] at hs; omega)]
    rw [if_pos (by omega),if_pos (by omega)]
    simp only [isBl,Bool.or_eq_true,decide_eq_true_eq] at hp
    split
    · rfl
    · rw [if_pos (by omega)]
  · simp only [Nat.zero_add]
    have hst:=stop_at (s:=s) (p:=isBl) (i:=0) (Nat.zero_le _)
    simp only [Nat.zero_add,List.drop_zero] at hst
    refine Ev.succ ?_
    rcases hst with ⟨h,_⟩|⟨c,r,h1,h2,h3,_⟩
    · simp only [r_start.l0]
      exact Ev.neg (by rw [h];omega) (Ev.pure _)
    · simp only [r_start.l0, h2]
      simp only [isBl,Bool.or_eq_false_iff,decide_eq_false_iff_not] at h3
      exact Ev.pos (by omega) (Ev.pos (by omega) (Ev.neg h3.1 (Ev.neg h3.2 (Ev.pure _))))
theorem blkN_le (s : ByteArray) : blkN (L s) ≤ s.size := by
  have:=take_len (p:=isBl) (L s)
  rw [L_len] at this
  exact this
theorem isDigit_f (x : Int) : r_isDigit.f x = some (plainDig x) := by
  unfold r_isDigit.f plainDig
  by_cases h:48≤x <;> simp [h]
theorem run_ev (s : ByteArray) (hs : s.size < big) (i : Nat) (hi : i ≤ s.size) : Ev (fun k => r_run.f k s i) ((i + (((L s).drop i).takeWhile isDg).length : Nat) : Int) := by
  unfold r_run.f
  refine scan (p:=isDg) (F:=fun k i => r_run.l0 k s i) hs (fun k i c h1 h2 hp => ?_) _ i rfl ?_
  · simp only [r_run.l0, h2, w64_succ (i := i) (by rw [big_eq] at hs; omega), isDigit_f, Option.bind_some]
    rw [if_pos (by omega),if_pos (by omega),if_pos (show plainDig (c.toNat:Int)=true from hp)]
  · refine Ev.succ ?_
    rcases stop_at (s:=s) (p:=isDg) hi with ⟨h,_⟩|⟨c,r,h1,h2,h3,_⟩
    · simp only [r_run.l0]
      exact Ev.neg (by rw [h];omega) (Ev.pure _)
    · simp only [r_run.l0, h2, isDigit_f, Option.bind_some]
      exact Ev.pos (by omega) (Ev.pos (by omega) (Ev.neg (by rw [show plainDig (c.toNat:Int)=isDg c from rfl,h3];decide) (Ev.pure _)))
theorem plainEnd_L (s : ByteArray) (i : Nat) (hi : i ≤ s.size) : plainEnd s i = i + (((L s).drop i).takeWhile isDg).length := by
  generalize hl:(L s).drop i=l
  induction l generalizing i with
  | nil =>
    have:=drop_nil hl
    rw [plainEnd_no (by omega)]
    simp
  | cons c r ih =>
    obtain ⟨h1,h2,h3⟩:=drop_cons hl
    by_cases hp:isDg c=true
    · rw [plainEnd_yes h1 (by rw [h2]; exact hp), ih (i + 1) (by omega) h3, List.takeWhile_cons, if_pos hp]
      simp
      omega
    · rw [plainEnd_no (fun h => hp (by have := h.2; rw [h2] at this; exact this)), List.takeWhile_cons, if_neg hp]
      simp

def plS (l:List UInt8):List UInt8 × List UInt8 × Nat:=
  match l.dropWhile isDg with
  | [] => (l.takeWhile isDg, [], (l.takeWhile isDg).length)
  | c :: r => if (c.toNat : Int) = 46 then (l.takeWhile isDg, r.takeWhile isDg, (l.takeWhile isDg).length + 1 + (r.takeWhile isDg).length) else (l.takeWhile isDg, [], (l.takeWhile isDg).length)
theorem plS_len (l : List UInt8) : (plS l).2.2 ≤ l.length := by
  unfold plS
  have h1:=List.takeWhile_append_dropWhile (p:=isDg) (l:=l)
  have h2:=congrArg List.length h1
  rw [List.length_append] at h2
  split
  · simp only;omega
  · rename_i c r h
    rw [h] at h2
    have:=take_len (p:=isDg) r
    simp at h2
    split <;> simp only <;> omega
def noneAt (l:List UInt8):Bool:=(plS l).1.isEmpty && (plS l).2.1.isEmpty
theorem nil_iff (l : List UInt8) : l = [] ↔ l.isEmpty = true := by cases l <;> simp
theorem plainF_S (s : ByteArray) (i : Nat) (hi : i ≤ s.size) : plainF s i = if noneAt ((L s).drop i) = true then (false, ⟨#[]⟩, ⟨#[]⟩, 0) else (false, mkB (plS ((L s).drop i)).1, mkB (plS ((L s).drop i)).2.1, ((i + (plS ((L s).drop i)).2.2 : Nat) : Int)) := by
  have he:=plainEnd_L s i hi
  have hst:=stop_at (s:=s) (p:=isDg) hi
  generalize hl:(L s).drop i=l at *
  have hx:s.extract i (plainEnd s i)=mkB (l.takeWhile isDg):=by
    rw [extract_mk',he,hl,Nat.add_sub_cancel_left,take_run]
  unfold plainF
  rw [hx]
  rw [he]
  unfold noneAt plS
  rcases hst with ⟨h,h'⟩|⟨c,r,h1,h2,h3,h4,h5⟩
  · rw [if_neg (by omega)]
    rw [h']
    simp only [toList_mk,nil_iff,List.isEmpty_nil,Bool.and_true]
    rfl
  · rw [h2, h4]
    simp only []
    by_cases h46:(c.toNat:Int)=46
    · rw [if_pos ⟨h1, h46⟩, if_pos h46]
      have hj:i+(l.takeWhile isDg).length+1≤s.size:=by omega
      have he2:=plainEnd_L s _ hj
      rw [h5] at he2
      have hx2:s.extract (i+(l.takeWhile isDg).length+1) (plainEnd s (i+(l.takeWhile isDg).length+1))=mkB (r.takeWhile isDg):=by
        rw [extract_mk',he2,h5,Nat.add_sub_cancel_left,take_run]
      rw [hx2,he2]
      simp only [toList_mk,nil_iff,Bool.and_eq_true]
      rw [show i+(l.takeWhile isDg).length+1+(r.takeWhile isDg).length=i+((l.takeWhile isDg).length+1+(r.takeWhile isDg).length) by omega]
    · rw [if_neg (fun h => h46 h.2), if_neg h46]
      simp only [toList_mk,nil_iff,List.isEmpty_nil,Bool.and_true]
      rfl
theorem plain_f (s : ByteArray) (hs : s.size < big) (i : Nat) (hi : i ≤ s.size) : n_plain.f s (i : Int) = some (if noneAt ((L s).drop i) = true then (false, ⟨#[]⟩, ⟨#[]⟩, 0) else (false, mkB (plS ((L s).drop i)).1, mkB (plS ((L s).drop i)).2.1, ((i + (plS ((L s).drop i)).2.2 : Nat) : Int))) := by
  unfold n_plain.f
  rw [if_pos ⟨by omega,by omega,by rw [big_eq] at hs;omega⟩,Int.toNat_natCast,plainF_S s i hi]
theorem Plain_ev (s : ByteArray) (hs : s.size < big) (i : Nat) (hi : i ≤ s.size) : Ev (fun k => r_Plain.f k s (i : Int))
    (if noneAt ((L s).drop i)=true then (⟨#[]⟩,0,-1) else (mkB ((plS ((L s).drop i)).1++(plS ((L s).drop i)).2.1),((plS ((L s).drop i)).1.length:Int),((i+(plS ((L s).drop i)).2.2:Nat):Int))):=by
  have hst:=stop_at (s:=s) (p:=isDg) hi
  have hr:=run_ev s hs i hi
  generalize hl:(L s).drop i=l at *
  have hle:i+(l.takeWhile isDg).length≤s.size:=by rcases hst with ⟨h,_⟩|⟨c,r,h,_⟩ <;> omega
  unfold r_Plain.f
  refine Ev.bind hr ?_
  have hx:s.extract i (i+(l.takeWhile isDg).length)=mkB (l.takeWhile isDg):=by
    rw [extract_mk',hl,Nat.add_sub_cancel_left,take_run]
  rw [big_eq] at hs
  refine Ev.pos (by omega) (Ev.pos (by omega) (Ev.pos (by omega) ?_))
  simp only [Int.toNat_natCast,hx]
  unfold noneAt plS
  have hw:i+(l.takeWhile isDg).length - i=(l.takeWhile isDg).length:=by omega
  rcases hst with ⟨h,h'⟩|⟨c,r,h1,h2,h3,h4,h5⟩
  · refine Ev.neg (by omega) ?_
    rw [h']
    simp only [toList_mk,nil_iff,List.isEmpty_nil,Bool.and_true,hw,List.append_nil]
    refine Ev.ite (fun h => ?_) (fun h => ?_)
    · rw [if_pos h];exact Ev.pure _
    · rw [if_neg h];exact Ev.pure _
  · refine Ev.pos (by omega) (Ev.pos (by omega) ?_)
    rw [h4]
    simp only [h2]
    by_cases h46:(c.toNat:Int)=46
    · refine Ev.pos h46 ?_
      have hj:i+(l.takeWhile isDg).length+1≤s.size:=by omega
      have hr2:=run_ev s (by rw [big_eq];omega) _ hj
      rw [h5] at hr2
      have hw2:wrap64 (((i+(l.takeWhile isDg).length:Nat):Int)+1)=((i+(l.takeWhile isDg).length+1:Nat):Int):=w64_nat (by omega) (by omega)
      simp only [hw2]
      refine Ev.bind hr2 ?_
      have hle2:i+(l.takeWhile isDg).length+1+(r.takeWhile isDg).length≤s.size:=by
        have:=take_len (p:=isDg) r
        have h6:=congrArg List.length h5
        rw [List.length_drop,L_len] at h6
        omega
      have hx2:s.extract (i+(l.takeWhile isDg).length+1) (i+(l.takeWhile isDg).length+1+(r.takeWhile isDg).length)=mkB (r.takeWhile isDg):=by
        rw [extract_mk',h5,Nat.add_sub_cancel_left,take_run]
      refine Ev.pos (by omega) (Ev.pos (by omega) (Ev.pos (by omega) ?_))
      simp only [Int.toNat_natCast,hx2,mk_append,toList_mk,nil_iff]
      refine Ev.pos (by omega) ?_
      rw [if_pos h46]
      simp only [Bool.and_eq_true,hw]
      have hap:(l.takeWhile isDg++r.takeWhile isDg).isEmpty=true↔(l.takeWhile isDg).isEmpty=true∧(r.takeWhile isDg).isEmpty=true:=by
        simp [List.isEmpty_iff]
      refine Ev.ite (fun h => ?_) (fun h => ?_)
      · rw [if_pos (hap.1 h)];exact Ev.pure _
      · rw [if_neg (fun h' => h (hap.2 h'))]
        refine Ev.done ?_
        rw [show i+(l.takeWhile isDg).length+1+(r.takeWhile isDg).length=i+((l.takeWhile isDg).length+1+(r.takeWhile isDg).length) by omega]
    · refine Ev.neg h46 ?_
      rw [if_neg h46]
      simp only [toList_mk,nil_iff,List.isEmpty_nil,Bool.and_true,hw,List.append_nil]
      refine Ev.ite (fun h => ?_) (fun h => ?_)
      · rw [if_pos h];exact Ev.pure _
      · rw [if_neg h];exact Ev.pure _
end Go.Proofs.YtcdajedmlfhmeaaDoor.XN
end

section
/- Decimal and Human: both sides compute the same. (by this session) -/
-- NEEDS strings_TrimLeft strings_TrimRight n_decimal n_signed n_Decimal strings_IndexByte n_Human r_zeros r_trimmed r_signed r_Decimal r_letter r_Human
set_option linter.unusedVariables false
set_option linter.unusedSimpArgs false
namespace Go.Proofs.YtcdajedmlfhmeaaDoor.XN
open Go.RowKit Go.Proofs.YtcdajedmlfhmeaaDoorW.PrintWords Go.Proofs.YtcdajedmlfhmeaaDoorW.PrintMore

def tl (l:List UInt8):List UInt8:=l.dropWhile is0
def tr (l:List UInt8):List UInt8:=(l.reverse.dropWhile is0).reverse
theorem bt_mk0 (c : UInt8) (r : List UInt8) : bt (mkB (c :: r)) 0 = (c.toNat : Int) := rfl
theorem is0_iff (c : UInt8) : is0 c = true ↔ (c.toNat : Int) = 48 := by simp [is0]
theorem is0_false {c : UInt8} (h : is0 c = false) : ¬ (c.toNat : Int) = 48 := by simpa [is0] using h
theorem tl_len (l : List UInt8) : (tl l).length ≤ l.length := by
  unfold tl
  have h1:=List.takeWhile_append_dropWhile (p:=is0) (l:=l)
  have h2:=congrArg List.length h1
  rw [List.length_append] at h2
  omega
theorem tr_len (l : List UInt8) : (tr l).length ≤ l.length := by
  have:=tl_len l.reverse
  unfold tl at this
  unfold tr
  rw [List.length_reverse] at *
  exact this

theorem trimLeftByte_ev : ∀ (l : List UInt8), l.length < big → Ev (fun k => strings_trimLeftByte.l0 k (mkB l) 48) (mkB (tl l))
  | [],_ => by
    refine Ev.succ ?_
    simp only [strings_trimLeftByte.l0,size_mk]
    exact Ev.neg (by simp) (Ev.pure _)
  | c :: r,h => by
    simp only [List.length_cons] at h
    rw [big_eq] at h
    refine Ev.succ ?_
    simp only [strings_trimLeftByte.l0,size_mk,bt_mk0,List.length_cons]
    refine Ev.pos (by omega) (Ev.pos (by omega) ?_)
    have hx:(mkB (c :: r)).extract 1 (r.length+1)=mkB r:=by rw [extract_mk',L_mk];simp
    unfold tl
    by_cases hc:is0 c=true
    · rw [List.dropWhile_cons, if_pos hc]
      refine Ev.pos ((is0_iff c).1 hc) (Ev.pos (by omega) ?_)
      simp only [hx]
      exact trimLeftByte_ev r (by rw [big_eq];omega)
    · rw [List.dropWhile_cons, if_neg hc]
      exact Ev.neg (fun h => hc ((is0_iff c).2 h)) (Ev.pure _)
theorem last_rev (c : UInt8) (r : List UInt8) (n : Int) (hn : n = (r.length : Int)) : bt (mkB (c :: r).reverse) n = (c.toNat : Int) := by
  subst hn
  rw [bt_nat _ _ (by rw [L_mk];simp)]
  simp [L_mk,List.getElem_append_right]
theorem trimRightByte_ev : ∀ (r : List UInt8), r.length < big → Ev (fun k => strings_trimRightByte.l0 k (mkB r.reverse) 48) (mkB (r.dropWhile is0).reverse)
  | [],_ => by
    refine Ev.succ ?_
    simp only [strings_trimRightByte.l0,size_mk]
    exact Ev.neg (by simp) (Ev.pure _)
  | c :: r,h => by
    simp only [List.length_cons] at h
    rw [big_eq] at h
    have hw:wrap64 ((((c :: r).reverse.length:Nat):Int) - 1)=(r.length:Int):=w64_nat (by simp) (by omega)
    refine Ev.succ ?_
    simp only [strings_trimRightByte.l0,size_mk,hw,last_rev c r _ rfl]
    have hl:(c :: r).reverse.length=r.length+1:=by simp
    rw [hl]
    refine Ev.pos (by omega) (Ev.pos (by omega) (Ev.pos (by omega) ?_))
    have hx:(mkB (c :: r).reverse).extract 0 ((r.length:Int)).toNat=mkB r.reverse:=by
      rw [extract_front,L_mk,Int.toNat_natCast]
      congr 1
      rw [List.reverse_cons,List.take_append_of_le_length (by simp),List.take_of_length_le (by simp)]
    by_cases hc:is0 c=true
    · rw [List.dropWhile_cons, if_pos hc]
      refine Ev.pos ((is0_iff c).1 hc) (Ev.pos (by omega) ?_)
      simp only [hx]
      exact trimRightByte_ev r (by rw [big_eq];omega)
    · rw [List.dropWhile_cons, if_neg hc]
      exact Ev.neg (fun h => hc ((is0_iff c).2 h)) (Ev.pure _)
theorem TrimLeft_ev (l : List UInt8) (h : l.length < big) : Ev (fun k => strings_TrimLeft.f k (mkB l) (⟨#[48]⟩ : ByteArray)) (mkB (tl l)) := by
  unfold strings_TrimLeft.f
  simp only [toList_mk]
  refine Ev.ite (fun h0 => ?_) (fun h0 => ?_)
  · subst h0
    refine Ev.succ ?_
    simp only [strings_TrimLeft.j0]
    exact Ev.pos trivial (Ev.pure _)
  · refine Ev.succ ?_
    simp only [strings_TrimLeft.j0]
    refine Ev.neg (by rw [toList_L];decide) (Ev.pos (by rfl) (Ev.pos (by decide) ?_))
    refine Ev.succ ?_
    simp only [strings_TrimLeft.j1]
    refine Ev.pos (by decide) (Ev.pos (by decide) ?_)
    exact Ev.bind (trimLeftByte_ev l h) (Ev.pure _)
theorem TrimRight_ev (l : List UInt8) (h : l.length < big) : Ev (fun k => strings_TrimRight.f k (mkB l) (⟨#[48]⟩ : ByteArray)) (mkB (tr l)) := by
  unfold strings_TrimRight.f
  simp only [toList_mk]
  have key:=trimRightByte_ev l.reverse (by simpa using h)
  rw [List.reverse_reverse] at key
  refine Ev.ite (fun h0 => ?_) (fun h0 => ?_)
  · subst h0
    refine Ev.succ ?_
    simp only [strings_TrimRight.j0]
    exact Ev.pos trivial (Ev.pure _)
  · refine Ev.succ ?_
    simp only [strings_TrimRight.j0]
    refine Ev.neg (by rw [toList_L];decide) (Ev.pos (by rfl) (Ev.pos (by decide) ?_))
    refine Ev.succ ?_
    simp only [strings_TrimRight.j1]
    refine Ev.pos (by decide) (Ev.pos (by decide) ?_)
    exact Ev.bind key (Ev.pure _)

theorem zeros_ev (s : ByteArray) (hs : s.size < big) : Ev (fun k => r_zeros.f k s) ((((L s).takeWhile is0).length : Nat) : Int) := by
  unfold r_zeros.f
  refine scan (p:=is0) (F:=fun k i => r_zeros.l0 k s i) hs (fun k i c h1 h2 hp => ?_) (L s) 0 rfl ?_
  · simp only [r_zeros.l0, h2, w64_succ (i := i) (by rw [big_eq] at hs; omega)]
    rw [if_pos (by omega),if_pos (by omega),if_pos ((is0_iff c).1 hp)]
  · simp only [Nat.zero_add]
    have hst:=stop_at (s:=s) (p:=is0) (i:=0) (Nat.zero_le _)
    simp only [Nat.zero_add,List.drop_zero] at hst
    refine Ev.succ ?_
    rcases hst with ⟨h,_⟩|⟨c,r,h1,h2,h3,_⟩
    · simp only [r_zeros.l0]
      exact Ev.neg (by rw [h];omega) (Ev.pure _)
    · simp only [r_zeros.l0, h2]
      exact Ev.pos (by omega) (Ev.pos (by omega) (Ev.neg (is0_false h3) (Ev.pure _)))
theorem trimmed_l0 (s : ByteArray) (hs : s.size < big) : ∀ n : Nat, n ≤ s.size → Ev (fun k => r_trimmed.l0 k s (n : Int)) (mkB (tr ((L s).take n)))
  | 0,_ => by
    refine Ev.succ ?_
    simp only [r_trimmed.l0]
    refine Ev.neg (by decide) (Ev.pos (by decide) (Ev.pos (by omega) (Ev.done ?_)))
    simp [extract_front,tr]
    rfl
  | n+1,h => by
    rw [big_eq] at hs
    have hw:wrap64 (((n+1:Nat):Int) - 1)=(n:Int):=w64_nat (by omega) (by omega)
    refine Ev.succ ?_
    simp only [r_trimmed.l0,hw]
    refine Ev.pos (by omega) (Ev.pos (by omega) (Ev.pos (by omega) ?_))
    have hl:n < (L s).length:=by rw [L_len];omega
    rw [bt_nat s n hl]
    have ht:(L s).take (n+1)=(L s).take n ++ [(L s)[n]]:=List.take_succ_eq_append_getElem hl
    by_cases hc:is0 (L s)[n]=true
    · refine Ev.pos ((is0_iff _).1 hc) ?_
      have ih:=trimmed_l0 s (by rw [big_eq];omega) n (by omega)
      have e:tr ((L s).take (n+1))=tr ((L s).take n):=by
        unfold tr
        rw [ht,List.reverse_append,List.reverse_singleton,List.singleton_append,List.dropWhile_cons,if_pos hc]
      rw [e]
      exact ih
    · refine Ev.neg (fun h => hc ((is0_iff _).2 h)) (Ev.pos (by omega) (Ev.pos (by omega) (Ev.done ?_)))
      rw [extract_front,Int.toNat_natCast]
      congr 1
      unfold tr
      rw [ht,List.reverse_append,List.reverse_singleton,List.singleton_append,List.dropWhile_cons,if_neg hc]
      simp
theorem trimmed_ev (l : List UInt8) (h : l.length < big) : Ev (fun k => r_trimmed.f k (mkB l)) (mkB (tr l)) := by
  unfold r_trimmed.f
  have:=trimmed_l0 (mkB l) (by rw [size_mk];exact h) _ (Nat.le_refl _)
  rw [size_mk] at *
  rw [L_mk,List.take_length] at this
  exact this

def negAt : List UInt8 → Bool
  | [] => false
  | c :: _ => decide ((c.toNat:Int)=45)
def sgN (l:List UInt8):Nat:=blkN l+if negAt (l.drop (blkN l))=true then 1 else 0
theorem sgN_le (s : ByteArray) : sgN (L s) ≤ s.size := by
  unfold sgN
  have:=blkN_le s
  split
  · rename_i h
    cases hd:(L s).drop (blkN (L s)) with
    | nil => rw [hd] at h;cases h
    | cons c r => have:=(drop_cons hd).1;omega
  · omega
def sgNeg (l:List UInt8):Bool:=negAt (l.drop (blkN l))
def sgS (l:List UInt8):Bool × ByteArray × ByteArray × Int:=
  if noneAt (l.drop (sgN l)) = true then (false, mkB [], mkB [], 0) else (sgNeg l, mkB (plS (l.drop (sgN l))).1, mkB (plS (l.drop (sgN l))).2.1, ((sgN l + (plS (l.drop (sgN l))).2.2 : Nat) : Int))
theorem pl_pos {l : List UInt8} (h : ¬ noneAt l = true) : 0 < (plS l).2.2 := by
  unfold noneAt plS at *
  revert h
  cases l.dropWhile isDg with
  | nil => cases l.takeWhile isDg <;> simp
  | cons c r =>
    simp only
    split
    · intro _;simp only;omega
    · cases l.takeWhile isDg <;> simp
theorem signed_ev (s : ByteArray) (hs : s.size < big) : Ev (fun k => n_signed.f k s) (sgS (L s)) := by
  unfold n_signed.f
  refine Ev.bind (blanks_ev s hs) ?_
  have hb:=blkN_le s
  have hsg:=sgN_le s
  have hs':=hs
  rw [big_eq] at hs'
  unfold sgS sgNeg
  cases hd:(L s).drop (blkN (L s)) with
  | nil =>
    have h1:=drop_nil hd
    have e:sgN (L s)=blkN (L s):=by unfold sgN;rw [hd];rfl
    refine Ev.neg (by omega) ?_
    rw [plain_f s hs _ hb,Option.bind_some,e,hd]
    exact Ev.done rfl
  | cons c r =>
    obtain ⟨h1,h2,h3⟩:=drop_cons hd
    refine Ev.pos (by omega) (Ev.pos (by omega) ?_)
    rw [h2]
    by_cases hc:(c.toNat:Int)=45
    · have e : sgN (L s) = blkN (L s) + 1 := by unfold sgN; rw [hd]; simp [negAt, hc]
      refine Ev.pos hc ?_
      rw [w64_succ (by omega),plain_f s hs _ (by omega),Option.bind_some,e]
      simp only [negAt,hc,decide_true]
      by_cases hn:noneAt ((L s).drop (blkN (L s)+1))=true
      · simp only [if_pos hn]
        exact Ev.done rfl
      · simp only [if_neg hn]
        refine Ev.done ?_
        have:((blkN (L s)+1+(plS ((L s).drop (blkN (L s)+1))).2.2:Nat):Int) > 0:=by omega
        rw [decide_eq_true this]
    · have e : sgN (L s) = blkN (L s) := by unfold sgN; rw [hd]; simp [negAt, hc]
      refine Ev.neg hc ?_
      rw [plain_f s hs _ hb,Option.bind_some,e,hd]
      by_cases hn:noneAt (c :: r)=true
      · simp only [if_pos hn]
        exact Ev.done rfl
      · simp only [if_neg hn, negAt, hc, decide_false]
        exact Ev.done rfl

def decS (l:List UInt8):Bool × List UInt8 × List UInt8 × Nat:=
  if noneAt (l.drop (sgN l)) = true then (false, [], [], 0) else
    (sgNeg l && !((tl (plS (l.drop (sgN l))).1).isEmpty && (tr (plS (l.drop (sgN l))).2.1).isEmpty), tl (plS (l.drop (sgN l))).1, tr (plS (l.drop (sgN l))).2.1, sgN l + (plS (l.drop (sgN l))).2.2)
def decV (l:List UInt8):Bool × ByteArray × ByteArray × Int:=((decS l).1,mkB (decS l).2.1,mkB (decS l).2.2.1,((decS l).2.2.2:Int))
theorem pl1_len (l : List UInt8) : (plS l).1.length ≤ l.length := by
  unfold plS
  have:=take_len (p:=isDg) l
  split
  · exact this
  · split <;> exact this
theorem pl2_len (l : List UInt8) : (plS l).2.1.length ≤ l.length := by
  have h:=plS_len l
  have:(plS l).2.1.length≤(plS l).2.2:=by
    unfold plS
    split
    · simp
    · split <;> simp <;> omega
  omega
theorem size_drop (s : ByteArray) (n : Nat) : ((L s).drop n).length ≤ s.size := by rw [List.length_drop, L_len]; omega
theorem decimal_ev (n : Bool) (w f : List UInt8) (e : Int) (hw : w.length < big) (hf : f.length < big) : Ev (fun k => n_decimal.f k n (mkB w) (mkB f) e) (n && !((tl w).isEmpty && (tr f).isEmpty), mkB (tl w), mkB (tr f), e) := by
  unfold n_decimal.f
  refine Ev.bind (TrimLeft_ev w hw) (Ev.bind (TrimRight_ev f hf) ?_)
  simp only [toList_mk,nil_iff]
  cases n with
  | false => exact Ev.neg (by decide) (Ev.done (by simp))
  | true =>
    refine Ev.pos rfl (Ev.ite (fun h => ?_) (fun h => ?_))
    · exact Ev.done (by simp [h])
    · exact Ev.done (by simp [h])
theorem Decimal_ev (s : ByteArray) (hs : s.size < big) : Ev (fun k => n_Decimal.f k s) (decV (L s)) := by
  unfold n_Decimal.f
  refine Ev.bind (signed_ev s hs) ?_
  unfold sgS decV decS
  have hd:=size_drop s (sgN (L s))
  have h1:=pl1_len ((L s).drop (sgN (L s)))
  have h2:=pl2_len ((L s).drop (sgN (L s)))
  by_cases hn:noneAt ((L s).drop (sgN (L s)))=true
  · simp only [if_pos hn]
    refine Ev.bind (decimal_ev false [] [] 0 (by decide) (by decide)) (Ev.done ?_)
    simp [tl,tr]
  · simp only [if_neg hn]
    exact Ev.bind (decimal_ev _ _ _ _ (by omega) (by omega)) (Ev.pure _)

theorem rsigned_ev (s : ByteArray) (hs : s.size < big) : Ev (fun k => r_signed.f k s)
    (if noneAt ((L s).drop (sgN (L s)))=true then (false,mkB [],0,0,0) else (sgNeg (L s),mkB ((plS ((L s).drop (sgN (L s)))).1++(plS ((L s).drop (sgN (L s)))).2.1),((plS ((L s).drop (sgN (L s)))).1.length:Int),0,((sgN (L s)+(plS ((L s).drop (sgN (L s)))).2.2:Nat):Int))):=by
  unfold r_signed.f
  refine Ev.bind (start_ev s hs) ?_
  have hb:=blkN_le s
  have hs':=hs
  rw [big_eq] at hs'
  unfold sgNeg
  cases hd:(L s).drop (blkN (L s)) with
  | nil =>
    have h1:=drop_nil hd
    have e:sgN (L s)=blkN (L s):=by unfold sgN;rw [hd];rfl
    refine Ev.neg (by omega) (Ev.succ ?_)
    simp only [r_signed.j0]
    refine Ev.neg (by decide) (Ev.bind (Plain_ev s hs _ hb) ?_)
    rw [e,hd]
    simp only [show noneAt []=true from rfl,if_true]
    refine Ev.pos (by decide) (Ev.done rfl)
  | cons c r =>
    obtain ⟨h1,h2,h3⟩:=drop_cons hd
    refine Ev.pos (by omega) (Ev.pos (by omega) ?_)
    rw [h2]
    refine Ev.succ ?_
    simp only [r_signed.j0]
    by_cases hc:(c.toNat:Int)=45
    · have e : sgN (L s) = blkN (L s) + 1 := by unfold sgN; rw [hd]; simp [negAt, hc]
      refine Ev.pos (by simp [hc]) ?_
      rw [w64_succ (by omega)]
      refine Ev.bind (Plain_ev s hs _ (by omega)) ?_
      rw [e]
      by_cases hn:noneAt ((L s).drop (blkN (L s)+1))=true
      · simp only [if_pos hn]
        exact Ev.pos (by decide) (Ev.done rfl)
      · simp only [if_neg hn]
        exact Ev.neg (by omega) (Ev.done (by simp [negAt,hc]))
    · have e : sgN (L s) = blkN (L s) := by unfold sgN; rw [hd]; simp [negAt, hc]
      refine Ev.neg (by simp [hc]) ?_
      refine Ev.bind (Plain_ev s hs _ (by omega)) ?_
      rw [e,hd]
      by_cases hn:noneAt (c :: r)=true
      · simp only [if_pos hn]
        exact Ev.pos (by decide) (Ev.done rfl)
      · simp only [if_neg hn]
        exact Ev.neg (by omega) (Ev.done (by simp [negAt,hc]))
theorem rDecimal_ev (s : ByteArray) (hs : s.size < big) : Ev (fun k => r_Decimal.f k s) (decV (L s)) := by
  unfold r_Decimal.f
  refine Ev.bind (rsigned_ev s hs) ?_
  unfold decV decS
  have hd:=size_drop s (sgN (L s))
  have h1:=pl1_len ((L s).drop (sgN (L s)))
  have h2:=pl2_len ((L s).drop (sgN (L s)))
  have h3:=plS_len ((L s).drop (sgN (L s)))
  have hs':=hs
  rw [big_eq] at hs'
  by_cases hn:noneAt ((L s).drop (sgN (L s)))=true
  · simp only [if_pos hn]
    exact Ev.pos trivial (Ev.done rfl)
  · have hp := pl_pos hn
    simp only [if_neg hn]
    generalize plS ((L s).drop (sgN (L s)))=q at *
    obtain ⟨w,f,e⟩:=q
    simp only at *
    have x1:(mkB (w++f)).extract 0 ((w.length:Int)).toNat=mkB w:=by
      rw [extract_front,L_mk,Int.toNat_natCast,List.take_left]
    have x2:(mkB (w++f)).extract ((w.length:Int)).toNat (mkB (w++f)).size=mkB f:=by
      rw [extract_end,L_mk,Int.toNat_natCast,List.drop_left]
    refine Ev.neg (by omega) (Ev.pos (by omega) (Ev.pos (by rw [size_mk,List.length_append];omega) ?_))
    simp only [x1,x2]
    refine Ev.bind (zeros_ev (mkB w) (by rw [size_mk,big_eq];omega)) ?_
    have ht:=take_len (p:=is0) w
    rw [L_mk]
    refine Ev.pos (by omega) (Ev.pos (by rw [Int.toNat_natCast];omega) ?_)
    refine Ev.bind (trimmed_ev f (by rw [big_eq];omega)) ?_
    have x3:(mkB w).extract (((w.takeWhile is0).length:Int)).toNat ((w.length:Int)).toNat=mkB (tl w):=by
      rw [extract_mk',L_mk,Int.toNat_natCast,Int.toNat_natCast,drop_run,List.take_of_length_le]
      · rfl
      · have := drop_run (p := is0) w
        have h4:=congrArg List.length this
        rw [List.length_drop] at h4
        omega
    simp only [x3,mk_append,toList_mk,size_mk]
    have hap:(tl w++tr f).isEmpty=((tl w).isEmpty && (tr f).isEmpty):=by
      cases tl w <;> simp
    rw [hap]
    have h5:=tr_len f
    cases sgNeg (L s) with
    | true => exact Ev.pos rfl (Ev.pos (by rw [Int.toNat_natCast,Int.toNat_natCast];omega) (Ev.done (by simp)))
    | false => exact Ev.neg (by decide) (Ev.done (by simp))
end Go.Proofs.YtcdajedmlfhmeaaDoor.XN
end

section
/- Human and Month: both sides compute the same. (by this session) -/
-- NEEDS strings_IndexByte n_Human r_letter r_Human n_begins n_Month r_low r_at r_Month
set_option linter.unusedVariables false
set_option linter.unusedSimpArgs false
namespace Go.Proofs.YtcdajedmlfhmeaaDoor.XN
open Go.RowKit Go.Proofs.YtcdajedmlfhmeaaDoorW.PrintWords Go.Proofs.YtcdajedmlfhmeaaDoorW.PrintMore

theorem all8 {P : UInt8 → Prop} (h : ∀ n : Fin 256, P (UInt8.ofNat n.val)) (c : UInt8) : P c := by
  have:=h ⟨c.toNat,c.toNat_lt⟩
  simpa using this
def unitL:List UInt8:=[75,77,71,84,80,69,90,89,82,81]
def letN (c:UInt8):Nat:=if c=107 then 1 else if c ∈ unitL then unitL.idxOf c+1 else 0
theorem letN_le (c : UInt8) : letN c ≤ 10 := by
  unfold letN
  split
  · omega
  · split
    · rename_i h
      have:=List.idxOf_lt_length_iff.2 h
      have e:unitL.length=10:=rfl
      omega
    · omega
theorem idx_units : ∀ c : UInt8, Lib.indexByte unitL (if c = 107 then 75 else c) + 1 = (letN c : Int) := all8 (by decide +kernel)
theorem letter_ev (c : UInt8) : Ev (fun k => r_letter.f k (c.toNat : Int)) (letN c : Int) := by
  have key : ∀ c:UInt8,r_letter.f 20 (c.toNat:Int)=some (letN c:Int):=all8 (by decide +kernel)
  exact Ev.of_ex ⟨20,key c⟩ (fun k => r_letter.mono _ _)
def humS (s:ByteArray):(Bool × List UInt8 × List UInt8 × Nat) × Nat:=
  let d := decS (L s)
  if d.2.2.2 = 0 ∨ d.2.2.2 = s.size then (d, 0) else
    match (L s).drop d.2.2.2 with
    | [] => (d, 0)
    | c :: _ => ((d.1, d.2.1, d.2.2.1, if 0 < letN c then d.2.2.2 + 1 else d.2.2.2), if d.2.1 = [] ∧ d.2.2.1 = [] then 0 else letN c)
def humV (s:ByteArray):Bool × ByteArray × ByteArray × Int × Int:=((humS s).1.1,mkB (humS s).1.2.1,mkB (humS s).1.2.2.1,((humS s).1.2.2.2:Int),((humS s).2:Int))
theorem dec_end (s : ByteArray) : (decS (L s)).2.2.2 ≤ s.size := by
  unfold decS
  split
  · simp
  · have h1 := plS_len ((L s).drop (sgN (L s)))
    have h2:=sgN_le s
    rw [List.length_drop,L_len] at h1
    simp only
    omega
theorem dec_none {s : ByteArray} (h : (decS (L s)).2.2.2 = 0) : decS (L s) = (false, [], [], 0) := by
  unfold decS at *
  split
  · rfl
  · rename_i hn
    rw [if_neg hn] at h
    have:=pl_pos hn
    simp only at h
    omega
theorem IndexByte_f (c : Int) : strings_IndexByte.f (⟨#[75, 77, 71, 84, 80, 69, 90, 89, 82, 81]⟩ : ByteArray) c = some (Lib.indexByte unitL c.toNat.toUInt8) := rfl
theorem Human_j1 (c : UInt8) (hc : c ≠ 107) (n : Bool) (w f : List UInt8) (e : Nat) (he : e < big) : Ev (fun k => n_Human.j1 k (c.toNat : Int) n (mkB w) (mkB f) (e : Int))
    (n,mkB w,mkB f,((if 0 < letN c then e+1 else e:Nat):Int),((if w=[]∧f=[] then 0 else letN c:Nat):Int)):=by
  have h1:=idx_units c
  have hl:=letN_le c
  rw [if_neg hc] at h1
  rw [big_eq] at he
  have hw:wrap64 (Lib.indexByte unitL c+1)=(letN c:Int):=by rw [h1];exact w64 (by omega)
  have hcc:((c.toNat:Int)).toNat.toUInt8=c:=by rw [Int.toNat_natCast];simp
  refine Ev.succ ?_
  simp only [n_Human.j1,IndexByte_f,Option.bind_some,hcc,hw,toList_mk]
  by_cases hp:0 < letN c
  · have hw2 : wrap64 ((e : Int) + 1) = ((e + 1 : Nat) : Int) := w64_nat (by omega) (by omega)
    simp only [hw2,if_pos hp]
    refine Ev.pos (by omega) (Ev.ite (fun h => Ev.ite (fun h' => ?_) (fun h' => ?_)) (fun h => ?_))
    · exact Ev.done (by simp [h,h'])
    · exact Ev.done (by simp [h'])
    · exact Ev.done (by simp [h])
  · simp only [if_neg hp]
    refine Ev.neg (by omega) (Ev.ite (fun h => Ev.ite (fun h' => ?_) (fun h' => ?_)) (fun h => ?_))
    · exact Ev.done (by simp [h,h'])
    · exact Ev.done (by simp [h'])
    · exact Ev.done (by simp [h])
theorem Human_ev (s : ByteArray) (hs : s.size < big) : Ev (fun k => n_Human.f k s) (humV s) := by
  unfold n_Human.f
  refine Ev.bind (Decimal_ev s hs) ?_
  have he:=dec_end s
  have hs':=hs
  rw [big_eq] at hs'
  unfold humV humS decV
  generalize hd:decS (L s)=d at *
  obtain ⟨n,w,f,e⟩:=d
  simp only at *
  by_cases h0:e=0
  · subst h0
    refine Ev.pos (by rfl) (Ev.succ ?_)
    simp only [n_Human.j0]
    exact Ev.pos trivial (Ev.done (by simp))
  · refine Ev.neg (by omega) (Ev.succ ?_)
    simp only [n_Human.j0]
    by_cases h1:e=s.size
    · refine Ev.pos (by simp [h1]) (Ev.done ?_)
      simp [h1]
    · obtain ⟨c, hc, hb⟩ := drop_some (s := s) (i := e) (by omega)
      rw [if_neg (by omega),hc]
      refine Ev.neg (by simp;omega) (Ev.pos (by omega) (Ev.pos (by omega) ?_))
      rw [hb]
      by_cases hk:c=107
      · refine Ev.pos (by rw [hk]; decide) ?_
        have hx:=Human_j1 75 (by decide) n w f e (by omega)
        have hl:letN 75=letN c:=by rw [hk];decide
        rw [hl] at hx
        exact hx
      · refine Ev.neg (fun h => hk (u8_eq (d := 107) h)) ?_
        exact Human_j1 c hk n w f e (by omega)
theorem rHuman_ev (s : ByteArray) (hs : s.size < big) : Ev (fun k => r_Human.f k s) (humV s) := by
  unfold r_Human.f
  refine Ev.bind (rDecimal_ev s hs) ?_
  have he:=dec_end s
  have hz:(decS (L s)).2.2.2=0→decS (L s)=(false,[],[],0):=dec_none
  have hlen:(decS (L s)).2.1.length≤s.size∧(decS (L s)).2.2.1.length≤s.size:=by
    unfold decS
    split
    · simp
    · have h1 := tl_len (plS ((L s).drop (sgN (L s)))).1
      have h2:=tr_len (plS ((L s).drop (sgN (L s)))).2.1
      have h3:=pl1_len ((L s).drop (sgN (L s)))
      have h4:=pl2_len ((L s).drop (sgN (L s)))
      have h5:=size_drop s (sgN (L s))
      simp only
      omega
  have hs':=hs
  rw [big_eq] at hs'
  unfold humV humS decV
  generalize hd:decS (L s)=d at *
  obtain ⟨n,w,f,e⟩:=d
  simp only at *
  have hap:(w++f=[])↔(w=[]∧f=[]):=by simp
  by_cases h0:e=0
  · have := hz h0
    simp only [Prod.mk.injEq] at this
    obtain ⟨rfl,rfl,rfl,rfl⟩:=this
    refine Ev.neg (by decide) (Ev.succ ?_)
    simp only [r_Human.j0]
    refine Ev.neg (by decide) (Ev.succ ?_)
    simp only [r_Human.j1,size_mk,mk_append,toList_mk]
    exact Ev.neg (by decide) (Ev.pos (by decide) (Ev.pos rfl (Ev.done (by simp))))
  · refine Ev.pos (by omega) (Ev.succ ?_)
    simp only [r_Human.j0]
    by_cases h1:e=s.size
    · refine Ev.neg (by simp [h1]) (Ev.succ ?_)
      simp only [r_Human.j1,size_mk,mk_append,toList_mk,hap]
      refine Ev.neg (by decide) (Ev.pos (by omega) (Ev.ite (fun h => ?_) (fun h => ?_)))
      · exact Ev.done (by simp [h1])
      · exact Ev.done (by simp [h1])
    · obtain ⟨c, hc, hb⟩ := drop_some (s := s) (i := e) (by omega)
      rw [if_neg (by omega),hc]
      refine Ev.pos (by simp;omega) (Ev.pos (by omega) (Ev.pos (by omega) ?_))
      rw [hb]
      refine Ev.bind (letter_ev c) (Ev.succ ?_)
      have hl:=letN_le c
      simp only [r_Human.j1,size_mk,mk_append,toList_mk,hap]
      by_cases hp:0 < letN c
      · have hw2 : wrap64 ((e : Int) + 1) = ((e + 1 : Nat) : Int) := w64_nat (by omega) (by omega)
        simp only [hw2,if_pos hp]
        refine Ev.pos (by omega) (Ev.pos (by omega) (Ev.ite (fun h => ?_) (fun h => ?_)))
        · exact Ev.done (by simp [h])
        · exact Ev.done (by simp [h])
      · simp only [if_neg hp]
        refine Ev.neg (by omega) (Ev.pos (by omega) (Ev.ite (fun h => ?_) (fun h => ?_)))
        · exact Ev.done (by simp [h])
        · exact Ev.done (by simp [h])

def lowB (c:UInt8):UInt8:=if 65≤c∧c≤90 then c+32 else c
def isWord (w:List UInt8):Bool:=w.all fun c => decide (97≤c) && decide (c≤122)
def bgN : List UInt8 → List UInt8 → Bool
  | _, [] => true
  | [], _ :: _ => false
  | c :: l, d :: w => lowB c == d && bgN l w
theorem low_f (c : UInt8) : r_low.f (c.toNat : Int) = some ((lowB c).toNat : Int) := by
  have : ∀ c:UInt8,r_low.f (c.toNat:Int)=some ((lowB c).toNat:Int):=all8 (by decide +kernel)
  exact this c
theorem or_low (c d : UInt8) (hd : (decide (97 ≤ d) && decide (d ≤ 122)) = true) : (Go.bits .or .u8 (c.toNat : Int) 32 = (d.toNat : Int) ∧ ¬ (c.toNat : Int) < 65) ↔ lowB c = d := by
  have hb : ∀ c:UInt8,Go.bits .or .u8 (c.toNat:Int) 32=((c ||| 32).toNat:Int):=all8 (by decide +kernel)
  have h2 : ∀ d:UInt8,∀ c:UInt8,(decide (97≤d) && decide (d≤122))=true→(((c ||| 32)=d∧¬ (c.toNat:Int) < 65)↔lowB c=d):=by
    have h3 : ∀ n:Fin 26,∀ m:Fin 256,(((UInt8.ofNat m.val ||| 32)=UInt8.ofNat (97+n.val)∧¬ ((UInt8.ofNat m.val).toNat:Int) < 65)↔lowB (UInt8.ofNat m.val)=UInt8.ofNat (97+n.val)):=by decide +kernel
    intro d c hd
    simp only [Bool.and_eq_true,decide_eq_true_eq,UInt8.le_iff_toNat_le] at hd
    have e1:(97:UInt8).toNat=97:=rfl
    have e2:(122:UInt8).toNat=122:=rfl
    have h4:=h3 ⟨d.toNat - 97,by omega⟩ ⟨c.toNat,c.toNat_lt⟩
    have e3:97+(d.toNat - 97)=d.toNat:=by omega
    simp only [e3,UInt8.ofNat_toNat] at h4
    exact h4
  rw [hb c,← h2 d c hd]
  constructor
  · rintro ⟨a,b⟩;exact ⟨u8_eq a,b⟩
  · rintro ⟨a,b⟩;exact ⟨by rw [a],b⟩
theorem begins_l0 (s : ByteArray) (hs : s.size < big) (i : Nat) (w : List UInt8) (hwd : isWord w = true) : ∀ (v : List UInt8) (j : Nat), w.drop j = v → j ≤ w.length → i + w.length ≤ s.size →
    Ev (fun k => n_begins.l0 k s (i:Int) (mkB w) (w.length:Int) (j:Int)) (bgN ((L s).drop (i+j)) v)
  | [],j,h,hj,hl => by
    have:w.length≤j:=List.drop_eq_nil_iff.1 h
    refine Ev.succ ?_
    simp only [n_begins.l0]
    exact Ev.neg (by omega) (Ev.done (by simp [bgN]))
  | d :: v,j,h,hj,hl => by
    have hjl:j < w.length:=by
      rcases Nat.lt_or_ge j w.length with h' | h'
      · exact h'
      · rw [List.drop_eq_nil_iff.2 h'] at h;cases h
    have hb:bt (mkB w) (j:Int)=(d.toNat:Int)∧(L (mkB w)).drop (j+1)=v:=(drop_cons (s:=mkB w) (i:=j) (by rw [L_mk];exact h)).2
    have hwj:=w64_nat (x:=(i:Int)+(j:Int)) (n:=i+j) (by omega) (by rw [big_eq] at hs;omega)
    have hwj2:=w64_succ (i:=j) (by rw [big_eq] at hs;omega)
    obtain ⟨c,hc,hbt⟩:=drop_some (s:=s) (i:=i+j) (by omega)
    have hd:(decide (97≤d) && decide (d≤122))=true:=by
      have hm:d ∈ w:=List.mem_of_mem_drop (by rw [h];simp)
      have:=List.all_eq_true.1 hwd d hm
      exact this
    refine Ev.succ ?_
    simp only [n_begins.l0,hwj,hwj2,hbt,hb.1,size_mk]
    refine Ev.pos (by omega) (Ev.pos (by omega) (Ev.pos (by omega) (Ev.pos (by omega) (Ev.pos (by omega) ?_))))
    rw [hc]
    simp only [bgN]
    have hor:=or_low c d hd
    have ih:=begins_l0 s hs i w hwd v (j+1) (by simpa [L_mk] using hb.2) (by omega) hl
    rw [← Nat.add_assoc] at ih
    refine Ev.ite (fun h1 => Ev.ite (fun h2 => ?_) (fun h2 => ?_)) (fun h1 => ?_)
    · refine Ev.done ?_
      have : ¬ lowB c=d:=fun hh => (hor.2 hh).2 h2
      simp [this]
    · have : lowB c = d := hor.1 ⟨h1, h2⟩
      simp only [this,beq_self_eq_true,Bool.true_and]
      exact ih
    · refine Ev.done ?_
      have : ¬ lowB c=d:=fun hh => h1 (hor.2 hh).1
      simp [this]
theorem bgN_short : ∀ (l w : List UInt8), l.length < w.length → bgN l w = false
  | _,[],h => by simp at h
  | [],_ :: _,_ => rfl
  | c :: l,d :: w,h => by
    simp only [bgN,bgN_short l w (by simpa using h),Bool.and_false]
theorem begins_ev (s : ByteArray) (hs : s.size < big) (i : Nat) (hi : i ≤ s.size) (w : List UInt8) (hwd : isWord w = true) (hwl : w.length < 100) : Ev (fun k => n_begins.f k s (i : Int) (mkB w)) (bgN ((L s).drop i) w) := by
  unfold n_begins.f
  have hw:=w64_nat (x:=(s.size:Int) - (i:Int)) (n:=s.size - i) (by omega) (by rw [big_eq] at hs;omega)
  simp only [hw,size_mk]
  refine Ev.ite (fun h => ?_) (fun h => ?_)
  · exact Ev.done (by rw [bgN_short _ _ (by rw [List.length_drop,L_len];omega)])
  · exact begins_l0 s hs i w hwd w 0 rfl (Nat.zero_le _) (by omega)
theorem at_l0 (s : ByteArray) (hs : s.size < big) (i : Nat) (w : List UInt8) : ∀ (v : List UInt8) (j : Nat), w.drop j = v → j ≤ w.length → i + w.length ≤ s.size →
    Ev (fun k => r_at.l0 k s (i:Int) (mkB w) (j:Int)) (bgN ((L s).drop (i+j)) v)
  | [],j,h,hj,hl => by
    have:w.length≤j:=List.drop_eq_nil_iff.1 h
    refine Ev.succ ?_
    simp only [r_at.l0,size_mk]
    exact Ev.neg (by omega) (Ev.done (by simp [bgN]))
  | d :: v,j,h,hj,hl => by
    have hjl:j < w.length:=by
      rcases Nat.lt_or_ge j w.length with h' | h'
      · exact h'
      · rw [List.drop_eq_nil_iff.2 h'] at h;cases h
    have hb:bt (mkB w) (j:Int)=(d.toNat:Int)∧(L (mkB w)).drop (j+1)=v:=(drop_cons (s:=mkB w) (i:=j) (by rw [L_mk];exact h)).2
    have hwj:=w64_nat (x:=(i:Int)+(j:Int)) (n:=i+j) (by omega) (by rw [big_eq] at hs;omega)
    have hwj2:=w64_succ (i:=j) (by rw [big_eq] at hs;omega)
    obtain ⟨c,hc,hbt⟩:=drop_some (s:=s) (i:=i+j) (by omega)
    refine Ev.succ ?_
    simp only [r_at.l0,hwj,hwj2,hbt,hb.1,size_mk,low_f,Option.bind_some]
    refine Ev.pos (by omega) (Ev.pos (by omega) (Ev.pos (by omega) (Ev.pos (by omega) ?_)))
    rw [hc]
    simp only [bgN]
    have ih:=at_l0 s hs i w v (j+1) (by simpa [L_mk] using hb.2) (by omega) hl
    rw [← Nat.add_assoc] at ih
    refine Ev.ite (fun h1 => ?_) (fun h1 => ?_)
    · have := u8_eq h1
      simp only [this,beq_self_eq_true,Bool.true_and]
      exact ih
    · refine Ev.done ?_
      have : ¬ lowB c=d:=fun hh => h1 (by rw [hh])
      simp [this]
theorem at_ev (s : ByteArray) (hs : s.size < big) (i : Nat) (w : List UInt8) (hi : i ≤ s.size) (hwl : w.length < 100) : Ev (fun k => r_at.f k s (i : Int) (mkB w)) (bgN ((L s).drop i) w) := by
  unfold r_at.f
  have hw:=w64_nat (x:=(i:Int)+(w.length:Int)) (n:=i+w.length) (by omega) (by rw [big_eq] at hs;omega)
  simp only [size_mk,hw]
  refine Ev.ite (fun h => ?_) (fun h => ?_)
  · exact Ev.done (by rw [bgN_short _ _ (by rw [List.length_drop,L_len];omega)])
  · exact at_l0 s hs i w w 0 rfl (Nat.zero_le _) (by omega)

def monthL:List (List UInt8):=[[106,97,110],[102,101,98],[109,97,114],[97,112,114],[109,97,121],[106,117,110],[106,117,108],[97,117,103],[115,101,112],[111,99,116],[110,111,118],[100,101,99]]
def monF (l : List UInt8) : Nat → List (List UInt8) → Nat
  | _, [] => 0
  | m, w :: ws => if bgN l w = true then m + 1 else monF l (m + 1) ws
def monS (l:List UInt8):Nat:=monF (l.drop (blkN l)) 0 monthL
theorem months_word : ∀ m, m < 12 → isWord (monthL.getD m []) = true ∧ (monthL.getD m []).length = 3 ∧ rdOf ByteArray.empty G_months (m : Int) = mkB (monthL.getD m []) := by
  intro m hm
  rcases (by omega:m=0∨m=1∨m=2∨m=3∨m=4∨m=5∨m=6∨m=7∨m=8∨m=9∨m=10∨m=11) with rfl|rfl|rfl|rfl|rfl|rfl|rfl|rfl|rfl|rfl|rfl|rfl <;> exact ⟨by decide,rfl,rfl⟩
theorem Month_l0 (s : ByteArray) (hs : s.size < big) (i : Nat) (hi : i ≤ s.size) : ∀ (ws : List (List UInt8)) (m : Nat), monthL.drop m = ws → m ≤ 12 → Ev (fun k => n_Month.l0 k s (i : Int) (m : Int)) ((monF ((L s).drop i) m ws : Nat) : Int)
  | [],m,h,hm => by
    have:monthL.length≤m:=List.drop_eq_nil_iff.1 h
    have e:monthL.length=12:=rfl
    refine Ev.succ ?_
    simp only [n_Month.l0]
    exact Ev.neg (by omega) (Ev.done rfl)
  | w :: ws,m,h,hm => by
    have hml:m < monthL.length:=by
      rcases Nat.lt_or_ge m monthL.length with h' | h'
      · exact h'
      · rw [List.drop_eq_nil_iff.2 h'] at h;cases h
    have e:monthL.length=12:=rfl
    have hw:=List.drop_eq_getElem_cons hml
    rw [h] at hw
    injection hw with hw1 hw2
    obtain ⟨a,b,c⟩:=months_word m (by omega)
    have hg:monthL.getD m []=w:=by rw [hw1];simp [List.getD,hml]
    rw [hg] at a b c
    have hws:=w64_succ (i:=m) (by omega)
    refine Ev.succ ?_
    simp only [n_Month.l0,c,hws]
    refine Ev.pos (by omega) (Ev.pos (by omega) (Ev.bind (begins_ev s hs i hi w a (by omega)) ?_))
    simp only [monF]
    refine Ev.ite (fun h1 => ?_) (fun h1 => ?_)
    · rw [if_pos h1];exact Ev.pure _
    · rw [if_neg h1];exact Month_l0 s hs i hi ws (m+1) hw2.symm (by omega)
theorem Month_ev (s : ByteArray) (hs : s.size < big) : Ev (fun k => n_Month.f k s) (monS (L s) : Int) := by
  unfold n_Month.f
  exact Ev.bind (blanks_ev s hs) (Month_l0 s hs _ (blkN_le s) monthL 0 rfl (by omega))
theorem cut_month : ∀ m, m < 12 → (⟨#[106, 97, 110, 102, 101, 98, 109, 97, 114, 97, 112, 114, 109, 97, 121, 106, 117, 110, 106, 117, 108, 97, 117, 103, 115, 101, 112, 111, 99, 116, 110, 111, 118, 100, 101, 99]⟩ : ByteArray).extract (3 * m) (3 * m + 3) = mkB (monthL.getD m []) := by
  intro m hm
  rw [extract_mk']
  rcases (by omega:m=0∨m=1∨m=2∨m=3∨m=4∨m=5∨m=6∨m=7∨m=8∨m=9∨m=10∨m=11) with rfl|rfl|rfl|rfl|rfl|rfl|rfl|rfl|rfl|rfl|rfl|rfl <;> rfl
theorem rMonth_l0 (s : ByteArray) (hs : s.size < big) (i : Nat) (hi : i ≤ s.size) : ∀ (ws : List (List UInt8)) (m : Nat), monthL.drop m = ws → m ≤ 12 → Ev (fun k => r_Month.l0 k s (i : Int) (m : Int)) ((monF ((L s).drop i) m ws : Nat) : Int)
  | [],m,h,hm => by
    have:monthL.length≤m:=List.drop_eq_nil_iff.1 h
    have e:monthL.length=12:=rfl
    refine Ev.succ ?_
    simp only [r_Month.l0]
    exact Ev.neg (by omega) (Ev.done rfl)
  | w :: ws,m,h,hm => by
    have hml:m < monthL.length:=by
      rcases Nat.lt_or_ge m monthL.length with h' | h'
      · exact h'
      · rw [List.drop_eq_nil_iff.2 h'] at h;cases h
    have e:monthL.length=12:=rfl
    have hw:=List.drop_eq_getElem_cons hml
    rw [h] at hw
    injection hw with hw1 hw2
    obtain ⟨a,b,c⟩:=months_word m (by omega)
    have hg:monthL.getD m []=w:=by rw [hw1];simp [List.getD,hml]
    rw [hg] at a b c
    have hws:=w64_succ (i:=m) (by omega)
    have h3:=w64_nat (x:=3 * (m:Int)) (n:=3 * m) (by omega) (by omega)
    have h33:=w64_nat (x:=((3 * m:Nat):Int)+3) (n:=3 * m+3) (by omega) (by omega)
    have hcut:=cut_month m (by omega)
    rw [hg] at hcut
    refine Ev.succ ?_
    simp only [r_Month.l0,h3,h33,hws,Int.toNat_natCast,hcut]
    refine Ev.pos (by omega) (Ev.pos (by omega) (Ev.pos (by omega) (Ev.pos (by omega) (Ev.bind (at_ev s hs i w hi (by omega)) ?_))))
    simp only [monF]
    refine Ev.ite (fun h1 => ?_) (fun h1 => ?_)
    · rw [if_pos h1];exact Ev.pure _
    · rw [if_neg h1];exact rMonth_l0 s hs i hi ws (m+1) hw2.symm (by omega)
theorem rMonth_ev (s : ByteArray) (hs : s.size < big) : Ev (fun k => r_Month.f k s) (monS (L s) : Int) := by
  unfold r_Month.f
  exact Ev.bind (start_ev s hs) (rMonth_l0 s hs _ (blkN_le s) monthL 0 rfl (by omega))
end Go.Proofs.YtcdajedmlfhmeaaDoor.XN
end
