import Derived.Test.YtcdajedmlfhmeaaDoorZNC0
import Derived.Test.YtcdajedmlfhmeaaDoorZNC1
import Derived.Test.YtcdajedmlfhmeaaDoorZNC2
namespace Go.Proofs.YtcdajedmlfhmeaaDoor.XN
open Go.RowKit Go.Proofs.YtcdajedmlfhmeaaDoorW.PrintWords Go.Proofs.YtcdajedmlfhmeaaDoorW.PrintLast Go.Proofs.YtcdajedmlfhmeaaDoorW.PrintMore
attribute [local go_sem] max2_int min2_int max_two min_two max_three min_three max_four min_four
set_option linter.unusedVariables false
set_option linter.unusedSimpArgs false
set_option maxHeartbeats 8000000
set_option maxRecDepth 100000

def n_decimal.f (k:Nat) (a0_0:Bool) (a0_1:ByteArray) (a0_2:ByteArray) (a0_3:Int):Option (Bool × ByteArray × ByteArray × Int):=(strings_TrimLeft.f k a0_1 (⟨#[48]⟩:ByteArray)).bind fun t111 => ((strings_TrimRight.f k a0_2 (⟨#[48]⟩:ByteArray)).bind fun t112 => (if a0_0=true then (if t111.toList=([]:List UInt8) then (some ((!t112.toList.isEmpty),t111,t112,a0_3)) else (some (true,t111,t112,a0_3))) else (some (false,t111,t112,a0_3))))
def n_decimal.T1:Bool × List (List Nat × List Nat):=(true,[([],[]),([0],[0]),([1],[1]),([],[]),([3],[3]),([4,2],[4]),([],[]),([6],[6]),([2,5,7],[2,5,7]),([],[]),([9,8,5,0,1,2,3,4,5,6,7,8,9],[8,9])])
def n_decimal.B1:List Nat:=[0,1,3,0,8,31,0,64,255,0,1023]
theorem n_decimal.tab1 : rtab .any (opsOf Tryd.f32 1) = n_decimal.T1 := by kernel_rfl
theorem n_decimal.bits1 : waitsOk n_decimal.T1.2 n_decimal.B1 = true := by kernel_rfl
theorem n_decimal.calls (k : Nat) (a0_0 : Bool) (a0_1 : ByteArray) (a0_2 : ByteArray) (a0_3 : Int) (r1 : Bool) (r2 : ByteArray) (r3 : ByteArray) (r4 : Int) (w : World) (h : n_decimal.f k a0_0 a0_1 a0_2 a0_3 = some (r1, r2, r3, r4)) :
  Calls Tryd.prog 32 #[.agg #[.bool a0_0,.string a0_1,.string a0_2,.int .i64 a0_3]] w fun e w' => e=.returned (.agg #[.bool r1,.string r2,.string r3,.int .i64 r4])∧Below w.heap.size w w':=by
 have hu55:=Tryd.underlying55;have hu25:=Tryd.underlying25;have HB:=M_ (Below.refl w.heap.size w);have H:((strings_TrimLeft.f k a0_1 (⟨#[48]⟩:ByteArray)).bind fun t111 => ((strings_TrimRight.f k a0_2 (⟨#[48]⟩:ByteArray)).bind fun t112 => (if a0_0=true then (if t111.toList=([]:List UInt8) then (some ((!t112.toList.isEmpty),t111,t112,a0_3)) else (some (true,t111,t112,a0_3))) else (some (false,t111,t112,a0_3)))))=some (r1,r2,r3,r4):=h;clear h;obtain ⟨t111,A2,H⟩:=ob_ H;obtain ⟨t112,A3,H⟩:=ob_ H
 by_cases c4:a0_0=true
 ·subst c4;rw [if_pos rfl] at H
  by_cases c5:t111.toList=([]:List UInt8)
  ·rw [if_pos c5] at H;have c5b0:(t111.toList == ([]:List UInt8))=true:=beq_iff_eq.mpr c5;have c5b1:(t111.toList != ([]:List UInt8))=false:=nF_ c5;clear c5;simp only [Option.some.injEq,Prod.mk.injEq] at H;obtain ⟨rfl,rfl,rfl,rfl⟩:=H
   go_enter Tryd.func32,Tryd.ntmps32
   have tk23:=trivial;have tk24:=trivial
   try go_wp2_with (first|(clear tk23;(with_reducible refine gate_dst (N:=1) rfl ?_);refine box_event ?hg (N:=1) ?hd (cs:=#[.bool true,.string a0_1,.string a0_2,.int .i64 a0_3]) (t:=55) ?hr ?_;(case hd => rfl);(case hg => rfl);(case hr => first|(go_simp;done)|(go_simp;rfl));intro gb109 hg w6 hbox hb;have n0_:=M_ (below_step qnc2_ hb);have n1_:=M_ (hbox);have n2_:=M_ ((by rw [hg];exact (below_size qnc2_):w.heap.size≤gb109));have n3_:=n2_;clear HB;have HB:=n0_;have BK109:=n1_;have GW109:=n2_;have GE109:=n3_;clear n0_ n1_ n2_ n3_;clear hb hbox hg)|(clear tk24;(with_reducible refine gate_dst (N:=2) rfl ?_);refine box_event ?hg (N:=2) ?hd (cs:=#[.bool false,.string ⟨#[]⟩,.string ⟨#[]⟩,.int .i64 0]) (t:=25) ?hr ?_;(case hd => rfl);(case hg => rfl);(case hr => first|(go_simp;done)|(go_simp;rfl));intro gb110 hg w7 hbox hb;have n0_:=M_ (blk_below (g:=gb109) (o:=.cells #[.bool true,.string a0_1,.string a0_2,.int .i64 a0_3] 55 (0,0)) qnc7_ hb);have n1_:=M_ (below_step qnc60_ hb);have n2_:=M_ (hbox);have n3_:=M_ ((by rw [hg];exact (below_size qnc60_):w.heap.size≤gb110));have n4_:=n3_;have n5_:=M_ ((by rw [hg];exact Nat.ne_of_lt (blk_lt (g:=gb109) (o:=.cells #[.bool true,.string a0_1,.string a0_2,.int .i64 a0_3] 55 (0,0)) qnc7_):gb109 ≠ gb110));have n6_:=M_ ((by rw [hg];exact Nat.ne_of_gt (blk_lt (g:=gb109) (o:=.cells #[.bool true,.string a0_1,.string a0_2,.int .i64 a0_3] 55 (0,0)) qnc7_):gb110 ≠ gb109));clear BK109;clear HB;have BK109:=n0_;have HB:=n1_;have BK110:=n2_;have GW110:=n3_;have GE110:=n4_;have NB109_110:=n5_;have NB110_109:=n6_;clear n0_ n1_ n2_ n3_ n4_ n5_ n6_;clear hb hbox hg))
   have n0_:=M_ (blk_drew BK109.out);have n1_:=M_ (blk_drew BK110.out);have n2_:=M_ (below_drew1 HB.out);clear BK109;clear BK110;clear HB;have BK109:=n0_;have BK110:=n1_;have HB:=n2_;clear n0_ n1_ n2_;refine start_ (n:=11) (S:=fun w' => w'.cell? ⟨gb109,0,none⟩=some (.bool true)∧w'.cell? ⟨gb109,1,none⟩=some (.string a0_1)∧w'.cell? ⟨gb109,2,none⟩=some (.string a0_2)∧w'.cell? ⟨gb109,3,none⟩=some (.int .i64 a0_3)) (ds:=[]) #[false,false,false,false,false,false,false,false,false,false,false] (by kernel_rfl) rfl rfl ⟨(blk_cell BK109.out 0).trans rfl,(blk_cell BK109.out 1).trans rfl,(blk_cell BK109.out 2).trans rfl,(blk_cell BK109.out 3).trans rfl⟩ (fun hHeld => ?_);refine with_tabW n_decimal.tab1 n_decimal.bits1 (fun HT_ HW_ => ?_)
   generalize w7.drew=w8 at BK109 BK110 HB hHeld ⊢
   refine pure_ (i:=0) (N:=some 4) (v:=?_) (a':=?_) #[true,false,false,false,false,false,false,false,false,false,false] rfl rfl (any_of HT_.out (by kernel_rfl)) (fun _ _ _ h => h) (Or.inl ⟨by rfl,?_⟩) ?_ ?_
   rotate_left
   ·intro w'
    go_simp
    with_reducible rfl
   rotate_left
   ·simp only [Act.put,sA_,sZ_,sS_,i64_w,i32_w]
    rfl
   refine pure_ (i:=3) (N:=some 7) (v:=?_) (a':=?_) #[true,false,false,true,false,false,false,false,false,false,false] rfl rfl (any_of HT_.out (by kernel_rfl)) (fun _ _ _ h => h) (Or.inl ⟨by rfl,?_⟩) ?_ ?_
   rotate_left
   ·intro w'
    go_simp
    with_reducible rfl
   rotate_left
   ·simp only [Act.put,sA_,sZ_,sS_,i64_w,i32_w]
    rfl
   refine pure_ (i:=6) (N:=some 10) (v:=?_) (a':=?_) #[true,false,false,true,false,false,true,false,false,false,false] rfl rfl (any_of HT_.out (by kernel_rfl)) (fun _ _ _ h => h) (Or.inl ⟨by rfl,?_⟩) ?_ ?_
   rotate_left
   ·intro w'
    go_simp
    with_reducible rfl
   rotate_left
   ·simp only [Act.put,sA_,sZ_,sS_,i64_w,i32_w]
    rfl
   refine take_ (i:=1) (N:=some 5) (v:=?_) (a':=?_) #[true,true,false,true,false,false,true,false,false,false,false] rfl rfl (take_ofW HT_.out HW_.out (by kernel_rfl)) (fun _ _ _ h => h) (Or.inl ⟨by rfl,?_⟩) hHeld ?_ ?_
   rotate_left
   ·rintro w' ⟨s0,s1,s2,s3⟩
    go_simp
    with_reducible rfl
   rotate_left
   ·simp only [Act.put,sA_,sZ_,sS_,i64_w,i32_w]
    rfl
   refine take_ (i:=4) (N:=some 8) (v:=?_) (a':=?_) #[true,true,false,true,true,false,true,false,false,false,false] rfl rfl (take_ofW HT_.out HW_.out (by kernel_rfl)) (fun _ _ _ h => h) (Or.inl ⟨by rfl,?_⟩) hHeld ?_ ?_
   rotate_left
   ·rintro w' ⟨s0,s1,s2,s3⟩
    go_simp
    with_reducible rfl
   rotate_left
   ·simp only [Act.put,sA_,sZ_,sS_,i64_w,i32_w]
    rfl
   refine take_ (i:=7) (N:=some 11) (v:=?_) (a':=?_) #[true,true,false,true,true,false,true,true,false,false,false] rfl rfl (take_ofW HT_.out HW_.out (by kernel_rfl)) (fun _ _ _ h => h) (Or.inl ⟨by rfl,?_⟩) hHeld ?_ ?_
   rotate_left
   ·rintro w' ⟨s0,s1,s2,s3⟩
    go_simp
    with_reducible rfl
   rotate_left
   ·simp only [Act.put,sA_,sZ_,sS_,i64_w,i32_w]
    rfl
   refine join_ (σ:=Nat) 1 #[true,true,true,true,true,true,true,true,true,true,false] (fun s_ => [(6,.string t111),(9,.string t112),(3,.pointer (some ⟨s_,0,none⟩)),(12,.agg #[.bool false,.string t111,.string t112,.int .i64 a0_3])]) (fun s_ w' => (w'.cell? ⟨gb109,0,none⟩=some (.bool true)∧w'.cell? ⟨gb109,1,none⟩=some (.string a0_1)∧w'.cell? ⟨gb109,2,none⟩=some (.string a0_2)∧w'.cell? ⟨gb109,3,none⟩=some (.int .i64 a0_3))∧(w'.heap[gb109]?=some (.cells #[.bool true,.string a0_1,.string a0_2,.int .i64 a0_3] 55 (0,0)))∧(w'.heap[gb110]?=some (.cells #[.bool false,.string ⟨#[]⟩,.string ⟨#[]⟩,.int .i64 0] 25 (0,0)))∧(w'.heap[s_]?=some (.cells #[.bool false,.string ⟨#[]⟩,.string ⟨#[]⟩,.int .i64 0] 25 (0,0)))∧(w.heap.size≤s_)∧(w.heap.size≤s_)∧(gb109 ≠ s_)∧(s_ ≠ gb109)∧(gb110 ≠ s_)∧(s_ ≠ gb110)∧(Below w.heap.size w w')) ?_ ?_
   rotate_left
   ·intro hCont
    refine two_ (i:=2) (j:=9) (Ni:=some 6) (Nj:=some 3) #[true,true,true,true,true,false,true,true,false,false,false] #[true,true,false,true,true,false,true,true,false,true,false] rfl rfl rfl rfl (two_of HT_.out (by kernel_rfl)) (by decide) (by decide) (fun K hK => ?_) (fun K hK => ?_)
    ·skip
     refine goes_ Tryd.func66 (by kernel_rfl) rfl #[.string a0_1,.string (⟨#[48]⟩:ByteArray)] (by rfl) rfl rfl qnc0_ ?_
     with_reducible refine (strings_TrimLeft.calls k a0_1 (⟨#[48]⟩:ByteArray) t111 _ A2.out).mono ?_
     rintro e w9 ⟨rfl,hb⟩
     refine ⟨_,rfl,?_⟩;have n0_:=M_ (blk_below (g:=gb109) (o:=.cells #[.bool true,.string a0_1,.string a0_2,.int .i64 a0_3] 55 (0,0)) qnc7_ hb);have n1_:=M_ (blk_below (g:=gb110) (o:=.cells #[.bool false,.string ⟨#[]⟩,.string ⟨#[]⟩,.int .i64 0] 25 (0,0)) qnc10_ hb);have n2_:=M_ (below_step qnc6_ hb);clear BK109;clear BK110;clear HB;have BK109:=n0_;have BK110:=n1_;have HB:=n2_;clear n0_ n1_ n2_
     (try clear hb)
     refine hK.out _ _ ⟨(blk_cell BK109.out 0).trans rfl,(blk_cell BK109.out 1).trans rfl,(blk_cell BK109.out 2).trans rfl,(blk_cell BK109.out 3).trans rfl⟩ (fun hHeld => ?_);clear hK K;refine norm_ (a':=?_) ?_ ?_
     rotate_left
     ·show Act.put _ (some 6) _=_
      simp only [Act.put,sA_,sZ_,sS_,i64_w,i32_w]
      rfl
     refine two_ (i:=5) (j:=9) (Ni:=some 9) (Nj:=some 3) #[true,true,true,true,true,true,true,true,false,false,false] #[true,true,true,true,true,false,true,true,false,true,false] rfl rfl rfl rfl (two_of HT_.out (by kernel_rfl)) (by decide) (by decide) (fun K hK => ?_) (fun K hK => ?_)
     ·skip
      refine goes_ Tryd.func67 (by kernel_rfl) rfl #[.string a0_2,.string (⟨#[48]⟩:ByteArray)] (by rfl) rfl rfl qnc0_ ?_
      with_reducible refine (strings_TrimRight.calls k a0_2 (⟨#[48]⟩:ByteArray) t112 _ A3.out).mono ?_
      rintro e w10 ⟨rfl,hb⟩
      refine ⟨_,rfl,?_⟩;have n0_:=M_ (blk_below (g:=gb109) (o:=.cells #[.bool true,.string a0_1,.string a0_2,.int .i64 a0_3] 55 (0,0)) qnc7_ hb);have n1_:=M_ (blk_below (g:=gb110) (o:=.cells #[.bool false,.string ⟨#[]⟩,.string ⟨#[]⟩,.int .i64 0] 25 (0,0)) qnc10_ hb);have n2_:=M_ (below_step qnc6_ hb);clear BK109;clear BK110;clear HB;have BK109:=n0_;have BK110:=n1_;have HB:=n2_;clear n0_ n1_ n2_
      (try clear hb)
      refine hK.out _ _ ⟨(blk_cell BK109.out 0).trans rfl,(blk_cell BK109.out 1).trans rfl,(blk_cell BK109.out 2).trans rfl,(blk_cell BK109.out 3).trans rfl⟩ (fun hHeld => ?_);clear hK K;refine norm_ (a':=?_) ?_ ?_
      rotate_left
      ·show Act.put _ (some 9) _=_
       simp only [Act.put,sA_,sZ_,sS_,i64_w,i32_w]
       rfl
      refine pure_ (i:=8) (N:=some 12) (v:=?_) (a':=?_) #[true,true,true,true,true,true,true,true,true,false,false] rfl rfl (any_of HT_.out (by kernel_rfl)) (fun _ _ _ h => h) (Or.inl ⟨by rfl,?_⟩) ?_ ?_
      rotate_left
      ·intro w'
       go_simp
       with_reducible rfl
      rotate_left
      ·simp only [Act.put,sA_,sZ_,sS_,i64_w,i32_w]
       rfl
      refine one_ (i:=9) (N:=some 3) #[true,true,true,true,true,true,true,true,true,true,false] rfl rfl (one_of HT_.out (by kernel_rfl)) (by decide) (fun K hK => ?_);refine box_step ?hg (N:=3) ?hd (cs:=#[.bool false,.string ⟨#[]⟩,.string ⟨#[]⟩,.int .i64 0]) (t:=25) ?hr ?_;(case hd => rfl);(case hg => rfl);(case hr => first|(go_simp;done)|(go_simp;rfl))
      intro gb113 hg w11 hbox hb
      have n0_:=M_ (blk_below (g:=gb109) (o:=.cells #[.bool true,.string a0_1,.string a0_2,.int .i64 a0_3] 55 (0,0)) qnc7_ hb);have n1_:=M_ (blk_below (g:=gb110) (o:=.cells #[.bool false,.string ⟨#[]⟩,.string ⟨#[]⟩,.int .i64 0] 25 (0,0)) qnc10_ hb);have n2_:=M_ (below_step qnc6_ hb);have n3_:=M_ (hbox);have n4_:=M_ ((by rw [hg];exact (below_size qnc6_):w.heap.size≤gb113));have n5_:=M_ ((by rw [hg];exact (below_size qnc6_):w.heap.size≤gb113));have n6_:=M_ ((by rw [hg];exact Nat.ne_of_lt (blk_lt (g:=gb109) (o:=.cells #[.bool true,.string a0_1,.string a0_2,.int .i64 a0_3] 55 (0,0)) qnc7_):gb109 ≠ gb113));have n7_:=M_ ((by rw [hg];exact Nat.ne_of_gt (blk_lt (g:=gb109) (o:=.cells #[.bool true,.string a0_1,.string a0_2,.int .i64 a0_3] 55 (0,0)) qnc7_):gb113 ≠ gb109));have n8_:=M_ ((by rw [hg];exact Nat.ne_of_lt (blk_lt (g:=gb110) (o:=.cells #[.bool false,.string ⟨#[]⟩,.string ⟨#[]⟩,.int .i64 0] 25 (0,0)) qnc10_):gb110 ≠ gb113));have n9_:=M_ ((by rw [hg];exact Nat.ne_of_gt (blk_lt (g:=gb110) (o:=.cells #[.bool false,.string ⟨#[]⟩,.string ⟨#[]⟩,.int .i64 0] 25 (0,0)) qnc10_):gb113 ≠ gb110));clear BK109;clear BK110;clear HB;have BK109:=n0_;have BK110:=n1_;have HB:=n2_;have BK113:=n3_;have GW113:=n4_;have GE113:=n5_;have NB109_113:=n6_;have NB113_109:=n7_;have NB110_113:=n8_;have NB113_110:=n9_;clear n0_ n1_ n2_ n3_ n4_ n5_ n6_ n7_ n8_ n9_;clear hb hbox hg;refine hK.out _ _ ⟨(blk_cell BK109.out 0).trans rfl,(blk_cell BK109.out 1).trans rfl,(blk_cell BK109.out 2).trans rfl,(blk_cell BK109.out 3).trans rfl⟩ (fun hHeld => ?_);clear hK K;refine norm_ (a':=?_) ?_ ?_
      rotate_left
      ·show Act.put _ (some 3) _=_
       simp only [Act.put,sA_,sZ_,sS_,i64_w,i32_w]
       rfl
      exact norm_ qnc35_ (hCont (gb113) _ ⟨hHeld,qnc7_,qnc10_,qnc34_,GW113.out,GE113.out,NB109_113.out,NB113_109.out,NB110_113.out,NB113_110.out,qnc9_⟩)
     ·skip
      refine box_step ?hg (N:=3) ?hd (cs:=#[.bool false,.string ⟨#[]⟩,.string ⟨#[]⟩,.int .i64 0]) (t:=25) ?hr ?_;(case hd => rfl);(case hg => rfl);(case hr => first|(go_simp;done)|(go_simp;rfl))
      intro gb113 hg w10 hbox hb
      have n0_:=M_ (blk_below (g:=gb109) (o:=.cells #[.bool true,.string a0_1,.string a0_2,.int .i64 a0_3] 55 (0,0)) qnc7_ hb);have n1_:=M_ (blk_below (g:=gb110) (o:=.cells #[.bool false,.string ⟨#[]⟩,.string ⟨#[]⟩,.int .i64 0] 25 (0,0)) qnc10_ hb);have n2_:=M_ (below_step qnc6_ hb);have n3_:=M_ (hbox);have n4_:=M_ ((by rw [hg];exact (below_size qnc6_):w.heap.size≤gb113));have n5_:=M_ ((by rw [hg];exact (below_size qnc6_):w.heap.size≤gb113));have n6_:=M_ ((by rw [hg];exact Nat.ne_of_lt (blk_lt (g:=gb109) (o:=.cells #[.bool true,.string a0_1,.string a0_2,.int .i64 a0_3] 55 (0,0)) qnc7_):gb109 ≠ gb113));have n7_:=M_ ((by rw [hg];exact Nat.ne_of_gt (blk_lt (g:=gb109) (o:=.cells #[.bool true,.string a0_1,.string a0_2,.int .i64 a0_3] 55 (0,0)) qnc7_):gb113 ≠ gb109));have n8_:=M_ ((by rw [hg];exact Nat.ne_of_lt (blk_lt (g:=gb110) (o:=.cells #[.bool false,.string ⟨#[]⟩,.string ⟨#[]⟩,.int .i64 0] 25 (0,0)) qnc10_):gb110 ≠ gb113));have n9_:=M_ ((by rw [hg];exact Nat.ne_of_gt (blk_lt (g:=gb110) (o:=.cells #[.bool false,.string ⟨#[]⟩,.string ⟨#[]⟩,.int .i64 0] 25 (0,0)) qnc10_):gb113 ≠ gb110));clear BK109;clear BK110;clear HB;have BK109:=n0_;have BK110:=n1_;have HB:=n2_;have BK113:=n3_;have GW113:=n4_;have GE113:=n5_;have NB109_113:=n6_;have NB113_109:=n7_;have NB110_113:=n8_;have NB113_110:=n9_;clear n0_ n1_ n2_ n3_ n4_ n5_ n6_ n7_ n8_ n9_;clear hb hbox hg;refine hK.out _ _ ⟨(blk_cell BK109.out 0).trans rfl,(blk_cell BK109.out 1).trans rfl,(blk_cell BK109.out 2).trans rfl,(blk_cell BK109.out 3).trans rfl⟩ (fun hHeld => ?_);clear hK K;refine norm_ (a':=?_) ?_ ?_
      rotate_left
      ·show Act.put _ (some 3) _=_
       simp only [Act.put,sA_,sZ_,sS_,i64_w,i32_w]
       rfl
      refine one_ (i:=5) (N:=some 9) #[true,true,true,true,true,true,true,true,false,true,false] rfl rfl (one_of HT_.out (by kernel_rfl)) (by decide) (fun K hK => ?_);refine goes_ Tryd.func67 (by kernel_rfl) rfl #[.string a0_2,.string (⟨#[48]⟩:ByteArray)] (by rfl) rfl rfl qnc0_ ?_
      with_reducible refine (strings_TrimRight.calls k a0_2 (⟨#[48]⟩:ByteArray) t112 _ A3.out).mono ?_
      rintro e w11 ⟨rfl,hb⟩
      refine ⟨_,rfl,?_⟩;have n0_:=M_ (blk_below (g:=gb109) (o:=.cells #[.bool true,.string a0_1,.string a0_2,.int .i64 a0_3] 55 (0,0)) qnc7_ hb);have n1_:=M_ (blk_below (g:=gb110) (o:=.cells #[.bool false,.string ⟨#[]⟩,.string ⟨#[]⟩,.int .i64 0] 25 (0,0)) qnc10_ hb);have n2_:=M_ (blk_below (g:=gb113) (o:=.cells #[.bool false,.string ⟨#[]⟩,.string ⟨#[]⟩,.int .i64 0] 25 (0,0)) qnc34_ hb);have n3_:=M_ (below_step qnc9_ hb);clear BK109;clear BK110;clear BK113;clear HB;have BK109:=n0_;have BK110:=n1_;have BK113:=n2_;have HB:=n3_;clear n0_ n1_ n2_ n3_
      (try clear hb)
      refine hK.out _ _ ⟨(blk_cell BK109.out 0).trans rfl,(blk_cell BK109.out 1).trans rfl,(blk_cell BK109.out 2).trans rfl,(blk_cell BK109.out 3).trans rfl⟩ (fun hHeld => ?_);clear hK K;refine norm_ (a':=?_) ?_ ?_
      rotate_left
      ·show Act.put _ (some 9) _=_
       simp only [Act.put,sA_,sZ_,sS_,i64_w,i32_w]
       rfl
      refine pure_ (i:=8) (N:=some 12) (v:=?_) (a':=?_) #[true,true,true,true,true,true,true,true,true,true,false] rfl rfl (any_of HT_.out (by kernel_rfl)) (fun _ _ _ h => h) (Or.inl ⟨by rfl,?_⟩) ?_ ?_
      rotate_left
      ·intro w'
       go_simp
       with_reducible rfl
      rotate_left
      ·simp only [Act.put,sA_,sZ_,sS_,i64_w,i32_w]
       rfl
      exact norm_ qnc35_ (hCont (gb113) _ ⟨hHeld,qnc7_,qnc10_,qnc34_,GW113.out,GE113.out,NB109_113.out,NB113_109.out,NB110_113.out,NB113_110.out,qnc9_⟩)
    ·skip
     refine box_step ?hg (N:=3) ?hd (cs:=#[.bool false,.string ⟨#[]⟩,.string ⟨#[]⟩,.int .i64 0]) (t:=25) ?hr ?_;(case hd => rfl);(case hg => rfl);(case hr => first|(go_simp;done)|(go_simp;rfl))
     intro gb113 hg w9 hbox hb
     have n0_:=M_ (blk_below (g:=gb109) (o:=.cells #[.bool true,.string a0_1,.string a0_2,.int .i64 a0_3] 55 (0,0)) qnc7_ hb);have n1_:=M_ (blk_below (g:=gb110) (o:=.cells #[.bool false,.string ⟨#[]⟩,.string ⟨#[]⟩,.int .i64 0] 25 (0,0)) qnc10_ hb);have n2_:=M_ (below_step qnc6_ hb);have n3_:=M_ (hbox);have n4_:=M_ ((by rw [hg];exact (below_size qnc6_):w.heap.size≤gb113));have n5_:=M_ ((by rw [hg];exact (below_size qnc6_):w.heap.size≤gb113));have n6_:=M_ ((by rw [hg];exact Nat.ne_of_lt (blk_lt (g:=gb109) (o:=.cells #[.bool true,.string a0_1,.string a0_2,.int .i64 a0_3] 55 (0,0)) qnc7_):gb109 ≠ gb113));have n7_:=M_ ((by rw [hg];exact Nat.ne_of_gt (blk_lt (g:=gb109) (o:=.cells #[.bool true,.string a0_1,.string a0_2,.int .i64 a0_3] 55 (0,0)) qnc7_):gb113 ≠ gb109));have n8_:=M_ ((by rw [hg];exact Nat.ne_of_lt (blk_lt (g:=gb110) (o:=.cells #[.bool false,.string ⟨#[]⟩,.string ⟨#[]⟩,.int .i64 0] 25 (0,0)) qnc10_):gb110 ≠ gb113));have n9_:=M_ ((by rw [hg];exact Nat.ne_of_gt (blk_lt (g:=gb110) (o:=.cells #[.bool false,.string ⟨#[]⟩,.string ⟨#[]⟩,.int .i64 0] 25 (0,0)) qnc10_):gb113 ≠ gb110));clear BK109;clear BK110;clear HB;have BK109:=n0_;have BK110:=n1_;have HB:=n2_;have BK113:=n3_;have GW113:=n4_;have GE113:=n5_;have NB109_113:=n6_;have NB113_109:=n7_;have NB110_113:=n8_;have NB113_110:=n9_;clear n0_ n1_ n2_ n3_ n4_ n5_ n6_ n7_ n8_ n9_;clear hb hbox hg;refine hK.out _ _ ⟨(blk_cell BK109.out 0).trans rfl,(blk_cell BK109.out 1).trans rfl,(blk_cell BK109.out 2).trans rfl,(blk_cell BK109.out 3).trans rfl⟩ (fun hHeld => ?_);clear hK K;refine norm_ (a':=?_) ?_ ?_
     rotate_left
     ·show Act.put _ (some 3) _=_
      simp only [Act.put,sA_,sZ_,sS_,i64_w,i32_w]
      rfl
     refine one_ (i:=2) (N:=some 6) #[true,true,true,true,true,false,true,true,false,true,false] rfl rfl (one_of HT_.out (by kernel_rfl)) (by decide) (fun K hK => ?_);refine goes_ Tryd.func66 (by kernel_rfl) rfl #[.string a0_1,.string (⟨#[48]⟩:ByteArray)] (by rfl) rfl rfl qnc0_ ?_
     with_reducible refine (strings_TrimLeft.calls k a0_1 (⟨#[48]⟩:ByteArray) t111 _ A2.out).mono ?_
     rintro e w10 ⟨rfl,hb⟩
     refine ⟨_,rfl,?_⟩;have n0_:=M_ (blk_below (g:=gb109) (o:=.cells #[.bool true,.string a0_1,.string a0_2,.int .i64 a0_3] 55 (0,0)) qnc7_ hb);have n1_:=M_ (blk_below (g:=gb110) (o:=.cells #[.bool false,.string ⟨#[]⟩,.string ⟨#[]⟩,.int .i64 0] 25 (0,0)) qnc10_ hb);have n2_:=M_ (blk_below (g:=gb113) (o:=.cells #[.bool false,.string ⟨#[]⟩,.string ⟨#[]⟩,.int .i64 0] 25 (0,0)) qnc34_ hb);have n3_:=M_ (below_step qnc9_ hb);clear BK109;clear BK110;clear BK113;clear HB;have BK109:=n0_;have BK110:=n1_;have BK113:=n2_;have HB:=n3_;clear n0_ n1_ n2_ n3_
     (try clear hb)
     refine hK.out _ _ ⟨(blk_cell BK109.out 0).trans rfl,(blk_cell BK109.out 1).trans rfl,(blk_cell BK109.out 2).trans rfl,(blk_cell BK109.out 3).trans rfl⟩ (fun hHeld => ?_);clear hK K;refine norm_ (a':=?_) ?_ ?_
     rotate_left
     ·show Act.put _ (some 6) _=_
      simp only [Act.put,sA_,sZ_,sS_,i64_w,i32_w]
      rfl
     refine one_ (i:=5) (N:=some 9) #[true,true,true,true,true,true,true,true,false,true,false] rfl rfl (one_of HT_.out (by kernel_rfl)) (by decide) (fun K hK => ?_);refine goes_ Tryd.func67 (by kernel_rfl) rfl #[.string a0_2,.string (⟨#[48]⟩:ByteArray)] (by rfl) rfl rfl qnc0_ ?_
     with_reducible refine (strings_TrimRight.calls k a0_2 (⟨#[48]⟩:ByteArray) t112 _ A3.out).mono ?_
     rintro e w11 ⟨rfl,hb⟩
     refine ⟨_,rfl,?_⟩;have n0_:=M_ (blk_below (g:=gb109) (o:=.cells #[.bool true,.string a0_1,.string a0_2,.int .i64 a0_3] 55 (0,0)) qnc7_ hb);have n1_:=M_ (blk_below (g:=gb110) (o:=.cells #[.bool false,.string ⟨#[]⟩,.string ⟨#[]⟩,.int .i64 0] 25 (0,0)) qnc10_ hb);have n2_:=M_ (blk_below (g:=gb113) (o:=.cells #[.bool false,.string ⟨#[]⟩,.string ⟨#[]⟩,.int .i64 0] 25 (0,0)) qnc34_ hb);have n3_:=M_ (below_step qnc9_ hb);clear BK109;clear BK110;clear BK113;clear HB;have BK109:=n0_;have BK110:=n1_;have BK113:=n2_;have HB:=n3_;clear n0_ n1_ n2_ n3_
     (try clear hb)
     refine hK.out _ _ ⟨(blk_cell BK109.out 0).trans rfl,(blk_cell BK109.out 1).trans rfl,(blk_cell BK109.out 2).trans rfl,(blk_cell BK109.out 3).trans rfl⟩ (fun hHeld => ?_);clear hK K;refine norm_ (a':=?_) ?_ ?_
     rotate_left
     ·show Act.put _ (some 9) _=_
      simp only [Act.put,sA_,sZ_,sS_,i64_w,i32_w]
      rfl
     refine pure_ (i:=8) (N:=some 12) (v:=?_) (a':=?_) #[true,true,true,true,true,true,true,true,true,true,false] rfl rfl (any_of HT_.out (by kernel_rfl)) (fun _ _ _ h => h) (Or.inl ⟨by rfl,?_⟩) ?_ ?_
     rotate_left
     ·intro w'
      go_simp
      with_reducible rfl
     rotate_left
     ·simp only [Act.put,sA_,sZ_,sS_,i64_w,i32_w]
      rfl
     exact norm_ qnc35_ (hCont (gb113) _ ⟨hHeld,qnc7_,qnc10_,qnc34_,GW113.out,GE113.out,NB109_113.out,NB113_109.out,NB110_113.out,NB113_110.out,qnc9_⟩)
   rintro gb113 w12 ⟨hS_,h0_,h1_,h2_,h3_,h4_,h5_,h6_,h7_,h8_,h9_⟩
   have n0_:Aside0 (w12.heap[gb109]?=some (.cells #[.bool true,.string a0_1,.string a0_2,.int .i64 a0_3] 55 (0,0))):=⟨h0_⟩;have n1_:Aside0 (w12.heap[gb110]?=some (.cells #[.bool false,.string ⟨#[]⟩,.string ⟨#[]⟩,.int .i64 0] 25 (0,0))):=⟨h1_⟩;have n2_:Aside0 (w12.heap[gb113]?=some (.cells #[.bool false,.string ⟨#[]⟩,.string ⟨#[]⟩,.int .i64 0] 25 (0,0))):=⟨h2_⟩;have n3_:Aside0 (w.heap.size≤gb113):=⟨h3_⟩;have n4_:Aside0 (w.heap.size≤gb113):=⟨h4_⟩;have n5_:Aside0 (gb109 ≠ gb113):=⟨h5_⟩;have n6_:Aside0 (gb113 ≠ gb109):=⟨h6_⟩;have n7_:Aside0 (gb110 ≠ gb113):=⟨h7_⟩;have n8_:Aside0 (gb113 ≠ gb110):=⟨h8_⟩;have n9_:Aside0 (Below w.heap.size w w12):=⟨h9_⟩;clear BK109;clear BK110;clear HB;clear h0_ h1_ h2_ h3_ h4_ h5_ h6_ h7_ h8_ h9_;have BK109:=n0_;have BK110:=n1_;have BK113:=n2_;have GW113:=n3_;have GE113:=n4_;have NB109_113:=n5_;have NB113_109:=n6_;have NB110_113:=n7_;have NB113_110:=n8_;have HB:=n9_;clear n0_ n1_ n2_ n3_ n4_ n5_ n6_ n7_ n8_ n9_;have hHeld:w12.cell? ⟨gb109,0,none⟩=some (.bool true)∧w12.cell? ⟨gb109,1,none⟩=some (.string a0_1)∧w12.cell? ⟨gb109,2,none⟩=some (.string a0_2)∧w12.cell? ⟨gb109,3,none⟩=some (.int .i64 a0_3):=hS_;refine norm_ (a':=?_) ?_ ?_
   rotate_left
   ·simp only [putAll,Act.put,List.setIfInBounds_toArray,List.set_cons_zero,List.set_cons_succ]
    rfl
   refine one_ (i:=10) (N:=none) #[true,true,true,true,true,true,true,true,true,true,true] rfl rfl (one_of HT_.out (by kernel_rfl)) (by decide) (fun K hK => ?_);have hs13:w12.cell? ⟨gb113,0,none⟩=some (.bool false):=(blk_cell BK113.out 0).trans rfl;have hfs13:=bf_ BK113.out 0;have hns13_0:=NB109_113.out;have hns13_1:=NB110_113.out;have hms13_0:=NB113_109.out;have hms13_1:=NB113_110.out;have hs14:w12.cell? ⟨gb113,1,none⟩=some (.string ⟨#[]⟩):=(blk_cell BK113.out 1).trans rfl;have hfs14:=bf_ BK113.out 1;have hns14_0:=NB109_113.out;have hns14_1:=NB110_113.out;have hms14_0:=NB113_109.out;have hms14_1:=NB113_110.out;have hs15:w12.cell? ⟨gb113,2,none⟩=some (.string ⟨#[]⟩):=(blk_cell BK113.out 2).trans rfl;have hfs15:=bf_ BK113.out 2;have hns15_0:=NB109_113.out;have hns15_1:=NB110_113.out;have hms15_0:=NB113_109.out;have hms15_1:=NB113_110.out;have hs16:w12.cell? ⟨gb113,3,none⟩=some (.int .i64 0):=(blk_cell BK113.out 3).trans rfl;have hfs16:=bf_ BK113.out 3;have hns16_0:=NB109_113.out;have hns16_1:=NB110_113.out;have hms16_0:=NB113_109.out;have hms16_1:=NB113_110.out;refine skip_ (w1:=?_) (by rfl) rfl ?_ ?_
   rotate_left
   ·go_simp
    rfl
   refine hK.out _ _ ⟨((cell_far (p:=⟨gb113,_,none⟩) NB109_113.out _).trans (((cell_far (p:=⟨gb113,_,none⟩) NB109_113.out _).trans (((cell_far (p:=⟨gb113,_,none⟩) NB109_113.out _).trans (((cell_far (p:=⟨gb113,_,none⟩) NB109_113.out _).trans (hHeld.1)))))))),((cell_far (p:=⟨gb113,_,none⟩) NB109_113.out _).trans (((cell_far (p:=⟨gb113,_,none⟩) NB109_113.out _).trans (((cell_far (p:=⟨gb113,_,none⟩) NB109_113.out _).trans (((cell_far (p:=⟨gb113,_,none⟩) NB109_113.out _).trans (hHeld.2.1)))))))),((cell_far (p:=⟨gb113,_,none⟩) NB109_113.out _).trans (((cell_far (p:=⟨gb113,_,none⟩) NB109_113.out _).trans (((cell_far (p:=⟨gb113,_,none⟩) NB109_113.out _).trans (((cell_far (p:=⟨gb113,_,none⟩) NB109_113.out _).trans (hHeld.2.2.1)))))))),((cell_far (p:=⟨gb113,_,none⟩) NB109_113.out _).trans (((cell_far (p:=⟨gb113,_,none⟩) NB109_113.out _).trans (((cell_far (p:=⟨gb113,_,none⟩) NB109_113.out _).trans (((cell_far (p:=⟨gb113,_,none⟩) NB109_113.out _).trans (hHeld.2.2.2))))))))⟩ (fun hHeld => ?_);clear hK K;refine done_ (done_of HT_.out (by kernel_rfl)) ?_;have hnb17:=NB109_110.out;have hnc17:=NB110_109.out;have hnb18:=NB109_113.out;have hnc18:=NB113_109.out;have hcz19_0:=bc_ (.bool true) BK109.out 0 rfl;have hcz19_1:=bc_ (.string a0_1) BK109.out 1 rfl;have hcz19_2:=bc_ (.string a0_2) BK109.out 2 rfl;have hcz19_3:=bc_ (.int .i64 a0_3) BK109.out 3 rfl;have hfz19_0:=bf_ BK109.out 0;have hfz19_1:=bf_ BK109.out 1;have hfz19_2:=bf_ BK109.out 2;have hfz19_3:=bf_ BK109.out 3;have hnb20:=NB113_110.out;have hnc20:=NB110_113.out;have hcz21_0:=bc_ (.bool false) BK113.out 0 rfl;have hcz21_1:=bc_ (.string ⟨#[]⟩) BK113.out 1 rfl;have hcz21_2:=bc_ (.string ⟨#[]⟩) BK113.out 2 rfl;have hcz21_3:=bc_ (.int .i64 0) BK113.out 3 rfl;have hfz21_0:=bf_ BK113.out 0;have hfz21_1:=bf_ BK113.out 1;have hfz21_2:=bf_ BK113.out 2;have hfz21_3:=bf_ BK113.out 3;have hcz22_0:=bc_ (.bool false) BK110.out 0 rfl;have hcz22_1:=bc_ (.string ⟨#[]⟩) BK110.out 1 rfl;have hcz22_2:=bc_ (.string ⟨#[]⟩) BK110.out 2 rfl;have hcz22_3:=bc_ (.int .i64 0) BK110.out 3 rfl;have hfz22_0:=bf_ BK110.out 0;have hfz22_1:=bf_ BK110.out 1;have hfz22_2:=bf_ BK110.out 2;have hfz22_3:=bf_ BK110.out 3
   try go_wp2
   refine bodyPost_ret (results_cell_row rfl _ _ gb110 25 #[.bool (!t112.toList.isEmpty),.string t111,.string t112,.int .i64 a0_3] (0,0) _ rfl (by (with_reducible repeat first|apply bN_|apply bD_|apply bA_);refine blk_put (cs:=#[.bool (!t112.toList.isEmpty),.string t111,.string t112,.int .i64 0]) ?_ 3 _ rfl;(with_reducible repeat first|apply bN_|apply bD_|apply bA_);refine blk_put (cs:=#[.bool (!t112.toList.isEmpty),.string t111,.string ⟨#[]⟩,.int .i64 0]) ?_ 2 _ rfl;(with_reducible repeat first|apply bN_|apply bD_|apply bA_);refine blk_put (cs:=#[.bool (!t112.toList.isEmpty),.string ⟨#[]⟩,.string ⟨#[]⟩,.int .i64 0]) ?_ 1 _ rfl;(with_reducible repeat first|apply bN_|apply bD_|apply bA_);refine blk_put (cs:=#[.bool false,.string ⟨#[]⟩,.string ⟨#[]⟩,.int .i64 0]) ?_ 0 _ rfl;(with_reducible repeat first|apply bN_|apply bD_|apply bA_);refine blk_far ?_ NB110_113.out _;(with_reducible repeat first|apply bN_|apply bD_|apply bA_);refine blk_far ?_ NB110_113.out _;(with_reducible repeat first|apply bN_|apply bD_|apply bA_);refine blk_far ?_ NB110_113.out _;(with_reducible repeat first|apply bN_|apply bD_|apply bA_);refine blk_far ?_ NB110_113.out _;(with_reducible repeat first|apply bN_|apply bD_|apply bA_);refine blk_far ?_ NB110_113.out _;(with_reducible repeat first|apply bN_|apply bD_|apply bA_);exact BK110.out) Tryd.underlying25 rfl (by kernel_rfl)) rfl ?_;exact ⟨qnc5_,qnc9_⟩
  ·rw [if_neg c5] at H;have c5b0:(t111.toList == ([]:List UInt8))=false:=bF_ c5;have c5b1:(t111.toList != ([]:List UInt8))=true:=bne_iff_ne.mpr c5;simp only [Option.some.injEq,Prod.mk.injEq] at H;obtain ⟨rfl,rfl,rfl,rfl⟩:=H
   go_enter Tryd.func32,Tryd.ntmps32
   have tk42:=trivial;have tk43:=trivial
   try go_wp2_with (first|(clear tk42;(with_reducible refine gate_dst (N:=1) rfl ?_);refine box_event ?hg (N:=1) ?hd (cs:=#[.bool true,.string a0_1,.string a0_2,.int .i64 a0_3]) (t:=55) ?hr ?_;(case hd => rfl);(case hg => rfl);(case hr => first|(go_simp;done)|(go_simp;rfl));intro gb109 hg w25 hbox hb;have n0_:=M_ (below_step qnc2_ hb);have n1_:=M_ (hbox);have n2_:=M_ ((by rw [hg];exact (below_size qnc2_):w.heap.size≤gb109));have n3_:=n2_;clear HB;have HB:=n0_;have BK109:=n1_;have GW109:=n2_;have GE109:=n3_;clear n0_ n1_ n2_ n3_;clear hb hbox hg)|(clear tk43;(with_reducible refine gate_dst (N:=2) rfl ?_);refine box_event ?hg (N:=2) ?hd (cs:=#[.bool false,.string ⟨#[]⟩,.string ⟨#[]⟩,.int .i64 0]) (t:=25) ?hr ?_;(case hd => rfl);(case hg => rfl);(case hr => first|(go_simp;done)|(go_simp;rfl));intro gb110 hg w26 hbox hb;have n0_:=M_ (blk_below (g:=gb109) (o:=.cells #[.bool true,.string a0_1,.string a0_2,.int .i64 a0_3] 55 (0,0)) qnc7_ hb);have n1_:=M_ (below_step qnc60_ hb);have n2_:=M_ (hbox);have n3_:=M_ ((by rw [hg];exact (below_size qnc60_):w.heap.size≤gb110));have n4_:=n3_;have n5_:=M_ ((by rw [hg];exact Nat.ne_of_lt (blk_lt (g:=gb109) (o:=.cells #[.bool true,.string a0_1,.string a0_2,.int .i64 a0_3] 55 (0,0)) qnc7_):gb109 ≠ gb110));have n6_:=M_ ((by rw [hg];exact Nat.ne_of_gt (blk_lt (g:=gb109) (o:=.cells #[.bool true,.string a0_1,.string a0_2,.int .i64 a0_3] 55 (0,0)) qnc7_):gb110 ≠ gb109));clear BK109;clear HB;have BK109:=n0_;have HB:=n1_;have BK110:=n2_;have GW110:=n3_;have GE110:=n4_;have NB109_110:=n5_;have NB110_109:=n6_;clear n0_ n1_ n2_ n3_ n4_ n5_ n6_;clear hb hbox hg))
   have n0_:=M_ (blk_drew BK109.out);have n1_:=M_ (blk_drew BK110.out);have n2_:=M_ (below_drew1 HB.out);clear BK109;clear BK110;clear HB;have BK109:=n0_;have BK110:=n1_;have HB:=n2_;clear n0_ n1_ n2_;refine start_ (n:=11) (S:=fun w' => w'.cell? ⟨gb109,0,none⟩=some (.bool true)∧w'.cell? ⟨gb109,1,none⟩=some (.string a0_1)∧w'.cell? ⟨gb109,2,none⟩=some (.string a0_2)∧w'.cell? ⟨gb109,3,none⟩=some (.int .i64 a0_3)) (ds:=[]) #[false,false,false,false,false,false,false,false,false,false,false] (by kernel_rfl) rfl rfl ⟨(blk_cell BK109.out 0).trans rfl,(blk_cell BK109.out 1).trans rfl,(blk_cell BK109.out 2).trans rfl,(blk_cell BK109.out 3).trans rfl⟩ (fun hHeld => ?_);refine with_tabW n_decimal.tab1 n_decimal.bits1 (fun HT_ HW_ => ?_)
   generalize w26.drew=w27 at BK109 BK110 HB hHeld ⊢
   refine pure_ (i:=0) (N:=some 4) (v:=?_) (a':=?_) #[true,false,false,false,false,false,false,false,false,false,false] rfl rfl (any_of HT_.out (by kernel_rfl)) (fun _ _ _ h => h) (Or.inl ⟨by rfl,?_⟩) ?_ ?_
   rotate_left
   ·intro w'
    go_simp
    with_reducible rfl
   rotate_left
   ·simp only [Act.put,sA_,sZ_,sS_,i64_w,i32_w]
    rfl
   refine pure_ (i:=3) (N:=some 7) (v:=?_) (a':=?_) #[true,false,false,true,false,false,false,false,false,false,false] rfl rfl (any_of HT_.out (by kernel_rfl)) (fun _ _ _ h => h) (Or.inl ⟨by rfl,?_⟩) ?_ ?_
   rotate_left
   ·intro w'
    go_simp
    with_reducible rfl
   rotate_left
   ·simp only [Act.put,sA_,sZ_,sS_,i64_w,i32_w]
    rfl
   refine pure_ (i:=6) (N:=some 10) (v:=?_) (a':=?_) #[true,false,false,true,false,false,true,false,false,false,false] rfl rfl (any_of HT_.out (by kernel_rfl)) (fun _ _ _ h => h) (Or.inl ⟨by rfl,?_⟩) ?_ ?_
   rotate_left
   ·intro w'
    go_simp
    with_reducible rfl
   rotate_left
   ·simp only [Act.put,sA_,sZ_,sS_,i64_w,i32_w]
    rfl
   refine take_ (i:=1) (N:=some 5) (v:=?_) (a':=?_) #[true,true,false,true,false,false,true,false,false,false,false] rfl rfl (take_ofW HT_.out HW_.out (by kernel_rfl)) (fun _ _ _ h => h) (Or.inl ⟨by rfl,?_⟩) hHeld ?_ ?_
   rotate_left
   ·rintro w' ⟨s0,s1,s2,s3⟩
    go_simp
    with_reducible rfl
   rotate_left
   ·simp only [Act.put,sA_,sZ_,sS_,i64_w,i32_w]
    rfl
   refine take_ (i:=4) (N:=some 8) (v:=?_) (a':=?_) #[true,true,false,true,true,false,true,false,false,false,false] rfl rfl (take_ofW HT_.out HW_.out (by kernel_rfl)) (fun _ _ _ h => h) (Or.inl ⟨by rfl,?_⟩) hHeld ?_ ?_
   rotate_left
   ·rintro w' ⟨s0,s1,s2,s3⟩
    go_simp
    with_reducible rfl
   rotate_left
   ·simp only [Act.put,sA_,sZ_,sS_,i64_w,i32_w]
    rfl
   refine take_ (i:=7) (N:=some 11) (v:=?_) (a':=?_) #[true,true,false,true,true,false,true,true,false,false,false] rfl rfl (take_ofW HT_.out HW_.out (by kernel_rfl)) (fun _ _ _ h => h) (Or.inl ⟨by rfl,?_⟩) hHeld ?_ ?_
   rotate_left
   ·rintro w' ⟨s0,s1,s2,s3⟩
    go_simp
    with_reducible rfl
   rotate_left
   ·simp only [Act.put,sA_,sZ_,sS_,i64_w,i32_w]
    rfl
   refine join_ (σ:=Nat) 1 #[true,true,true,true,true,true,true,true,true,true,false] (fun s_ => [(6,.string t111),(9,.string t112),(3,.pointer (some ⟨s_,0,none⟩)),(12,.agg #[.bool false,.string t111,.string t112,.int .i64 a0_3])]) (fun s_ w' => (w'.cell? ⟨gb109,0,none⟩=some (.bool true)∧w'.cell? ⟨gb109,1,none⟩=some (.string a0_1)∧w'.cell? ⟨gb109,2,none⟩=some (.string a0_2)∧w'.cell? ⟨gb109,3,none⟩=some (.int .i64 a0_3))∧(w'.heap[gb109]?=some (.cells #[.bool true,.string a0_1,.string a0_2,.int .i64 a0_3] 55 (0,0)))∧(w'.heap[gb110]?=some (.cells #[.bool false,.string ⟨#[]⟩,.string ⟨#[]⟩,.int .i64 0] 25 (0,0)))∧(w'.heap[s_]?=some (.cells #[.bool false,.string ⟨#[]⟩,.string ⟨#[]⟩,.int .i64 0] 25 (0,0)))∧(w.heap.size≤s_)∧(w.heap.size≤s_)∧(gb109 ≠ s_)∧(s_ ≠ gb109)∧(gb110 ≠ s_)∧(s_ ≠ gb110)∧(Below w.heap.size w w')) ?_ ?_
   rotate_left
   ·intro hCont
    refine two_ (i:=2) (j:=9) (Ni:=some 6) (Nj:=some 3) #[true,true,true,true,true,false,true,true,false,false,false] #[true,true,false,true,true,false,true,true,false,true,false] rfl rfl rfl rfl (two_of HT_.out (by kernel_rfl)) (by decide) (by decide) (fun K hK => ?_) (fun K hK => ?_)
    ·skip
     refine goes_ Tryd.func66 (by kernel_rfl) rfl #[.string a0_1,.string (⟨#[48]⟩:ByteArray)] (by rfl) rfl rfl qnc0_ ?_
     with_reducible refine (strings_TrimLeft.calls k a0_1 (⟨#[48]⟩:ByteArray) t111 _ A2.out).mono ?_
     rintro e w28 ⟨rfl,hb⟩
     refine ⟨_,rfl,?_⟩;have n0_:=M_ (blk_below (g:=gb109) (o:=.cells #[.bool true,.string a0_1,.string a0_2,.int .i64 a0_3] 55 (0,0)) qnc7_ hb);have n1_:=M_ (blk_below (g:=gb110) (o:=.cells #[.bool false,.string ⟨#[]⟩,.string ⟨#[]⟩,.int .i64 0] 25 (0,0)) qnc10_ hb);have n2_:=M_ (below_step qnc6_ hb);clear BK109;clear BK110;clear HB;have BK109:=n0_;have BK110:=n1_;have HB:=n2_;clear n0_ n1_ n2_
     (try clear hb)
     refine hK.out _ _ ⟨(blk_cell BK109.out 0).trans rfl,(blk_cell BK109.out 1).trans rfl,(blk_cell BK109.out 2).trans rfl,(blk_cell BK109.out 3).trans rfl⟩ (fun hHeld => ?_);clear hK K;refine norm_ (a':=?_) ?_ ?_
     rotate_left
     ·show Act.put _ (some 6) _=_
      simp only [Act.put,sA_,sZ_,sS_,i64_w,i32_w]
      rfl
     refine two_ (i:=5) (j:=9) (Ni:=some 9) (Nj:=some 3) #[true,true,true,true,true,true,true,true,false,false,false] #[true,true,true,true,true,false,true,true,false,true,false] rfl rfl rfl rfl (two_of HT_.out (by kernel_rfl)) (by decide) (by decide) (fun K hK => ?_) (fun K hK => ?_)
     ·skip
      refine goes_ Tryd.func67 (by kernel_rfl) rfl #[.string a0_2,.string (⟨#[48]⟩:ByteArray)] (by rfl) rfl rfl qnc0_ ?_
      with_reducible refine (strings_TrimRight.calls k a0_2 (⟨#[48]⟩:ByteArray) t112 _ A3.out).mono ?_
      rintro e w29 ⟨rfl,hb⟩
      refine ⟨_,rfl,?_⟩;have n0_:=M_ (blk_below (g:=gb109) (o:=.cells #[.bool true,.string a0_1,.string a0_2,.int .i64 a0_3] 55 (0,0)) qnc7_ hb);have n1_:=M_ (blk_below (g:=gb110) (o:=.cells #[.bool false,.string ⟨#[]⟩,.string ⟨#[]⟩,.int .i64 0] 25 (0,0)) qnc10_ hb);have n2_:=M_ (below_step qnc6_ hb);clear BK109;clear BK110;clear HB;have BK109:=n0_;have BK110:=n1_;have HB:=n2_;clear n0_ n1_ n2_
      (try clear hb)
      refine hK.out _ _ ⟨(blk_cell BK109.out 0).trans rfl,(blk_cell BK109.out 1).trans rfl,(blk_cell BK109.out 2).trans rfl,(blk_cell BK109.out 3).trans rfl⟩ (fun hHeld => ?_);clear hK K;refine norm_ (a':=?_) ?_ ?_
      rotate_left
      ·show Act.put _ (some 9) _=_
       simp only [Act.put,sA_,sZ_,sS_,i64_w,i32_w]
       rfl
      refine pure_ (i:=8) (N:=some 12) (v:=?_) (a':=?_) #[true,true,true,true,true,true,true,true,true,false,false] rfl rfl (any_of HT_.out (by kernel_rfl)) (fun _ _ _ h => h) (Or.inl ⟨by rfl,?_⟩) ?_ ?_
      rotate_left
      ·intro w'
       go_simp
       with_reducible rfl
      rotate_left
      ·simp only [Act.put,sA_,sZ_,sS_,i64_w,i32_w]
       rfl
      refine one_ (i:=9) (N:=some 3) #[true,true,true,true,true,true,true,true,true,true,false] rfl rfl (one_of HT_.out (by kernel_rfl)) (by decide) (fun K hK => ?_);refine box_step ?hg (N:=3) ?hd (cs:=#[.bool false,.string ⟨#[]⟩,.string ⟨#[]⟩,.int .i64 0]) (t:=25) ?hr ?_;(case hd => rfl);(case hg => rfl);(case hr => first|(go_simp;done)|(go_simp;rfl))
      intro gb113 hg w30 hbox hb
      have n0_:=M_ (blk_below (g:=gb109) (o:=.cells #[.bool true,.string a0_1,.string a0_2,.int .i64 a0_3] 55 (0,0)) qnc7_ hb);have n1_:=M_ (blk_below (g:=gb110) (o:=.cells #[.bool false,.string ⟨#[]⟩,.string ⟨#[]⟩,.int .i64 0] 25 (0,0)) qnc10_ hb);have n2_:=M_ (below_step qnc6_ hb);have n3_:=M_ (hbox);have n4_:=M_ ((by rw [hg];exact (below_size qnc6_):w.heap.size≤gb113));have n5_:=M_ ((by rw [hg];exact (below_size qnc6_):w.heap.size≤gb113));have n6_:=M_ ((by rw [hg];exact Nat.ne_of_lt (blk_lt (g:=gb109) (o:=.cells #[.bool true,.string a0_1,.string a0_2,.int .i64 a0_3] 55 (0,0)) qnc7_):gb109 ≠ gb113));have n7_:=M_ ((by rw [hg];exact Nat.ne_of_gt (blk_lt (g:=gb109) (o:=.cells #[.bool true,.string a0_1,.string a0_2,.int .i64 a0_3] 55 (0,0)) qnc7_):gb113 ≠ gb109));have n8_:=M_ ((by rw [hg];exact Nat.ne_of_lt (blk_lt (g:=gb110) (o:=.cells #[.bool false,.string ⟨#[]⟩,.string ⟨#[]⟩,.int .i64 0] 25 (0,0)) qnc10_):gb110 ≠ gb113));have n9_:=M_ ((by rw [hg];exact Nat.ne_of_gt (blk_lt (g:=gb110) (o:=.cells #[.bool false,.string ⟨#[]⟩,.string ⟨#[]⟩,.int .i64 0] 25 (0,0)) qnc10_):gb113 ≠ gb110));clear BK109;clear BK110;clear HB;have BK109:=n0_;have BK110:=n1_;have HB:=n2_;have BK113:=n3_;have GW113:=n4_;have GE113:=n5_;have NB109_113:=n6_;have NB113_109:=n7_;have NB110_113:=n8_;have NB113_110:=n9_;clear n0_ n1_ n2_ n3_ n4_ n5_ n6_ n7_ n8_ n9_;clear hb hbox hg;refine hK.out _ _ ⟨(blk_cell BK109.out 0).trans rfl,(blk_cell BK109.out 1).trans rfl,(blk_cell BK109.out 2).trans rfl,(blk_cell BK109.out 3).trans rfl⟩ (fun hHeld => ?_);clear hK K;refine norm_ (a':=?_) ?_ ?_
      rotate_left
      ·show Act.put _ (some 3) _=_
       simp only [Act.put,sA_,sZ_,sS_,i64_w,i32_w]
       rfl
      exact norm_ qnc35_ (hCont (gb113) _ ⟨hHeld,qnc7_,qnc10_,qnc34_,GW113.out,GE113.out,NB109_113.out,NB113_109.out,NB110_113.out,NB113_110.out,qnc9_⟩)
     ·skip
      refine box_step ?hg (N:=3) ?hd (cs:=#[.bool false,.string ⟨#[]⟩,.string ⟨#[]⟩,.int .i64 0]) (t:=25) ?hr ?_;(case hd => rfl);(case hg => rfl);(case hr => first|(go_simp;done)|(go_simp;rfl))
      intro gb113 hg w29 hbox hb
      have n0_:=M_ (blk_below (g:=gb109) (o:=.cells #[.bool true,.string a0_1,.string a0_2,.int .i64 a0_3] 55 (0,0)) qnc7_ hb);have n1_:=M_ (blk_below (g:=gb110) (o:=.cells #[.bool false,.string ⟨#[]⟩,.string ⟨#[]⟩,.int .i64 0] 25 (0,0)) qnc10_ hb);have n2_:=M_ (below_step qnc6_ hb);have n3_:=M_ (hbox);have n4_:=M_ ((by rw [hg];exact (below_size qnc6_):w.heap.size≤gb113));have n5_:=M_ ((by rw [hg];exact (below_size qnc6_):w.heap.size≤gb113));have n6_:=M_ ((by rw [hg];exact Nat.ne_of_lt (blk_lt (g:=gb109) (o:=.cells #[.bool true,.string a0_1,.string a0_2,.int .i64 a0_3] 55 (0,0)) qnc7_):gb109 ≠ gb113));have n7_:=M_ ((by rw [hg];exact Nat.ne_of_gt (blk_lt (g:=gb109) (o:=.cells #[.bool true,.string a0_1,.string a0_2,.int .i64 a0_3] 55 (0,0)) qnc7_):gb113 ≠ gb109));have n8_:=M_ ((by rw [hg];exact Nat.ne_of_lt (blk_lt (g:=gb110) (o:=.cells #[.bool false,.string ⟨#[]⟩,.string ⟨#[]⟩,.int .i64 0] 25 (0,0)) qnc10_):gb110 ≠ gb113));have n9_:=M_ ((by rw [hg];exact Nat.ne_of_gt (blk_lt (g:=gb110) (o:=.cells #[.bool false,.string ⟨#[]⟩,.string ⟨#[]⟩,.int .i64 0] 25 (0,0)) qnc10_):gb113 ≠ gb110));clear BK109;clear BK110;clear HB;have BK109:=n0_;have BK110:=n1_;have HB:=n2_;have BK113:=n3_;have GW113:=n4_;have GE113:=n5_;have NB109_113:=n6_;have NB113_109:=n7_;have NB110_113:=n8_;have NB113_110:=n9_;clear n0_ n1_ n2_ n3_ n4_ n5_ n6_ n7_ n8_ n9_;clear hb hbox hg;refine hK.out _ _ ⟨(blk_cell BK109.out 0).trans rfl,(blk_cell BK109.out 1).trans rfl,(blk_cell BK109.out 2).trans rfl,(blk_cell BK109.out 3).trans rfl⟩ (fun hHeld => ?_);clear hK K;refine norm_ (a':=?_) ?_ ?_
      rotate_left
      ·show Act.put _ (some 3) _=_
       simp only [Act.put,sA_,sZ_,sS_,i64_w,i32_w]
       rfl
      refine one_ (i:=5) (N:=some 9) #[true,true,true,true,true,true,true,true,false,true,false] rfl rfl (one_of HT_.out (by kernel_rfl)) (by decide) (fun K hK => ?_);refine goes_ Tryd.func67 (by kernel_rfl) rfl #[.string a0_2,.string (⟨#[48]⟩:ByteArray)] (by rfl) rfl rfl qnc0_ ?_
      with_reducible refine (strings_TrimRight.calls k a0_2 (⟨#[48]⟩:ByteArray) t112 _ A3.out).mono ?_
      rintro e w30 ⟨rfl,hb⟩
      refine ⟨_,rfl,?_⟩;have n0_:=M_ (blk_below (g:=gb109) (o:=.cells #[.bool true,.string a0_1,.string a0_2,.int .i64 a0_3] 55 (0,0)) qnc7_ hb);have n1_:=M_ (blk_below (g:=gb110) (o:=.cells #[.bool false,.string ⟨#[]⟩,.string ⟨#[]⟩,.int .i64 0] 25 (0,0)) qnc10_ hb);have n2_:=M_ (blk_below (g:=gb113) (o:=.cells #[.bool false,.string ⟨#[]⟩,.string ⟨#[]⟩,.int .i64 0] 25 (0,0)) qnc34_ hb);have n3_:=M_ (below_step qnc9_ hb);clear BK109;clear BK110;clear BK113;clear HB;have BK109:=n0_;have BK110:=n1_;have BK113:=n2_;have HB:=n3_;clear n0_ n1_ n2_ n3_
      (try clear hb)
      refine hK.out _ _ ⟨(blk_cell BK109.out 0).trans rfl,(blk_cell BK109.out 1).trans rfl,(blk_cell BK109.out 2).trans rfl,(blk_cell BK109.out 3).trans rfl⟩ (fun hHeld => ?_);clear hK K;refine norm_ (a':=?_) ?_ ?_
      rotate_left
      ·show Act.put _ (some 9) _=_
       simp only [Act.put,sA_,sZ_,sS_,i64_w,i32_w]
       rfl
      refine pure_ (i:=8) (N:=some 12) (v:=?_) (a':=?_) #[true,true,true,true,true,true,true,true,true,true,false] rfl rfl (any_of HT_.out (by kernel_rfl)) (fun _ _ _ h => h) (Or.inl ⟨by rfl,?_⟩) ?_ ?_
      rotate_left
      ·intro w'
       go_simp
       with_reducible rfl
      rotate_left
      ·simp only [Act.put,sA_,sZ_,sS_,i64_w,i32_w]
       rfl
      exact norm_ qnc35_ (hCont (gb113) _ ⟨hHeld,qnc7_,qnc10_,qnc34_,GW113.out,GE113.out,NB109_113.out,NB113_109.out,NB110_113.out,NB113_110.out,qnc9_⟩)
    ·skip
     refine box_step ?hg (N:=3) ?hd (cs:=#[.bool false,.string ⟨#[]⟩,.string ⟨#[]⟩,.int .i64 0]) (t:=25) ?hr ?_;(case hd => rfl);(case hg => rfl);(case hr => first|(go_simp;done)|(go_simp;rfl))
     intro gb113 hg w28 hbox hb
     have n0_:=M_ (blk_below (g:=gb109) (o:=.cells #[.bool true,.string a0_1,.string a0_2,.int .i64 a0_3] 55 (0,0)) qnc7_ hb);have n1_:=M_ (blk_below (g:=gb110) (o:=.cells #[.bool false,.string ⟨#[]⟩,.string ⟨#[]⟩,.int .i64 0] 25 (0,0)) qnc10_ hb);have n2_:=M_ (below_step qnc6_ hb);have n3_:=M_ (hbox);have n4_:=M_ ((by rw [hg];exact (below_size qnc6_):w.heap.size≤gb113));have n5_:=M_ ((by rw [hg];exact (below_size qnc6_):w.heap.size≤gb113));have n6_:=M_ ((by rw [hg];exact Nat.ne_of_lt (blk_lt (g:=gb109) (o:=.cells #[.bool true,.string a0_1,.string a0_2,.int .i64 a0_3] 55 (0,0)) qnc7_):gb109 ≠ gb113));have n7_:=M_ ((by rw [hg];exact Nat.ne_of_gt (blk_lt (g:=gb109) (o:=.cells #[.bool true,.string a0_1,.string a0_2,.int .i64 a0_3] 55 (0,0)) qnc7_):gb113 ≠ gb109));have n8_:=M_ ((by rw [hg];exact Nat.ne_of_lt (blk_lt (g:=gb110) (o:=.cells #[.bool false,.string ⟨#[]⟩,.string ⟨#[]⟩,.int .i64 0] 25 (0,0)) qnc10_):gb110 ≠ gb113));have n9_:=M_ ((by rw [hg];exact Nat.ne_of_gt (blk_lt (g:=gb110) (o:=.cells #[.bool false,.string ⟨#[]⟩,.string ⟨#[]⟩,.int .i64 0] 25 (0,0)) qnc10_):gb113 ≠ gb110));clear BK109;clear BK110;clear HB;have BK109:=n0_;have BK110:=n1_;have HB:=n2_;have BK113:=n3_;have GW113:=n4_;have GE113:=n5_;have NB109_113:=n6_;have NB113_109:=n7_;have NB110_113:=n8_;have NB113_110:=n9_;clear n0_ n1_ n2_ n3_ n4_ n5_ n6_ n7_ n8_ n9_;clear hb hbox hg;refine hK.out _ _ ⟨(blk_cell BK109.out 0).trans rfl,(blk_cell BK109.out 1).trans rfl,(blk_cell BK109.out 2).trans rfl,(blk_cell BK109.out 3).trans rfl⟩ (fun hHeld => ?_);clear hK K;refine norm_ (a':=?_) ?_ ?_
     rotate_left
     ·show Act.put _ (some 3) _=_
      simp only [Act.put,sA_,sZ_,sS_,i64_w,i32_w]
      rfl
     refine one_ (i:=2) (N:=some 6) #[true,true,true,true,true,false,true,true,false,true,false] rfl rfl (one_of HT_.out (by kernel_rfl)) (by decide) (fun K hK => ?_);refine goes_ Tryd.func66 (by kernel_rfl) rfl #[.string a0_1,.string (⟨#[48]⟩:ByteArray)] (by rfl) rfl rfl qnc0_ ?_
     with_reducible refine (strings_TrimLeft.calls k a0_1 (⟨#[48]⟩:ByteArray) t111 _ A2.out).mono ?_
     rintro e w29 ⟨rfl,hb⟩
     refine ⟨_,rfl,?_⟩;have n0_:=M_ (blk_below (g:=gb109) (o:=.cells #[.bool true,.string a0_1,.string a0_2,.int .i64 a0_3] 55 (0,0)) qnc7_ hb);have n1_:=M_ (blk_below (g:=gb110) (o:=.cells #[.bool false,.string ⟨#[]⟩,.string ⟨#[]⟩,.int .i64 0] 25 (0,0)) qnc10_ hb);have n2_:=M_ (blk_below (g:=gb113) (o:=.cells #[.bool false,.string ⟨#[]⟩,.string ⟨#[]⟩,.int .i64 0] 25 (0,0)) qnc34_ hb);have n3_:=M_ (below_step qnc9_ hb);clear BK109;clear BK110;clear BK113;clear HB;have BK109:=n0_;have BK110:=n1_;have BK113:=n2_;have HB:=n3_;clear n0_ n1_ n2_ n3_
     (try clear hb)
     refine hK.out _ _ ⟨(blk_cell BK109.out 0).trans rfl,(blk_cell BK109.out 1).trans rfl,(blk_cell BK109.out 2).trans rfl,(blk_cell BK109.out 3).trans rfl⟩ (fun hHeld => ?_);clear hK K;refine norm_ (a':=?_) ?_ ?_
     rotate_left
     ·show Act.put _ (some 6) _=_
      simp only [Act.put,sA_,sZ_,sS_,i64_w,i32_w]
      rfl
     refine one_ (i:=5) (N:=some 9) #[true,true,true,true,true,true,true,true,false,true,false] rfl rfl (one_of HT_.out (by kernel_rfl)) (by decide) (fun K hK => ?_);refine goes_ Tryd.func67 (by kernel_rfl) rfl #[.string a0_2,.string (⟨#[48]⟩:ByteArray)] (by rfl) rfl rfl qnc0_ ?_
     with_reducible refine (strings_TrimRight.calls k a0_2 (⟨#[48]⟩:ByteArray) t112 _ A3.out).mono ?_
     rintro e w30 ⟨rfl,hb⟩
     refine ⟨_,rfl,?_⟩;have n0_:=M_ (blk_below (g:=gb109) (o:=.cells #[.bool true,.string a0_1,.string a0_2,.int .i64 a0_3] 55 (0,0)) qnc7_ hb);have n1_:=M_ (blk_below (g:=gb110) (o:=.cells #[.bool false,.string ⟨#[]⟩,.string ⟨#[]⟩,.int .i64 0] 25 (0,0)) qnc10_ hb);have n2_:=M_ (blk_below (g:=gb113) (o:=.cells #[.bool false,.string ⟨#[]⟩,.string ⟨#[]⟩,.int .i64 0] 25 (0,0)) qnc34_ hb);have n3_:=M_ (below_step qnc9_ hb);clear BK109;clear BK110;clear BK113;clear HB;have BK109:=n0_;have BK110:=n1_;have BK113:=n2_;have HB:=n3_;clear n0_ n1_ n2_ n3_
     (try clear hb)
     refine hK.out _ _ ⟨(blk_cell BK109.out 0).trans rfl,(blk_cell BK109.out 1).trans rfl,(blk_cell BK109.out 2).trans rfl,(blk_cell BK109.out 3).trans rfl⟩ (fun hHeld => ?_);clear hK K;refine norm_ (a':=?_) ?_ ?_
     rotate_left
     ·show Act.put _ (some 9) _=_
      simp only [Act.put,sA_,sZ_,sS_,i64_w,i32_w]
      rfl
     refine pure_ (i:=8) (N:=some 12) (v:=?_) (a':=?_) #[true,true,true,true,true,true,true,true,true,true,false] rfl rfl (any_of HT_.out (by kernel_rfl)) (fun _ _ _ h => h) (Or.inl ⟨by rfl,?_⟩) ?_ ?_
     rotate_left
     ·intro w'
      go_simp
      with_reducible rfl
     rotate_left
     ·simp only [Act.put,sA_,sZ_,sS_,i64_w,i32_w]
      rfl
     exact norm_ qnc35_ (hCont (gb113) _ ⟨hHeld,qnc7_,qnc10_,qnc34_,GW113.out,GE113.out,NB109_113.out,NB113_109.out,NB110_113.out,NB113_110.out,qnc9_⟩)
   rintro gb113 w31 ⟨hS_,h0_,h1_,h2_,h3_,h4_,h5_,h6_,h7_,h8_,h9_⟩
   have n0_:Aside0 (w31.heap[gb109]?=some (.cells #[.bool true,.string a0_1,.string a0_2,.int .i64 a0_3] 55 (0,0))):=⟨h0_⟩;have n1_:Aside0 (w31.heap[gb110]?=some (.cells #[.bool false,.string ⟨#[]⟩,.string ⟨#[]⟩,.int .i64 0] 25 (0,0))):=⟨h1_⟩;have n2_:Aside0 (w31.heap[gb113]?=some (.cells #[.bool false,.string ⟨#[]⟩,.string ⟨#[]⟩,.int .i64 0] 25 (0,0))):=⟨h2_⟩;have n3_:Aside0 (w.heap.size≤gb113):=⟨h3_⟩;have n4_:Aside0 (w.heap.size≤gb113):=⟨h4_⟩;have n5_:Aside0 (gb109 ≠ gb113):=⟨h5_⟩;have n6_:Aside0 (gb113 ≠ gb109):=⟨h6_⟩;have n7_:Aside0 (gb110 ≠ gb113):=⟨h7_⟩;have n8_:Aside0 (gb113 ≠ gb110):=⟨h8_⟩;have n9_:Aside0 (Below w.heap.size w w31):=⟨h9_⟩;clear BK109;clear BK110;clear HB;clear h0_ h1_ h2_ h3_ h4_ h5_ h6_ h7_ h8_ h9_;have BK109:=n0_;have BK110:=n1_;have BK113:=n2_;have GW113:=n3_;have GE113:=n4_;have NB109_113:=n5_;have NB113_109:=n6_;have NB110_113:=n7_;have NB113_110:=n8_;have HB:=n9_;clear n0_ n1_ n2_ n3_ n4_ n5_ n6_ n7_ n8_ n9_;have hHeld:w31.cell? ⟨gb109,0,none⟩=some (.bool true)∧w31.cell? ⟨gb109,1,none⟩=some (.string a0_1)∧w31.cell? ⟨gb109,2,none⟩=some (.string a0_2)∧w31.cell? ⟨gb109,3,none⟩=some (.int .i64 a0_3):=hS_;refine norm_ (a':=?_) ?_ ?_
   rotate_left
   ·simp only [putAll,Act.put,List.setIfInBounds_toArray,List.set_cons_zero,List.set_cons_succ]
    rfl
   refine one_ (i:=10) (N:=none) #[true,true,true,true,true,true,true,true,true,true,true] rfl rfl (one_of HT_.out (by kernel_rfl)) (by decide) (fun K hK => ?_);have hs32:w31.cell? ⟨gb113,0,none⟩=some (.bool false):=(blk_cell BK113.out 0).trans rfl;have hfs32:=bf_ BK113.out 0;have hns32_0:=NB109_113.out;have hns32_1:=NB110_113.out;have hms32_0:=NB113_109.out;have hms32_1:=NB113_110.out;have hs33:w31.cell? ⟨gb113,1,none⟩=some (.string ⟨#[]⟩):=(blk_cell BK113.out 1).trans rfl;have hfs33:=bf_ BK113.out 1;have hns33_0:=NB109_113.out;have hns33_1:=NB110_113.out;have hms33_0:=NB113_109.out;have hms33_1:=NB113_110.out;have hs34:w31.cell? ⟨gb113,2,none⟩=some (.string ⟨#[]⟩):=(blk_cell BK113.out 2).trans rfl;have hfs34:=bf_ BK113.out 2;have hns34_0:=NB109_113.out;have hns34_1:=NB110_113.out;have hms34_0:=NB113_109.out;have hms34_1:=NB113_110.out;have hs35:w31.cell? ⟨gb113,3,none⟩=some (.int .i64 0):=(blk_cell BK113.out 3).trans rfl;have hfs35:=bf_ BK113.out 3;have hns35_0:=NB109_113.out;have hns35_1:=NB110_113.out;have hms35_0:=NB113_109.out;have hms35_1:=NB113_110.out;refine skip_ (w1:=?_) (by rfl) rfl ?_ ?_
   rotate_left
   ·go_simp
    rfl
   refine hK.out _ _ ⟨((cell_far (p:=⟨gb113,_,none⟩) NB109_113.out _).trans (((cell_far (p:=⟨gb113,_,none⟩) NB109_113.out _).trans (((cell_far (p:=⟨gb113,_,none⟩) NB109_113.out _).trans (((cell_far (p:=⟨gb113,_,none⟩) NB109_113.out _).trans (hHeld.1)))))))),((cell_far (p:=⟨gb113,_,none⟩) NB109_113.out _).trans (((cell_far (p:=⟨gb113,_,none⟩) NB109_113.out _).trans (((cell_far (p:=⟨gb113,_,none⟩) NB109_113.out _).trans (((cell_far (p:=⟨gb113,_,none⟩) NB109_113.out _).trans (hHeld.2.1)))))))),((cell_far (p:=⟨gb113,_,none⟩) NB109_113.out _).trans (((cell_far (p:=⟨gb113,_,none⟩) NB109_113.out _).trans (((cell_far (p:=⟨gb113,_,none⟩) NB109_113.out _).trans (((cell_far (p:=⟨gb113,_,none⟩) NB109_113.out _).trans (hHeld.2.2.1)))))))),((cell_far (p:=⟨gb113,_,none⟩) NB109_113.out _).trans (((cell_far (p:=⟨gb113,_,none⟩) NB109_113.out _).trans (((cell_far (p:=⟨gb113,_,none⟩) NB109_113.out _).trans (((cell_far (p:=⟨gb113,_,none⟩) NB109_113.out _).trans (hHeld.2.2.2))))))))⟩ (fun hHeld => ?_);clear hK K;refine done_ (done_of HT_.out (by kernel_rfl)) ?_;have hnb36:=NB109_110.out;have hnc36:=NB110_109.out;have hnb37:=NB109_113.out;have hnc37:=NB113_109.out;have hcz38_0:=bc_ (.bool true) BK109.out 0 rfl;have hcz38_1:=bc_ (.string a0_1) BK109.out 1 rfl;have hcz38_2:=bc_ (.string a0_2) BK109.out 2 rfl;have hcz38_3:=bc_ (.int .i64 a0_3) BK109.out 3 rfl;have hfz38_0:=bf_ BK109.out 0;have hfz38_1:=bf_ BK109.out 1;have hfz38_2:=bf_ BK109.out 2;have hfz38_3:=bf_ BK109.out 3;have hnb39:=NB113_110.out;have hnc39:=NB110_113.out;have hcz40_0:=bc_ (.bool false) BK113.out 0 rfl;have hcz40_1:=bc_ (.string ⟨#[]⟩) BK113.out 1 rfl;have hcz40_2:=bc_ (.string ⟨#[]⟩) BK113.out 2 rfl;have hcz40_3:=bc_ (.int .i64 0) BK113.out 3 rfl;have hfz40_0:=bf_ BK113.out 0;have hfz40_1:=bf_ BK113.out 1;have hfz40_2:=bf_ BK113.out 2;have hfz40_3:=bf_ BK113.out 3;have hcz41_0:=bc_ (.bool false) BK110.out 0 rfl;have hcz41_1:=bc_ (.string ⟨#[]⟩) BK110.out 1 rfl;have hcz41_2:=bc_ (.string ⟨#[]⟩) BK110.out 2 rfl;have hcz41_3:=bc_ (.int .i64 0) BK110.out 3 rfl;have hfz41_0:=bf_ BK110.out 0;have hfz41_1:=bf_ BK110.out 1;have hfz41_2:=bf_ BK110.out 2;have hfz41_3:=bf_ BK110.out 3
   try go_wp2
   refine bodyPost_ret (results_cell_row rfl _ _ gb110 25 #[.bool true,.string t111,.string t112,.int .i64 a0_3] (0,0) _ rfl (by (with_reducible repeat first|apply bN_|apply bD_|apply bA_);refine blk_put (cs:=#[.bool true,.string t111,.string t112,.int .i64 0]) ?_ 3 _ rfl;(with_reducible repeat first|apply bN_|apply bD_|apply bA_);refine blk_put (cs:=#[.bool true,.string t111,.string ⟨#[]⟩,.int .i64 0]) ?_ 2 _ rfl;(with_reducible repeat first|apply bN_|apply bD_|apply bA_);refine blk_put (cs:=#[.bool true,.string ⟨#[]⟩,.string ⟨#[]⟩,.int .i64 0]) ?_ 1 _ rfl;(with_reducible repeat first|apply bN_|apply bD_|apply bA_);refine blk_put (cs:=#[.bool false,.string ⟨#[]⟩,.string ⟨#[]⟩,.int .i64 0]) ?_ 0 _ rfl;(with_reducible repeat first|apply bN_|apply bD_|apply bA_);refine blk_far ?_ NB110_113.out _;(with_reducible repeat first|apply bN_|apply bD_|apply bA_);refine blk_far ?_ NB110_113.out _;(with_reducible repeat first|apply bN_|apply bD_|apply bA_);refine blk_far ?_ NB110_113.out _;(with_reducible repeat first|apply bN_|apply bD_|apply bA_);refine blk_far ?_ NB110_113.out _;(with_reducible repeat first|apply bN_|apply bD_|apply bA_);refine blk_far ?_ NB110_113.out _;(with_reducible repeat first|apply bN_|apply bD_|apply bA_);exact BK110.out) Tryd.underlying25 rfl (by kernel_rfl)) rfl ?_;exact ⟨qnc5_,qnc9_⟩
 ·replace c4:=Bool.eq_false_iff.mpr c4;subst c4;rw [if_neg (show ¬ (false=true) by decide)] at H;simp only [Option.some.injEq,Prod.mk.injEq] at H;obtain ⟨rfl,rfl,rfl,rfl⟩:=H
  go_enter Tryd.func32,Tryd.ntmps32
  have tk61:=trivial;have tk62:=trivial
  try go_wp2_with (first|(clear tk61;(with_reducible refine gate_dst (N:=1) rfl ?_);refine box_event ?hg (N:=1) ?hd (cs:=#[.bool false,.string a0_1,.string a0_2,.int .i64 a0_3]) (t:=55) ?hr ?_;(case hd => rfl);(case hg => rfl);(case hr => first|(go_simp;done)|(go_simp;rfl));intro gb109 hg w44 hbox hb;have n0_:=M_ (below_step qnc2_ hb);have n1_:=M_ (hbox);have n2_:=M_ ((by rw [hg];exact (below_size qnc2_):w.heap.size≤gb109));have n3_:=n2_;clear HB;have HB:=n0_;have BK109:=n1_;have GW109:=n2_;have GE109:=n3_;clear n0_ n1_ n2_ n3_;clear hb hbox hg)|(clear tk62;(with_reducible refine gate_dst (N:=2) rfl ?_);refine box_event ?hg (N:=2) ?hd (cs:=#[.bool false,.string ⟨#[]⟩,.string ⟨#[]⟩,.int .i64 0]) (t:=25) ?hr ?_;(case hd => rfl);(case hg => rfl);(case hr => first|(go_simp;done)|(go_simp;rfl));intro gb110 hg w45 hbox hb;have n0_:=M_ (blk_below (g:=gb109) (o:=.cells #[.bool false,.string a0_1,.string a0_2,.int .i64 a0_3] 55 (0,0)) qnc7_ hb);have n1_:=M_ (below_step qnc60_ hb);have n2_:=M_ (hbox);have n3_:=M_ ((by rw [hg];exact (below_size qnc60_):w.heap.size≤gb110));have n4_:=n3_;have n5_:=M_ ((by rw [hg];exact Nat.ne_of_lt (blk_lt (g:=gb109) (o:=.cells #[.bool false,.string a0_1,.string a0_2,.int .i64 a0_3] 55 (0,0)) qnc7_):gb109 ≠ gb110));have n6_:=M_ ((by rw [hg];exact Nat.ne_of_gt (blk_lt (g:=gb109) (o:=.cells #[.bool false,.string a0_1,.string a0_2,.int .i64 a0_3] 55 (0,0)) qnc7_):gb110 ≠ gb109));clear BK109;clear HB;have BK109:=n0_;have HB:=n1_;have BK110:=n2_;have GW110:=n3_;have GE110:=n4_;have NB109_110:=n5_;have NB110_109:=n6_;clear n0_ n1_ n2_ n3_ n4_ n5_ n6_;clear hb hbox hg))
  have n0_:=M_ (blk_drew BK109.out);have n1_:=M_ (blk_drew BK110.out);have n2_:=M_ (below_drew1 HB.out);clear BK109;clear BK110;clear HB;have BK109:=n0_;have BK110:=n1_;have HB:=n2_;clear n0_ n1_ n2_;refine start_ (n:=11) (S:=fun w' => w'.cell? ⟨gb109,0,none⟩=some (.bool false)∧w'.cell? ⟨gb109,1,none⟩=some (.string a0_1)∧w'.cell? ⟨gb109,2,none⟩=some (.string a0_2)∧w'.cell? ⟨gb109,3,none⟩=some (.int .i64 a0_3)) (ds:=[]) #[false,false,false,false,false,false,false,false,false,false,false] (by kernel_rfl) rfl rfl ⟨(blk_cell BK109.out 0).trans rfl,(blk_cell BK109.out 1).trans rfl,(blk_cell BK109.out 2).trans rfl,(blk_cell BK109.out 3).trans rfl⟩ (fun hHeld => ?_);refine with_tabW n_decimal.tab1 n_decimal.bits1 (fun HT_ HW_ => ?_)
  generalize w45.drew=w46 at BK109 BK110 HB hHeld ⊢
  refine pure_ (i:=0) (N:=some 4) (v:=?_) (a':=?_) #[true,false,false,false,false,false,false,false,false,false,false] rfl rfl (any_of HT_.out (by kernel_rfl)) (fun _ _ _ h => h) (Or.inl ⟨by rfl,?_⟩) ?_ ?_
  rotate_left
  ·intro w'
   go_simp
   with_reducible rfl
  rotate_left
  ·simp only [Act.put,sA_,sZ_,sS_,i64_w,i32_w]
   rfl
  refine pure_ (i:=3) (N:=some 7) (v:=?_) (a':=?_) #[true,false,false,true,false,false,false,false,false,false,false] rfl rfl (any_of HT_.out (by kernel_rfl)) (fun _ _ _ h => h) (Or.inl ⟨by rfl,?_⟩) ?_ ?_
  rotate_left
  ·intro w'
   go_simp
   with_reducible rfl
  rotate_left
  ·simp only [Act.put,sA_,sZ_,sS_,i64_w,i32_w]
   rfl
  refine pure_ (i:=6) (N:=some 10) (v:=?_) (a':=?_) #[true,false,false,true,false,false,true,false,false,false,false] rfl rfl (any_of HT_.out (by kernel_rfl)) (fun _ _ _ h => h) (Or.inl ⟨by rfl,?_⟩) ?_ ?_
  rotate_left
  ·intro w'
   go_simp
   with_reducible rfl
  rotate_left
  ·simp only [Act.put,sA_,sZ_,sS_,i64_w,i32_w]
   rfl
  refine take_ (i:=1) (N:=some 5) (v:=?_) (a':=?_) #[true,true,false,true,false,false,true,false,false,false,false] rfl rfl (take_ofW HT_.out HW_.out (by kernel_rfl)) (fun _ _ _ h => h) (Or.inl ⟨by rfl,?_⟩) hHeld ?_ ?_
  rotate_left
  ·rintro w' ⟨s0,s1,s2,s3⟩
   go_simp
   with_reducible rfl
  rotate_left
  ·simp only [Act.put,sA_,sZ_,sS_,i64_w,i32_w]
   rfl
  refine take_ (i:=4) (N:=some 8) (v:=?_) (a':=?_) #[true,true,false,true,true,false,true,false,false,false,false] rfl rfl (take_ofW HT_.out HW_.out (by kernel_rfl)) (fun _ _ _ h => h) (Or.inl ⟨by rfl,?_⟩) hHeld ?_ ?_
  rotate_left
  ·rintro w' ⟨s0,s1,s2,s3⟩
   go_simp
   with_reducible rfl
  rotate_left
  ·simp only [Act.put,sA_,sZ_,sS_,i64_w,i32_w]
   rfl
  refine take_ (i:=7) (N:=some 11) (v:=?_) (a':=?_) #[true,true,false,true,true,false,true,true,false,false,false] rfl rfl (take_ofW HT_.out HW_.out (by kernel_rfl)) (fun _ _ _ h => h) (Or.inl ⟨by rfl,?_⟩) hHeld ?_ ?_
  rotate_left
  ·rintro w' ⟨s0,s1,s2,s3⟩
   go_simp
   with_reducible rfl
  rotate_left
  ·simp only [Act.put,sA_,sZ_,sS_,i64_w,i32_w]
   rfl
  refine join_ (σ:=Nat) 1 #[true,true,true,true,true,true,true,true,true,true,false] (fun s_ => [(6,.string t111),(9,.string t112),(3,.pointer (some ⟨s_,0,none⟩)),(12,.agg #[.bool false,.string t111,.string t112,.int .i64 a0_3])]) (fun s_ w' => (w'.cell? ⟨gb109,0,none⟩=some (.bool false)∧w'.cell? ⟨gb109,1,none⟩=some (.string a0_1)∧w'.cell? ⟨gb109,2,none⟩=some (.string a0_2)∧w'.cell? ⟨gb109,3,none⟩=some (.int .i64 a0_3))∧(w'.heap[gb109]?=some (.cells #[.bool false,.string a0_1,.string a0_2,.int .i64 a0_3] 55 (0,0)))∧(w'.heap[gb110]?=some (.cells #[.bool false,.string ⟨#[]⟩,.string ⟨#[]⟩,.int .i64 0] 25 (0,0)))∧(w'.heap[s_]?=some (.cells #[.bool false,.string ⟨#[]⟩,.string ⟨#[]⟩,.int .i64 0] 25 (0,0)))∧(w.heap.size≤s_)∧(w.heap.size≤s_)∧(gb109 ≠ s_)∧(s_ ≠ gb109)∧(gb110 ≠ s_)∧(s_ ≠ gb110)∧(Below w.heap.size w w')) ?_ ?_
  rotate_left
  ·intro hCont
   refine two_ (i:=2) (j:=9) (Ni:=some 6) (Nj:=some 3) #[true,true,true,true,true,false,true,true,false,false,false] #[true,true,false,true,true,false,true,true,false,true,false] rfl rfl rfl rfl (two_of HT_.out (by kernel_rfl)) (by decide) (by decide) (fun K hK => ?_) (fun K hK => ?_)
   ·skip
    refine goes_ Tryd.func66 (by kernel_rfl) rfl #[.string a0_1,.string (⟨#[48]⟩:ByteArray)] (by rfl) rfl rfl qnc0_ ?_
    with_reducible refine (strings_TrimLeft.calls k a0_1 (⟨#[48]⟩:ByteArray) t111 _ A2.out).mono ?_
    rintro e w47 ⟨rfl,hb⟩
    refine ⟨_,rfl,?_⟩;have n0_:=M_ (blk_below (g:=gb109) (o:=.cells #[.bool false,.string a0_1,.string a0_2,.int .i64 a0_3] 55 (0,0)) qnc7_ hb);have n1_:=M_ (blk_below (g:=gb110) (o:=.cells #[.bool false,.string ⟨#[]⟩,.string ⟨#[]⟩,.int .i64 0] 25 (0,0)) qnc10_ hb);have n2_:=M_ (below_step qnc6_ hb);clear BK109;clear BK110;clear HB;have BK109:=n0_;have BK110:=n1_;have HB:=n2_;clear n0_ n1_ n2_
    (try clear hb)
    refine hK.out _ _ ⟨(blk_cell BK109.out 0).trans rfl,(blk_cell BK109.out 1).trans rfl,(blk_cell BK109.out 2).trans rfl,(blk_cell BK109.out 3).trans rfl⟩ (fun hHeld => ?_);clear hK K;refine norm_ (a':=?_) ?_ ?_
    rotate_left
    ·show Act.put _ (some 6) _=_
     simp only [Act.put,sA_,sZ_,sS_,i64_w,i32_w]
     rfl
    refine two_ (i:=5) (j:=9) (Ni:=some 9) (Nj:=some 3) #[true,true,true,true,true,true,true,true,false,false,false] #[true,true,true,true,true,false,true,true,false,true,false] rfl rfl rfl rfl (two_of HT_.out (by kernel_rfl)) (by decide) (by decide) (fun K hK => ?_) (fun K hK => ?_)
    ·skip
     refine goes_ Tryd.func67 (by kernel_rfl) rfl #[.string a0_2,.string (⟨#[48]⟩:ByteArray)] (by rfl) rfl rfl qnc0_ ?_
     with_reducible refine (strings_TrimRight.calls k a0_2 (⟨#[48]⟩:ByteArray) t112 _ A3.out).mono ?_
     rintro e w48 ⟨rfl,hb⟩
     refine ⟨_,rfl,?_⟩;have n0_:=M_ (blk_below (g:=gb109) (o:=.cells #[.bool false,.string a0_1,.string a0_2,.int .i64 a0_3] 55 (0,0)) qnc7_ hb);have n1_:=M_ (blk_below (g:=gb110) (o:=.cells #[.bool false,.string ⟨#[]⟩,.string ⟨#[]⟩,.int .i64 0] 25 (0,0)) qnc10_ hb);have n2_:=M_ (below_step qnc6_ hb);clear BK109;clear BK110;clear HB;have BK109:=n0_;have BK110:=n1_;have HB:=n2_;clear n0_ n1_ n2_
     (try clear hb)
     refine hK.out _ _ ⟨(blk_cell BK109.out 0).trans rfl,(blk_cell BK109.out 1).trans rfl,(blk_cell BK109.out 2).trans rfl,(blk_cell BK109.out 3).trans rfl⟩ (fun hHeld => ?_);clear hK K;refine norm_ (a':=?_) ?_ ?_
     rotate_left
     ·show Act.put _ (some 9) _=_
      simp only [Act.put,sA_,sZ_,sS_,i64_w,i32_w]
      rfl
     refine pure_ (i:=8) (N:=some 12) (v:=?_) (a':=?_) #[true,true,true,true,true,true,true,true,true,false,false] rfl rfl (any_of HT_.out (by kernel_rfl)) (fun _ _ _ h => h) (Or.inl ⟨by rfl,?_⟩) ?_ ?_
     rotate_left
     ·intro w'
      go_simp
      with_reducible rfl
     rotate_left
     ·simp only [Act.put,sA_,sZ_,sS_,i64_w,i32_w]
      rfl
     refine one_ (i:=9) (N:=some 3) #[true,true,true,true,true,true,true,true,true,true,false] rfl rfl (one_of HT_.out (by kernel_rfl)) (by decide) (fun K hK => ?_);refine box_step ?hg (N:=3) ?hd (cs:=#[.bool false,.string ⟨#[]⟩,.string ⟨#[]⟩,.int .i64 0]) (t:=25) ?hr ?_;(case hd => rfl);(case hg => rfl);(case hr => first|(go_simp;done)|(go_simp;rfl))
     intro gb113 hg w49 hbox hb
     have n0_:=M_ (blk_below (g:=gb109) (o:=.cells #[.bool false,.string a0_1,.string a0_2,.int .i64 a0_3] 55 (0,0)) qnc7_ hb);have n1_:=M_ (blk_below (g:=gb110) (o:=.cells #[.bool false,.string ⟨#[]⟩,.string ⟨#[]⟩,.int .i64 0] 25 (0,0)) qnc10_ hb);have n2_:=M_ (below_step qnc6_ hb);have n3_:=M_ (hbox);have n4_:=M_ ((by rw [hg];exact (below_size qnc6_):w.heap.size≤gb113));have n5_:=M_ ((by rw [hg];exact (below_size qnc6_):w.heap.size≤gb113));have n6_:=M_ ((by rw [hg];exact Nat.ne_of_lt (blk_lt (g:=gb109) (o:=.cells #[.bool false,.string a0_1,.string a0_2,.int .i64 a0_3] 55 (0,0)) qnc7_):gb109 ≠ gb113));have n7_:=M_ ((by rw [hg];exact Nat.ne_of_gt (blk_lt (g:=gb109) (o:=.cells #[.bool false,.string a0_1,.string a0_2,.int .i64 a0_3] 55 (0,0)) qnc7_):gb113 ≠ gb109));have n8_:=M_ ((by rw [hg];exact Nat.ne_of_lt (blk_lt (g:=gb110) (o:=.cells #[.bool false,.string ⟨#[]⟩,.string ⟨#[]⟩,.int .i64 0] 25 (0,0)) qnc10_):gb110 ≠ gb113));have n9_:=M_ ((by rw [hg];exact Nat.ne_of_gt (blk_lt (g:=gb110) (o:=.cells #[.bool false,.string ⟨#[]⟩,.string ⟨#[]⟩,.int .i64 0] 25 (0,0)) qnc10_):gb113 ≠ gb110));clear BK109;clear BK110;clear HB;have BK109:=n0_;have BK110:=n1_;have HB:=n2_;have BK113:=n3_;have GW113:=n4_;have GE113:=n5_;have NB109_113:=n6_;have NB113_109:=n7_;have NB110_113:=n8_;have NB113_110:=n9_;clear n0_ n1_ n2_ n3_ n4_ n5_ n6_ n7_ n8_ n9_;clear hb hbox hg;refine hK.out _ _ ⟨(blk_cell BK109.out 0).trans rfl,(blk_cell BK109.out 1).trans rfl,(blk_cell BK109.out 2).trans rfl,(blk_cell BK109.out 3).trans rfl⟩ (fun hHeld => ?_);clear hK K;refine norm_ (a':=?_) ?_ ?_
     rotate_left
     ·show Act.put _ (some 3) _=_
      simp only [Act.put,sA_,sZ_,sS_,i64_w,i32_w]
      rfl
     exact norm_ qnc35_ (hCont (gb113) _ ⟨hHeld,qnc7_,qnc10_,qnc34_,GW113.out,GE113.out,NB109_113.out,NB113_109.out,NB110_113.out,NB113_110.out,qnc9_⟩)
    ·skip
     refine box_step ?hg (N:=3) ?hd (cs:=#[.bool false,.string ⟨#[]⟩,.string ⟨#[]⟩,.int .i64 0]) (t:=25) ?hr ?_;(case hd => rfl);(case hg => rfl);(case hr => first|(go_simp;done)|(go_simp;rfl))
     intro gb113 hg w48 hbox hb
     have n0_:=M_ (blk_below (g:=gb109) (o:=.cells #[.bool false,.string a0_1,.string a0_2,.int .i64 a0_3] 55 (0,0)) qnc7_ hb);have n1_:=M_ (blk_below (g:=gb110) (o:=.cells #[.bool false,.string ⟨#[]⟩,.string ⟨#[]⟩,.int .i64 0] 25 (0,0)) qnc10_ hb);have n2_:=M_ (below_step qnc6_ hb);have n3_:=M_ (hbox);have n4_:=M_ ((by rw [hg];exact (below_size qnc6_):w.heap.size≤gb113));have n5_:=M_ ((by rw [hg];exact (below_size qnc6_):w.heap.size≤gb113));have n6_:=M_ ((by rw [hg];exact Nat.ne_of_lt (blk_lt (g:=gb109) (o:=.cells #[.bool false,.string a0_1,.string a0_2,.int .i64 a0_3] 55 (0,0)) qnc7_):gb109 ≠ gb113));have n7_:=M_ ((by rw [hg];exact Nat.ne_of_gt (blk_lt (g:=gb109) (o:=.cells #[.bool false,.string a0_1,.string a0_2,.int .i64 a0_3] 55 (0,0)) qnc7_):gb113 ≠ gb109));have n8_:=M_ ((by rw [hg];exact Nat.ne_of_lt (blk_lt (g:=gb110) (o:=.cells #[.bool false,.string ⟨#[]⟩,.string ⟨#[]⟩,.int .i64 0] 25 (0,0)) qnc10_):gb110 ≠ gb113));have n9_:=M_ ((by rw [hg];exact Nat.ne_of_gt (blk_lt (g:=gb110) (o:=.cells #[.bool false,.string ⟨#[]⟩,.string ⟨#[]⟩,.int .i64 0] 25 (0,0)) qnc10_):gb113 ≠ gb110));clear BK109;clear BK110;clear HB;have BK109:=n0_;have BK110:=n1_;have HB:=n2_;have BK113:=n3_;have GW113:=n4_;have GE113:=n5_;have NB109_113:=n6_;have NB113_109:=n7_;have NB110_113:=n8_;have NB113_110:=n9_;clear n0_ n1_ n2_ n3_ n4_ n5_ n6_ n7_ n8_ n9_;clear hb hbox hg;refine hK.out _ _ ⟨(blk_cell BK109.out 0).trans rfl,(blk_cell BK109.out 1).trans rfl,(blk_cell BK109.out 2).trans rfl,(blk_cell BK109.out 3).trans rfl⟩ (fun hHeld => ?_);clear hK K;refine norm_ (a':=?_) ?_ ?_
     rotate_left
     ·show Act.put _ (some 3) _=_
      simp only [Act.put,sA_,sZ_,sS_,i64_w,i32_w]
      rfl
     refine one_ (i:=5) (N:=some 9) #[true,true,true,true,true,true,true,true,false,true,false] rfl rfl (one_of HT_.out (by kernel_rfl)) (by decide) (fun K hK => ?_);refine goes_ Tryd.func67 (by kernel_rfl) rfl #[.string a0_2,.string (⟨#[48]⟩:ByteArray)] (by rfl) rfl rfl qnc0_ ?_
     with_reducible refine (strings_TrimRight.calls k a0_2 (⟨#[48]⟩:ByteArray) t112 _ A3.out).mono ?_
     rintro e w49 ⟨rfl,hb⟩
     refine ⟨_,rfl,?_⟩;have n0_:=M_ (blk_below (g:=gb109) (o:=.cells #[.bool false,.string a0_1,.string a0_2,.int .i64 a0_3] 55 (0,0)) qnc7_ hb);have n1_:=M_ (blk_below (g:=gb110) (o:=.cells #[.bool false,.string ⟨#[]⟩,.string ⟨#[]⟩,.int .i64 0] 25 (0,0)) qnc10_ hb);have n2_:=M_ (blk_below (g:=gb113) (o:=.cells #[.bool false,.string ⟨#[]⟩,.string ⟨#[]⟩,.int .i64 0] 25 (0,0)) qnc34_ hb);have n3_:=M_ (below_step qnc9_ hb);clear BK109;clear BK110;clear BK113;clear HB;have BK109:=n0_;have BK110:=n1_;have BK113:=n2_;have HB:=n3_;clear n0_ n1_ n2_ n3_
     (try clear hb)
     refine hK.out _ _ ⟨(blk_cell BK109.out 0).trans rfl,(blk_cell BK109.out 1).trans rfl,(blk_cell BK109.out 2).trans rfl,(blk_cell BK109.out 3).trans rfl⟩ (fun hHeld => ?_);clear hK K;refine norm_ (a':=?_) ?_ ?_
     rotate_left
     ·show Act.put _ (some 9) _=_
      simp only [Act.put,sA_,sZ_,sS_,i64_w,i32_w]
      rfl
     refine pure_ (i:=8) (N:=some 12) (v:=?_) (a':=?_) #[true,true,true,true,true,true,true,true,true,true,false] rfl rfl (any_of HT_.out (by kernel_rfl)) (fun _ _ _ h => h) (Or.inl ⟨by rfl,?_⟩) ?_ ?_
     rotate_left
     ·intro w'
      go_simp
      with_reducible rfl
     rotate_left
     ·simp only [Act.put,sA_,sZ_,sS_,i64_w,i32_w]
      rfl
     exact norm_ qnc35_ (hCont (gb113) _ ⟨hHeld,qnc7_,qnc10_,qnc34_,GW113.out,GE113.out,NB109_113.out,NB113_109.out,NB110_113.out,NB113_110.out,qnc9_⟩)
   ·skip
    refine box_step ?hg (N:=3) ?hd (cs:=#[.bool false,.string ⟨#[]⟩,.string ⟨#[]⟩,.int .i64 0]) (t:=25) ?hr ?_;(case hd => rfl);(case hg => rfl);(case hr => first|(go_simp;done)|(go_simp;rfl))
    intro gb113 hg w47 hbox hb
    have n0_:=M_ (blk_below (g:=gb109) (o:=.cells #[.bool false,.string a0_1,.string a0_2,.int .i64 a0_3] 55 (0,0)) qnc7_ hb);have n1_:=M_ (blk_below (g:=gb110) (o:=.cells #[.bool false,.string ⟨#[]⟩,.string ⟨#[]⟩,.int .i64 0] 25 (0,0)) qnc10_ hb);have n2_:=M_ (below_step qnc6_ hb);have n3_:=M_ (hbox);have n4_:=M_ ((by rw [hg];exact (below_size qnc6_):w.heap.size≤gb113));have n5_:=M_ ((by rw [hg];exact (below_size qnc6_):w.heap.size≤gb113));have n6_:=M_ ((by rw [hg];exact Nat.ne_of_lt (blk_lt (g:=gb109) (o:=.cells #[.bool false,.string a0_1,.string a0_2,.int .i64 a0_3] 55 (0,0)) qnc7_):gb109 ≠ gb113));have n7_:=M_ ((by rw [hg];exact Nat.ne_of_gt (blk_lt (g:=gb109) (o:=.cells #[.bool false,.string a0_1,.string a0_2,.int .i64 a0_3] 55 (0,0)) qnc7_):gb113 ≠ gb109));have n8_:=M_ ((by rw [hg];exact Nat.ne_of_lt (blk_lt (g:=gb110) (o:=.cells #[.bool false,.string ⟨#[]⟩,.string ⟨#[]⟩,.int .i64 0] 25 (0,0)) qnc10_):gb110 ≠ gb113));have n9_:=M_ ((by rw [hg];exact Nat.ne_of_gt (blk_lt (g:=gb110) (o:=.cells #[.bool false,.string ⟨#[]⟩,.string ⟨#[]⟩,.int .i64 0] 25 (0,0)) qnc10_):gb113 ≠ gb110));clear BK109;clear BK110;clear HB;have BK109:=n0_;have BK110:=n1_;have HB:=n2_;have BK113:=n3_;have GW113:=n4_;have GE113:=n5_;have NB109_113:=n6_;have NB113_109:=n7_;have NB110_113:=n8_;have NB113_110:=n9_;clear n0_ n1_ n2_ n3_ n4_ n5_ n6_ n7_ n8_ n9_;clear hb hbox hg;refine hK.out _ _ ⟨(blk_cell BK109.out 0).trans rfl,(blk_cell BK109.out 1).trans rfl,(blk_cell BK109.out 2).trans rfl,(blk_cell BK109.out 3).trans rfl⟩ (fun hHeld => ?_);clear hK K;refine norm_ (a':=?_) ?_ ?_
    rotate_left
    ·show Act.put _ (some 3) _=_
     simp only [Act.put,sA_,sZ_,sS_,i64_w,i32_w]
     rfl
    refine one_ (i:=2) (N:=some 6) #[true,true,true,true,true,false,true,true,false,true,false] rfl rfl (one_of HT_.out (by kernel_rfl)) (by decide) (fun K hK => ?_);refine goes_ Tryd.func66 (by kernel_rfl) rfl #[.string a0_1,.string (⟨#[48]⟩:ByteArray)] (by rfl) rfl rfl qnc0_ ?_
    with_reducible refine (strings_TrimLeft.calls k a0_1 (⟨#[48]⟩:ByteArray) t111 _ A2.out).mono ?_
    rintro e w48 ⟨rfl,hb⟩
    refine ⟨_,rfl,?_⟩;have n0_:=M_ (blk_below (g:=gb109) (o:=.cells #[.bool false,.string a0_1,.string a0_2,.int .i64 a0_3] 55 (0,0)) qnc7_ hb);have n1_:=M_ (blk_below (g:=gb110) (o:=.cells #[.bool false,.string ⟨#[]⟩,.string ⟨#[]⟩,.int .i64 0] 25 (0,0)) qnc10_ hb);have n2_:=M_ (blk_below (g:=gb113) (o:=.cells #[.bool false,.string ⟨#[]⟩,.string ⟨#[]⟩,.int .i64 0] 25 (0,0)) qnc34_ hb);have n3_:=M_ (below_step qnc9_ hb);clear BK109;clear BK110;clear BK113;clear HB;have BK109:=n0_;have BK110:=n1_;have BK113:=n2_;have HB:=n3_;clear n0_ n1_ n2_ n3_
    (try clear hb)
    refine hK.out _ _ ⟨(blk_cell BK109.out 0).trans rfl,(blk_cell BK109.out 1).trans rfl,(blk_cell BK109.out 2).trans rfl,(blk_cell BK109.out 3).trans rfl⟩ (fun hHeld => ?_);clear hK K;refine norm_ (a':=?_) ?_ ?_
    rotate_left
    ·show Act.put _ (some 6) _=_
     simp only [Act.put,sA_,sZ_,sS_,i64_w,i32_w]
     rfl
    refine one_ (i:=5) (N:=some 9) #[true,true,true,true,true,true,true,true,false,true,false] rfl rfl (one_of HT_.out (by kernel_rfl)) (by decide) (fun K hK => ?_);refine goes_ Tryd.func67 (by kernel_rfl) rfl #[.string a0_2,.string (⟨#[48]⟩:ByteArray)] (by rfl) rfl rfl qnc0_ ?_
    with_reducible refine (strings_TrimRight.calls k a0_2 (⟨#[48]⟩:ByteArray) t112 _ A3.out).mono ?_
    rintro e w49 ⟨rfl,hb⟩
    refine ⟨_,rfl,?_⟩;have n0_:=M_ (blk_below (g:=gb109) (o:=.cells #[.bool false,.string a0_1,.string a0_2,.int .i64 a0_3] 55 (0,0)) qnc7_ hb);have n1_:=M_ (blk_below (g:=gb110) (o:=.cells #[.bool false,.string ⟨#[]⟩,.string ⟨#[]⟩,.int .i64 0] 25 (0,0)) qnc10_ hb);have n2_:=M_ (blk_below (g:=gb113) (o:=.cells #[.bool false,.string ⟨#[]⟩,.string ⟨#[]⟩,.int .i64 0] 25 (0,0)) qnc34_ hb);have n3_:=M_ (below_step qnc9_ hb);clear BK109;clear BK110;clear BK113;clear HB;have BK109:=n0_;have BK110:=n1_;have BK113:=n2_;have HB:=n3_;clear n0_ n1_ n2_ n3_
    (try clear hb)
    refine hK.out _ _ ⟨(blk_cell BK109.out 0).trans rfl,(blk_cell BK109.out 1).trans rfl,(blk_cell BK109.out 2).trans rfl,(blk_cell BK109.out 3).trans rfl⟩ (fun hHeld => ?_);clear hK K;refine norm_ (a':=?_) ?_ ?_
    rotate_left
    ·show Act.put _ (some 9) _=_
     simp only [Act.put,sA_,sZ_,sS_,i64_w,i32_w]
     rfl
    refine pure_ (i:=8) (N:=some 12) (v:=?_) (a':=?_) #[true,true,true,true,true,true,true,true,true,true,false] rfl rfl (any_of HT_.out (by kernel_rfl)) (fun _ _ _ h => h) (Or.inl ⟨by rfl,?_⟩) ?_ ?_
    rotate_left
    ·intro w'
     go_simp
     with_reducible rfl
    rotate_left
    ·simp only [Act.put,sA_,sZ_,sS_,i64_w,i32_w]
     rfl
    exact norm_ qnc35_ (hCont (gb113) _ ⟨hHeld,qnc7_,qnc10_,qnc34_,GW113.out,GE113.out,NB109_113.out,NB113_109.out,NB110_113.out,NB113_110.out,qnc9_⟩)
  rintro gb113 w50 ⟨hS_,h0_,h1_,h2_,h3_,h4_,h5_,h6_,h7_,h8_,h9_⟩
  have n0_:Aside0 (w50.heap[gb109]?=some (.cells #[.bool false,.string a0_1,.string a0_2,.int .i64 a0_3] 55 (0,0))):=⟨h0_⟩;have n1_:Aside0 (w50.heap[gb110]?=some (.cells #[.bool false,.string ⟨#[]⟩,.string ⟨#[]⟩,.int .i64 0] 25 (0,0))):=⟨h1_⟩;have n2_:Aside0 (w50.heap[gb113]?=some (.cells #[.bool false,.string ⟨#[]⟩,.string ⟨#[]⟩,.int .i64 0] 25 (0,0))):=⟨h2_⟩;have n3_:Aside0 (w.heap.size≤gb113):=⟨h3_⟩;have n4_:Aside0 (w.heap.size≤gb113):=⟨h4_⟩;have n5_:Aside0 (gb109 ≠ gb113):=⟨h5_⟩;have n6_:Aside0 (gb113 ≠ gb109):=⟨h6_⟩;have n7_:Aside0 (gb110 ≠ gb113):=⟨h7_⟩;have n8_:Aside0 (gb113 ≠ gb110):=⟨h8_⟩;have n9_:Aside0 (Below w.heap.size w w50):=⟨h9_⟩;clear BK109;clear BK110;clear HB;clear h0_ h1_ h2_ h3_ h4_ h5_ h6_ h7_ h8_ h9_;have BK109:=n0_;have BK110:=n1_;have BK113:=n2_;have GW113:=n3_;have GE113:=n4_;have NB109_113:=n5_;have NB113_109:=n6_;have NB110_113:=n7_;have NB113_110:=n8_;have HB:=n9_;clear n0_ n1_ n2_ n3_ n4_ n5_ n6_ n7_ n8_ n9_;have hHeld:w50.cell? ⟨gb109,0,none⟩=some (.bool false)∧w50.cell? ⟨gb109,1,none⟩=some (.string a0_1)∧w50.cell? ⟨gb109,2,none⟩=some (.string a0_2)∧w50.cell? ⟨gb109,3,none⟩=some (.int .i64 a0_3):=hS_;refine norm_ (a':=?_) ?_ ?_
  rotate_left
  ·simp only [putAll,Act.put,List.setIfInBounds_toArray,List.set_cons_zero,List.set_cons_succ]
   rfl
  refine one_ (i:=10) (N:=none) #[true,true,true,true,true,true,true,true,true,true,true] rfl rfl (one_of HT_.out (by kernel_rfl)) (by decide) (fun K hK => ?_);have hs51:w50.cell? ⟨gb113,0,none⟩=some (.bool false):=(blk_cell BK113.out 0).trans rfl;have hfs51:=bf_ BK113.out 0;have hns51_0:=NB109_113.out;have hns51_1:=NB110_113.out;have hms51_0:=NB113_109.out;have hms51_1:=NB113_110.out;have hs52:w50.cell? ⟨gb113,1,none⟩=some (.string ⟨#[]⟩):=(blk_cell BK113.out 1).trans rfl;have hfs52:=bf_ BK113.out 1;have hns52_0:=NB109_113.out;have hns52_1:=NB110_113.out;have hms52_0:=NB113_109.out;have hms52_1:=NB113_110.out;have hs53:w50.cell? ⟨gb113,2,none⟩=some (.string ⟨#[]⟩):=(blk_cell BK113.out 2).trans rfl;have hfs53:=bf_ BK113.out 2;have hns53_0:=NB109_113.out;have hns53_1:=NB110_113.out;have hms53_0:=NB113_109.out;have hms53_1:=NB113_110.out;have hs54:w50.cell? ⟨gb113,3,none⟩=some (.int .i64 0):=(blk_cell BK113.out 3).trans rfl;have hfs54:=bf_ BK113.out 3;have hns54_0:=NB109_113.out;have hns54_1:=NB110_113.out;have hms54_0:=NB113_109.out;have hms54_1:=NB113_110.out;refine skip_ (w1:=?_) (by rfl) rfl ?_ ?_
  rotate_left
  ·go_simp
   rfl
  refine hK.out _ _ ⟨((cell_far (p:=⟨gb113,_,none⟩) NB109_113.out _).trans (((cell_far (p:=⟨gb113,_,none⟩) NB109_113.out _).trans (((cell_far (p:=⟨gb113,_,none⟩) NB109_113.out _).trans (((cell_far (p:=⟨gb113,_,none⟩) NB109_113.out _).trans (hHeld.1)))))))),((cell_far (p:=⟨gb113,_,none⟩) NB109_113.out _).trans (((cell_far (p:=⟨gb113,_,none⟩) NB109_113.out _).trans (((cell_far (p:=⟨gb113,_,none⟩) NB109_113.out _).trans (((cell_far (p:=⟨gb113,_,none⟩) NB109_113.out _).trans (hHeld.2.1)))))))),((cell_far (p:=⟨gb113,_,none⟩) NB109_113.out _).trans (((cell_far (p:=⟨gb113,_,none⟩) NB109_113.out _).trans (((cell_far (p:=⟨gb113,_,none⟩) NB109_113.out _).trans (((cell_far (p:=⟨gb113,_,none⟩) NB109_113.out _).trans (hHeld.2.2.1)))))))),((cell_far (p:=⟨gb113,_,none⟩) NB109_113.out _).trans (((cell_far (p:=⟨gb113,_,none⟩) NB109_113.out _).trans (((cell_far (p:=⟨gb113,_,none⟩) NB109_113.out _).trans (((cell_far (p:=⟨gb113,_,none⟩) NB109_113.out _).trans (hHeld.2.2.2))))))))⟩ (fun hHeld => ?_);clear hK K;refine done_ (done_of HT_.out (by kernel_rfl)) ?_;have hnb55:=NB109_110.out;have hnc55:=NB110_109.out;have hnb56:=NB109_113.out;have hnc56:=NB113_109.out;have hcz57_0:=bc_ (.bool false) BK109.out 0 rfl;have hcz57_1:=bc_ (.string a0_1) BK109.out 1 rfl;have hcz57_2:=bc_ (.string a0_2) BK109.out 2 rfl;have hcz57_3:=bc_ (.int .i64 a0_3) BK109.out 3 rfl;have hfz57_0:=bf_ BK109.out 0;have hfz57_1:=bf_ BK109.out 1;have hfz57_2:=bf_ BK109.out 2;have hfz57_3:=bf_ BK109.out 3;have hnb58:=NB113_110.out;have hnc58:=NB110_113.out;have hcz59_0:=bc_ (.bool false) BK113.out 0 rfl;have hcz59_1:=bc_ (.string ⟨#[]⟩) BK113.out 1 rfl;have hcz59_2:=bc_ (.string ⟨#[]⟩) BK113.out 2 rfl;have hcz59_3:=bc_ (.int .i64 0) BK113.out 3 rfl;have hfz59_0:=bf_ BK113.out 0;have hfz59_1:=bf_ BK113.out 1;have hfz59_2:=bf_ BK113.out 2;have hfz59_3:=bf_ BK113.out 3;have hcz60_0:=bc_ (.bool false) BK110.out 0 rfl;have hcz60_1:=bc_ (.string ⟨#[]⟩) BK110.out 1 rfl;have hcz60_2:=bc_ (.string ⟨#[]⟩) BK110.out 2 rfl;have hcz60_3:=bc_ (.int .i64 0) BK110.out 3 rfl;have hfz60_0:=bf_ BK110.out 0;have hfz60_1:=bf_ BK110.out 1;have hfz60_2:=bf_ BK110.out 2;have hfz60_3:=bf_ BK110.out 3
  try go_wp2
  refine bodyPost_ret (results_cell_row rfl _ _ gb110 25 #[.bool false,.string t111,.string t112,.int .i64 a0_3] (0,0) _ rfl (by (with_reducible repeat first|apply bN_|apply bD_|apply bA_);refine blk_put (cs:=#[.bool false,.string t111,.string t112,.int .i64 0]) ?_ 3 _ rfl;(with_reducible repeat first|apply bN_|apply bD_|apply bA_);refine blk_put (cs:=#[.bool false,.string t111,.string ⟨#[]⟩,.int .i64 0]) ?_ 2 _ rfl;(with_reducible repeat first|apply bN_|apply bD_|apply bA_);refine blk_put (cs:=#[.bool false,.string ⟨#[]⟩,.string ⟨#[]⟩,.int .i64 0]) ?_ 1 _ rfl;(with_reducible repeat first|apply bN_|apply bD_|apply bA_);refine blk_put (cs:=#[.bool false,.string ⟨#[]⟩,.string ⟨#[]⟩,.int .i64 0]) ?_ 0 _ rfl;(with_reducible repeat first|apply bN_|apply bD_|apply bA_);refine blk_far ?_ NB110_113.out _;(with_reducible repeat first|apply bN_|apply bD_|apply bA_);refine blk_far ?_ NB110_113.out _;(with_reducible repeat first|apply bN_|apply bD_|apply bA_);refine blk_far ?_ NB110_113.out _;(with_reducible repeat first|apply bN_|apply bD_|apply bA_);refine blk_far ?_ NB110_113.out _;(with_reducible repeat first|apply bN_|apply bD_|apply bA_);refine blk_far ?_ NB110_113.out _;(with_reducible repeat first|apply bN_|apply bD_|apply bA_);exact BK110.out) Tryd.underlying25 rfl (by kernel_rfl)) rfl ?_;exact ⟨qnc5_,qnc9_⟩

set_option maxHeartbeats 8000000
set_option maxRecDepth 100000

def n_signed.f (k:Nat) (a0:ByteArray):Option (Bool × ByteArray × ByteArray × Int):=(n_blanks.f k a0).bind fun t115 => (if t115 < (a0.size:Int) then (if 0≤t115 then (if (bt a0 t115)=45 then ((n_plain.f a0 (wrap64 (t115+1))).bind fun bt116 => (some (decide (bt116.2.2.2 > 0),bt116.2.1,bt116.2.2.1,bt116.2.2.2))) else ((n_plain.f a0 t115).bind fun bt121 => (some (false,bt121.2.1,bt121.2.2.1,bt121.2.2.2)))) else (none)) else ((n_plain.f a0 t115).bind fun bt126 => (some (false,bt126.2.1,bt126.2.2.1,bt126.2.2.2))))
theorem n_signed.calls (k : Nat) (a0 : ByteArray) (r1 : Bool) (r2 : ByteArray) (r3 : ByteArray) (r4 : Int) (w : World) (h : n_signed.f k a0 = some (r1, r2, r3, r4)) :
  Calls Tryd.prog 33 #[.string a0] w fun e w' => e=.returned (.agg #[.bool r1,.string r2,.string r3,.int .i64 r4])∧Below w.heap.size w w':=by
 have hu55:=Tryd.underlying55;have HB:=M_ (Below.refl w.heap.size w);have H:((n_blanks.f k a0).bind fun t115 => (if t115 < (a0.size:Int) then (if 0≤t115 then (if (bt a0 t115)=45 then ((n_plain.f a0 (wrap64 (t115+1))).bind fun bt116 => (some (decide (bt116.2.2.2 > 0),bt116.2.1,bt116.2.2.1,bt116.2.2.2))) else ((n_plain.f a0 t115).bind fun bt121 => (some (false,bt121.2.1,bt121.2.2.1,bt121.2.2.2)))) else (none)) else ((n_plain.f a0 t115).bind fun bt126 => (some (false,bt126.2.1,bt126.2.2.1,bt126.2.2.2)))))=some (r1,r2,r3,r4):=h;clear h;obtain ⟨t115,A2,H⟩:=ob_ H
 by_cases c3:t115 < (a0.size:Int)
 ·rw [if_pos c3] at H;have c3b0:=dT_ c3;clear c3
  by_cases c4:0≤t115
  ·rw [if_pos c4] at H;have c4b0:=dT_ c4;clear c4
   by_cases c6:(bt a0 t115)=45
   ·rw [if_pos c6] at H;have c6b0:((bt a0 t115) == 45)=true:=beq_iff_eq.mpr c6;have c6b1:((bt a0 t115) != 45)=false:=nF_ c6;clear c6;obtain ⟨⟨t116,t117,t118,t119⟩,A7,H⟩:=ob_ H;simp only [Option.some.injEq,Prod.mk.injEq] at H;obtain ⟨rfl,rfl,rfl,rfl⟩:=H
    go_enter Tryd.func33,Tryd.ntmps33
    have tk15:=trivial;have tk16:=trivial;have tk17:=trivial;have tk18:=trivial
    go_wp2_with (first|(clear tk15;(with_reducible refine gate_dst (N:=2) rfl ?_);refine box_event ?hg (N:=2) ?hd (cs:=#[.bool false,.string ⟨#[]⟩,.string ⟨#[]⟩,.int .i64 0]) (t:=55) ?hr ?_;(case hd => rfl);(case hg => rfl);(case hr => first|(go_simp;done)|(go_simp;rfl));intro gb114 hg w8 hbox hb;have n0_:=M_ (below_step qnc2_ hb);have n1_:=M_ (hbox);have n2_:=M_ ((by rw [hg];exact (below_size qnc2_):w.heap.size≤gb114));have n3_:=n2_;clear HB;have HB:=n0_;have BK114:=n1_;have GW114:=n2_;have GE114:=n3_;clear n0_ n1_ n2_ n3_;clear hb hbox hg)|(clear tk16;(with_reducible refine gate_callee (f:=34) rfl ?_);refine goesL_ (some 7) rfl rfl Tryd.func34 (by kernel_rfl) rfl #[.string a0] rfl qnc0_ ?_;(with_reducible refine (n_blanks.calls k a0 t115 _ A2.out).mono ?_);rintro e w' ⟨rfl,⟨nd,rfl⟩⟩;refine ⟨_,rfl,?_⟩;(try (rw [drewN_self w8];generalize hq_:World.drewN w8 _=w8;have n0_:Aside0 (w8.heap[gb114]?=some (.cells #[.bool false,.string ⟨#[]⟩,.string ⟨#[]⟩,.int .i64 0] 55 (0,0))):=⟨by rw [← hq_];exact qnc42_⟩;have n1_:Aside0 (Below w.heap.size w w8):=⟨by rw [← hq_];exact qnc24_⟩;clear BK114 HB hq_;have BK114:=n0_;have HB:=n1_;clear n0_ n1_));(try (have hcu9_0:w8.cell? ⟨gb114,0,none⟩=some (.bool false):=(blk_cell BK114.out 0).trans rfl;have hfu9_0:=bf_ BK114.out 0;have hcu9_1:w8.cell? ⟨gb114,1,none⟩=some (.string ⟨#[]⟩):=(blk_cell BK114.out 1).trans rfl;have hfu9_1:=bf_ BK114.out 1;have hcu9_2:w8.cell? ⟨gb114,2,none⟩=some (.string ⟨#[]⟩):=(blk_cell BK114.out 2).trans rfl;have hfu9_2:=bf_ BK114.out 2;have hcu9_3:w8.cell? ⟨gb114,3,none⟩=some (.int .i64 0):=(blk_cell BK114.out 3).trans rfl;have hfu9_3:=bf_ BK114.out 3));have p5:0≤(t115:Int):=oD_ qnc3_;have q5:t115 < (a0.size:Int):=oD_ qnc3_;have hx5:=bt_at a0 t115;replace p5:=eq_true p5;replace q5:=eq_true q5)|(clear tk17;(with_reducible refine gate_callee (f:=36) rfl ?_);refine goesL_ (some 23) rfl rfl Tryd.func36 (by kernel_rfl) rfl #[.string a0,.int .i64 (wrap64 (t115+1))] rfl qnc0_ ?_;(with_reducible refine (n_plain.calls a0 (wrap64 (t115+1)) t116 t117 t118 t119 _ A7.out).mono ?_);rintro e w10 ⟨rfl,hb⟩;refine ⟨_,rfl,?_⟩;have n0_:=M_ (blk_below (g:=gb114) (o:=.cells #[.bool false,.string ⟨#[]⟩,.string ⟨#[]⟩,.int .i64 0] 55 (0,0)) qnc42_ hb);have n1_:=M_ (below_step qnc24_ hb);clear BK114;clear HB;have BK114:=n0_;have HB:=n1_;clear n0_ n1_;(try clear hb))|(clear tk18;(with_reducible refine gate_dst (N:=5) rfl ?_);refine box_event ?hg (N:=5) ?hd (cs:=#[.bool false,.string ⟨#[]⟩,.string ⟨#[]⟩,.int .i64 0]) (t:=55) ?hr ?_;(case hd => rfl);(case hg => rfl);(case hr => first|(go_simp;done)|(go_simp;rfl));intro gb120 hg w11 hbox hb;have n0_:=M_ (blk_below (g:=gb114) (o:=.cells #[.bool false,.string ⟨#[]⟩,.string ⟨#[]⟩,.int .i64 0] 55 (0,0)) qnc42_ hb);have n1_:=M_ (below_step qnc24_ hb);have n2_:=M_ (hbox);have n3_:=M_ ((by rw [hg];exact (below_size qnc24_):w.heap.size≤gb120));have n4_:=n3_;have n5_:=M_ ((by rw [hg];exact Nat.ne_of_lt (blk_lt (g:=gb114) (o:=.cells #[.bool false,.string ⟨#[]⟩,.string ⟨#[]⟩,.int .i64 0] 55 (0,0)) qnc42_):gb114 ≠ gb120));have n6_:=M_ ((by rw [hg];exact Nat.ne_of_gt (blk_lt (g:=gb114) (o:=.cells #[.bool false,.string ⟨#[]⟩,.string ⟨#[]⟩,.int .i64 0] 55 (0,0)) qnc42_):gb120 ≠ gb114));clear BK114;clear HB;have BK114:=n0_;have HB:=n1_;have BK120:=n2_;have GW120:=n3_;have GE120:=n4_;have NB114_120:=n5_;have NB120_114:=n6_;clear n0_ n1_ n2_ n3_ n4_ n5_ n6_;clear hb hbox hg;have hnb12:=NB120_114.out;have hnc12:=NB114_120.out;have hcz13_0:=bc_ (.bool false) BK120.out 0 rfl;have hcz13_1:=bc_ (.string ⟨#[]⟩) BK120.out 1 rfl;have hcz13_2:=bc_ (.string ⟨#[]⟩) BK120.out 2 rfl;have hcz13_3:=bc_ (.int .i64 0) BK120.out 3 rfl;have hfz13_0:=bf_ BK120.out 0;have hfz13_1:=bf_ BK120.out 1;have hfz13_2:=bf_ BK120.out 2;have hfz13_3:=bf_ BK120.out 3;have hcz14_0:=bc_ (.bool false) BK114.out 0 rfl;have hcz14_1:=bc_ (.string ⟨#[]⟩) BK114.out 1 rfl;have hcz14_2:=bc_ (.string ⟨#[]⟩) BK114.out 2 rfl;have hcz14_3:=bc_ (.int .i64 0) BK114.out 3 rfl;have hfz14_0:=bf_ BK114.out 0;have hfz14_1:=bf_ BK114.out 1;have hfz14_2:=bf_ BK114.out 2;have hfz14_3:=bf_ BK114.out 3))
    refine bodyPost_ret (results_cell_row rfl _ _ gb114 55 #[.bool (decide (t119 > 0)),.string t117,.string t118,.int .i64 t119] (0,0) _ rfl (by (with_reducible repeat first|apply bN_|apply bD_|apply bA_);refine blk_put (cs:=#[.bool (decide (t119 > 0)),.string t117,.string t118,.int .i64 0]) ?_ 3 _ rfl;(with_reducible repeat first|apply bN_|apply bD_|apply bA_);refine blk_put (cs:=#[.bool (decide (t119 > 0)),.string t117,.string ⟨#[]⟩,.int .i64 0]) ?_ 2 _ rfl;(with_reducible repeat first|apply bN_|apply bD_|apply bA_);refine blk_put (cs:=#[.bool (decide (t119 > 0)),.string ⟨#[]⟩,.string ⟨#[]⟩,.int .i64 0]) ?_ 1 _ rfl;(with_reducible repeat first|apply bN_|apply bD_|apply bA_);refine blk_put (cs:=#[.bool false,.string ⟨#[]⟩,.string ⟨#[]⟩,.int .i64 0]) ?_ 0 _ rfl;(with_reducible repeat first|apply bN_|apply bD_|apply bA_);refine blk_far ?_ NB114_120.out _;(with_reducible repeat first|apply bN_|apply bD_|apply bA_);refine blk_far ?_ NB114_120.out _;(with_reducible repeat first|apply bN_|apply bD_|apply bA_);refine blk_far ?_ NB114_120.out _;(with_reducible repeat first|apply bN_|apply bD_|apply bA_);refine blk_far ?_ NB114_120.out _;(with_reducible repeat first|apply bN_|apply bD_|apply bA_);refine blk_far ?_ NB114_120.out _;(with_reducible repeat first|apply bN_|apply bD_|apply bA_);exact BK114.out) Tryd.underlying55 rfl (by kernel_rfl)) rfl ?_;exact ⟨qnc5_,by repeat (first|(with_reducible first|exact HB.out|apply below_alloc|apply pw_below_drewN|apply below_drew1|refine below_set ?_ GE114.out|refine below_set ?_ GE120.out)|exact HB.out)⟩
   ·rw [if_neg c6] at H;have c6b0:((bt a0 t115) == 45)=false:=bF_ c6;have c6b1:((bt a0 t115) != 45)=true:=bne_iff_ne.mpr c6;obtain ⟨⟨t121,t122,t123,t124⟩,A19,H⟩:=ob_ H;simp only [Option.some.injEq,Prod.mk.injEq] at H;obtain ⟨rfl,rfl,rfl,rfl⟩:=H
    go_enter Tryd.func33,Tryd.ntmps33
    have tk27:=trivial;have tk28:=trivial;have tk29:=trivial;have tk30:=trivial
    go_wp2_with (first|(clear tk27;(with_reducible refine gate_dst (N:=2) rfl ?_);refine box_event ?hg (N:=2) ?hd (cs:=#[.bool false,.string ⟨#[]⟩,.string ⟨#[]⟩,.int .i64 0]) (t:=55) ?hr ?_;(case hd => rfl);(case hg => rfl);(case hr => first|(go_simp;done)|(go_simp;rfl));intro gb114 hg w20 hbox hb;have n0_:=M_ (below_step qnc2_ hb);have n1_:=M_ (hbox);have n2_:=M_ ((by rw [hg];exact (below_size qnc2_):w.heap.size≤gb114));have n3_:=n2_;clear HB;have HB:=n0_;have BK114:=n1_;have GW114:=n2_;have GE114:=n3_;clear n0_ n1_ n2_ n3_;clear hb hbox hg)|(clear tk28;(with_reducible refine gate_callee (f:=34) rfl ?_);refine goesL_ (some 7) rfl rfl Tryd.func34 (by kernel_rfl) rfl #[.string a0] rfl qnc0_ ?_;(with_reducible refine (n_blanks.calls k a0 t115 _ A2.out).mono ?_);rintro e w' ⟨rfl,⟨nd,rfl⟩⟩;refine ⟨_,rfl,?_⟩;(try (rw [drewN_self w20];generalize hq_:World.drewN w20 _=w20;have n0_:Aside0 (w20.heap[gb114]?=some (.cells #[.bool false,.string ⟨#[]⟩,.string ⟨#[]⟩,.int .i64 0] 55 (0,0))):=⟨by rw [← hq_];exact qnc42_⟩;have n1_:Aside0 (Below w.heap.size w w20):=⟨by rw [← hq_];exact qnc24_⟩;clear BK114 HB hq_;have BK114:=n0_;have HB:=n1_;clear n0_ n1_));(try (have hcu21_0:w20.cell? ⟨gb114,0,none⟩=some (.bool false):=(blk_cell BK114.out 0).trans rfl;have hfu21_0:=bf_ BK114.out 0;have hcu21_1:w20.cell? ⟨gb114,1,none⟩=some (.string ⟨#[]⟩):=(blk_cell BK114.out 1).trans rfl;have hfu21_1:=bf_ BK114.out 1;have hcu21_2:w20.cell? ⟨gb114,2,none⟩=some (.string ⟨#[]⟩):=(blk_cell BK114.out 2).trans rfl;have hfu21_2:=bf_ BK114.out 2;have hcu21_3:w20.cell? ⟨gb114,3,none⟩=some (.int .i64 0):=(blk_cell BK114.out 3).trans rfl;have hfu21_3:=bf_ BK114.out 3));have p5:0≤(t115:Int):=oD_ qnc3_;have q5:t115 < (a0.size:Int):=oD_ qnc3_;have hx5:=bt_at a0 t115;replace p5:=eq_true p5;replace q5:=eq_true q5)|(clear tk29;(with_reducible refine gate_callee (f:=36) rfl ?_);refine goesL_ (some 23) rfl rfl Tryd.func36 (by kernel_rfl) rfl #[.string a0,.int .i64 t115] rfl qnc0_ ?_;(with_reducible refine (n_plain.calls a0 t115 t121 t122 t123 t124 _ A19.out).mono ?_);rintro e w22 ⟨rfl,hb⟩;refine ⟨_,rfl,?_⟩;have n0_:=M_ (blk_below (g:=gb114) (o:=.cells #[.bool false,.string ⟨#[]⟩,.string ⟨#[]⟩,.int .i64 0] 55 (0,0)) qnc42_ hb);have n1_:=M_ (below_step qnc24_ hb);clear BK114;clear HB;have BK114:=n0_;have HB:=n1_;clear n0_ n1_;(try clear hb))|(clear tk30;(with_reducible refine gate_dst (N:=5) rfl ?_);refine box_event ?hg (N:=5) ?hd (cs:=#[.bool false,.string ⟨#[]⟩,.string ⟨#[]⟩,.int .i64 0]) (t:=55) ?hr ?_;(case hd => rfl);(case hg => rfl);(case hr => first|(go_simp;done)|(go_simp;rfl));intro gb125 hg w23 hbox hb;have n0_:=M_ (blk_below (g:=gb114) (o:=.cells #[.bool false,.string ⟨#[]⟩,.string ⟨#[]⟩,.int .i64 0] 55 (0,0)) qnc42_ hb);have n1_:=M_ (below_step qnc24_ hb);have n2_:=M_ (hbox);have n3_:=M_ ((by rw [hg];exact (below_size qnc24_):w.heap.size≤gb125));have n4_:=n3_;have n5_:=M_ ((by rw [hg];exact Nat.ne_of_lt (blk_lt (g:=gb114) (o:=.cells #[.bool false,.string ⟨#[]⟩,.string ⟨#[]⟩,.int .i64 0] 55 (0,0)) qnc42_):gb114 ≠ gb125));have n6_:=M_ ((by rw [hg];exact Nat.ne_of_gt (blk_lt (g:=gb114) (o:=.cells #[.bool false,.string ⟨#[]⟩,.string ⟨#[]⟩,.int .i64 0] 55 (0,0)) qnc42_):gb125 ≠ gb114));clear BK114;clear HB;have BK114:=n0_;have HB:=n1_;have BK125:=n2_;have GW125:=n3_;have GE125:=n4_;have NB114_125:=n5_;have NB125_114:=n6_;clear n0_ n1_ n2_ n3_ n4_ n5_ n6_;clear hb hbox hg;have hnb24:=NB125_114.out;have hnc24:=NB114_125.out;have hcz25_0:=bc_ (.bool false) BK125.out 0 rfl;have hcz25_1:=bc_ (.string ⟨#[]⟩) BK125.out 1 rfl;have hcz25_2:=bc_ (.string ⟨#[]⟩) BK125.out 2 rfl;have hcz25_3:=bc_ (.int .i64 0) BK125.out 3 rfl;have hfz25_0:=bf_ BK125.out 0;have hfz25_1:=bf_ BK125.out 1;have hfz25_2:=bf_ BK125.out 2;have hfz25_3:=bf_ BK125.out 3;have hcz26_0:=bc_ (.bool false) BK114.out 0 rfl;have hcz26_1:=bc_ (.string ⟨#[]⟩) BK114.out 1 rfl;have hcz26_2:=bc_ (.string ⟨#[]⟩) BK114.out 2 rfl;have hcz26_3:=bc_ (.int .i64 0) BK114.out 3 rfl;have hfz26_0:=bf_ BK114.out 0;have hfz26_1:=bf_ BK114.out 1;have hfz26_2:=bf_ BK114.out 2;have hfz26_3:=bf_ BK114.out 3))
    refine bodyPost_ret (results_cell_row rfl _ _ gb114 55 #[.bool false,.string t122,.string t123,.int .i64 t124] (0,0) _ rfl (by (with_reducible repeat first|apply bN_|apply bD_|apply bA_);refine blk_put (cs:=#[.bool false,.string t122,.string t123,.int .i64 0]) ?_ 3 _ rfl;(with_reducible repeat first|apply bN_|apply bD_|apply bA_);refine blk_put (cs:=#[.bool false,.string t122,.string ⟨#[]⟩,.int .i64 0]) ?_ 2 _ rfl;(with_reducible repeat first|apply bN_|apply bD_|apply bA_);refine blk_put (cs:=#[.bool false,.string ⟨#[]⟩,.string ⟨#[]⟩,.int .i64 0]) ?_ 1 _ rfl;(with_reducible repeat first|apply bN_|apply bD_|apply bA_);refine blk_put (cs:=#[.bool false,.string ⟨#[]⟩,.string ⟨#[]⟩,.int .i64 0]) ?_ 0 _ rfl;(with_reducible repeat first|apply bN_|apply bD_|apply bA_);refine blk_far ?_ NB114_125.out _;(with_reducible repeat first|apply bN_|apply bD_|apply bA_);refine blk_far ?_ NB114_125.out _;(with_reducible repeat first|apply bN_|apply bD_|apply bA_);refine blk_far ?_ NB114_125.out _;(with_reducible repeat first|apply bN_|apply bD_|apply bA_);refine blk_far ?_ NB114_125.out _;(with_reducible repeat first|apply bN_|apply bD_|apply bA_);refine blk_far ?_ NB114_125.out _;(with_reducible repeat first|apply bN_|apply bD_|apply bA_);exact BK114.out) Tryd.underlying55 rfl (by kernel_rfl)) rfl ?_;exact ⟨qnc5_,by repeat (first|(with_reducible first|exact HB.out|apply below_alloc|apply pw_below_drewN|apply below_drew1|refine below_set ?_ GE114.out|refine below_set ?_ GE125.out)|exact HB.out)⟩
  ·rw [if_neg c4] at H;exact absurd H (by simp)
 ·rw [if_neg c3] at H;have c3b0:=dF_ c3;clear c3;obtain ⟨⟨t126,t127,t128,t129⟩,A31,H⟩:=ob_ H;simp only [Option.some.injEq,Prod.mk.injEq] at H;obtain ⟨rfl,rfl,rfl,rfl⟩:=H
  go_enter Tryd.func33,Tryd.ntmps33
  have tk39:=trivial;have tk40:=trivial;have tk41:=trivial;have tk42:=trivial
  go_wp2_with (first|(clear tk39;(with_reducible refine gate_dst (N:=2) rfl ?_);refine box_event ?hg (N:=2) ?hd (cs:=#[.bool false,.string ⟨#[]⟩,.string ⟨#[]⟩,.int .i64 0]) (t:=55) ?hr ?_;(case hd => rfl);(case hg => rfl);(case hr => first|(go_simp;done)|(go_simp;rfl));intro gb114 hg w32 hbox hb;have n0_:=M_ (below_step qnc2_ hb);have n1_:=M_ (hbox);have n2_:=M_ ((by rw [hg];exact (below_size qnc2_):w.heap.size≤gb114));have n3_:=n2_;clear HB;have HB:=n0_;have BK114:=n1_;have GW114:=n2_;have GE114:=n3_;clear n0_ n1_ n2_ n3_;clear hb hbox hg)|(clear tk40;(with_reducible refine gate_callee (f:=34) rfl ?_);refine goesL_ (some 7) rfl rfl Tryd.func34 (by kernel_rfl) rfl #[.string a0] rfl qnc0_ ?_;(with_reducible refine (n_blanks.calls k a0 t115 _ A2.out).mono ?_);rintro e w' ⟨rfl,⟨nd,rfl⟩⟩;refine ⟨_,rfl,?_⟩;(try (rw [drewN_self w32];generalize hq_:World.drewN w32 _=w32;have n0_:Aside0 (w32.heap[gb114]?=some (.cells #[.bool false,.string ⟨#[]⟩,.string ⟨#[]⟩,.int .i64 0] 55 (0,0))):=⟨by rw [← hq_];exact qnc42_⟩;have n1_:Aside0 (Below w.heap.size w w32):=⟨by rw [← hq_];exact qnc24_⟩;clear BK114 HB hq_;have BK114:=n0_;have HB:=n1_;clear n0_ n1_));(try (have hcu33_0:w32.cell? ⟨gb114,0,none⟩=some (.bool false):=(blk_cell BK114.out 0).trans rfl;have hfu33_0:=bf_ BK114.out 0;have hcu33_1:w32.cell? ⟨gb114,1,none⟩=some (.string ⟨#[]⟩):=(blk_cell BK114.out 1).trans rfl;have hfu33_1:=bf_ BK114.out 1;have hcu33_2:w32.cell? ⟨gb114,2,none⟩=some (.string ⟨#[]⟩):=(blk_cell BK114.out 2).trans rfl;have hfu33_2:=bf_ BK114.out 2;have hcu33_3:w32.cell? ⟨gb114,3,none⟩=some (.int .i64 0):=(blk_cell BK114.out 3).trans rfl;have hfu33_3:=bf_ BK114.out 3)))|(clear tk41;(with_reducible refine gate_callee (f:=36) rfl ?_);refine goesL_ (some 23) rfl rfl Tryd.func36 (by kernel_rfl) rfl #[.string a0,.int .i64 t115] rfl qnc0_ ?_;(with_reducible refine (n_plain.calls a0 t115 t126 t127 t128 t129 _ A31.out).mono ?_);rintro e w34 ⟨rfl,hb⟩;refine ⟨_,rfl,?_⟩;have n0_:=M_ (blk_below (g:=gb114) (o:=.cells #[.bool false,.string ⟨#[]⟩,.string ⟨#[]⟩,.int .i64 0] 55 (0,0)) qnc42_ hb);have n1_:=M_ (below_step qnc24_ hb);clear BK114;clear HB;have BK114:=n0_;have HB:=n1_;clear n0_ n1_;(try clear hb))|(clear tk42;(with_reducible refine gate_dst (N:=5) rfl ?_);refine box_event ?hg (N:=5) ?hd (cs:=#[.bool false,.string ⟨#[]⟩,.string ⟨#[]⟩,.int .i64 0]) (t:=55) ?hr ?_;(case hd => rfl);(case hg => rfl);(case hr => first|(go_simp;done)|(go_simp;rfl));intro gb130 hg w35 hbox hb;have n0_:=M_ (blk_below (g:=gb114) (o:=.cells #[.bool false,.string ⟨#[]⟩,.string ⟨#[]⟩,.int .i64 0] 55 (0,0)) qnc42_ hb);have n1_:=M_ (below_step qnc24_ hb);have n2_:=M_ (hbox);have n3_:=M_ ((by rw [hg];exact (below_size qnc24_):w.heap.size≤gb130));have n4_:=n3_;have n5_:=M_ ((by rw [hg];exact Nat.ne_of_lt (blk_lt (g:=gb114) (o:=.cells #[.bool false,.string ⟨#[]⟩,.string ⟨#[]⟩,.int .i64 0] 55 (0,0)) qnc42_):gb114 ≠ gb130));have n6_:=M_ ((by rw [hg];exact Nat.ne_of_gt (blk_lt (g:=gb114) (o:=.cells #[.bool false,.string ⟨#[]⟩,.string ⟨#[]⟩,.int .i64 0] 55 (0,0)) qnc42_):gb130 ≠ gb114));clear BK114;clear HB;have BK114:=n0_;have HB:=n1_;have BK130:=n2_;have GW130:=n3_;have GE130:=n4_;have NB114_130:=n5_;have NB130_114:=n6_;clear n0_ n1_ n2_ n3_ n4_ n5_ n6_;clear hb hbox hg;have hnb36:=NB130_114.out;have hnc36:=NB114_130.out;have hcz37_0:=bc_ (.bool false) BK130.out 0 rfl;have hcz37_1:=bc_ (.string ⟨#[]⟩) BK130.out 1 rfl;have hcz37_2:=bc_ (.string ⟨#[]⟩) BK130.out 2 rfl;have hcz37_3:=bc_ (.int .i64 0) BK130.out 3 rfl;have hfz37_0:=bf_ BK130.out 0;have hfz37_1:=bf_ BK130.out 1;have hfz37_2:=bf_ BK130.out 2;have hfz37_3:=bf_ BK130.out 3;have hcz38_0:=bc_ (.bool false) BK114.out 0 rfl;have hcz38_1:=bc_ (.string ⟨#[]⟩) BK114.out 1 rfl;have hcz38_2:=bc_ (.string ⟨#[]⟩) BK114.out 2 rfl;have hcz38_3:=bc_ (.int .i64 0) BK114.out 3 rfl;have hfz38_0:=bf_ BK114.out 0;have hfz38_1:=bf_ BK114.out 1;have hfz38_2:=bf_ BK114.out 2;have hfz38_3:=bf_ BK114.out 3))
  refine bodyPost_ret (results_cell_row rfl _ _ gb114 55 #[.bool false,.string t127,.string t128,.int .i64 t129] (0,0) _ rfl (by (with_reducible repeat first|apply bN_|apply bD_|apply bA_);refine blk_put (cs:=#[.bool false,.string t127,.string t128,.int .i64 0]) ?_ 3 _ rfl;(with_reducible repeat first|apply bN_|apply bD_|apply bA_);refine blk_put (cs:=#[.bool false,.string t127,.string ⟨#[]⟩,.int .i64 0]) ?_ 2 _ rfl;(with_reducible repeat first|apply bN_|apply bD_|apply bA_);refine blk_put (cs:=#[.bool false,.string ⟨#[]⟩,.string ⟨#[]⟩,.int .i64 0]) ?_ 1 _ rfl;(with_reducible repeat first|apply bN_|apply bD_|apply bA_);refine blk_put (cs:=#[.bool false,.string ⟨#[]⟩,.string ⟨#[]⟩,.int .i64 0]) ?_ 0 _ rfl;(with_reducible repeat first|apply bN_|apply bD_|apply bA_);refine blk_far ?_ NB114_130.out _;(with_reducible repeat first|apply bN_|apply bD_|apply bA_);refine blk_far ?_ NB114_130.out _;(with_reducible repeat first|apply bN_|apply bD_|apply bA_);refine blk_far ?_ NB114_130.out _;(with_reducible repeat first|apply bN_|apply bD_|apply bA_);refine blk_far ?_ NB114_130.out _;(with_reducible repeat first|apply bN_|apply bD_|apply bA_);refine blk_far ?_ NB114_130.out _;(with_reducible repeat first|apply bN_|apply bD_|apply bA_);exact BK114.out) Tryd.underlying55 rfl (by kernel_rfl)) rfl ?_;exact ⟨qnc5_,by repeat (first|(with_reducible first|exact HB.out|apply below_alloc|apply pw_below_drewN|apply below_drew1|refine below_set ?_ GE114.out|refine below_set ?_ GE130.out)|exact HB.out)⟩

set_option maxHeartbeats 8000000
set_option maxRecDepth 100000

def n_Decimal.f (k:Nat) (a0:ByteArray):Option (Bool × ByteArray × ByteArray × Int):=(n_signed.f k a0).bind fun bt132 => ((n_decimal.f k bt132.1 bt132.2.1 bt132.2.2.1 bt132.2.2.2).bind fun bt136 => (some (bt136.1,bt136.2.1,bt136.2.2.1,bt136.2.2.2)))
theorem n_Decimal.calls (k : Nat) (a0 : ByteArray) (r1 : Bool) (r2 : ByteArray) (r3 : ByteArray) (r4 : Int) (w : World) (h : n_Decimal.f k a0 = some (r1, r2, r3, r4)) :
  Calls Tryd.prog 16 #[.string a0] w fun e w' => e=.returned (.agg #[.bool r1,.string r2,.string r3,.int .i64 r4])∧Below w.heap.size w w':=by
 have hu25:=Tryd.underlying25;have HB:=M_ (Below.refl w.heap.size w);have H:((n_signed.f k a0).bind fun bt132 => ((n_decimal.f k bt132.1 bt132.2.1 bt132.2.2.1 bt132.2.2.2).bind fun bt136 => (some (bt136.1,bt136.2.1,bt136.2.2.1,bt136.2.2.2))))=some (r1,r2,r3,r4):=h;clear h;obtain ⟨⟨t132,t133,t134,t135⟩,A2,H⟩:=ob_ H;obtain ⟨⟨t136,t137,t138,t139⟩,A3,H⟩:=ob_ H;simp only [Option.some.injEq,Prod.mk.injEq] at H;obtain ⟨rfl,rfl,rfl,rfl⟩:=H
 go_enter Tryd.func16,Tryd.ntmps16
 have tk8:=trivial;have tk9:=trivial;have tk10:=trivial
 go_wp2_with (first|(clear tk8;(with_reducible refine gate_dst (N:=2) rfl ?_);refine box_event ?hg (N:=2) ?hd (cs:=#[.bool false,.string ⟨#[]⟩,.string ⟨#[]⟩,.int .i64 0]) (t:=25) ?hr ?_;(case hd => rfl);(case hg => rfl);(case hr => first|(go_simp;done)|(go_simp;rfl));intro gb131 hg w4 hbox hb;have n0_:=M_ (below_step qnc2_ hb);have n1_:=M_ (hbox);have n2_:=M_ ((by rw [hg];exact (below_size qnc2_):w.heap.size≤gb131));have n3_:=n2_;clear HB;have HB:=n0_;have BK131:=n1_;have GW131:=n2_;have GE131:=n3_;clear n0_ n1_ n2_ n3_;clear hb hbox hg)|(clear tk9;(with_reducible refine gate_callee (f:=33) rfl ?_);refine goesL_ (some 4) rfl rfl Tryd.func33 (by kernel_rfl) rfl #[.string a0] rfl qnc0_ ?_;(with_reducible refine (n_signed.calls k a0 t132 t133 t134 t135 _ A2.out).mono ?_);rintro e w5 ⟨rfl,hb⟩;refine ⟨_,rfl,?_⟩;have n0_:=M_ (blk_below (g:=gb131) (o:=.cells #[.bool false,.string ⟨#[]⟩,.string ⟨#[]⟩,.int .i64 0] 25 (0,0)) (by (with_reducible repeat first|apply bN_|apply bD_|apply bA_);exact BK131.out) hb);have n1_:=M_ (below_step qnc92_ hb);clear BK131;clear HB;have BK131:=n0_;have HB:=n1_;clear n0_ n1_;(try clear hb))|(clear tk10;(with_reducible refine gate_callee (f:=32) rfl ?_);refine goesL_ (some 5) rfl rfl Tryd.func32 (by kernel_rfl) rfl #[.agg #[.bool t132,.string t133,.string t134,.int .i64 t135]] rfl qnc0_ ?_;(with_reducible refine (n_decimal.calls k t132 t133 t134 t135 t136 t137 t138 t139 _ A3.out).mono ?_);rintro e w6 ⟨rfl,hb⟩;refine ⟨_,rfl,?_⟩;have n0_:=M_ (blk_below (g:=gb131) (o:=.cells #[.bool false,.string ⟨#[]⟩,.string ⟨#[]⟩,.int .i64 0] 25 (0,0)) (by (with_reducible repeat first|apply bN_|apply bD_|apply bA_);exact BK131.out) hb);have n1_:=M_ (below_step qnc92_ hb);clear BK131;clear HB;have BK131:=n0_;have HB:=n1_;clear n0_ n1_;(try clear hb);have hcz7_0:=bc_ (.bool false) BK131.out 0 rfl;have hcz7_1:=bc_ (.string ⟨#[]⟩) BK131.out 1 rfl;have hcz7_2:=bc_ (.string ⟨#[]⟩) BK131.out 2 rfl;have hcz7_3:=bc_ (.int .i64 0) BK131.out 3 rfl;have hfz7_0:=bf_ BK131.out 0;have hfz7_1:=bf_ BK131.out 1;have hfz7_2:=bf_ BK131.out 2;have hfz7_3:=bf_ BK131.out 3))
 refine bodyPost_ret (results_cell_row rfl _ _ gb131 25 #[.bool t136,.string t137,.string t138,.int .i64 t139] (0,0) _ rfl (by (with_reducible repeat first|apply bN_|apply bD_|apply bA_);refine blk_put (cs:=#[.bool t136,.string t137,.string t138,.int .i64 0]) ?_ 3 _ rfl;(with_reducible repeat first|apply bN_|apply bD_|apply bA_);refine blk_put (cs:=#[.bool t136,.string t137,.string ⟨#[]⟩,.int .i64 0]) ?_ 2 _ rfl;(with_reducible repeat first|apply bN_|apply bD_|apply bA_);refine blk_put (cs:=#[.bool t136,.string ⟨#[]⟩,.string ⟨#[]⟩,.int .i64 0]) ?_ 1 _ rfl;(with_reducible repeat first|apply bN_|apply bD_|apply bA_);refine blk_put (cs:=#[.bool false,.string ⟨#[]⟩,.string ⟨#[]⟩,.int .i64 0]) ?_ 0 _ rfl;(with_reducible repeat first|apply bN_|apply bD_|apply bA_);exact BK131.out) Tryd.underlying25 rfl (by kernel_rfl)) rfl ?_;exact ⟨qnc5_,qnc92_⟩

set_option maxHeartbeats 8000000
set_option maxRecDepth 100000

def stringslite_IndexByte.f (a0:ByteArray) (a1:Int):Option (Int):=some (Lib.indexByte a0.data.toList a1.toNat.toUInt8)
theorem stringslite_IndexByte.calls (a0 : ByteArray) (a1 : Int) (r : Int) (w : World) (h : stringslite_IndexByte.f a0 a1 = some r) :
    Calls Tryd.prog 69 #[.string a0,.int .u8 a1] w fun e w' => e=.returned (.int .i64 r)∧Drawn0 w w':=by
  obtain rfl:=Option.some.inj h;clear h
  go_enter Tryd.func69,Tryd.ntmps69
  go_wp2;rw [run_callFunc_extern Tryd.func95 (by kernel_rfl) (by kernel_rfl) (by kernel_rfl) (e:=Extern.BytealgIndexByte.indexByte) (by kernel_rfl),Lib.run_indexByteString];simp only [Result.andThen];rw [Oper.upon_value];go_wp2;go_ret;exact ⟨rfl,Drawn0.refl _⟩

set_option maxHeartbeats 8000000
set_option maxRecDepth 100000

def strings_IndexByte.f (a0:ByteArray) (a1:Int):Option (Int):=(stringslite_IndexByte.f a0 a1).bind fun t186 => (some t186)
theorem strings_IndexByte.calls (a0 : ByteArray) (a1 : Int) (r : Int) (w : World) (h : strings_IndexByte.f a0 a1 = some r) :
  Calls Tryd.prog 39 #[.string a0,.int .u8 a1] w fun e w' => e=.returned (.int .i64 r)∧Drawn0 w w':=by
 have H:((stringslite_IndexByte.f a0 a1).bind fun t186 => (some t186))=some r:=h;clear h;obtain ⟨t186,A3,H⟩:=ob_ H;obtain rfl:=Option.some.inj H
 go_enter Tryd.func39,Tryd.ntmps39
 go_wp2_with (first|((with_reducible refine gate_callee (f:=69) rfl ?_);refine goesL_ (some 7) rfl rfl Tryd.func69 (by kernel_rfl) rfl #[.string a0,.int .u8 a1] rfl qnc0_ ?_;(with_reducible refine (stringslite_IndexByte.calls a0 a1 t186 _ A3.out).mono ?_);rintro e w' ⟨rfl,⟨nd,rfl⟩⟩;refine ⟨_,rfl,?_⟩))
 go_ret;exact ⟨qnc1_,qnc4_⟩

end Go.Proofs.YtcdajedmlfhmeaaDoor.XN
