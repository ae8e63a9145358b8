import Derived.Test.YtcdajedmlfhmeaaDoorZNC0
import Derived.Test.YtcdajedmlfhmeaaDoorZNC1
import Derived.Test.YtcdajedmlfhmeaaDoorZNC6
namespace Go.Proofs.YtcdajedmlfhmeaaDoor.XN
open Go.RowKit Go.Proofs.YtcdajedmlfhmeaaDoorW.PrintWords Go.Proofs.YtcdajedmlfhmeaaDoorW.PrintLast Go.Proofs.YtcdajedmlfhmeaaDoorW.PrintMore
attribute [local go_sem] max2_int min2_int max_two min_two max_three min_three max_four min_four
set_option linter.unusedVariables false
set_option linter.unusedSimpArgs false
set_option maxHeartbeats 8000000
set_option maxRecDepth 100000

def r_exponent.l0:Nat→Bool→Int→ByteArray→Int→Int→Option (Int × Int)
 | 0,_,_,_,_,_ => none
 | k+1,x7,x8,x9,x10,x11 => if x11 < (x9.size:Int) then (if x11 < 14 then (if 0≤x11 then (r_exponent.l0 k x7 x8 x9 (wrap64 ((wrap64 (10 * x10))+(((bt x9 x11) - 48) % 256))) (wrap64 (x11+1))) else (none)) else (if x10 > 1099511627776 then (if x7=true then (some (-1099511627776,x8)) else (some (1099511627776,x8))) else (if (x9.size:Int) > 14 then (if x7=true then (some (-1099511627776,x8)) else (some (1099511627776,x8))) else (if x7=true then (some (wrap64 (-x10),x8)) else (some (x10,x8)))))) else (if x10 > 1099511627776 then (if x7=true then (some (-1099511627776,x8)) else (some (1099511627776,x8))) else (if (x9.size:Int) > 14 then (if x7=true then (some (-1099511627776,x8)) else (some (1099511627776,x8))) else (if x7=true then (some (wrap64 (-x10),x8)) else (some (x10,x8)))))
def r_exponent.f (k:Nat) (a0:ByteArray) (a1:Int):Option (Int × Int):=if a1 ≥ (a0.size:Int) then (some (0,a1)) else (if 0≤a1 then (if a1 < (a0.size:Int) then ((r_low.f (bt a0 a1)).bind fun t360 => (if t360=101 then (if (wrap64 (a1+1)) < (a0.size:Int) then (if 0≤(wrap64 (a1+1)) then (if (bt a0 (wrap64 (a1+1)))=45 then ((r_run.f k a0 (wrap64 ((wrap64 (a1+1))+1))).bind fun t361 => (if t361=(wrap64 ((wrap64 (a1+1))+1)) then (some (0,a1)) else (if 0≤(wrap64 ((wrap64 (a1+1))+1)) then (if (wrap64 ((wrap64 (a1+1))+1))≤t361 then (if t361≤(a0.size:Int) then ((r_zeros.f k (a0.extract ((wrap64 ((wrap64 (a1+1))+1)):Int).toNat (t361:Int).toNat)).bind fun t362 => (if 0≤t362 then (if t362≤((t361.toNat - ((wrap64 ((wrap64 (a1+1))+1)):Int).toNat:Nat):Int) then (r_exponent.l0 k ((bt a0 (wrap64 (a1+1))) == 45) t361 ((a0.extract ((wrap64 ((wrap64 (a1+1))+1)):Int).toNat (t361:Int).toNat).extract (t362:Int).toNat (t361.toNat - ((wrap64 ((wrap64 (a1+1))+1)):Int).toNat)) 0 0) else (none)) else (none))) else (none)) else (none)) else (none)))) else (if (bt a0 (wrap64 (a1+1)))=43 then ((r_run.f k a0 (wrap64 ((wrap64 (a1+1))+1))).bind fun t363 => (if t363=(wrap64 ((wrap64 (a1+1))+1)) then (some (0,a1)) else (if 0≤(wrap64 ((wrap64 (a1+1))+1)) then (if (wrap64 ((wrap64 (a1+1))+1))≤t363 then (if t363≤(a0.size:Int) then ((r_zeros.f k (a0.extract ((wrap64 ((wrap64 (a1+1))+1)):Int).toNat (t363:Int).toNat)).bind fun t364 => (if 0≤t364 then (if t364≤((t363.toNat - ((wrap64 ((wrap64 (a1+1))+1)):Int).toNat:Nat):Int) then (r_exponent.l0 k ((bt a0 (wrap64 (a1+1))) == 45) t363 ((a0.extract ((wrap64 ((wrap64 (a1+1))+1)):Int).toNat (t363:Int).toNat).extract (t364:Int).toNat (t363.toNat - ((wrap64 ((wrap64 (a1+1))+1)):Int).toNat)) 0 0) else (none)) else (none))) else (none)) else (none)) else (none)))) else ((r_run.f k a0 (wrap64 (a1+1))).bind fun t365 => (if t365=(wrap64 (a1+1)) then (some (0,a1)) else (if (wrap64 (a1+1))≤t365 then (if t365≤(a0.size:Int) then ((r_zeros.f k (a0.extract ((wrap64 (a1+1)):Int).toNat (t365:Int).toNat)).bind fun t366 => (if 0≤t366 then (if t366≤((t365.toNat - ((wrap64 (a1+1)):Int).toNat:Nat):Int) then (r_exponent.l0 k false t365 ((a0.extract ((wrap64 (a1+1)):Int).toNat (t365:Int).toNat).extract (t366:Int).toNat (t365.toNat - ((wrap64 (a1+1)):Int).toNat)) 0 0) else (none)) else (none))) else (none)) else (none)))))) else (none)) else ((r_run.f k a0 (wrap64 (a1+1))).bind fun t367 => (if t367=(wrap64 (a1+1)) then (some (0,a1)) else (if 0≤(wrap64 (a1+1)) then (if (wrap64 (a1+1))≤t367 then (if t367≤(a0.size:Int) then ((r_zeros.f k (a0.extract ((wrap64 (a1+1)):Int).toNat (t367:Int).toNat)).bind fun t368 => (if 0≤t368 then (if t368≤((t367.toNat - ((wrap64 (a1+1)):Int).toNat:Nat):Int) then (r_exponent.l0 k false t367 ((a0.extract ((wrap64 (a1+1)):Int).toNat (t367:Int).toNat).extract (t368:Int).toNat (t367.toNat - ((wrap64 (a1+1)):Int).toNat)) 0 0) else (none)) else (none))) else (none)) else (none)) else (none))))) else (some (0,a1)))) else (none)) else (none))
theorem r_exponent.calls (k : Nat) (a0 : ByteArray) (a1 : Int) (r1 : Int) (r2 : Int) (w : World) (h : r_exponent.f k a0 a1 = some (r1, r2)) :
  Calls Tryd.prog 47 #[.string a0,.int .i64 a1] w fun e w' => e=.returned (.tuple #[.int .i64 r1,.int .i64 r2])∧Drawn0 w w':=by
 have H:(if a1 ≥ (a0.size:Int) then (some (0,a1)) else (if 0≤a1 then (if a1 < (a0.size:Int) then ((r_low.f (bt a0 a1)).bind fun t360 => (if t360=101 then (if (wrap64 (a1+1)) < (a0.size:Int) then (if 0≤(wrap64 (a1+1)) then (if (bt a0 (wrap64 (a1+1)))=45 then ((r_run.f k a0 (wrap64 ((wrap64 (a1+1))+1))).bind fun t361 => (if t361=(wrap64 ((wrap64 (a1+1))+1)) then (some (0,a1)) else (if 0≤(wrap64 ((wrap64 (a1+1))+1)) then (if (wrap64 ((wrap64 (a1+1))+1))≤t361 then (if t361≤(a0.size:Int) then ((r_zeros.f k (a0.extract ((wrap64 ((wrap64 (a1+1))+1)):Int).toNat (t361:Int).toNat)).bind fun t362 => (if 0≤t362 then (if t362≤((t361.toNat - ((wrap64 ((wrap64 (a1+1))+1)):Int).toNat:Nat):Int) then (r_exponent.l0 k ((bt a0 (wrap64 (a1+1))) == 45) t361 ((a0.extract ((wrap64 ((wrap64 (a1+1))+1)):Int).toNat (t361:Int).toNat).extract (t362:Int).toNat (t361.toNat - ((wrap64 ((wrap64 (a1+1))+1)):Int).toNat)) 0 0) else (none)) else (none))) else (none)) else (none)) else (none)))) else (if (bt a0 (wrap64 (a1+1)))=43 then ((r_run.f k a0 (wrap64 ((wrap64 (a1+1))+1))).bind fun t363 => (if t363=(wrap64 ((wrap64 (a1+1))+1)) then (some (0,a1)) else (if 0≤(wrap64 ((wrap64 (a1+1))+1)) then (if (wrap64 ((wrap64 (a1+1))+1))≤t363 then (if t363≤(a0.size:Int) then ((r_zeros.f k (a0.extract ((wrap64 ((wrap64 (a1+1))+1)):Int).toNat (t363:Int).toNat)).bind fun t364 => (if 0≤t364 then (if t364≤((t363.toNat - ((wrap64 ((wrap64 (a1+1))+1)):Int).toNat:Nat):Int) then (r_exponent.l0 k ((bt a0 (wrap64 (a1+1))) == 45) t363 ((a0.extract ((wrap64 ((wrap64 (a1+1))+1)):Int).toNat (t363:Int).toNat).extract (t364:Int).toNat (t363.toNat - ((wrap64 ((wrap64 (a1+1))+1)):Int).toNat)) 0 0) else (none)) else (none))) else (none)) else (none)) else (none)))) else ((r_run.f k a0 (wrap64 (a1+1))).bind fun t365 => (if t365=(wrap64 (a1+1)) then (some (0,a1)) else (if (wrap64 (a1+1))≤t365 then (if t365≤(a0.size:Int) then ((r_zeros.f k (a0.extract ((wrap64 (a1+1)):Int).toNat (t365:Int).toNat)).bind fun t366 => (if 0≤t366 then (if t366≤((t365.toNat - ((wrap64 (a1+1)):Int).toNat:Nat):Int) then (r_exponent.l0 k false t365 ((a0.extract ((wrap64 (a1+1)):Int).toNat (t365:Int).toNat).extract (t366:Int).toNat (t365.toNat - ((wrap64 (a1+1)):Int).toNat)) 0 0) else (none)) else (none))) else (none)) else (none)))))) else (none)) else ((r_run.f k a0 (wrap64 (a1+1))).bind fun t367 => (if t367=(wrap64 (a1+1)) then (some (0,a1)) else (if 0≤(wrap64 (a1+1)) then (if (wrap64 (a1+1))≤t367 then (if t367≤(a0.size:Int) then ((r_zeros.f k (a0.extract ((wrap64 (a1+1)):Int).toNat (t367:Int).toNat)).bind fun t368 => (if 0≤t368 then (if t368≤((t367.toNat - ((wrap64 (a1+1)):Int).toNat:Nat):Int) then (r_exponent.l0 k false t367 ((a0.extract ((wrap64 (a1+1)):Int).toNat (t367:Int).toNat).extract (t368:Int).toNat (t367.toNat - ((wrap64 (a1+1)):Int).toNat)) 0 0) else (none)) else (none))) else (none)) else (none)) else (none))))) else (some (0,a1)))) else (none)) else (none)))=some (r1,r2):=h;clear h
 by_cases c3:a1 ≥ (a0.size:Int)
 ·rw [if_pos c3] at H;have c3b0:=dT_ c3;clear c3;simp only [Option.some.injEq,Prod.mk.injEq] at H;obtain ⟨rfl,rfl⟩:=H
  go_enter Tryd.func47,Tryd.ntmps47
  go_wp2
  go_ret2
  exact ⟨qnc1_,qnc4_⟩
 ·rw [if_neg c3] at H;have c3b0:=dF_ c3;clear c3
  by_cases c4:0≤a1
  ·rw [if_pos c4] at H;have c4b0:=dT_ c4;clear c4
   by_cases c5:a1 < (a0.size:Int)
   ·rw [if_pos c5] at H;have c5b0:=dT_ c5;clear c5;obtain ⟨t360,A7,H⟩:=ob_ H
    by_cases c8:t360=101
    ·rw [if_pos c8] at H;have c8b0:(t360 == 101)=true:=beq_iff_eq.mpr c8;have c8b1:(t360 != 101)=false:=nF_ c8;clear c8
     by_cases c9:(wrap64 (a1+1)) < (a0.size:Int)
     ·rw [if_pos c9] at H;have c9b0:=dT_ c9;clear c9;obtain ⟨ji10,hji10⟩ : ∃ j_:Int,(wrap64 (a1+1))=j_:=⟨_,rfl⟩;replace H:(if 0≤(ji10) then (if (bt a0 (ji10))=45 then ((r_run.f k a0 (wrap64 ((ji10)+1))).bind fun t361 => (if t361=(wrap64 ((ji10)+1)) then (some (0,a1)) else (if 0≤(wrap64 ((ji10)+1)) then (if (wrap64 ((ji10)+1))≤t361 then (if t361≤(a0.size:Int) then ((r_zeros.f k (a0.extract ((wrap64 ((ji10)+1)):Int).toNat (t361:Int).toNat)).bind fun t362 => (if 0≤t362 then (if t362≤((t361.toNat - ((wrap64 ((ji10)+1)):Int).toNat:Nat):Int) then (r_exponent.l0 k ((bt a0 (ji10)) == 45) t361 ((a0.extract ((wrap64 ((ji10)+1)):Int).toNat (t361:Int).toNat).extract (t362:Int).toNat (t361.toNat - ((wrap64 ((ji10)+1)):Int).toNat)) 0 0) else (none)) else (none))) else (none)) else (none)) else (none)))) else (if (bt a0 (ji10))=43 then ((r_run.f k a0 (wrap64 ((ji10)+1))).bind fun t363 => (if t363=(wrap64 ((ji10)+1)) then (some (0,a1)) else (if 0≤(wrap64 ((ji10)+1)) then (if (wrap64 ((ji10)+1))≤t363 then (if t363≤(a0.size:Int) then ((r_zeros.f k (a0.extract ((wrap64 ((ji10)+1)):Int).toNat (t363:Int).toNat)).bind fun t364 => (if 0≤t364 then (if t364≤((t363.toNat - ((wrap64 ((ji10)+1)):Int).toNat:Nat):Int) then (r_exponent.l0 k ((bt a0 (ji10)) == 45) t363 ((a0.extract ((wrap64 ((ji10)+1)):Int).toNat (t363:Int).toNat).extract (t364:Int).toNat (t363.toNat - ((wrap64 ((ji10)+1)):Int).toNat)) 0 0) else (none)) else (none))) else (none)) else (none)) else (none)))) else ((r_run.f k a0 (ji10)).bind fun t365 => (if t365=(ji10) then (some (0,a1)) else (if (ji10)≤t365 then (if t365≤(a0.size:Int) then ((r_zeros.f k (a0.extract ((ji10):Int).toNat (t365:Int).toNat)).bind fun t366 => (if 0≤t366 then (if t366≤((t365.toNat - ((ji10):Int).toNat:Nat):Int) then (r_exponent.l0 k false t365 ((a0.extract ((ji10):Int).toNat (t365:Int).toNat).extract (t366:Int).toNat (t365.toNat - ((ji10):Int).toNat)) 0 0) else (none)) else (none))) else (none)) else (none)))))) else (none))=some (r1,r2):=by first|(rw [hji10] at H;exact H)|(simp only [hji10] at H ⊢;exact H)
      (try rw [hji10] at c9b0)
      (try rw [hji10] at A7)
      have hji10w:(IntKind.i64.wrap (a1+1))=ji10:=(i64_w _).trans hji10
      by_cases c11:0≤(ji10)
      ·rw [if_pos c11] at H;have c11b0:=dT_ c11;clear c11
       by_cases c13:(bt a0 (ji10))=45
       ·rw [if_pos c13] at H;have c13b0:((bt a0 (ji10)) == 45)=true:=beq_iff_eq.mpr c13;have c13b1:((bt a0 (ji10)) != 45)=false:=nF_ c13;clear c13;obtain ⟨t361,A15,H⟩:=ob_ H
        by_cases c16:t361=(wrap64 ((ji10)+1))
        ·rw [if_pos c16] at H;have c16b0:(t361 == (wrap64 ((ji10)+1)))=true:=beq_iff_eq.mpr c16;have c16b1:(t361 != (wrap64 ((ji10)+1)))=false:=nF_ c16;clear c16;simp only [Option.some.injEq,Prod.mk.injEq] at H;obtain ⟨rfl,rfl⟩:=H;have p6:0≤(a1:Int):=oD_ qnc3_;have q6:a1 < (a0.size:Int):=oD_ qnc3_;have hx6:=bt_at a0 a1;replace p6:=eq_true p6;replace q6:=eq_true q6
         go_enter Tryd.func47,Tryd.ntmps47
         have tk17:=trivial;have tk18:=trivial
         go_wp2_with (first|(clear tk17;go_at_call 70;(with_reducible refine (r_low.calls (bt a0 a1) t360 _ A7.out).mono ?_);rintro e w' ⟨rfl,⟨nd,rfl⟩⟩;have p12:0≤((ji10):Int):=oD_ qnc3_;have q12:(ji10) < (a0.size:Int):=oD_ qnc3_;have hx12:=bt_at a0 (ji10);replace p12:=eq_true p12;replace q12:=eq_true q12;have p14:0≤((ji10):Int):=oD_ qnc3_;have q14:(ji10) < (a0.size:Int):=oD_ qnc3_;have hx14:=bt_at a0 (ji10);replace p14:=eq_true p14;replace q14:=eq_true q14)|(clear tk18;(with_reducible refine gate_callee (f:=71) rfl ?_);refine goesL_ (some 50) rfl rfl Tryd.func71 (by kernel_rfl) rfl #[.string a0,.int .i64 (wrap64 ((ji10)+1))] rfl qnc61_ ?_;(with_reducible refine (r_run.calls k a0 (wrap64 ((ji10)+1)) t361 _ A15.out).mono ?_);rintro e w' ⟨rfl,⟨nd,rfl⟩⟩;refine ⟨_,rfl,?_⟩))
         go_ret2
         exact ⟨qnc27_,qnc4_⟩
        ·rw [if_neg c16] at H;have c16b0:(t361 == (wrap64 ((ji10)+1)))=false:=bF_ c16;have c16b1:(t361 != (wrap64 ((ji10)+1)))=true:=bne_iff_ne.mpr c16;obtain ⟨ji19,hji19⟩ : ∃ j_:Int,(wrap64 ((ji10)+1))=j_:=⟨_,rfl⟩;replace H:(if 0≤(ji19) then (if (ji19)≤t361 then (if t361≤(a0.size:Int) then ((r_zeros.f k (a0.extract ((ji19):Int).toNat (t361:Int).toNat)).bind fun t362 => (if 0≤t362 then (if t362≤((t361.toNat - ((ji19):Int).toNat:Nat):Int) then (r_exponent.l0 k ((bt a0 (ji10)) == 45) t361 ((a0.extract ((ji19):Int).toNat (t361:Int).toNat).extract (t362:Int).toNat (t361.toNat - ((ji19):Int).toNat)) 0 0) else (none)) else (none))) else (none)) else (none)) else (none))=some (r1,r2):=by first|(rw [hji19] at H;exact H)|(simp only [hji19] at H ⊢;exact H)
         (try rw [hji19] at c16b0)
         (try rw [hji19] at c16b1)
         (try rw [hji19] at A7)
         (try rw [hji19] at A15)
         have hji19w:(IntKind.i64.wrap ((ji10)+1))=ji19:=(i64_w _).trans hji19
         by_cases c20:0≤(ji19)
         ·rw [if_pos c20] at H;have c20b0:=eq_true c20;have c20b1:=dT_ c20;clear c20
          by_cases c21:(ji19)≤t361
          ·rw [if_pos c21] at H;have c21b0:=eq_true c21;have c21b1:=dT_ c21;clear c21
           by_cases c22:t361≤(a0.size:Int)
           ·rw [if_pos c22] at H;have c22b0:=eq_true c22;have c22b1:=dT_ c22;clear c22;obtain ⟨t362,A23,H⟩:=ob_ H
            by_cases c24:0≤t362
            ·rw [if_pos c24] at H;have c24b0:=eq_true c24;have c24b1:=dT_ c24;clear c24
             by_cases c25:t362≤((t361.toNat - ((ji19):Int).toNat:Nat):Int)
             ·rw [if_pos c25] at H;have c25x:=c25
              (try simp [*,-c25,-H] at c25x)
              have c25b0:=eq_true c25;have c25b1:=dT_ c25;clear c25;have H':=M_ H;clear H;have p6:0≤(a1:Int):=oD_ qnc3_;have q6:a1 < (a0.size:Int):=oD_ qnc3_;have hx6:=bt_at a0 a1;replace p6:=eq_true p6;replace q6:=eq_true q6
              go_enter Tryd.func47,Tryd.ntmps47
              have tk26:=trivial;have tk27:=trivial;have tk28:=trivial
              go_wp2_with (first|(clear tk26;go_at_call 70;(with_reducible refine (r_low.calls (bt a0 a1) t360 _ A7.out).mono ?_);rintro e w' ⟨rfl,⟨nd,rfl⟩⟩;have p12:0≤((ji10):Int):=oD_ qnc3_;have q12:(ji10) < (a0.size:Int):=oD_ qnc3_;have hx12:=bt_at a0 (ji10);replace p12:=eq_true p12;replace q12:=eq_true q12;have p14:0≤((ji10):Int):=oD_ qnc3_;have q14:(ji10) < (a0.size:Int):=oD_ qnc3_;have hx14:=bt_at a0 (ji10);replace p14:=eq_true p14;replace q14:=eq_true q14)|(clear tk27;(with_reducible refine gate_callee (f:=71) rfl ?_);refine goesL_ (some 50) rfl rfl Tryd.func71 (by kernel_rfl) rfl #[.string a0,.int .i64 ji19] rfl (by (try simp only [List.map_toArray,List.map_cons,List.map_nil]);first|done|(simp only [hji19];rfl)|rfl|(simp only [List.length_drop,List.length_take];rfl)|(simp;done)|(simp;omega)) ?_;(with_reducible refine (r_run.calls k a0 ji19 t361 _ A15.out).mono ?_);rintro e w' ⟨rfl,⟨nd,rfl⟩⟩;refine ⟨_,rfl,?_⟩)|(clear tk28;(with_reducible refine gate_callee (f:=42) rfl ?_);refine goesL_ (some 61) rfl rfl Tryd.func42 (by kernel_rfl) rfl #[.string (a0.extract ((ji19):Int).toNat (t361:Int).toNat)] rfl (by (try simp only [List.map_toArray,List.map_cons,List.map_nil]);first|done|(simp only [hji19];rfl)|rfl|(simp only [List.length_drop,List.length_take];rfl)|(simp;done)|(simp;omega)) ?_;(with_reducible refine (r_zeros.calls k (a0.extract ((ji19):Int).toNat (t361:Int).toNat) t362 _ A23.out).mono ?_);rintro e w' ⟨rfl,⟨nd,rfl⟩⟩;refine ⟨_,rfl,?_⟩))
              go_loopg [10,11] k (fun kq v10 v11 w' => ∃ (x10_1:Int) (x11_1:Int),v10=.int .i64 x10_1∧v11=.int .i64 x11_1∧Aside0 (r_exponent.l0 kq ((bt a0 (ji10)) == 45) t361 ((a0.extract ((ji19):Int).toNat (t361:Int).toNat).extract (t362:Int).toNat (t361.toNat - ((ji19):Int).toNat)) x10_1 x11_1=some (r1,r2))∧Aside0 (kq≤k)∧Drawn0 w w')
              case atStart => exact ⟨(0),(0),qnc1_,qnc1_,H',⟨Nat.le_refl _⟩,qnc4_⟩
              case round =>
               clear H';obtain ⟨x10_1,x11_1,rfl,rfl,HA,HK1,⟨m1,rfl⟩⟩:=hrel
               cases gk with
               | zero => exact absurd HA.out (by simp [r_exponent.l0])
               | succ k1 =>
                have H:=HA.out;clear HA;simp only [r_exponent.l0] at H
                by_cases c29:x11_1 < (((a0.extract ((ji19):Int).toNat (t361:Int).toNat).extract (t362:Int).toNat (t361.toNat - ((ji19):Int).toNat)).size:Int)
                ·rw [if_pos c29] at H;have c29x:=c29
                 (try simp [*,-c29,-H] at c29x)
                 have c29b0:=dT_ c29;clear c29
                 by_cases c30:x11_1 < 14
                 ·rw [if_pos c30] at H;have c30b0:=dT_ c30;clear c30
                  by_cases c31:0≤x11_1
                  ·rw [if_pos c31] at H;have c31b0:=dT_ c31;clear c31;have H':=M_ H;clear H;have p32:0≤(x11_1:Int):=oD_ qnc3_;have q32:x11_1 < (((a0.extract ((ji19):Int).toNat (t361:Int).toNat).extract (t362:Int).toNat (t361.toNat - ((ji19):Int).toNat)).size:Int):=oD_ qnc3_;have hx32:=bt_at ((a0.extract ((ji19):Int).toNat (t361:Int).toNat).extract (t362:Int).toNat (t361.toNat - ((ji19):Int).toNat)) x11_1;replace p32:=eq_true p32;replace q32:=eq_true q32;go_wp2
                   go_roundg k1
                   case measure => have:=HK1.out;omega
                   case rel => exact ⟨(wrap64 ((wrap64 (10 * x10_1))+(((bt ((a0.extract ((ji19):Int).toNat (t361:Int).toNat).extract (t362:Int).toNat (t361.toNat - ((ji19):Int).toNat)) x11_1) - 48) % 256))),(wrap64 (x11_1+1)),(by first|rfl|(simp;done)|(simp only [← hji19] <;> (first|rfl|simp);done)|(simp [*];done)|(simp;simp only [eq_iff_iff,iff_true] at *;omega)|(exfalso;simp_all;done)),qnc1_,H',⟨by have:=HK1.out;omega⟩,qnc4_⟩
                  ·rw [if_neg c31] at H;exact absurd H (by simp)
                 ·rw [if_neg c30] at H;have c30b0:=dF_ c30;clear c30
                  by_cases c33:x10_1 > 1099511627776
                  ·rw [if_pos c33] at H;have c33b0:=dT_ c33;clear c33
                   by_cases c34:((bt a0 (ji10)) == 45)=true
                   ·rw [if_pos c34] at H;have c34b0:((bt a0 (ji10)) == 45)=true:=c34
                    (try (have c34b1:decide ((bt a0 (ji10))=45)=true:=by simpa using c34))
                    (try (have c34b2:((bt a0 (ji10)) == 45)=true:=by simpa using c34))
                    clear c34;simp only [Option.some.injEq,Prod.mk.injEq] at H;obtain ⟨rfl,rfl⟩:=H;go_wp2
                    go_ret2
                    exact ⟨qnc20_,qnc4_⟩
                   ·rw [if_neg c34] at H;have c34b0:((bt a0 (ji10)) == 45)=false:=by simpa using c34
                    (try (have c34b1:decide ((bt a0 (ji10))=45)=false:=by simpa using c34))
                    (try (have c34b2:((bt a0 (ji10)) == 45)=false:=by simpa using c34))
                    (try (have c34b3 : ¬ ((bt a0 (ji10))=45):=by simpa using c34))
                    clear c34;simp only [Option.some.injEq,Prod.mk.injEq] at H;obtain ⟨rfl,rfl⟩:=H;go_wp2
                    go_ret2
                    exact ⟨qnc20_,qnc4_⟩
                  ·rw [if_neg c33] at H;have c33b0:=dF_ c33;clear c33
                   by_cases c35:(((a0.extract ((ji19):Int).toNat (t361:Int).toNat).extract (t362:Int).toNat (t361.toNat - ((ji19):Int).toNat)).size:Int) > 14
                   ·rw [if_pos c35] at H;have c35x:=c35
                    (try simp [*,-c35,-H] at c35x)
                    have c35b0:=dT_ c35;have c35b1:decide (14 < ((a0.extract ((ji19):Int).toNat (t361:Int).toNat).extract (t362:Int).toNat (t361.toNat - ((ji19):Int).toNat)).size)=true:=decide_eq_true (by omega);clear c35
                    by_cases c36:((bt a0 (ji10)) == 45)=true
                    ·rw [if_pos c36] at H;have c36b0:((bt a0 (ji10)) == 45)=true:=c36
                     (try (have c36b1:decide ((bt a0 (ji10))=45)=true:=by simpa using c36))
                     (try (have c36b2:((bt a0 (ji10)) == 45)=true:=by simpa using c36))
                     clear c36;simp only [Option.some.injEq,Prod.mk.injEq] at H;obtain ⟨rfl,rfl⟩:=H;go_wp2
                     go_ret2
                     exact ⟨qnc20_,qnc4_⟩
                    ·rw [if_neg c36] at H;have c36b0:((bt a0 (ji10)) == 45)=false:=by simpa using c36
                     (try (have c36b1:decide ((bt a0 (ji10))=45)=false:=by simpa using c36))
                     (try (have c36b2:((bt a0 (ji10)) == 45)=false:=by simpa using c36))
                     (try (have c36b3 : ¬ ((bt a0 (ji10))=45):=by simpa using c36))
                     clear c36;simp only [Option.some.injEq,Prod.mk.injEq] at H;obtain ⟨rfl,rfl⟩:=H;go_wp2
                     go_ret2
                     exact ⟨qnc20_,qnc4_⟩
                   ·rw [if_neg c35] at H;have c35x:=c35
                    (try simp [*,-c35,-H] at c35x)
                    have c35b0:=dF_ c35;have c35b1:decide (14 < ((a0.extract ((ji19):Int).toNat (t361:Int).toNat).extract (t362:Int).toNat (t361.toNat - ((ji19):Int).toNat)).size)=false:=decide_eq_false (by omega);clear c35
                    by_cases c37:((bt a0 (ji10)) == 45)=true
                    ·rw [if_pos c37] at H;have c37b0:((bt a0 (ji10)) == 45)=true:=c37
                     (try (have c37b1:decide ((bt a0 (ji10))=45)=true:=by simpa using c37))
                     (try (have c37b2:((bt a0 (ji10)) == 45)=true:=by simpa using c37))
                     clear c37;simp only [Option.some.injEq,Prod.mk.injEq] at H;obtain ⟨rfl,rfl⟩:=H;go_wp2
                     go_ret2
                     exact ⟨qnc20_,qnc4_⟩
                    ·rw [if_neg c37] at H;have c37b0:((bt a0 (ji10)) == 45)=false:=by simpa using c37
                     (try (have c37b1:decide ((bt a0 (ji10))=45)=false:=by simpa using c37))
                     (try (have c37b2:((bt a0 (ji10)) == 45)=false:=by simpa using c37))
                     (try (have c37b3 : ¬ ((bt a0 (ji10))=45):=by simpa using c37))
                     clear c37;simp only [Option.some.injEq,Prod.mk.injEq] at H;obtain ⟨rfl,rfl⟩:=H;go_wp2
                     go_ret2
                     exact ⟨qnc20_,qnc4_⟩
                ·rw [if_neg c29] at H;have c29x:=c29
                 (try simp [*,-c29,-H] at c29x)
                 have c29b0:=dF_ c29;clear c29
                 by_cases c38:x10_1 > 1099511627776
                 ·rw [if_pos c38] at H;have c38b0:=dT_ c38;clear c38
                  by_cases c39:((bt a0 (ji10)) == 45)=true
                  ·rw [if_pos c39] at H;have c39b0:((bt a0 (ji10)) == 45)=true:=c39
                   (try (have c39b1:decide ((bt a0 (ji10))=45)=true:=by simpa using c39))
                   (try (have c39b2:((bt a0 (ji10)) == 45)=true:=by simpa using c39))
                   clear c39;simp only [Option.some.injEq,Prod.mk.injEq] at H;obtain ⟨rfl,rfl⟩:=H;go_wp2
                   go_ret2
                   exact ⟨qnc20_,qnc4_⟩
                  ·rw [if_neg c39] at H;have c39b0:((bt a0 (ji10)) == 45)=false:=by simpa using c39
                   (try (have c39b1:decide ((bt a0 (ji10))=45)=false:=by simpa using c39))
                   (try (have c39b2:((bt a0 (ji10)) == 45)=false:=by simpa using c39))
                   (try (have c39b3 : ¬ ((bt a0 (ji10))=45):=by simpa using c39))
                   clear c39;simp only [Option.some.injEq,Prod.mk.injEq] at H;obtain ⟨rfl,rfl⟩:=H;go_wp2
                   go_ret2
                   exact ⟨qnc20_,qnc4_⟩
                 ·rw [if_neg c38] at H;have c38b0:=dF_ c38;clear c38
                  by_cases c40:(((a0.extract ((ji19):Int).toNat (t361:Int).toNat).extract (t362:Int).toNat (t361.toNat - ((ji19):Int).toNat)).size:Int) > 14
                  ·rw [if_pos c40] at H;have c40x:=c40
                   (try simp [*,-c40,-H] at c40x)
                   have c40b0:=dT_ c40;have c40b1:decide (14 < ((a0.extract ((ji19):Int).toNat (t361:Int).toNat).extract (t362:Int).toNat (t361.toNat - ((ji19):Int).toNat)).size)=true:=decide_eq_true (by omega);clear c40
                   by_cases c41:((bt a0 (ji10)) == 45)=true
                   ·rw [if_pos c41] at H;have c41b0:((bt a0 (ji10)) == 45)=true:=c41
                    (try (have c41b1:decide ((bt a0 (ji10))=45)=true:=by simpa using c41))
                    (try (have c41b2:((bt a0 (ji10)) == 45)=true:=by simpa using c41))
                    clear c41;simp only [Option.some.injEq,Prod.mk.injEq] at H;obtain ⟨rfl,rfl⟩:=H;go_wp2
                    go_ret2
                    exact ⟨qnc20_,qnc4_⟩
                   ·rw [if_neg c41] at H;have c41b0:((bt a0 (ji10)) == 45)=false:=by simpa using c41
                    (try (have c41b1:decide ((bt a0 (ji10))=45)=false:=by simpa using c41))
                    (try (have c41b2:((bt a0 (ji10)) == 45)=false:=by simpa using c41))
                    (try (have c41b3 : ¬ ((bt a0 (ji10))=45):=by simpa using c41))
                    clear c41;simp only [Option.some.injEq,Prod.mk.injEq] at H;obtain ⟨rfl,rfl⟩:=H;go_wp2
                    go_ret2
                    exact ⟨qnc20_,qnc4_⟩
                  ·rw [if_neg c40] at H;have c40x:=c40
                   (try simp [*,-c40,-H] at c40x)
                   have c40b0:=dF_ c40;have c40b1:decide (14 < ((a0.extract ((ji19):Int).toNat (t361:Int).toNat).extract (t362:Int).toNat (t361.toNat - ((ji19):Int).toNat)).size)=false:=decide_eq_false (by omega);clear c40
                   by_cases c42:((bt a0 (ji10)) == 45)=true
                   ·rw [if_pos c42] at H;have c42b0:((bt a0 (ji10)) == 45)=true:=c42
                    (try (have c42b1:decide ((bt a0 (ji10))=45)=true:=by simpa using c42))
                    (try (have c42b2:((bt a0 (ji10)) == 45)=true:=by simpa using c42))
                    clear c42;simp only [Option.some.injEq,Prod.mk.injEq] at H;obtain ⟨rfl,rfl⟩:=H;go_wp2
                    go_ret2
                    exact ⟨qnc20_,qnc4_⟩
                   ·rw [if_neg c42] at H;have c42b0:((bt a0 (ji10)) == 45)=false:=by simpa using c42
                    (try (have c42b1:decide ((bt a0 (ji10))=45)=false:=by simpa using c42))
                    (try (have c42b2:((bt a0 (ji10)) == 45)=false:=by simpa using c42))
                    (try (have c42b3 : ¬ ((bt a0 (ji10))=45):=by simpa using c42))
                    clear c42;simp only [Option.some.injEq,Prod.mk.injEq] at H;obtain ⟨rfl,rfl⟩:=H;go_wp2
                    go_ret2
                    exact ⟨qnc20_,qnc4_⟩
             ·rw [if_neg c25] at H;exact absurd H (by simp)
            ·rw [if_neg c24] at H;exact absurd H (by simp)
           ·rw [if_neg c22] at H;exact absurd H (by simp)
          ·rw [if_neg c21] at H;exact absurd H (by simp)
         ·rw [if_neg c20] at H;exact absurd H (by simp)
       ·rw [if_neg c13] at H;have c13b0:((bt a0 (ji10)) == 45)=false:=bF_ c13;have c13b1:((bt a0 (ji10)) != 45)=true:=bne_iff_ne.mpr c13
        by_cases c44:(bt a0 (ji10))=43
        ·rw [if_pos c44] at H;have c44b0:((bt a0 (ji10)) == 43)=true:=beq_iff_eq.mpr c44;have c44b1:((bt a0 (ji10)) != 43)=false:=nF_ c44;clear c44;obtain ⟨t363,A46,H⟩:=ob_ H
         by_cases c47:t363=(wrap64 ((ji10)+1))
         ·rw [if_pos c47] at H;have c47b0:(t363 == (wrap64 ((ji10)+1)))=true:=beq_iff_eq.mpr c47;have c47b1:(t363 != (wrap64 ((ji10)+1)))=false:=nF_ c47;clear c47;simp only [Option.some.injEq,Prod.mk.injEq] at H;obtain ⟨rfl,rfl⟩:=H;have p6:0≤(a1:Int):=oD_ qnc3_;have q6:a1 < (a0.size:Int):=oD_ qnc3_;have hx6:=bt_at a0 a1;replace p6:=eq_true p6;replace q6:=eq_true q6
          go_enter Tryd.func47,Tryd.ntmps47
          have tk48:=trivial;have tk49:=trivial
          go_wp2_with (first|(clear tk48;go_at_call 70;(with_reducible refine (r_low.calls (bt a0 a1) t360 _ A7.out).mono ?_);rintro e w' ⟨rfl,⟨nd,rfl⟩⟩;have p12:0≤((ji10):Int):=oD_ qnc3_;have q12:(ji10) < (a0.size:Int):=oD_ qnc3_;have hx12:=bt_at a0 (ji10);replace p12:=eq_true p12;replace q12:=eq_true q12;have p43:0≤((ji10):Int):=oD_ qnc3_;have q43:(ji10) < (a0.size:Int):=oD_ qnc3_;have hx43:=bt_at a0 (ji10);replace p43:=eq_true p43;replace q43:=eq_true q43;have p45:0≤((ji10):Int):=oD_ qnc3_;have q45:(ji10) < (a0.size:Int):=oD_ qnc3_;have hx45:=bt_at a0 (ji10);replace p45:=eq_true p45;replace q45:=eq_true q45)|(clear tk49;(with_reducible refine gate_callee (f:=71) rfl ?_);refine goesL_ (some 50) rfl rfl Tryd.func71 (by kernel_rfl) rfl #[.string a0,.int .i64 (wrap64 ((ji10)+1))] rfl qnc61_ ?_;(with_reducible refine (r_run.calls k a0 (wrap64 ((ji10)+1)) t363 _ A46.out).mono ?_);rintro e w' ⟨rfl,⟨nd,rfl⟩⟩;refine ⟨_,rfl,?_⟩))
          go_ret2
          exact ⟨qnc27_,qnc4_⟩
         ·rw [if_neg c47] at H;have c47b0:(t363 == (wrap64 ((ji10)+1)))=false:=bF_ c47;have c47b1:(t363 != (wrap64 ((ji10)+1)))=true:=bne_iff_ne.mpr c47;obtain ⟨ji50,hji50⟩ : ∃ j_:Int,(wrap64 ((ji10)+1))=j_:=⟨_,rfl⟩;replace H:(if 0≤(ji50) then (if (ji50)≤t363 then (if t363≤(a0.size:Int) then ((r_zeros.f k (a0.extract ((ji50):Int).toNat (t363:Int).toNat)).bind fun t364 => (if 0≤t364 then (if t364≤((t363.toNat - ((ji50):Int).toNat:Nat):Int) then (r_exponent.l0 k ((bt a0 (ji10)) == 45) t363 ((a0.extract ((ji50):Int).toNat (t363:Int).toNat).extract (t364:Int).toNat (t363.toNat - ((ji50):Int).toNat)) 0 0) else (none)) else (none))) else (none)) else (none)) else (none))=some (r1,r2):=by first|(rw [hji50] at H;exact H)|(simp only [hji50] at H ⊢;exact H)
          (try rw [hji50] at c47b0)
          (try rw [hji50] at c47b1)
          (try rw [hji50] at A7)
          (try rw [hji50] at A46)
          have hji50w:(IntKind.i64.wrap ((ji10)+1))=ji50:=(i64_w _).trans hji50
          by_cases c51:0≤(ji50)
          ·rw [if_pos c51] at H;have c51b0:=eq_true c51;have c51b1:=dT_ c51;clear c51
           by_cases c52:(ji50)≤t363
           ·rw [if_pos c52] at H;have c52b0:=eq_true c52;have c52b1:=dT_ c52;clear c52
            by_cases c53:t363≤(a0.size:Int)
            ·rw [if_pos c53] at H;have c53b0:=eq_true c53;have c53b1:=dT_ c53;clear c53;obtain ⟨t364,A54,H⟩:=ob_ H
             by_cases c55:0≤t364
             ·rw [if_pos c55] at H;have c55b0:=eq_true c55;have c55b1:=dT_ c55;clear c55
              by_cases c56:t364≤((t363.toNat - ((ji50):Int).toNat:Nat):Int)
              ·rw [if_pos c56] at H;have c56x:=c56
               (try simp [*,-c56,-H] at c56x)
               have c56b0:=eq_true c56;have c56b1:=dT_ c56;clear c56;have H':=M_ H;clear H;have p6:0≤(a1:Int):=oD_ qnc3_;have q6:a1 < (a0.size:Int):=oD_ qnc3_;have hx6:=bt_at a0 a1;replace p6:=eq_true p6;replace q6:=eq_true q6
               go_enter Tryd.func47,Tryd.ntmps47
               have tk57:=trivial;have tk58:=trivial;have tk59:=trivial
               go_wp2_with (first|(clear tk57;go_at_call 70;(with_reducible refine (r_low.calls (bt a0 a1) t360 _ A7.out).mono ?_);rintro e w' ⟨rfl,⟨nd,rfl⟩⟩;have p12:0≤((ji10):Int):=oD_ qnc3_;have q12:(ji10) < (a0.size:Int):=oD_ qnc3_;have hx12:=bt_at a0 (ji10);replace p12:=eq_true p12;replace q12:=eq_true q12;have p43:0≤((ji10):Int):=oD_ qnc3_;have q43:(ji10) < (a0.size:Int):=oD_ qnc3_;have hx43:=bt_at a0 (ji10);replace p43:=eq_true p43;replace q43:=eq_true q43;have p45:0≤((ji10):Int):=oD_ qnc3_;have q45:(ji10) < (a0.size:Int):=oD_ qnc3_;have hx45:=bt_at a0 (ji10);replace p45:=eq_true p45;replace q45:=eq_true q45)|(clear tk58;(with_reducible refine gate_callee (f:=71) rfl ?_);refine goesL_ (some 50) rfl rfl Tryd.func71 (by kernel_rfl) rfl #[.string a0,.int .i64 ji50] rfl (by (try simp only [List.map_toArray,List.map_cons,List.map_nil]);first|done|(simp only [hji50];rfl)|rfl|(simp only [List.length_drop,List.length_take];rfl)|(simp;done)|(simp;omega)) ?_;(with_reducible refine (r_run.calls k a0 ji50 t363 _ A46.out).mono ?_);rintro e w' ⟨rfl,⟨nd,rfl⟩⟩;refine ⟨_,rfl,?_⟩)|(clear tk59;(with_reducible refine gate_callee (f:=42) rfl ?_);refine goesL_ (some 61) rfl rfl Tryd.func42 (by kernel_rfl) rfl #[.string (a0.extract ((ji50):Int).toNat (t363:Int).toNat)] rfl (by (try simp only [List.map_toArray,List.map_cons,List.map_nil]);first|done|(simp only [hji50];rfl)|rfl|(simp only [List.length_drop,List.length_take];rfl)|(simp;done)|(simp;omega)) ?_;(with_reducible refine (r_zeros.calls k (a0.extract ((ji50):Int).toNat (t363:Int).toNat) t364 _ A54.out).mono ?_);rintro e w' ⟨rfl,⟨nd,rfl⟩⟩;refine ⟨_,rfl,?_⟩))
               go_loopg [10,11] k (fun kq v10 v11 w' => ∃ (x10_1:Int) (x11_1:Int),v10=.int .i64 x10_1∧v11=.int .i64 x11_1∧Aside0 (r_exponent.l0 kq ((bt a0 (ji10)) == 45) t363 ((a0.extract ((ji50):Int).toNat (t363:Int).toNat).extract (t364:Int).toNat (t363.toNat - ((ji50):Int).toNat)) x10_1 x11_1=some (r1,r2))∧Aside0 (kq≤k)∧Drawn0 w w')
               case atStart => exact ⟨(0),(0),qnc1_,qnc1_,H',⟨Nat.le_refl _⟩,qnc4_⟩
               case round =>
                clear H';obtain ⟨x10_1,x11_1,rfl,rfl,HA,HK1,⟨m1,rfl⟩⟩:=hrel
                cases gk with
                | zero => exact absurd HA.out (by simp [r_exponent.l0])
                | succ k1 =>
                 have H:=HA.out;clear HA;simp only [r_exponent.l0] at H
                 by_cases c60:x11_1 < (((a0.extract ((ji50):Int).toNat (t363:Int).toNat).extract (t364:Int).toNat (t363.toNat - ((ji50):Int).toNat)).size:Int)
                 ·rw [if_pos c60] at H;have c60x:=c60
                  (try simp [*,-c60,-H] at c60x)
                  have c60b0:=dT_ c60;clear c60
                  by_cases c61:x11_1 < 14
                  ·rw [if_pos c61] at H;have c61b0:=dT_ c61;clear c61
                   by_cases c62:0≤x11_1
                   ·rw [if_pos c62] at H;have c62b0:=dT_ c62;clear c62;have H':=M_ H;clear H;have p63:0≤(x11_1:Int):=oD_ qnc3_;have q63:x11_1 < (((a0.extract ((ji50):Int).toNat (t363:Int).toNat).extract (t364:Int).toNat (t363.toNat - ((ji50):Int).toNat)).size:Int):=oD_ qnc3_;have hx63:=bt_at ((a0.extract ((ji50):Int).toNat (t363:Int).toNat).extract (t364:Int).toNat (t363.toNat - ((ji50):Int).toNat)) x11_1;replace p63:=eq_true p63;replace q63:=eq_true q63;go_wp2
                    go_roundg k1
                    case measure => have:=HK1.out;omega
                    case rel => exact ⟨(wrap64 ((wrap64 (10 * x10_1))+(((bt ((a0.extract ((ji50):Int).toNat (t363:Int).toNat).extract (t364:Int).toNat (t363.toNat - ((ji50):Int).toNat)) x11_1) - 48) % 256))),(wrap64 (x11_1+1)),(by first|rfl|(simp;done)|(simp only [← hji50] <;> (first|rfl|simp);done)|(simp [*];done)|(simp;simp only [eq_iff_iff,iff_true] at *;omega)|(exfalso;simp_all;done)),qnc1_,H',⟨by have:=HK1.out;omega⟩,qnc4_⟩
                   ·rw [if_neg c62] at H;exact absurd H (by simp)
                  ·rw [if_neg c61] at H;have c61b0:=dF_ c61;clear c61
                   by_cases c64:x10_1 > 1099511627776
                   ·rw [if_pos c64] at H;have c64b0:=dT_ c64;clear c64
                    by_cases c65:((bt a0 (ji10)) == 45)=true
                    ·rw [if_pos c65] at H;have c65b0:((bt a0 (ji10)) == 45)=true:=c65
                     (try (have c65b1:decide ((bt a0 (ji10))=45)=true:=by simpa using c65))
                     (try (have c65b2:((bt a0 (ji10)) == 45)=true:=by simpa using c65))
                     clear c65;simp only [Option.some.injEq,Prod.mk.injEq] at H;obtain ⟨rfl,rfl⟩:=H;go_wp2
                     go_ret2
                     exact ⟨qnc19_,qnc4_⟩
                    ·rw [if_neg c65] at H;have c65b0:((bt a0 (ji10)) == 45)=false:=by simpa using c65
                     (try (have c65b1:decide ((bt a0 (ji10))=45)=false:=by simpa using c65))
                     (try (have c65b2:((bt a0 (ji10)) == 45)=false:=by simpa using c65))
                     (try (have c65b3 : ¬ ((bt a0 (ji10))=45):=by simpa using c65))
                     clear c65;simp only [Option.some.injEq,Prod.mk.injEq] at H;obtain ⟨rfl,rfl⟩:=H;go_wp2
                     go_ret2
                     exact ⟨qnc19_,qnc4_⟩
                   ·rw [if_neg c64] at H;have c64b0:=dF_ c64;clear c64
                    by_cases c66:(((a0.extract ((ji50):Int).toNat (t363:Int).toNat).extract (t364:Int).toNat (t363.toNat - ((ji50):Int).toNat)).size:Int) > 14
                    ·rw [if_pos c66] at H;have c66x:=c66
                     (try simp [*,-c66,-H] at c66x)
                     have c66b0:=dT_ c66;have c66b1:decide (14 < ((a0.extract ((ji50):Int).toNat (t363:Int).toNat).extract (t364:Int).toNat (t363.toNat - ((ji50):Int).toNat)).size)=true:=decide_eq_true (by omega);clear c66
                     by_cases c67:((bt a0 (ji10)) == 45)=true
                     ·rw [if_pos c67] at H;have c67b0:((bt a0 (ji10)) == 45)=true:=c67
                      (try (have c67b1:decide ((bt a0 (ji10))=45)=true:=by simpa using c67))
                      (try (have c67b2:((bt a0 (ji10)) == 45)=true:=by simpa using c67))
                      clear c67;simp only [Option.some.injEq,Prod.mk.injEq] at H;obtain ⟨rfl,rfl⟩:=H;go_wp2
                      go_ret2
                      exact ⟨qnc19_,qnc4_⟩
                     ·rw [if_neg c67] at H;have c67b0:((bt a0 (ji10)) == 45)=false:=by simpa using c67
                      (try (have c67b1:decide ((bt a0 (ji10))=45)=false:=by simpa using c67))
                      (try (have c67b2:((bt a0 (ji10)) == 45)=false:=by simpa using c67))
                      (try (have c67b3 : ¬ ((bt a0 (ji10))=45):=by simpa using c67))
                      clear c67;simp only [Option.some.injEq,Prod.mk.injEq] at H;obtain ⟨rfl,rfl⟩:=H;go_wp2
                      go_ret2
                      exact ⟨qnc19_,qnc4_⟩
                    ·rw [if_neg c66] at H;have c66x:=c66
                     (try simp [*,-c66,-H] at c66x)
                     have c66b0:=dF_ c66;have c66b1:decide (14 < ((a0.extract ((ji50):Int).toNat (t363:Int).toNat).extract (t364:Int).toNat (t363.toNat - ((ji50):Int).toNat)).size)=false:=decide_eq_false (by omega);clear c66
                     by_cases c68:((bt a0 (ji10)) == 45)=true
                     ·rw [if_pos c68] at H;have c68b0:((bt a0 (ji10)) == 45)=true:=c68
                      (try (have c68b1:decide ((bt a0 (ji10))=45)=true:=by simpa using c68))
                      (try (have c68b2:((bt a0 (ji10)) == 45)=true:=by simpa using c68))
                      clear c68;simp only [Option.some.injEq,Prod.mk.injEq] at H;obtain ⟨rfl,rfl⟩:=H;go_wp2
                      go_ret2
                      exact ⟨qnc19_,qnc4_⟩
                     ·rw [if_neg c68] at H;have c68b0:((bt a0 (ji10)) == 45)=false:=by simpa using c68
                      (try (have c68b1:decide ((bt a0 (ji10))=45)=false:=by simpa using c68))
                      (try (have c68b2:((bt a0 (ji10)) == 45)=false:=by simpa using c68))
                      (try (have c68b3 : ¬ ((bt a0 (ji10))=45):=by simpa using c68))
                      clear c68;simp only [Option.some.injEq,Prod.mk.injEq] at H;obtain ⟨rfl,rfl⟩:=H;go_wp2
                      go_ret2
                      exact ⟨qnc19_,qnc4_⟩
                 ·rw [if_neg c60] at H;have c60x:=c60
                  (try simp [*,-c60,-H] at c60x)
                  have c60b0:=dF_ c60;clear c60
                  by_cases c69:x10_1 > 1099511627776
                  ·rw [if_pos c69] at H;have c69b0:=dT_ c69;clear c69
                   by_cases c70:((bt a0 (ji10)) == 45)=true
                   ·rw [if_pos c70] at H;have c70b0:((bt a0 (ji10)) == 45)=true:=c70
                    (try (have c70b1:decide ((bt a0 (ji10))=45)=true:=by simpa using c70))
                    (try (have c70b2:((bt a0 (ji10)) == 45)=true:=by simpa using c70))
                    clear c70;simp only [Option.some.injEq,Prod.mk.injEq] at H;obtain ⟨rfl,rfl⟩:=H;go_wp2
                    go_ret2
                    exact ⟨qnc19_,qnc4_⟩
                   ·rw [if_neg c70] at H;have c70b0:((bt a0 (ji10)) == 45)=false:=by simpa using c70
                    (try (have c70b1:decide ((bt a0 (ji10))=45)=false:=by simpa using c70))
                    (try (have c70b2:((bt a0 (ji10)) == 45)=false:=by simpa using c70))
                    (try (have c70b3 : ¬ ((bt a0 (ji10))=45):=by simpa using c70))
                    clear c70;simp only [Option.some.injEq,Prod.mk.injEq] at H;obtain ⟨rfl,rfl⟩:=H;go_wp2
                    go_ret2
                    exact ⟨qnc19_,qnc4_⟩
                  ·rw [if_neg c69] at H;have c69b0:=dF_ c69;clear c69
                   by_cases c71:(((a0.extract ((ji50):Int).toNat (t363:Int).toNat).extract (t364:Int).toNat (t363.toNat - ((ji50):Int).toNat)).size:Int) > 14
                   ·rw [if_pos c71] at H;have c71x:=c71
                    (try simp [*,-c71,-H] at c71x)
                    have c71b0:=dT_ c71;have c71b1:decide (14 < ((a0.extract ((ji50):Int).toNat (t363:Int).toNat).extract (t364:Int).toNat (t363.toNat - ((ji50):Int).toNat)).size)=true:=decide_eq_true (by omega);clear c71
                    by_cases c72:((bt a0 (ji10)) == 45)=true
                    ·rw [if_pos c72] at H;have c72b0:((bt a0 (ji10)) == 45)=true:=c72
                     (try (have c72b1:decide ((bt a0 (ji10))=45)=true:=by simpa using c72))
                     (try (have c72b2:((bt a0 (ji10)) == 45)=true:=by simpa using c72))
                     clear c72;simp only [Option.some.injEq,Prod.mk.injEq] at H;obtain ⟨rfl,rfl⟩:=H;go_wp2
                     go_ret2
                     exact ⟨qnc19_,qnc4_⟩
                    ·rw [if_neg c72] at H;have c72b0:((bt a0 (ji10)) == 45)=false:=by simpa using c72
                     (try (have c72b1:decide ((bt a0 (ji10))=45)=false:=by simpa using c72))
                     (try (have c72b2:((bt a0 (ji10)) == 45)=false:=by simpa using c72))
                     (try (have c72b3 : ¬ ((bt a0 (ji10))=45):=by simpa using c72))
                     clear c72;simp only [Option.some.injEq,Prod.mk.injEq] at H;obtain ⟨rfl,rfl⟩:=H;go_wp2
                     go_ret2
                     exact ⟨qnc19_,qnc4_⟩
                   ·rw [if_neg c71] at H;have c71x:=c71
                    (try simp [*,-c71,-H] at c71x)
                    have c71b0:=dF_ c71;have c71b1:decide (14 < ((a0.extract ((ji50):Int).toNat (t363:Int).toNat).extract (t364:Int).toNat (t363.toNat - ((ji50):Int).toNat)).size)=false:=decide_eq_false (by omega);clear c71
                    by_cases c73:((bt a0 (ji10)) == 45)=true
                    ·rw [if_pos c73] at H;have c73b0:((bt a0 (ji10)) == 45)=true:=c73
                     (try (have c73b1:decide ((bt a0 (ji10))=45)=true:=by simpa using c73))
                     (try (have c73b2:((bt a0 (ji10)) == 45)=true:=by simpa using c73))
                     clear c73;simp only [Option.some.injEq,Prod.mk.injEq] at H;obtain ⟨rfl,rfl⟩:=H;go_wp2
                     go_ret2
                     exact ⟨qnc19_,qnc4_⟩
                    ·rw [if_neg c73] at H;have c73b0:((bt a0 (ji10)) == 45)=false:=by simpa using c73
                     (try (have c73b1:decide ((bt a0 (ji10))=45)=false:=by simpa using c73))
                     (try (have c73b2:((bt a0 (ji10)) == 45)=false:=by simpa using c73))
                     (try (have c73b3 : ¬ ((bt a0 (ji10))=45):=by simpa using c73))
                     clear c73;simp only [Option.some.injEq,Prod.mk.injEq] at H;obtain ⟨rfl,rfl⟩:=H;go_wp2
                     go_ret2
                     exact ⟨qnc19_,qnc4_⟩
              ·rw [if_neg c56] at H;exact absurd H (by simp)
             ·rw [if_neg c55] at H;exact absurd H (by simp)
            ·rw [if_neg c53] at H;exact absurd H (by simp)
           ·rw [if_neg c52] at H;exact absurd H (by simp)
          ·rw [if_neg c51] at H;exact absurd H (by simp)
        ·rw [if_neg c44] at H;have c44b0:((bt a0 (ji10)) == 43)=false:=bF_ c44;have c44b1:((bt a0 (ji10)) != 43)=true:=bne_iff_ne.mpr c44;obtain ⟨t365,A74,H⟩:=ob_ H
         by_cases c75:t365=(ji10)
         ·rw [if_pos c75] at H;have c75b0:(t365 == (ji10))=true:=beq_iff_eq.mpr c75;have c75b1:(t365 != (ji10))=false:=nF_ c75;clear c75;simp only [Option.some.injEq,Prod.mk.injEq] at H;obtain ⟨rfl,rfl⟩:=H;have p6:0≤(a1:Int):=oD_ qnc3_;have q6:a1 < (a0.size:Int):=oD_ qnc3_;have hx6:=bt_at a0 a1;replace p6:=eq_true p6;replace q6:=eq_true q6
          go_enter Tryd.func47,Tryd.ntmps47
          have tk76:=trivial;have tk77:=trivial
          go_wp2_with (first|(clear tk76;go_at_call 70;(with_reducible refine (r_low.calls (bt a0 a1) t360 _ A7.out).mono ?_);rintro e w' ⟨rfl,⟨nd,rfl⟩⟩;have p12:0≤((ji10):Int):=oD_ qnc3_;have q12:(ji10) < (a0.size:Int):=oD_ qnc3_;have hx12:=bt_at a0 (ji10);replace p12:=eq_true p12;replace q12:=eq_true q12;have p43:0≤((ji10):Int):=oD_ qnc3_;have q43:(ji10) < (a0.size:Int):=oD_ qnc3_;have hx43:=bt_at a0 (ji10);replace p43:=eq_true p43;replace q43:=eq_true q43)|(clear tk77;(with_reducible refine gate_callee (f:=71) rfl ?_);refine goesL_ (some 50) rfl rfl Tryd.func71 (by kernel_rfl) rfl #[.string a0,.int .i64 ji10] rfl qnc61_ ?_;(with_reducible refine (r_run.calls k a0 ji10 t365 _ A74.out).mono ?_);rintro e w' ⟨rfl,⟨nd,rfl⟩⟩;refine ⟨_,rfl,?_⟩))
          go_ret2
          exact ⟨qnc27_,qnc4_⟩
         ·rw [if_neg c75] at H;have c75b0:(t365 == (ji10))=false:=bF_ c75;have c75b1:(t365 != (ji10))=true:=bne_iff_ne.mpr c75;have c78b0:=eq_true (oD_ qnc3_:0≤(ji10))
          by_cases c79:(ji10)≤t365
          ·rw [if_pos c79] at H;have c79b0:=eq_true c79;have c79b1:=dT_ c79;clear c79
           by_cases c80:t365≤(a0.size:Int)
           ·rw [if_pos c80] at H;have c80b0:=eq_true c80;have c80b1:=dT_ c80;clear c80;obtain ⟨t366,A81,H⟩:=ob_ H
            by_cases c82:0≤t366
            ·rw [if_pos c82] at H;have c82b0:=eq_true c82;have c82b1:=dT_ c82;clear c82
             by_cases c83:t366≤((t365.toNat - ((ji10):Int).toNat:Nat):Int)
             ·rw [if_pos c83] at H;have c83x:=c83
              (try simp [*,-c83,-H] at c83x)
              have c83b0:=eq_true c83;have c83b1:=dT_ c83;clear c83;have H':=M_ H;clear H;have p6:0≤(a1:Int):=oD_ qnc3_;have q6:a1 < (a0.size:Int):=oD_ qnc3_;have hx6:=bt_at a0 a1;replace p6:=eq_true p6;replace q6:=eq_true q6
              go_enter Tryd.func47,Tryd.ntmps47
              have tk84:=trivial;have tk85:=trivial;have tk86:=trivial
              go_wp2_with (first|(clear tk84;go_at_call 70;(with_reducible refine (r_low.calls (bt a0 a1) t360 _ A7.out).mono ?_);rintro e w' ⟨rfl,⟨nd,rfl⟩⟩;have p12:0≤((ji10):Int):=oD_ qnc3_;have q12:(ji10) < (a0.size:Int):=oD_ qnc3_;have hx12:=bt_at a0 (ji10);replace p12:=eq_true p12;replace q12:=eq_true q12;have p43:0≤((ji10):Int):=oD_ qnc3_;have q43:(ji10) < (a0.size:Int):=oD_ qnc3_;have hx43:=bt_at a0 (ji10);replace p43:=eq_true p43;replace q43:=eq_true q43)|(clear tk85;(with_reducible refine gate_callee (f:=71) rfl ?_);refine goesL_ (some 50) rfl rfl Tryd.func71 (by kernel_rfl) rfl #[.string a0,.int .i64 ji10] rfl qnc61_ ?_;(with_reducible refine (r_run.calls k a0 ji10 t365 _ A74.out).mono ?_);rintro e w' ⟨rfl,⟨nd,rfl⟩⟩;refine ⟨_,rfl,?_⟩)|(clear tk86;(with_reducible refine gate_callee (f:=42) rfl ?_);refine goesL_ (some 61) rfl rfl Tryd.func42 (by kernel_rfl) rfl #[.string (a0.extract ((ji10):Int).toNat (t365:Int).toNat)] rfl qnc61_ ?_;(with_reducible refine (r_zeros.calls k (a0.extract ((ji10):Int).toNat (t365:Int).toNat) t366 _ A81.out).mono ?_);rintro e w' ⟨rfl,⟨nd,rfl⟩⟩;refine ⟨_,rfl,?_⟩))
              go_loopg [10,11] k (fun kq v10 v11 w' => ∃ (x10_1:Int) (x11_1:Int),v10=.int .i64 x10_1∧v11=.int .i64 x11_1∧Aside0 (r_exponent.l0 kq false t365 ((a0.extract ((ji10):Int).toNat (t365:Int).toNat).extract (t366:Int).toNat (t365.toNat - ((ji10):Int).toNat)) x10_1 x11_1=some (r1,r2))∧Aside0 (kq≤k)∧Drawn0 w w')
              case atStart => exact ⟨(0),(0),qnc1_,qnc1_,H',⟨Nat.le_refl _⟩,qnc4_⟩
              case round =>
               clear H';obtain ⟨x10_1,x11_1,rfl,rfl,HA,HK1,⟨m1,rfl⟩⟩:=hrel
               cases gk with
               | zero => exact absurd HA.out (by simp [r_exponent.l0])
               | succ k1 =>
                have H:=HA.out;clear HA;simp only [r_exponent.l0] at H
                by_cases c87:x11_1 < (((a0.extract ((ji10):Int).toNat (t365:Int).toNat).extract (t366:Int).toNat (t365.toNat - ((ji10):Int).toNat)).size:Int)
                ·rw [if_pos c87] at H;have c87x:=c87
                 (try simp [*,-c87,-H] at c87x)
                 have c87b0:=dT_ c87;clear c87
                 by_cases c88:x11_1 < 14
                 ·rw [if_pos c88] at H;have c88b0:=dT_ c88;clear c88
                  by_cases c89:0≤x11_1
                  ·rw [if_pos c89] at H;have c89b0:=dT_ c89;clear c89;have H':=M_ H;clear H;have p90:0≤(x11_1:Int):=oD_ qnc3_;have q90:x11_1 < (((a0.extract ((ji10):Int).toNat (t365:Int).toNat).extract (t366:Int).toNat (t365.toNat - ((ji10):Int).toNat)).size:Int):=oD_ qnc3_;have hx90:=bt_at ((a0.extract ((ji10):Int).toNat (t365:Int).toNat).extract (t366:Int).toNat (t365.toNat - ((ji10):Int).toNat)) x11_1;replace p90:=eq_true p90;replace q90:=eq_true q90;go_wp2
                   go_roundg k1
                   case measure => have:=HK1.out;omega
                   case rel => exact ⟨(wrap64 ((wrap64 (10 * x10_1))+(((bt ((a0.extract ((ji10):Int).toNat (t365:Int).toNat).extract (t366:Int).toNat (t365.toNat - ((ji10):Int).toNat)) x11_1) - 48) % 256))),(wrap64 (x11_1+1)),qnc27_,qnc1_,H',⟨by have:=HK1.out;omega⟩,qnc4_⟩
                  ·rw [if_neg c89] at H;exact absurd H (by simp)
                 ·rw [if_neg c88] at H;have c88b0:=dF_ c88;clear c88
                  by_cases c91:x10_1 > 1099511627776
                  ·rw [if_pos c91] at H;have c91b0:=dT_ c91;clear c91;rw [if_neg (show ¬ (false=true) by decide)] at H;simp only [Option.some.injEq,Prod.mk.injEq] at H;obtain ⟨rfl,rfl⟩:=H;go_wp2
                   go_ret2
                   exact ⟨qnc27_,qnc4_⟩
                  ·rw [if_neg c91] at H;have c91b0:=dF_ c91;clear c91
                   by_cases c92:(((a0.extract ((ji10):Int).toNat (t365:Int).toNat).extract (t366:Int).toNat (t365.toNat - ((ji10):Int).toNat)).size:Int) > 14
                   ·rw [if_pos c92] at H;have c92x:=c92
                    (try simp [*,-c92,-H] at c92x)
                    have c92b0:=dT_ c92;have c92b1:decide (14 < ((a0.extract ((ji10):Int).toNat (t365:Int).toNat).extract (t366:Int).toNat (t365.toNat - ((ji10):Int).toNat)).size)=true:=decide_eq_true (by omega);clear c92;rw [if_neg (show ¬ (false=true) by decide)] at H;simp only [Option.some.injEq,Prod.mk.injEq] at H;obtain ⟨rfl,rfl⟩:=H;go_wp2
                    go_ret2
                    exact ⟨qnc27_,qnc4_⟩
                   ·rw [if_neg c92] at H;have c92x:=c92
                    (try simp [*,-c92,-H] at c92x)
                    have c92b0:=dF_ c92;have c92b1:decide (14 < ((a0.extract ((ji10):Int).toNat (t365:Int).toNat).extract (t366:Int).toNat (t365.toNat - ((ji10):Int).toNat)).size)=false:=decide_eq_false (by omega);clear c92;rw [if_neg (show ¬ (false=true) by decide)] at H;simp only [Option.some.injEq,Prod.mk.injEq] at H;obtain ⟨rfl,rfl⟩:=H;go_wp2
                    go_ret2
                    exact ⟨qnc27_,qnc4_⟩
                ·rw [if_neg c87] at H;have c87x:=c87
                 (try simp [*,-c87,-H] at c87x)
                 have c87b0:=dF_ c87;clear c87
                 by_cases c93:x10_1 > 1099511627776
                 ·rw [if_pos c93] at H;have c93b0:=dT_ c93;clear c93;rw [if_neg (show ¬ (false=true) by decide)] at H;simp only [Option.some.injEq,Prod.mk.injEq] at H;obtain ⟨rfl,rfl⟩:=H;go_wp2
                  go_ret2
                  exact ⟨qnc27_,qnc4_⟩
                 ·rw [if_neg c93] at H;have c93b0:=dF_ c93;clear c93
                  by_cases c94:(((a0.extract ((ji10):Int).toNat (t365:Int).toNat).extract (t366:Int).toNat (t365.toNat - ((ji10):Int).toNat)).size:Int) > 14
                  ·rw [if_pos c94] at H;have c94x:=c94
                   (try simp [*,-c94,-H] at c94x)
                   have c94b0:=dT_ c94;have c94b1:decide (14 < ((a0.extract ((ji10):Int).toNat (t365:Int).toNat).extract (t366:Int).toNat (t365.toNat - ((ji10):Int).toNat)).size)=true:=decide_eq_true (by omega);clear c94;rw [if_neg (show ¬ (false=true) by decide)] at H;simp only [Option.some.injEq,Prod.mk.injEq] at H;obtain ⟨rfl,rfl⟩:=H;go_wp2
                   go_ret2
                   exact ⟨qnc27_,qnc4_⟩
                  ·rw [if_neg c94] at H;have c94x:=c94
                   (try simp [*,-c94,-H] at c94x)
                   have c94b0:=dF_ c94;have c94b1:decide (14 < ((a0.extract ((ji10):Int).toNat (t365:Int).toNat).extract (t366:Int).toNat (t365.toNat - ((ji10):Int).toNat)).size)=false:=decide_eq_false (by omega);clear c94;rw [if_neg (show ¬ (false=true) by decide)] at H;simp only [Option.some.injEq,Prod.mk.injEq] at H;obtain ⟨rfl,rfl⟩:=H;go_wp2
                   go_ret2
                   exact ⟨qnc27_,qnc4_⟩
             ·rw [if_neg c83] at H;exact absurd H (by simp)
            ·rw [if_neg c82] at H;exact absurd H (by simp)
           ·rw [if_neg c80] at H;exact absurd H (by simp)
          ·rw [if_neg c79] at H;exact absurd H (by simp)
      ·rw [if_neg c11] at H;exact absurd H (by simp)
     ·rw [if_neg c9] at H;have c9b0:=dF_ c9;clear c9;obtain ⟨t367,A95,H⟩:=ob_ H
      by_cases c96:t367=(wrap64 (a1+1))
      ·rw [if_pos c96] at H;have c96b0:(t367 == (wrap64 (a1+1)))=true:=beq_iff_eq.mpr c96;have c96b1:(t367 != (wrap64 (a1+1)))=false:=nF_ c96;clear c96;simp only [Option.some.injEq,Prod.mk.injEq] at H;obtain ⟨rfl,rfl⟩:=H;have p6:0≤(a1:Int):=oD_ qnc3_;have q6:a1 < (a0.size:Int):=oD_ qnc3_;have hx6:=bt_at a0 a1;replace p6:=eq_true p6;replace q6:=eq_true q6
       go_enter Tryd.func47,Tryd.ntmps47
       have tk97:=trivial;have tk98:=trivial
       go_wp2_with (first|(clear tk97;go_at_call 70;(with_reducible refine (r_low.calls (bt a0 a1) t360 _ A7.out).mono ?_);rintro e w' ⟨rfl,⟨nd,rfl⟩⟩)|(clear tk98;(with_reducible refine gate_callee (f:=71) rfl ?_);refine goesL_ (some 50) rfl rfl Tryd.func71 (by kernel_rfl) rfl #[.string a0,.int .i64 (wrap64 (a1+1))] rfl qnc0_ ?_;(with_reducible refine (r_run.calls k a0 (wrap64 (a1+1)) t367 _ A95.out).mono ?_);rintro e w' ⟨rfl,⟨nd,rfl⟩⟩;refine ⟨_,rfl,?_⟩))
       go_ret2
       exact ⟨qnc1_,qnc4_⟩
      ·rw [if_neg c96] at H;have c96b0:(t367 == (wrap64 (a1+1)))=false:=bF_ c96;have c96b1:(t367 != (wrap64 (a1+1)))=true:=bne_iff_ne.mpr c96;obtain ⟨ji99,hji99⟩ : ∃ j_:Int,(wrap64 (a1+1))=j_:=⟨_,rfl⟩;replace H:(if 0≤(ji99) then (if (ji99)≤t367 then (if t367≤(a0.size:Int) then ((r_zeros.f k (a0.extract ((ji99):Int).toNat (t367:Int).toNat)).bind fun t368 => (if 0≤t368 then (if t368≤((t367.toNat - ((ji99):Int).toNat:Nat):Int) then (r_exponent.l0 k false t367 ((a0.extract ((ji99):Int).toNat (t367:Int).toNat).extract (t368:Int).toNat (t367.toNat - ((ji99):Int).toNat)) 0 0) else (none)) else (none))) else (none)) else (none)) else (none))=some (r1,r2):=by first|(rw [hji99] at H;exact H)|(simp only [hji99] at H ⊢;exact H)
       (try rw [hji99] at c9b0)
       (try rw [hji99] at c96b0)
       (try rw [hji99] at c96b1)
       (try rw [hji99] at A7)
       (try rw [hji99] at A95)
       have hji99w:(IntKind.i64.wrap (a1+1))=ji99:=(i64_w _).trans hji99
       by_cases c100:0≤(ji99)
       ·rw [if_pos c100] at H;have c100b0:=eq_true c100;have c100b1:=dT_ c100;clear c100
        by_cases c101:(ji99)≤t367
        ·rw [if_pos c101] at H;have c101b0:=eq_true c101;have c101b1:=dT_ c101;clear c101
         by_cases c102:t367≤(a0.size:Int)
         ·rw [if_pos c102] at H;have c102b0:=eq_true c102;have c102b1:=dT_ c102;clear c102;obtain ⟨t368,A103,H⟩:=ob_ H
          by_cases c104:0≤t368
          ·rw [if_pos c104] at H;have c104b0:=eq_true c104;have c104b1:=dT_ c104;clear c104
           by_cases c105:t368≤((t367.toNat - ((ji99):Int).toNat:Nat):Int)
           ·rw [if_pos c105] at H;have c105x:=c105
            (try simp [*,-c105,-H] at c105x)
            have c105b0:=eq_true c105;have c105b1:=dT_ c105;clear c105;have H':=M_ H;clear H;have p6:0≤(a1:Int):=oD_ qnc3_;have q6:a1 < (a0.size:Int):=oD_ qnc3_;have hx6:=bt_at a0 a1;replace p6:=eq_true p6;replace q6:=eq_true q6
            go_enter Tryd.func47,Tryd.ntmps47
            have tk106:=trivial;have tk107:=trivial;have tk108:=trivial
            go_wp2_with (first|(clear tk106;go_at_call 70;(with_reducible refine (r_low.calls (bt a0 a1) t360 _ A7.out).mono ?_);rintro e w' ⟨rfl,⟨nd,rfl⟩⟩)|(clear tk107;(with_reducible refine gate_callee (f:=71) rfl ?_);refine goesL_ (some 50) rfl rfl Tryd.func71 (by kernel_rfl) rfl #[.string a0,.int .i64 ji99] rfl (by (try simp only [List.map_toArray,List.map_cons,List.map_nil]);first|done|(simp only [hji99];rfl)|rfl|(simp only [List.length_drop,List.length_take];rfl)|(simp;done)|(simp;omega)) ?_;(with_reducible refine (r_run.calls k a0 ji99 t367 _ A95.out).mono ?_);rintro e w' ⟨rfl,⟨nd,rfl⟩⟩;refine ⟨_,rfl,?_⟩)|(clear tk108;(with_reducible refine gate_callee (f:=42) rfl ?_);refine goesL_ (some 61) rfl rfl Tryd.func42 (by kernel_rfl) rfl #[.string (a0.extract ((ji99):Int).toNat (t367:Int).toNat)] rfl (by (try simp only [List.map_toArray,List.map_cons,List.map_nil]);first|done|(simp only [hji99];rfl)|rfl|(simp only [List.length_drop,List.length_take];rfl)|(simp;done)|(simp;omega)) ?_;(with_reducible refine (r_zeros.calls k (a0.extract ((ji99):Int).toNat (t367:Int).toNat) t368 _ A103.out).mono ?_);rintro e w' ⟨rfl,⟨nd,rfl⟩⟩;refine ⟨_,rfl,?_⟩))
            go_loopg [10,11] k (fun kq v10 v11 w' => ∃ (x10_1:Int) (x11_1:Int),v10=.int .i64 x10_1∧v11=.int .i64 x11_1∧Aside0 (r_exponent.l0 kq false t367 ((a0.extract ((ji99):Int).toNat (t367:Int).toNat).extract (t368:Int).toNat (t367.toNat - ((ji99):Int).toNat)) x10_1 x11_1=some (r1,r2))∧Aside0 (kq≤k)∧Drawn0 w w')
            case atStart => exact ⟨(0),(0),qnc1_,qnc1_,H',⟨Nat.le_refl _⟩,qnc4_⟩
            case round =>
             clear H';obtain ⟨x10_1,x11_1,rfl,rfl,HA,HK1,⟨m1,rfl⟩⟩:=hrel
             cases gk with
             | zero => exact absurd HA.out (by simp [r_exponent.l0])
             | succ k1 =>
              have H:=HA.out;clear HA;simp only [r_exponent.l0] at H
              by_cases c109:x11_1 < (((a0.extract ((ji99):Int).toNat (t367:Int).toNat).extract (t368:Int).toNat (t367.toNat - ((ji99):Int).toNat)).size:Int)
              ·rw [if_pos c109] at H;have c109x:=c109
               (try simp [*,-c109,-H] at c109x)
               have c109b0:=dT_ c109;clear c109
               by_cases c110:x11_1 < 14
               ·rw [if_pos c110] at H;have c110b0:=dT_ c110;clear c110
                by_cases c111:0≤x11_1
                ·rw [if_pos c111] at H;have c111b0:=dT_ c111;clear c111;have H':=M_ H;clear H;have p112:0≤(x11_1:Int):=oD_ qnc3_;have q112:x11_1 < (((a0.extract ((ji99):Int).toNat (t367:Int).toNat).extract (t368:Int).toNat (t367.toNat - ((ji99):Int).toNat)).size:Int):=oD_ qnc3_;have hx112:=bt_at ((a0.extract ((ji99):Int).toNat (t367:Int).toNat).extract (t368:Int).toNat (t367.toNat - ((ji99):Int).toNat)) x11_1;replace p112:=eq_true p112;replace q112:=eq_true q112;go_wp2
                 go_roundg k1
                 case measure => have:=HK1.out;omega
                 case rel => exact ⟨(wrap64 ((wrap64 (10 * x10_1))+(((bt ((a0.extract ((ji99):Int).toNat (t367:Int).toNat).extract (t368:Int).toNat (t367.toNat - ((ji99):Int).toNat)) x11_1) - 48) % 256))),(wrap64 (x11_1+1)),qnc43_,qnc1_,H',⟨by have:=HK1.out;omega⟩,qnc4_⟩
                ·rw [if_neg c111] at H;exact absurd H (by simp)
               ·rw [if_neg c110] at H;have c110b0:=dF_ c110;clear c110
                by_cases c113:x10_1 > 1099511627776
                ·rw [if_pos c113] at H;have c113b0:=dT_ c113;clear c113;rw [if_neg (show ¬ (false=true) by decide)] at H;simp only [Option.some.injEq,Prod.mk.injEq] at H;obtain ⟨rfl,rfl⟩:=H;go_wp2
                 go_ret2
                 exact ⟨qnc43_,qnc4_⟩
                ·rw [if_neg c113] at H;have c113b0:=dF_ c113;clear c113
                 by_cases c114:(((a0.extract ((ji99):Int).toNat (t367:Int).toNat).extract (t368:Int).toNat (t367.toNat - ((ji99):Int).toNat)).size:Int) > 14
                 ·rw [if_pos c114] at H;have c114x:=c114
                  (try simp [*,-c114,-H] at c114x)
                  have c114b0:=dT_ c114;have c114b1:decide (14 < ((a0.extract ((ji99):Int).toNat (t367:Int).toNat).extract (t368:Int).toNat (t367.toNat - ((ji99):Int).toNat)).size)=true:=decide_eq_true (by omega);clear c114;rw [if_neg (show ¬ (false=true) by decide)] at H;simp only [Option.some.injEq,Prod.mk.injEq] at H;obtain ⟨rfl,rfl⟩:=H;go_wp2
                  go_ret2
                  exact ⟨qnc43_,qnc4_⟩
                 ·rw [if_neg c114] at H;have c114x:=c114
                  (try simp [*,-c114,-H] at c114x)
                  have c114b0:=dF_ c114;have c114b1:decide (14 < ((a0.extract ((ji99):Int).toNat (t367:Int).toNat).extract (t368:Int).toNat (t367.toNat - ((ji99):Int).toNat)).size)=false:=decide_eq_false (by omega);clear c114;rw [if_neg (show ¬ (false=true) by decide)] at H;simp only [Option.some.injEq,Prod.mk.injEq] at H;obtain ⟨rfl,rfl⟩:=H;go_wp2
                  go_ret2
                  exact ⟨qnc43_,qnc4_⟩
              ·rw [if_neg c109] at H;have c109x:=c109
               (try simp [*,-c109,-H] at c109x)
               have c109b0:=dF_ c109;clear c109
               by_cases c115:x10_1 > 1099511627776
               ·rw [if_pos c115] at H;have c115b0:=dT_ c115;clear c115;rw [if_neg (show ¬ (false=true) by decide)] at H;simp only [Option.some.injEq,Prod.mk.injEq] at H;obtain ⟨rfl,rfl⟩:=H;go_wp2
                go_ret2
                exact ⟨qnc43_,qnc4_⟩
               ·rw [if_neg c115] at H;have c115b0:=dF_ c115;clear c115
                by_cases c116:(((a0.extract ((ji99):Int).toNat (t367:Int).toNat).extract (t368:Int).toNat (t367.toNat - ((ji99):Int).toNat)).size:Int) > 14
                ·rw [if_pos c116] at H;have c116x:=c116
                 (try simp [*,-c116,-H] at c116x)
                 have c116b0:=dT_ c116;have c116b1:decide (14 < ((a0.extract ((ji99):Int).toNat (t367:Int).toNat).extract (t368:Int).toNat (t367.toNat - ((ji99):Int).toNat)).size)=true:=decide_eq_true (by omega);clear c116;rw [if_neg (show ¬ (false=true) by decide)] at H;simp only [Option.some.injEq,Prod.mk.injEq] at H;obtain ⟨rfl,rfl⟩:=H;go_wp2
                 go_ret2
                 exact ⟨qnc43_,qnc4_⟩
                ·rw [if_neg c116] at H;have c116x:=c116
                 (try simp [*,-c116,-H] at c116x)
                 have c116b0:=dF_ c116;have c116b1:decide (14 < ((a0.extract ((ji99):Int).toNat (t367:Int).toNat).extract (t368:Int).toNat (t367.toNat - ((ji99):Int).toNat)).size)=false:=decide_eq_false (by omega);clear c116;rw [if_neg (show ¬ (false=true) by decide)] at H;simp only [Option.some.injEq,Prod.mk.injEq] at H;obtain ⟨rfl,rfl⟩:=H;go_wp2
                 go_ret2
                 exact ⟨qnc43_,qnc4_⟩
           ·rw [if_neg c105] at H;exact absurd H (by simp)
          ·rw [if_neg c104] at H;exact absurd H (by simp)
         ·rw [if_neg c102] at H;exact absurd H (by simp)
        ·rw [if_neg c101] at H;exact absurd H (by simp)
       ·rw [if_neg c100] at H;exact absurd H (by simp)
    ·rw [if_neg c8] at H;have c8b0:(t360 == 101)=false:=bF_ c8;have c8b1:(t360 != 101)=true:=bne_iff_ne.mpr c8;simp only [Option.some.injEq,Prod.mk.injEq] at H;obtain ⟨rfl,rfl⟩:=H;have p6:0≤(a1:Int):=oD_ qnc3_;have q6:a1 < (a0.size:Int):=oD_ qnc3_;have hx6:=bt_at a0 a1;replace p6:=eq_true p6;replace q6:=eq_true q6
     go_enter Tryd.func47,Tryd.ntmps47
     go_wp2_with (first|(go_at_call 70;(with_reducible refine (r_low.calls (bt a0 a1) t360 _ A7.out).mono ?_);rintro e w' ⟨rfl,⟨nd,rfl⟩⟩))
     go_ret2
     exact ⟨qnc1_,qnc4_⟩
   ·rw [if_neg c5] at H;exact absurd H (by simp)
  ·rw [if_neg c4] at H;exact absurd H (by simp)

set_option maxHeartbeats 8000000
set_option maxRecDepth 100000

def r_trimmed.l0:Nat→ByteArray→Int→Option (ByteArray)
 | 0,_,_ => none
 | k+1,x0,x3 => if x3 > 0 then (if 0≤(wrap64 (x3 - 1)) then (if (wrap64 (x3 - 1)) < (x0.size:Int) then (if (bt x0 (wrap64 (x3 - 1)))=48 then (r_trimmed.l0 k x0 (wrap64 (x3 - 1))) else (if 0≤x3 then (if x3≤(x0.size:Int) then (some (x0.extract 0 (x3:Int).toNat)) else (none)) else (none))) else (none)) else (none)) else (if 0≤x3 then (if x3≤(x0.size:Int) then (some (x0.extract 0 (x3:Int).toNat)) else (none)) else (none))
def r_trimmed.f (k:Nat) (a0:ByteArray):Option (ByteArray):=r_trimmed.l0 k a0 (a0.size:Int)
theorem r_trimmed.calls (k : Nat) (a0 : ByteArray) (r : ByteArray) (w : World) (h : r_trimmed.f k a0 = some r) :
  Calls Tryd.prog 43 #[.string a0] w fun e w' => e=.returned (.string r)∧Drawn0 w w':=by
 have H:(r_trimmed.l0 k a0 (a0.size:Int))=some r:=h;clear h;have H':=M_ H;clear H
 go_enter Tryd.func43,Tryd.ntmps43
 go_wp2
 go_loopg [3] k (fun kq v3 w' => ∃ (x3_1:Int),v3=.int .i64 x3_1∧Aside0 (r_trimmed.l0 kq a0 x3_1=some r)∧Aside0 (kq≤k)∧Drawn0 w w')
 case atStart => exact ⟨((a0.size:Int)),qnc1_,H',⟨Nat.le_refl _⟩,qnc4_⟩
 case round =>
  clear H';obtain ⟨x3_1,rfl,HA,HK1,⟨m1,rfl⟩⟩:=hrel
  cases gk with
  | zero => exact absurd HA.out (by simp [r_trimmed.l0])
  | succ k1 =>
   have H:=HA.out;clear HA;simp only [r_trimmed.l0] at H
   by_cases c2:x3_1 > 0
   ·rw [if_pos c2] at H;have c2b0:=dT_ c2;clear c2;obtain ⟨ji3,hji3⟩ : ∃ j_:Int,(wrap64 (x3_1 - 1))=j_:=⟨_,rfl⟩;replace H:(if 0≤(ji3) then (if (ji3) < (a0.size:Int) then (if (bt a0 (ji3))=48 then (r_trimmed.l0 k1 a0 ji3) else (if 0≤x3_1 then (if x3_1≤(a0.size:Int) then (some (a0.extract 0 (x3_1:Int).toNat)) else (none)) else (none))) else (none)) else (none))=some r:=by first|(rw [hji3] at H;exact H)|(simp only [hji3] at H ⊢;exact H)
    have hji3w:(IntKind.i64.wrap (x3_1 - 1))=ji3:=(i64_w _).trans hji3
    by_cases c4:0≤(ji3)
    ·rw [if_pos c4] at H;have c4b0:=dT_ c4;clear c4
     by_cases c5:(ji3) < (a0.size:Int)
     ·rw [if_pos c5] at H;have c5b0:=dT_ c5;clear c5
      by_cases c7:(bt a0 (ji3))=48
      ·rw [if_pos c7] at H;have c7b0:((bt a0 (ji3)) == 48)=true:=beq_iff_eq.mpr c7;have c7b1:((bt a0 (ji3)) != 48)=false:=nF_ c7;clear c7;have H':=M_ H;clear H;have p6:0≤((ji3):Int):=oD_ qnc3_;have q6:(ji3) < (a0.size:Int):=oD_ qnc3_;have hx6:=bt_at a0 (ji3);replace p6:=eq_true p6;replace q6:=eq_true q6;go_wp2
       go_roundg k1
       case measure => have:=HK1.out;omega
       case rel => exact ⟨(ji3),(by first|rfl|(simp;done)|(simp only [← hji3] <;> (first|rfl|simp);done)|(simp [*];done)|(simp;simp only [eq_iff_iff,iff_true] at *;omega)|(exfalso;simp_all;done)),H',⟨by have:=HK1.out;omega⟩,qnc4_⟩
      ·rw [if_neg c7] at H;have c7b0:((bt a0 (ji3)) == 48)=false:=bF_ c7;have c7b1:((bt a0 (ji3)) != 48)=true:=bne_iff_ne.mpr c7
       by_cases c8:0≤x3_1
       ·rw [if_pos c8] at H;have c8b0:=eq_true c8;have c8b1:=dT_ c8;clear c8
        by_cases c9:x3_1≤(a0.size:Int)
        ·rw [if_pos c9] at H;have c9b0:=eq_true c9;have c9b1:=dT_ c9;clear c9;obtain rfl:=Option.some.inj H;have p6:0≤((ji3):Int):=oD_ qnc3_;have q6:(ji3) < (a0.size:Int):=oD_ qnc3_;have hx6:=bt_at a0 (ji3);replace p6:=eq_true p6;replace q6:=eq_true q6;go_wp2;go_ret;exact ⟨by first|rfl|(simp;done)|(simp only [← hji3] <;> (first|rfl|simp);done)|(simp [*];done)|(simp;simp only [eq_iff_iff,iff_true] at *;omega)|(exfalso;simp_all;done),qnc4_⟩
        ·rw [if_neg c9] at H;exact absurd H (by simp)
       ·rw [if_neg c8] at H;exact absurd H (by simp)
     ·rw [if_neg c5] at H;exact absurd H (by simp)
    ·rw [if_neg c4] at H;exact absurd H (by simp)
   ·rw [if_neg c2] at H;have c2b0:=dF_ c2;clear c2
    by_cases c10:0≤x3_1
    ·rw [if_pos c10] at H;have c10b0:=eq_true c10;have c10b1:=dT_ c10;clear c10
     by_cases c11:x3_1≤(a0.size:Int)
     ·rw [if_pos c11] at H;have c11b0:=eq_true c11;have c11b1:=dT_ c11;clear c11;obtain rfl:=Option.some.inj H;go_wp2;go_ret;exact ⟨qnc1_,qnc4_⟩
     ·rw [if_neg c11] at H;exact absurd H (by simp)
    ·rw [if_neg c10] at H;exact absurd H (by simp)

set_option maxHeartbeats 8000000
set_option maxRecDepth 100000

def r_Norm.f (k:Nat) (a0_0:Bool) (a0_1:ByteArray) (a0_2:Int) (a0_3:Int):Option (Bool × ByteArray × Int × Int):=(r_zeros.f k a0_1).bind fun t371 => (if 0≤t371 then (if t371≤(a0_1.size:Int) then ((r_trimmed.f k (a0_1.extract (t371:Int).toNat a0_1.size)).bind fun t372 => (if t372.toList=([]:List UInt8) then (some (false,(⟨#[]⟩:ByteArray),0,0)) else (some (a0_0,t372,wrap64 (a0_2 - t371),a0_3)))) else (none)) else (none))
theorem r_Norm.calls (k : Nat) (a0_0 : Bool) (a0_1 : ByteArray) (a0_2 : Int) (a0_3 : Int) (r1 : Bool) (r2 : ByteArray) (r3 : Int) (r4 : Int) (w : World) (h : r_Norm.f k a0_0 a0_1 a0_2 a0_3 = some (r1, r2, r3, r4)) :
  Calls Tryd.prog 48 #[.agg #[.bool a0_0,.string a0_1,.int .i64 a0_2,.int .i64 a0_3]] w fun e w' => e=.returned (.agg #[.bool r1,.string r2,.int .i64 r3,.int .i64 r4])∧Below w.heap.size w w':=by
 have hu67:=Tryd.underlying67;have HB:=M_ (Below.refl w.heap.size w);have H:((r_zeros.f k a0_1).bind fun t371 => (if 0≤t371 then (if t371≤(a0_1.size:Int) then ((r_trimmed.f k (a0_1.extract (t371:Int).toNat a0_1.size)).bind fun t372 => (if t372.toList=([]:List UInt8) then (some (false,(⟨#[]⟩:ByteArray),0,0)) else (some (a0_0,t372,wrap64 (a0_2 - t371),a0_3)))) else (none)) else (none)))=some (r1,r2,r3,r4):=h;clear h;obtain ⟨t371,A2,H⟩:=ob_ H
 by_cases c3:0≤t371
 ·rw [if_pos c3] at H;have c3b0:=eq_true c3;have c3b1:=dT_ c3;clear c3
  by_cases c4:t371≤(a0_1.size:Int)
  ·rw [if_pos c4] at H;have c4b0:=eq_true c4;have c4b1:=dT_ c4;clear c4;obtain ⟨t372,A5,H⟩:=ob_ H
   by_cases c6:t372.toList=([]:List UInt8)
   ·rw [if_pos c6] at H;have c6b0:(t372.toList == ([]:List UInt8))=true:=beq_iff_eq.mpr c6;have c6b1:(t372.toList != ([]:List UInt8))=false:=nF_ c6;clear c6;simp only [Option.some.injEq,Prod.mk.injEq] at H;obtain ⟨rfl,rfl,rfl,rfl⟩:=H
    go_enter Tryd.func48,Tryd.ntmps48
    have tk16:=trivial;have tk17:=trivial;have tk18:=trivial;have tk19:=trivial
    go_wp2_with (first|(clear tk16;(with_reducible refine gate_dst (N:=1) rfl ?_);refine box_event ?hg (N:=1) ?hd (cs:=#[.bool a0_0,.string a0_1,.int .i64 a0_2,.int .i64 a0_3]) (t:=67) ?hr ?_;(case hd => rfl);(case hg => rfl);(case hr => first|(go_simp;done)|(go_simp;rfl));intro gb369 hg w7 hbox hb;have n0_:=M_ (below_step qnc2_ hb);have n1_:=M_ (hbox);have n2_:=M_ ((by rw [hg];exact (below_size qnc2_):w.heap.size≤gb369));have n3_:=n2_;clear HB;have HB:=n0_;have BK369:=n1_;have GW369:=n2_;have GE369:=n3_;clear n0_ n1_ n2_ n3_;clear hb hbox hg)|(clear tk17;(with_reducible refine gate_dst (N:=2) rfl ?_);refine box_event ?hg (N:=2) ?hd (cs:=#[.bool false,.string ⟨#[]⟩,.int .i64 0,.int .i64 0]) (t:=67) ?hr ?_;(case hd => rfl);(case hg => rfl);(case hr => first|(go_simp;done)|(go_simp;rfl));intro gb370 hg w8 hbox hb;have n0_:=M_ (blk_below (g:=gb369) (o:=.cells #[.bool a0_0,.string a0_1,.int .i64 a0_2,.int .i64 a0_3] 67 (0,0)) qnc62_ hb);have n1_:=M_ (below_step qnc72_ hb);have n2_:=M_ (hbox);have n3_:=M_ ((by rw [hg];exact (below_size qnc72_):w.heap.size≤gb370));have n4_:=n3_;have n5_:=M_ ((by rw [hg];exact Nat.ne_of_lt (blk_lt (g:=gb369) (o:=.cells #[.bool a0_0,.string a0_1,.int .i64 a0_2,.int .i64 a0_3] 67 (0,0)) qnc62_):gb369 ≠ gb370));have n6_:=M_ ((by rw [hg];exact Nat.ne_of_gt (blk_lt (g:=gb369) (o:=.cells #[.bool a0_0,.string a0_1,.int .i64 a0_2,.int .i64 a0_3] 67 (0,0)) qnc62_):gb370 ≠ gb369));clear BK369;clear HB;have BK369:=n0_;have HB:=n1_;have BK370:=n2_;have GW370:=n3_;have GE370:=n4_;have NB369_370:=n5_;have NB370_369:=n6_;clear n0_ n1_ n2_ n3_ n4_ n5_ n6_;clear hb hbox hg;have hnb9:=NB369_370.out;have hnc9:=NB370_369.out;have hcz10_0:=bc_ (.bool a0_0) BK369.out 0 rfl;have hcz10_1:=bc_ (.string a0_1) BK369.out 1 rfl;have hcz10_2:=bc_ (.int .i64 a0_2) BK369.out 2 rfl;have hcz10_3:=bc_ (.int .i64 a0_3) BK369.out 3 rfl;have hfz10_0:=bf_ BK369.out 0;have hfz10_1:=bf_ BK369.out 1;have hfz10_2:=bf_ BK369.out 2;have hfz10_3:=bf_ BK369.out 3)|(clear tk18;(with_reducible refine gate_callee (f:=42) rfl ?_);refine goesL_ (some 7) rfl rfl Tryd.func42 (by kernel_rfl) rfl #[.string a0_1] rfl qnc0_ ?_;(with_reducible refine (r_zeros.calls k a0_1 t371 _ A2.out).mono ?_);rintro e w' ⟨rfl,⟨nd,rfl⟩⟩;refine ⟨_,rfl,?_⟩;(try (rw [drewN_self w8];generalize hq_:World.drewN w8 _=w8;have n0_:Aside0 (w8.heap[gb369]?=some (.cells #[.bool a0_0,.string a0_1,.int .i64 a0_2,.int .i64 a0_3] 67 (0,0))):=⟨by rw [← hq_];exact qnc62_⟩;have n1_:Aside0 (w8.heap[gb370]?=some (.cells #[.bool false,.string ⟨#[]⟩,.int .i64 0,.int .i64 0] 67 (0,0))):=⟨by rw [← hq_];exact qnc95_⟩;have n2_:Aside0 (Below w.heap.size w w8):=⟨by rw [← hq_];exact qnc47_⟩;clear BK369 BK370 HB hq_;have BK369:=n0_;have BK370:=n1_;have HB:=n2_;clear n0_ n1_ n2_));(try (have hcu11_0:w8.cell? ⟨gb369,0,none⟩=some (.bool a0_0):=(blk_cell BK369.out 0).trans rfl;have hfu11_0:=bf_ BK369.out 0;have hcu11_1:w8.cell? ⟨gb369,1,none⟩=some (.string a0_1):=(blk_cell BK369.out 1).trans rfl;have hfu11_1:=bf_ BK369.out 1;have hcu11_2:w8.cell? ⟨gb369,2,none⟩=some (.int .i64 a0_2):=(blk_cell BK369.out 2).trans rfl;have hfu11_2:=bf_ BK369.out 2;have hcu11_3:w8.cell? ⟨gb369,3,none⟩=some (.int .i64 a0_3):=(blk_cell BK369.out 3).trans rfl;have hfu11_3:=bf_ BK369.out 3));(try (have hcu12_0:w8.cell? ⟨gb370,0,none⟩=some (.bool false):=(blk_cell BK370.out 0).trans rfl;have hfu12_0:=bf_ BK370.out 0;have hcu12_1:w8.cell? ⟨gb370,1,none⟩=some (.string ⟨#[]⟩):=(blk_cell BK370.out 1).trans rfl;have hfu12_1:=bf_ BK370.out 1;have hcu12_2:w8.cell? ⟨gb370,2,none⟩=some (.int .i64 0):=(blk_cell BK370.out 2).trans rfl;have hfu12_2:=bf_ BK370.out 2;have hcu12_3:w8.cell? ⟨gb370,3,none⟩=some (.int .i64 0):=(blk_cell BK370.out 3).trans rfl;have hfu12_3:=bf_ BK370.out 3)))|(clear tk19;(with_reducible refine gate_callee (f:=43) rfl ?_);refine goesL_ (some 12) rfl rfl Tryd.func43 (by kernel_rfl) rfl #[.string (a0_1.extract (t371:Int).toNat a0_1.size)] rfl qnc0_ ?_;(with_reducible refine (r_trimmed.calls k (a0_1.extract (t371:Int).toNat a0_1.size) t372 _ A5.out).mono ?_);rintro e w' ⟨rfl,⟨nd,rfl⟩⟩;refine ⟨_,rfl,?_⟩;(try (rw [drewN_self w8];generalize hq_:World.drewN w8 _=w8;have n0_:Aside0 (w8.heap[gb369]?=some (.cells #[.bool a0_0,.string a0_1,.int .i64 a0_2,.int .i64 a0_3] 67 (0,0))):=⟨by rw [← hq_];exact qnc62_⟩;have n1_:Aside0 (w8.heap[gb370]?=some (.cells #[.bool false,.string ⟨#[]⟩,.int .i64 0,.int .i64 0] 67 (0,0))):=⟨by rw [← hq_];exact qnc95_⟩;have n2_:Aside0 (Below w.heap.size w w8):=⟨by rw [← hq_];exact qnc47_⟩;clear BK369 BK370 HB hq_;have BK369:=n0_;have BK370:=n1_;have HB:=n2_;clear n0_ n1_ n2_));(try (have hcu13_0:w8.cell? ⟨gb369,0,none⟩=some (.bool a0_0):=(blk_cell BK369.out 0).trans rfl;have hfu13_0:=bf_ BK369.out 0;have hcu13_1:w8.cell? ⟨gb369,1,none⟩=some (.string a0_1):=(blk_cell BK369.out 1).trans rfl;have hfu13_1:=bf_ BK369.out 1;have hcu13_2:w8.cell? ⟨gb369,2,none⟩=some (.int .i64 a0_2):=(blk_cell BK369.out 2).trans rfl;have hfu13_2:=bf_ BK369.out 2;have hcu13_3:w8.cell? ⟨gb369,3,none⟩=some (.int .i64 a0_3):=(blk_cell BK369.out 3).trans rfl;have hfu13_3:=bf_ BK369.out 3));(try (have hcu14_0:w8.cell? ⟨gb370,0,none⟩=some (.bool false):=(blk_cell BK370.out 0).trans rfl;have hfu14_0:=bf_ BK370.out 0;have hcu14_1:w8.cell? ⟨gb370,1,none⟩=some (.string ⟨#[]⟩):=(blk_cell BK370.out 1).trans rfl;have hfu14_1:=bf_ BK370.out 1;have hcu14_2:w8.cell? ⟨gb370,2,none⟩=some (.int .i64 0):=(blk_cell BK370.out 2).trans rfl;have hfu14_2:=bf_ BK370.out 2;have hcu14_3:w8.cell? ⟨gb370,3,none⟩=some (.int .i64 0):=(blk_cell BK370.out 3).trans rfl;have hfu14_3:=bf_ BK370.out 3));have hcz15_0:=bc_ (.bool false) BK370.out 0 rfl;have hcz15_1:=bc_ (.string ⟨#[]⟩) BK370.out 1 rfl;have hcz15_2:=bc_ (.int .i64 0) BK370.out 2 rfl;have hcz15_3:=bc_ (.int .i64 0) BK370.out 3 rfl;have hfz15_0:=bf_ BK370.out 0;have hfz15_1:=bf_ BK370.out 1;have hfz15_2:=bf_ BK370.out 2;have hfz15_3:=bf_ BK370.out 3))
    refine bodyPost_ret (results_cell_row rfl _ _ gb370 67 #[.bool false,.string ⟨#[]⟩,.int .i64 0,.int .i64 0] (0,0) _ rfl (by (with_reducible repeat first|apply bN_|apply bD_|apply bA_);refine blk_put (cs:=#[.bool false,.string ⟨#[]⟩,.int .i64 0,.int .i64 0]) ?_ 3 _ rfl;(with_reducible repeat first|apply bN_|apply bD_|apply bA_);refine blk_put (cs:=#[.bool false,.string ⟨#[]⟩,.int .i64 0,.int .i64 0]) ?_ 2 _ rfl;(with_reducible repeat first|apply bN_|apply bD_|apply bA_);refine blk_put (cs:=#[.bool false,.string ⟨#[]⟩,.int .i64 0,.int .i64 0]) ?_ 1 _ rfl;(with_reducible repeat first|apply bN_|apply bD_|apply bA_);refine blk_put (cs:=#[.bool false,.string ⟨#[]⟩,.int .i64 0,.int .i64 0]) ?_ 0 _ rfl;(with_reducible repeat first|apply bN_|apply bD_|apply bA_);exact BK370.out) Tryd.underlying67 rfl (by kernel_rfl)) rfl ?_;exact ⟨qnc5_,qnc47_⟩
   ·rw [if_neg c6] at H;have c6b0:(t372.toList == ([]:List UInt8))=false:=bF_ c6;have c6b1:(t372.toList != ([]:List UInt8))=true:=bne_iff_ne.mpr c6;simp only [Option.some.injEq,Prod.mk.injEq] at H;obtain ⟨rfl,rfl,rfl,rfl⟩:=H
    go_enter Tryd.func48,Tryd.ntmps48
    have tk29:=trivial;have tk30:=trivial;have tk31:=trivial;have tk32:=trivial
    go_wp2_with (first|(clear tk29;(with_reducible refine gate_dst (N:=1) rfl ?_);refine box_event ?hg (N:=1) ?hd (cs:=#[.bool a0_0,.string a0_1,.int .i64 a0_2,.int .i64 a0_3]) (t:=67) ?hr ?_;(case hd => rfl);(case hg => rfl);(case hr => first|(go_simp;done)|(go_simp;rfl));intro gb369 hg w20 hbox hb;have n0_:=M_ (below_step qnc2_ hb);have n1_:=M_ (hbox);have n2_:=M_ ((by rw [hg];exact (below_size qnc2_):w.heap.size≤gb369));have n3_:=n2_;clear HB;have HB:=n0_;have BK369:=n1_;have GW369:=n2_;have GE369:=n3_;clear n0_ n1_ n2_ n3_;clear hb hbox hg)|(clear tk30;(with_reducible refine gate_dst (N:=2) rfl ?_);refine box_event ?hg (N:=2) ?hd (cs:=#[.bool false,.string ⟨#[]⟩,.int .i64 0,.int .i64 0]) (t:=67) ?hr ?_;(case hd => rfl);(case hg => rfl);(case hr => first|(go_simp;done)|(go_simp;rfl));intro gb370 hg w21 hbox hb;have n0_:=M_ (blk_below (g:=gb369) (o:=.cells #[.bool a0_0,.string a0_1,.int .i64 a0_2,.int .i64 a0_3] 67 (0,0)) qnc62_ hb);have n1_:=M_ (below_step qnc72_ hb);have n2_:=M_ (hbox);have n3_:=M_ ((by rw [hg];exact (below_size qnc72_):w.heap.size≤gb370));have n4_:=n3_;have n5_:=M_ ((by rw [hg];exact Nat.ne_of_lt (blk_lt (g:=gb369) (o:=.cells #[.bool a0_0,.string a0_1,.int .i64 a0_2,.int .i64 a0_3] 67 (0,0)) qnc62_):gb369 ≠ gb370));have n6_:=M_ ((by rw [hg];exact Nat.ne_of_gt (blk_lt (g:=gb369) (o:=.cells #[.bool a0_0,.string a0_1,.int .i64 a0_2,.int .i64 a0_3] 67 (0,0)) qnc62_):gb370 ≠ gb369));clear BK369;clear HB;have BK369:=n0_;have HB:=n1_;have BK370:=n2_;have GW370:=n3_;have GE370:=n4_;have NB369_370:=n5_;have NB370_369:=n6_;clear n0_ n1_ n2_ n3_ n4_ n5_ n6_;clear hb hbox hg;have hnb22:=NB369_370.out;have hnc22:=NB370_369.out;have hcz23_0:=bc_ (.bool a0_0) BK369.out 0 rfl;have hcz23_1:=bc_ (.string a0_1) BK369.out 1 rfl;have hcz23_2:=bc_ (.int .i64 a0_2) BK369.out 2 rfl;have hcz23_3:=bc_ (.int .i64 a0_3) BK369.out 3 rfl;have hfz23_0:=bf_ BK369.out 0;have hfz23_1:=bf_ BK369.out 1;have hfz23_2:=bf_ BK369.out 2;have hfz23_3:=bf_ BK369.out 3)|(clear tk31;(with_reducible refine gate_callee (f:=42) rfl ?_);refine goesL_ (some 7) rfl rfl Tryd.func42 (by kernel_rfl) rfl #[.string a0_1] rfl qnc0_ ?_;(with_reducible refine (r_zeros.calls k a0_1 t371 _ A2.out).mono ?_);rintro e w' ⟨rfl,⟨nd,rfl⟩⟩;refine ⟨_,rfl,?_⟩;(try (rw [drewN_self w21];generalize hq_:World.drewN w21 _=w21;have n0_:Aside0 (w21.heap[gb369]?=some (.cells #[.bool a0_0,.string a0_1,.int .i64 a0_2,.int .i64 a0_3] 67 (0,0))):=⟨by rw [← hq_];exact qnc62_⟩;have n1_:Aside0 (w21.heap[gb370]?=some (.cells #[.bool false,.string ⟨#[]⟩,.int .i64 0,.int .i64 0] 67 (0,0))):=⟨by rw [← hq_];exact qnc95_⟩;have n2_:Aside0 (Below w.heap.size w w21):=⟨by rw [← hq_];exact qnc47_⟩;clear BK369 BK370 HB hq_;have BK369:=n0_;have BK370:=n1_;have HB:=n2_;clear n0_ n1_ n2_));(try (have hcu24_0:w21.cell? ⟨gb369,0,none⟩=some (.bool a0_0):=(blk_cell BK369.out 0).trans rfl;have hfu24_0:=bf_ BK369.out 0;have hcu24_1:w21.cell? ⟨gb369,1,none⟩=some (.string a0_1):=(blk_cell BK369.out 1).trans rfl;have hfu24_1:=bf_ BK369.out 1;have hcu24_2:w21.cell? ⟨gb369,2,none⟩=some (.int .i64 a0_2):=(blk_cell BK369.out 2).trans rfl;have hfu24_2:=bf_ BK369.out 2;have hcu24_3:w21.cell? ⟨gb369,3,none⟩=some (.int .i64 a0_3):=(blk_cell BK369.out 3).trans rfl;have hfu24_3:=bf_ BK369.out 3));(try (have hcu25_0:w21.cell? ⟨gb370,0,none⟩=some (.bool false):=(blk_cell BK370.out 0).trans rfl;have hfu25_0:=bf_ BK370.out 0;have hcu25_1:w21.cell? ⟨gb370,1,none⟩=some (.string ⟨#[]⟩):=(blk_cell BK370.out 1).trans rfl;have hfu25_1:=bf_ BK370.out 1;have hcu25_2:w21.cell? ⟨gb370,2,none⟩=some (.int .i64 0):=(blk_cell BK370.out 2).trans rfl;have hfu25_2:=bf_ BK370.out 2;have hcu25_3:w21.cell? ⟨gb370,3,none⟩=some (.int .i64 0):=(blk_cell BK370.out 3).trans rfl;have hfu25_3:=bf_ BK370.out 3)))|(clear tk32;(with_reducible refine gate_callee (f:=43) rfl ?_);refine goesL_ (some 12) rfl rfl Tryd.func43 (by kernel_rfl) rfl #[.string (a0_1.extract (t371:Int).toNat a0_1.size)] rfl qnc0_ ?_;(with_reducible refine (r_trimmed.calls k (a0_1.extract (t371:Int).toNat a0_1.size) t372 _ A5.out).mono ?_);rintro e w' ⟨rfl,⟨nd,rfl⟩⟩;refine ⟨_,rfl,?_⟩;(try (rw [drewN_self w21];generalize hq_:World.drewN w21 _=w21;have n0_:Aside0 (w21.heap[gb369]?=some (.cells #[.bool a0_0,.string a0_1,.int .i64 a0_2,.int .i64 a0_3] 67 (0,0))):=⟨by rw [← hq_];exact qnc62_⟩;have n1_:Aside0 (w21.heap[gb370]?=some (.cells #[.bool false,.string ⟨#[]⟩,.int .i64 0,.int .i64 0] 67 (0,0))):=⟨by rw [← hq_];exact qnc95_⟩;have n2_:Aside0 (Below w.heap.size w w21):=⟨by rw [← hq_];exact qnc47_⟩;clear BK369 BK370 HB hq_;have BK369:=n0_;have BK370:=n1_;have HB:=n2_;clear n0_ n1_ n2_));(try (have hcu26_0:w21.cell? ⟨gb369,0,none⟩=some (.bool a0_0):=(blk_cell BK369.out 0).trans rfl;have hfu26_0:=bf_ BK369.out 0;have hcu26_1:w21.cell? ⟨gb369,1,none⟩=some (.string a0_1):=(blk_cell BK369.out 1).trans rfl;have hfu26_1:=bf_ BK369.out 1;have hcu26_2:w21.cell? ⟨gb369,2,none⟩=some (.int .i64 a0_2):=(blk_cell BK369.out 2).trans rfl;have hfu26_2:=bf_ BK369.out 2;have hcu26_3:w21.cell? ⟨gb369,3,none⟩=some (.int .i64 a0_3):=(blk_cell BK369.out 3).trans rfl;have hfu26_3:=bf_ BK369.out 3));(try (have hcu27_0:w21.cell? ⟨gb370,0,none⟩=some (.bool false):=(blk_cell BK370.out 0).trans rfl;have hfu27_0:=bf_ BK370.out 0;have hcu27_1:w21.cell? ⟨gb370,1,none⟩=some (.string ⟨#[]⟩):=(blk_cell BK370.out 1).trans rfl;have hfu27_1:=bf_ BK370.out 1;have hcu27_2:w21.cell? ⟨gb370,2,none⟩=some (.int .i64 0):=(blk_cell BK370.out 2).trans rfl;have hfu27_2:=bf_ BK370.out 2;have hcu27_3:w21.cell? ⟨gb370,3,none⟩=some (.int .i64 0):=(blk_cell BK370.out 3).trans rfl;have hfu27_3:=bf_ BK370.out 3));have hcz28_0:=bc_ (.bool false) BK370.out 0 rfl;have hcz28_1:=bc_ (.string ⟨#[]⟩) BK370.out 1 rfl;have hcz28_2:=bc_ (.int .i64 0) BK370.out 2 rfl;have hcz28_3:=bc_ (.int .i64 0) BK370.out 3 rfl;have hfz28_0:=bf_ BK370.out 0;have hfz28_1:=bf_ BK370.out 1;have hfz28_2:=bf_ BK370.out 2;have hfz28_3:=bf_ BK370.out 3))
    refine bodyPost_ret (results_cell_row rfl _ _ gb370 67 #[.bool a0_0,.string t372,.int .i64 (wrap64 (a0_2 - t371)),.int .i64 a0_3] (0,0) _ rfl (by (with_reducible repeat first|apply bN_|apply bD_|apply bA_);refine blk_put (cs:=#[.bool a0_0,.string t372,.int .i64 (wrap64 (a0_2 - t371)),.int .i64 0]) ?_ 3 _ rfl;(with_reducible repeat first|apply bN_|apply bD_|apply bA_);refine blk_put (cs:=#[.bool a0_0,.string t372,.int .i64 0,.int .i64 0]) ?_ 2 _ rfl;(with_reducible repeat first|apply bN_|apply bD_|apply bA_);refine blk_put (cs:=#[.bool a0_0,.string ⟨#[]⟩,.int .i64 0,.int .i64 0]) ?_ 1 _ rfl;(with_reducible repeat first|apply bN_|apply bD_|apply bA_);refine blk_put (cs:=#[.bool false,.string ⟨#[]⟩,.int .i64 0,.int .i64 0]) ?_ 0 _ rfl;(with_reducible repeat first|apply bN_|apply bD_|apply bA_);refine blk_far ?_ NB370_369.out _;(with_reducible repeat first|apply bN_|apply bD_|apply bA_);refine blk_far ?_ NB370_369.out _;(with_reducible repeat first|apply bN_|apply bD_|apply bA_);exact BK370.out) Tryd.underlying67 rfl (by kernel_rfl)) rfl ?_;exact ⟨qnc5_,qnc47_⟩
  ·rw [if_neg c4] at H;exact absurd H (by simp)
 ·rw [if_neg c3] at H;exact absurd H (by simp)

end Go.Proofs.YtcdajedmlfhmeaaDoor.XN
