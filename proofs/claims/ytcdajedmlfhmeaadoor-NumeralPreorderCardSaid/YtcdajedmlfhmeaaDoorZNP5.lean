/- The card of NumeralPreorder: the law answers true at every input. Conditions: none beyond the row's own. -/
import Derived.Test.YtcdajedmlfhmeaaDoorZNP0
import Derived.Test.YtcdajedmlfhmeaaDoorZNP3
import Derived.Test.YtcdajedmlfhmeaaDoorZNP4
import Derived.Test.YtcdajedmlfhmeaaDoorZNP1
import Derived.Test.YtcdajedmlfhmeaaDoorCards
import Derived.Test.YtcdajedmlfhmeaaDoorTie
import Derived.WalkKit
import Derived.ProofKit
import Derived.OpenShut
import Derived.ShutString
import Derived.ChangeOld
import Derived.Below
import Derived.SizedLaws
import Derived.Deep.DeepHandedRow
import Derived.Lib.LaidTab
import Derived.Lay
import Derived.MakeChecks
import Derived.LaidSub
namespace Go.Proofs.YtcdajedmlfhmeaaDoor.XN
open Go.RowKit Go.Proofs.YtcdajedmlfhmeaaDoorW.PrintWords Go.Proofs.YtcdajedmlfhmeaaDoorW.PrintLast Go.Proofs.YtcdajedmlfhmeaaDoorW.PrintMore
attribute [local go_sem] max2_int min2_int max_two min_two max_three min_three max_four min_four
set_option linter.unusedVariables false
set_option linter.unusedSimpArgs false

/-! ### millref3_General: function 26 -/
mutual
def millref3_General.j0 : Nat → ByteArray → Int → Bool → Bool → Option (Int × Bool × ByteArray × Int × Int)
 | 0, _, _, _, _ => none
 | k + 1, x0, x3, x4, x29 => if x29 = true then (if 0 ≤ x3 then (if x3 < (x0.size : Int) then (millref3_General.j1 k x0 (wrap64 (x3 + 1)) ((bt x0 x3) == 45)) else (none)) else (none)) else (millref3_General.j1 k x0 x3 x4)
def millref3_General.j1 : Nat → ByteArray → Int → Bool → Option (Int × Bool × ByteArray × Int × Int)
 | 0, _, _, _ => none
 | k + 1, x0, x3, x4 => (millref3_at.f k x0 x3 (⟨#[110, 97, 110]⟩ : ByteArray)).bind fun t375 => (if t375 = true then (some (1, false, (⟨#[]⟩ : ByteArray), 0, wrap64 (x3 + 3))) else ((millref3_at.f k x0 x3 (⟨#[105, 110, 102]⟩ : ByteArray)).bind fun t376 => (if t376 = true then (if x4 = true then (millref3_General.j2 k x0 x3 2 false (⟨#[]⟩ : ByteArray) 0 (wrap64 (x3 + 3))) else (millref3_General.j2 k x0 x3 4 false (⟨#[]⟩ : ByteArray) 0 (wrap64 (x3 + 3)))) else ((millref3_Plain.f k x0 x3).bind fun bt379 => (if bt379.2.2 < 0 then (some (0, false, (⟨#[]⟩ : ByteArray), 0, 0)) else ((millref3_exponent.f k x0 bt379.2.2).bind fun bt382 => ((millref3_Norm.f k x4 bt379.1 (wrap64 (bt379.2.1 + bt382.1)) 0).bind fun bt384 => (some (3, bt384.1, bt384.2.1, bt384.2.2.1, bt382.2)))))))))
def millref3_General.j2 : Nat → ByteArray → Int → Int → Bool → ByteArray → Int → Int → Option (Int × Bool × ByteArray × Int × Int)
 | 0, _, _, _, _, _, _, _ => none
 | k + 1, x0, x3, x378000, x378001, x378002, x378003, x378004 => (millref3_at.f k x0 x3 (⟨#[105, 110, 102, 105, 110, 105, 116, 121]⟩ : ByteArray)).bind fun t378 => (if t378 = true then (some (x378000, x378001, x378002, x378003, wrap64 (x3 + 8))) else (some (x378000, x378001, x378002, x378003, x378004)))
end
def millref3_General.f (k : Nat) (a0 : ByteArray) : Option (Int × Bool × ByteArray × Int × Int) := (millref3_start.f k a0).bind fun t374 => (if t374 < (a0.size : Int) then (if 0 ≤ t374 then (if (bt a0 t374) = 45 then (millref3_General.j0 k a0 t374 false true) else (millref3_General.j0 k a0 t374 false ((bt a0 t374) == 43))) else (none)) else (millref3_General.j0 k a0 t374 false false))
set_option maxHeartbeats 8000000 in
set_option maxRecDepth 100000 in
theorem millref3_General.calls (k : Nat) (a0 : ByteArray) (r1 : Int) (r2 : Bool) (r3 : ByteArray) (r4 : Int) (r5 : Int) (w : World) (h : millref3_General.f k a0 = some (r1, r2, r3, r4, r5)) :
  Calls Tryd.prog 26 #[.string a0] w fun e w' => e = .returned (.agg #[.int .u8 r1, .bool r2, .string r3, .int .i64 r4, .int .i64 r5]) ∧ Below w.heap.size w w' := by
 have hu29 := Tryd.underlying29
 have hu67 := Tryd.underlying67
 have HB := Aside0.mk (Below.refl w.heap.size w)
 have H : ((millref3_start.f k a0).bind fun t374 => (if t374 < (a0.size : Int) then (if 0 ≤ t374 then (if (bt a0 t374) = 45 then (millref3_General.j0 k a0 t374 false true) else (millref3_General.j0 k a0 t374 false ((bt a0 t374) == 43))) else (none)) else (millref3_General.j0 k a0 t374 false false))) = some (r1, r2, r3, r4, r5) := h
 clear h
 replace H := Option.bind_eq_some_iff.mp H
 obtain ⟨t374, A20, H⟩ := H
 replace H : (if t374 < (a0.size : Int) then (if 0 ≤ t374 then (if (bt a0 t374) = 45 then (millref3_General.j0 k a0 t374 false true) else (millref3_General.j0 k a0 t374 false ((bt a0 t374) == 43))) else (none)) else (millref3_General.j0 k a0 t374 false false)) = some (r1, r2, r3, r4, r5) := H
 have A2 := Aside0.mk A20
 clear A20
 have HC3 := Aside0.mk H
 clear H
 go_enter Tryd.func26, Tryd.ntmps26
 have tk5 : True := trivial; have tk6 : True := trivial
 go_upto_region 3 with (first | (have ztk5 := tk5; clear tk5 ztk5; (with_reducible refine gate_dst (N := 2) rfl ?_); refine box_event ?hg (N := 2) ?hd (cs := #[.int .u8 0, .bool false, .string (⟨#[]⟩ : ByteArray), .int .i64 0, .int .i64 0]) (t := 29) ?hr ?_; (case hd => rfl); (case hg => rfl); (case hr => first | (go_simp; done) | (go_simp; rfl)); intro gb373 hg w4 hbox hb; have n0_ := Aside0.mk (below_step qnp1_ hb); have n1_ := Aside0.mk (hbox); have n2_ := Aside0.mk ((by rw [hg]; exact (below_size qnp1_) : w.heap.size ≤ gb373)); have n3_ := Aside0.mk ((by rw [hg]; exact (below_size qnp1_) : w.heap.size ≤ gb373)); clear HB; have HB := n0_; have BK373 := n1_; have GW373 := n2_; have GE373 := n3_; clear n0_ n1_ n2_ n3_; clear hb hbox hg) | (have ztk6 := tk6; clear tk6 ztk6; (with_reducible refine gate_callee (f := 44) rfl ?_); refine goesL_ (some 13) rfl rfl Tryd.func44 (by kernel_rfl) rfl #[.string a0] rfl qnp0_ ?_; (with_reducible refine (millref3_start.calls k a0 t374 _ A2.out).mono ?_); rintro e w' ⟨rfl, ⟨nd, rfl⟩⟩; refine ⟨_, rfl, ?_⟩))
 (try simp only [Act.put, List.setIfInBounds_toArray, List.set_cons_zero, List.set_cons_succ])
 go_cut [29] (fun v29 wc => ∃ (kq : Nat) (x29_2 : Bool), v29 = .bool x29_2 ∧ Aside0 (millref3_General.j0 kq a0 t374 false x29_2 = some (r1, r2, r3, r4, r5)) ∧ Aside0 (kq ≤ k) ∧ Aside0 (wc.heap[gb373]? = some (.cells #[.int .u8 0, .bool false, .string (⟨#[]⟩ : ByteArray), .int .i64 0, .int .i64 0] 29 (0, 0))) ∧ Aside0 (Below w.heap.size w wc))
 case first =>
  have H := HC3.out
  clear HC3
  by_cases c7 : t374 < (a0.size : Int)
  ·
   rw [if_pos c7] at H
   have c7b0 : decide (t374 < (a0.size : Int)) = true := decide_eq_true c7
   clear c7
   (first | rw [c7b0] | (simp only [i64_w, i32_w]; rw [c7b0]) | skip)
   by_cases c8 : 0 ≤ t374
   ·
    rw [if_pos c8] at H
    have c8b0 : decide (0 ≤ t374) = true := decide_eq_true c8
    clear c8
    by_cases c10 : (bt a0 t374) = 45
    ·
     rw [if_pos c10] at H
     have c10b0 : ((bt a0 t374) == 45) = true := beq_iff_eq.mpr c10
     have c10b1 : ((bt a0 t374) != 45) = false := bne_eq_false_iff_eq.mpr c10
     clear c10
     have H' := Aside0.mk H
     clear H
     have p9 : 0 ≤ (t374 : Int) := of_decide_eq_true qnp3_
     have q9 : t374 < (a0.size : Int) := of_decide_eq_true qnp3_
     have hx9 := bt_at a0 t374
     replace p9 := eq_true p9
     replace q9 := eq_true q9
     go_wp2
     go_meet
     case rel => exact ⟨_, (true), qnp2_, H', ⟨by first | omega | exact Nat.le_refl _⟩, ⟨qnp17_⟩, ⟨qnp14_⟩⟩
    ·
     rw [if_neg c10] at H
     have c10b0 : ((bt a0 t374) == 45) = false := beq_eq_false_iff_ne.mpr c10
     have c10b1 : ((bt a0 t374) != 45) = true := bne_iff_ne.mpr c10
     have H' := Aside0.mk H
     clear H
     have p9 : 0 ≤ (t374 : Int) := of_decide_eq_true qnp3_
     have q9 : t374 < (a0.size : Int) := of_decide_eq_true qnp3_
     have hx9 := bt_at a0 t374
     replace p9 := eq_true p9
     replace q9 := eq_true q9
     have p11 : 0 ≤ (t374 : Int) := of_decide_eq_true qnp3_
     have q11 : t374 < (a0.size : Int) := of_decide_eq_true qnp3_
     have hx11 := bt_at a0 t374
     replace p11 := eq_true p11
     replace q11 := eq_true q11
     go_wp2
     go_meet
     case rel => exact ⟨_, (((bt a0 t374) == 43)), qnp2_, H', ⟨by first | omega | exact Nat.le_refl _⟩, ⟨qnp17_⟩, ⟨qnp14_⟩⟩
   ·
    rw [if_neg c8] at H
    exact absurd H (by simp)
  ·
   rw [if_neg c7] at H
   have c7b0 : decide (t374 < (a0.size : Int)) = false := decide_eq_false c7
   clear c7
   (first | rw [c7b0] | (simp only [i64_w, i32_w]; rw [c7b0]) | skip)
   have H' := Aside0.mk H
   clear H
   go_wp2
   go_meet
   case rel => exact ⟨_, (false), qnp2_, H', ⟨by first | omega | exact Nat.le_refl _⟩, ⟨qnp17_⟩, ⟨qnp14_⟩⟩
 case rest =>
  clear HC3
  (try clear c1); (try clear p1); (try clear q1); (try clear hx1); (try clear c2); (try clear p2); (try clear c4); (try clear c7); (try clear c7b0); (try clear c8); (try clear c8b0); (try clear p9); (try clear q9); (try clear hx9); (try clear c10); (try clear c10b0); (try clear c10b1); (try clear p11); (try clear q11); (try clear hx11); (try clear p11); (try clear p9); (try clear q11); (try clear q9)
  obtain ⟨kq, x29_2, rfl, HA, HJ2, BK373, HB⟩ := hcut
  cases kq with
  | zero => exact absurd HA.out (by simp [millref3_General.j0])
  | succ kj2 =>
   have H := HA.out
   clear HA
   simp only [millref3_General.j0] at H
   have HC12 := Aside0.mk H
   clear H
   go_upto_if 29 with (fail)
   go_cut [3, 4] (fun v3 v4 wc => ∃ (kq : Nat) (x3_11 : Int) (x4_11 : Bool), v3 = .int .i64 x3_11 ∧ v4 = .bool x4_11 ∧ Aside0 (millref3_General.j1 kq a0 x3_11 x4_11 = some (r1, r2, r3, r4, r5)) ∧ Aside0 (kq ≤ kj2) ∧ Aside0 (wc.heap[gb373]? = some (.cells #[.int .u8 0, .bool false, .string (⟨#[]⟩ : ByteArray), .int .i64 0, .int .i64 0] 29 (0, 0))) ∧ Aside0 (Below w.heap.size w wc))
   case first =>
    have H := HC12.out
    clear HC12
    by_cases c13 : x29_2 = true
    ·
     subst c13
     have H1 : (if 0 ≤ t374 then (if t374 < (a0.size : Int) then (millref3_General.j1 kj2 a0 (wrap64 (t374 + 1)) ((bt a0 t374) == 45)) else (none)) else (none)) = some (r1, r2, r3, r4, r5) := by rw [if_pos rfl] at H; exact H
     clear H
     have H := H1
     clear H1
     by_cases c14 : 0 ≤ t374
     ·
      rw [if_pos c14] at H
      have c14b0 : decide (0 ≤ t374) = true := decide_eq_true c14
      clear c14
      (first | rw [c14b0] | (simp only [i64_w, i32_w]; rw [c14b0]) | skip)
      by_cases c15 : t374 < (a0.size : Int)
      ·
       rw [if_pos c15] at H
       have c15b0 : decide (t374 < (a0.size : Int)) = true := decide_eq_true c15
       clear c15
       have H' := Aside0.mk H
       clear H
       have p16 : 0 ≤ (t374 : Int) := of_decide_eq_true qnp3_
       have q16 : t374 < (a0.size : Int) := of_decide_eq_true qnp3_
       have hx16 := bt_at a0 t374
       replace p16 := eq_true p16
       replace q16 := eq_true q16
       go_wp2
       go_meet
       case rel => exact ⟨_, (wrap64 (t374 + 1)), (((bt a0 t374) == 45)), qnp2_, qnp2_, H', ⟨by have := HJ2.out; first | omega | exact Nat.le_refl _⟩, ⟨qnp17_⟩, ⟨qnp14_⟩⟩
      ·
       rw [if_neg c15] at H
       exact absurd H (by simp)
     ·
      rw [if_neg c14] at H
      exact absurd H (by simp)
    ·
     replace c13 := Bool.eq_false_iff.mpr c13
     subst c13
     have H1 : (millref3_General.j1 kj2 a0 t374 false) = some (r1, r2, r3, r4, r5) := by rw [if_neg (show ¬ (false = true) by decide)] at H; exact H
     clear H
     have H := H1
     clear H1
     have H' := Aside0.mk H
     clear H
     go_wp2
     go_meet
     case rel => exact ⟨_, (t374), (false), qnp2_, qnp2_, H', ⟨by have := HJ2.out; first | omega | exact Nat.le_refl _⟩, ⟨qnp17_⟩, ⟨qnp14_⟩⟩
   case rest =>
    clear HC12
    (try clear c1); (try clear p1); (try clear q1); (try clear hx1); (try clear c2); (try clear p2); (try clear c4); (try clear p6); (try clear c7); (try clear c7b0); (try clear c8); (try clear c8b0); (try clear p9); (try clear q9); (try clear hx9); (try clear c10); (try clear c10b0); (try clear c10b1); (try clear p11); (try clear q11); (try clear hx11); (try clear c13); (try clear c14); (try clear c14b0)
    (try clear c15); (try clear c15b0); (try clear p16); (try clear q16); (try clear hx16); (try clear p1); (try clear p11); (try clear p16); (try clear p2); (try clear p9); (try clear q1); (try clear q11); (try clear q16); (try clear q9)
    obtain ⟨kq, x3_11, x4_11, rfl, rfl, HA, HJ11, BK373, HB⟩ := hcut
    cases kq with
    | zero => exact absurd HA.out (by simp [millref3_General.j1])
    | succ kj11 =>
     have H := HA.out
     clear HA
     simp only [millref3_General.j1] at H
     replace H := Option.bind_eq_some_iff.mp H
     obtain ⟨t375, A170, H⟩ := H
     replace H : (if t375 = true then (some (1, false, (⟨#[]⟩ : ByteArray), 0, wrap64 (x3_11 + 3))) else ((millref3_at.f kj11 a0 x3_11 (⟨#[105, 110, 102]⟩ : ByteArray)).bind fun t376 => (if t376 = true then (if x4_11 = true then (millref3_General.j2 kj11 a0 x3_11 2 false (⟨#[]⟩ : ByteArray) 0 (wrap64 (x3_11 + 3))) else (millref3_General.j2 kj11 a0 x3_11 4 false (⟨#[]⟩ : ByteArray) 0 (wrap64 (x3_11 + 3)))) else ((millref3_Plain.f kj11 a0 x3_11).bind fun bt379 => (if bt379.2.2 < 0 then (some (0, false, (⟨#[]⟩ : ByteArray), 0, 0)) else ((millref3_exponent.f kj11 a0 bt379.2.2).bind fun bt382 => ((millref3_Norm.f kj11 x4_11 bt379.1 (wrap64 (bt379.2.1 + bt382.1)) 0).bind fun bt384 => (some (3, bt384.1, bt384.2.1, bt384.2.2.1, bt382.2))))))))) = some (r1, r2, r3, r4, r5) := H
     have A17 := Aside0.mk A170
     clear A170
     by_cases c18 : t375 = true
     ·
      subst c18
      have H1 : (some (1, false, (⟨#[]⟩ : ByteArray), 0, wrap64 (x3_11 + 3))) = some (r1, r2, r3, r4, r5) := by rw [if_pos rfl] at H; exact H
      clear H
      have H := H1
      clear H1
      simp only [Option.some.injEq, Prod.mk.injEq] at H
      obtain ⟨rfl, rfl, rfl, rfl, rfl⟩ := H
      go_wp2_with (first | ((with_reducible refine gate_callee (f := 45) rfl ?_); refine goesL_ (some 39) rfl rfl Tryd.func45 (by kernel_rfl) rfl #[.string a0, .int .i64 x3_11, .string (⟨#[110, 97, 110]⟩ : ByteArray)] rfl qnp0_ ?_; (with_reducible refine (millref3_at.calls kj11 a0 x3_11 (⟨#[110, 97, 110]⟩ : ByteArray) true _ A17.out).mono ?_); rintro e w' ⟨rfl, ⟨nd, rfl⟩⟩; refine ⟨_, rfl, ?_⟩; (try (rw [drewN_self wc]; generalize hq_ : World.drewN wc _ = wc; have n0_ : Aside0 (wc.heap[gb373]? = some (.cells #[.int .u8 0, .bool false, .string (⟨#[]⟩ : ByteArray), .int .i64 0, .int .i64 0] 29 (0, 0))) := ⟨by rw [← hq_]; exact qnp17_⟩; have n1_ : Aside0 (Below w.heap.size w wc) := ⟨by rw [← hq_]; exact qnp14_⟩; clear BK373 HB hq_; have BK373 := n0_; have HB := n1_; clear n0_ n1_)); (try (have hcu19_0 : wc.cell? ⟨gb373, 0, none⟩ = some (.int .u8 0) := (blk_cell BK373.out 0).trans rfl; have hfu19_0 := blk_frozen BK373.out 0; have hcu19_1 : wc.cell? ⟨gb373, 1, none⟩ = some (.bool false) := (blk_cell BK373.out 1).trans rfl; have hfu19_1 := blk_frozen BK373.out 1; have hcu19_2 : wc.cell? ⟨gb373, 2, none⟩ = some (.string (⟨#[]⟩ : ByteArray)) := (blk_cell BK373.out 2).trans rfl; have hfu19_2 := blk_frozen BK373.out 2; have hcu19_3 : wc.cell? ⟨gb373, 3, none⟩ = some (.int .i64 0) := (blk_cell BK373.out 3).trans rfl; have hfu19_3 := blk_frozen BK373.out 3; have hcu19_4 : wc.cell? ⟨gb373, 4, none⟩ = some (.int .i64 0) := (blk_cell BK373.out 4).trans rfl; have hfu19_4 := blk_frozen BK373.out 4)); have hcz20_0 : wc.cell? ⟨gb373, 0, none⟩ = some (.int .u8 0) := (blk_cell BK373.out 0).trans rfl; have hcz20_1 : wc.cell? ⟨gb373, 1, none⟩ = some (.bool false) := (blk_cell BK373.out 1).trans rfl; have hcz20_2 : wc.cell? ⟨gb373, 2, none⟩ = some (.string (⟨#[]⟩ : ByteArray)) := (blk_cell BK373.out 2).trans rfl; have hcz20_3 : wc.cell? ⟨gb373, 3, none⟩ = some (.int .i64 0) := (blk_cell BK373.out 3).trans rfl; have hcz20_4 : wc.cell? ⟨gb373, 4, none⟩ = some (.int .i64 0) := (blk_cell BK373.out 4).trans rfl; have hfz20_0 := blk_frozen BK373.out 0; have hfz20_1 := blk_frozen BK373.out 1; have hfz20_2 := blk_frozen BK373.out 2; have hfz20_3 := blk_frozen BK373.out 3; have hfz20_4 := blk_frozen BK373.out 4))
      refine bodyPost_ret (results_cell_row rfl _ _ gb373 29 #[.int .u8 1, .bool false, .string (⟨#[]⟩ : ByteArray), .int .i64 0, .int .i64 (wrap64 (x3_11 + 3))] (0, 0) _ rfl (by (with_reducible repeat (first | refine blk_drewN ?_ _ | refine blk_drew ?_ | refine blk_alloc ?_ _)); refine blk_put (cs := #[.int .u8 1, .bool false, .string (⟨#[]⟩ : ByteArray), .int .i64 0, .int .i64 0]) ?_ 4 _ rfl; (with_reducible repeat (first | refine blk_drewN ?_ _ | refine blk_drew ?_ | refine blk_alloc ?_ _)); refine blk_put (cs := #[.int .u8 1, .bool false, .string (⟨#[]⟩ : ByteArray), .int .i64 0, .int .i64 0]) ?_ 3 _ rfl; (with_reducible repeat (first | refine blk_drewN ?_ _ | refine blk_drew ?_ | refine blk_alloc ?_ _)); refine blk_put (cs := #[.int .u8 1, .bool false, .string (⟨#[]⟩ : ByteArray), .int .i64 0, .int .i64 0]) ?_ 2 _ rfl; (with_reducible repeat (first | refine blk_drewN ?_ _ | refine blk_drew ?_ | refine blk_alloc ?_ _)); refine blk_put (cs := #[.int .u8 1, .bool false, .string (⟨#[]⟩ : ByteArray), .int .i64 0, .int .i64 0]) ?_ 1 _ rfl; (with_reducible repeat (first | refine blk_drewN ?_ _ | refine blk_drew ?_ | refine blk_alloc ?_ _)); refine blk_put (cs := #[.int .u8 0, .bool false, .string (⟨#[]⟩ : ByteArray), .int .i64 0, .int .i64 0]) ?_ 0 _ rfl; (with_reducible repeat (first | refine blk_drewN ?_ _ | refine blk_drew ?_ | refine blk_alloc ?_ _)); exact BK373.out) Tryd.underlying29 rfl (by kernel_rfl)) rfl ?_
      exact ⟨qnp5_, qnp14_⟩
     ·
      replace c18 := Bool.eq_false_iff.mpr c18
      subst c18
      have H1 : ((millref3_at.f kj11 a0 x3_11 (⟨#[105, 110, 102]⟩ : ByteArray)).bind fun t376 => (if t376 = true then (if x4_11 = true then (millref3_General.j2 kj11 a0 x3_11 2 false (⟨#[]⟩ : ByteArray) 0 (wrap64 (x3_11 + 3))) else (millref3_General.j2 kj11 a0 x3_11 4 false (⟨#[]⟩ : ByteArray) 0 (wrap64 (x3_11 + 3)))) else ((millref3_Plain.f kj11 a0 x3_11).bind fun bt379 => (if bt379.2.2 < 0 then (some (0, false, (⟨#[]⟩ : ByteArray), 0, 0)) else ((millref3_exponent.f kj11 a0 bt379.2.2).bind fun bt382 => ((millref3_Norm.f kj11 x4_11 bt379.1 (wrap64 (bt379.2.1 + bt382.1)) 0).bind fun bt384 => (some (3, bt384.1, bt384.2.1, bt384.2.2.1, bt382.2)))))))) = some (r1, r2, r3, r4, r5) := by rw [if_neg (show ¬ (false = true) by decide)] at H; exact H
      clear H
      have H := H1
      clear H1
      replace H := Option.bind_eq_some_iff.mp H
      obtain ⟨t376, A210, H⟩ := H
      replace H : (if t376 = true then (if x4_11 = true then (millref3_General.j2 kj11 a0 x3_11 2 false (⟨#[]⟩ : ByteArray) 0 (wrap64 (x3_11 + 3))) else (millref3_General.j2 kj11 a0 x3_11 4 false (⟨#[]⟩ : ByteArray) 0 (wrap64 (x3_11 + 3)))) else ((millref3_Plain.f kj11 a0 x3_11).bind fun bt379 => (if bt379.2.2 < 0 then (some (0, false, (⟨#[]⟩ : ByteArray), 0, 0)) else ((millref3_exponent.f kj11 a0 bt379.2.2).bind fun bt382 => ((millref3_Norm.f kj11 x4_11 bt379.1 (wrap64 (bt379.2.1 + bt382.1)) 0).bind fun bt384 => (some (3, bt384.1, bt384.2.1, bt384.2.2.1, bt382.2))))))) = some (r1, r2, r3, r4, r5) := H
      have A21 := Aside0.mk A210
      clear A210
      by_cases c22 : t376 = true
      ·
       subst c22
       have H1 : (if x4_11 = true then (millref3_General.j2 kj11 a0 x3_11 2 false (⟨#[]⟩ : ByteArray) 0 (wrap64 (x3_11 + 3))) else (millref3_General.j2 kj11 a0 x3_11 4 false (⟨#[]⟩ : ByteArray) 0 (wrap64 (x3_11 + 3)))) = some (r1, r2, r3, r4, r5) := by rw [if_pos rfl] at H; exact H
       clear H
       have H := H1
       clear H1
       have HC23 := Aside0.mk H
       clear H
       have tk29 : True := trivial; have tk30 : True := trivial; have tk31 : True := trivial
       go_upto_if 50 with (first | (have ztk29 := tk29; clear tk29 ztk29; (with_reducible refine gate_callee (f := 45) rfl ?_); refine goesL_ (some 39) rfl rfl Tryd.func45 (by kernel_rfl) rfl #[.string a0, .int .i64 x3_11, .string (⟨#[110, 97, 110]⟩ : ByteArray)] rfl qnp0_ ?_; (with_reducible refine (millref3_at.calls kj11 a0 x3_11 (⟨#[110, 97, 110]⟩ : ByteArray) false _ A17.out).mono ?_); rintro e w' ⟨rfl, ⟨nd, rfl⟩⟩; refine ⟨_, rfl, ?_⟩; (try (rw [drewN_self wc]; generalize hq_ : World.drewN wc _ = wc; have n0_ : Aside0 (wc.heap[gb373]? = some (.cells #[.int .u8 0, .bool false, .string (⟨#[]⟩ : ByteArray), .int .i64 0, .int .i64 0] 29 (0, 0))) := ⟨by rw [← hq_]; exact qnp17_⟩; have n1_ : Aside0 (Below w.heap.size w wc) := ⟨by rw [← hq_]; exact qnp14_⟩; clear BK373 HB hq_; have BK373 := n0_; have HB := n1_; clear n0_ n1_)); (try (have hcu24_0 : wc.cell? ⟨gb373, 0, none⟩ = some (.int .u8 0) := (blk_cell BK373.out 0).trans rfl; have hfu24_0 := blk_frozen BK373.out 0; have hcu24_1 : wc.cell? ⟨gb373, 1, none⟩ = some (.bool false) := (blk_cell BK373.out 1).trans rfl; have hfu24_1 := blk_frozen BK373.out 1; have hcu24_2 : wc.cell? ⟨gb373, 2, none⟩ = some (.string (⟨#[]⟩ : ByteArray)) := (blk_cell BK373.out 2).trans rfl; have hfu24_2 := blk_frozen BK373.out 2; have hcu24_3 : wc.cell? ⟨gb373, 3, none⟩ = some (.int .i64 0) := (blk_cell BK373.out 3).trans rfl; have hfu24_3 := blk_frozen BK373.out 3; have hcu24_4 : wc.cell? ⟨gb373, 4, none⟩ = some (.int .i64 0) := (blk_cell BK373.out 4).trans rfl; have hfu24_4 := blk_frozen BK373.out 4))) | (have ztk30 := tk30; clear tk30 ztk30; (with_reducible refine gate_callee (f := 45) rfl ?_); refine goesL_ (some 46) rfl rfl Tryd.func45 (by kernel_rfl) rfl #[.string a0, .int .i64 x3_11, .string (⟨#[105, 110, 102]⟩ : ByteArray)] rfl qnp0_ ?_; (with_reducible refine (millref3_at.calls kj11 a0 x3_11 (⟨#[105, 110, 102]⟩ : ByteArray) true _ A21.out).mono ?_); rintro e w' ⟨rfl, ⟨nd, rfl⟩⟩; refine ⟨_, rfl, ?_⟩; (try (rw [drewN_self wc]; generalize hq_ : World.drewN wc _ = wc; have n0_ : Aside0 (wc.heap[gb373]? = some (.cells #[.int .u8 0, .bool false, .string (⟨#[]⟩ : ByteArray), .int .i64 0, .int .i64 0] 29 (0, 0))) := ⟨by rw [← hq_]; exact qnp17_⟩; have n1_ : Aside0 (Below w.heap.size w wc) := ⟨by rw [← hq_]; exact qnp14_⟩; clear BK373 HB hq_; have BK373 := n0_; have HB := n1_; clear n0_ n1_)); (try (have hcu25_0 : wc.cell? ⟨gb373, 0, none⟩ = some (.int .u8 0) := (blk_cell BK373.out 0).trans rfl; have hfu25_0 := blk_frozen BK373.out 0; have hcu25_1 : wc.cell? ⟨gb373, 1, none⟩ = some (.bool false) := (blk_cell BK373.out 1).trans rfl; have hfu25_1 := blk_frozen BK373.out 1; have hcu25_2 : wc.cell? ⟨gb373, 2, none⟩ = some (.string (⟨#[]⟩ : ByteArray)) := (blk_cell BK373.out 2).trans rfl; have hfu25_2 := blk_frozen BK373.out 2; have hcu25_3 : wc.cell? ⟨gb373, 3, none⟩ = some (.int .i64 0) := (blk_cell BK373.out 3).trans rfl; have hfu25_3 := blk_frozen BK373.out 3; have hcu25_4 : wc.cell? ⟨gb373, 4, none⟩ = some (.int .i64 0) := (blk_cell BK373.out 4).trans rfl; have hfu25_4 := blk_frozen BK373.out 4))) | (have ztk31 := tk31; clear tk31 ztk31; (with_reducible refine gate_dst (N := 5) rfl ?_); refine box_event ?hg (N := 5) ?hd (cs := #[.int .u8 0, .bool false, .string (⟨#[]⟩ : ByteArray), .int .i64 0, .int .i64 0]) (t := 29) ?hr ?_; (case hd => rfl); (case hg => rfl); (case hr => first | (go_simp; done) | (go_simp; rfl)); intro gb377 hg w26 hbox hb; have n0_ := Aside0.mk (blk_below (g := gb373) (o := .cells #[.int .u8 0, .bool false, .string (⟨#[]⟩ : ByteArray), .int .i64 0, .int .i64 0] 29 (0, 0)) qnp17_ hb); have n1_ := Aside0.mk (below_step qnp14_ hb); have n2_ := Aside0.mk (hbox); have n3_ := Aside0.mk ((by rw [hg]; exact (below_size qnp14_) : w.heap.size ≤ gb377)); have n4_ := Aside0.mk ((by rw [hg]; exact (below_size qnp14_) : w.heap.size ≤ gb377)); have n5_ := Aside0.mk ((by rw [hg]; exact Nat.ne_of_lt (blk_lt (g := gb373) (o := .cells #[.int .u8 0, .bool false, .string (⟨#[]⟩ : ByteArray), .int .i64 0, .int .i64 0] 29 (0, 0)) qnp17_) : gb373 ≠ gb377)); have n6_ := Aside0.mk ((by rw [hg]; exact Nat.ne_of_gt (blk_lt (g := gb373) (o := .cells #[.int .u8 0, .bool false, .string (⟨#[]⟩ : ByteArray), .int .i64 0, .int .i64 0] 29 (0, 0)) qnp17_) : gb377 ≠ gb373)); clear BK373; clear HB; have BK373 := n0_; have HB := n1_; have BK377 := n2_; have GW377 := n3_; have GE377 := n4_; have NB373_377 := n5_; have NB377_373 := n6_; clear n0_ n1_ n2_ n3_ n4_ n5_ n6_; clear hb hbox hg; have hnb27 := NB377_373.out; have hnc27 := NB373_377.out; have hcz28_0 : w26.cell? ⟨gb377, 0, none⟩ = some (.int .u8 0) := (blk_cell BK377.out 0).trans rfl; have hcz28_1 : w26.cell? ⟨gb377, 1, none⟩ = some (.bool false) := (blk_cell BK377.out 1).trans rfl; have hcz28_2 : w26.cell? ⟨gb377, 2, none⟩ = some (.string (⟨#[]⟩ : ByteArray)) := (blk_cell BK377.out 2).trans rfl; have hcz28_3 : w26.cell? ⟨gb377, 3, none⟩ = some (.int .i64 0) := (blk_cell BK377.out 3).trans rfl; have hcz28_4 : w26.cell? ⟨gb377, 4, none⟩ = some (.int .i64 0) := (blk_cell BK377.out 4).trans rfl; have hfz28_0 := blk_frozen BK377.out 0; have hfz28_1 := blk_frozen BK377.out 1; have hfz28_2 := blk_frozen BK377.out 2; have hfz28_3 := blk_frozen BK377.out 3; have hfz28_4 := blk_frozen BK377.out 4))
       (try simp only [Act.put, List.setIfInBounds_toArray, List.set_cons_zero, List.set_cons_succ])
       go_cut [] (fun wc => ∃ (kq : Nat) (x378000_22 : Int), Aside0 (millref3_General.j2 kq a0 x3_11 x378000_22 false (⟨#[]⟩ : ByteArray) 0 (wrap64 (x3_11 + 3)) = some (r1, r2, r3, r4, r5)) ∧ Aside0 (kq ≤ kj11) ∧ Aside0 (wc.heap[gb373]? = some (.cells #[.int .u8 0, .bool false, .string (⟨#[]⟩ : ByteArray), .int .i64 0, .int .i64 0] 29 (0, 0))) ∧ Aside0 (wc.heap[gb377]? = some (.cells #[.int .u8 x378000_22, .bool false, .string (⟨#[]⟩ : ByteArray), .int .i64 0, .int .i64 (wrap64 (x3_11 + 3))] 29 (0, 0))) ∧ Aside0 (Below w.heap.size w wc))
       case first =>
        have H := HC23.out
        clear HC23
        by_cases c32 : x4_11 = true
        ·
         subst c32
         have H1 : (millref3_General.j2 kj11 a0 x3_11 2 false (⟨#[]⟩ : ByteArray) 0 (wrap64 (x3_11 + 3))) = some (r1, r2, r3, r4, r5) := by rw [if_pos rfl] at H; exact H
         clear H
         have H := H1
         clear H1
         have H' := Aside0.mk H
         clear H
         have hnb33 := NB377_373.out
         have hnc33 := NB373_377.out
         have hcz34_0 : w26.cell? ⟨gb377, 0, none⟩ = some (.int .u8 0) := (blk_cell BK377.out 0).trans rfl
         have hcz34_1 : w26.cell? ⟨gb377, 1, none⟩ = some (.bool false) := (blk_cell BK377.out 1).trans rfl
         have hcz34_2 : w26.cell? ⟨gb377, 2, none⟩ = some (.string (⟨#[]⟩ : ByteArray)) := (blk_cell BK377.out 2).trans rfl
         have hcz34_3 : w26.cell? ⟨gb377, 3, none⟩ = some (.int .i64 0) := (blk_cell BK377.out 3).trans rfl
         have hcz34_4 : w26.cell? ⟨gb377, 4, none⟩ = some (.int .i64 0) := (blk_cell BK377.out 4).trans rfl
         have hfz34_0 := blk_frozen BK377.out 0
         have hfz34_1 := blk_frozen BK377.out 1
         have hfz34_2 := blk_frozen BK377.out 2
         have hfz34_3 := blk_frozen BK377.out 3
         have hfz34_4 := blk_frozen BK377.out 4
         go_wp2
         go_meet
         case rel => exact ⟨_, (2), H', ⟨by have := HJ2.out; have := HJ11.out; first | omega | exact Nat.le_refl _⟩, ⟨by (with_reducible repeat (first | refine blk_drewN ?_ _ | refine blk_drew ?_ | refine blk_alloc ?_ _)); refine blk_far ?_ NB373_377.out _; (with_reducible repeat (first | refine blk_drewN ?_ _ | refine blk_drew ?_ | refine blk_alloc ?_ _)); refine blk_far ?_ NB373_377.out _; (with_reducible repeat (first | refine blk_drewN ?_ _ | refine blk_drew ?_ | refine blk_alloc ?_ _)); refine blk_far ?_ NB373_377.out _; (with_reducible repeat (first | refine blk_drewN ?_ _ | refine blk_drew ?_ | refine blk_alloc ?_ _)); refine blk_far ?_ NB373_377.out _; (with_reducible repeat (first | refine blk_drewN ?_ _ | refine blk_drew ?_ | refine blk_alloc ?_ _)); refine blk_far ?_ NB373_377.out _; (with_reducible repeat (first | refine blk_drewN ?_ _ | refine blk_drew ?_ | refine blk_alloc ?_ _)); refine blk_far ?_ NB373_377.out _; (with_reducible repeat (first | refine blk_drewN ?_ _ | refine blk_drew ?_ | refine blk_alloc ?_ _)); exact BK373.out⟩, ⟨by (with_reducible repeat (first | refine blk_drewN ?_ _ | refine blk_drew ?_ | refine blk_alloc ?_ _)); refine blk_put (cs := #[.int .u8 4, .bool false, .string (⟨#[]⟩ : ByteArray), .int .i64 0, .int .i64 (wrap64 (x3_11 + 3))]) ?_ 0 _ rfl; (with_reducible repeat (first | refine blk_drewN ?_ _ | refine blk_drew ?_ | refine blk_alloc ?_ _)); refine blk_put (cs := #[.int .u8 4, .bool false, .string (⟨#[]⟩ : ByteArray), .int .i64 0, .int .i64 0]) ?_ 4 _ rfl; (with_reducible repeat (first | refine blk_drewN ?_ _ | refine blk_drew ?_ | refine blk_alloc ?_ _)); refine blk_put (cs := #[.int .u8 4, .bool false, .string (⟨#[]⟩ : ByteArray), .int .i64 0, .int .i64 0]) ?_ 3 _ rfl; (with_reducible repeat (first | refine blk_drewN ?_ _ | refine blk_drew ?_ | refine blk_alloc ?_ _)); refine blk_put (cs := #[.int .u8 4, .bool false, .string (⟨#[]⟩ : ByteArray), .int .i64 0, .int .i64 0]) ?_ 2 _ rfl; (with_reducible repeat (first | refine blk_drewN ?_ _ | refine blk_drew ?_ | refine blk_alloc ?_ _)); refine blk_put (cs := #[.int .u8 4, .bool false, .string (⟨#[]⟩ : ByteArray), .int .i64 0, .int .i64 0]) ?_ 1 _ rfl; (with_reducible repeat (first | refine blk_drewN ?_ _ | refine blk_drew ?_ | refine blk_alloc ?_ _)); refine blk_put (cs := #[.int .u8 0, .bool false, .string (⟨#[]⟩ : ByteArray), .int .i64 0, .int .i64 0]) ?_ 0 _ rfl; (with_reducible repeat (first | refine blk_drewN ?_ _ | refine blk_drew ?_ | refine blk_alloc ?_ _)); exact BK377.out⟩, ⟨qnp41_⟩⟩
        ·
         replace c32 := Bool.eq_false_iff.mpr c32
         subst c32
         have H1 : (millref3_General.j2 kj11 a0 x3_11 4 false (⟨#[]⟩ : ByteArray) 0 (wrap64 (x3_11 + 3))) = some (r1, r2, r3, r4, r5) := by rw [if_neg (show ¬ (false = true) by decide)] at H; exact H
         clear H
         have H := H1
         clear H1
         have H' := Aside0.mk H
         clear H
         go_wp2
         go_meet
         case rel => exact ⟨_, (4), H', ⟨by have := HJ2.out; have := HJ11.out; first | omega | exact Nat.le_refl _⟩, ⟨by (with_reducible repeat (first | refine blk_drewN ?_ _ | refine blk_drew ?_ | refine blk_alloc ?_ _)); refine blk_far ?_ NB373_377.out _; (with_reducible repeat (first | refine blk_drewN ?_ _ | refine blk_drew ?_ | refine blk_alloc ?_ _)); refine blk_far ?_ NB373_377.out _; (with_reducible repeat (first | refine blk_drewN ?_ _ | refine blk_drew ?_ | refine blk_alloc ?_ _)); refine blk_far ?_ NB373_377.out _; (with_reducible repeat (first | refine blk_drewN ?_ _ | refine blk_drew ?_ | refine blk_alloc ?_ _)); refine blk_far ?_ NB373_377.out _; (with_reducible repeat (first | refine blk_drewN ?_ _ | refine blk_drew ?_ | refine blk_alloc ?_ _)); refine blk_far ?_ NB373_377.out _; (with_reducible repeat (first | refine blk_drewN ?_ _ | refine blk_drew ?_ | refine blk_alloc ?_ _)); exact BK373.out⟩, ⟨by (with_reducible repeat (first | refine blk_drewN ?_ _ | refine blk_drew ?_ | refine blk_alloc ?_ _)); refine blk_put (cs := #[.int .u8 4, .bool false, .string (⟨#[]⟩ : ByteArray), .int .i64 0, .int .i64 0]) ?_ 4 _ rfl; (with_reducible repeat (first | refine blk_drewN ?_ _ | refine blk_drew ?_ | refine blk_alloc ?_ _)); refine blk_put (cs := #[.int .u8 4, .bool false, .string (⟨#[]⟩ : ByteArray), .int .i64 0, .int .i64 0]) ?_ 3 _ rfl; (with_reducible repeat (first | refine blk_drewN ?_ _ | refine blk_drew ?_ | refine blk_alloc ?_ _)); refine blk_put (cs := #[.int .u8 4, .bool false, .string (⟨#[]⟩ : ByteArray), .int .i64 0, .int .i64 0]) ?_ 2 _ rfl; (with_reducible repeat (first | refine blk_drewN ?_ _ | refine blk_drew ?_ | refine blk_alloc ?_ _)); refine blk_put (cs := #[.int .u8 4, .bool false, .string (⟨#[]⟩ : ByteArray), .int .i64 0, .int .i64 0]) ?_ 1 _ rfl; (with_reducible repeat (first | refine blk_drewN ?_ _ | refine blk_drew ?_ | refine blk_alloc ?_ _)); refine blk_put (cs := #[.int .u8 0, .bool false, .string (⟨#[]⟩ : ByteArray), .int .i64 0, .int .i64 0]) ?_ 0 _ rfl; (with_reducible repeat (first | refine blk_drewN ?_ _ | refine blk_drew ?_ | refine blk_alloc ?_ _)); exact BK377.out⟩, ⟨qnp41_⟩⟩
       case rest =>
        clear HC23
        (try clear c1); (try clear p1); (try clear q1); (try clear hx1); (try clear c2); (try clear p2); (try clear c3); (try clear c4); (try clear p6); (try clear c7); (try clear c7b0); (try clear c8); (try clear c8b0); (try clear p9); (try clear q9); (try clear hx9); (try clear c10); (try clear c10b0); (try clear c10b1); (try clear p11); (try clear q11); (try clear hx11); (try clear c13); (try clear c14)
        (try clear c14b0); (try clear c15); (try clear c15b0); (try clear p16); (try clear q16); (try clear hx16); (try clear c18); (try clear c22); (try clear c26); (try clear c27); (try clear c32); (try clear c33); (try clear hcz20_0); (try clear hcz20_1); (try clear hcz20_2); (try clear hcz20_3); (try clear hcz20_4); (try clear hcz28_0); (try clear hcz28_1); (try clear hcz28_2); (try clear hcz28_3)
        (try clear hcz28_4); (try clear hcz34_0); (try clear hcz34_1); (try clear hcz34_2); (try clear hcz34_3); (try clear hcz34_4); (try clear hfz20_0); (try clear hfz20_1); (try clear hfz20_2); (try clear hfz20_3); (try clear hfz20_4); (try clear hfz28_0); (try clear hfz28_1); (try clear hfz28_2); (try clear hfz28_3); (try clear hfz28_4); (try clear hfz34_0); (try clear hfz34_1); (try clear hfz34_2)
        (try clear hfz34_3); (try clear hfz34_4); (try clear p1); (try clear p11); (try clear p16); (try clear p2); (try clear p6); (try clear p9); (try clear q1); (try clear q11); (try clear q16); (try clear q9)
        obtain ⟨kq, x378000_22, HA, HJ22, BK373, BK377, HB⟩ := hcut
        cases kq with
        | zero => exact absurd HA.out (by simp [millref3_General.j2])
        | succ kj22 =>
         have H := HA.out
         clear HA
         simp only [millref3_General.j2] at H
         replace H := Option.bind_eq_some_iff.mp H
         obtain ⟨t378, A350, H⟩ := H
         replace H : (if t378 = true then (some (x378000_22, false, (⟨#[]⟩ : ByteArray), 0, wrap64 (x3_11 + 8))) else (some (x378000_22, false, (⟨#[]⟩ : ByteArray), 0, (wrap64 (x3_11 + 3))))) = some (r1, r2, r3, r4, r5) := H
         have A35 := Aside0.mk A350
         clear A350
         by_cases c36 : t378 = true
         ·
          subst c36
          have H1 : (some (x378000_22, false, (⟨#[]⟩ : ByteArray), 0, wrap64 (x3_11 + 8))) = some (r1, r2, r3, r4, r5) := by rw [if_pos rfl] at H; exact H
          clear H
          have H := H1
          clear H1
          simp only [Option.some.injEq, Prod.mk.injEq] at H
          obtain ⟨rfl, rfl, rfl, rfl, rfl⟩ := H
          go_wp2_with (first | ((with_reducible refine gate_callee (f := 45) rfl ?_); refine goesL_ (some 54) rfl rfl Tryd.func45 (by kernel_rfl) rfl #[.string a0, .int .i64 x3_11, .string (⟨#[105, 110, 102, 105, 110, 105, 116, 121]⟩ : ByteArray)] rfl qnp0_ ?_; (with_reducible refine (millref3_at.calls kj22 a0 x3_11 (⟨#[105, 110, 102, 105, 110, 105, 116, 121]⟩ : ByteArray) true _ A35.out).mono ?_); rintro e w' ⟨rfl, ⟨nd, rfl⟩⟩; refine ⟨_, rfl, ?_⟩; (try (rw [drewN_self wc]; generalize hq_ : World.drewN wc _ = wc; have n0_ : Aside0 (wc.heap[gb373]? = some (.cells #[.int .u8 0, .bool false, .string (⟨#[]⟩ : ByteArray), .int .i64 0, .int .i64 0] 29 (0, 0))) := ⟨by rw [← hq_]; exact qnp17_⟩; have n1_ : Aside0 (wc.heap[gb377]? = some (.cells #[.int .u8 x378000_22, .bool false, .string (⟨#[]⟩ : ByteArray), .int .i64 0, .int .i64 (wrap64 (x3_11 + 3))] 29 (0, 0))) := ⟨by rw [← hq_]; exact (by (with_reducible repeat (first | refine blk_drewN ?_ _ | refine blk_drew ?_ | refine blk_alloc ?_ _)); exact BK377.out)⟩; have n2_ : Aside0 (Below w.heap.size w wc) := ⟨by rw [← hq_]; exact qnp41_⟩; clear BK373 BK377 HB hq_; have BK373 := n0_; have BK377 := n1_; have HB := n2_; clear n0_ n1_ n2_)); (try (have hcu37_0 : wc.cell? ⟨gb373, 0, none⟩ = some (.int .u8 0) := (blk_cell BK373.out 0).trans rfl; have hfu37_0 := blk_frozen BK373.out 0; have hcu37_1 : wc.cell? ⟨gb373, 1, none⟩ = some (.bool false) := (blk_cell BK373.out 1).trans rfl; have hfu37_1 := blk_frozen BK373.out 1; have hcu37_2 : wc.cell? ⟨gb373, 2, none⟩ = some (.string (⟨#[]⟩ : ByteArray)) := (blk_cell BK373.out 2).trans rfl; have hfu37_2 := blk_frozen BK373.out 2; have hcu37_3 : wc.cell? ⟨gb373, 3, none⟩ = some (.int .i64 0) := (blk_cell BK373.out 3).trans rfl; have hfu37_3 := blk_frozen BK373.out 3; have hcu37_4 : wc.cell? ⟨gb373, 4, none⟩ = some (.int .i64 0) := (blk_cell BK373.out 4).trans rfl; have hfu37_4 := blk_frozen BK373.out 4)); (try (have hcu38_0 : wc.cell? ⟨gb377, 0, none⟩ = some (.int .u8 x378000_22) := (blk_cell BK377.out 0).trans rfl; have hfu38_0 := blk_frozen BK377.out 0; have hcu38_1 : wc.cell? ⟨gb377, 1, none⟩ = some (.bool false) := (blk_cell BK377.out 1).trans rfl; have hfu38_1 := blk_frozen BK377.out 1; have hcu38_2 : wc.cell? ⟨gb377, 2, none⟩ = some (.string (⟨#[]⟩ : ByteArray)) := (blk_cell BK377.out 2).trans rfl; have hfu38_2 := blk_frozen BK377.out 2; have hcu38_3 : wc.cell? ⟨gb377, 3, none⟩ = some (.int .i64 0) := (blk_cell BK377.out 3).trans rfl; have hfu38_3 := blk_frozen BK377.out 3; have hcu38_4 : wc.cell? ⟨gb377, 4, none⟩ = some (.int .i64 (wrap64 (x3_11 + 3))) := (blk_cell BK377.out 4).trans rfl; have hfu38_4 := blk_frozen BK377.out 4)); have hnb39 := NB377_373.out; have hnc39 := NB373_377.out; have hcz40_0 : wc.cell? ⟨gb377, 0, none⟩ = some (.int .u8 x378000_22) := (blk_cell BK377.out 0).trans rfl; have hcz40_1 : wc.cell? ⟨gb377, 1, none⟩ = some (.bool false) := (blk_cell BK377.out 1).trans rfl; have hcz40_2 : wc.cell? ⟨gb377, 2, none⟩ = some (.string (⟨#[]⟩ : ByteArray)) := (blk_cell BK377.out 2).trans rfl; have hcz40_3 : wc.cell? ⟨gb377, 3, none⟩ = some (.int .i64 0) := (blk_cell BK377.out 3).trans rfl; have hcz40_4 : wc.cell? ⟨gb377, 4, none⟩ = some (.int .i64 (wrap64 (x3_11 + 3))) := (blk_cell BK377.out 4).trans rfl; have hfz40_0 := blk_frozen BK377.out 0; have hfz40_1 := blk_frozen BK377.out 1; have hfz40_2 := blk_frozen BK377.out 2; have hfz40_3 := blk_frozen BK377.out 3; have hfz40_4 := blk_frozen BK377.out 4; have hcz41_0 : wc.cell? ⟨gb373, 0, none⟩ = some (.int .u8 0) := (blk_cell BK373.out 0).trans rfl; have hcz41_1 : wc.cell? ⟨gb373, 1, none⟩ = some (.bool false) := (blk_cell BK373.out 1).trans rfl; have hcz41_2 : wc.cell? ⟨gb373, 2, none⟩ = some (.string (⟨#[]⟩ : ByteArray)) := (blk_cell BK373.out 2).trans rfl; have hcz41_3 : wc.cell? ⟨gb373, 3, none⟩ = some (.int .i64 0) := (blk_cell BK373.out 3).trans rfl; have hcz41_4 : wc.cell? ⟨gb373, 4, none⟩ = some (.int .i64 0) := (blk_cell BK373.out 4).trans rfl; have hfz41_0 := blk_frozen BK373.out 0; have hfz41_1 := blk_frozen BK373.out 1; have hfz41_2 := blk_frozen BK373.out 2; have hfz41_3 := blk_frozen BK373.out 3; have hfz41_4 := blk_frozen BK373.out 4))
          refine bodyPost_ret (results_cell_row rfl _ _ gb373 29 #[.int .u8 x378000_22, .bool false, .string (⟨#[]⟩ : ByteArray), .int .i64 0, .int .i64 (wrap64 (x3_11 + 8))] (0, 0) _ rfl (by (with_reducible repeat (first | refine blk_drewN ?_ _ | refine blk_drew ?_ | refine blk_alloc ?_ _)); refine blk_put (cs := #[.int .u8 x378000_22, .bool false, .string (⟨#[]⟩ : ByteArray), .int .i64 0, .int .i64 0]) ?_ 4 _ rfl; (with_reducible repeat (first | refine blk_drewN ?_ _ | refine blk_drew ?_ | refine blk_alloc ?_ _)); refine blk_put (cs := #[.int .u8 x378000_22, .bool false, .string (⟨#[]⟩ : ByteArray), .int .i64 0, .int .i64 0]) ?_ 3 _ rfl; (with_reducible repeat (first | refine blk_drewN ?_ _ | refine blk_drew ?_ | refine blk_alloc ?_ _)); refine blk_put (cs := #[.int .u8 x378000_22, .bool false, .string (⟨#[]⟩ : ByteArray), .int .i64 0, .int .i64 0]) ?_ 2 _ rfl; (with_reducible repeat (first | refine blk_drewN ?_ _ | refine blk_drew ?_ | refine blk_alloc ?_ _)); refine blk_put (cs := #[.int .u8 x378000_22, .bool false, .string (⟨#[]⟩ : ByteArray), .int .i64 0, .int .i64 0]) ?_ 1 _ rfl; (with_reducible repeat (first | refine blk_drewN ?_ _ | refine blk_drew ?_ | refine blk_alloc ?_ _)); refine blk_put (cs := #[.int .u8 0, .bool false, .string (⟨#[]⟩ : ByteArray), .int .i64 0, .int .i64 0]) ?_ 0 _ rfl; (with_reducible repeat (first | refine blk_drewN ?_ _ | refine blk_drew ?_ | refine blk_alloc ?_ _)); refine blk_far ?_ NB373_377.out _; (with_reducible repeat (first | refine blk_drewN ?_ _ | refine blk_drew ?_ | refine blk_alloc ?_ _)); exact BK373.out) Tryd.underlying29 rfl (by kernel_rfl)) rfl ?_
          exact ⟨qnp5_, qnp41_⟩
         ·
          replace c36 := Bool.eq_false_iff.mpr c36
          subst c36
          have H1 : (some (x378000_22, false, (⟨#[]⟩ : ByteArray), 0, (wrap64 (x3_11 + 3)))) = some (r1, r2, r3, r4, r5) := by rw [if_neg (show ¬ (false = true) by decide)] at H; exact H
          clear H
          have H := H1
          clear H1
          simp only [Option.some.injEq, Prod.mk.injEq] at H
          obtain ⟨rfl, rfl, rfl, rfl, rfl⟩ := H
          go_wp2_with (first | ((with_reducible refine gate_callee (f := 45) rfl ?_); refine goesL_ (some 54) rfl rfl Tryd.func45 (by kernel_rfl) rfl #[.string a0, .int .i64 x3_11, .string (⟨#[105, 110, 102, 105, 110, 105, 116, 121]⟩ : ByteArray)] rfl qnp0_ ?_; (with_reducible refine (millref3_at.calls kj22 a0 x3_11 (⟨#[105, 110, 102, 105, 110, 105, 116, 121]⟩ : ByteArray) false _ A35.out).mono ?_); rintro e w' ⟨rfl, ⟨nd, rfl⟩⟩; refine ⟨_, rfl, ?_⟩; (try (rw [drewN_self wc]; generalize hq_ : World.drewN wc _ = wc; have n0_ : Aside0 (wc.heap[gb373]? = some (.cells #[.int .u8 0, .bool false, .string (⟨#[]⟩ : ByteArray), .int .i64 0, .int .i64 0] 29 (0, 0))) := ⟨by rw [← hq_]; exact qnp17_⟩; have n1_ : Aside0 (wc.heap[gb377]? = some (.cells #[.int .u8 x378000_22, .bool false, .string (⟨#[]⟩ : ByteArray), .int .i64 0, .int .i64 (wrap64 (x3_11 + 3))] 29 (0, 0))) := ⟨by rw [← hq_]; exact (by (with_reducible repeat (first | refine blk_drewN ?_ _ | refine blk_drew ?_ | refine blk_alloc ?_ _)); exact BK377.out)⟩; have n2_ : Aside0 (Below w.heap.size w wc) := ⟨by rw [← hq_]; exact qnp41_⟩; clear BK373 BK377 HB hq_; have BK373 := n0_; have BK377 := n1_; have HB := n2_; clear n0_ n1_ n2_)); (try (have hcu42_0 : wc.cell? ⟨gb373, 0, none⟩ = some (.int .u8 0) := (blk_cell BK373.out 0).trans rfl; have hfu42_0 := blk_frozen BK373.out 0; have hcu42_1 : wc.cell? ⟨gb373, 1, none⟩ = some (.bool false) := (blk_cell BK373.out 1).trans rfl; have hfu42_1 := blk_frozen BK373.out 1; have hcu42_2 : wc.cell? ⟨gb373, 2, none⟩ = some (.string (⟨#[]⟩ : ByteArray)) := (blk_cell BK373.out 2).trans rfl; have hfu42_2 := blk_frozen BK373.out 2; have hcu42_3 : wc.cell? ⟨gb373, 3, none⟩ = some (.int .i64 0) := (blk_cell BK373.out 3).trans rfl; have hfu42_3 := blk_frozen BK373.out 3; have hcu42_4 : wc.cell? ⟨gb373, 4, none⟩ = some (.int .i64 0) := (blk_cell BK373.out 4).trans rfl; have hfu42_4 := blk_frozen BK373.out 4)); (try (have hcu43_0 : wc.cell? ⟨gb377, 0, none⟩ = some (.int .u8 x378000_22) := (blk_cell BK377.out 0).trans rfl; have hfu43_0 := blk_frozen BK377.out 0; have hcu43_1 : wc.cell? ⟨gb377, 1, none⟩ = some (.bool false) := (blk_cell BK377.out 1).trans rfl; have hfu43_1 := blk_frozen BK377.out 1; have hcu43_2 : wc.cell? ⟨gb377, 2, none⟩ = some (.string (⟨#[]⟩ : ByteArray)) := (blk_cell BK377.out 2).trans rfl; have hfu43_2 := blk_frozen BK377.out 2; have hcu43_3 : wc.cell? ⟨gb377, 3, none⟩ = some (.int .i64 0) := (blk_cell BK377.out 3).trans rfl; have hfu43_3 := blk_frozen BK377.out 3; have hcu43_4 : wc.cell? ⟨gb377, 4, none⟩ = some (.int .i64 (wrap64 (x3_11 + 3))) := (blk_cell BK377.out 4).trans rfl; have hfu43_4 := blk_frozen BK377.out 4)); have hnb44 := NB377_373.out; have hnc44 := NB373_377.out; have hcz45_0 : wc.cell? ⟨gb377, 0, none⟩ = some (.int .u8 x378000_22) := (blk_cell BK377.out 0).trans rfl; have hcz45_1 : wc.cell? ⟨gb377, 1, none⟩ = some (.bool false) := (blk_cell BK377.out 1).trans rfl; have hcz45_2 : wc.cell? ⟨gb377, 2, none⟩ = some (.string (⟨#[]⟩ : ByteArray)) := (blk_cell BK377.out 2).trans rfl; have hcz45_3 : wc.cell? ⟨gb377, 3, none⟩ = some (.int .i64 0) := (blk_cell BK377.out 3).trans rfl; have hcz45_4 : wc.cell? ⟨gb377, 4, none⟩ = some (.int .i64 (wrap64 (x3_11 + 3))) := (blk_cell BK377.out 4).trans rfl; have hfz45_0 := blk_frozen BK377.out 0; have hfz45_1 := blk_frozen BK377.out 1; have hfz45_2 := blk_frozen BK377.out 2; have hfz45_3 := blk_frozen BK377.out 3; have hfz45_4 := blk_frozen BK377.out 4; have hcz46_0 : wc.cell? ⟨gb373, 0, none⟩ = some (.int .u8 0) := (blk_cell BK373.out 0).trans rfl; have hcz46_1 : wc.cell? ⟨gb373, 1, none⟩ = some (.bool false) := (blk_cell BK373.out 1).trans rfl; have hcz46_2 : wc.cell? ⟨gb373, 2, none⟩ = some (.string (⟨#[]⟩ : ByteArray)) := (blk_cell BK373.out 2).trans rfl; have hcz46_3 : wc.cell? ⟨gb373, 3, none⟩ = some (.int .i64 0) := (blk_cell BK373.out 3).trans rfl; have hcz46_4 : wc.cell? ⟨gb373, 4, none⟩ = some (.int .i64 0) := (blk_cell BK373.out 4).trans rfl; have hfz46_0 := blk_frozen BK373.out 0; have hfz46_1 := blk_frozen BK373.out 1; have hfz46_2 := blk_frozen BK373.out 2; have hfz46_3 := blk_frozen BK373.out 3; have hfz46_4 := blk_frozen BK373.out 4))
          refine bodyPost_ret (results_cell_row rfl _ _ gb373 29 #[.int .u8 x378000_22, .bool false, .string (⟨#[]⟩ : ByteArray), .int .i64 0, .int .i64 (wrap64 (x3_11 + 3))] (0, 0) _ rfl (by (with_reducible repeat (first | refine blk_drewN ?_ _ | refine blk_drew ?_ | refine blk_alloc ?_ _)); refine blk_put (cs := #[.int .u8 x378000_22, .bool false, .string (⟨#[]⟩ : ByteArray), .int .i64 0, .int .i64 0]) ?_ 4 _ rfl; (with_reducible repeat (first | refine blk_drewN ?_ _ | refine blk_drew ?_ | refine blk_alloc ?_ _)); refine blk_put (cs := #[.int .u8 x378000_22, .bool false, .string (⟨#[]⟩ : ByteArray), .int .i64 0, .int .i64 0]) ?_ 3 _ rfl; (with_reducible repeat (first | refine blk_drewN ?_ _ | refine blk_drew ?_ | refine blk_alloc ?_ _)); refine blk_put (cs := #[.int .u8 x378000_22, .bool false, .string (⟨#[]⟩ : ByteArray), .int .i64 0, .int .i64 0]) ?_ 2 _ rfl; (with_reducible repeat (first | refine blk_drewN ?_ _ | refine blk_drew ?_ | refine blk_alloc ?_ _)); refine blk_put (cs := #[.int .u8 x378000_22, .bool false, .string (⟨#[]⟩ : ByteArray), .int .i64 0, .int .i64 0]) ?_ 1 _ rfl; (with_reducible repeat (first | refine blk_drewN ?_ _ | refine blk_drew ?_ | refine blk_alloc ?_ _)); refine blk_put (cs := #[.int .u8 0, .bool false, .string (⟨#[]⟩ : ByteArray), .int .i64 0, .int .i64 0]) ?_ 0 _ rfl; (with_reducible repeat (first | refine blk_drewN ?_ _ | refine blk_drew ?_ | refine blk_alloc ?_ _)); exact BK373.out) Tryd.underlying29 rfl (by kernel_rfl)) rfl ?_
          exact ⟨qnp5_, qnp41_⟩
      ·
       replace c22 := Bool.eq_false_iff.mpr c22
       subst c22
       have H1 : ((millref3_Plain.f kj11 a0 x3_11).bind fun bt379 => (if bt379.2.2 < 0 then (some (0, false, (⟨#[]⟩ : ByteArray), 0, 0)) else ((millref3_exponent.f kj11 a0 bt379.2.2).bind fun bt382 => ((millref3_Norm.f kj11 x4_11 bt379.1 (wrap64 (bt379.2.1 + bt382.1)) 0).bind fun bt384 => (some (3, bt384.1, bt384.2.1, bt384.2.2.1, bt382.2)))))) = some (r1, r2, r3, r4, r5) := by rw [if_neg (show ¬ (false = true) by decide)] at H; exact H
       clear H
       have H := H1
       clear H1
       replace H := Option.bind_eq_some_iff.mp H
       obtain ⟨⟨t379, t380, t381⟩, A470, H⟩ := H
       replace H : (if t381 < 0 then (some (0, false, (⟨#[]⟩ : ByteArray), 0, 0)) else ((millref3_exponent.f kj11 a0 t381).bind fun bt382 => ((millref3_Norm.f kj11 x4_11 t379 (wrap64 (t380 + bt382.1)) 0).bind fun bt384 => (some (3, bt384.1, bt384.2.1, bt384.2.2.1, bt382.2))))) = some (r1, r2, r3, r4, r5) := H
       have A47 := Aside0.mk A470
       clear A470
       by_cases c48 : t381 < 0
       ·
        rw [if_pos c48] at H
        have c48b0 : decide (t381 < 0) = true := decide_eq_true c48
        clear c48
        simp only [Option.some.injEq, Prod.mk.injEq] at H
        obtain ⟨rfl, rfl, rfl, rfl, rfl⟩ := H
        have tk53 : True := trivial; have tk54 : True := trivial; have tk55 : True := trivial
        go_wp2_with (first | (have ztk53 := tk53; clear tk53 ztk53; (with_reducible refine gate_callee (f := 45) rfl ?_); refine goesL_ (some 39) rfl rfl Tryd.func45 (by kernel_rfl) rfl #[.string a0, .int .i64 x3_11, .string (⟨#[110, 97, 110]⟩ : ByteArray)] rfl qnp0_ ?_; (with_reducible refine (millref3_at.calls kj11 a0 x3_11 (⟨#[110, 97, 110]⟩ : ByteArray) false _ A17.out).mono ?_); rintro e w' ⟨rfl, ⟨nd, rfl⟩⟩; refine ⟨_, rfl, ?_⟩; (try (rw [drewN_self wc]; generalize hq_ : World.drewN wc _ = wc; have n0_ : Aside0 (wc.heap[gb373]? = some (.cells #[.int .u8 0, .bool false, .string (⟨#[]⟩ : ByteArray), .int .i64 0, .int .i64 0] 29 (0, 0))) := ⟨by rw [← hq_]; exact qnp17_⟩; have n1_ : Aside0 (Below w.heap.size w wc) := ⟨by rw [← hq_]; exact qnp14_⟩; clear BK373 HB hq_; have BK373 := n0_; have HB := n1_; clear n0_ n1_)); (try (have hcu49_0 : wc.cell? ⟨gb373, 0, none⟩ = some (.int .u8 0) := (blk_cell BK373.out 0).trans rfl; have hfu49_0 := blk_frozen BK373.out 0; have hcu49_1 : wc.cell? ⟨gb373, 1, none⟩ = some (.bool false) := (blk_cell BK373.out 1).trans rfl; have hfu49_1 := blk_frozen BK373.out 1; have hcu49_2 : wc.cell? ⟨gb373, 2, none⟩ = some (.string (⟨#[]⟩ : ByteArray)) := (blk_cell BK373.out 2).trans rfl; have hfu49_2 := blk_frozen BK373.out 2; have hcu49_3 : wc.cell? ⟨gb373, 3, none⟩ = some (.int .i64 0) := (blk_cell BK373.out 3).trans rfl; have hfu49_3 := blk_frozen BK373.out 3; have hcu49_4 : wc.cell? ⟨gb373, 4, none⟩ = some (.int .i64 0) := (blk_cell BK373.out 4).trans rfl; have hfu49_4 := blk_frozen BK373.out 4))) | (have ztk54 := tk54; clear tk54 ztk54; (with_reducible refine gate_callee (f := 45) rfl ?_); refine goesL_ (some 46) rfl rfl Tryd.func45 (by kernel_rfl) rfl #[.string a0, .int .i64 x3_11, .string (⟨#[105, 110, 102]⟩ : ByteArray)] rfl qnp0_ ?_; (with_reducible refine (millref3_at.calls kj11 a0 x3_11 (⟨#[105, 110, 102]⟩ : ByteArray) false _ A21.out).mono ?_); rintro e w' ⟨rfl, ⟨nd, rfl⟩⟩; refine ⟨_, rfl, ?_⟩; (try (rw [drewN_self wc]; generalize hq_ : World.drewN wc _ = wc; have n0_ : Aside0 (wc.heap[gb373]? = some (.cells #[.int .u8 0, .bool false, .string (⟨#[]⟩ : ByteArray), .int .i64 0, .int .i64 0] 29 (0, 0))) := ⟨by rw [← hq_]; exact qnp17_⟩; have n1_ : Aside0 (Below w.heap.size w wc) := ⟨by rw [← hq_]; exact qnp14_⟩; clear BK373 HB hq_; have BK373 := n0_; have HB := n1_; clear n0_ n1_)); (try (have hcu50_0 : wc.cell? ⟨gb373, 0, none⟩ = some (.int .u8 0) := (blk_cell BK373.out 0).trans rfl; have hfu50_0 := blk_frozen BK373.out 0; have hcu50_1 : wc.cell? ⟨gb373, 1, none⟩ = some (.bool false) := (blk_cell BK373.out 1).trans rfl; have hfu50_1 := blk_frozen BK373.out 1; have hcu50_2 : wc.cell? ⟨gb373, 2, none⟩ = some (.string (⟨#[]⟩ : ByteArray)) := (blk_cell BK373.out 2).trans rfl; have hfu50_2 := blk_frozen BK373.out 2; have hcu50_3 : wc.cell? ⟨gb373, 3, none⟩ = some (.int .i64 0) := (blk_cell BK373.out 3).trans rfl; have hfu50_3 := blk_frozen BK373.out 3; have hcu50_4 : wc.cell? ⟨gb373, 4, none⟩ = some (.int .i64 0) := (blk_cell BK373.out 4).trans rfl; have hfu50_4 := blk_frozen BK373.out 4))) | (have ztk55 := tk55; clear tk55 ztk55; (with_reducible refine gate_callee (f := 46) rfl ?_); refine goesL_ (some 62) rfl rfl Tryd.func46 (by kernel_rfl) rfl #[.string a0, .int .i64 x3_11] rfl qnp0_ ?_; (with_reducible refine (millref3_Plain.calls kj11 a0 x3_11 t379 t380 t381 _ A47.out).mono ?_); rintro e w' ⟨rfl, ⟨nd, rfl⟩⟩; refine ⟨_, rfl, ?_⟩; (try (rw [drewN_self wc]; generalize hq_ : World.drewN wc _ = wc; have n0_ : Aside0 (wc.heap[gb373]? = some (.cells #[.int .u8 0, .bool false, .string (⟨#[]⟩ : ByteArray), .int .i64 0, .int .i64 0] 29 (0, 0))) := ⟨by rw [← hq_]; exact qnp17_⟩; have n1_ : Aside0 (Below w.heap.size w wc) := ⟨by rw [← hq_]; exact qnp14_⟩; clear BK373 HB hq_; have BK373 := n0_; have HB := n1_; clear n0_ n1_)); (try (have hcu51_0 : wc.cell? ⟨gb373, 0, none⟩ = some (.int .u8 0) := (blk_cell BK373.out 0).trans rfl; have hfu51_0 := blk_frozen BK373.out 0; have hcu51_1 : wc.cell? ⟨gb373, 1, none⟩ = some (.bool false) := (blk_cell BK373.out 1).trans rfl; have hfu51_1 := blk_frozen BK373.out 1; have hcu51_2 : wc.cell? ⟨gb373, 2, none⟩ = some (.string (⟨#[]⟩ : ByteArray)) := (blk_cell BK373.out 2).trans rfl; have hfu51_2 := blk_frozen BK373.out 2; have hcu51_3 : wc.cell? ⟨gb373, 3, none⟩ = some (.int .i64 0) := (blk_cell BK373.out 3).trans rfl; have hfu51_3 := blk_frozen BK373.out 3; have hcu51_4 : wc.cell? ⟨gb373, 4, none⟩ = some (.int .i64 0) := (blk_cell BK373.out 4).trans rfl; have hfu51_4 := blk_frozen BK373.out 4)); have hcz52_0 : wc.cell? ⟨gb373, 0, none⟩ = some (.int .u8 0) := (blk_cell BK373.out 0).trans rfl; have hcz52_1 : wc.cell? ⟨gb373, 1, none⟩ = some (.bool false) := (blk_cell BK373.out 1).trans rfl; have hcz52_2 : wc.cell? ⟨gb373, 2, none⟩ = some (.string (⟨#[]⟩ : ByteArray)) := (blk_cell BK373.out 2).trans rfl; have hcz52_3 : wc.cell? ⟨gb373, 3, none⟩ = some (.int .i64 0) := (blk_cell BK373.out 3).trans rfl; have hcz52_4 : wc.cell? ⟨gb373, 4, none⟩ = some (.int .i64 0) := (blk_cell BK373.out 4).trans rfl; have hfz52_0 := blk_frozen BK373.out 0; have hfz52_1 := blk_frozen BK373.out 1; have hfz52_2 := blk_frozen BK373.out 2; have hfz52_3 := blk_frozen BK373.out 3; have hfz52_4 := blk_frozen BK373.out 4))
        refine bodyPost_ret (results_cell_row rfl _ _ gb373 29 #[.int .u8 0, .bool false, .string (⟨#[]⟩ : ByteArray), .int .i64 0, .int .i64 0] (0, 0) _ rfl (by (with_reducible repeat (first | refine blk_drewN ?_ _ | refine blk_drew ?_ | refine blk_alloc ?_ _)); refine blk_put (cs := #[.int .u8 0, .bool false, .string (⟨#[]⟩ : ByteArray), .int .i64 0, .int .i64 0]) ?_ 4 _ rfl; (with_reducible repeat (first | refine blk_drewN ?_ _ | refine blk_drew ?_ | refine blk_alloc ?_ _)); refine blk_put (cs := #[.int .u8 0, .bool false, .string (⟨#[]⟩ : ByteArray), .int .i64 0, .int .i64 0]) ?_ 3 _ rfl; (with_reducible repeat (first | refine blk_drewN ?_ _ | refine blk_drew ?_ | refine blk_alloc ?_ _)); refine blk_put (cs := #[.int .u8 0, .bool false, .string (⟨#[]⟩ : ByteArray), .int .i64 0, .int .i64 0]) ?_ 2 _ rfl; (with_reducible repeat (first | refine blk_drewN ?_ _ | refine blk_drew ?_ | refine blk_alloc ?_ _)); refine blk_put (cs := #[.int .u8 0, .bool false, .string (⟨#[]⟩ : ByteArray), .int .i64 0, .int .i64 0]) ?_ 1 _ rfl; (with_reducible repeat (first | refine blk_drewN ?_ _ | refine blk_drew ?_ | refine blk_alloc ?_ _)); refine blk_put (cs := #[.int .u8 0, .bool false, .string (⟨#[]⟩ : ByteArray), .int .i64 0, .int .i64 0]) ?_ 0 _ rfl; (with_reducible repeat (first | refine blk_drewN ?_ _ | refine blk_drew ?_ | refine blk_alloc ?_ _)); exact BK373.out) Tryd.underlying29 rfl (by kernel_rfl)) rfl ?_
        exact ⟨qnp5_, qnp14_⟩
       ·
        rw [if_neg c48] at H
        have c48b0 : decide (t381 < 0) = false := decide_eq_false c48
        clear c48
        replace H := Option.bind_eq_some_iff.mp H
        obtain ⟨⟨t382, t383⟩, A560, H⟩ := H
        replace H : ((millref3_Norm.f kj11 x4_11 t379 (wrap64 (t380 + t382)) 0).bind fun bt384 => (some (3, bt384.1, bt384.2.1, bt384.2.2.1, t383))) = some (r1, r2, r3, r4, r5) := H
        have A56 := Aside0.mk A560
        clear A560
        replace H := Option.bind_eq_some_iff.mp H
        obtain ⟨⟨t384, t385, t386, t387⟩, A570, H⟩ := H
        replace H : (some (3, t384, t385, t386, t383)) = some (r1, r2, r3, r4, r5) := H
        have A57 := Aside0.mk A570
        clear A570
        simp only [Option.some.injEq, Prod.mk.injEq] at H
        obtain ⟨rfl, rfl, rfl, rfl, rfl⟩ := H
        have tk67 : True := trivial; have tk68 : True := trivial; have tk69 : True := trivial; have tk70 : True := trivial; have tk71 : True := trivial; have tk72 : True := trivial
        go_wp2_with (first | (have ztk67 := tk67; clear tk67 ztk67; (with_reducible refine gate_callee (f := 45) rfl ?_); refine goesL_ (some 39) rfl rfl Tryd.func45 (by kernel_rfl) rfl #[.string a0, .int .i64 x3_11, .string (⟨#[110, 97, 110]⟩ : ByteArray)] rfl qnp0_ ?_; (with_reducible refine (millref3_at.calls kj11 a0 x3_11 (⟨#[110, 97, 110]⟩ : ByteArray) false _ A17.out).mono ?_); rintro e w' ⟨rfl, ⟨nd, rfl⟩⟩; refine ⟨_, rfl, ?_⟩; (try (rw [drewN_self wc]; generalize hq_ : World.drewN wc _ = wc; have n0_ : Aside0 (wc.heap[gb373]? = some (.cells #[.int .u8 0, .bool false, .string (⟨#[]⟩ : ByteArray), .int .i64 0, .int .i64 0] 29 (0, 0))) := ⟨by rw [← hq_]; exact qnp17_⟩; have n1_ : Aside0 (Below w.heap.size w wc) := ⟨by rw [← hq_]; exact qnp14_⟩; clear BK373 HB hq_; have BK373 := n0_; have HB := n1_; clear n0_ n1_)); (try (have hcu58_0 : wc.cell? ⟨gb373, 0, none⟩ = some (.int .u8 0) := (blk_cell BK373.out 0).trans rfl; have hfu58_0 := blk_frozen BK373.out 0; have hcu58_1 : wc.cell? ⟨gb373, 1, none⟩ = some (.bool false) := (blk_cell BK373.out 1).trans rfl; have hfu58_1 := blk_frozen BK373.out 1; have hcu58_2 : wc.cell? ⟨gb373, 2, none⟩ = some (.string (⟨#[]⟩ : ByteArray)) := (blk_cell BK373.out 2).trans rfl; have hfu58_2 := blk_frozen BK373.out 2; have hcu58_3 : wc.cell? ⟨gb373, 3, none⟩ = some (.int .i64 0) := (blk_cell BK373.out 3).trans rfl; have hfu58_3 := blk_frozen BK373.out 3; have hcu58_4 : wc.cell? ⟨gb373, 4, none⟩ = some (.int .i64 0) := (blk_cell BK373.out 4).trans rfl; have hfu58_4 := blk_frozen BK373.out 4))) | (have ztk68 := tk68; clear tk68 ztk68; (with_reducible refine gate_callee (f := 45) rfl ?_); refine goesL_ (some 46) rfl rfl Tryd.func45 (by kernel_rfl) rfl #[.string a0, .int .i64 x3_11, .string (⟨#[105, 110, 102]⟩ : ByteArray)] rfl qnp0_ ?_; (with_reducible refine (millref3_at.calls kj11 a0 x3_11 (⟨#[105, 110, 102]⟩ : ByteArray) false _ A21.out).mono ?_); rintro e w' ⟨rfl, ⟨nd, rfl⟩⟩; refine ⟨_, rfl, ?_⟩; (try (rw [drewN_self wc]; generalize hq_ : World.drewN wc _ = wc; have n0_ : Aside0 (wc.heap[gb373]? = some (.cells #[.int .u8 0, .bool false, .string (⟨#[]⟩ : ByteArray), .int .i64 0, .int .i64 0] 29 (0, 0))) := ⟨by rw [← hq_]; exact qnp17_⟩; have n1_ : Aside0 (Below w.heap.size w wc) := ⟨by rw [← hq_]; exact qnp14_⟩; clear BK373 HB hq_; have BK373 := n0_; have HB := n1_; clear n0_ n1_)); (try (have hcu59_0 : wc.cell? ⟨gb373, 0, none⟩ = some (.int .u8 0) := (blk_cell BK373.out 0).trans rfl; have hfu59_0 := blk_frozen BK373.out 0; have hcu59_1 : wc.cell? ⟨gb373, 1, none⟩ = some (.bool false) := (blk_cell BK373.out 1).trans rfl; have hfu59_1 := blk_frozen BK373.out 1; have hcu59_2 : wc.cell? ⟨gb373, 2, none⟩ = some (.string (⟨#[]⟩ : ByteArray)) := (blk_cell BK373.out 2).trans rfl; have hfu59_2 := blk_frozen BK373.out 2; have hcu59_3 : wc.cell? ⟨gb373, 3, none⟩ = some (.int .i64 0) := (blk_cell BK373.out 3).trans rfl; have hfu59_3 := blk_frozen BK373.out 3; have hcu59_4 : wc.cell? ⟨gb373, 4, none⟩ = some (.int .i64 0) := (blk_cell BK373.out 4).trans rfl; have hfu59_4 := blk_frozen BK373.out 4))) | (have ztk69 := tk69; clear tk69 ztk69; (with_reducible refine gate_callee (f := 46) rfl ?_); refine goesL_ (some 62) rfl rfl Tryd.func46 (by kernel_rfl) rfl #[.string a0, .int .i64 x3_11] rfl qnp0_ ?_; (with_reducible refine (millref3_Plain.calls kj11 a0 x3_11 t379 t380 t381 _ A47.out).mono ?_); rintro e w' ⟨rfl, ⟨nd, rfl⟩⟩; refine ⟨_, rfl, ?_⟩; (try (rw [drewN_self wc]; generalize hq_ : World.drewN wc _ = wc; have n0_ : Aside0 (wc.heap[gb373]? = some (.cells #[.int .u8 0, .bool false, .string (⟨#[]⟩ : ByteArray), .int .i64 0, .int .i64 0] 29 (0, 0))) := ⟨by rw [← hq_]; exact qnp17_⟩; have n1_ : Aside0 (Below w.heap.size w wc) := ⟨by rw [← hq_]; exact qnp14_⟩; clear BK373 HB hq_; have BK373 := n0_; have HB := n1_; clear n0_ n1_)); (try (have hcu60_0 : wc.cell? ⟨gb373, 0, none⟩ = some (.int .u8 0) := (blk_cell BK373.out 0).trans rfl; have hfu60_0 := blk_frozen BK373.out 0; have hcu60_1 : wc.cell? ⟨gb373, 1, none⟩ = some (.bool false) := (blk_cell BK373.out 1).trans rfl; have hfu60_1 := blk_frozen BK373.out 1; have hcu60_2 : wc.cell? ⟨gb373, 2, none⟩ = some (.string (⟨#[]⟩ : ByteArray)) := (blk_cell BK373.out 2).trans rfl; have hfu60_2 := blk_frozen BK373.out 2; have hcu60_3 : wc.cell? ⟨gb373, 3, none⟩ = some (.int .i64 0) := (blk_cell BK373.out 3).trans rfl; have hfu60_3 := blk_frozen BK373.out 3; have hcu60_4 : wc.cell? ⟨gb373, 4, none⟩ = some (.int .i64 0) := (blk_cell BK373.out 4).trans rfl; have hfu60_4 := blk_frozen BK373.out 4))) | (have ztk70 := tk70; clear tk70 ztk70; (with_reducible refine gate_callee (f := 47) rfl ?_); refine goesL_ (some 72) rfl rfl Tryd.func47 (by kernel_rfl) rfl #[.string a0, .int .i64 t381] rfl qnp0_ ?_; (with_reducible refine (millref3_exponent.calls kj11 a0 t381 t382 t383 _ A56.out).mono ?_); rintro e w' ⟨rfl, ⟨nd, rfl⟩⟩; refine ⟨_, rfl, ?_⟩; (try (rw [drewN_self wc]; generalize hq_ : World.drewN wc _ = wc; have n0_ : Aside0 (wc.heap[gb373]? = some (.cells #[.int .u8 0, .bool false, .string (⟨#[]⟩ : ByteArray), .int .i64 0, .int .i64 0] 29 (0, 0))) := ⟨by rw [← hq_]; exact qnp17_⟩; have n1_ : Aside0 (Below w.heap.size w wc) := ⟨by rw [← hq_]; exact qnp14_⟩; clear BK373 HB hq_; have BK373 := n0_; have HB := n1_; clear n0_ n1_)); (try (have hcu61_0 : wc.cell? ⟨gb373, 0, none⟩ = some (.int .u8 0) := (blk_cell BK373.out 0).trans rfl; have hfu61_0 := blk_frozen BK373.out 0; have hcu61_1 : wc.cell? ⟨gb373, 1, none⟩ = some (.bool false) := (blk_cell BK373.out 1).trans rfl; have hfu61_1 := blk_frozen BK373.out 1; have hcu61_2 : wc.cell? ⟨gb373, 2, none⟩ = some (.string (⟨#[]⟩ : ByteArray)) := (blk_cell BK373.out 2).trans rfl; have hfu61_2 := blk_frozen BK373.out 2; have hcu61_3 : wc.cell? ⟨gb373, 3, none⟩ = some (.int .i64 0) := (blk_cell BK373.out 3).trans rfl; have hfu61_3 := blk_frozen BK373.out 3; have hcu61_4 : wc.cell? ⟨gb373, 4, none⟩ = some (.int .i64 0) := (blk_cell BK373.out 4).trans rfl; have hfu61_4 := blk_frozen BK373.out 4))) | (have ztk71 := tk71; clear tk71 ztk71; (with_reducible refine gate_callee (f := 48) rfl ?_); refine goesL_ (some 81) rfl rfl Tryd.func48 (by kernel_rfl) rfl #[.agg #[.bool x4_11, .string t379, .int .i64 (wrap64 (t380 + t382)), .int .i64 0]] rfl qnp0_ ?_; (with_reducible refine (millref3_Norm.calls kj11 x4_11 t379 (wrap64 (t380 + t382)) 0 t384 t385 t386 t387 _ A57.out).mono ?_); rintro e w62 ⟨rfl, hb⟩; refine ⟨_, rfl, ?_⟩; have n0_ := Aside0.mk (blk_below (g := gb373) (o := .cells #[.int .u8 0, .bool false, .string (⟨#[]⟩ : ByteArray), .int .i64 0, .int .i64 0] 29 (0, 0)) qnp17_ hb); have n1_ := Aside0.mk (below_step qnp14_ hb); clear BK373; clear HB; have BK373 := n0_; have HB := n1_; clear n0_ n1_; (try clear hb); (try clear hb2); (try clear hk); (try clear hi)) | (have ztk72 := tk72; clear tk72 ztk72; (with_reducible refine gate_dst (N := 11) rfl ?_); refine box_event ?hg (N := 11) ?hd (cs := #[.bool false, .string (⟨#[]⟩ : ByteArray), .int .i64 0, .int .i64 0]) (t := 67) ?hr ?_; (case hd => rfl); (case hg => rfl); (case hr => first | (go_simp; done) | (go_simp; rfl)); intro gb388 hg w63 hbox hb; have n0_ := Aside0.mk (blk_below (g := gb373) (o := .cells #[.int .u8 0, .bool false, .string (⟨#[]⟩ : ByteArray), .int .i64 0, .int .i64 0] 29 (0, 0)) qnp17_ hb); have n1_ := Aside0.mk (below_step qnp14_ hb); have n2_ := Aside0.mk (hbox); have n3_ := Aside0.mk ((by rw [hg]; exact (below_size qnp14_) : w.heap.size ≤ gb388)); have n4_ := Aside0.mk ((by rw [hg]; exact (below_size qnp14_) : w.heap.size ≤ gb388)); have n5_ := Aside0.mk ((by rw [hg]; exact Nat.ne_of_lt (blk_lt (g := gb373) (o := .cells #[.int .u8 0, .bool false, .string (⟨#[]⟩ : ByteArray), .int .i64 0, .int .i64 0] 29 (0, 0)) qnp17_) : gb373 ≠ gb388)); have n6_ := Aside0.mk ((by rw [hg]; exact Nat.ne_of_gt (blk_lt (g := gb373) (o := .cells #[.int .u8 0, .bool false, .string (⟨#[]⟩ : ByteArray), .int .i64 0, .int .i64 0] 29 (0, 0)) qnp17_) : gb388 ≠ gb373)); clear BK373; clear HB; have BK373 := n0_; have HB := n1_; have BK388 := n2_; have GW388 := n3_; have GE388 := n4_; have NB373_388 := n5_; have NB388_373 := n6_; clear n0_ n1_ n2_ n3_ n4_ n5_ n6_; clear hb hbox hg; have hnb64 := NB388_373.out; have hnc64 := NB373_388.out; have hcz65_0 : w63.cell? ⟨gb388, 0, none⟩ = some (.bool false) := (blk_cell BK388.out 0).trans rfl; have hcz65_1 : w63.cell? ⟨gb388, 1, none⟩ = some (.string (⟨#[]⟩ : ByteArray)) := (blk_cell BK388.out 1).trans rfl; have hcz65_2 : w63.cell? ⟨gb388, 2, none⟩ = some (.int .i64 0) := (blk_cell BK388.out 2).trans rfl; have hcz65_3 : w63.cell? ⟨gb388, 3, none⟩ = some (.int .i64 0) := (blk_cell BK388.out 3).trans rfl; have hfz65_0 := blk_frozen BK388.out 0; have hfz65_1 := blk_frozen BK388.out 1; have hfz65_2 := blk_frozen BK388.out 2; have hfz65_3 := blk_frozen BK388.out 3; have hcz66_0 : w63.cell? ⟨gb373, 0, none⟩ = some (.int .u8 0) := (blk_cell BK373.out 0).trans rfl; have hcz66_1 : w63.cell? ⟨gb373, 1, none⟩ = some (.bool false) := (blk_cell BK373.out 1).trans rfl; have hcz66_2 : w63.cell? ⟨gb373, 2, none⟩ = some (.string (⟨#[]⟩ : ByteArray)) := (blk_cell BK373.out 2).trans rfl; have hcz66_3 : w63.cell? ⟨gb373, 3, none⟩ = some (.int .i64 0) := (blk_cell BK373.out 3).trans rfl; have hcz66_4 : w63.cell? ⟨gb373, 4, none⟩ = some (.int .i64 0) := (blk_cell BK373.out 4).trans rfl; have hfz66_0 := blk_frozen BK373.out 0; have hfz66_1 := blk_frozen BK373.out 1; have hfz66_2 := blk_frozen BK373.out 2; have hfz66_3 := blk_frozen BK373.out 3; have hfz66_4 := blk_frozen BK373.out 4))
        refine bodyPost_ret (results_cell_row rfl _ _ gb373 29 #[.int .u8 3, .bool t384, .string t385, .int .i64 t386, .int .i64 t383] (0, 0) _ rfl (by (with_reducible repeat (first | refine blk_drewN ?_ _ | refine blk_drew ?_ | refine blk_alloc ?_ _)); refine blk_put (cs := #[.int .u8 3, .bool t384, .string t385, .int .i64 t386, .int .i64 0]) ?_ 4 _ rfl; (with_reducible repeat (first | refine blk_drewN ?_ _ | refine blk_drew ?_ | refine blk_alloc ?_ _)); refine blk_put (cs := #[.int .u8 3, .bool t384, .string t385, .int .i64 0, .int .i64 0]) ?_ 3 _ rfl; (with_reducible repeat (first | refine blk_drewN ?_ _ | refine blk_drew ?_ | refine blk_alloc ?_ _)); refine blk_put (cs := #[.int .u8 3, .bool t384, .string (⟨#[]⟩ : ByteArray), .int .i64 0, .int .i64 0]) ?_ 2 _ rfl; (with_reducible repeat (first | refine blk_drewN ?_ _ | refine blk_drew ?_ | refine blk_alloc ?_ _)); refine blk_put (cs := #[.int .u8 3, .bool false, .string (⟨#[]⟩ : ByteArray), .int .i64 0, .int .i64 0]) ?_ 1 _ rfl; (with_reducible repeat (first | refine blk_drewN ?_ _ | refine blk_drew ?_ | refine blk_alloc ?_ _)); refine blk_put (cs := #[.int .u8 0, .bool false, .string (⟨#[]⟩ : ByteArray), .int .i64 0, .int .i64 0]) ?_ 0 _ rfl; (with_reducible repeat (first | refine blk_drewN ?_ _ | refine blk_drew ?_ | refine blk_alloc ?_ _)); refine blk_far ?_ NB373_388.out _; (with_reducible repeat (first | refine blk_drewN ?_ _ | refine blk_drew ?_ | refine blk_alloc ?_ _)); refine blk_far ?_ NB373_388.out _; (with_reducible repeat (first | refine blk_drewN ?_ _ | refine blk_drew ?_ | refine blk_alloc ?_ _)); refine blk_far ?_ NB373_388.out _; (with_reducible repeat (first | refine blk_drewN ?_ _ | refine blk_drew ?_ | refine blk_alloc ?_ _)); refine blk_far ?_ NB373_388.out _; (with_reducible repeat (first | refine blk_drewN ?_ _ | refine blk_drew ?_ | refine blk_alloc ?_ _)); exact BK373.out) Tryd.underlying29 rfl (by kernel_rfl)) rfl ?_
        exact ⟨qnp5_, by repeat (first | (with_reducible first | exact HB.out | apply below_alloc | apply pw_below_drewN | apply below_drew1 | refine below_set ?_ GE373.out | refine below_set ?_ GE388.out) | exact HB.out)⟩

end Go.Proofs.YtcdajedmlfhmeaaDoor.XN

section
/- General: what numeral and millref3 compute. (by this session) -/
-- NEEDS numeral_exponent millref3_exponent numeral_General millref3_General millref3_Norm
set_option linter.unusedVariables false
set_option linter.unusedSimpArgs false
namespace Go.Proofs.YtcdajedmlfhmeaaDoor.XN
open Go.RowKit Go.Proofs.YtcdajedmlfhmeaaDoorW.PrintWords Go.Proofs.YtcdajedmlfhmeaaDoorW.PrintMore

/-! ### an exponent -/
def most : Nat := 1099511627776
theorem most_eq : most = 1099511627776 := rfl
/-- Digits read on from n. -/
def dvf (n : Nat) (l : List UInt8) : Nat := l.foldl (fun n c => 10 * n + (c.toNat - 48)) n
def dval (l : List UInt8) : Nat := dvf 0 l
theorem dvf_cons (n : Nat) (c : UInt8) (l : List UInt8) : dvf n (c :: l) = dvf (10 * n + (c.toNat - 48)) l := by unfold dvf; rw [List.foldl_cons]
theorem isDg_iff (c : UInt8) : isDg c = true ↔ 48 ≤ (c.toNat : Int) ∧ (c.toNat : Int) ≤ 57 := by unfold isDg plainDig; simp
theorem run_dg (l : List UInt8) : ∀ c ∈ l.takeWhile isDg, isDg c = true := by
  induction l with
  | nil => intro c h; cases h
  | cons d l ih =>
    intro c h
    rw [List.takeWhile_cons] at h
    split at h
    · rename_i hd
      rcases List.mem_cons.1 h with rfl | h
      · exact hd
      · exact ih c h
    · cases h
/-- The program's reckoning: no more than most. -/
def satF (n : Nat) : List UInt8 → Nat
  | [] => n
  | c :: r => if isDg c = true then satF (min (n * 10 + (c.toNat - 48)) most) r else n
theorem satF_run : ∀ (l : List UInt8) (a : Nat), satF (min a most) l = min (dvf a (l.takeWhile isDg)) most
  | [], a => rfl
  | c :: r, a => by
    rw [List.takeWhile_cons]
    unfold satF
    by_cases hc : isDg c = true
    · rw [if_pos hc, if_pos hc, dvf_cons, ← satF_run r]
      congr 1
      rw [most_eq]
      omega
    · rw [if_neg hc, if_neg hc]; rfl
theorem satF_0 (l : List UInt8) : satF 0 l = min (dval (l.takeWhile isDg)) most := by
  have := satF_run l 0
  rw [show min 0 most = 0 by rw [most_eq]; rfl] at this
  exact this
theorem expo_l0 (s : ByteArray) (hs : s.size < big) (sg : Int) (hsg : sg = 1 ∨ sg = -1) : ∀ (l : List UInt8) (i en n : Nat), (L s).drop i = l → i ≤ s.size → n ≤ most →
    Ev (fun k => numeral_exponent.l0 k s (i : Int) (en : Int) sg (n : Int)) (sg * (satF n l : Int), ((if l.takeWhile isDg = [] then en else i + (l.takeWhile isDg).length : Nat) : Int))
  | [], i, en, n, hl, hi, hn => by
    have := drop_nil hl
    rw [most_eq] at hn
    refine Ev.succ ?_
    simp only [numeral_exponent.l0]
    refine Ev.neg (by omega) (Ev.done ?_)
    rw [w64 (x := sg * (n : Int)) (by rcases hsg with rfl | rfl <;> omega)]
    rfl
  | c :: r, i, en, n, hl, hi, hn => by
    obtain ⟨h1, h2, h3⟩ := drop_cons hl
    refine Ev.succ ?_
    simp only [numeral_exponent.l0, h2, digit_f, Option.bind_some]
    refine Ev.pos (by omega) (Ev.pos (by omega) ?_)
    rw [List.takeWhile_cons]
    unfold satF
    have hb := hs
    rw [big_eq] at hb
    by_cases hc : isDg c = true
    · refine Ev.pos hc ?_
      rw [if_pos hc, if_pos hc]
      have hcc := (isDg_iff c).1 hc
      have hm := hn
      rw [most_eq] at hm
      have e1 : mn (wrap64 (wrap64 ((n : Int) * 10) + ((c.toNat : Int) - 48) % 256)) 1099511627776 = ((min (n * 10 + (c.toNat - 48)) most : Nat) : Int) := by
        rw [w64 (x := (n : Int) * 10) (by omega), w64 (by omega), most_eq]
        unfold mn
        omega
      simp only [w64_succ (i := i) (by omega), e1]
      refine Ev.val (expo_l0 s hs sg hsg r (i + 1) (i + 1) _ h3 (by omega) (Nat.min_le_right _ _)) ?_
      congr 2
      simp only [List.length_cons, reduceCtorEq, if_false]
      split
      · rename_i h; rw [h]; rfl
      · omega
    · refine Ev.neg hc (Ev.done ?_)
      rw [most_eq] at hn
      rw [if_neg hc, if_neg hc, w64 (x := sg * (n : Int)) (by rcases hsg with rfl | rfl <;> omega)]
      rfl
/-- A sign at the head: is it -, how many bytes. -/
def sgE : List UInt8 → Bool × Nat
  | [] => (false, 0)
  | c :: _ => if (c.toNat : Int) = 45 then (true, 1) else if (c.toNat : Int) = 43 then (false, 1) else (false, 0)
theorem sgE_cons (c : UInt8) (r : List UInt8) : sgE (c :: r) = if (c.toNat : Int) = 45 then (true, 1) else if (c.toNat : Int) = 43 then (false, 1) else (false, 0) := rfl
def isE (c : UInt8) : Bool := decide (c = 101) || decide (c = 69)
/-- An exponent at the head: its value, how many bytes. -/
def expS : List UInt8 → Int × Nat
  | [] => (0, 0)
  | c :: r =>
    if isE c = true then
      let d := (r.drop (sgE r).2).takeWhile isDg
      if d = [] then (0, 0) else ((if (sgE r).1 = true then -1 else 1) * (min (dval d) most : Nat), 1 + (sgE r).2 + d.length)
    else (0, 0)
theorem expS_range (l : List UInt8) : -1099511627776 ≤ (expS l).1 ∧ (expS l).1 ≤ 1099511627776 := by
  unfold expS
  split
  · simp
  · split
    · simp only []
      split
      · simp
      · simp only [most_eq]
        split <;> omega
    · simp
theorem orE (c : UInt8) : (Go.bits .or .u8 (c.toNat : Int) 32 = 101) ↔ isE c = true := by
  have : ∀ c : UInt8, (Go.bits .or .u8 (c.toNat : Int) 32 = 101) ↔ isE c = true := all8 (by decide +kernel)
  exact this c
theorem expo_tail (s : ByteArray) (hs : s.size < big) (sg : Int) (hsg : sg = 1 ∨ sg = -1) (i j : Nat) (hj : j ≤ s.size) :
    Ev (fun k => numeral_exponent.l0 k s (j : Int) (i : Int) sg 0)
      (if ((L s).drop j).takeWhile isDg = [] then (0, (i : Int)) else (sg * ((min (dval (((L s).drop j).takeWhile isDg)) most : Nat) : Int), ((j + (((L s).drop j).takeWhile isDg).length : Nat) : Int))) := by
  refine Ev.val (expo_l0 s hs sg hsg _ j i 0 rfl hj (Nat.zero_le _)) ?_
  rw [satF_0]
  split
  · rename_i h
    rw [h, show dval [] = 0 from rfl]
    simp [most_eq]
  · rfl
theorem exponent_ev (s : ByteArray) (hs : s.size < big) (i : Nat) (hi : i ≤ s.size) : Ev (fun k => numeral_exponent.f k s (i : Int)) ((expS ((L s).drop i)).1, ((i + (expS ((L s).drop i)).2 : Nat) : Int)) := by
  unfold numeral_exponent.f
  have hb := hs
  rw [big_eq] at hb
  by_cases he : i = s.size
  · refine Ev.pos (by omega) (Ev.done ?_)
    rw [List.drop_eq_nil_iff.2 (by rw [L_len]; omega)]
    rfl
  obtain ⟨c, hc, hbc⟩ := drop_some (s := s) (i := i) (by omega)
  refine Ev.neg (by omega) (Ev.pos (by omega) (Ev.pos (by omega) ?_))
  rw [hc, hbc]
  unfold expS
  by_cases hE : isE c = true
  · refine Ev.pos ((orE c).2 hE) ?_
    simp only [if_pos hE, w64_succ (i := i) (by omega)]
    by_cases h1 : i + 1 < s.size
    · obtain ⟨d, hd, hbd⟩ := drop_some (s := s) (i := i + 1) h1
      refine Ev.pos (by omega) (Ev.pos (by omega) ?_)
      rw [hbd, hd]
      simp only [sgE_cons]
      by_cases h45 : (d.toNat : Int) = 45
      · refine Ev.pos h45 ?_
        simp only [if_pos h45, w64_succ (i := i + 1) (by omega), List.drop_succ_cons, List.drop_zero]
        refine Ev.val (expo_tail s hs (-1) (Or.inr rfl) i (i + 1 + 1) (by omega)) ?_
        split
        · rfl
        · simp only [if_true]
          congr 2
          omega
      · refine Ev.neg h45 ?_
        simp only [if_neg h45]
        by_cases h43 : (d.toNat : Int) = 43
        · refine Ev.pos h43 ?_
          simp only [if_pos h43, w64_succ (i := i + 1) (by omega), List.drop_succ_cons, List.drop_zero]
          refine Ev.val (expo_tail s hs 1 (Or.inl rfl) i (i + 1 + 1) (by omega)) ?_
          split
          · rfl
          · simp only [Bool.false_eq_true, if_false]
            congr 2
            omega
        · refine Ev.neg h43 ?_
          simp only [if_neg h43, List.drop_zero]
          refine Ev.val (expo_tail s hs 1 (Or.inl rfl) i (i + 1) (by omega)) ?_
          rw [hd]
          split
          · rfl
          · simp only [Bool.false_eq_true, if_false]
            congr 2
            omega
    · refine Ev.neg (by omega) ?_
      have hn : (L s).drop (i + 1) = [] := List.drop_eq_nil_iff.2 (by rw [L_len]; omega)
      refine Ev.val (expo_tail s hs 1 (Or.inl rfl) i (i + 1) (by omega)) ?_
      rw [hn]
      rfl
  · refine Ev.neg (fun h => hE ((orE c).1 h)) (Ev.done ?_)
    simp only [if_neg hE]
    rfl
end Go.Proofs.YtcdajedmlfhmeaaDoor.XN
end

section
/- General: the whole, both sides; Compare at g and at any other kind. (by this session) -/
-- NEEDS numeral_General millref3_General millref3_Norm
set_option linter.unusedVariables false
set_option linter.unusedSimpArgs false
namespace Go.Proofs.YtcdajedmlfhmeaaDoor.XN
open Go.RowKit Go.Proofs.YtcdajedmlfhmeaaDoorW.PrintWords Go.Proofs.YtcdajedmlfhmeaaDoorW.PrintMore

def wInfinity : List UInt8 := [105, 110, 102, 105, 110, 105, 116, 121]
def wInf : List UInt8 := [105, 110, 102]
def wNan : List UInt8 := [110, 97, 110]
abbrev Gn := Int × Bool × List UInt8 × Int × Nat
/-- What General takes, behind blanks and sign: n stands at i. -/
def genB (neg : Bool) (n : List UInt8) (i : Nat) : Gn :=
  if bgN n wInfinity = true then ((if neg = true then 2 else 4), false, [], 0, i + 8)
  else if bgN n wInf = true then ((if neg = true then 2 else 4), false, [], 0, i + 3)
  else if bgN n wNan = true then (1, false, [], 0, i + 3)
  else if noneAt n = true then (0, false, [], 0, 0)
  else
    let d := digS (plS n).1 (plS n).2.1 (expS (n.drop (plS n).2.2)).1
    (3, neg && !d.1.isEmpty, d.1, d.2, i + (plS n).2.2 + (expS (n.drop (plS n).2.2)).2)
def genN (l : List UInt8) : Nat := blkN l + (sgE (l.drop (blkN l))).2
def genS (l : List UInt8) : Gn := genB (sgE (l.drop (blkN l))).1 (l.drop (genN l)) (genN l)
def gnV (g : Gn) : Int × Bool × ByteArray × Int × Int := (g.1, g.2.1, mkB g.2.2.1, g.2.2.2.1, (g.2.2.2.2 : Int))
theorem gen_l0 (s : ByteArray) (hs : s.size < 2305843009213693952) (neg : Bool) (i : Nat) (hi : i ≤ s.size) : Ev (fun k => numeral_General.l0 k s (i : Int) neg 0) (gnV (genB neg ((L s).drop i) i)) := by
  have hb : s.size < big := by rw [big_eq]; omega
  have hstop : ¬ bgN ((L s).drop i) wInfinity = true → ¬ bgN ((L s).drop i) wInf = true → ¬ bgN ((L s).drop i) wNan = true →
      Ev (fun k => numeral_General.l0 k s (i : Int) neg 3) (gnV (genB neg ((L s).drop i) i)) := by
    intro h1 h2 h3
    refine Ev.succ ?_
    simp only [numeral_General.l0]
    refine Ev.neg (by decide) ?_
    have hpl := plS_len ((L s).drop i)
    rw [List.length_drop, L_len] at hpl
    have hp1 := pl1_len ((L s).drop i)
    have hp2 := pl2_len ((L s).drop i)
    have hdl := size_drop s i
    rw [plain_f s hb i hi]
    simp only [Option.bind_some]
    unfold genB
    rw [if_neg h1, if_neg h2, if_neg h3]
    by_cases h0 : noneAt ((L s).drop i) = true
    · rw [if_pos h0, if_pos h0]
      exact Ev.pos rfl (Ev.done rfl)
    · rw [if_neg h0, if_neg h0]
      have hpos := pl_pos h0
      refine Ev.neg (by simp only; omega) ?_
      refine Ev.bind (exponent_ev s hb (i + (plS ((L s).drop i)).2.2) (by omega)) ?_
      rw [← List.drop_drop]
      have hr := expS_range (((L s).drop i).drop (plS ((L s).drop i)).2.2)
      refine Ev.bind (digits_ev _ _ _ (by omega) (by omega) (by omega)) ?_
      simp only [toList_mk]
      refine Ev.ite (fun hn => ?_) (fun hn => ?_)
      · rw [hn]; exact Ev.done (by simp [gnV])
      · rw [Bool.not_eq_true] at hn; rw [hn]; exact Ev.done (by simp [gnV])
  have hb' := hb
  rw [big_eq] at hb'
  refine Ev.succ ?_
  simp only [numeral_General.l0]
  refine Ev.pos (by decide) (Ev.pos trivial (Ev.bind (begins_ev s hb i hi wInfinity (by decide) (by decide)) ?_))
  by_cases h1 : bgN ((L s).drop i) wInfinity = true
  · refine Ev.pos h1 ?_
    have hl : i + 8 ≤ s.size := by
      rcases Nat.lt_or_ge ((L s).drop i).length 8 with h | h
      · rw [bgN_short _ wInfinity h] at h1; cases h1
      · rw [List.length_drop, L_len] at h; omega
    have e8 : wrap64 ((i : Int) + 8) = ((i + 8 : Nat) : Int) := w64_nat (by omega) (by omega)
    unfold genB
    rw [if_pos h1]
    simp only [e8]
    refine Ev.ite (fun hn => ?_) (fun hn => ?_)
    · refine Ev.succ ?_
      simp only [numeral_General.j4]
      exact Ev.neg (by decide +kernel) (Ev.done (by rw [hn]; rfl))
    · refine Ev.succ ?_
      simp only [numeral_General.j4]
      exact Ev.neg (by decide +kernel) (Ev.done (by rw [if_neg hn]; rfl))
  refine Ev.neg h1 (Ev.succ ?_)
  rw [show wrap64 (0 + 1) = 1 by rw [w64 (by omega)]; rfl]
  simp only [numeral_General.l0]
  refine Ev.pos (by decide) (Ev.neg (by decide) (Ev.pos trivial (Ev.bind (begins_ev s hb i hi wInf (by decide) (by decide)) ?_)))
  by_cases h2 : bgN ((L s).drop i) wInf = true
  · refine Ev.pos h2 ?_
    have hl : i + 3 ≤ s.size := by
      rcases Nat.lt_or_ge ((L s).drop i).length 3 with h | h
      · rw [bgN_short _ wInf h] at h2; cases h2
      · rw [List.length_drop, L_len] at h; omega
    have e8 : wrap64 ((i : Int) + 3) = ((i + 3 : Nat) : Int) := w64_nat (by omega) (by omega)
    unfold genB
    rw [if_neg h1, if_pos h2]
    simp only [e8]
    refine Ev.ite (fun hn => ?_) (fun hn => ?_)
    · refine Ev.succ ?_
      simp only [numeral_General.j5]
      exact Ev.neg (by decide +kernel) (Ev.done (by rw [hn]; rfl))
    · refine Ev.succ ?_
      simp only [numeral_General.j5]
      exact Ev.neg (by decide +kernel) (Ev.done (by rw [if_neg hn]; rfl))
  refine Ev.neg h2 (Ev.succ ?_)
  rw [show wrap64 (1 + 1) = 2 by rw [w64 (by omega)]; rfl]
  simp only [numeral_General.l0]
  refine Ev.pos (by decide) (Ev.neg (by decide) (Ev.neg (by decide) (Ev.pos trivial (Ev.bind (begins_ev s hb i hi wNan (by decide) (by decide)) ?_))))
  by_cases h3 : bgN ((L s).drop i) wNan = true
  · refine Ev.pos h3 ?_
    have hl : i + 3 ≤ s.size := by
      rcases Nat.lt_or_ge ((L s).drop i).length 3 with h | h
      · rw [bgN_short _ wNan h] at h3; cases h3
      · rw [List.length_drop, L_len] at h; omega
    have e8 : wrap64 ((i : Int) + 3) = ((i + 3 : Nat) : Int) := w64_nat (by omega) (by omega)
    unfold genB
    rw [if_neg h1, if_neg h2, if_pos h3]
    simp only [e8]
    refine Ev.ite (fun hn => ?_) (fun hn => ?_)
    · refine Ev.succ ?_
      simp only [numeral_General.j6]
      exact Ev.pos (by decide +kernel) (Ev.done (by rfl))
    · refine Ev.succ ?_
      simp only [numeral_General.j6]
      exact Ev.pos (by decide +kernel) (Ev.done (by rfl))
  refine Ev.neg h3 ?_
  rw [show wrap64 (2 + 1) = 3 by rw [w64 (by omega)]; rfl]
  exact hstop h1 h2 h3
theorem General_ev (s : ByteArray) (hs : s.size < 2305843009213693952) : Ev (fun k => numeral_General.f k s) (gnV (genS (L s))) := by
  have hb : s.size < big := by rw [big_eq]; omega
  have hb' := hb
  rw [big_eq] at hb'
  have hbl := blkN_le s
  unfold numeral_General.f genS genN
  refine Ev.bind (blanks_ev s hb) ?_
  generalize blkN (L s) = i at *
  by_cases h : i < s.size
  · obtain ⟨c, hc, hbc⟩ := drop_some (s := s) (i := i) h
    refine Ev.pos (by omega) (Ev.pos (by omega) (Ev.succ ?_))
    rw [hbc, hc]
    simp only [numeral_General.j0]
    unfold sgE
    by_cases h45 : (c.toNat : Int) = 45
    · refine Ev.pos (by simp [h45]) (Ev.succ ?_)
      simp only [numeral_General.j1, if_pos h45]
      refine Ev.pos trivial (Ev.succ ?_)
      simp only [numeral_General.j2, w64_succ (i := i) (by omega)]
      refine Ev.val (gen_l0 s hs _ (i + 1) (by omega)) ?_
      rw [show ((c.toNat : Int) == 45) = true by simp [h45]]
    · refine Ev.neg (by simp [h45]) (Ev.pos (by omega) (Ev.pos (by omega) (Ev.succ ?_)))
      simp only [numeral_General.j1, if_neg h45, hbc]
      by_cases h43 : (c.toNat : Int) = 43
      · refine Ev.pos (by simp [h43]) (Ev.succ ?_)
        simp only [numeral_General.j2, w64_succ (i := i) (by omega), if_pos h43]
        refine Ev.val (gen_l0 s hs _ (i + 1) (by omega)) ?_
        rw [show ((c.toNat : Int) == 45) = false by simp [h45]]
      · refine Ev.neg (by simp [h43]) (Ev.succ ?_)
        simp only [numeral_General.j2, if_neg h43]
        refine Ev.val (gen_l0 s hs _ i (by omega)) ?_
        rw [show ((c.toNat : Int) == 45) = false by simp [h45]]
        rfl
  · have hn : (L s).drop i = [] := List.drop_eq_nil_iff.2 (by rw [L_len]; omega)
    refine Ev.neg (by omega) (Ev.succ ?_)
    simp only [numeral_General.j0]
    refine Ev.neg (by decide) (Ev.neg (by omega) (Ev.succ ?_))
    simp only [numeral_General.j1]
    refine Ev.neg (by decide) (Ev.succ ?_)
    simp only [numeral_General.j2]
    refine Ev.val (gen_l0 s hs _ i (by omega)) ?_
    rw [hn, show sgE [] = (false, 0) from rfl, Nat.add_zero, hn]

end Go.Proofs.YtcdajedmlfhmeaaDoor.XN
end

section
/- Byte strings whose bytewise order is a given order: the plain theory. (by this session) -/
set_option linter.unusedVariables false
set_option linter.unusedSimpArgs false
namespace Go.Proofs.YtcdajedmlfhmeaaDoor.XN
open Go.RowKit Go.Proofs.YtcdajedmlfhmeaaDoorW.PrintWords Go.Proofs.YtcdajedmlfhmeaaDoorW.PrintMore

theorem bcmp_nn : bcmp [] [] = 0 := rfl
theorem bcmp_nc (b : UInt8) (m : List UInt8) : bcmp [] (b :: m) = -1 := rfl
theorem bcmp_cn (a : UInt8) (l : List UInt8) : bcmp (a :: l) [] = 1 := rfl
theorem bcmp_cc (a b : UInt8) (l m : List UInt8) : bcmp (a :: l) (b :: m) = if a < b then -1 else if b < a then 1 else bcmp l m := rfl
theorem u8_tri (a b : UInt8) : a < b ∨ b < a ∨ a = b := by
  rcases Nat.lt_trichotomy a.toNat b.toNat with h | h | h
  · exact Or.inl (UInt8.lt_iff_toNat_lt.2 h)
  · exact Or.inr (Or.inr (UInt8.toNat_inj.1 h))
  · exact Or.inr (Or.inl (UInt8.lt_iff_toNat_lt.2 h))
theorem u8_asym {a b : UInt8} (h : a < b) : ¬ b < a := by rw [UInt8.lt_iff_toNat_lt] at *; omega
theorem u8_irr (a : UInt8) : ¬ a < a := UInt8.lt_irrefl a
theorem u8_ne {a b : UInt8} (h : a < b) : a ≠ b := fun e => u8_irr b (e ▸ h)
theorem bcmp_self : ∀ l, bcmp l l = 0
  | [] => rfl
  | a :: l => by rw [bcmp_cc, if_neg (u8_irr a), if_neg (u8_irr a), bcmp_self l]
theorem bcmp_zero : ∀ {l m}, bcmp l m = 0 → l = m
  | [], [], _ => rfl
  | [], b :: m, h => by rw [bcmp_nc] at h; omega
  | a :: l, [], h => by rw [bcmp_cn] at h; omega
  | a :: l, b :: m, h => by
    rw [bcmp_cc] at h
    rcases u8_tri a b with h1 | h1 | h1
    · rw [if_pos h1] at h; omega
    · rw [if_neg (u8_asym h1), if_pos h1] at h; omega
    · subst h1
      rw [if_neg (u8_irr a), if_neg (u8_irr a)] at h
      rw [bcmp_zero h]
theorem bcmp_flip : ∀ l m, bcmp m l = -bcmp l m
  | [], [] => rfl
  | [], b :: m => rfl
  | a :: l, [] => rfl
  | a :: l, b :: m => by
    rw [bcmp_cc, bcmp_cc, bcmp_flip l m]
    rcases u8_tri a b with h1 | h1 | h1
    · rw [if_pos h1, if_neg (u8_asym h1), if_pos h1]; rfl
    · rw [if_pos h1, if_neg (u8_asym h1), if_pos h1]
    · subst h1
      rw [if_neg (u8_irr a), if_neg (u8_irr a), if_neg (u8_irr a), if_neg (u8_irr a)]
theorem bcmp_trans : ∀ {l m n}, bcmp l m ≤ 0 → bcmp m n ≤ 0 → bcmp l n ≤ 0
  | [], m, [], _, _ => by rw [bcmp_nn]; omega
  | [], m, c :: n, _, _ => by rw [bcmp_nc]; omega
  | a :: l, [], n, h, _ => by rw [bcmp_cn] at h; omega
  | a :: l, b :: m, [], _, h => by rw [bcmp_cn] at h; omega
  | a :: l, b :: m, c :: n, h, h' => by
    rw [bcmp_cc] at h h' ⊢
    by_cases h1 : a < b
    · by_cases h2 : b < c
      · have : a < c := by rw [UInt8.lt_iff_toNat_lt] at *; omega
        rw [if_pos this]; omega
      · rw [if_neg h2] at h'
        by_cases h3 : c < b
        · rw [if_pos h3] at h'; omega
        · have : b = c := by rcases u8_tri b c with h | h | h; exact absurd h h2; exact absurd h h3; exact h
          rw [← this, if_pos h1]; omega
    · rw [if_neg h1] at h
      by_cases h2 : b < a
      · rw [if_pos h2] at h; omega
      · have : a = b := by rcases u8_tri a b with h | h | h; exact absurd h h1; exact absurd h h2; exact h
        subst this
        rw [if_neg h1] at h
        by_cases h3 : a < c
        · rw [if_pos h3]; omega
        · rw [if_neg h3] at h' ⊢
          by_cases h4 : c < a
          · rw [if_pos h4] at h'; omega
          · rw [if_neg h4] at h' ⊢
            exact bcmp_trans h h'
/-- They part at a place that both have. -/
def dv : List UInt8 → List UInt8 → Bool
  | a :: l, b :: m => if a = b then dv l m else true
  | _, _ => false
theorem dv_cc (a b : UInt8) (l m : List UInt8) : dv (a :: l) (b :: m) = if a = b then dv l m else true := rfl
theorem dv_app : ∀ {l m} (x y : List UInt8), dv l m = true → dv (l ++ x) (m ++ y) = true ∧ bcmp (l ++ x) (m ++ y) = bcmp l m
  | [], _, x, y, h => by simp [dv] at h
  | a :: l, [], x, y, h => by simp [dv] at h
  | a :: l, b :: m, x, y, h => by
    simp only [List.cons_append]
    rw [bcmp_cc, bcmp_cc]
    unfold dv at h ⊢
    by_cases e : a = b
    · subst e
      rw [if_pos rfl] at h ⊢
      have := dv_app (l := l) (m := m) x y h
      refine ⟨this.1, ?_⟩
      rw [this.2]
    · rw [if_neg e]
      refine ⟨rfl, ?_⟩
      rcases u8_tri a b with h1 | h1 | h1
      · rw [if_pos h1, if_pos h1]
      · rw [if_neg (u8_asym h1), if_pos h1, if_neg (u8_asym h1), if_pos h1]
      · exact absurd h1 e
theorem dv_pre : ∀ (p : List UInt8) (x y : List UInt8), dv (p ++ x) (p ++ y) = dv x y ∧ bcmp (p ++ x) (p ++ y) = bcmp x y
  | [], x, y => ⟨rfl, rfl⟩
  | a :: p, x, y => by
    simp only [List.cons_append]
    rw [bcmp_cc, if_neg (u8_irr a), if_neg (u8_irr a), dv_cc, if_pos rfl]
    exact dv_pre p x y
theorem dv_ne : ∀ {l m : List UInt8}, l.length = m.length → l ≠ m → dv l m = true
  | [], [], _, h => absurd rfl h
  | [], b :: m, h, _ => by simp at h
  | a :: l, [], h, _ => by simp at h
  | a :: l, b :: m, h, hne => by
    unfold dv
    by_cases e : a = b
    · rw [if_pos e]
      exact dv_ne (by simpa using h) (fun h' => hne (by rw [e, h']))
    · rw [if_neg e]
/-- c is how l and m compare, and neither is a proper beginning of the other. -/
def Cp (c : Int) (l m : List UInt8) : Prop := (c = 0 ∧ l = m) ∨ (c ≠ 0 ∧ dv l m = true ∧ bcmp l m = c)
theorem Cp.out {c : Int} {l m : List UInt8} (h : Cp c l m) : bcmp l m = c := by
  rcases h with ⟨h1, h2⟩ | ⟨_, _, h⟩
  · rw [h1, h2, bcmp_self]
  · exact h
theorem Cp.val {c d : Int} {l m : List UInt8} (h : Cp c l m) (e : c = d) : Cp d l m := e ▸ h
theorem Cp.refl (l : List UInt8) : Cp 0 l l := Or.inl ⟨rfl, rfl⟩
/-- The first that isn't 0. -/
def thn (c d : Int) : Int := if c = 0 then d else c
theorem Cp.app {c d : Int} {l m x y : List UInt8} (h : Cp c l m) (k : Cp d x y) : Cp (thn c d) (l ++ x) (m ++ y) := by
  unfold thn
  rcases h with ⟨h1, h2⟩ | ⟨h1, h2, h3⟩
  · subst h2
    rw [if_pos h1]
    rcases k with ⟨k1, k2⟩ | ⟨k1, k2, k3⟩
    · exact Or.inl ⟨k1, by rw [k2]⟩
    · exact Or.inr ⟨k1, by rw [(dv_pre l x y).1]; exact k2, by rw [(dv_pre l x y).2]; exact k3⟩
  · rw [if_neg h1]
    have := dv_app x y h2
    exact Or.inr ⟨h1, this.1, by rw [this.2]; exact h3⟩
/-- Where they part, what follows is of no weight. -/
theorem Cp.app0 {c : Int} {l m : List UInt8} (h : Cp c l m) (h0 : c ≠ 0) (x y : List UInt8) : Cp c (l ++ x) (m ++ y) := by
  rcases h with ⟨h1, h2⟩ | ⟨h1, h2, h3⟩
  · exact absurd h1 h0
  · have := dv_app x y h2
    exact Or.inr ⟨h1, this.1, by rw [this.2]; exact h3⟩
theorem Cp.eqlen {l m : List UInt8} (h : l.length = m.length) : Cp (bcmp l m) l m := by
  by_cases e : l = m
  · subst e; rw [bcmp_self]; exact Cp.refl l
  · exact Or.inr ⟨fun h0 => e (bcmp_zero h0), dv_ne h e, rfl⟩
def toB (x : Int) : UInt8 := UInt8.ofNat x.toNat
theorem toB_nat {x : Int} (h : 0 ≤ x ∧ x < 256) : ((toB x).toNat : Int) = x := by
  unfold toB
  rw [UInt8.toNat_ofNat']
  omega
theorem cmpI_lt {a b : Int} (h : a < b) : cmpI a b = -1 := by unfold cmpI; rw [if_pos h]
theorem cmpI_gt {a b : Int} (h : b < a) : cmpI a b = 1 := by unfold cmpI; rw [if_neg (by omega), if_pos h]
theorem cmpI_add (a b c : Int) : cmpI (a + c) (b + c) = cmpI a b := by
  rcases Int.lt_trichotomy a b with h | h | h
  · rw [cmpI_lt h, cmpI_lt (by omega)]
  · rw [h]; unfold cmpI; rw [if_neg (by omega), if_neg (by omega), if_neg (by omega), if_neg (by omega)]
  · rw [cmpI_gt h, cmpI_gt (by omega)]
theorem bcmp_1 (a b : UInt8) : bcmp [a] [b] = cmpI (a.toNat : Int) (b.toNat : Int) := by
  rw [bcmp_cc, bcmp_nn]
  rcases u8_tri a b with h | h | h
  · rw [if_pos h]
    rw [UInt8.lt_iff_toNat_lt] at h
    rw [cmpI_lt (by omega)]
  · rw [if_neg (u8_asym h), if_pos h]
    rw [UInt8.lt_iff_toNat_lt] at h
    rw [cmpI_gt (by omega)]
  · subst h
    rw [if_neg (u8_irr a), if_neg (u8_irr a)]
    unfold cmpI
    rw [if_neg (by omega), if_neg (by omega)]
theorem Cp.byte {x y : Int} (hx : 0 ≤ x ∧ x < 256) (hy : 0 ≤ y ∧ y < 256) : Cp (cmpI x y) [toB x] [toB y] := by
  have := Cp.eqlen (l := [toB x]) (m := [toB y]) rfl
  rw [bcmp_1, toB_nat hx, toB_nat hy] at this
  exact this
theorem cmpI_self (a : Int) : cmpI a a = 0 := by unfold cmpI; rw [if_neg (by omega), if_neg (by omega)]
theorem cmpI_zero {a b : Int} (h : cmpI a b = 0) : a = b := by
  unfold cmpI at h
  split at h
  · omega
  · split at h
    · omega
    · omega
/-- The k bytes of a number, the highest first. -/
def bee : Nat → Nat → List UInt8
  | 0, _ => []
  | k + 1, n => UInt8.ofNat (n / 256 ^ k % 256) :: bee k n
theorem bee_len : ∀ k n, (bee k n).length = k
  | 0, _ => rfl
  | k + 1, n => by unfold bee; rw [List.length_cons, bee_len k]
theorem bee_cmp : ∀ (k a b : Nat), bcmp (bee k a) (bee k b) = cmpI ((a % 256 ^ k : Nat) : Int) ((b % 256 ^ k : Nat) : Int)
  | 0, a, b => by simp [bee, Nat.mod_one, bcmp_nn, cmpI_self]
  | k + 1, a, b => by
    have ih := bee_cmp k a b
    unfold bee
    rw [bcmp_cc, ih]
    have ha : a % 256 ^ (k + 1) = a % 256 ^ k + 256 ^ k * (a / 256 ^ k % 256) := Nat.mod_pow_succ
    have hb : b % 256 ^ (k + 1) = b % 256 ^ k + 256 ^ k * (b / 256 ^ k % 256) := Nat.mod_pow_succ
    have hp : 0 < 256 ^ k := Nat.pow_pos (by decide)
    have la := Nat.mod_lt a hp
    have lb := Nat.mod_lt b hp
    rw [ha, hb]
    have l256a : a / 256 ^ k % 256 < 256 := Nat.mod_lt _ (by decide)
    have l256b : b / 256 ^ k % 256 < 256 := Nat.mod_lt _ (by decide)
    simp only [UInt8.lt_iff_toNat_lt, UInt8.toNat_ofNat']
    generalize a / 256 ^ k % 256 = x at *
    generalize b / 256 ^ k % 256 = y at *
    generalize 256 ^ k = P at *
    generalize a % P = u at *
    generalize b % P = v at *
    rw [Nat.mod_eq_of_lt (a := x) (by omega), Nat.mod_eq_of_lt (a := y) (by omega)]
    rcases Nat.lt_trichotomy x y with h | h | h
    · rw [if_pos h]
      have h1 : P * (x + 1) ≤ P * y := Nat.mul_le_mul_left _ h
      rw [Nat.mul_add, Nat.mul_one] at h1
      rw [cmpI_lt (by omega)]
    · subst h
      rw [if_neg (by omega), if_neg (by omega), Int.natCast_add, Int.natCast_add, cmpI_add]
    · rw [if_neg (by omega), if_pos h]
      have h1 : P * (y + 1) ≤ P * x := Nat.mul_le_mul_left _ h
      rw [Nat.mul_add, Nat.mul_one] at h1
      rw [cmpI_gt (by omega)]
def e8 (n : Nat) : List UInt8 := bee 8 n
theorem Cp.e8 {a b : Nat} (ha : a < 18446744073709551616) (hb : b < 18446744073709551616) : Cp (cmpI (a : Int) (b : Int)) (e8 a) (e8 b) := by
  have := Cp.eqlen (l := bee 8 a) (m := bee 8 b) (by rw [bee_len, bee_len])
  rw [bee_cmp, Nat.mod_eq_of_lt (a := a) (by have : 256 ^ 8 = 18446744073709551616 := by decide
                                             omega), Nat.mod_eq_of_lt (a := b) (by have : 256 ^ 8 = 18446744073709551616 := by decide
                                                                                   omega)] at this
  exact this
theorem bcmp_thn (a b : UInt8) (l m : List UInt8) : bcmp (a :: l) (b :: m) = thn (bcmp [a] [b]) (bcmp l m) := by
  rw [bcmp_cc, bcmp_cc, bcmp_nn]
  unfold thn
  rcases u8_tri a b with h | h | h
  · rw [if_pos h, if_pos h, if_neg (by decide)]
  · have h' := u8_asym h
    rw [if_neg h', if_pos h, if_neg h', if_pos h, if_neg (by decide)]
  · subst h
    have h' := u8_irr a
    rw [if_neg h', if_neg h', if_neg h', if_neg h', if_pos rfl]
/-- Bytes that are no 0, closed by a 0. -/
theorem Cp.closed : ∀ {l m : List UInt8}, (∀ c ∈ l, c ≠ 0) → (∀ c ∈ m, c ≠ 0) → Cp (bcmp l m) (l ++ [0]) (m ++ [0])
  | [], [], _, _ => Cp.refl _
  | [], b :: m, _, hb => by
    have h0 : (0 : UInt8) < b := by
      rcases u8_tri 0 b with h | h | h
      · exact h
      · rw [UInt8.lt_iff_toNat_lt] at h; simp at h
      · exact absurd h.symm (hb b (by simp))
    refine Or.inr ⟨by rw [bcmp_nc]; decide, ?_, ?_⟩
    · simp only [List.nil_append, List.cons_append, dv]
      rw [if_neg (u8_ne h0)]
    · simp only [List.nil_append, List.cons_append, bcmp_cc]
      rw [if_pos h0, bcmp_nc]
  | a :: l, [], ha, _ => by
    have h0 : (0 : UInt8) < a := by
      rcases u8_tri 0 a with h | h | h
      · exact h
      · rw [UInt8.lt_iff_toNat_lt] at h; simp at h
      · exact absurd h.symm (ha a (by simp))
    refine Or.inr ⟨by rw [bcmp_cn]; decide, ?_, ?_⟩
    · simp only [List.nil_append, List.cons_append, dv]
      rw [if_neg (fun h => u8_ne h0 h.symm)]
    · simp only [List.nil_append, List.cons_append, bcmp_cc]
      rw [if_neg (u8_asym h0), if_pos h0, bcmp_cn]
  | a :: l, b :: m, ha, hb => by
    have ih := Cp.closed (l := l) (m := m) (fun c hc => ha c (by simp [hc])) (fun c hc => hb c (by simp [hc]))
    have h1 := Cp.app (Cp.eqlen (l := [a]) (m := [b]) rfl) ih
    exact h1.val (bcmp_thn a b l m).symm
def cpl (c : UInt8) : UInt8 := 255 - c
theorem cpl_nat (c : UInt8) : (cpl c).toNat = 255 - c.toNat := by
  have : ∀ c : UInt8, (cpl c).toNat = 255 - c.toNat := all8 (by decide +kernel)
  exact this c
theorem cpl_lt (a b : UInt8) : cpl a < cpl b ↔ b < a := by
  rw [UInt8.lt_iff_toNat_lt, UInt8.lt_iff_toNat_lt, cpl_nat, cpl_nat]
  have := a.toNat_lt
  have := b.toNat_lt
  omega
theorem cpl_inj {a b : UInt8} : cpl a = cpl b ↔ a = b := by
  constructor
  · intro h
    have := congrArg UInt8.toNat h
    rw [cpl_nat, cpl_nat] at this
    have h1 := a.toNat_lt
    have h2 := b.toNat_lt
    exact UInt8.toNat_inj.1 (by omega)
  · intro h; rw [h]
theorem cpl_dv : ∀ (l m : List UInt8), dv l m = true → dv (l.map cpl) (m.map cpl) = true ∧ bcmp (l.map cpl) (m.map cpl) = -bcmp l m
  | [], _, h => by simp [dv] at h
  | a :: l, [], h => by simp [dv] at h
  | a :: l, b :: m, h => by
    simp only [List.map_cons]
    rw [bcmp_cc, bcmp_cc]
    unfold dv at h ⊢
    simp only [cpl_lt, cpl_inj]
    by_cases e : a = b
    · subst e
      rw [if_pos rfl] at h ⊢
      rw [if_neg (u8_irr a), if_neg (u8_irr a)]
      have := cpl_dv l m h
      exact ⟨this.1, by rw [if_neg (u8_irr a), if_neg (u8_irr a)]; exact this.2⟩
    · rw [if_neg e]
      refine ⟨rfl, ?_⟩
      rcases u8_tri a b with h1 | h1 | h1
      · rw [if_neg (u8_asym h1), if_pos h1, if_pos h1]; rfl
      · rw [if_pos h1, if_neg (u8_asym h1), if_pos h1]
      · exact absurd h1 e
theorem Cp.neg {c : Int} {l m : List UInt8} (h : Cp c l m) : Cp (-c) (l.map cpl) (m.map cpl) := by
  rcases h with ⟨h1, h2⟩ | ⟨h1, h2, h3⟩
  · exact Or.inl ⟨by omega, by rw [h2]⟩
  · have := cpl_dv l m h2
    exact Or.inr ⟨by omega, this.1, by rw [this.2, h3]⟩
end Go.Proofs.YtcdajedmlfhmeaaDoor.XN
end

section
/- Each kind's order is the bytewise order of its embedding: the plain theory. (by this session) -/
set_option linter.unusedVariables false
set_option linter.unusedSimpArgs false
namespace Go.Proofs.YtcdajedmlfhmeaaDoor.XN
open Go.RowKit Go.Proofs.YtcdajedmlfhmeaaDoorW.PrintWords Go.Proofs.YtcdajedmlfhmeaaDoorW.PrintMore

theorem orS2 (x y : Int) : orS [x, y] = thn x y := by
  unfold thn
  simp only [orS]
  split
  · split <;> omega
  · rfl
theorem orS3 (x y z : Int) : orS [x, y, z] = thn x (thn y z) := by
  unfold thn
  simp only [orS]
  split
  · split
    · split <;> omega
    · rfl
  · rfl
theorem thn0 (y : Int) : thn 0 y = y := by unfold thn; rw [if_pos rfl]
theorem thn_ne {x y : Int} (h : x ≠ 0) : thn x y = x := by unfold thn; rw [if_neg h]

/-! ### numbers -/
def zb (le : Bool) (z : Sz) : List UInt8 := (if le = true then [toB z.2.1] else []) ++ (e8 (z.2.2.1 + 4611686018427387904).toNat ++ (z.2.2.2 ++ [0]))
def numE (le : Bool) (z : Sz) : List UInt8 := if z.1 = 0 then [80] else if z.1 = 1 then [96] ++ zb le z else [64] ++ (zb le z).map cpl
structure SzOk (le : Bool) (z : Sz) : Prop where
  sign : z.1 = -1 ∨ z.1 = 0 ∨ z.1 = 1
  rank : 0 ≤ z.2.1 ∧ z.2.1 < 256
  rank0 : le = false → z.2.1 = 0
  exp : -2305843009213693952 ≤ z.2.2.1 ∧ z.2.2.1 ≤ 2305843009213693952
  dig : ∀ c ∈ z.2.2.2, c ≠ 0
theorem zb_cp {le : Bool} {a b : Sz} (ha : SzOk le a) (hb : SzOk le b) : Cp (orS [cmpI a.2.1 b.2.1, cmpI a.2.2.1 b.2.2.1, bcmp a.2.2.2 b.2.2.2]) (zb le a) (zb le b) := by
  rw [orS3]
  have he := Cp.e8 (a := (a.2.2.1 + 4611686018427387904).toNat) (b := (b.2.2.1 + 4611686018427387904).toNat) (by have := ha.exp; omega) (by have := hb.exp; omega)
  rw [Int.toNat_of_nonneg (by have := ha.exp; omega), Int.toNat_of_nonneg (by have := hb.exp; omega), cmpI_add] at he
  have hd := Cp.app he (Cp.closed ha.dig hb.dig)
  unfold zb
  cases le with
  | true =>
    simp only [if_true]
    exact Cp.app (Cp.byte ha.rank hb.rank) hd
  | false =>
    rw [ha.rank0 rfl, hb.rank0 rfl, cmpI_self, thn0]
    simpa using hd
theorem ordS_ne {a b : Sz} (h : ¬ a.1 = b.1) : ordS a b = cmpI a.1 b.1 := by unfold ordS; rw [if_neg (fun h' => h h'.1)]
theorem Cp.heads {x y : Int} (hx : 0 ≤ x ∧ x < 256) (hy : 0 ≤ y ∧ y < 256) (hne : x ≠ y) (l m : List UInt8) : Cp (cmpI x y) (toB x :: l) (toB y :: m) :=
  Cp.app0 (Cp.byte hx hy) (fun h => hne (cmpI_zero h)) l m
theorem numE_cp {le : Bool} {a b : Sz} (ha : SzOk le a) (hb : SzOk le b) : Cp (ordS a b) (numE le a) (numE le b) := by
  have hz := zb_cp ha hb
  rcases ha.sign with h1 | h1 | h1 <;> rcases hb.sign with h2 | h2 | h2
  · have e : ordS a b = -(orS [cmpI a.2.1 b.2.1, cmpI a.2.2.1 b.2.2.1, bcmp a.2.2.2 b.2.2.2]) := by
      unfold ordS
      rw [if_pos ⟨by omega, by omega⟩, h1]
      omega
    rw [e]
    unfold numE
    rw [if_neg (by omega), if_neg (by omega), if_neg (by omega), if_neg (by omega)]
    have := Cp.app (Cp.refl [64]) hz.neg
    rw [thn0] at this
    exact this
  · rw [ordS_ne (by omega), h1, h2]
    unfold numE
    rw [if_neg (by omega), if_neg (by omega), if_pos h2]
    exact Cp.heads (x := 64) (y := 80) (by decide) (by decide) (by decide) _ []
  · rw [ordS_ne (by omega), h1, h2]
    unfold numE
    rw [if_neg (by omega), if_neg (by omega), if_neg (by omega), if_pos h2]
    exact Cp.heads (x := 64) (y := 96) (by decide) (by decide) (by decide) _ _
  · rw [ordS_ne (by omega), h1, h2]
    unfold numE
    rw [if_pos h1, if_neg (by omega), if_neg (by omega)]
    exact Cp.heads (x := 80) (y := 64) (by decide) (by decide) (by decide) [] _
  · have e : ordS a b = 0 := by
      unfold ordS
      rw [if_neg (fun h => h.2 h1), h1, h2]
      rfl
    rw [e]
    unfold numE
    rw [if_pos h1, if_pos h2]
    exact Cp.refl _
  · rw [ordS_ne (by omega), h1, h2]
    unfold numE
    rw [if_pos h1, if_neg (by omega), if_pos h2]
    exact Cp.heads (x := 80) (y := 96) (by decide) (by decide) (by decide) [] _
  · rw [ordS_ne (by omega), h1, h2]
    unfold numE
    rw [if_neg (by omega), if_pos h1, if_neg (by omega), if_neg (by omega)]
    exact Cp.heads (x := 96) (y := 64) (by decide) (by decide) (by decide) _ _
  · rw [ordS_ne (by omega), h1, h2]
    unfold numE
    rw [if_neg (by omega), if_pos h1, if_pos h2]
    exact Cp.heads (x := 96) (y := 80) (by decide) (by decide) (by decide) _ []
  · have e : ordS a b = orS [cmpI a.2.1 b.2.1, cmpI a.2.2.1 b.2.2.1, bcmp a.2.2.2 b.2.2.2] := by
      unfold ordS
      rw [if_pos ⟨by omega, by omega⟩, h1]
      omega
    rw [e]
    unfold numE
    rw [if_neg (by omega), if_pos h1, if_neg (by omega), if_pos h2]
    have := Cp.app (Cp.refl [96]) hz
    rw [thn0] at this
    exact this

/-! ### what the numbers of texts are -/
theorem dg_ne {c : UInt8} (h : isDg c = true) : c ≠ 0 := by
  rintro rfl
  have := (isDg_iff 0).1 h
  simp at this
theorem tr_sub (l : List UInt8) : ∀ c ∈ tr l, c ∈ l := by
  intro c hc
  unfold tr at hc
  have := (List.dropWhile_sublist is0).subset (List.mem_reverse.1 hc)
  exact List.mem_reverse.1 this
theorem digS_dg {w f : List UInt8} {e : Int} (hw : ∀ c ∈ w, isDg c = true) (hf : ∀ c ∈ f, isDg c = true) : ∀ c ∈ (digS w f e).1, isDg c = true := by
  intro c hc
  unfold digS at hc
  split at hc
  · split at hc
    · cases hc
    · exact hf c ((List.dropWhile_sublist is0).subset (tr_sub _ c hc))
  · split at hc
    · cases hc
    · rcases List.mem_append.1 (tr_sub _ c hc) with h | h
      · exact hw c ((List.dropWhile_sublist is0).subset h)
      · exact hf c h
theorem digS_exp (w f : List UInt8) (e : Int) (B : Int) (hB : (w.length : Int) + f.length + 1099511627776 ≤ B) (he : -1099511627776 ≤ e ∧ e ≤ 1099511627776) : -B ≤ (digS w f e).2 ∧ (digS w f e).2 ≤ B := by
  have h1 := tl_len w
  have h2 := tl_len f
  unfold digS
  split
  · split
    · simp only; omega
    · simp only; omega
  · split
    · simp only; omega
    · simp only; omega
theorem pl_dg (l : List UInt8) : (∀ c ∈ (plS l).1, isDg c = true) ∧ (∀ c ∈ (plS l).2.1, isDg c = true) := by
  unfold plS
  split
  · exact ⟨run_dg l, (fun c h => by cases h)⟩
  · split
    · exact ⟨run_dg l, run_dg _⟩
    · exact ⟨run_dg l, (fun c h => by cases h)⟩
theorem dec_dg (l : List UInt8) : (∀ c ∈ (decS l).2.1, isDg c = true) ∧ (∀ c ∈ (decS l).2.2.1, isDg c = true) := by
  unfold decS
  split
  · exact ⟨(fun c h => by cases h), (fun c h => by cases h)⟩
  · have h := pl_dg (l.drop (sgN l))
    exact ⟨fun c hc => h.1 c ((List.dropWhile_sublist is0).subset hc), fun c hc => h.2 c (tr_sub _ c hc)⟩
theorem szS_ok {n : Bool} {d : List UInt8} {x r : Int} {le : Bool} (hd : ∀ c ∈ d, isDg c = true) (hx : -2305843009213693952 ≤ x ∧ x ≤ 2305843009213693952) (hr : 0 ≤ r ∧ r < 256) (h0 : le = false → r = 0) : SzOk le (szS n d x r) := by
  refine ⟨szS_sign _ _ _ _, ?_, ?_, ?_, ?_⟩
  · unfold szS; split <;> simp only <;> omega
  · intro h; unfold szS; split
    · rfl
    · exact h0 h
  · unfold szS; split <;> simp only <;> omega
  · unfold szS; split
    · intro c h; cases h
    · exact fun c hc => dg_ne (hd c hc)
theorem hum_rank (s : ByteArray) : (humS s).2 ≤ 10 := by
  unfold humS
  simp only
  split
  · simp
  · split
    · simp
    · simp only
      have h := letN_le
      split
      · simp
      · exact h _
theorem huS_ok (kind : Int) (hk : kind = 16 ∨ kind = 64) (s : ByteArray) (hs : s.size < 576460752303423488) : SzOk (decide (kind = 64)) (huS kind s) := by
  obtain ⟨f1, f2, f3⟩ := humS_fields s
  obtain ⟨d1, d2⟩ := dec_dg (L s)
  obtain ⟨l1, l2⟩ := dec_len s
  have hr := hum_rank s
  unfold huS
  rw [f2, f3]
  refine szS_ok (digS_dg d1 d2) (digS_exp _ _ 0 2305843009213693952 (by omega) (by omega)) ?_ ?_
  · split <;> omega
  · intro h
    rcases hk with rfl | rfl
    · rw [if_pos rfl]
    · simp at h

/-! ### g -/
def gE (g : Gn) : List UInt8 := if g.1 = 3 then numE false (szS g.2.1 g.2.2.1 g.2.2.2.1 0) else if g.1 = 0 then [16] else if g.1 = 1 then [32] else if g.1 = 2 then [48] else [112]
def ordG (x y : Gn) : Int := if x.1 = y.1 then ordS (szS x.2.1 x.2.2.1 x.2.2.2.1 0) (szS y.2.1 y.2.2.1 y.2.2.2.1 0) else cmpI x.1 y.1
structure GnOk (g : Gn) : Prop where
  cls : g.1 = 0 ∨ g.1 = 1 ∨ g.1 = 2 ∨ g.1 = 3 ∨ g.1 = 4
  none : g.1 ≠ 3 → g.2.2.1 = []
  dig : ∀ c ∈ g.2.2.1, isDg c = true
  exp : -2305843009213693952 ≤ g.2.2.2.1 ∧ g.2.2.2.1 ≤ 2305843009213693952
theorem genB_ok (neg : Bool) (n : List UInt8) (i : Nat) (hn : n.length < 576460752303423488) : GnOk (genB neg n i) := by
  have hp1 := pl1_len n
  have hp2 := pl2_len n
  unfold genB
  split
  · exact ⟨by simp only; split <;> simp, fun _ => rfl, (fun c h => by cases h), by simp⟩
  · split
    · exact ⟨by simp only; split <;> simp, fun _ => rfl, (fun c h => by cases h), by simp⟩
    · split
      · exact ⟨by simp, fun _ => rfl, (fun c h => by cases h), by simp⟩
      · split
        · exact ⟨by simp, fun _ => rfl, (fun c h => by cases h), by simp⟩
        · obtain ⟨d1, d2⟩ := pl_dg n
          exact ⟨by simp, fun h => absurd rfl h, digS_dg d1 d2, digS_exp _ _ _ 2305843009213693952 (by omega) (expS_range _)⟩
theorem genS_ok (s : ByteArray) (hs : s.size < 576460752303423488) : GnOk (genS (L s)) := by
  unfold genS
  refine genB_ok _ _ _ ?_
  rw [List.length_drop, L_len]
  omega
theorem szS_nil (n : Bool) (x r : Int) : szS n [] x r = (0, 0, 0, []) := by unfold szS; rw [if_pos rfl]
theorem numE_head {z : Sz} (h : z.1 = -1 ∨ z.1 = 0 ∨ z.1 = 1) : ∃ x t, numE false z = toB x :: t ∧ (x = 64 ∨ x = 80 ∨ x = 96) := by
  unfold numE
  rcases h with h | h | h
  · rw [if_neg (by omega), if_neg (by omega)]; exact ⟨64, _, rfl, by simp⟩
  · rw [if_pos h]; exact ⟨80, _, rfl, by simp⟩
  · rw [if_neg (by omega), if_pos h]; exact ⟨96, _, rfl, by simp⟩
theorem gE_head {g : Gn} (hg : GnOk g) : ∃ x t, gE g = toB x :: t ∧ ((g.1 = 0 ∧ x = 16) ∨ (g.1 = 1 ∧ x = 32) ∨ (g.1 = 2 ∧ x = 48) ∨ (g.1 = 3 ∧ (x = 64 ∨ x = 80 ∨ x = 96)) ∨ (g.1 = 4 ∧ x = 112)) := by
  unfold gE
  rcases hg.cls with h | h | h | h | h
  · rw [if_neg (by omega), if_pos h]; exact ⟨16, [], rfl, by simp [h]⟩
  · rw [if_neg (by omega), if_neg (by omega), if_pos h]; exact ⟨32, [], rfl, by simp [h]⟩
  · rw [if_neg (by omega), if_neg (by omega), if_neg (by omega), if_pos h]; exact ⟨48, [], rfl, by simp [h]⟩
  · rw [if_pos h]
    obtain ⟨x, t, h1, h2⟩ := numE_head (szS_sign g.2.1 g.2.2.1 g.2.2.2.1 0)
    exact ⟨x, t, h1, by simp [h, h2]⟩
  · rw [if_neg (by omega), if_neg (by omega), if_neg (by omega), if_neg (by omega)]; exact ⟨112, [], rfl, by simp [h]⟩
theorem cmpI_of_lt {a b c d : Int} (h : (a < b ∧ c < d) ∨ (b < a ∧ d < c)) : cmpI a b = cmpI c d := by
  rcases h with ⟨h, h'⟩ | ⟨h, h'⟩
  · rw [cmpI_lt h, cmpI_lt h']
  · rw [cmpI_gt h, cmpI_gt h']
theorem gE_cp {a b : Gn} (ha : GnOk a) (hb : GnOk b) : Cp (ordG a b) (gE a) (gE b) := by
  unfold ordG
  by_cases h : a.1 = b.1
  · rw [if_pos h]
    by_cases h3 : a.1 = 3
    · unfold gE
      rw [if_pos h3, if_pos (by omega)]
      exact numE_cp (szS_ok ha.dig ha.exp (by omega) (fun _ => rfl)) (szS_ok hb.dig hb.exp (by omega) (fun _ => rfl))
    · rw [ha.none h3, hb.none (by omega), szS_nil, szS_nil]
      have e : gE a = gE b := by
        unfold gE
        rw [if_neg h3, if_neg (show ¬ b.1 = 3 by omega), h]
      rw [e]
      exact Cp.refl _
  · rw [if_neg h]
    obtain ⟨x, t, h1, h2⟩ := gE_head ha
    obtain ⟨y, u, h3, h4⟩ := gE_head hb
    rw [h1, h3]
    refine (Cp.heads (x := x) (y := y) (by omega) (by omega) (by omega) t u).val ?_
    exact cmpI_of_lt (by omega)

/-! ### M -/
theorem monF_le : ∀ (l : List UInt8) (m : Nat) (ws : List (List UInt8)), monF l m ws ≤ m + ws.length
  | l, m, [] => by simp [monF]
  | l, m, w :: ws => by
    have := monF_le l (m + 1) ws
    unfold monF
    simp only [List.length_cons]
    split <;> omega
theorem monS_le (l : List UInt8) : monS l ≤ 12 := by
  unfold monS
  have := monF_le (l.drop (blkN l)) 0 monthL
  exact this

/-! ### V -/
def rkU (c : UInt8) : UInt8 := toB (rkB c)
def rnE (d : List UInt8) : List UInt8 := if d = [] then [0] else [1] ++ (e8 (tl d).length ++ tl d)
def hdE (l : List UInt8) : List UInt8 := ((pr1 l).map rkU ++ [2]) ++ rnE (pr2 l)
def vEF : Nat → List UInt8 → List UInt8
  | 0, _ => hdE []
  | n + 1, l => if l = [] then hdE [] else hdE l ++ vEF n (pr3 l)
theorem rk_ok (c : UInt8) (h : isDg c = false) : (0 ≤ rkB c ∧ rkB c < 256) ∧ rkB c ≠ 2 := by
  have : ∀ c : UInt8, isDg c = false → (0 ≤ rkB c ∧ rkB c < 256) ∧ rkB c ≠ 2 := all8 (by decide +kernel)
  exact this c h
theorem pr1_no (l : List UInt8) : ∀ c ∈ pr1 l, isDg c = false := by
  unfold pr1
  induction l with
  | nil => intro c h; cases h
  | cons d l ih =>
    intro c h
    rw [List.takeWhile_cons] at h
    split at h
    · rename_i hd
      rcases List.mem_cons.1 h with rfl | h
      · simpa [noDg] using hd
      · exact ih c h
    · cases h
theorem wd_cp : ∀ {l m : List UInt8}, (∀ c ∈ l, isDg c = false) → (∀ c ∈ m, isDg c = false) → Cp (wdS l m) (l.map rkU ++ [2]) (m.map rkU ++ [2])
  | [], [], _, _ => by simp only [wdS]; exact Cp.refl _
  | a :: l, [], ha, _ => by
    have h := rk_ok a (ha a (by simp))
    simp only [wdS]
    rw [if_neg h.2]
    exact Cp.heads (x := rkB a) (y := 2) h.1 (by decide) h.2 _ []
  | [], b :: m, _, hb => by
    have h := rk_ok b (hb b (by simp))
    simp only [wdS]
    rw [if_neg (fun e => h.2 e.symm)]
    exact Cp.heads (x := 2) (y := rkB b) (by decide) h.1 (fun e => h.2 e.symm) [] _
  | a :: l, b :: m, ha, hb => by
    have h1 := rk_ok a (ha a (by simp))
    have h2 := rk_ok b (hb b (by simp))
    have ih := wd_cp (l := l) (m := m) (fun c hc => ha c (by simp [hc])) (fun c hc => hb c (by simp [hc]))
    simp only [wdS]
    by_cases e : rkB a = rkB b
    · rw [if_pos e]
      have := Cp.app (Cp.byte h1.1 h2.1) ih
      rw [e, cmpI_self, thn0] at this
      refine (show Cp (wdS l m) (toB (rkB a) :: (l.map rkU ++ [2])) (toB (rkB b) :: (m.map rkU ++ [2])) from ?_)
      rw [e]
      exact this
    · rw [if_neg e]
      exact Cp.heads h1.1 h2.1 e _ _
theorem rn_cp {d e : List UInt8} (hd : d.length < 18446744073709551616) (he : e.length < 18446744073709551616) : Cp (rnS d e) (rnE d) (rnE e) := by
  unfold rnS rnE
  by_cases h1 : d = []
  · by_cases h2 : e = []
    · rw [if_pos (Or.inl h1), if_pos h1, if_pos h2, if_pos h1, if_pos h2]
      exact Cp.refl _
    · rw [if_pos (Or.inl h1), if_pos h1, if_neg h2, if_pos h1, if_neg h2]
      exact Cp.heads (x := 0) (y := 1) (by decide) (by decide) (by decide) [] _
  · by_cases h2 : e = []
    · rw [if_pos (Or.inr h2), if_neg h1, if_pos h2, if_neg h1, if_pos h2]
      exact Cp.heads (x := 1) (y := 0) (by decide) (by decide) (by decide) _ []
    · rw [if_neg (by rintro (h | h); exact h1 h; exact h2 h), if_neg h1, if_neg h2, orS2]
      have hl1 := tl_len d
      have hl2 := tl_len e
      have hk := Cp.e8 (a := (tl d).length) (b := (tl e).length) (by omega) (by omega)
      have key : Cp (thn (cmpI ((tl d).length : Int) ((tl e).length : Int)) (bcmp (tl d) (tl e))) (e8 (tl d).length ++ tl d) (e8 (tl e).length ++ tl e) := by
        by_cases hl : (tl d).length = (tl e).length
        · exact Cp.app hk (Cp.eqlen hl)
        · have hne : cmpI ((tl d).length : Int) ((tl e).length : Int) ≠ 0 := fun h => hl (by have := cmpI_zero h; omega)
          rw [thn_ne hne]
          exact Cp.app0 hk hne _ _
      have := Cp.app (Cp.refl [1]) key
      rw [thn0] at this
      exact this
theorem hd_cp {l m : List UInt8} (hl : l.length < 18446744073709551616) (hm : m.length < 18446744073709551616) : Cp (orS [wdS (pr1 l) (pr1 m), rnS (pr2 l) (pr2 m)]) (hdE l) (hdE m) := by
  have h1 := pr_len l
  have h2 := pr_len m
  rw [orS2]
  exact Cp.app (wd_cp (pr1_no l) (pr1_no m)) (rn_cp (by omega) (by omega))
theorem pr1_nil : pr1 [] = [] := rfl
theorem pr2_nil : pr2 [] = [] := rfl
theorem vr_nil_ne {m : List UInt8} (hm : m ≠ []) : orS [wdS (pr1 []) (pr1 m), rnS (pr2 []) (pr2 m)] ≠ 0 ∧ orS [wdS (pr1 m) (pr1 []), rnS (pr2 m) (pr2 [])] ≠ 0 := by
  rw [orS2, orS2, pr1_nil, pr2_nil]
  cases h : pr1 m with
  | cons c r =>
    have hc := (rk_ok c (pr1_no m c (by rw [h]; simp))).2
    have e1 : wdS [] (c :: r) = cmpI 2 (rkB c) := by simp only [wdS]; rw [if_neg (fun e => hc e.symm)]
    have e2 : wdS (c :: r) [] = cmpI (rkB c) 2 := by simp only [wdS]; rw [if_neg hc]
    rw [e1, e2]
    have n1 : cmpI 2 (rkB c) ≠ 0 := fun h => hc (cmpI_zero h).symm
    have n2 : cmpI (rkB c) 2 ≠ 0 := fun h => hc (cmpI_zero h)
    rw [thn_ne n1, thn_ne n2]
    exact ⟨n1, n2⟩
  | nil =>
    have e0 : wdS [] [] = 0 := by simp only [wdS]
    rw [e0, thn0, thn0]
    have h2 : pr2 m ≠ [] := by
      intro h2
      have hl := pr_len m
      have := pr_short hm
      rw [h, h2] at hl
      simp at hl
      omega
    unfold rnS
    simp [h2, cmpI]
theorem vE_cp : ∀ (n : Nat) (l m : List UInt8), l.length + m.length < n → n < 18446744073709551616 → Cp (vrF n l m) (vEF n l) (vEF n m)
  | 0, l, m, h, _ => by omega
  | n + 1, l, m, h, hb => by
    have hh := hd_cp (l := l) (m := m) (by omega) (by omega)
    unfold vrF vEF
    by_cases h1 : l = []
    · by_cases h2 : m = []
      · rw [if_pos ⟨h1, h2⟩, if_pos h1, if_pos h2]
        exact Cp.refl _
      · have hn := (vr_nil_ne h2).1
        subst h1
        rw [if_neg (fun h => h2 h.2), if_neg hn, if_pos rfl, if_neg h2]
        have := Cp.app0 hh hn [] (vEF n (pr3 m))
        rw [List.append_nil] at this
        exact this
    · by_cases h2 : m = []
      · have hn := (vr_nil_ne h1).2
        subst h2
        rw [if_neg (fun h => h1 h.1), if_neg hn, if_neg h1, if_pos rfl]
        have := Cp.app0 hh hn (vEF n (pr3 l)) []
        rw [List.append_nil] at this
        exact this
      · rw [if_neg (fun h => h1 h.1), if_neg h1, if_neg h2]
        by_cases h0 : orS [wdS (pr1 l) (pr1 m), rnS (pr2 l) (pr2 m)] = 0
        · rw [if_pos h0]
          rw [h0] at hh
          have s1 := pr_short h1
          have s2 := pr_short h2
          have := Cp.app hh (vE_cp n (pr3 l) (pr3 m) (by omega) (by omega))
          rw [thn0] at this
          exact this
        · rw [if_neg h0]
          exact Cp.app0 hh h0 _ _
theorem vEF_fuel : ∀ (n : Nat) (l : List UInt8), l.length < n → ∀ k, vEF (n + k) l = vEF n l
  | 0, l, h, _ => by omega
  | n + 1, l, h, k => by
    rw [show n + 1 + k = (n + k) + 1 by omega]
    unfold vEF
    by_cases h1 : l = []
    · rw [if_pos h1, if_pos h1]
    · rw [if_neg h1, if_neg h1, vEF_fuel n _ (by have := pr_short h1; omega) k]
def vE (l : List UInt8) : List UInt8 := vEF (l.length + 1) l

/-! ### any other kind -/
def escE : List UInt8 → List UInt8
  | [] => [0]
  | c :: r => (if c = 0 then [1, 1] else if c = 1 then [1, 2] else [c]) ++ escE r
theorem esc_cp : ∀ (l m : List UInt8), Cp (bcmp l m) (escE l) (escE m)
  | [], [] => Cp.refl _
  | [], b :: m => by
    unfold escE
    by_cases h0 : b = 0
    · rw [if_pos h0]
      exact Cp.heads (x := 0) (y := 1) (by decide) (by decide) (by decide) [] ([1] ++ escE m)
    · rw [if_neg h0]
      by_cases h1 : b = 1
      · rw [if_pos h1]
        exact Cp.heads (x := 0) (y := 1) (by decide) (by decide) (by decide) [] ([2] ++ escE m)
      · rw [if_neg h1]
        have := Cp.closed (l := []) (m := [b]) (fun c h => by cases h) (fun c h => by simp at h; rw [h]; exact h0)
        have hb : (0 : UInt8) < b := by
          rcases u8_tri 0 b with h | h | h
          · exact h
          · rw [UInt8.lt_iff_toNat_lt] at h; simp at h
          · exact absurd h.symm h0
        refine Or.inr ⟨by rw [bcmp_nc]; decide, ?_, ?_⟩
        · rw [List.cons_append, dv_cc, if_neg (u8_ne hb)]
        · rw [List.cons_append, bcmp_cc, if_pos hb, bcmp_nc]
  | a :: l, [] => by
    unfold escE
    by_cases h0 : a = 0
    · rw [if_pos h0]
      exact Cp.heads (x := 1) (y := 0) (by decide) (by decide) (by decide) ([1] ++ escE l) []
    · rw [if_neg h0]
      by_cases h1 : a = 1
      · rw [if_pos h1]
        exact Cp.heads (x := 1) (y := 0) (by decide) (by decide) (by decide) ([2] ++ escE l) []
      · rw [if_neg h1]
        have hb : (0 : UInt8) < a := by
          rcases u8_tri 0 a with h | h | h
          · exact h
          · rw [UInt8.lt_iff_toNat_lt] at h; simp at h
          · exact absurd h.symm h0
        refine Or.inr ⟨by rw [bcmp_cn]; decide, ?_, ?_⟩
        · rw [List.cons_append, dv_cc, if_neg (fun h => u8_ne hb h.symm)]
        · rw [List.cons_append, bcmp_cc, if_neg (u8_asym hb), if_pos hb, bcmp_cn]
  | a :: l, b :: m => by
    have ih := esc_cp l m
    unfold escE
    rw [bcmp_thn]
    refine Cp.app ?_ ih
    have h01 : bcmp [a] [b] = cmpI (a.toNat : Int) (b.toNat : Int) := bcmp_1 a b
    have hz : ∀ c : UInt8, c ≠ 0 → c ≠ 1 → (1 : Int) < (c.toNat : Int) := by
      have : ∀ c : UInt8, c ≠ 0 → c ≠ 1 → (1 : Int) < (c.toNat : Int) := all8 (by decide +kernel)
      exact this
    have tb : ∀ c : UInt8, toB (c.toNat : Int) = c := fun c => by unfold toB; rw [Int.toNat_natCast, UInt8.ofNat_toNat]
    have ua := u8_lt a
    have ub := u8_lt b
    by_cases a0 : a = 0
    · rw [if_pos a0]
      subst a0
      by_cases b0 : b = 0
      · rw [if_pos b0]; subst b0; exact Cp.refl _
      · rw [if_neg b0]
        by_cases b1 : b = 1
        · rw [if_pos b1]
          subst b1
          have := Cp.app (Cp.refl [1]) (Cp.byte (x := 1) (y := 2) (by decide) (by decide))
          rw [thn0] at this
          exact this
        · rw [if_neg b1, h01]
          have := Cp.heads (x := 1) (y := (b.toNat : Int)) (by decide) (by omega) (by have := hz b b0 b1; omega) [1] []
          rw [tb] at this
          refine this.val ?_
          have := hz b b0 b1
          exact cmpI_of_lt (Or.inl ⟨by omega, by simp; omega⟩)
    · rw [if_neg a0]
      by_cases a1 : a = 1
      · rw [if_pos a1]
        subst a1
        by_cases b0 : b = 0
        · rw [if_pos b0]
          subst b0
          have := Cp.app (Cp.refl [1]) (Cp.byte (x := 2) (y := 1) (by decide) (by decide))
          rw [thn0] at this
          exact this
        · rw [if_neg b0]
          by_cases b1 : b = 1
          · rw [if_pos b1]; subst b1; exact Cp.refl _
          · rw [if_neg b1, h01]
            have := Cp.heads (x := 1) (y := (b.toNat : Int)) (by decide) (by omega) (by have := hz b b0 b1; omega) [2] []
            rw [tb] at this
            refine this.val ?_
            have := hz b b0 b1
            exact cmpI_of_lt (Or.inl ⟨by omega, by simp; omega⟩)
      · rw [if_neg a1]
        have ga := hz a a0 a1
        by_cases b0 : b = 0
        · rw [if_pos b0, h01]
          subst b0
          have := Cp.heads (x := (a.toNat : Int)) (y := 1) (by omega) (by decide) (by omega) [] [1]
          rw [tb] at this
          exact this.val (cmpI_of_lt (Or.inr ⟨by omega, by simp; omega⟩))
        · rw [if_neg b0]
          by_cases b1 : b = 1
          · rw [if_pos b1, h01]
            subst b1
            have := Cp.heads (x := (a.toNat : Int)) (y := 1) (by omega) (by decide) (by omega) [] [2]
            rw [tb] at this
            exact this.val (cmpI_of_lt (Or.inr ⟨by omega, by simp; omega⟩))
          · rw [if_neg b1]
            exact Cp.eqlen rfl

/-! ### all kinds -/
def embE (kind : Int) (s : ByteArray) : List UInt8 :=
  if kind = 16 ∨ kind = 64 then numE (decide (kind = 64)) (huS kind s) else if kind = 32 then gE (genS (L s)) else if kind = 128 then [toB (monS (L s))] else if kind = 256 then vE (L s) else escE (L s)
def cmpS (kind : Int) (s t : ByteArray) : Int :=
  if kind = 16 ∨ kind = 64 then ordS (huS kind s) (huS kind t) else if kind = 32 then ordG (genS (L s)) (genS (L t)) else if kind = 128 then cmpI (monS (L s)) (monS (L t)) else if kind = 256 then vrS (L s) (L t) else bcmp (L s) (L t)
theorem emb_cp (kind : Int) (s t : ByteArray) (hs : s.size < 576460752303423488) (ht : t.size < 576460752303423488) : Cp (cmpS kind s t) (embE kind s) (embE kind t) := by
  unfold cmpS embE
  by_cases h1 : kind = 16 ∨ kind = 64
  · rw [if_pos h1, if_pos h1, if_pos h1]
    exact numE_cp (huS_ok kind h1 s hs) (huS_ok kind h1 t ht)
  rw [if_neg h1, if_neg h1, if_neg h1]
  by_cases h2 : kind = 32
  · rw [if_pos h2, if_pos h2, if_pos h2]
    exact gE_cp (genS_ok s hs) (genS_ok t ht)
  rw [if_neg h2, if_neg h2, if_neg h2]
  by_cases h3 : kind = 128
  · rw [if_pos h3, if_pos h3, if_pos h3]
    have m1 := monS_le (L s)
    have m2 := monS_le (L t)
    exact Cp.byte (by omega) (by omega)
  rw [if_neg h3, if_neg h3, if_neg h3]
  by_cases h4 : kind = 256
  · rw [if_pos h4, if_pos h4, if_pos h4]
    have l1 := L_len s
    have l2 := L_len t
    have := vE_cp ((L s).length + (L t).length + 1) (L s) (L t) (by omega) (by omega)
    rw [show (L s).length + (L t).length + 1 = (L s).length + 1 + (L t).length by omega, vEF_fuel _ (L s) (by omega)] at this
    rw [show (L s).length + 1 + (L t).length = (L t).length + 1 + (L s).length by omega, vEF_fuel _ (L t) (by omega)] at this
    unfold vrS vE
    rw [show (L s).length + (L t).length + 1 = (L t).length + 1 + (L s).length by omega]
    exact this
  rw [if_neg h4, if_neg h4, if_neg h4]
  exact esc_cp _ _
theorem cmpS_range (kind : Int) (s t : ByteArray) (hs : s.size < 576460752303423488) (ht : t.size < 576460752303423488) : cmpS kind s t = -1 ∨ cmpS kind s t = 0 ∨ cmpS kind s t = 1 := by
  rw [← (emb_cp kind s t hs ht).out]
  exact bcmp_range _ _
end Go.Proofs.YtcdajedmlfhmeaaDoor.XN
end

section
/- numeral.Compare at every kind is cmpS. (by this session) -/
-- NEEDS numeral_Compare api_Class_53 api_Class_77
set_option linter.unusedVariables false
set_option linter.unusedSimpArgs false
namespace Go.Proofs.YtcdajedmlfhmeaaDoor.XN
open Go.RowKit Go.Proofs.YtcdajedmlfhmeaaDoorW.PrintWords Go.Proofs.YtcdajedmlfhmeaaDoorW.PrintMore
theorem Class_f (a b : Int) : api_Class_53.f a b = some (cmpI a b) := by
  unfold api_Class_53.f api_Class_77.f cmpI
  simp only [Option.bind_some, bne_self_eq_false, Bool.false_eq_true, if_false]
  split
  · rfl
  · split <;> rfl
theorem Compare_g (s t : ByteArray) (hs : s.size < 576460752303423488) (ht : t.size < 576460752303423488) : Ev (fun k => numeral_Compare.f k 32 s t) (ordG (genS (L s)) (genS (L t))) := by
  unfold numeral_Compare.f
  refine Ev.neg (by decide) (Ev.succ ?_)
  simp only [numeral_Compare.j0]
  refine Ev.neg (by decide) (Ev.neg (by decide) (Ev.neg (by decide) (Ev.pos trivial ?_)))
  refine Ev.bind (General_ev s (by omega)) (Ev.bind (General_ev t (by omega)) ?_)
  unfold ordG gnV
  simp only [Class_f, Option.bind_some, sizeOf_f]
  refine Ev.ite (fun h => ?_) (fun h => ?_)
  · rw [if_pos h]
    exact Ev.bind (order_ev _ _ (szS_sign _ _ _ _)) (Ev.pure _)
  · rw [if_neg h]
    exact Ev.pure _
theorem Compare_b (kind : Int) (h1 : ¬ (kind = 16 ∨ kind = 64)) (h2 : ¬ kind = 32) (h3 : ¬ kind = 128) (h4 : ¬ kind = 256) (s t : ByteArray) : Ev (fun k => numeral_Compare.f k kind s t) (bcmp (L s) (L t)) := by
  unfold numeral_Compare.f
  refine Ev.neg (fun h => h1 (Or.inl h)) (Ev.succ ?_)
  simp only [numeral_Compare.j0]
  refine Ev.neg (by simp; exact fun h => h1 (Or.inr h)) (Ev.neg h3 (Ev.neg h4 (Ev.neg h2 ?_)))
  simp only [Compare_str_f, Option.bind_some]
  exact Ev.pure _
theorem Compare_ev (kind : Int) (s t : ByteArray) (hs : s.size < 576460752303423488) (ht : t.size < 576460752303423488) : Ev (fun k => numeral_Compare.f k kind s t) (cmpS kind s t) := by
  unfold cmpS
  by_cases h1 : kind = 16 ∨ kind = 64
  · rw [if_pos h1]
    exact Compare_h kind h1 s t (by omega) (by omega)
  rw [if_neg h1]
  by_cases h2 : kind = 32
  · rw [if_pos h2]
    subst h2
    exact Compare_g s t hs ht
  rw [if_neg h2]
  by_cases h3 : kind = 128
  · rw [if_pos h3]
    subst h3
    exact Compare_m s t (by rw [big_eq]; omega) (by rw [big_eq]; omega)
  rw [if_neg h3]
  by_cases h4 : kind = 256
  · rw [if_pos h4]
    subst h4
    exact Compare_v s t (by rw [big_eq]; omega) (by rw [big_eq]; omega)
  rw [if_neg h4]
  exact Compare_b kind h1 h2 h3 h4 s t
end Go.Proofs.YtcdajedmlfhmeaaDoor.XN
end

section
/- NumeralPreorder, the plain law: each kind's order is the bytewise order of its embedding, and so a total preorder. (by this session) -/
-- NEEDS milllaw3_NumeralPreorder
set_option linter.unusedVariables false
set_option linter.unusedSimpArgs false
namespace Go.Proofs.YtcdajedmlfhmeaaDoor.XN
open Go.RowKit Go.Proofs.YtcdajedmlfhmeaaDoorW.PrintWords Go.Proofs.YtcdajedmlfhmeaaDoorW.PrintMore
theorem NumeralPreorder_ev (kind : Int) (a b c : ByteArray) (ha : a.size < 576460752303423488) (hb : b.size < 576460752303423488) (hc : c.size < 576460752303423488) : Ev (fun k => milllaw3_NumeralPreorder.f k kind a b c) true := by
  have r1 := cmpS_range kind a b ha hb
  have e1 := (emb_cp kind a b ha hb).out
  have e2 := (emb_cp kind b c hb hc).out
  have e3 := (emb_cp kind a c ha hc).out
  have e4 := (emb_cp kind a a ha ha).out
  have e5 := (emb_cp kind b a hb ha).out
  rw [bcmp_self] at e4
  rw [bcmp_flip, e1] at e5
  have tr := bcmp_trans (l := embE kind a) (m := embE kind b) (n := embE kind c)
  have zr : bcmp (embE kind a) (embE kind b) = 0 → embE kind a = embE kind b := bcmp_zero
  rw [e1, e2, e3] at tr
  rw [e1] at zr
  have eq0 : cmpS kind a b = 0 → cmpS kind a c = cmpS kind b c := by
    intro h
    rw [← e3, ← e2, zr h]
  unfold milllaw3_NumeralPreorder.f
  refine Ev.bind (Compare_ev kind a b ha hb) (Ev.bind (Compare_ev kind b c hb hc) (Ev.bind (Compare_ev kind a c ha hc) (Ev.bind alive_ev ?_)))
  refine Ev.pos rfl (Ev.neg (by omega) (Ev.neg (by omega) ?_))
  refine Ev.bind (Compare_ev kind a a ha ha) ?_
  refine Ev.pos e4.symm (Ev.bind (Compare_ev kind b a hb ha) (Ev.succ ?_))
  simp only [milllaw3_NumeralPreorder.j0]
  refine Ev.neg ?_ ?_
  · rw [w64 (by omega), ← e5]
    simp
  refine Ev.ite (fun h1 => ?_) (fun h1 => ?_)
  · refine Ev.ite (fun h2 => ?_) (fun h2 => ?_)
    · refine Ev.neg (by have := tr h1 h2; omega) (Ev.ite (fun h3 => ?_) (fun h3 => Ev.pure _))
      exact Ev.done (by rw [eq0 h3]; simp)
    · refine Ev.ite (fun h3 => ?_) (fun h3 => Ev.pure _)
      exact Ev.done (by rw [eq0 h3]; simp)
  · refine Ev.ite (fun h3 => ?_) (fun h3 => Ev.pure _)
    exact Ev.done (by rw [eq0 h3]; simp)
end Go.Proofs.YtcdajedmlfhmeaaDoor.XN
namespace Go.Proofs.YtcdajedmlfhmeaaDoor.Pure
theorem NumeralPreorder : XN.milllaw3_NumeralPreorder.Pure := fun kind a b c _ ha hb hc => (XN.NumeralPreorder_ev kind a b c (by omega) (by omega) (by omega)).ex
end Go.Proofs.YtcdajedmlfhmeaaDoor.Pure
end

section
/- The card of NumeralPreorder: the law answers true at every input. Conditions: none beyond the row's own. -/
set_option linter.unusedVariables false
namespace Go.Proofs.YtcdajedmlfhmeaaDoor.numeralPreorder
open Go.ChangeShapes Go.WideShapes Go.ChangeAt Go.RowKit
open Go.ChangeMaps (open_string shut_string)
theorem own : ownKnob Tryd.prog.godebug = none := by kernel_rfl
set_option maxRecDepth 100000 in
/-- What the walk gives, at every argument and every world that holds the listed variables. -/
theorem contract (H : Type) (enc : TypeId × Value → H) (W : World) (args : Array Value) (ds gs : List (DataW H)) (before : List MemPlace) (base : Nat)
    (hval0 : ∀ (j : Nat) t v, Tryd.f7.params[j]? = some t → args[j]? = some v → Value.okWide Tryd.prog W .any base t v)
    (hW : DataW.Whole enc Tryd.prog Tryd.f7.params.toList Rows.numeralPreorderSpec.vars false W args.toList ds gs before)
    (hsz0 : (DataW.weightsEach Tryd.prog (Tryd.f7.params.toList ++ Rows.numeralPreorderSpec.plain.varTypes Tryd.prog) (ds ++ gs)).all (· ≤ reachBytes) = true)
    (hL : laidMetH Tryd.prog Rows.numeralPreorderRow.laid W) (hS : W.ShapedOpen Tryd.prog) :
    Calls Tryd.prog 7 args W fun e W' => ∃ v, e = .returned v ∧ Rows.numeralPreorderSpec.post enc Tryd.prog Tryd.f7 false true false false W args v W' := by
  have hGL : XN.GOK W := XN.gok_of hL (by kernel_rfl) hS 1 2 rfl rfl
  have hsz : (DataW.weightsEach Tryd.prog (Tryd.f7.params.toList ++ Rows.numeralPreorderSpec.plain.varTypes Tryd.prog) (ds ++ gs)).all (· ≤ reachBytes) = true := hsz0
  have hval : ∀ (j : Nat) t v, Tryd.f7.params[j]? = some t → args[j]? = some v → Value.okWide Tryd.prog W .any base t v := hval0
  have hW' := hW
  obtain ⟨p, q, hA0, hV, rfl, hfz, hnd⟩ := hW
  have hA : DataW.TrodAll enc Tryd.prog W 0 (fun _ => true) true Tryd.f7.params.toList args.toList ds p := hA0
  rw [Tryd.params7] at hA hval hsz
  obtain ⟨v0, vs0, d0, ds0, p0, q0, hargs, rfl, rfl, h0, r0⟩ := trodAll_cons hA
  obtain ⟨v1, vs1, d1, ds1, p1, q1, rfl, rfl, rfl, h1, r1⟩ := trodAll_cons r0
  obtain ⟨v2, vs2, d2, ds2, p2, q2, rfl, rfl, rfl, h2, r2⟩ := trodAll_cons r1
  obtain ⟨v3, vs3, d3, ds3, p3, q3, rfl, rfl, rfl, h3, r3⟩ := trodAll_cons r2
  obtain ⟨rfl, rfl, rfl⟩ := trodAll_nil r3
  obtain rfl : args = #[v0, v1, v2, v3] := by cases args; simp_all
  obtain ⟨rfl, rfl⟩ := trodVars_none hV
  obtain ⟨a0, rfl, rfl, rfl, w0⟩ := open_int Tryd.underlying39 (hval 0 39 v0 rfl rfl) h0
  obtain ⟨a1, rfl, rfl, rfl, y1⟩ := open_string Tryd.underlying9 (hval 1 9 v1 rfl rfl) h1
  have w1 : a1.size ≤ 140737488351232 := by
    have z := sized_string hsz (j := 1) (t := 9) rfl rfl
    rw [Array.length_toList] at z
    exact z
  obtain ⟨a2, rfl, rfl, rfl, y2⟩ := open_string Tryd.underlying9 (hval 2 9 v2 rfl rfl) h2
  have w2 : a2.size ≤ 140737488351232 := by
    have z := sized_string hsz (j := 2) (t := 9) rfl rfl
    rw [Array.length_toList] at z
    exact z
  obtain ⟨a3, rfl, rfl, rfl, y3⟩ := open_string Tryd.underlying9 (hval 3 9 v3 rfl rfl) h3
  have w3 : a3.size ≤ 140737488351232 := by
    have z := sized_string hsz (j := 3) (t := 9) rfl rfl
    rw [Array.length_toList] at z
    exact z
  clear hA0 hval0 hsz0 hsz
  refine (XN.milllaw3_NumeralPreorder.walk Pure.NumeralPreorder a0 a1 a2 a3 W hGL w0 w1 w2 w3).mono fun e W' ⟨he, bel⟩ => ?_
  subst he
  exact ⟨_, rfl, _, _, _, [], _, [], hW', trodAll_mk1 (shut_bool Tryd.underlying4 _), (trodAll_cons_mk (shut_int Tryd.underlying39 w0) (trodAll_cons_mk (shut_string Tryd.underlying9 y1) (trodAll_cons_mk (shut_string Tryd.underlying9 y2) (trodAll_cons_mk (shut_string Tryd.underlying9 y3) trodAll_mk0)))), rfl, bel.frame _, fun h => by cases h⟩
set_option maxRecDepth 100000 in
theorem lifted (os : Os) (started : os.Started) (H : Type) (enc : TypeId × Value → H) (F : Stop.Interp) :
    ReturnsInHanded {} Tryd.checked os 7 .any ((OpenSpec.ofChange Rows.numeralPreorderSpec).preRow enc Tryd.prog Tryd.f7 Rows.numeralPreorderRow.domain false Rows.numeralPreorderRow.laid) (((OpenSpec.ofChange Rows.numeralPreorderSpec).at F).post enc Tryd.prog Tryd.f7 false true false false) := by
  have hx : ∃ places, DataW.whole enc Tryd.prog ((World.laidAll Tryd.prog os Rows.numeralPreorderRow.laid).forCall (fun _ _ => 0) ⟨#[], #[.int .u16 0, .string ⟨#[]⟩, .string ⟨#[]⟩, .string ⟨#[]⟩], []⟩).memory Tryd.f7.params.toList Rows.numeralPreorderSpec.vars false (#[.int .u16 0, .string ⟨#[]⟩, .string ⟨#[]⟩, .string ⟨#[]⟩] : Array Value).toList 8 = some ([.lit (.int .u16 0), .lit (.string []), .lit (.string []), .lit (.string [])], [], places) :=
    ⟨[], by kernel_rfl⟩
  obtain ⟨places, hx⟩ := hx
  refine returnsInHanded_of_row (C := Tryd.checked) (s := (OpenSpec.ofChange Rows.numeralPreorderSpec)) own started (by kernel_rfl) Tryd.func7
    (witness_row_at (enc := enc) (C := Tryd.checked) false (World.laidAll Tryd.prog os Rows.numeralPreorderRow.laid) #[.int .u16 0, .string ⟨#[]⟩, .string ⟨#[]⟩, .string ⟨#[]⟩] (World.laidAll_os _ _ _) (by kernel_rfl) (by kernel_rfl) (by kernel_rfl)
      (OpenSpec.preRow_of_cond 8 hx (by kernel_rfl) (fun k hk => by cases hk) (by kernel_rfl) (laidMet_laidAll _ (by kernel_rfl) (by kernel_rfl)))) ?_
  intro W base args ds gs before hval hW _ _ hsz hL hS _
  exact contract H enc W args ds gs before base hval hW hsz hL hS
theorem said : Rows.NumeralPreorderSaid :=
  OpenClaim.holds_of_cond 7 Tryd.f7 rfl rfl rfl rfl rfl rfl rfl ⟨rfl, rfl, rfl, rfl, rfl⟩ rfl rfl rfl rfl rfl (by kernel_rfl) Tryd.func7 (by kernel_rfl)
    (of_decide_eq_true (by kernel_rfl)) (by unfold Func.isWrapper; first | (rw [if_pos (by decide +kernel)]; kernel_rfl) | (rw [if_neg (by decide +kernel)]; exact ⟨rfl, rfl⟩))
    (fun os started H enc _ F => by rw [OpenClaim.pre_eq_preRow]; exact lifted os started H enc F)
theorem plain (f : FuncId) (fn : Func) (hf : Tryd.pinned.checked.prog.funcNamed "mill/milllaw3.NumeralPreorder" = some f) (hfn : Tryd.pinned.checked.prog.funcs[f]? = some fn) :
    false = Tryd.pinned.checked.prog.looks [] ∧ ∀ (j : Nat) t, fn.params[j]? = some t → Tryd.pinned.checked.prog.wantsStandIn t = false := by
  obtain rfl : f = 7 := Option.some.inj ((show Tryd.prog.funcNamed "mill/milllaw3.NumeralPreorder" = some 7 by kernel_rfl).symm.trans hf) |>.symm
  obtain rfl : fn = Tryd.f7 := (Option.some.inj (Tryd.func7.symm.trans hfn)).symm
  refine ⟨by kernel_rfl, fun j t ht => ?_⟩
  rw [Tryd.params7] at ht
  have hm := Array.mem_of_getElem? ht
  simp only [List.mem_toArray, List.mem_cons, List.not_mem_nil, or_false] at hm
  rcases hm with rfl | rfl | rfl | rfl
  · exact (show Tryd.prog.wantsStandIn 39 = false by kernel_rfl)
  · exact (show Tryd.prog.wantsStandIn 9 = false by kernel_rfl)
  · exact (show Tryd.prog.wantsStandIn 9 = false by kernel_rfl)
  · exact (show Tryd.prog.wantsStandIn 9 = false by kernel_rfl)
theorem card : Rows.NumeralPreorderCardSaid :=
  Claim7.holds_tied_plain_at .later [] _ _ _ _ said (fun _ h => by cases h) (by kernel_rfl) (fun _ h => by cases h) numeralPreorder_row_tie rfl ⟨rfl, rfl⟩ (by kernel_rfl) rfl plain (by kernel_rfl)
#print axioms card
end Go.Proofs.YtcdajedmlfhmeaaDoor.numeralPreorder
namespace Go.Proofs.YtcdajedmlfhmeaaDoor
/-- The card, under a short name, for the claim. -/
theorem numeralPreorder_card : Rows.NumeralPreorderCardSaid := numeralPreorder.card
end Go.Proofs.YtcdajedmlfhmeaaDoor
end
