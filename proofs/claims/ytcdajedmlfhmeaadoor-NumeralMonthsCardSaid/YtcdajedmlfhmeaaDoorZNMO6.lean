import Derived.Test.YtcdajedmlfhmeaaDoorZNMO0
import Derived.Test.YtcdajedmlfhmeaaDoorZNMO1
import Derived.Test.YtcdajedmlfhmeaaDoorZNMO3
import Derived.Test.YtcdajedmlfhmeaaDoorZNMO5
import Derived.Test.YtcdajedmlfhmeaaDoorZNMO4
namespace Go.Proofs.YtcdajedmlfhmeaaDoor.XN
open Go.RowKit Go.Proofs.YtcdajedmlfhmeaaDoorW.PrintWords Go.Proofs.YtcdajedmlfhmeaaDoorW.PrintLast Go.Proofs.YtcdajedmlfhmeaaDoorW.PrintMore
attribute [local go_sem] max2_int min2_int max_two min_two max_three min_three max_four min_four
set_option linter.unusedVariables false
set_option linter.unusedSimpArgs false

/-! ### numeral_General: function 17 -/
mutual
def numeral_General.j0 : Nat → ByteArray → Int → Bool → Option (Int × Bool × ByteArray × Int × Int)
 | 0, _, _, _ => none
 | k + 1, x0, x3, x4 => if x4 = true then (numeral_General.j1 k x0 x3 x4 true) else (if x3 < (x0.size : Int) then (if 0 ≤ x3 then (numeral_General.j1 k x0 x3 x4 ((bt x0 x3) == 43)) else (none)) else (numeral_General.j1 k x0 x3 x4 false))
def numeral_General.j1 : Nat → ByteArray → Int → Bool → Bool → Option (Int × Bool × ByteArray × Int × Int)
 | 0, _, _, _, _ => none
 | k + 1, x0, x3, x4, x36 => if x36 = true then (numeral_General.j2 k x0 (wrap64 (x3 + 1)) x4) else (numeral_General.j2 k x0 x3 x4)
def numeral_General.j2 : Nat → ByteArray → Int → Bool → Option (Int × Bool × ByteArray × Int × Int)
 | 0, _, _, _ => none
 | k + 1, x0, x3, x4 => numeral_General.l0 k x0 x3 x4 0
def numeral_General.l0 : Nat → ByteArray → Int → Bool → Int → Option (Int × Bool × ByteArray × Int × Int)
 | 0, _, _, _, _ => none
 | k + 1, x0, x3, x4, x40 => if x40 < 3 then (if x40 = 0 then ((numeral_begins.f k x0 x3 (⟨#[105, 110, 102, 105, 110, 105, 116, 121]⟩ : ByteArray)).bind fun t148 => (if t148 = true then (if x4 = true then (numeral_General.j4 k (⟨#[105, 110, 102, 105, 110, 105, 116, 121]⟩ : ByteArray) 2 false (⟨#[]⟩ : ByteArray) 0 (wrap64 (x3 + 8))) else (numeral_General.j4 k (⟨#[105, 110, 102, 105, 110, 105, 116, 121]⟩ : ByteArray) 4 false (⟨#[]⟩ : ByteArray) 0 (wrap64 (x3 + 8)))) else (numeral_General.l0 k x0 x3 x4 (wrap64 (x40 + 1))))) else (if x40 = 1 then ((numeral_begins.f k x0 x3 (⟨#[105, 110, 102]⟩ : ByteArray)).bind fun t151 => (if t151 = true then (if x4 = true then (numeral_General.j5 k (⟨#[105, 110, 102]⟩ : ByteArray) 2 false (⟨#[]⟩ : ByteArray) 0 (wrap64 (x3 + 3))) else (numeral_General.j5 k (⟨#[105, 110, 102]⟩ : ByteArray) 4 false (⟨#[]⟩ : ByteArray) 0 (wrap64 (x3 + 3)))) else (numeral_General.l0 k x0 x3 x4 (wrap64 (x40 + 1))))) else (if x40 = 2 then ((numeral_begins.f k x0 x3 (⟨#[110, 97, 110]⟩ : ByteArray)).bind fun t154 => (if t154 = true then (if x4 = true then (numeral_General.j6 k (⟨#[110, 97, 110]⟩ : ByteArray) 2 false (⟨#[]⟩ : ByteArray) 0 (wrap64 (x3 + 3))) else (numeral_General.j6 k (⟨#[110, 97, 110]⟩ : ByteArray) 4 false (⟨#[]⟩ : ByteArray) 0 (wrap64 (x3 + 3)))) else (numeral_General.l0 k x0 x3 x4 (wrap64 (x40 + 1))))) else (none)))) else ((numeral_plain.f x0 x3).bind fun bt156 => (if bt156.2.2.2 = 0 then (some (0, false, (⟨#[]⟩ : ByteArray), 0, 0)) else ((numeral_exponent.f k x0 bt156.2.2.2).bind fun bt161 => ((numeral_digits.f k bt156.2.1 bt156.2.2.1 bt161.1).bind fun bt164 => (if x4 = true then (some (3, (!bt164.1.toList.isEmpty), bt164.1, bt164.2, bt161.2)) else (some (3, false, bt164.1, bt164.2, bt161.2)))))))
def numeral_General.j4 : Nat → ByteArray → Int → Bool → ByteArray → Int → Int → Option (Int × Bool × ByteArray × Int × Int)
 | 0, _, _, _, _, _, _ => none
 | k + 1, x6, x150000, x150001, x150002, x150003, x150004 => if x6.toList = ([110, 97, 110] : List UInt8) then (some (1, x150001, x150002, x150003, x150004)) else (some (x150000, x150001, x150002, x150003, x150004))
def numeral_General.j5 : Nat → ByteArray → Int → Bool → ByteArray → Int → Int → Option (Int × Bool × ByteArray × Int × Int)
 | 0, _, _, _, _, _, _ => none
 | k + 1, x6, x153000, x153001, x153002, x153003, x153004 => if x6.toList = ([110, 97, 110] : List UInt8) then (some (1, x153001, x153002, x153003, x153004)) else (some (x153000, x153001, x153002, x153003, x153004))
def numeral_General.j6 : Nat → ByteArray → Int → Bool → ByteArray → Int → Int → Option (Int × Bool × ByteArray × Int × Int)
 | 0, _, _, _, _, _, _ => none
 | k + 1, x6, x156000, x156001, x156002, x156003, x156004 => if x6.toList = ([110, 97, 110] : List UInt8) then (some (1, x156001, x156002, x156003, x156004)) else (some (x156000, x156001, x156002, x156003, x156004))
end
def numeral_General.f (k : Nat) (a0 : ByteArray) : Option (Int × Bool × ByteArray × Int × Int) := (numeral_blanks.f k a0).bind fun t146 => (if t146 < (a0.size : Int) then (if 0 ≤ t146 then (numeral_General.j0 k a0 t146 ((bt a0 t146) == 45)) else (none)) else (numeral_General.j0 k a0 t146 false))
set_option maxHeartbeats 8000000 in
set_option maxRecDepth 100000 in
theorem numeral_General.calls (k : Nat) (a0 : ByteArray) (r1 : Int) (r2 : Bool) (r3 : ByteArray) (r4 : Int) (r5 : Int) (w : World) (h : numeral_General.f k a0 = some (r1, r2, r3, r4, r5)) :
  Calls Tryd.prog 17 #[.string a0] w fun e w' => e = .returned (.agg #[.int .u8 r1, .bool r2, .string r3, .int .i64 r4, .int .i64 r5]) ∧ Below w.heap.size w w' := by
 have hu29 := Tryd.underlying29
 have hu57 := Tryd.underlying57
 have hu55 := Tryd.underlying55
 have HB := Aside0.mk (Below.refl w.heap.size w)
 have H : ((numeral_blanks.f k a0).bind fun t146 => (if t146 < (a0.size : Int) then (if 0 ≤ t146 then (numeral_General.j0 k a0 t146 ((bt a0 t146) == 45)) else (none)) else (numeral_General.j0 k a0 t146 false))) = some (r1, r2, r3, r4, r5) := h
 clear h
 replace H := Option.bind_eq_some_iff.mp H
 obtain ⟨t146, A20, H⟩ := H
 replace H : (if t146 < (a0.size : Int) then (if 0 ≤ t146 then (numeral_General.j0 k a0 t146 ((bt a0 t146) == 45)) else (none)) else (numeral_General.j0 k a0 t146 false)) = some (r1, r2, r3, r4, r5) := H
 have A2 := Aside0.mk A20
 clear A20
 have HC3 := Aside0.mk H
 clear H
 go_enter Tryd.func17, Tryd.ntmps17
 have tk5 : True := trivial; have tk6 : True := trivial
 go_upto_region 2 with (first | (have ztk5 := tk5; clear tk5 ztk5; (with_reducible refine gate_dst (N := 2) rfl ?_); (try (refine gate_guard (by rfl) ?_; dsimp only)); refine box_event ?hg (N := 2) ?hd (cs := #[.int .u8 0, .bool false, .string (⟨#[]⟩ : ByteArray), .int .i64 0, .int .i64 0]) (t := 29) ?hr ?_; (case hd => rfl); (case hg => rfl); (case hr => first | (go_simp; done) | (go_simp; rfl)); intro gb145 hg w4 hbox hb; have n0_ := Aside0.mk (below_step qnmo1_ hb); have n1_ := Aside0.mk (hbox); have n2_ := Aside0.mk ((by rw [hg]; exact (below_size qnmo1_) : w.heap.size ≤ gb145)); have n3_ := Aside0.mk ((by rw [hg]; exact (below_size qnmo1_) : w.heap.size ≤ gb145)); clear HB; have HB := n0_; have BK145 := n1_; have GW145 := n2_; have GE145 := n3_; clear n0_ n1_ n2_ n3_; clear hb hbox hg) | (have ztk6 := tk6; clear tk6 ztk6; (with_reducible refine gate_callee (f := 34) rfl ?_); refine goesL_ (some 13) rfl rfl Tryd.func34 (by kernel_rfl) rfl #[.string a0] rfl qnmo0_ ?_; (with_reducible refine (numeral_blanks.calls k a0 t146 _ A2.out).mono ?_); rintro e w' ⟨rfl, ⟨nd, rfl⟩⟩; refine ⟨_, rfl, ?_⟩))
 (try simp only [Act.put, List.setIfInBounds_toArray, List.set_cons_zero, List.set_cons_succ])
 go_cut [4] (fun v4 wc => ∃ (kq : Nat) (x4_2 : Bool), v4 = .bool x4_2 ∧ Aside0 (numeral_General.j0 kq a0 t146 x4_2 = some (r1, r2, r3, r4, r5)) ∧ Aside0 (kq ≤ k) ∧ Aside0 (wc.heap[gb145]? = some (.cells #[.int .u8 0, .bool false, .string (⟨#[]⟩ : ByteArray), .int .i64 0, .int .i64 0] 29 (0, 0))) ∧ Aside0 (Below w.heap.size w wc))
 case first =>
  have H := HC3.out
  clear HC3
  by_cases c7 : t146 < (a0.size : Int)
  ·
   rw [if_pos c7] at H
   have c7b0 : decide (t146 < (a0.size : Int)) = true := decide_eq_true c7
   clear c7
   (first | rw [c7b0] | (simp only [i64_w, i32_w]; rw [c7b0]) | skip)
   by_cases c8 : 0 ≤ t146
   ·
    rw [if_pos c8] at H
    have c8b0 : decide (0 ≤ t146) = true := decide_eq_true c8
    clear c8
    have H' := Aside0.mk H
    clear H
    have p9 : 0 ≤ (t146 : Int) := of_decide_eq_true qnmo5_
    have q9 : t146 < (a0.size : Int) := of_decide_eq_true qnmo5_
    have hx9 := bt_at a0 t146
    replace p9 := eq_true p9
    replace q9 := eq_true q9
    go_wp2
    go_meet
    case rel => exact ⟨_, (((bt a0 t146) == 45)), qnmo2_, H', ⟨by first | omega | exact Nat.le_refl _⟩, ⟨qnmo8_⟩, ⟨qnmo7_⟩⟩
   ·
    rw [if_neg c8] at H
    exact absurd H (by simp)
  ·
   rw [if_neg c7] at H
   have c7b0 : decide (t146 < (a0.size : Int)) = false := decide_eq_false c7
   clear c7
   (first | rw [c7b0] | (simp only [i64_w, i32_w]; rw [c7b0]) | skip)
   have H' := Aside0.mk H
   clear H
   go_wp2
   go_meet
   case rel => exact ⟨_, (false), qnmo2_, H', ⟨by first | omega | exact Nat.le_refl _⟩, ⟨qnmo8_⟩, ⟨qnmo7_⟩⟩
 case rest =>
  clear HC3
  (try clear c1); (try clear p2); (try clear c3); (try clear c7); (try clear c7b0); (try clear c8); (try clear c8b0); (try clear p9); (try clear q9); (try clear hx9); (try clear p9); (try clear q9)
  obtain ⟨kq, x4_2, rfl, HA, HJ2, BK145, HB⟩ := hcut
  cases kq with
  | zero => exact absurd HA.out (by simp [numeral_General.j0])
  | succ kj2 =>
   have H := HA.out
   clear HA
   simp only [numeral_General.j0] at H
   have HC10 := Aside0.mk H
   clear H
   go_upto_region 3 with (fail)
   go_cut [36] (fun v36 wc => ∃ (kq : Nat) (x36_9 : Bool), v36 = .bool x36_9 ∧ Aside0 (numeral_General.j1 kq a0 t146 x4_2 x36_9 = some (r1, r2, r3, r4, r5)) ∧ Aside0 (kq ≤ kj2) ∧ Aside0 (wc.heap[gb145]? = some (.cells #[.int .u8 0, .bool false, .string (⟨#[]⟩ : ByteArray), .int .i64 0, .int .i64 0] 29 (0, 0))) ∧ Aside0 (Below w.heap.size w wc))
   case first =>
    have H := HC10.out
    clear HC10
    by_cases c11 : x4_2 = true
    ·
     subst c11
     have H1 : (numeral_General.j1 kj2 a0 t146 true true) = some (r1, r2, r3, r4, r5) := by rw [if_pos rfl] at H; exact H
     clear H
     have H := H1
     clear H1
     have H' := Aside0.mk H
     clear H
     go_wp2
     go_meet
     case rel => exact ⟨_, (true), qnmo2_, H', ⟨by have := HJ2.out; first | omega | exact Nat.le_refl _⟩, ⟨qnmo8_⟩, ⟨qnmo7_⟩⟩
    ·
     replace c11 := Bool.eq_false_iff.mpr c11
     subst c11
     have H1 : (if t146 < (a0.size : Int) then (if 0 ≤ t146 then (numeral_General.j1 kj2 a0 t146 false ((bt a0 t146) == 43)) else (none)) else (numeral_General.j1 kj2 a0 t146 false false)) = some (r1, r2, r3, r4, r5) := by rw [if_neg (show ¬ (false = true) by decide)] at H; exact H
     clear H
     have H := H1
     clear H1
     by_cases c12 : t146 < (a0.size : Int)
     ·
      rw [if_pos c12] at H
      have c12b0 : decide (t146 < (a0.size : Int)) = true := decide_eq_true c12
      clear c12
      (first | rw [c12b0] | (simp only [i64_w, i32_w]; rw [c12b0]) | skip)
      by_cases c13 : 0 ≤ t146
      ·
       rw [if_pos c13] at H
       have c13b0 : decide (0 ≤ t146) = true := decide_eq_true c13
       clear c13
       have H' := Aside0.mk H
       clear H
       have p14 : 0 ≤ (t146 : Int) := of_decide_eq_true qnmo5_
       have q14 : t146 < (a0.size : Int) := of_decide_eq_true qnmo5_
       have hx14 := bt_at a0 t146
       replace p14 := eq_true p14
       replace q14 := eq_true q14
       go_wp2
       go_meet
       case rel => exact ⟨_, (((bt a0 t146) == 43)), qnmo2_, H', ⟨by have := HJ2.out; first | omega | exact Nat.le_refl _⟩, ⟨qnmo8_⟩, ⟨qnmo7_⟩⟩
      ·
       rw [if_neg c13] at H
       exact absurd H (by simp)
     ·
      rw [if_neg c12] at H
      have c12b0 : decide (t146 < (a0.size : Int)) = false := decide_eq_false c12
      clear c12
      (first | rw [c12b0] | (simp only [i64_w, i32_w]; rw [c12b0]) | skip)
      have H' := Aside0.mk H
      clear H
      go_wp2
      go_meet
      case rel => exact ⟨_, (false), qnmo2_, H', ⟨by have := HJ2.out; first | omega | exact Nat.le_refl _⟩, ⟨qnmo8_⟩, ⟨qnmo7_⟩⟩
   case rest =>
    clear HC10
    (try clear c1); (try clear p1); (try clear q1); (try clear hx1); (try clear p2); (try clear c3); (try clear c7); (try clear c7b0); (try clear c8); (try clear c8b0); (try clear p9); (try clear q9); (try clear hx9); (try clear c11); (try clear c12); (try clear c12b0); (try clear c13); (try clear c13b0); (try clear p14); (try clear q14); (try clear hx14); (try clear p14); (try clear p2); (try clear p9)
    (try clear q14); (try clear q9)
    obtain ⟨kq, x36_9, rfl, HA, HJ9, BK145, HB⟩ := hcut
    cases kq with
    | zero => exact absurd HA.out (by simp [numeral_General.j1])
    | succ kj9 =>
     have H := HA.out
     clear HA
     simp only [numeral_General.j1] at H
     have HC15 := Aside0.mk H
     clear H
     go_upto_if 36 with (fail)
     go_cut [3] (fun v3 wc => ∃ (kq : Nat) (x3_14 : Int), v3 = .int .i64 x3_14 ∧ Aside0 (numeral_General.j2 kq a0 x3_14 x4_2 = some (r1, r2, r3, r4, r5)) ∧ Aside0 (kq ≤ kj9) ∧ Aside0 (wc.heap[gb145]? = some (.cells #[.int .u8 0, .bool false, .string (⟨#[]⟩ : ByteArray), .int .i64 0, .int .i64 0] 29 (0, 0))) ∧ Aside0 (Below w.heap.size w wc))
     case first =>
      have H := HC15.out
      clear HC15
      by_cases c16 : x36_9 = true
      ·
       subst c16
       have H1 : (numeral_General.j2 kj9 a0 (wrap64 (t146 + 1)) x4_2) = some (r1, r2, r3, r4, r5) := by rw [if_pos rfl] at H; exact H
       clear H
       have H := H1
       clear H1
       have H' := Aside0.mk H
       clear H
       go_wp2
       go_meet
       case rel => exact ⟨_, (wrap64 (t146 + 1)), qnmo2_, H', ⟨by have := HJ2.out; have := HJ9.out; first | omega | exact Nat.le_refl _⟩, ⟨qnmo8_⟩, ⟨qnmo7_⟩⟩
      ·
       replace c16 := Bool.eq_false_iff.mpr c16
       subst c16
       have H1 : (numeral_General.j2 kj9 a0 t146 x4_2) = some (r1, r2, r3, r4, r5) := by rw [if_neg (show ¬ (false = true) by decide)] at H; exact H
       clear H
       have H := H1
       clear H1
       have H' := Aside0.mk H
       clear H
       go_wp2
       go_meet
       case rel => exact ⟨_, (t146), qnmo2_, H', ⟨by have := HJ2.out; have := HJ9.out; first | omega | exact Nat.le_refl _⟩, ⟨qnmo8_⟩, ⟨qnmo7_⟩⟩
     case rest =>
      clear HC15
      (try clear c1); (try clear p1); (try clear q1); (try clear hx1); (try clear p2); (try clear c3); (try clear p6); (try clear c7); (try clear c7b0); (try clear c8); (try clear c8b0); (try clear p9); (try clear q9); (try clear hx9); (try clear c11); (try clear c12); (try clear c12b0); (try clear c13); (try clear c13b0); (try clear p14); (try clear q14); (try clear hx14); (try clear c16); (try clear p1)
      (try clear p14); (try clear p2); (try clear p9); (try clear q1); (try clear q14); (try clear q9)
      obtain ⟨kq, x3_14, rfl, HA, HJ14, BK145, HB⟩ := hcut
      cases kq with
      | zero => exact absurd HA.out (by simp [numeral_General.j2])
      | succ kj14 =>
       have H := HA.out
       clear HA
       simp only [numeral_General.j2] at H
       have H' := Aside0.mk H
       clear H
       go_wp2
       go_loopg [40] kj14 (fun kq v40 w' => ∃ (x40_4 : Int) (x146000_4 : Int) (x146001_4 : Bool) (x146002_4 : ByteArray) (x146003_4 : Int) (x146004_4 : Int), v40 = .int .i64 x40_4 ∧ Aside0 (numeral_General.l0 kq a0 x3_14 x4_2 x40_4 = some (r1, r2, r3, r4, r5)) ∧ Aside0 (kq ≤ kj14) ∧ Aside0 (w'.heap[gb145]? = some (.cells #[.int .u8 x146000_4, .bool x146001_4, .string x146002_4, .int .i64 x146003_4, .int .i64 x146004_4] 29 (0, 0))) ∧ Aside0 (Below w.heap.size w w'))
       case atStart => exact ⟨(0), (0), (false), ((⟨#[]⟩ : ByteArray)), (0), (0), qnmo2_, H', ⟨Nat.le_refl _⟩, ⟨qnmo8_⟩, ⟨qnmo7_⟩⟩
       case round =>
        clear H'
        (try clear c1); (try clear p1); (try clear q1); (try clear hx1); (try clear p2); (try clear c3); (try clear p6); (try clear c7); (try clear c7b0); (try clear c8); (try clear c8b0); (try clear p9); (try clear q9); (try clear hx9); (try clear c11); (try clear c12); (try clear c12b0); (try clear c13); (try clear c13b0); (try clear p14); (try clear q14); (try clear hx14); (try clear c16); (try clear p1)
        (try clear p14); (try clear p2); (try clear p6); (try clear p9); (try clear q1); (try clear q14); (try clear q9)
        obtain ⟨x40_4, x146000_4, x146001_4, x146002_4, x146003_4, x146004_4, rfl, HA, HK4, BK145, HB⟩ := hrel
        cases gk with
        | zero => exact absurd HA.out (by simp [numeral_General.l0])
        | succ k4 =>
         have H := HA.out
         clear HA
         simp only [numeral_General.l0] at H
         by_cases c17 : x40_4 < 3
         ·
          rw [if_pos c17] at H
          have c17b0 : decide (x40_4 < 3) = true := decide_eq_true c17
          clear c17
          by_cases c18 : x40_4 = 0
          ·
           rw [if_pos c18] at H
           have c18b0 : (x40_4 == 0) = true := beq_iff_eq.mpr c18
           have c18b1 : (x40_4 != 0) = false := bne_eq_false_iff_eq.mpr c18
           clear c18
           have ix147 : ∀ W_ : World, (Instr.index 57 (.agg #[.string (⟨#[105, 110, 102, 105, 110, 105, 116, 121]⟩ : ByteArray), .string (⟨#[105, 110, 102]⟩ : ByteArray), .string (⟨#[110, 97, 110]⟩ : ByteArray)]) (.int .i64 x40_4)).run Tryd.prog W_ = .ok (.string (⟨#[105, 110, 102, 105, 110, 105, 116, 121]⟩ : ByteArray)) W_ := by rw [show x40_4 = 0 from beq_iff_eq.mp qnmo5_]; exact fun _ => by kernel_rfl
           replace H := Option.bind_eq_some_iff.mp H
           obtain ⟨t148, A190, H⟩ := H
           replace H : (if t148 = true then (if x4_2 = true then (numeral_General.j4 k4 (⟨#[105, 110, 102, 105, 110, 105, 116, 121]⟩ : ByteArray) 2 false (⟨#[]⟩ : ByteArray) 0 (wrap64 (x3_14 + 8))) else (numeral_General.j4 k4 (⟨#[105, 110, 102, 105, 110, 105, 116, 121]⟩ : ByteArray) 4 false (⟨#[]⟩ : ByteArray) 0 (wrap64 (x3_14 + 8)))) else (numeral_General.l0 k4 a0 x3_14 x4_2 (wrap64 (x40_4 + 1)))) = some (r1, r2, r3, r4, r5) := H
           have A19 := Aside0.mk A190
           clear A190
           by_cases c20 : t148 = true
           ·
            subst c20
            have H1 : (if x4_2 = true then (numeral_General.j4 k4 (⟨#[105, 110, 102, 105, 110, 105, 116, 121]⟩ : ByteArray) 2 false (⟨#[]⟩ : ByteArray) 0 (wrap64 (x3_14 + 8))) else (numeral_General.j4 k4 (⟨#[105, 110, 102, 105, 110, 105, 116, 121]⟩ : ByteArray) 4 false (⟨#[]⟩ : ByteArray) 0 (wrap64 (x3_14 + 8)))) = some (r1, r2, r3, r4, r5) := by rw [if_pos rfl] at H; exact H
            clear H
            have H := H1
            clear H1
            have HC21 := Aside0.mk H
            clear H
            have tk26 : True := trivial; have tk27 : True := trivial
            go_upto_if 53 with (first | (have ztk26 := tk26; clear tk26 ztk26; (with_reducible refine gate_callee (f := 35) rfl ?_); refine goesL_ (some 46) rfl rfl Tryd.func35 (by kernel_rfl) rfl #[.string a0, .int .i64 x3_14, .string (⟨#[105, 110, 102, 105, 110, 105, 116, 121]⟩ : ByteArray)] rfl qnmo0_ ?_; (with_reducible refine (numeral_begins.calls k4 a0 x3_14 (⟨#[105, 110, 102, 105, 110, 105, 116, 121]⟩ : ByteArray) true _ A19.out).mono ?_); rintro e w' ⟨rfl, ⟨nd, rfl⟩⟩; refine ⟨_, rfl, ?_⟩; (try (rw [drewN_self wr]; generalize hq_ : World.drewN wr _ = wr; have n0_ : Aside0 (wr.heap[gb145]? = some (.cells #[.int .u8 x146000_4, .bool x146001_4, .string x146002_4, .int .i64 x146003_4, .int .i64 x146004_4] 29 (0, 0))) := ⟨by rw [← hq_]; exact qnmo8_⟩; have n1_ : Aside0 (Below w.heap.size w wr) := ⟨by rw [← hq_]; exact qnmo7_⟩; clear BK145 HB hq_; have BK145 := n0_; have HB := n1_; clear n0_ n1_)); (try (have hcu22_0 : wr.cell? ⟨gb145, 0, none⟩ = some (.int .u8 x146000_4) := (blk_cell BK145.out 0).trans rfl; have hfu22_0 := blk_frozen BK145.out 0; have hcu22_1 : wr.cell? ⟨gb145, 1, none⟩ = some (.bool x146001_4) := (blk_cell BK145.out 1).trans rfl; have hfu22_1 := blk_frozen BK145.out 1; have hcu22_2 : wr.cell? ⟨gb145, 2, none⟩ = some (.string x146002_4) := (blk_cell BK145.out 2).trans rfl; have hfu22_2 := blk_frozen BK145.out 2; have hcu22_3 : wr.cell? ⟨gb145, 3, none⟩ = some (.int .i64 x146003_4) := (blk_cell BK145.out 3).trans rfl; have hfu22_3 := blk_frozen BK145.out 3; have hcu22_4 : wr.cell? ⟨gb145, 4, none⟩ = some (.int .i64 x146004_4) := (blk_cell BK145.out 4).trans rfl; have hfu22_4 := blk_frozen BK145.out 4))) | (have ztk27 := tk27; clear tk27 ztk27; (with_reducible refine gate_dst (N := 7) rfl ?_); (try (refine gate_guard (by rfl) ?_; dsimp only)); refine box_event ?hg (N := 7) ?hd (cs := #[.int .u8 0, .bool false, .string (⟨#[]⟩ : ByteArray), .int .i64 0, .int .i64 0]) (t := 29) ?hr ?_; (case hd => rfl); (case hg => rfl); (case hr => first | (go_simp; done) | (go_simp; rfl)); intro gb149 hg w23 hbox hb; have n0_ := Aside0.mk (blk_below (g := gb145) (o := .cells #[.int .u8 x146000_4, .bool x146001_4, .string x146002_4, .int .i64 x146003_4, .int .i64 x146004_4] 29 (0, 0)) qnmo8_ hb); have n1_ := Aside0.mk (below_step qnmo7_ hb); have n2_ := Aside0.mk (hbox); have n3_ := Aside0.mk ((by rw [hg]; exact (below_size qnmo7_) : w.heap.size ≤ gb149)); have n4_ := Aside0.mk ((by rw [hg]; exact (below_size qnmo7_) : w.heap.size ≤ gb149)); have n5_ := Aside0.mk ((by rw [hg]; exact Nat.ne_of_lt (blk_lt (g := gb145) (o := .cells #[.int .u8 x146000_4, .bool x146001_4, .string x146002_4, .int .i64 x146003_4, .int .i64 x146004_4] 29 (0, 0)) qnmo8_) : gb145 ≠ gb149)); have n6_ := Aside0.mk ((by rw [hg]; exact Nat.ne_of_gt (blk_lt (g := gb145) (o := .cells #[.int .u8 x146000_4, .bool x146001_4, .string x146002_4, .int .i64 x146003_4, .int .i64 x146004_4] 29 (0, 0)) qnmo8_) : gb149 ≠ gb145)); clear BK145; clear HB; have BK145 := n0_; have HB := n1_; have BK149 := n2_; have GW149 := n3_; have GE149 := n4_; have NB145_149 := n5_; have NB149_145 := n6_; clear n0_ n1_ n2_ n3_ n4_ n5_ n6_; clear hb hbox hg; have hnb24 := NB149_145.out; have hnc24 := NB145_149.out; have hcz25_0 : w23.cell? ⟨gb149, 0, none⟩ = some (.int .u8 0) := (blk_cell BK149.out 0).trans rfl; have hcz25_1 : w23.cell? ⟨gb149, 1, none⟩ = some (.bool false) := (blk_cell BK149.out 1).trans rfl; have hcz25_2 : w23.cell? ⟨gb149, 2, none⟩ = some (.string (⟨#[]⟩ : ByteArray)) := (blk_cell BK149.out 2).trans rfl; have hcz25_3 : w23.cell? ⟨gb149, 3, none⟩ = some (.int .i64 0) := (blk_cell BK149.out 3).trans rfl; have hcz25_4 : w23.cell? ⟨gb149, 4, none⟩ = some (.int .i64 0) := (blk_cell BK149.out 4).trans rfl; have hfz25_0 := blk_frozen BK149.out 0; have hfz25_1 := blk_frozen BK149.out 1; have hfz25_2 := blk_frozen BK149.out 2; have hfz25_3 := blk_frozen BK149.out 3; have hfz25_4 := blk_frozen BK149.out 4))
            (try simp only [Act.put, List.setIfInBounds_toArray, List.set_cons_zero, List.set_cons_succ])
            go_cut [] (fun wc => ∃ (kq : Nat) (x150000_20 : Int), Aside0 (numeral_General.j4 kq (⟨#[105, 110, 102, 105, 110, 105, 116, 121]⟩ : ByteArray) x150000_20 false (⟨#[]⟩ : ByteArray) 0 (wrap64 (x3_14 + 8)) = some (r1, r2, r3, r4, r5)) ∧ Aside0 (kq ≤ k4) ∧ Aside0 (wc.heap[gb145]? = some (.cells #[.int .u8 x146000_4, .bool x146001_4, .string x146002_4, .int .i64 x146003_4, .int .i64 x146004_4] 29 (0, 0))) ∧ Aside0 (wc.heap[gb149]? = some (.cells #[.int .u8 x150000_20, .bool false, .string (⟨#[]⟩ : ByteArray), .int .i64 0, .int .i64 (wrap64 (x3_14 + 8))] 29 (0, 0))) ∧ Aside0 (Below w.heap.size w wc))
            case first =>
             have H := HC21.out
             clear HC21
             by_cases c28 : x4_2 = true
             ·
              subst c28
              have H1 : (numeral_General.j4 k4 (⟨#[105, 110, 102, 105, 110, 105, 116, 121]⟩ : ByteArray) 2 false (⟨#[]⟩ : ByteArray) 0 (wrap64 (x3_14 + 8))) = some (r1, r2, r3, r4, r5) := by rw [if_pos rfl] at H; exact H
              clear H
              have H := H1
              clear H1
              have H' := Aside0.mk H
              clear H
              have hnb29 := NB149_145.out
              have hnc29 := NB145_149.out
              have hcz30_0 : w23.cell? ⟨gb149, 0, none⟩ = some (.int .u8 0) := (blk_cell BK149.out 0).trans rfl
              have hcz30_1 : w23.cell? ⟨gb149, 1, none⟩ = some (.bool false) := (blk_cell BK149.out 1).trans rfl
              have hcz30_2 : w23.cell? ⟨gb149, 2, none⟩ = some (.string (⟨#[]⟩ : ByteArray)) := (blk_cell BK149.out 2).trans rfl
              have hcz30_3 : w23.cell? ⟨gb149, 3, none⟩ = some (.int .i64 0) := (blk_cell BK149.out 3).trans rfl
              have hcz30_4 : w23.cell? ⟨gb149, 4, none⟩ = some (.int .i64 0) := (blk_cell BK149.out 4).trans rfl
              have hfz30_0 := blk_frozen BK149.out 0
              have hfz30_1 := blk_frozen BK149.out 1
              have hfz30_2 := blk_frozen BK149.out 2
              have hfz30_3 := blk_frozen BK149.out 3
              have hfz30_4 := blk_frozen BK149.out 4
              go_wp2
              go_meet
              case rel => exact ⟨_, (2), H', ⟨by have := HJ2.out; have := HJ9.out; have := HJ14.out; have := HK4.out; first | omega | exact Nat.le_refl _⟩, ⟨by (with_reducible repeat (first | refine blk_drewN ?_ _ | refine blk_drew ?_ | refine blk_alloc ?_ _)); refine blk_far ?_ NB145_149.out _; (with_reducible repeat (first | refine blk_drewN ?_ _ | refine blk_drew ?_ | refine blk_alloc ?_ _)); refine blk_far ?_ NB145_149.out _; (with_reducible repeat (first | refine blk_drewN ?_ _ | refine blk_drew ?_ | refine blk_alloc ?_ _)); refine blk_far ?_ NB145_149.out _; (with_reducible repeat (first | refine blk_drewN ?_ _ | refine blk_drew ?_ | refine blk_alloc ?_ _)); refine blk_far ?_ NB145_149.out _; (with_reducible repeat (first | refine blk_drewN ?_ _ | refine blk_drew ?_ | refine blk_alloc ?_ _)); refine blk_far ?_ NB145_149.out _; (with_reducible repeat (first | refine blk_drewN ?_ _ | refine blk_drew ?_ | refine blk_alloc ?_ _)); refine blk_far ?_ NB145_149.out _; (with_reducible repeat (first | refine blk_drewN ?_ _ | refine blk_drew ?_ | refine blk_alloc ?_ _)); exact BK145.out⟩, ⟨by (with_reducible repeat (first | refine blk_drewN ?_ _ | refine blk_drew ?_ | refine blk_alloc ?_ _)); refine blk_put (cs := #[.int .u8 4, .bool false, .string (⟨#[]⟩ : ByteArray), .int .i64 0, .int .i64 (wrap64 (x3_14 + 8))]) ?_ 0 _ rfl; (with_reducible repeat (first | refine blk_drewN ?_ _ | refine blk_drew ?_ | refine blk_alloc ?_ _)); refine blk_put (cs := #[.int .u8 4, .bool false, .string (⟨#[]⟩ : ByteArray), .int .i64 0, .int .i64 0]) ?_ 4 _ rfl; (with_reducible repeat (first | refine blk_drewN ?_ _ | refine blk_drew ?_ | refine blk_alloc ?_ _)); refine blk_put (cs := #[.int .u8 4, .bool false, .string (⟨#[]⟩ : ByteArray), .int .i64 0, .int .i64 0]) ?_ 3 _ rfl; (with_reducible repeat (first | refine blk_drewN ?_ _ | refine blk_drew ?_ | refine blk_alloc ?_ _)); refine blk_put (cs := #[.int .u8 4, .bool false, .string (⟨#[]⟩ : ByteArray), .int .i64 0, .int .i64 0]) ?_ 2 _ rfl; (with_reducible repeat (first | refine blk_drewN ?_ _ | refine blk_drew ?_ | refine blk_alloc ?_ _)); refine blk_put (cs := #[.int .u8 4, .bool false, .string (⟨#[]⟩ : ByteArray), .int .i64 0, .int .i64 0]) ?_ 1 _ rfl; (with_reducible repeat (first | refine blk_drewN ?_ _ | refine blk_drew ?_ | refine blk_alloc ?_ _)); refine blk_put (cs := #[.int .u8 0, .bool false, .string (⟨#[]⟩ : ByteArray), .int .i64 0, .int .i64 0]) ?_ 0 _ rfl; (with_reducible repeat (first | refine blk_drewN ?_ _ | refine blk_drew ?_ | refine blk_alloc ?_ _)); exact BK149.out⟩, ⟨qnmo41_⟩⟩
             ·
              replace c28 := Bool.eq_false_iff.mpr c28
              subst c28
              have H1 : (numeral_General.j4 k4 (⟨#[105, 110, 102, 105, 110, 105, 116, 121]⟩ : ByteArray) 4 false (⟨#[]⟩ : ByteArray) 0 (wrap64 (x3_14 + 8))) = some (r1, r2, r3, r4, r5) := by rw [if_neg (show ¬ (false = true) by decide)] at H; exact H
              clear H
              have H := H1
              clear H1
              have H' := Aside0.mk H
              clear H
              go_wp2
              go_meet
              case rel => exact ⟨_, (4), H', ⟨by have := HJ2.out; have := HJ9.out; have := HJ14.out; have := HK4.out; first | omega | exact Nat.le_refl _⟩, ⟨by (with_reducible repeat (first | refine blk_drewN ?_ _ | refine blk_drew ?_ | refine blk_alloc ?_ _)); refine blk_far ?_ NB145_149.out _; (with_reducible repeat (first | refine blk_drewN ?_ _ | refine blk_drew ?_ | refine blk_alloc ?_ _)); refine blk_far ?_ NB145_149.out _; (with_reducible repeat (first | refine blk_drewN ?_ _ | refine blk_drew ?_ | refine blk_alloc ?_ _)); refine blk_far ?_ NB145_149.out _; (with_reducible repeat (first | refine blk_drewN ?_ _ | refine blk_drew ?_ | refine blk_alloc ?_ _)); refine blk_far ?_ NB145_149.out _; (with_reducible repeat (first | refine blk_drewN ?_ _ | refine blk_drew ?_ | refine blk_alloc ?_ _)); refine blk_far ?_ NB145_149.out _; (with_reducible repeat (first | refine blk_drewN ?_ _ | refine blk_drew ?_ | refine blk_alloc ?_ _)); exact BK145.out⟩, ⟨by (with_reducible repeat (first | refine blk_drewN ?_ _ | refine blk_drew ?_ | refine blk_alloc ?_ _)); refine blk_put (cs := #[.int .u8 4, .bool false, .string (⟨#[]⟩ : ByteArray), .int .i64 0, .int .i64 0]) ?_ 4 _ rfl; (with_reducible repeat (first | refine blk_drewN ?_ _ | refine blk_drew ?_ | refine blk_alloc ?_ _)); refine blk_put (cs := #[.int .u8 4, .bool false, .string (⟨#[]⟩ : ByteArray), .int .i64 0, .int .i64 0]) ?_ 3 _ rfl; (with_reducible repeat (first | refine blk_drewN ?_ _ | refine blk_drew ?_ | refine blk_alloc ?_ _)); refine blk_put (cs := #[.int .u8 4, .bool false, .string (⟨#[]⟩ : ByteArray), .int .i64 0, .int .i64 0]) ?_ 2 _ rfl; (with_reducible repeat (first | refine blk_drewN ?_ _ | refine blk_drew ?_ | refine blk_alloc ?_ _)); refine blk_put (cs := #[.int .u8 4, .bool false, .string (⟨#[]⟩ : ByteArray), .int .i64 0, .int .i64 0]) ?_ 1 _ rfl; (with_reducible repeat (first | refine blk_drewN ?_ _ | refine blk_drew ?_ | refine blk_alloc ?_ _)); refine blk_put (cs := #[.int .u8 0, .bool false, .string (⟨#[]⟩ : ByteArray), .int .i64 0, .int .i64 0]) ?_ 0 _ rfl; (with_reducible repeat (first | refine blk_drewN ?_ _ | refine blk_drew ?_ | refine blk_alloc ?_ _)); exact BK149.out⟩, ⟨qnmo41_⟩⟩
            case rest =>
             clear HC21
             (try clear c1); (try clear p1); (try clear q1); (try clear hx1); (try clear c2); (try clear p2); (try clear c3); (try clear p6); (try clear c7); (try clear c7b0); (try clear c8); (try clear c8b0); (try clear p9); (try clear q9); (try clear hx9); (try clear c11); (try clear c12); (try clear c12b0); (try clear c13); (try clear c13b0); (try clear p14); (try clear q14); (try clear hx14); (try clear c16)
             (try clear c17); (try clear c17b0); (try clear c18); (try clear c18b0); (try clear c18b1); (try clear c20); (try clear c24); (try clear c28); (try clear c29); (try clear hcz25_0); (try clear hcz25_1); (try clear hcz25_2); (try clear hcz25_3); (try clear hcz25_4); (try clear hcz30_0); (try clear hcz30_1); (try clear hcz30_2); (try clear hcz30_3); (try clear hcz30_4); (try clear hfz25_0)
             (try clear hfz25_1); (try clear hfz25_2); (try clear hfz25_3); (try clear hfz25_4); (try clear hfz30_0); (try clear hfz30_1); (try clear hfz30_2); (try clear hfz30_3); (try clear hfz30_4); (try clear p1); (try clear p14); (try clear p2); (try clear p6); (try clear p9); (try clear q1); (try clear q14); (try clear q9)
             obtain ⟨kq, x150000_20, HA, HJ20, BK145, BK149, HB⟩ := hcut
             cases kq with
             | zero => exact absurd HA.out (by simp [numeral_General.j4])
             | succ kj20 =>
              have H := HA.out
              clear HA
              simp only [numeral_General.j4] at H
              by_cases c31 : (⟨#[105, 110, 102, 105, 110, 105, 116, 121]⟩ : ByteArray).toList = ([110, 97, 110] : List UInt8)
              ·
                exact absurd ((ByteArray.toList_eq _).symm.trans c31) (by decide)
              ·
               rw [if_neg c31] at H
               have c31b0 : ((⟨#[105, 110, 102, 105, 110, 105, 116, 121]⟩ : ByteArray).toList == ([110, 97, 110] : List UInt8)) = false := beq_eq_false_iff_ne.mpr c31
               have c31b1 : ((⟨#[105, 110, 102, 105, 110, 105, 116, 121]⟩ : ByteArray).toList != ([110, 97, 110] : List UInt8)) = true := bne_iff_ne.mpr c31
               simp only [Option.some.injEq, Prod.mk.injEq] at H
               obtain ⟨rfl, rfl, rfl, rfl, rfl⟩ := H
               have hnb35 := NB149_145.out
               have hnc35 := NB145_149.out
               have hcz36_0 : wc.cell? ⟨gb149, 0, none⟩ = some (.int .u8 x150000_20) := (blk_cell BK149.out 0).trans rfl
               have hcz36_1 : wc.cell? ⟨gb149, 1, none⟩ = some (.bool false) := (blk_cell BK149.out 1).trans rfl
               have hcz36_2 : wc.cell? ⟨gb149, 2, none⟩ = some (.string (⟨#[]⟩ : ByteArray)) := (blk_cell BK149.out 2).trans rfl
               have hcz36_3 : wc.cell? ⟨gb149, 3, none⟩ = some (.int .i64 0) := (blk_cell BK149.out 3).trans rfl
               have hcz36_4 : wc.cell? ⟨gb149, 4, none⟩ = some (.int .i64 (wrap64 (x3_14 + 8))) := (blk_cell BK149.out 4).trans rfl
               have hfz36_0 := blk_frozen BK149.out 0
               have hfz36_1 := blk_frozen BK149.out 1
               have hfz36_2 := blk_frozen BK149.out 2
               have hfz36_3 := blk_frozen BK149.out 3
               have hfz36_4 := blk_frozen BK149.out 4
               have hcz37_0 : wc.cell? ⟨gb145, 0, none⟩ = some (.int .u8 x146000_4) := (blk_cell BK145.out 0).trans rfl
               have hcz37_1 : wc.cell? ⟨gb145, 1, none⟩ = some (.bool x146001_4) := (blk_cell BK145.out 1).trans rfl
               have hcz37_2 : wc.cell? ⟨gb145, 2, none⟩ = some (.string x146002_4) := (blk_cell BK145.out 2).trans rfl
               have hcz37_3 : wc.cell? ⟨gb145, 3, none⟩ = some (.int .i64 x146003_4) := (blk_cell BK145.out 3).trans rfl
               have hcz37_4 : wc.cell? ⟨gb145, 4, none⟩ = some (.int .i64 x146004_4) := (blk_cell BK145.out 4).trans rfl
               have hfz37_0 := blk_frozen BK145.out 0
               have hfz37_1 := blk_frozen BK145.out 1
               have hfz37_2 := blk_frozen BK145.out 2
               have hfz37_3 := blk_frozen BK145.out 3
               have hfz37_4 := blk_frozen BK145.out 4
               go_wp2
               refine bodyPost_ret (results_cell_row rfl _ _ gb145 29 #[.int .u8 x150000_20, .bool false, .string (⟨#[]⟩ : ByteArray), .int .i64 0, .int .i64 (wrap64 (x3_14 + 8))] (0, 0) _ rfl (by (with_reducible repeat (first | refine blk_drewN ?_ _ | refine blk_drew ?_ | refine blk_alloc ?_ _)); refine blk_put (cs := #[.int .u8 x150000_20, .bool false, .string (⟨#[]⟩ : ByteArray), .int .i64 0, .int .i64 x146004_4]) ?_ 4 _ rfl; (with_reducible repeat (first | refine blk_drewN ?_ _ | refine blk_drew ?_ | refine blk_alloc ?_ _)); refine blk_put (cs := #[.int .u8 x150000_20, .bool false, .string (⟨#[]⟩ : ByteArray), .int .i64 x146003_4, .int .i64 x146004_4]) ?_ 3 _ rfl; (with_reducible repeat (first | refine blk_drewN ?_ _ | refine blk_drew ?_ | refine blk_alloc ?_ _)); refine blk_put (cs := #[.int .u8 x150000_20, .bool false, .string x146002_4, .int .i64 x146003_4, .int .i64 x146004_4]) ?_ 2 _ rfl; (with_reducible repeat (first | refine blk_drewN ?_ _ | refine blk_drew ?_ | refine blk_alloc ?_ _)); refine blk_put (cs := #[.int .u8 x150000_20, .bool x146001_4, .string x146002_4, .int .i64 x146003_4, .int .i64 x146004_4]) ?_ 1 _ rfl; (with_reducible repeat (first | refine blk_drewN ?_ _ | refine blk_drew ?_ | refine blk_alloc ?_ _)); refine blk_put (cs := #[.int .u8 x146000_4, .bool x146001_4, .string x146002_4, .int .i64 x146003_4, .int .i64 x146004_4]) ?_ 0 _ rfl; (with_reducible repeat (first | refine blk_drewN ?_ _ | refine blk_drew ?_ | refine blk_alloc ?_ _)); exact BK145.out) Tryd.underlying29 rfl (by kernel_rfl)) rfl ?_
               exact ⟨qnmo10_, qnmo41_⟩
           ·
            replace c20 := Bool.eq_false_iff.mpr c20
            subst c20
            have H1 : (numeral_General.l0 k4 a0 x3_14 x4_2 (wrap64 (x40_4 + 1))) = some (r1, r2, r3, r4, r5) := by rw [if_neg (show ¬ (false = true) by decide)] at H; exact H
            clear H
            have H := H1
            clear H1
            have H' := Aside0.mk H
            clear H
            go_wp2_with (first | ((with_reducible refine gate_callee (f := 35) rfl ?_); refine goesL_ (some 46) rfl rfl Tryd.func35 (by kernel_rfl) rfl #[.string a0, .int .i64 x3_14, .string (⟨#[105, 110, 102, 105, 110, 105, 116, 121]⟩ : ByteArray)] rfl qnmo0_ ?_; (with_reducible refine (numeral_begins.calls k4 a0 x3_14 (⟨#[105, 110, 102, 105, 110, 105, 116, 121]⟩ : ByteArray) false _ A19.out).mono ?_); rintro e w' ⟨rfl, ⟨nd, rfl⟩⟩; refine ⟨_, rfl, ?_⟩))
            go_roundg k4
            case measure => have := HJ2.out; have := HJ9.out; have := HJ14.out; have := HK4.out; omega
            case rel => exact ⟨(wrap64 (x40_4 + 1)), (x146000_4), (x146001_4), (x146002_4), (x146003_4), (x146004_4), qnmo2_, H', ⟨by have := HJ2.out; have := HJ9.out; have := HJ14.out; have := HK4.out; omega⟩, ⟨qnmo8_⟩, ⟨qnmo7_⟩⟩
          ·
           rw [if_neg c18] at H
           have c18b0 : (x40_4 == 0) = false := beq_eq_false_iff_ne.mpr c18
           have c18b1 : (x40_4 != 0) = true := bne_iff_ne.mpr c18
           by_cases c38 : x40_4 = 1
           ·
            rw [if_pos c38] at H
            have c38b0 : (x40_4 == 1) = true := beq_iff_eq.mpr c38
            have c38b1 : (x40_4 != 1) = false := bne_eq_false_iff_eq.mpr c38
            clear c38
            have ix150 : ∀ W_ : World, (Instr.index 57 (.agg #[.string (⟨#[105, 110, 102, 105, 110, 105, 116, 121]⟩ : ByteArray), .string (⟨#[105, 110, 102]⟩ : ByteArray), .string (⟨#[110, 97, 110]⟩ : ByteArray)]) (.int .i64 x40_4)).run Tryd.prog W_ = .ok (.string (⟨#[105, 110, 102]⟩ : ByteArray)) W_ := by rw [show x40_4 = 1 from beq_iff_eq.mp qnmo5_]; exact fun _ => by kernel_rfl
            replace H := Option.bind_eq_some_iff.mp H
            obtain ⟨t151, A390, H⟩ := H
            replace H : (if t151 = true then (if x4_2 = true then (numeral_General.j5 k4 (⟨#[105, 110, 102]⟩ : ByteArray) 2 false (⟨#[]⟩ : ByteArray) 0 (wrap64 (x3_14 + 3))) else (numeral_General.j5 k4 (⟨#[105, 110, 102]⟩ : ByteArray) 4 false (⟨#[]⟩ : ByteArray) 0 (wrap64 (x3_14 + 3)))) else (numeral_General.l0 k4 a0 x3_14 x4_2 (wrap64 (x40_4 + 1)))) = some (r1, r2, r3, r4, r5) := H
            have A39 := Aside0.mk A390
            clear A390
            by_cases c40 : t151 = true
            ·
             subst c40
             have H1 : (if x4_2 = true then (numeral_General.j5 k4 (⟨#[105, 110, 102]⟩ : ByteArray) 2 false (⟨#[]⟩ : ByteArray) 0 (wrap64 (x3_14 + 3))) else (numeral_General.j5 k4 (⟨#[105, 110, 102]⟩ : ByteArray) 4 false (⟨#[]⟩ : ByteArray) 0 (wrap64 (x3_14 + 3)))) = some (r1, r2, r3, r4, r5) := by rw [if_pos rfl] at H; exact H
             clear H
             have H := H1
             clear H1
             have HC41 := Aside0.mk H
             clear H
             have tk46 : True := trivial; have tk47 : True := trivial
             go_upto_if 53 with (first | (have ztk46 := tk46; clear tk46 ztk46; (with_reducible refine gate_callee (f := 35) rfl ?_); refine goesL_ (some 46) rfl rfl Tryd.func35 (by kernel_rfl) rfl #[.string a0, .int .i64 x3_14, .string (⟨#[105, 110, 102]⟩ : ByteArray)] rfl qnmo0_ ?_; (with_reducible refine (numeral_begins.calls k4 a0 x3_14 (⟨#[105, 110, 102]⟩ : ByteArray) true _ A39.out).mono ?_); rintro e w' ⟨rfl, ⟨nd, rfl⟩⟩; refine ⟨_, rfl, ?_⟩; (try (rw [drewN_self wr]; generalize hq_ : World.drewN wr _ = wr; have n0_ : Aside0 (wr.heap[gb145]? = some (.cells #[.int .u8 x146000_4, .bool x146001_4, .string x146002_4, .int .i64 x146003_4, .int .i64 x146004_4] 29 (0, 0))) := ⟨by rw [← hq_]; exact qnmo8_⟩; have n1_ : Aside0 (Below w.heap.size w wr) := ⟨by rw [← hq_]; exact qnmo7_⟩; clear BK145 HB hq_; have BK145 := n0_; have HB := n1_; clear n0_ n1_)); (try (have hcu42_0 : wr.cell? ⟨gb145, 0, none⟩ = some (.int .u8 x146000_4) := (blk_cell BK145.out 0).trans rfl; have hfu42_0 := blk_frozen BK145.out 0; have hcu42_1 : wr.cell? ⟨gb145, 1, none⟩ = some (.bool x146001_4) := (blk_cell BK145.out 1).trans rfl; have hfu42_1 := blk_frozen BK145.out 1; have hcu42_2 : wr.cell? ⟨gb145, 2, none⟩ = some (.string x146002_4) := (blk_cell BK145.out 2).trans rfl; have hfu42_2 := blk_frozen BK145.out 2; have hcu42_3 : wr.cell? ⟨gb145, 3, none⟩ = some (.int .i64 x146003_4) := (blk_cell BK145.out 3).trans rfl; have hfu42_3 := blk_frozen BK145.out 3; have hcu42_4 : wr.cell? ⟨gb145, 4, none⟩ = some (.int .i64 x146004_4) := (blk_cell BK145.out 4).trans rfl; have hfu42_4 := blk_frozen BK145.out 4))) | (have ztk47 := tk47; clear tk47 ztk47; (with_reducible refine gate_dst (N := 7) rfl ?_); (try (refine gate_guard (by rfl) ?_; dsimp only)); refine box_event ?hg (N := 7) ?hd (cs := #[.int .u8 0, .bool false, .string (⟨#[]⟩ : ByteArray), .int .i64 0, .int .i64 0]) (t := 29) ?hr ?_; (case hd => rfl); (case hg => rfl); (case hr => first | (go_simp; done) | (go_simp; rfl)); intro gb152 hg w43 hbox hb; have n0_ := Aside0.mk (blk_below (g := gb145) (o := .cells #[.int .u8 x146000_4, .bool x146001_4, .string x146002_4, .int .i64 x146003_4, .int .i64 x146004_4] 29 (0, 0)) qnmo8_ hb); have n1_ := Aside0.mk (below_step qnmo7_ hb); have n2_ := Aside0.mk (hbox); have n3_ := Aside0.mk ((by rw [hg]; exact (below_size qnmo7_) : w.heap.size ≤ gb152)); have n4_ := Aside0.mk ((by rw [hg]; exact (below_size qnmo7_) : w.heap.size ≤ gb152)); have n5_ := Aside0.mk ((by rw [hg]; exact Nat.ne_of_lt (blk_lt (g := gb145) (o := .cells #[.int .u8 x146000_4, .bool x146001_4, .string x146002_4, .int .i64 x146003_4, .int .i64 x146004_4] 29 (0, 0)) qnmo8_) : gb145 ≠ gb152)); have n6_ := Aside0.mk ((by rw [hg]; exact Nat.ne_of_gt (blk_lt (g := gb145) (o := .cells #[.int .u8 x146000_4, .bool x146001_4, .string x146002_4, .int .i64 x146003_4, .int .i64 x146004_4] 29 (0, 0)) qnmo8_) : gb152 ≠ gb145)); clear BK145; clear HB; have BK145 := n0_; have HB := n1_; have BK152 := n2_; have GW152 := n3_; have GE152 := n4_; have NB145_152 := n5_; have NB152_145 := n6_; clear n0_ n1_ n2_ n3_ n4_ n5_ n6_; clear hb hbox hg; have hnb44 := NB152_145.out; have hnc44 := NB145_152.out; have hcz45_0 : w43.cell? ⟨gb152, 0, none⟩ = some (.int .u8 0) := (blk_cell BK152.out 0).trans rfl; have hcz45_1 : w43.cell? ⟨gb152, 1, none⟩ = some (.bool false) := (blk_cell BK152.out 1).trans rfl; have hcz45_2 : w43.cell? ⟨gb152, 2, none⟩ = some (.string (⟨#[]⟩ : ByteArray)) := (blk_cell BK152.out 2).trans rfl; have hcz45_3 : w43.cell? ⟨gb152, 3, none⟩ = some (.int .i64 0) := (blk_cell BK152.out 3).trans rfl; have hcz45_4 : w43.cell? ⟨gb152, 4, none⟩ = some (.int .i64 0) := (blk_cell BK152.out 4).trans rfl; have hfz45_0 := blk_frozen BK152.out 0; have hfz45_1 := blk_frozen BK152.out 1; have hfz45_2 := blk_frozen BK152.out 2; have hfz45_3 := blk_frozen BK152.out 3; have hfz45_4 := blk_frozen BK152.out 4))
             (try simp only [Act.put, List.setIfInBounds_toArray, List.set_cons_zero, List.set_cons_succ])
             go_cut [] (fun wc => ∃ (kq : Nat) (x153000_40 : Int), Aside0 (numeral_General.j5 kq (⟨#[105, 110, 102]⟩ : ByteArray) x153000_40 false (⟨#[]⟩ : ByteArray) 0 (wrap64 (x3_14 + 3)) = some (r1, r2, r3, r4, r5)) ∧ Aside0 (kq ≤ k4) ∧ Aside0 (wc.heap[gb145]? = some (.cells #[.int .u8 x146000_4, .bool x146001_4, .string x146002_4, .int .i64 x146003_4, .int .i64 x146004_4] 29 (0, 0))) ∧ Aside0 (wc.heap[gb152]? = some (.cells #[.int .u8 x153000_40, .bool false, .string (⟨#[]⟩ : ByteArray), .int .i64 0, .int .i64 (wrap64 (x3_14 + 3))] 29 (0, 0))) ∧ Aside0 (Below w.heap.size w wc))
             case first =>
              have H := HC41.out
              clear HC41
              by_cases c48 : x4_2 = true
              ·
               subst c48
               have H1 : (numeral_General.j5 k4 (⟨#[105, 110, 102]⟩ : ByteArray) 2 false (⟨#[]⟩ : ByteArray) 0 (wrap64 (x3_14 + 3))) = some (r1, r2, r3, r4, r5) := by rw [if_pos rfl] at H; exact H
               clear H
               have H := H1
               clear H1
               have H' := Aside0.mk H
               clear H
               have hnb49 := NB152_145.out
               have hnc49 := NB145_152.out
               have hcz50_0 : w43.cell? ⟨gb152, 0, none⟩ = some (.int .u8 0) := (blk_cell BK152.out 0).trans rfl
               have hcz50_1 : w43.cell? ⟨gb152, 1, none⟩ = some (.bool false) := (blk_cell BK152.out 1).trans rfl
               have hcz50_2 : w43.cell? ⟨gb152, 2, none⟩ = some (.string (⟨#[]⟩ : ByteArray)) := (blk_cell BK152.out 2).trans rfl
               have hcz50_3 : w43.cell? ⟨gb152, 3, none⟩ = some (.int .i64 0) := (blk_cell BK152.out 3).trans rfl
               have hcz50_4 : w43.cell? ⟨gb152, 4, none⟩ = some (.int .i64 0) := (blk_cell BK152.out 4).trans rfl
               have hfz50_0 := blk_frozen BK152.out 0
               have hfz50_1 := blk_frozen BK152.out 1
               have hfz50_2 := blk_frozen BK152.out 2
               have hfz50_3 := blk_frozen BK152.out 3
               have hfz50_4 := blk_frozen BK152.out 4
               go_wp2
               go_meet
               case rel => exact ⟨_, (2), H', ⟨by have := HJ2.out; have := HJ9.out; have := HJ14.out; have := HK4.out; first | omega | exact Nat.le_refl _⟩, ⟨by (with_reducible repeat (first | refine blk_drewN ?_ _ | refine blk_drew ?_ | refine blk_alloc ?_ _)); refine blk_far ?_ NB145_152.out _; (with_reducible repeat (first | refine blk_drewN ?_ _ | refine blk_drew ?_ | refine blk_alloc ?_ _)); refine blk_far ?_ NB145_152.out _; (with_reducible repeat (first | refine blk_drewN ?_ _ | refine blk_drew ?_ | refine blk_alloc ?_ _)); refine blk_far ?_ NB145_152.out _; (with_reducible repeat (first | refine blk_drewN ?_ _ | refine blk_drew ?_ | refine blk_alloc ?_ _)); refine blk_far ?_ NB145_152.out _; (with_reducible repeat (first | refine blk_drewN ?_ _ | refine blk_drew ?_ | refine blk_alloc ?_ _)); refine blk_far ?_ NB145_152.out _; (with_reducible repeat (first | refine blk_drewN ?_ _ | refine blk_drew ?_ | refine blk_alloc ?_ _)); refine blk_far ?_ NB145_152.out _; (with_reducible repeat (first | refine blk_drewN ?_ _ | refine blk_drew ?_ | refine blk_alloc ?_ _)); exact BK145.out⟩, ⟨by (with_reducible repeat (first | refine blk_drewN ?_ _ | refine blk_drew ?_ | refine blk_alloc ?_ _)); refine blk_put (cs := #[.int .u8 4, .bool false, .string (⟨#[]⟩ : ByteArray), .int .i64 0, .int .i64 (wrap64 (x3_14 + 3))]) ?_ 0 _ rfl; (with_reducible repeat (first | refine blk_drewN ?_ _ | refine blk_drew ?_ | refine blk_alloc ?_ _)); refine blk_put (cs := #[.int .u8 4, .bool false, .string (⟨#[]⟩ : ByteArray), .int .i64 0, .int .i64 0]) ?_ 4 _ rfl; (with_reducible repeat (first | refine blk_drewN ?_ _ | refine blk_drew ?_ | refine blk_alloc ?_ _)); refine blk_put (cs := #[.int .u8 4, .bool false, .string (⟨#[]⟩ : ByteArray), .int .i64 0, .int .i64 0]) ?_ 3 _ rfl; (with_reducible repeat (first | refine blk_drewN ?_ _ | refine blk_drew ?_ | refine blk_alloc ?_ _)); refine blk_put (cs := #[.int .u8 4, .bool false, .string (⟨#[]⟩ : ByteArray), .int .i64 0, .int .i64 0]) ?_ 2 _ rfl; (with_reducible repeat (first | refine blk_drewN ?_ _ | refine blk_drew ?_ | refine blk_alloc ?_ _)); refine blk_put (cs := #[.int .u8 4, .bool false, .string (⟨#[]⟩ : ByteArray), .int .i64 0, .int .i64 0]) ?_ 1 _ rfl; (with_reducible repeat (first | refine blk_drewN ?_ _ | refine blk_drew ?_ | refine blk_alloc ?_ _)); refine blk_put (cs := #[.int .u8 0, .bool false, .string (⟨#[]⟩ : ByteArray), .int .i64 0, .int .i64 0]) ?_ 0 _ rfl; (with_reducible repeat (first | refine blk_drewN ?_ _ | refine blk_drew ?_ | refine blk_alloc ?_ _)); exact BK152.out⟩, ⟨qnmo40_⟩⟩
              ·
               replace c48 := Bool.eq_false_iff.mpr c48
               subst c48
               have H1 : (numeral_General.j5 k4 (⟨#[105, 110, 102]⟩ : ByteArray) 4 false (⟨#[]⟩ : ByteArray) 0 (wrap64 (x3_14 + 3))) = some (r1, r2, r3, r4, r5) := by rw [if_neg (show ¬ (false = true) by decide)] at H; exact H
               clear H
               have H := H1
               clear H1
               have H' := Aside0.mk H
               clear H
               go_wp2
               go_meet
               case rel => exact ⟨_, (4), H', ⟨by have := HJ2.out; have := HJ9.out; have := HJ14.out; have := HK4.out; first | omega | exact Nat.le_refl _⟩, ⟨by (with_reducible repeat (first | refine blk_drewN ?_ _ | refine blk_drew ?_ | refine blk_alloc ?_ _)); refine blk_far ?_ NB145_152.out _; (with_reducible repeat (first | refine blk_drewN ?_ _ | refine blk_drew ?_ | refine blk_alloc ?_ _)); refine blk_far ?_ NB145_152.out _; (with_reducible repeat (first | refine blk_drewN ?_ _ | refine blk_drew ?_ | refine blk_alloc ?_ _)); refine blk_far ?_ NB145_152.out _; (with_reducible repeat (first | refine blk_drewN ?_ _ | refine blk_drew ?_ | refine blk_alloc ?_ _)); refine blk_far ?_ NB145_152.out _; (with_reducible repeat (first | refine blk_drewN ?_ _ | refine blk_drew ?_ | refine blk_alloc ?_ _)); refine blk_far ?_ NB145_152.out _; (with_reducible repeat (first | refine blk_drewN ?_ _ | refine blk_drew ?_ | refine blk_alloc ?_ _)); exact BK145.out⟩, ⟨by (with_reducible repeat (first | refine blk_drewN ?_ _ | refine blk_drew ?_ | refine blk_alloc ?_ _)); refine blk_put (cs := #[.int .u8 4, .bool false, .string (⟨#[]⟩ : ByteArray), .int .i64 0, .int .i64 0]) ?_ 4 _ rfl; (with_reducible repeat (first | refine blk_drewN ?_ _ | refine blk_drew ?_ | refine blk_alloc ?_ _)); refine blk_put (cs := #[.int .u8 4, .bool false, .string (⟨#[]⟩ : ByteArray), .int .i64 0, .int .i64 0]) ?_ 3 _ rfl; (with_reducible repeat (first | refine blk_drewN ?_ _ | refine blk_drew ?_ | refine blk_alloc ?_ _)); refine blk_put (cs := #[.int .u8 4, .bool false, .string (⟨#[]⟩ : ByteArray), .int .i64 0, .int .i64 0]) ?_ 2 _ rfl; (with_reducible repeat (first | refine blk_drewN ?_ _ | refine blk_drew ?_ | refine blk_alloc ?_ _)); refine blk_put (cs := #[.int .u8 4, .bool false, .string (⟨#[]⟩ : ByteArray), .int .i64 0, .int .i64 0]) ?_ 1 _ rfl; (with_reducible repeat (first | refine blk_drewN ?_ _ | refine blk_drew ?_ | refine blk_alloc ?_ _)); refine blk_put (cs := #[.int .u8 0, .bool false, .string (⟨#[]⟩ : ByteArray), .int .i64 0, .int .i64 0]) ?_ 0 _ rfl; (with_reducible repeat (first | refine blk_drewN ?_ _ | refine blk_drew ?_ | refine blk_alloc ?_ _)); exact BK152.out⟩, ⟨qnmo40_⟩⟩
             case rest =>
              clear HC41
              (try clear c1); (try clear p1); (try clear q1); (try clear hx1); (try clear c2); (try clear p2); (try clear c3); (try clear c4); (try clear p6); (try clear c7); (try clear c7b0); (try clear c8); (try clear c8b0); (try clear p9); (try clear q9); (try clear hx9); (try clear c11); (try clear c12); (try clear c12b0); (try clear c13); (try clear c13b0); (try clear p14); (try clear q14); (try clear hx14)
              (try clear c16); (try clear c17); (try clear c17b0); (try clear c18); (try clear c18b0); (try clear c18b1); (try clear c20); (try clear c24); (try clear c28); (try clear c29); (try clear c31); (try clear c31b0); (try clear c31b1); (try clear c32); (try clear c34); (try clear c35); (try clear c38); (try clear c38b0); (try clear c38b1); (try clear c40); (try clear c44); (try clear c48)
              (try clear c49); (try clear hcz25_0); (try clear hcz25_1); (try clear hcz25_2); (try clear hcz25_3); (try clear hcz25_4); (try clear hcz30_0); (try clear hcz30_1); (try clear hcz30_2); (try clear hcz30_3); (try clear hcz30_4); (try clear hcz33_0); (try clear hcz33_1); (try clear hcz33_2); (try clear hcz33_3); (try clear hcz33_4); (try clear hcz34_0); (try clear hcz34_1); (try clear hcz34_2)
              (try clear hcz34_3); (try clear hcz34_4); (try clear hcz36_0); (try clear hcz36_1); (try clear hcz36_2); (try clear hcz36_3); (try clear hcz36_4); (try clear hcz37_0); (try clear hcz37_1); (try clear hcz37_2); (try clear hcz37_3); (try clear hcz37_4); (try clear hcz45_0); (try clear hcz45_1); (try clear hcz45_2); (try clear hcz45_3); (try clear hcz45_4); (try clear hcz50_0); (try clear hcz50_1)
              (try clear hcz50_2); (try clear hcz50_3); (try clear hcz50_4); (try clear hfz25_0); (try clear hfz25_1); (try clear hfz25_2); (try clear hfz25_3); (try clear hfz25_4); (try clear hfz30_0); (try clear hfz30_1); (try clear hfz30_2); (try clear hfz30_3); (try clear hfz30_4); (try clear hfz33_0); (try clear hfz33_1); (try clear hfz33_2); (try clear hfz33_3); (try clear hfz33_4); (try clear hfz34_0)
              (try clear hfz34_1); (try clear hfz34_2); (try clear hfz34_3); (try clear hfz34_4); (try clear hfz36_0); (try clear hfz36_1); (try clear hfz36_2); (try clear hfz36_3); (try clear hfz36_4); (try clear hfz37_0); (try clear hfz37_1); (try clear hfz37_2); (try clear hfz37_3); (try clear hfz37_4); (try clear hfz45_0); (try clear hfz45_1); (try clear hfz45_2); (try clear hfz45_3); (try clear hfz45_4)
              (try clear hfz50_0); (try clear hfz50_1); (try clear hfz50_2); (try clear hfz50_3); (try clear hfz50_4); (try clear p1); (try clear p14); (try clear p2); (try clear p6); (try clear p9); (try clear q1); (try clear q14); (try clear q9)
              obtain ⟨kq, x153000_40, HA, HJ40, BK145, BK152, HB⟩ := hcut
              cases kq with
              | zero => exact absurd HA.out (by simp [numeral_General.j5])
              | succ kj40 =>
               have H := HA.out
               clear HA
               simp only [numeral_General.j5] at H
               by_cases c51 : (⟨#[105, 110, 102]⟩ : ByteArray).toList = ([110, 97, 110] : List UInt8)
               ·
                 exact absurd ((ByteArray.toList_eq _).symm.trans c51) (by decide)
               ·
                rw [if_neg c51] at H
                have c51b0 : ((⟨#[105, 110, 102]⟩ : ByteArray).toList == ([110, 97, 110] : List UInt8)) = false := beq_eq_false_iff_ne.mpr c51
                have c51b1 : ((⟨#[105, 110, 102]⟩ : ByteArray).toList != ([110, 97, 110] : List UInt8)) = true := bne_iff_ne.mpr c51
                simp only [Option.some.injEq, Prod.mk.injEq] at H
                obtain ⟨rfl, rfl, rfl, rfl, rfl⟩ := H
                have hnb55 := NB152_145.out
                have hnc55 := NB145_152.out
                have hcz56_0 : wc.cell? ⟨gb152, 0, none⟩ = some (.int .u8 x153000_40) := (blk_cell BK152.out 0).trans rfl
                have hcz56_1 : wc.cell? ⟨gb152, 1, none⟩ = some (.bool false) := (blk_cell BK152.out 1).trans rfl
                have hcz56_2 : wc.cell? ⟨gb152, 2, none⟩ = some (.string (⟨#[]⟩ : ByteArray)) := (blk_cell BK152.out 2).trans rfl
                have hcz56_3 : wc.cell? ⟨gb152, 3, none⟩ = some (.int .i64 0) := (blk_cell BK152.out 3).trans rfl
                have hcz56_4 : wc.cell? ⟨gb152, 4, none⟩ = some (.int .i64 (wrap64 (x3_14 + 3))) := (blk_cell BK152.out 4).trans rfl
                have hfz56_0 := blk_frozen BK152.out 0
                have hfz56_1 := blk_frozen BK152.out 1
                have hfz56_2 := blk_frozen BK152.out 2
                have hfz56_3 := blk_frozen BK152.out 3
                have hfz56_4 := blk_frozen BK152.out 4
                have hcz57_0 : wc.cell? ⟨gb145, 0, none⟩ = some (.int .u8 x146000_4) := (blk_cell BK145.out 0).trans rfl
                have hcz57_1 : wc.cell? ⟨gb145, 1, none⟩ = some (.bool x146001_4) := (blk_cell BK145.out 1).trans rfl
                have hcz57_2 : wc.cell? ⟨gb145, 2, none⟩ = some (.string x146002_4) := (blk_cell BK145.out 2).trans rfl
                have hcz57_3 : wc.cell? ⟨gb145, 3, none⟩ = some (.int .i64 x146003_4) := (blk_cell BK145.out 3).trans rfl
                have hcz57_4 : wc.cell? ⟨gb145, 4, none⟩ = some (.int .i64 x146004_4) := (blk_cell BK145.out 4).trans rfl
                have hfz57_0 := blk_frozen BK145.out 0
                have hfz57_1 := blk_frozen BK145.out 1
                have hfz57_2 := blk_frozen BK145.out 2
                have hfz57_3 := blk_frozen BK145.out 3
                have hfz57_4 := blk_frozen BK145.out 4
                go_wp2
                refine bodyPost_ret (results_cell_row rfl _ _ gb145 29 #[.int .u8 x153000_40, .bool false, .string (⟨#[]⟩ : ByteArray), .int .i64 0, .int .i64 (wrap64 (x3_14 + 3))] (0, 0) _ rfl (by (with_reducible repeat (first | refine blk_drewN ?_ _ | refine blk_drew ?_ | refine blk_alloc ?_ _)); refine blk_put (cs := #[.int .u8 x153000_40, .bool false, .string (⟨#[]⟩ : ByteArray), .int .i64 0, .int .i64 x146004_4]) ?_ 4 _ rfl; (with_reducible repeat (first | refine blk_drewN ?_ _ | refine blk_drew ?_ | refine blk_alloc ?_ _)); refine blk_put (cs := #[.int .u8 x153000_40, .bool false, .string (⟨#[]⟩ : ByteArray), .int .i64 x146003_4, .int .i64 x146004_4]) ?_ 3 _ rfl; (with_reducible repeat (first | refine blk_drewN ?_ _ | refine blk_drew ?_ | refine blk_alloc ?_ _)); refine blk_put (cs := #[.int .u8 x153000_40, .bool false, .string x146002_4, .int .i64 x146003_4, .int .i64 x146004_4]) ?_ 2 _ rfl; (with_reducible repeat (first | refine blk_drewN ?_ _ | refine blk_drew ?_ | refine blk_alloc ?_ _)); refine blk_put (cs := #[.int .u8 x153000_40, .bool x146001_4, .string x146002_4, .int .i64 x146003_4, .int .i64 x146004_4]) ?_ 1 _ rfl; (with_reducible repeat (first | refine blk_drewN ?_ _ | refine blk_drew ?_ | refine blk_alloc ?_ _)); refine blk_put (cs := #[.int .u8 x146000_4, .bool x146001_4, .string x146002_4, .int .i64 x146003_4, .int .i64 x146004_4]) ?_ 0 _ rfl; (with_reducible repeat (first | refine blk_drewN ?_ _ | refine blk_drew ?_ | refine blk_alloc ?_ _)); exact BK145.out) Tryd.underlying29 rfl (by kernel_rfl)) rfl ?_
                exact ⟨qnmo10_, qnmo40_⟩
            ·
             replace c40 := Bool.eq_false_iff.mpr c40
             subst c40
             have H1 : (numeral_General.l0 k4 a0 x3_14 x4_2 (wrap64 (x40_4 + 1))) = some (r1, r2, r3, r4, r5) := by rw [if_neg (show ¬ (false = true) by decide)] at H; exact H
             clear H
             have H := H1
             clear H1
             have H' := Aside0.mk H
             clear H
             go_wp2_with (first | ((with_reducible refine gate_callee (f := 35) rfl ?_); refine goesL_ (some 46) rfl rfl Tryd.func35 (by kernel_rfl) rfl #[.string a0, .int .i64 x3_14, .string (⟨#[105, 110, 102]⟩ : ByteArray)] rfl qnmo0_ ?_; (with_reducible refine (numeral_begins.calls k4 a0 x3_14 (⟨#[105, 110, 102]⟩ : ByteArray) false _ A39.out).mono ?_); rintro e w' ⟨rfl, ⟨nd, rfl⟩⟩; refine ⟨_, rfl, ?_⟩))
             go_roundg k4
             case measure => have := HJ2.out; have := HJ9.out; have := HJ14.out; have := HK4.out; omega
             case rel => exact ⟨(wrap64 (x40_4 + 1)), (x146000_4), (x146001_4), (x146002_4), (x146003_4), (x146004_4), qnmo2_, H', ⟨by have := HJ2.out; have := HJ9.out; have := HJ14.out; have := HK4.out; omega⟩, ⟨qnmo8_⟩, ⟨qnmo7_⟩⟩
           ·
            rw [if_neg c38] at H
            have c38b0 : (x40_4 == 1) = false := beq_eq_false_iff_ne.mpr c38
            have c38b1 : (x40_4 != 1) = true := bne_iff_ne.mpr c38
            by_cases c58 : x40_4 = 2
            ·
             rw [if_pos c58] at H
             have c58b0 : (x40_4 == 2) = true := beq_iff_eq.mpr c58
             have c58b1 : (x40_4 != 2) = false := bne_eq_false_iff_eq.mpr c58
             clear c58
             have ix153 : ∀ W_ : World, (Instr.index 57 (.agg #[.string (⟨#[105, 110, 102, 105, 110, 105, 116, 121]⟩ : ByteArray), .string (⟨#[105, 110, 102]⟩ : ByteArray), .string (⟨#[110, 97, 110]⟩ : ByteArray)]) (.int .i64 x40_4)).run Tryd.prog W_ = .ok (.string (⟨#[110, 97, 110]⟩ : ByteArray)) W_ := by rw [show x40_4 = 2 from beq_iff_eq.mp qnmo5_]; exact fun _ => by kernel_rfl
             replace H := Option.bind_eq_some_iff.mp H
             obtain ⟨t154, A590, H⟩ := H
             replace H : (if t154 = true then (if x4_2 = true then (numeral_General.j6 k4 (⟨#[110, 97, 110]⟩ : ByteArray) 2 false (⟨#[]⟩ : ByteArray) 0 (wrap64 (x3_14 + 3))) else (numeral_General.j6 k4 (⟨#[110, 97, 110]⟩ : ByteArray) 4 false (⟨#[]⟩ : ByteArray) 0 (wrap64 (x3_14 + 3)))) else (numeral_General.l0 k4 a0 x3_14 x4_2 (wrap64 (x40_4 + 1)))) = some (r1, r2, r3, r4, r5) := H
             have A59 := Aside0.mk A590
             clear A590
             by_cases c60 : t154 = true
             ·
              subst c60
              have H1 : (if x4_2 = true then (numeral_General.j6 k4 (⟨#[110, 97, 110]⟩ : ByteArray) 2 false (⟨#[]⟩ : ByteArray) 0 (wrap64 (x3_14 + 3))) else (numeral_General.j6 k4 (⟨#[110, 97, 110]⟩ : ByteArray) 4 false (⟨#[]⟩ : ByteArray) 0 (wrap64 (x3_14 + 3)))) = some (r1, r2, r3, r4, r5) := by rw [if_pos rfl] at H; exact H
              clear H
              have H := H1
              clear H1
              have HC61 := Aside0.mk H
              clear H
              have tk66 : True := trivial; have tk67 : True := trivial
              go_upto_if 53 with (first | (have ztk66 := tk66; clear tk66 ztk66; (with_reducible refine gate_callee (f := 35) rfl ?_); refine goesL_ (some 46) rfl rfl Tryd.func35 (by kernel_rfl) rfl #[.string a0, .int .i64 x3_14, .string (⟨#[110, 97, 110]⟩ : ByteArray)] rfl qnmo0_ ?_; (with_reducible refine (numeral_begins.calls k4 a0 x3_14 (⟨#[110, 97, 110]⟩ : ByteArray) true _ A59.out).mono ?_); rintro e w' ⟨rfl, ⟨nd, rfl⟩⟩; refine ⟨_, rfl, ?_⟩; (try (rw [drewN_self wr]; generalize hq_ : World.drewN wr _ = wr; have n0_ : Aside0 (wr.heap[gb145]? = some (.cells #[.int .u8 x146000_4, .bool x146001_4, .string x146002_4, .int .i64 x146003_4, .int .i64 x146004_4] 29 (0, 0))) := ⟨by rw [← hq_]; exact qnmo8_⟩; have n1_ : Aside0 (Below w.heap.size w wr) := ⟨by rw [← hq_]; exact qnmo7_⟩; clear BK145 HB hq_; have BK145 := n0_; have HB := n1_; clear n0_ n1_)); (try (have hcu62_0 : wr.cell? ⟨gb145, 0, none⟩ = some (.int .u8 x146000_4) := (blk_cell BK145.out 0).trans rfl; have hfu62_0 := blk_frozen BK145.out 0; have hcu62_1 : wr.cell? ⟨gb145, 1, none⟩ = some (.bool x146001_4) := (blk_cell BK145.out 1).trans rfl; have hfu62_1 := blk_frozen BK145.out 1; have hcu62_2 : wr.cell? ⟨gb145, 2, none⟩ = some (.string x146002_4) := (blk_cell BK145.out 2).trans rfl; have hfu62_2 := blk_frozen BK145.out 2; have hcu62_3 : wr.cell? ⟨gb145, 3, none⟩ = some (.int .i64 x146003_4) := (blk_cell BK145.out 3).trans rfl; have hfu62_3 := blk_frozen BK145.out 3; have hcu62_4 : wr.cell? ⟨gb145, 4, none⟩ = some (.int .i64 x146004_4) := (blk_cell BK145.out 4).trans rfl; have hfu62_4 := blk_frozen BK145.out 4))) | (have ztk67 := tk67; clear tk67 ztk67; (with_reducible refine gate_dst (N := 7) rfl ?_); (try (refine gate_guard (by rfl) ?_; dsimp only)); refine box_event ?hg (N := 7) ?hd (cs := #[.int .u8 0, .bool false, .string (⟨#[]⟩ : ByteArray), .int .i64 0, .int .i64 0]) (t := 29) ?hr ?_; (case hd => rfl); (case hg => rfl); (case hr => first | (go_simp; done) | (go_simp; rfl)); intro gb155 hg w63 hbox hb; have n0_ := Aside0.mk (blk_below (g := gb145) (o := .cells #[.int .u8 x146000_4, .bool x146001_4, .string x146002_4, .int .i64 x146003_4, .int .i64 x146004_4] 29 (0, 0)) qnmo8_ hb); have n1_ := Aside0.mk (below_step qnmo7_ hb); have n2_ := Aside0.mk (hbox); have n3_ := Aside0.mk ((by rw [hg]; exact (below_size qnmo7_) : w.heap.size ≤ gb155)); have n4_ := Aside0.mk ((by rw [hg]; exact (below_size qnmo7_) : w.heap.size ≤ gb155)); have n5_ := Aside0.mk ((by rw [hg]; exact Nat.ne_of_lt (blk_lt (g := gb145) (o := .cells #[.int .u8 x146000_4, .bool x146001_4, .string x146002_4, .int .i64 x146003_4, .int .i64 x146004_4] 29 (0, 0)) qnmo8_) : gb145 ≠ gb155)); have n6_ := Aside0.mk ((by rw [hg]; exact Nat.ne_of_gt (blk_lt (g := gb145) (o := .cells #[.int .u8 x146000_4, .bool x146001_4, .string x146002_4, .int .i64 x146003_4, .int .i64 x146004_4] 29 (0, 0)) qnmo8_) : gb155 ≠ gb145)); clear BK145; clear HB; have BK145 := n0_; have HB := n1_; have BK155 := n2_; have GW155 := n3_; have GE155 := n4_; have NB145_155 := n5_; have NB155_145 := n6_; clear n0_ n1_ n2_ n3_ n4_ n5_ n6_; clear hb hbox hg; have hnb64 := NB155_145.out; have hnc64 := NB145_155.out; have hcz65_0 : w63.cell? ⟨gb155, 0, none⟩ = some (.int .u8 0) := (blk_cell BK155.out 0).trans rfl; have hcz65_1 : w63.cell? ⟨gb155, 1, none⟩ = some (.bool false) := (blk_cell BK155.out 1).trans rfl; have hcz65_2 : w63.cell? ⟨gb155, 2, none⟩ = some (.string (⟨#[]⟩ : ByteArray)) := (blk_cell BK155.out 2).trans rfl; have hcz65_3 : w63.cell? ⟨gb155, 3, none⟩ = some (.int .i64 0) := (blk_cell BK155.out 3).trans rfl; have hcz65_4 : w63.cell? ⟨gb155, 4, none⟩ = some (.int .i64 0) := (blk_cell BK155.out 4).trans rfl; have hfz65_0 := blk_frozen BK155.out 0; have hfz65_1 := blk_frozen BK155.out 1; have hfz65_2 := blk_frozen BK155.out 2; have hfz65_3 := blk_frozen BK155.out 3; have hfz65_4 := blk_frozen BK155.out 4))
              (try simp only [Act.put, List.setIfInBounds_toArray, List.set_cons_zero, List.set_cons_succ])
              go_cut [] (fun wc => ∃ (kq : Nat) (x156000_60 : Int), Aside0 (numeral_General.j6 kq (⟨#[110, 97, 110]⟩ : ByteArray) x156000_60 false (⟨#[]⟩ : ByteArray) 0 (wrap64 (x3_14 + 3)) = some (r1, r2, r3, r4, r5)) ∧ Aside0 (kq ≤ k4) ∧ Aside0 (wc.heap[gb145]? = some (.cells #[.int .u8 x146000_4, .bool x146001_4, .string x146002_4, .int .i64 x146003_4, .int .i64 x146004_4] 29 (0, 0))) ∧ Aside0 (wc.heap[gb155]? = some (.cells #[.int .u8 x156000_60, .bool false, .string (⟨#[]⟩ : ByteArray), .int .i64 0, .int .i64 (wrap64 (x3_14 + 3))] 29 (0, 0))) ∧ Aside0 (Below w.heap.size w wc))
              case first =>
               have H := HC61.out
               clear HC61
               by_cases c68 : x4_2 = true
               ·
                subst c68
                have H1 : (numeral_General.j6 k4 (⟨#[110, 97, 110]⟩ : ByteArray) 2 false (⟨#[]⟩ : ByteArray) 0 (wrap64 (x3_14 + 3))) = some (r1, r2, r3, r4, r5) := by rw [if_pos rfl] at H; exact H
                clear H
                have H := H1
                clear H1
                have H' := Aside0.mk H
                clear H
                have hnb69 := NB155_145.out
                have hnc69 := NB145_155.out
                have hcz70_0 : w63.cell? ⟨gb155, 0, none⟩ = some (.int .u8 0) := (blk_cell BK155.out 0).trans rfl
                have hcz70_1 : w63.cell? ⟨gb155, 1, none⟩ = some (.bool false) := (blk_cell BK155.out 1).trans rfl
                have hcz70_2 : w63.cell? ⟨gb155, 2, none⟩ = some (.string (⟨#[]⟩ : ByteArray)) := (blk_cell BK155.out 2).trans rfl
                have hcz70_3 : w63.cell? ⟨gb155, 3, none⟩ = some (.int .i64 0) := (blk_cell BK155.out 3).trans rfl
                have hcz70_4 : w63.cell? ⟨gb155, 4, none⟩ = some (.int .i64 0) := (blk_cell BK155.out 4).trans rfl
                have hfz70_0 := blk_frozen BK155.out 0
                have hfz70_1 := blk_frozen BK155.out 1
                have hfz70_2 := blk_frozen BK155.out 2
                have hfz70_3 := blk_frozen BK155.out 3
                have hfz70_4 := blk_frozen BK155.out 4
                go_wp2
                go_meet
                case rel => exact ⟨_, (2), H', ⟨by have := HJ2.out; have := HJ9.out; have := HJ14.out; have := HK4.out; first | omega | exact Nat.le_refl _⟩, ⟨by (with_reducible repeat (first | refine blk_drewN ?_ _ | refine blk_drew ?_ | refine blk_alloc ?_ _)); refine blk_far ?_ NB145_155.out _; (with_reducible repeat (first | refine blk_drewN ?_ _ | refine blk_drew ?_ | refine blk_alloc ?_ _)); refine blk_far ?_ NB145_155.out _; (with_reducible repeat (first | refine blk_drewN ?_ _ | refine blk_drew ?_ | refine blk_alloc ?_ _)); refine blk_far ?_ NB145_155.out _; (with_reducible repeat (first | refine blk_drewN ?_ _ | refine blk_drew ?_ | refine blk_alloc ?_ _)); refine blk_far ?_ NB145_155.out _; (with_reducible repeat (first | refine blk_drewN ?_ _ | refine blk_drew ?_ | refine blk_alloc ?_ _)); refine blk_far ?_ NB145_155.out _; (with_reducible repeat (first | refine blk_drewN ?_ _ | refine blk_drew ?_ | refine blk_alloc ?_ _)); refine blk_far ?_ NB145_155.out _; (with_reducible repeat (first | refine blk_drewN ?_ _ | refine blk_drew ?_ | refine blk_alloc ?_ _)); exact BK145.out⟩, ⟨by (with_reducible repeat (first | refine blk_drewN ?_ _ | refine blk_drew ?_ | refine blk_alloc ?_ _)); refine blk_put (cs := #[.int .u8 4, .bool false, .string (⟨#[]⟩ : ByteArray), .int .i64 0, .int .i64 (wrap64 (x3_14 + 3))]) ?_ 0 _ rfl; (with_reducible repeat (first | refine blk_drewN ?_ _ | refine blk_drew ?_ | refine blk_alloc ?_ _)); refine blk_put (cs := #[.int .u8 4, .bool false, .string (⟨#[]⟩ : ByteArray), .int .i64 0, .int .i64 0]) ?_ 4 _ rfl; (with_reducible repeat (first | refine blk_drewN ?_ _ | refine blk_drew ?_ | refine blk_alloc ?_ _)); refine blk_put (cs := #[.int .u8 4, .bool false, .string (⟨#[]⟩ : ByteArray), .int .i64 0, .int .i64 0]) ?_ 3 _ rfl; (with_reducible repeat (first | refine blk_drewN ?_ _ | refine blk_drew ?_ | refine blk_alloc ?_ _)); refine blk_put (cs := #[.int .u8 4, .bool false, .string (⟨#[]⟩ : ByteArray), .int .i64 0, .int .i64 0]) ?_ 2 _ rfl; (with_reducible repeat (first | refine blk_drewN ?_ _ | refine blk_drew ?_ | refine blk_alloc ?_ _)); refine blk_put (cs := #[.int .u8 4, .bool false, .string (⟨#[]⟩ : ByteArray), .int .i64 0, .int .i64 0]) ?_ 1 _ rfl; (with_reducible repeat (first | refine blk_drewN ?_ _ | refine blk_drew ?_ | refine blk_alloc ?_ _)); refine blk_put (cs := #[.int .u8 0, .bool false, .string (⟨#[]⟩ : ByteArray), .int .i64 0, .int .i64 0]) ?_ 0 _ rfl; (with_reducible repeat (first | refine blk_drewN ?_ _ | refine blk_drew ?_ | refine blk_alloc ?_ _)); exact BK155.out⟩, ⟨qnmo39_⟩⟩
               ·
                replace c68 := Bool.eq_false_iff.mpr c68
                subst c68
                have H1 : (numeral_General.j6 k4 (⟨#[110, 97, 110]⟩ : ByteArray) 4 false (⟨#[]⟩ : ByteArray) 0 (wrap64 (x3_14 + 3))) = some (r1, r2, r3, r4, r5) := by rw [if_neg (show ¬ (false = true) by decide)] at H; exact H
                clear H
                have H := H1
                clear H1
                have H' := Aside0.mk H
                clear H
                go_wp2
                go_meet
                case rel => exact ⟨_, (4), H', ⟨by have := HJ2.out; have := HJ9.out; have := HJ14.out; have := HK4.out; first | omega | exact Nat.le_refl _⟩, ⟨by (with_reducible repeat (first | refine blk_drewN ?_ _ | refine blk_drew ?_ | refine blk_alloc ?_ _)); refine blk_far ?_ NB145_155.out _; (with_reducible repeat (first | refine blk_drewN ?_ _ | refine blk_drew ?_ | refine blk_alloc ?_ _)); refine blk_far ?_ NB145_155.out _; (with_reducible repeat (first | refine blk_drewN ?_ _ | refine blk_drew ?_ | refine blk_alloc ?_ _)); refine blk_far ?_ NB145_155.out _; (with_reducible repeat (first | refine blk_drewN ?_ _ | refine blk_drew ?_ | refine blk_alloc ?_ _)); refine blk_far ?_ NB145_155.out _; (with_reducible repeat (first | refine blk_drewN ?_ _ | refine blk_drew ?_ | refine blk_alloc ?_ _)); refine blk_far ?_ NB145_155.out _; (with_reducible repeat (first | refine blk_drewN ?_ _ | refine blk_drew ?_ | refine blk_alloc ?_ _)); exact BK145.out⟩, ⟨by (with_reducible repeat (first | refine blk_drewN ?_ _ | refine blk_drew ?_ | refine blk_alloc ?_ _)); refine blk_put (cs := #[.int .u8 4, .bool false, .string (⟨#[]⟩ : ByteArray), .int .i64 0, .int .i64 0]) ?_ 4 _ rfl; (with_reducible repeat (first | refine blk_drewN ?_ _ | refine blk_drew ?_ | refine blk_alloc ?_ _)); refine blk_put (cs := #[.int .u8 4, .bool false, .string (⟨#[]⟩ : ByteArray), .int .i64 0, .int .i64 0]) ?_ 3 _ rfl; (with_reducible repeat (first | refine blk_drewN ?_ _ | refine blk_drew ?_ | refine blk_alloc ?_ _)); refine blk_put (cs := #[.int .u8 4, .bool false, .string (⟨#[]⟩ : ByteArray), .int .i64 0, .int .i64 0]) ?_ 2 _ rfl; (with_reducible repeat (first | refine blk_drewN ?_ _ | refine blk_drew ?_ | refine blk_alloc ?_ _)); refine blk_put (cs := #[.int .u8 4, .bool false, .string (⟨#[]⟩ : ByteArray), .int .i64 0, .int .i64 0]) ?_ 1 _ rfl; (with_reducible repeat (first | refine blk_drewN ?_ _ | refine blk_drew ?_ | refine blk_alloc ?_ _)); refine blk_put (cs := #[.int .u8 0, .bool false, .string (⟨#[]⟩ : ByteArray), .int .i64 0, .int .i64 0]) ?_ 0 _ rfl; (with_reducible repeat (first | refine blk_drewN ?_ _ | refine blk_drew ?_ | refine blk_alloc ?_ _)); exact BK155.out⟩, ⟨qnmo39_⟩⟩
              case rest =>
               clear HC61
               (try clear c1); (try clear p1); (try clear q1); (try clear hx1); (try clear c2); (try clear p2); (try clear c3); (try clear c4); (try clear c5); (try clear c6); (try clear p6); (try clear c7); (try clear c7b0); (try clear c8); (try clear c8b0); (try clear p9); (try clear q9); (try clear hx9); (try clear c11); (try clear c12); (try clear c12b0); (try clear c13); (try clear c13b0); (try clear p14)
               (try clear q14); (try clear hx14); (try clear c16); (try clear c17); (try clear c17b0); (try clear c18); (try clear c18b0); (try clear c18b1); (try clear c20); (try clear c24); (try clear c28); (try clear c29); (try clear c31); (try clear c31b0); (try clear c31b1); (try clear c32); (try clear c34); (try clear c35); (try clear c38); (try clear c38b0); (try clear c38b1); (try clear c40)
               (try clear c44); (try clear c48); (try clear c49); (try clear c51); (try clear c51b0); (try clear c51b1); (try clear c52); (try clear c55); (try clear c58); (try clear c58b0); (try clear c58b1); (try clear c60); (try clear c64); (try clear p64); (try clear c68); (try clear c69); (try clear hcz25_0); (try clear hcz25_1); (try clear hcz25_2); (try clear hcz25_3); (try clear hcz25_4); (try clear hcz30_0)
               (try clear hcz30_1); (try clear hcz30_2); (try clear hcz30_3); (try clear hcz30_4); (try clear hcz33_0); (try clear hcz33_1); (try clear hcz33_2); (try clear hcz33_3); (try clear hcz33_4); (try clear hcz34_0); (try clear hcz34_1); (try clear hcz34_2); (try clear hcz34_3); (try clear hcz34_4); (try clear hcz36_0); (try clear hcz36_1); (try clear hcz36_2); (try clear hcz36_3); (try clear hcz36_4)
               (try clear hcz37_0); (try clear hcz37_1); (try clear hcz37_2); (try clear hcz37_3); (try clear hcz37_4); (try clear hcz45_0); (try clear hcz45_1); (try clear hcz45_2); (try clear hcz45_3); (try clear hcz45_4); (try clear hcz50_0); (try clear hcz50_1); (try clear hcz50_2); (try clear hcz50_3); (try clear hcz50_4); (try clear hcz53_0); (try clear hcz53_1); (try clear hcz53_2); (try clear hcz53_3)
               (try clear hcz53_4); (try clear hcz54_0); (try clear hcz54_1); (try clear hcz54_2); (try clear hcz54_3); (try clear hcz54_4); (try clear hcz56_0); (try clear hcz56_1); (try clear hcz56_2); (try clear hcz56_3); (try clear hcz56_4); (try clear hcz57_0); (try clear hcz57_1); (try clear hcz57_2); (try clear hcz57_3); (try clear hcz57_4); (try clear hcz65_0); (try clear hcz65_1); (try clear hcz65_2)
               (try clear hcz65_3); (try clear hcz65_4); (try clear hcz70_0); (try clear hcz70_1); (try clear hcz70_2); (try clear hcz70_3); (try clear hcz70_4); (try clear hfz25_0); (try clear hfz25_1); (try clear hfz25_2); (try clear hfz25_3); (try clear hfz25_4); (try clear hfz30_0); (try clear hfz30_1); (try clear hfz30_2); (try clear hfz30_3); (try clear hfz30_4); (try clear hfz33_0); (try clear hfz33_1)
               (try clear hfz33_2); (try clear hfz33_3); (try clear hfz33_4); (try clear hfz34_0); (try clear hfz34_1); (try clear hfz34_2); (try clear hfz34_3); (try clear hfz34_4); (try clear hfz36_0); (try clear hfz36_1); (try clear hfz36_2); (try clear hfz36_3); (try clear hfz36_4); (try clear hfz37_0); (try clear hfz37_1); (try clear hfz37_2); (try clear hfz37_3); (try clear hfz37_4); (try clear hfz45_0)
               (try clear hfz45_1); (try clear hfz45_2); (try clear hfz45_3); (try clear hfz45_4); (try clear hfz50_0); (try clear hfz50_1); (try clear hfz50_2); (try clear hfz50_3); (try clear hfz50_4); (try clear hfz53_0); (try clear hfz53_1); (try clear hfz53_2); (try clear hfz53_3); (try clear hfz53_4); (try clear hfz54_0); (try clear hfz54_1); (try clear hfz54_2); (try clear hfz54_3); (try clear hfz54_4)
               (try clear hfz56_0); (try clear hfz56_1); (try clear hfz56_2); (try clear hfz56_3); (try clear hfz56_4); (try clear hfz57_0); (try clear hfz57_1); (try clear hfz57_2); (try clear hfz57_3); (try clear hfz57_4); (try clear hfz65_0); (try clear hfz65_1); (try clear hfz65_2); (try clear hfz65_3); (try clear hfz65_4); (try clear hfz70_0); (try clear hfz70_1); (try clear hfz70_2); (try clear hfz70_3)
               (try clear hfz70_4); (try clear p1); (try clear p14); (try clear p2); (try clear p6); (try clear p9); (try clear q1); (try clear q14); (try clear q9)
               obtain ⟨kq, x156000_60, HA, HJ60, BK145, BK155, HB⟩ := hcut
               cases kq with
               | zero => exact absurd HA.out (by simp [numeral_General.j6])
               | succ kj60 =>
                have H := HA.out
                clear HA
                simp only [numeral_General.j6] at H
                by_cases c71 : (⟨#[110, 97, 110]⟩ : ByteArray).toList = ([110, 97, 110] : List UInt8)
                ·
                 rw [if_pos c71] at H
                 have c71b0 : ((⟨#[110, 97, 110]⟩ : ByteArray).toList == ([110, 97, 110] : List UInt8)) = true := beq_iff_eq.mpr c71
                 have c71b1 : ((⟨#[110, 97, 110]⟩ : ByteArray).toList != ([110, 97, 110] : List UInt8)) = false := bne_eq_false_iff_eq.mpr c71
                 clear c71
                 simp only [Option.some.injEq, Prod.mk.injEq] at H
                 obtain ⟨rfl, rfl, rfl, rfl, rfl⟩ := H
                 have hnb72 := NB155_145.out
                 have hnc72 := NB145_155.out
                 have hcz73_0 : wc.cell? ⟨gb155, 0, none⟩ = some (.int .u8 x156000_60) := (blk_cell BK155.out 0).trans rfl
                 have hcz73_1 : wc.cell? ⟨gb155, 1, none⟩ = some (.bool false) := (blk_cell BK155.out 1).trans rfl
                 have hcz73_2 : wc.cell? ⟨gb155, 2, none⟩ = some (.string (⟨#[]⟩ : ByteArray)) := (blk_cell BK155.out 2).trans rfl
                 have hcz73_3 : wc.cell? ⟨gb155, 3, none⟩ = some (.int .i64 0) := (blk_cell BK155.out 3).trans rfl
                 have hcz73_4 : wc.cell? ⟨gb155, 4, none⟩ = some (.int .i64 (wrap64 (x3_14 + 3))) := (blk_cell BK155.out 4).trans rfl
                 have hfz73_0 := blk_frozen BK155.out 0
                 have hfz73_1 := blk_frozen BK155.out 1
                 have hfz73_2 := blk_frozen BK155.out 2
                 have hfz73_3 := blk_frozen BK155.out 3
                 have hfz73_4 := blk_frozen BK155.out 4
                 have hcz74_0 : wc.cell? ⟨gb145, 0, none⟩ = some (.int .u8 x146000_4) := (blk_cell BK145.out 0).trans rfl
                 have hcz74_1 : wc.cell? ⟨gb145, 1, none⟩ = some (.bool x146001_4) := (blk_cell BK145.out 1).trans rfl
                 have hcz74_2 : wc.cell? ⟨gb145, 2, none⟩ = some (.string x146002_4) := (blk_cell BK145.out 2).trans rfl
                 have hcz74_3 : wc.cell? ⟨gb145, 3, none⟩ = some (.int .i64 x146003_4) := (blk_cell BK145.out 3).trans rfl
                 have hcz74_4 : wc.cell? ⟨gb145, 4, none⟩ = some (.int .i64 x146004_4) := (blk_cell BK145.out 4).trans rfl
                 have hfz74_0 := blk_frozen BK145.out 0
                 have hfz74_1 := blk_frozen BK145.out 1
                 have hfz74_2 := blk_frozen BK145.out 2
                 have hfz74_3 := blk_frozen BK145.out 3
                 have hfz74_4 := blk_frozen BK145.out 4
                 go_wp2
                 refine bodyPost_ret (results_cell_row rfl _ _ gb145 29 #[.int .u8 1, .bool false, .string (⟨#[]⟩ : ByteArray), .int .i64 0, .int .i64 (wrap64 (x3_14 + 3))] (0, 0) _ rfl (by (with_reducible repeat (first | refine blk_drewN ?_ _ | refine blk_drew ?_ | refine blk_alloc ?_ _)); refine blk_put (cs := #[.int .u8 1, .bool false, .string (⟨#[]⟩ : ByteArray), .int .i64 0, .int .i64 x146004_4]) ?_ 4 _ rfl; (with_reducible repeat (first | refine blk_drewN ?_ _ | refine blk_drew ?_ | refine blk_alloc ?_ _)); refine blk_put (cs := #[.int .u8 1, .bool false, .string (⟨#[]⟩ : ByteArray), .int .i64 x146003_4, .int .i64 x146004_4]) ?_ 3 _ rfl; (with_reducible repeat (first | refine blk_drewN ?_ _ | refine blk_drew ?_ | refine blk_alloc ?_ _)); refine blk_put (cs := #[.int .u8 1, .bool false, .string x146002_4, .int .i64 x146003_4, .int .i64 x146004_4]) ?_ 2 _ rfl; (with_reducible repeat (first | refine blk_drewN ?_ _ | refine blk_drew ?_ | refine blk_alloc ?_ _)); refine blk_put (cs := #[.int .u8 1, .bool x146001_4, .string x146002_4, .int .i64 x146003_4, .int .i64 x146004_4]) ?_ 1 _ rfl; (with_reducible repeat (first | refine blk_drewN ?_ _ | refine blk_drew ?_ | refine blk_alloc ?_ _)); refine blk_put (cs := #[.int .u8 x146000_4, .bool x146001_4, .string x146002_4, .int .i64 x146003_4, .int .i64 x146004_4]) ?_ 0 _ rfl; (with_reducible repeat (first | refine blk_drewN ?_ _ | refine blk_drew ?_ | refine blk_alloc ?_ _)); refine blk_far ?_ NB145_155.out _; (with_reducible repeat (first | refine blk_drewN ?_ _ | refine blk_drew ?_ | refine blk_alloc ?_ _)); exact BK145.out) Tryd.underlying29 rfl (by kernel_rfl)) rfl ?_
                 exact ⟨qnmo10_, qnmo39_⟩
                ·
                  exact absurd ((ByteArray.toList_eq _).trans rfl) c71
             ·
              replace c60 := Bool.eq_false_iff.mpr c60
              subst c60
              have H1 : (numeral_General.l0 k4 a0 x3_14 x4_2 (wrap64 (x40_4 + 1))) = some (r1, r2, r3, r4, r5) := by rw [if_neg (show ¬ (false = true) by decide)] at H; exact H
              clear H
              have H := H1
              clear H1
              have H' := Aside0.mk H
              clear H
              go_wp2_with (first | ((with_reducible refine gate_callee (f := 35) rfl ?_); refine goesL_ (some 46) rfl rfl Tryd.func35 (by kernel_rfl) rfl #[.string a0, .int .i64 x3_14, .string (⟨#[110, 97, 110]⟩ : ByteArray)] rfl qnmo0_ ?_; (with_reducible refine (numeral_begins.calls k4 a0 x3_14 (⟨#[110, 97, 110]⟩ : ByteArray) false _ A59.out).mono ?_); rintro e w' ⟨rfl, ⟨nd, rfl⟩⟩; refine ⟨_, rfl, ?_⟩))
              go_roundg k4
              case measure => have := HJ2.out; have := HJ9.out; have := HJ14.out; have := HK4.out; omega
              case rel => exact ⟨(wrap64 (x40_4 + 1)), (x146000_4), (x146001_4), (x146002_4), (x146003_4), (x146004_4), qnmo2_, H', ⟨by have := HJ2.out; have := HJ9.out; have := HJ14.out; have := HK4.out; omega⟩, ⟨qnmo8_⟩, ⟨qnmo7_⟩⟩
            ·
             rw [if_neg c58] at H
             exact absurd H (by simp)
         ·
          rw [if_neg c17] at H
          have c17b0 : decide (x40_4 < 3) = false := decide_eq_false c17
          clear c17
          replace H := Option.bind_eq_some_iff.mp H
          obtain ⟨⟨t156, t157, t158, t159⟩, A780, H⟩ := H
          replace H : (if t159 = 0 then (some (0, false, (⟨#[]⟩ : ByteArray), 0, 0)) else ((numeral_exponent.f k4 a0 t159).bind fun bt161 => ((numeral_digits.f k4 t157 t158 bt161.1).bind fun bt164 => (if x4_2 = true then (some (3, (!bt164.1.toList.isEmpty), bt164.1, bt164.2, bt161.2)) else (some (3, false, bt164.1, bt164.2, bt161.2)))))) = some (r1, r2, r3, r4, r5) := H
          have A78 := Aside0.mk A780
          clear A780
          by_cases c79 : t159 = 0
          ·
           rw [if_pos c79] at H
           have c79b0 : (t159 == 0) = true := beq_iff_eq.mpr c79
           have c79b1 : (t159 != 0) = false := bne_eq_false_iff_eq.mpr c79
           clear c79
           simp only [Option.some.injEq, Prod.mk.injEq] at H
           obtain ⟨rfl, rfl, rfl, rfl, rfl⟩ := H
           have tk85 : True := trivial; have tk86 : True := trivial
           go_wp2_with (first | (have ztk85 := tk85; clear tk85 ztk85; (with_reducible refine gate_callee (f := 36) rfl ?_); refine goesL_ (some 62) rfl rfl Tryd.func36 (by kernel_rfl) rfl #[.string a0, .int .i64 x3_14] rfl qnmo0_ ?_; (with_reducible refine (numeral_plain.calls a0 x3_14 t156 t157 t158 t159 _ A78.out).mono ?_); rintro e w80 ⟨rfl, hb⟩; refine ⟨_, rfl, ?_⟩; have n0_ := Aside0.mk (blk_below (g := gb145) (o := .cells #[.int .u8 x146000_4, .bool x146001_4, .string x146002_4, .int .i64 x146003_4, .int .i64 x146004_4] 29 (0, 0)) qnmo8_ hb); have n1_ := Aside0.mk (below_step qnmo7_ hb); clear BK145; clear HB; have BK145 := n0_; have HB := n1_; clear n0_ n1_; (try clear hb); (try clear hb2); (try clear hk); (try clear hi)) | (have ztk86 := tk86; clear tk86 ztk86; (with_reducible refine gate_dst (N := 8) rfl ?_); (try (refine gate_guard (by rfl) ?_; dsimp only)); refine box_event ?hg (N := 8) ?hd (cs := #[.bool false, .string (⟨#[]⟩ : ByteArray), .string (⟨#[]⟩ : ByteArray), .int .i64 0]) (t := 55) ?hr ?_; (case hd => rfl); (case hg => rfl); (case hr => first | (go_simp; done) | (go_simp; rfl)); intro gb160 hg w81 hbox hb; have n0_ := Aside0.mk (blk_below (g := gb145) (o := .cells #[.int .u8 x146000_4, .bool x146001_4, .string x146002_4, .int .i64 x146003_4, .int .i64 x146004_4] 29 (0, 0)) qnmo8_ hb); have n1_ := Aside0.mk (below_step qnmo7_ hb); have n2_ := Aside0.mk (hbox); have n3_ := Aside0.mk ((by rw [hg]; exact (below_size qnmo7_) : w.heap.size ≤ gb160)); have n4_ := Aside0.mk ((by rw [hg]; exact (below_size qnmo7_) : w.heap.size ≤ gb160)); have n5_ := Aside0.mk ((by rw [hg]; exact Nat.ne_of_lt (blk_lt (g := gb145) (o := .cells #[.int .u8 x146000_4, .bool x146001_4, .string x146002_4, .int .i64 x146003_4, .int .i64 x146004_4] 29 (0, 0)) qnmo8_) : gb145 ≠ gb160)); have n6_ := Aside0.mk ((by rw [hg]; exact Nat.ne_of_gt (blk_lt (g := gb145) (o := .cells #[.int .u8 x146000_4, .bool x146001_4, .string x146002_4, .int .i64 x146003_4, .int .i64 x146004_4] 29 (0, 0)) qnmo8_) : gb160 ≠ gb145)); clear BK145; clear HB; have BK145 := n0_; have HB := n1_; have BK160 := n2_; have GW160 := n3_; have GE160 := n4_; have NB145_160 := n5_; have NB160_145 := n6_; clear n0_ n1_ n2_ n3_ n4_ n5_ n6_; clear hb hbox hg; have hnb82 := NB160_145.out; have hnc82 := NB145_160.out; have hcz83_0 : w81.cell? ⟨gb160, 0, none⟩ = some (.bool false) := (blk_cell BK160.out 0).trans rfl; have hcz83_1 : w81.cell? ⟨gb160, 1, none⟩ = some (.string (⟨#[]⟩ : ByteArray)) := (blk_cell BK160.out 1).trans rfl; have hcz83_2 : w81.cell? ⟨gb160, 2, none⟩ = some (.string (⟨#[]⟩ : ByteArray)) := (blk_cell BK160.out 2).trans rfl; have hcz83_3 : w81.cell? ⟨gb160, 3, none⟩ = some (.int .i64 0) := (blk_cell BK160.out 3).trans rfl; have hfz83_0 := blk_frozen BK160.out 0; have hfz83_1 := blk_frozen BK160.out 1; have hfz83_2 := blk_frozen BK160.out 2; have hfz83_3 := blk_frozen BK160.out 3; have hcz84_0 : w81.cell? ⟨gb145, 0, none⟩ = some (.int .u8 x146000_4) := (blk_cell BK145.out 0).trans rfl; have hcz84_1 : w81.cell? ⟨gb145, 1, none⟩ = some (.bool x146001_4) := (blk_cell BK145.out 1).trans rfl; have hcz84_2 : w81.cell? ⟨gb145, 2, none⟩ = some (.string x146002_4) := (blk_cell BK145.out 2).trans rfl; have hcz84_3 : w81.cell? ⟨gb145, 3, none⟩ = some (.int .i64 x146003_4) := (blk_cell BK145.out 3).trans rfl; have hcz84_4 : w81.cell? ⟨gb145, 4, none⟩ = some (.int .i64 x146004_4) := (blk_cell BK145.out 4).trans rfl; have hfz84_0 := blk_frozen BK145.out 0; have hfz84_1 := blk_frozen BK145.out 1; have hfz84_2 := blk_frozen BK145.out 2; have hfz84_3 := blk_frozen BK145.out 3; have hfz84_4 := blk_frozen BK145.out 4))
           refine bodyPost_ret (results_cell_row rfl _ _ gb145 29 #[.int .u8 0, .bool false, .string (⟨#[]⟩ : ByteArray), .int .i64 0, .int .i64 0] (0, 0) _ rfl (by (with_reducible repeat (first | refine blk_drewN ?_ _ | refine blk_drew ?_ | refine blk_alloc ?_ _)); refine blk_put (cs := #[.int .u8 0, .bool false, .string (⟨#[]⟩ : ByteArray), .int .i64 0, .int .i64 x146004_4]) ?_ 4 _ rfl; (with_reducible repeat (first | refine blk_drewN ?_ _ | refine blk_drew ?_ | refine blk_alloc ?_ _)); refine blk_put (cs := #[.int .u8 0, .bool false, .string (⟨#[]⟩ : ByteArray), .int .i64 x146003_4, .int .i64 x146004_4]) ?_ 3 _ rfl; (with_reducible repeat (first | refine blk_drewN ?_ _ | refine blk_drew ?_ | refine blk_alloc ?_ _)); refine blk_put (cs := #[.int .u8 0, .bool false, .string x146002_4, .int .i64 x146003_4, .int .i64 x146004_4]) ?_ 2 _ rfl; (with_reducible repeat (first | refine blk_drewN ?_ _ | refine blk_drew ?_ | refine blk_alloc ?_ _)); refine blk_put (cs := #[.int .u8 0, .bool x146001_4, .string x146002_4, .int .i64 x146003_4, .int .i64 x146004_4]) ?_ 1 _ rfl; (with_reducible repeat (first | refine blk_drewN ?_ _ | refine blk_drew ?_ | refine blk_alloc ?_ _)); refine blk_put (cs := #[.int .u8 x146000_4, .bool x146001_4, .string x146002_4, .int .i64 x146003_4, .int .i64 x146004_4]) ?_ 0 _ rfl; (with_reducible repeat (first | refine blk_drewN ?_ _ | refine blk_drew ?_ | refine blk_alloc ?_ _)); refine blk_far ?_ NB145_160.out _; (with_reducible repeat (first | refine blk_drewN ?_ _ | refine blk_drew ?_ | refine blk_alloc ?_ _)); refine blk_far ?_ NB145_160.out _; (with_reducible repeat (first | refine blk_drewN ?_ _ | refine blk_drew ?_ | refine blk_alloc ?_ _)); refine blk_far ?_ NB145_160.out _; (with_reducible repeat (first | refine blk_drewN ?_ _ | refine blk_drew ?_ | refine blk_alloc ?_ _)); refine blk_far ?_ NB145_160.out _; (with_reducible repeat (first | refine blk_drewN ?_ _ | refine blk_drew ?_ | refine blk_alloc ?_ _)); exact BK145.out) Tryd.underlying29 rfl (by kernel_rfl)) rfl ?_
           exact ⟨qnmo10_, qnmo18_⟩
          ·
           rw [if_neg c79] at H
           have c79b0 : (t159 == 0) = false := beq_eq_false_iff_ne.mpr c79
           have c79b1 : (t159 != 0) = true := bne_iff_ne.mpr c79
           replace H := Option.bind_eq_some_iff.mp H
           obtain ⟨⟨t161, t162⟩, A870, H⟩ := H
           replace H : ((numeral_digits.f k4 t157 t158 t161).bind fun bt164 => (if x4_2 = true then (some (3, (!bt164.1.toList.isEmpty), bt164.1, bt164.2, t162)) else (some (3, false, bt164.1, bt164.2, t162)))) = some (r1, r2, r3, r4, r5) := H
           have A87 := Aside0.mk A870
           clear A870
           replace H := Option.bind_eq_some_iff.mp H
           obtain ⟨⟨t164, t165⟩, A880, H⟩ := H
           replace H : (if x4_2 = true then (some (3, (!t164.toList.isEmpty), t164, t165, t162)) else (some (3, false, t164, t165, t162))) = some (r1, r2, r3, r4, r5) := H
           have A88 := Aside0.mk A880
           clear A880
           by_cases c89 : x4_2 = true
           ·
            subst c89
            have H1 : (some (3, (!t164.toList.isEmpty), t164, t165, t162)) = some (r1, r2, r3, r4, r5) := by rw [if_pos rfl] at H; exact H
            clear H
            have H := H1
            clear H1
            simp only [Option.some.injEq, Prod.mk.injEq] at H
            obtain ⟨rfl, rfl, rfl, rfl, rfl⟩ := H
            have tk103 : True := trivial; have tk104 : True := trivial; have tk105 : True := trivial; have tk106 : True := trivial; have tk107 : True := trivial
            go_wp2_with (first | (have ztk103 := tk103; clear tk103 ztk103; (with_reducible refine gate_callee (f := 36) rfl ?_); refine goesL_ (some 62) rfl rfl Tryd.func36 (by kernel_rfl) rfl #[.string a0, .int .i64 x3_14] rfl qnmo0_ ?_; (with_reducible refine (numeral_plain.calls a0 x3_14 t156 t157 t158 t159 _ A78.out).mono ?_); rintro e w90 ⟨rfl, hb⟩; refine ⟨_, rfl, ?_⟩; have n0_ := Aside0.mk (blk_below (g := gb145) (o := .cells #[.int .u8 x146000_4, .bool x146001_4, .string x146002_4, .int .i64 x146003_4, .int .i64 x146004_4] 29 (0, 0)) qnmo8_ hb); have n1_ := Aside0.mk (below_step qnmo7_ hb); clear BK145; clear HB; have BK145 := n0_; have HB := n1_; clear n0_ n1_; (try clear hb); (try clear hb2); (try clear hk); (try clear hi)) | (have ztk104 := tk104; clear tk104 ztk104; (with_reducible refine gate_dst (N := 8) rfl ?_); (try (refine gate_guard (by rfl) ?_; dsimp only)); refine box_event ?hg (N := 8) ?hd (cs := #[.bool false, .string (⟨#[]⟩ : ByteArray), .string (⟨#[]⟩ : ByteArray), .int .i64 0]) (t := 55) ?hr ?_; (case hd => rfl); (case hg => rfl); (case hr => first | (go_simp; done) | (go_simp; rfl)); intro gb160 hg w91 hbox hb; have n0_ := Aside0.mk (blk_below (g := gb145) (o := .cells #[.int .u8 x146000_4, .bool x146001_4, .string x146002_4, .int .i64 x146003_4, .int .i64 x146004_4] 29 (0, 0)) qnmo8_ hb); have n1_ := Aside0.mk (below_step qnmo7_ hb); have n2_ := Aside0.mk (hbox); have n3_ := Aside0.mk ((by rw [hg]; exact (below_size qnmo7_) : w.heap.size ≤ gb160)); have n4_ := Aside0.mk ((by rw [hg]; exact (below_size qnmo7_) : w.heap.size ≤ gb160)); have n5_ := Aside0.mk ((by rw [hg]; exact Nat.ne_of_lt (blk_lt (g := gb145) (o := .cells #[.int .u8 x146000_4, .bool x146001_4, .string x146002_4, .int .i64 x146003_4, .int .i64 x146004_4] 29 (0, 0)) qnmo8_) : gb145 ≠ gb160)); have n6_ := Aside0.mk ((by rw [hg]; exact Nat.ne_of_gt (blk_lt (g := gb145) (o := .cells #[.int .u8 x146000_4, .bool x146001_4, .string x146002_4, .int .i64 x146003_4, .int .i64 x146004_4] 29 (0, 0)) qnmo8_) : gb160 ≠ gb145)); clear BK145; clear HB; have BK145 := n0_; have HB := n1_; have BK160 := n2_; have GW160 := n3_; have GE160 := n4_; have NB145_160 := n5_; have NB160_145 := n6_; clear n0_ n1_ n2_ n3_ n4_ n5_ n6_; clear hb hbox hg; have hnb92 := NB160_145.out; have hnc92 := NB145_160.out; have hcz93_0 : w91.cell? ⟨gb160, 0, none⟩ = some (.bool false) := (blk_cell BK160.out 0).trans rfl; have hcz93_1 : w91.cell? ⟨gb160, 1, none⟩ = some (.string (⟨#[]⟩ : ByteArray)) := (blk_cell BK160.out 1).trans rfl; have hcz93_2 : w91.cell? ⟨gb160, 2, none⟩ = some (.string (⟨#[]⟩ : ByteArray)) := (blk_cell BK160.out 2).trans rfl; have hcz93_3 : w91.cell? ⟨gb160, 3, none⟩ = some (.int .i64 0) := (blk_cell BK160.out 3).trans rfl; have hfz93_0 := blk_frozen BK160.out 0; have hfz93_1 := blk_frozen BK160.out 1; have hfz93_2 := blk_frozen BK160.out 2; have hfz93_3 := blk_frozen BK160.out 3) | (have ztk105 := tk105; clear tk105 ztk105; (with_reducible refine gate_callee (f := 37) rfl ?_); refine goesL_ (some 71) rfl rfl Tryd.func37 (by kernel_rfl) rfl #[.string a0, .int .i64 t159] rfl qnmo0_ ?_; (with_reducible refine (numeral_exponent.calls k4 a0 t159 t161 t162 _ A87.out).mono ?_); rintro e w94 ⟨rfl, hb⟩; refine ⟨_, rfl, ?_⟩; have n0_ := Aside0.mk (blk_below (g := gb145) (o := .cells #[.int .u8 x146000_4, .bool x146001_4, .string x146002_4, .int .i64 x146003_4, .int .i64 x146004_4] 29 (0, 0)) (by (with_reducible repeat (first | refine blk_drewN ?_ _ | refine blk_drew ?_ | refine blk_alloc ?_ _)); refine blk_far ?_ NB145_160.out _; (with_reducible repeat (first | refine blk_drewN ?_ _ | refine blk_drew ?_ | refine blk_alloc ?_ _)); refine blk_far ?_ NB145_160.out _; (with_reducible repeat (first | refine blk_drewN ?_ _ | refine blk_drew ?_ | refine blk_alloc ?_ _)); refine blk_far ?_ NB145_160.out _; (with_reducible repeat (first | refine blk_drewN ?_ _ | refine blk_drew ?_ | refine blk_alloc ?_ _)); refine blk_far ?_ NB145_160.out _; (with_reducible repeat (first | refine blk_drewN ?_ _ | refine blk_drew ?_ | refine blk_alloc ?_ _)); exact BK145.out) hb); have n1_ := Aside0.mk (blk_below (g := gb160) (o := .cells #[.bool t156, .string t157, .string t158, .int .i64 t159] 55 (0, 0)) (by (with_reducible repeat (first | refine blk_drewN ?_ _ | refine blk_drew ?_ | refine blk_alloc ?_ _)); refine blk_put (cs := #[.bool t156, .string t157, .string t158, .int .i64 0]) ?_ 3 _ rfl; (with_reducible repeat (first | refine blk_drewN ?_ _ | refine blk_drew ?_ | refine blk_alloc ?_ _)); refine blk_put (cs := #[.bool t156, .string t157, .string (⟨#[]⟩ : ByteArray), .int .i64 0]) ?_ 2 _ rfl; (with_reducible repeat (first | refine blk_drewN ?_ _ | refine blk_drew ?_ | refine blk_alloc ?_ _)); refine blk_put (cs := #[.bool t156, .string (⟨#[]⟩ : ByteArray), .string (⟨#[]⟩ : ByteArray), .int .i64 0]) ?_ 1 _ rfl; (with_reducible repeat (first | refine blk_drewN ?_ _ | refine blk_drew ?_ | refine blk_alloc ?_ _)); refine blk_put (cs := #[.bool false, .string (⟨#[]⟩ : ByteArray), .string (⟨#[]⟩ : ByteArray), .int .i64 0]) ?_ 0 _ rfl; (with_reducible repeat (first | refine blk_drewN ?_ _ | refine blk_drew ?_ | refine blk_alloc ?_ _)); exact BK160.out) hb); have n2_ := Aside0.mk (below_step qnmo18_ hb); clear BK145; clear BK160; clear HB; have BK145 := n0_; have BK160 := n1_; have HB := n2_; clear n0_ n1_ n2_; (try clear hb); (try clear hb2); (try clear hk); (try clear hi)) | (have ztk106 := tk106; clear tk106 ztk106; (with_reducible refine gate_dst (N := 11) rfl ?_); (try (refine gate_guard (by rfl) ?_; dsimp only)); refine box_event ?hg (N := 11) ?hd (cs := #[.int .u8 0, .bool false, .string (⟨#[]⟩ : ByteArray), .int .i64 0, .int .i64 0]) (t := 29) ?hr ?_; (case hd => rfl); (case hg => rfl); (case hr => first | (go_simp; done) | (go_simp; rfl)); intro gb163 hg w95 hbox hb; have n0_ := Aside0.mk (blk_below (g := gb145) (o := .cells #[.int .u8 x146000_4, .bool x146001_4, .string x146002_4, .int .i64 x146003_4, .int .i64 x146004_4] 29 (0, 0)) qnmo8_ hb); have n1_ := Aside0.mk (blk_below (g := gb160) (o := .cells #[.bool t156, .string t157, .string t158, .int .i64 t159] 55 (0, 0)) qnmo36_ hb); have n2_ := Aside0.mk (below_step qnmo18_ hb); have n3_ := Aside0.mk (hbox); have n4_ := Aside0.mk ((by rw [hg]; exact (below_size qnmo18_) : w.heap.size ≤ gb163)); have n5_ := Aside0.mk ((by rw [hg]; exact (below_size qnmo18_) : w.heap.size ≤ gb163)); have n6_ := Aside0.mk ((by rw [hg]; exact Nat.ne_of_lt (blk_lt (g := gb145) (o := .cells #[.int .u8 x146000_4, .bool x146001_4, .string x146002_4, .int .i64 x146003_4, .int .i64 x146004_4] 29 (0, 0)) qnmo8_) : gb145 ≠ gb163)); have n7_ := Aside0.mk ((by rw [hg]; exact Nat.ne_of_gt (blk_lt (g := gb145) (o := .cells #[.int .u8 x146000_4, .bool x146001_4, .string x146002_4, .int .i64 x146003_4, .int .i64 x146004_4] 29 (0, 0)) qnmo8_) : gb163 ≠ gb145)); have n8_ := Aside0.mk ((by rw [hg]; exact Nat.ne_of_lt (blk_lt (g := gb160) (o := .cells #[.bool t156, .string t157, .string t158, .int .i64 t159] 55 (0, 0)) qnmo36_) : gb160 ≠ gb163)); have n9_ := Aside0.mk ((by rw [hg]; exact Nat.ne_of_gt (blk_lt (g := gb160) (o := .cells #[.bool t156, .string t157, .string t158, .int .i64 t159] 55 (0, 0)) qnmo36_) : gb163 ≠ gb160)); clear BK145; clear BK160; clear HB; have BK145 := n0_; have BK160 := n1_; have HB := n2_; have BK163 := n3_; have GW163 := n4_; have GE163 := n5_; have NB145_163 := n6_; have NB163_145 := n7_; have NB160_163 := n8_; have NB163_160 := n9_; clear n0_ n1_ n2_ n3_ n4_ n5_ n6_ n7_ n8_ n9_; clear hb hbox hg; have hnb96 := NB163_145.out; have hnc96 := NB145_163.out; have hnb97 := NB163_160.out; have hnc97 := NB160_163.out; have hcz98_0 : w95.cell? ⟨gb163, 0, none⟩ = some (.int .u8 0) := (blk_cell BK163.out 0).trans rfl; have hcz98_1 : w95.cell? ⟨gb163, 1, none⟩ = some (.bool false) := (blk_cell BK163.out 1).trans rfl; have hcz98_2 : w95.cell? ⟨gb163, 2, none⟩ = some (.string (⟨#[]⟩ : ByteArray)) := (blk_cell BK163.out 2).trans rfl; have hcz98_3 : w95.cell? ⟨gb163, 3, none⟩ = some (.int .i64 0) := (blk_cell BK163.out 3).trans rfl; have hcz98_4 : w95.cell? ⟨gb163, 4, none⟩ = some (.int .i64 0) := (blk_cell BK163.out 4).trans rfl; have hfz98_0 := blk_frozen BK163.out 0; have hfz98_1 := blk_frozen BK163.out 1; have hfz98_2 := blk_frozen BK163.out 2; have hfz98_3 := blk_frozen BK163.out 3; have hfz98_4 := blk_frozen BK163.out 4; have hcz99_0 : w95.cell? ⟨gb160, 0, none⟩ = some (.bool t156) := (blk_cell BK160.out 0).trans rfl; have hcz99_1 : w95.cell? ⟨gb160, 1, none⟩ = some (.string t157) := (blk_cell BK160.out 1).trans rfl; have hcz99_2 : w95.cell? ⟨gb160, 2, none⟩ = some (.string t158) := (blk_cell BK160.out 2).trans rfl; have hcz99_3 : w95.cell? ⟨gb160, 3, none⟩ = some (.int .i64 t159) := (blk_cell BK160.out 3).trans rfl; have hfz99_0 := blk_frozen BK160.out 0; have hfz99_1 := blk_frozen BK160.out 1; have hfz99_2 := blk_frozen BK160.out 2; have hfz99_3 := blk_frozen BK160.out 3) | (have ztk107 := tk107; clear tk107 ztk107; (with_reducible refine gate_callee (f := 38) rfl ?_); refine goesL_ (some 82) rfl rfl Tryd.func38 (by kernel_rfl) rfl #[.string t157, .string t158, .int .i64 t161] rfl qnmo0_ ?_; (with_reducible refine (numeral_digits.calls k4 t157 t158 t161 t164 t165 _ A88.out).mono ?_); rintro e w100 ⟨rfl, hb⟩; refine ⟨_, rfl, ?_⟩; have n0_ := Aside0.mk (blk_below (g := gb145) (o := .cells #[.int .u8 x146000_4, .bool x146001_4, .string x146002_4, .int .i64 x146003_4, .int .i64 x146004_4] 29 (0, 0)) (by (with_reducible repeat (first | refine blk_drewN ?_ _ | refine blk_drew ?_ | refine blk_alloc ?_ _)); refine blk_far ?_ NB145_163.out _; (with_reducible repeat (first | refine blk_drewN ?_ _ | refine blk_drew ?_ | refine blk_alloc ?_ _)); refine blk_far ?_ NB145_163.out _; (with_reducible repeat (first | refine blk_drewN ?_ _ | refine blk_drew ?_ | refine blk_alloc ?_ _)); refine blk_far ?_ NB145_163.out _; (with_reducible repeat (first | refine blk_drewN ?_ _ | refine blk_drew ?_ | refine blk_alloc ?_ _)); refine blk_far ?_ NB145_163.out _; (with_reducible repeat (first | refine blk_drewN ?_ _ | refine blk_drew ?_ | refine blk_alloc ?_ _)); refine blk_far ?_ NB145_163.out _; (with_reducible repeat (first | refine blk_drewN ?_ _ | refine blk_drew ?_ | refine blk_alloc ?_ _)); exact BK145.out) hb); have n1_ := Aside0.mk (blk_below (g := gb160) (o := .cells #[.bool t156, .string t157, .string t158, .int .i64 t159] 55 (0, 0)) (by (with_reducible repeat (first | refine blk_drewN ?_ _ | refine blk_drew ?_ | refine blk_alloc ?_ _)); refine blk_far ?_ NB160_163.out _; (with_reducible repeat (first | refine blk_drewN ?_ _ | refine blk_drew ?_ | refine blk_alloc ?_ _)); refine blk_far ?_ NB160_163.out _; (with_reducible repeat (first | refine blk_drewN ?_ _ | refine blk_drew ?_ | refine blk_alloc ?_ _)); refine blk_far ?_ NB160_163.out _; (with_reducible repeat (first | refine blk_drewN ?_ _ | refine blk_drew ?_ | refine blk_alloc ?_ _)); refine blk_far ?_ NB160_163.out _; (with_reducible repeat (first | refine blk_drewN ?_ _ | refine blk_drew ?_ | refine blk_alloc ?_ _)); refine blk_far ?_ NB160_163.out _; (with_reducible repeat (first | refine blk_drewN ?_ _ | refine blk_drew ?_ | refine blk_alloc ?_ _)); exact BK160.out) hb); have n2_ := Aside0.mk (blk_below (g := gb163) (o := .cells #[.int .u8 3, .bool false, .string (⟨#[]⟩ : ByteArray), .int .i64 0, .int .i64 t162] 29 (0, 0)) (by (with_reducible repeat (first | refine blk_drewN ?_ _ | refine blk_drew ?_ | refine blk_alloc ?_ _)); refine blk_put (cs := #[.int .u8 3, .bool false, .string (⟨#[]⟩ : ByteArray), .int .i64 0, .int .i64 0]) ?_ 4 _ rfl; (with_reducible repeat (first | refine blk_drewN ?_ _ | refine blk_drew ?_ | refine blk_alloc ?_ _)); refine blk_put (cs := #[.int .u8 3, .bool false, .string (⟨#[]⟩ : ByteArray), .int .i64 0, .int .i64 0]) ?_ 3 _ rfl; (with_reducible repeat (first | refine blk_drewN ?_ _ | refine blk_drew ?_ | refine blk_alloc ?_ _)); refine blk_put (cs := #[.int .u8 3, .bool false, .string (⟨#[]⟩ : ByteArray), .int .i64 0, .int .i64 0]) ?_ 2 _ rfl; (with_reducible repeat (first | refine blk_drewN ?_ _ | refine blk_drew ?_ | refine blk_alloc ?_ _)); refine blk_put (cs := #[.int .u8 3, .bool false, .string (⟨#[]⟩ : ByteArray), .int .i64 0, .int .i64 0]) ?_ 1 _ rfl; (with_reducible repeat (first | refine blk_drewN ?_ _ | refine blk_drew ?_ | refine blk_alloc ?_ _)); refine blk_put (cs := #[.int .u8 0, .bool false, .string (⟨#[]⟩ : ByteArray), .int .i64 0, .int .i64 0]) ?_ 0 _ rfl; (with_reducible repeat (first | refine blk_drewN ?_ _ | refine blk_drew ?_ | refine blk_alloc ?_ _)); exact BK163.out) hb); have n3_ := Aside0.mk (below_step qnmo34_ hb); clear BK145; clear BK160; clear BK163; clear HB; have BK145 := n0_; have BK160 := n1_; have BK163 := n2_; have HB := n3_; clear n0_ n1_ n2_ n3_; (try clear hb); (try clear hb2); (try clear hk); (try clear hi); have hcz101_0 : w100.cell? ⟨gb163, 0, none⟩ = some (.int .u8 3) := (blk_cell BK163.out 0).trans rfl; have hcz101_1 : w100.cell? ⟨gb163, 1, none⟩ = some (.bool false) := (blk_cell BK163.out 1).trans rfl; have hcz101_2 : w100.cell? ⟨gb163, 2, none⟩ = some (.string (⟨#[]⟩ : ByteArray)) := (blk_cell BK163.out 2).trans rfl; have hcz101_3 : w100.cell? ⟨gb163, 3, none⟩ = some (.int .i64 0) := (blk_cell BK163.out 3).trans rfl; have hcz101_4 : w100.cell? ⟨gb163, 4, none⟩ = some (.int .i64 t162) := (blk_cell BK163.out 4).trans rfl; have hfz101_0 := blk_frozen BK163.out 0; have hfz101_1 := blk_frozen BK163.out 1; have hfz101_2 := blk_frozen BK163.out 2; have hfz101_3 := blk_frozen BK163.out 3; have hfz101_4 := blk_frozen BK163.out 4; have hcz102_0 : w100.cell? ⟨gb145, 0, none⟩ = some (.int .u8 x146000_4) := (blk_cell BK145.out 0).trans rfl; have hcz102_1 : w100.cell? ⟨gb145, 1, none⟩ = some (.bool x146001_4) := (blk_cell BK145.out 1).trans rfl; have hcz102_2 : w100.cell? ⟨gb145, 2, none⟩ = some (.string x146002_4) := (blk_cell BK145.out 2).trans rfl; have hcz102_3 : w100.cell? ⟨gb145, 3, none⟩ = some (.int .i64 x146003_4) := (blk_cell BK145.out 3).trans rfl; have hcz102_4 : w100.cell? ⟨gb145, 4, none⟩ = some (.int .i64 x146004_4) := (blk_cell BK145.out 4).trans rfl; have hfz102_0 := blk_frozen BK145.out 0; have hfz102_1 := blk_frozen BK145.out 1; have hfz102_2 := blk_frozen BK145.out 2; have hfz102_3 := blk_frozen BK145.out 3; have hfz102_4 := blk_frozen BK145.out 4))
            refine bodyPost_ret (results_cell_row rfl _ _ gb145 29 #[.int .u8 3, .bool (!t164.toList.isEmpty), .string t164, .int .i64 t165, .int .i64 t162] (0, 0) _ rfl (by (with_reducible repeat (first | refine blk_drewN ?_ _ | refine blk_drew ?_ | refine blk_alloc ?_ _)); refine blk_put (cs := #[.int .u8 3, .bool (!t164.toList.isEmpty), .string t164, .int .i64 t165, .int .i64 x146004_4]) ?_ 4 _ rfl; (with_reducible repeat (first | refine blk_drewN ?_ _ | refine blk_drew ?_ | refine blk_alloc ?_ _)); refine blk_put (cs := #[.int .u8 3, .bool (!t164.toList.isEmpty), .string t164, .int .i64 x146003_4, .int .i64 x146004_4]) ?_ 3 _ rfl; (with_reducible repeat (first | refine blk_drewN ?_ _ | refine blk_drew ?_ | refine blk_alloc ?_ _)); refine blk_put (cs := #[.int .u8 3, .bool (!t164.toList.isEmpty), .string x146002_4, .int .i64 x146003_4, .int .i64 x146004_4]) ?_ 2 _ rfl; (with_reducible repeat (first | refine blk_drewN ?_ _ | refine blk_drew ?_ | refine blk_alloc ?_ _)); refine blk_put (cs := #[.int .u8 3, .bool x146001_4, .string x146002_4, .int .i64 x146003_4, .int .i64 x146004_4]) ?_ 1 _ rfl; (with_reducible repeat (first | refine blk_drewN ?_ _ | refine blk_drew ?_ | refine blk_alloc ?_ _)); refine blk_put (cs := #[.int .u8 x146000_4, .bool x146001_4, .string x146002_4, .int .i64 x146003_4, .int .i64 x146004_4]) ?_ 0 _ rfl; (with_reducible repeat (first | refine blk_drewN ?_ _ | refine blk_drew ?_ | refine blk_alloc ?_ _)); refine blk_far ?_ NB145_163.out _; (with_reducible repeat (first | refine blk_drewN ?_ _ | refine blk_drew ?_ | refine blk_alloc ?_ _)); refine blk_far ?_ NB145_163.out _; (with_reducible repeat (first | refine blk_drewN ?_ _ | refine blk_drew ?_ | refine blk_alloc ?_ _)); refine blk_far ?_ NB145_163.out _; (with_reducible repeat (first | refine blk_drewN ?_ _ | refine blk_drew ?_ | refine blk_alloc ?_ _)); exact BK145.out) Tryd.underlying29 rfl (by kernel_rfl)) rfl ?_
            exact ⟨qnmo10_, qnmo34_⟩
           ·
            replace c89 := Bool.eq_false_iff.mpr c89
            subst c89
            have H1 : (some (3, false, t164, t165, t162)) = some (r1, r2, r3, r4, r5) := by rw [if_neg (show ¬ (false = true) by decide)] at H; exact H
            clear H
            have H := H1
            clear H1
            simp only [Option.some.injEq, Prod.mk.injEq] at H
            obtain ⟨rfl, rfl, rfl, rfl, rfl⟩ := H
            have tk121 : True := trivial; have tk122 : True := trivial; have tk123 : True := trivial; have tk124 : True := trivial; have tk125 : True := trivial
            go_wp2_with (first | (have ztk121 := tk121; clear tk121 ztk121; (with_reducible refine gate_callee (f := 36) rfl ?_); refine goesL_ (some 62) rfl rfl Tryd.func36 (by kernel_rfl) rfl #[.string a0, .int .i64 x3_14] rfl qnmo0_ ?_; (with_reducible refine (numeral_plain.calls a0 x3_14 t156 t157 t158 t159 _ A78.out).mono ?_); rintro e w108 ⟨rfl, hb⟩; refine ⟨_, rfl, ?_⟩; have n0_ := Aside0.mk (blk_below (g := gb145) (o := .cells #[.int .u8 x146000_4, .bool x146001_4, .string x146002_4, .int .i64 x146003_4, .int .i64 x146004_4] 29 (0, 0)) qnmo8_ hb); have n1_ := Aside0.mk (below_step qnmo7_ hb); clear BK145; clear HB; have BK145 := n0_; have HB := n1_; clear n0_ n1_; (try clear hb); (try clear hb2); (try clear hk); (try clear hi)) | (have ztk122 := tk122; clear tk122 ztk122; (with_reducible refine gate_dst (N := 8) rfl ?_); (try (refine gate_guard (by rfl) ?_; dsimp only)); refine box_event ?hg (N := 8) ?hd (cs := #[.bool false, .string (⟨#[]⟩ : ByteArray), .string (⟨#[]⟩ : ByteArray), .int .i64 0]) (t := 55) ?hr ?_; (case hd => rfl); (case hg => rfl); (case hr => first | (go_simp; done) | (go_simp; rfl)); intro gb160 hg w109 hbox hb; have n0_ := Aside0.mk (blk_below (g := gb145) (o := .cells #[.int .u8 x146000_4, .bool x146001_4, .string x146002_4, .int .i64 x146003_4, .int .i64 x146004_4] 29 (0, 0)) qnmo8_ hb); have n1_ := Aside0.mk (below_step qnmo7_ hb); have n2_ := Aside0.mk (hbox); have n3_ := Aside0.mk ((by rw [hg]; exact (below_size qnmo7_) : w.heap.size ≤ gb160)); have n4_ := Aside0.mk ((by rw [hg]; exact (below_size qnmo7_) : w.heap.size ≤ gb160)); have n5_ := Aside0.mk ((by rw [hg]; exact Nat.ne_of_lt (blk_lt (g := gb145) (o := .cells #[.int .u8 x146000_4, .bool x146001_4, .string x146002_4, .int .i64 x146003_4, .int .i64 x146004_4] 29 (0, 0)) qnmo8_) : gb145 ≠ gb160)); have n6_ := Aside0.mk ((by rw [hg]; exact Nat.ne_of_gt (blk_lt (g := gb145) (o := .cells #[.int .u8 x146000_4, .bool x146001_4, .string x146002_4, .int .i64 x146003_4, .int .i64 x146004_4] 29 (0, 0)) qnmo8_) : gb160 ≠ gb145)); clear BK145; clear HB; have BK145 := n0_; have HB := n1_; have BK160 := n2_; have GW160 := n3_; have GE160 := n4_; have NB145_160 := n5_; have NB160_145 := n6_; clear n0_ n1_ n2_ n3_ n4_ n5_ n6_; clear hb hbox hg; have hnb110 := NB160_145.out; have hnc110 := NB145_160.out; have hcz111_0 : w109.cell? ⟨gb160, 0, none⟩ = some (.bool false) := (blk_cell BK160.out 0).trans rfl; have hcz111_1 : w109.cell? ⟨gb160, 1, none⟩ = some (.string (⟨#[]⟩ : ByteArray)) := (blk_cell BK160.out 1).trans rfl; have hcz111_2 : w109.cell? ⟨gb160, 2, none⟩ = some (.string (⟨#[]⟩ : ByteArray)) := (blk_cell BK160.out 2).trans rfl; have hcz111_3 : w109.cell? ⟨gb160, 3, none⟩ = some (.int .i64 0) := (blk_cell BK160.out 3).trans rfl; have hfz111_0 := blk_frozen BK160.out 0; have hfz111_1 := blk_frozen BK160.out 1; have hfz111_2 := blk_frozen BK160.out 2; have hfz111_3 := blk_frozen BK160.out 3) | (have ztk123 := tk123; clear tk123 ztk123; (with_reducible refine gate_callee (f := 37) rfl ?_); refine goesL_ (some 71) rfl rfl Tryd.func37 (by kernel_rfl) rfl #[.string a0, .int .i64 t159] rfl qnmo0_ ?_; (with_reducible refine (numeral_exponent.calls k4 a0 t159 t161 t162 _ A87.out).mono ?_); rintro e w112 ⟨rfl, hb⟩; refine ⟨_, rfl, ?_⟩; have n0_ := Aside0.mk (blk_below (g := gb145) (o := .cells #[.int .u8 x146000_4, .bool x146001_4, .string x146002_4, .int .i64 x146003_4, .int .i64 x146004_4] 29 (0, 0)) (by (with_reducible repeat (first | refine blk_drewN ?_ _ | refine blk_drew ?_ | refine blk_alloc ?_ _)); refine blk_far ?_ NB145_160.out _; (with_reducible repeat (first | refine blk_drewN ?_ _ | refine blk_drew ?_ | refine blk_alloc ?_ _)); refine blk_far ?_ NB145_160.out _; (with_reducible repeat (first | refine blk_drewN ?_ _ | refine blk_drew ?_ | refine blk_alloc ?_ _)); refine blk_far ?_ NB145_160.out _; (with_reducible repeat (first | refine blk_drewN ?_ _ | refine blk_drew ?_ | refine blk_alloc ?_ _)); refine blk_far ?_ NB145_160.out _; (with_reducible repeat (first | refine blk_drewN ?_ _ | refine blk_drew ?_ | refine blk_alloc ?_ _)); exact BK145.out) hb); have n1_ := Aside0.mk (blk_below (g := gb160) (o := .cells #[.bool t156, .string t157, .string t158, .int .i64 t159] 55 (0, 0)) (by (with_reducible repeat (first | refine blk_drewN ?_ _ | refine blk_drew ?_ | refine blk_alloc ?_ _)); refine blk_put (cs := #[.bool t156, .string t157, .string t158, .int .i64 0]) ?_ 3 _ rfl; (with_reducible repeat (first | refine blk_drewN ?_ _ | refine blk_drew ?_ | refine blk_alloc ?_ _)); refine blk_put (cs := #[.bool t156, .string t157, .string (⟨#[]⟩ : ByteArray), .int .i64 0]) ?_ 2 _ rfl; (with_reducible repeat (first | refine blk_drewN ?_ _ | refine blk_drew ?_ | refine blk_alloc ?_ _)); refine blk_put (cs := #[.bool t156, .string (⟨#[]⟩ : ByteArray), .string (⟨#[]⟩ : ByteArray), .int .i64 0]) ?_ 1 _ rfl; (with_reducible repeat (first | refine blk_drewN ?_ _ | refine blk_drew ?_ | refine blk_alloc ?_ _)); refine blk_put (cs := #[.bool false, .string (⟨#[]⟩ : ByteArray), .string (⟨#[]⟩ : ByteArray), .int .i64 0]) ?_ 0 _ rfl; (with_reducible repeat (first | refine blk_drewN ?_ _ | refine blk_drew ?_ | refine blk_alloc ?_ _)); exact BK160.out) hb); have n2_ := Aside0.mk (below_step qnmo18_ hb); clear BK145; clear BK160; clear HB; have BK145 := n0_; have BK160 := n1_; have HB := n2_; clear n0_ n1_ n2_; (try clear hb); (try clear hb2); (try clear hk); (try clear hi)) | (have ztk124 := tk124; clear tk124 ztk124; (with_reducible refine gate_dst (N := 11) rfl ?_); (try (refine gate_guard (by rfl) ?_; dsimp only)); refine box_event ?hg (N := 11) ?hd (cs := #[.int .u8 0, .bool false, .string (⟨#[]⟩ : ByteArray), .int .i64 0, .int .i64 0]) (t := 29) ?hr ?_; (case hd => rfl); (case hg => rfl); (case hr => first | (go_simp; done) | (go_simp; rfl)); intro gb163 hg w113 hbox hb; have n0_ := Aside0.mk (blk_below (g := gb145) (o := .cells #[.int .u8 x146000_4, .bool x146001_4, .string x146002_4, .int .i64 x146003_4, .int .i64 x146004_4] 29 (0, 0)) qnmo8_ hb); have n1_ := Aside0.mk (blk_below (g := gb160) (o := .cells #[.bool t156, .string t157, .string t158, .int .i64 t159] 55 (0, 0)) qnmo36_ hb); have n2_ := Aside0.mk (below_step qnmo18_ hb); have n3_ := Aside0.mk (hbox); have n4_ := Aside0.mk ((by rw [hg]; exact (below_size qnmo18_) : w.heap.size ≤ gb163)); have n5_ := Aside0.mk ((by rw [hg]; exact (below_size qnmo18_) : w.heap.size ≤ gb163)); have n6_ := Aside0.mk ((by rw [hg]; exact Nat.ne_of_lt (blk_lt (g := gb145) (o := .cells #[.int .u8 x146000_4, .bool x146001_4, .string x146002_4, .int .i64 x146003_4, .int .i64 x146004_4] 29 (0, 0)) qnmo8_) : gb145 ≠ gb163)); have n7_ := Aside0.mk ((by rw [hg]; exact Nat.ne_of_gt (blk_lt (g := gb145) (o := .cells #[.int .u8 x146000_4, .bool x146001_4, .string x146002_4, .int .i64 x146003_4, .int .i64 x146004_4] 29 (0, 0)) qnmo8_) : gb163 ≠ gb145)); have n8_ := Aside0.mk ((by rw [hg]; exact Nat.ne_of_lt (blk_lt (g := gb160) (o := .cells #[.bool t156, .string t157, .string t158, .int .i64 t159] 55 (0, 0)) qnmo36_) : gb160 ≠ gb163)); have n9_ := Aside0.mk ((by rw [hg]; exact Nat.ne_of_gt (blk_lt (g := gb160) (o := .cells #[.bool t156, .string t157, .string t158, .int .i64 t159] 55 (0, 0)) qnmo36_) : gb163 ≠ gb160)); clear BK145; clear BK160; clear HB; have BK145 := n0_; have BK160 := n1_; have HB := n2_; have BK163 := n3_; have GW163 := n4_; have GE163 := n5_; have NB145_163 := n6_; have NB163_145 := n7_; have NB160_163 := n8_; have NB163_160 := n9_; clear n0_ n1_ n2_ n3_ n4_ n5_ n6_ n7_ n8_ n9_; clear hb hbox hg; have hnb114 := NB163_145.out; have hnc114 := NB145_163.out; have hnb115 := NB163_160.out; have hnc115 := NB160_163.out; have hcz116_0 : w113.cell? ⟨gb163, 0, none⟩ = some (.int .u8 0) := (blk_cell BK163.out 0).trans rfl; have hcz116_1 : w113.cell? ⟨gb163, 1, none⟩ = some (.bool false) := (blk_cell BK163.out 1).trans rfl; have hcz116_2 : w113.cell? ⟨gb163, 2, none⟩ = some (.string (⟨#[]⟩ : ByteArray)) := (blk_cell BK163.out 2).trans rfl; have hcz116_3 : w113.cell? ⟨gb163, 3, none⟩ = some (.int .i64 0) := (blk_cell BK163.out 3).trans rfl; have hcz116_4 : w113.cell? ⟨gb163, 4, none⟩ = some (.int .i64 0) := (blk_cell BK163.out 4).trans rfl; have hfz116_0 := blk_frozen BK163.out 0; have hfz116_1 := blk_frozen BK163.out 1; have hfz116_2 := blk_frozen BK163.out 2; have hfz116_3 := blk_frozen BK163.out 3; have hfz116_4 := blk_frozen BK163.out 4; have hcz117_0 : w113.cell? ⟨gb160, 0, none⟩ = some (.bool t156) := (blk_cell BK160.out 0).trans rfl; have hcz117_1 : w113.cell? ⟨gb160, 1, none⟩ = some (.string t157) := (blk_cell BK160.out 1).trans rfl; have hcz117_2 : w113.cell? ⟨gb160, 2, none⟩ = some (.string t158) := (blk_cell BK160.out 2).trans rfl; have hcz117_3 : w113.cell? ⟨gb160, 3, none⟩ = some (.int .i64 t159) := (blk_cell BK160.out 3).trans rfl; have hfz117_0 := blk_frozen BK160.out 0; have hfz117_1 := blk_frozen BK160.out 1; have hfz117_2 := blk_frozen BK160.out 2; have hfz117_3 := blk_frozen BK160.out 3) | (have ztk125 := tk125; clear tk125 ztk125; (with_reducible refine gate_callee (f := 38) rfl ?_); refine goesL_ (some 82) rfl rfl Tryd.func38 (by kernel_rfl) rfl #[.string t157, .string t158, .int .i64 t161] rfl qnmo0_ ?_; (with_reducible refine (numeral_digits.calls k4 t157 t158 t161 t164 t165 _ A88.out).mono ?_); rintro e w118 ⟨rfl, hb⟩; refine ⟨_, rfl, ?_⟩; have n0_ := Aside0.mk (blk_below (g := gb145) (o := .cells #[.int .u8 x146000_4, .bool x146001_4, .string x146002_4, .int .i64 x146003_4, .int .i64 x146004_4] 29 (0, 0)) (by (with_reducible repeat (first | refine blk_drewN ?_ _ | refine blk_drew ?_ | refine blk_alloc ?_ _)); refine blk_far ?_ NB145_163.out _; (with_reducible repeat (first | refine blk_drewN ?_ _ | refine blk_drew ?_ | refine blk_alloc ?_ _)); refine blk_far ?_ NB145_163.out _; (with_reducible repeat (first | refine blk_drewN ?_ _ | refine blk_drew ?_ | refine blk_alloc ?_ _)); refine blk_far ?_ NB145_163.out _; (with_reducible repeat (first | refine blk_drewN ?_ _ | refine blk_drew ?_ | refine blk_alloc ?_ _)); refine blk_far ?_ NB145_163.out _; (with_reducible repeat (first | refine blk_drewN ?_ _ | refine blk_drew ?_ | refine blk_alloc ?_ _)); refine blk_far ?_ NB145_163.out _; (with_reducible repeat (first | refine blk_drewN ?_ _ | refine blk_drew ?_ | refine blk_alloc ?_ _)); exact BK145.out) hb); have n1_ := Aside0.mk (blk_below (g := gb160) (o := .cells #[.bool t156, .string t157, .string t158, .int .i64 t159] 55 (0, 0)) (by (with_reducible repeat (first | refine blk_drewN ?_ _ | refine blk_drew ?_ | refine blk_alloc ?_ _)); refine blk_far ?_ NB160_163.out _; (with_reducible repeat (first | refine blk_drewN ?_ _ | refine blk_drew ?_ | refine blk_alloc ?_ _)); refine blk_far ?_ NB160_163.out _; (with_reducible repeat (first | refine blk_drewN ?_ _ | refine blk_drew ?_ | refine blk_alloc ?_ _)); refine blk_far ?_ NB160_163.out _; (with_reducible repeat (first | refine blk_drewN ?_ _ | refine blk_drew ?_ | refine blk_alloc ?_ _)); refine blk_far ?_ NB160_163.out _; (with_reducible repeat (first | refine blk_drewN ?_ _ | refine blk_drew ?_ | refine blk_alloc ?_ _)); refine blk_far ?_ NB160_163.out _; (with_reducible repeat (first | refine blk_drewN ?_ _ | refine blk_drew ?_ | refine blk_alloc ?_ _)); exact BK160.out) hb); have n2_ := Aside0.mk (blk_below (g := gb163) (o := .cells #[.int .u8 3, .bool false, .string (⟨#[]⟩ : ByteArray), .int .i64 0, .int .i64 t162] 29 (0, 0)) (by (with_reducible repeat (first | refine blk_drewN ?_ _ | refine blk_drew ?_ | refine blk_alloc ?_ _)); refine blk_put (cs := #[.int .u8 3, .bool false, .string (⟨#[]⟩ : ByteArray), .int .i64 0, .int .i64 0]) ?_ 4 _ rfl; (with_reducible repeat (first | refine blk_drewN ?_ _ | refine blk_drew ?_ | refine blk_alloc ?_ _)); refine blk_put (cs := #[.int .u8 3, .bool false, .string (⟨#[]⟩ : ByteArray), .int .i64 0, .int .i64 0]) ?_ 3 _ rfl; (with_reducible repeat (first | refine blk_drewN ?_ _ | refine blk_drew ?_ | refine blk_alloc ?_ _)); refine blk_put (cs := #[.int .u8 3, .bool false, .string (⟨#[]⟩ : ByteArray), .int .i64 0, .int .i64 0]) ?_ 2 _ rfl; (with_reducible repeat (first | refine blk_drewN ?_ _ | refine blk_drew ?_ | refine blk_alloc ?_ _)); refine blk_put (cs := #[.int .u8 3, .bool false, .string (⟨#[]⟩ : ByteArray), .int .i64 0, .int .i64 0]) ?_ 1 _ rfl; (with_reducible repeat (first | refine blk_drewN ?_ _ | refine blk_drew ?_ | refine blk_alloc ?_ _)); refine blk_put (cs := #[.int .u8 0, .bool false, .string (⟨#[]⟩ : ByteArray), .int .i64 0, .int .i64 0]) ?_ 0 _ rfl; (with_reducible repeat (first | refine blk_drewN ?_ _ | refine blk_drew ?_ | refine blk_alloc ?_ _)); exact BK163.out) hb); have n3_ := Aside0.mk (below_step qnmo34_ hb); clear BK145; clear BK160; clear BK163; clear HB; have BK145 := n0_; have BK160 := n1_; have BK163 := n2_; have HB := n3_; clear n0_ n1_ n2_ n3_; (try clear hb); (try clear hb2); (try clear hk); (try clear hi); have hcz119_0 : w118.cell? ⟨gb163, 0, none⟩ = some (.int .u8 3) := (blk_cell BK163.out 0).trans rfl; have hcz119_1 : w118.cell? ⟨gb163, 1, none⟩ = some (.bool false) := (blk_cell BK163.out 1).trans rfl; have hcz119_2 : w118.cell? ⟨gb163, 2, none⟩ = some (.string (⟨#[]⟩ : ByteArray)) := (blk_cell BK163.out 2).trans rfl; have hcz119_3 : w118.cell? ⟨gb163, 3, none⟩ = some (.int .i64 0) := (blk_cell BK163.out 3).trans rfl; have hcz119_4 : w118.cell? ⟨gb163, 4, none⟩ = some (.int .i64 t162) := (blk_cell BK163.out 4).trans rfl; have hfz119_0 := blk_frozen BK163.out 0; have hfz119_1 := blk_frozen BK163.out 1; have hfz119_2 := blk_frozen BK163.out 2; have hfz119_3 := blk_frozen BK163.out 3; have hfz119_4 := blk_frozen BK163.out 4; have hcz120_0 : w118.cell? ⟨gb145, 0, none⟩ = some (.int .u8 x146000_4) := (blk_cell BK145.out 0).trans rfl; have hcz120_1 : w118.cell? ⟨gb145, 1, none⟩ = some (.bool x146001_4) := (blk_cell BK145.out 1).trans rfl; have hcz120_2 : w118.cell? ⟨gb145, 2, none⟩ = some (.string x146002_4) := (blk_cell BK145.out 2).trans rfl; have hcz120_3 : w118.cell? ⟨gb145, 3, none⟩ = some (.int .i64 x146003_4) := (blk_cell BK145.out 3).trans rfl; have hcz120_4 : w118.cell? ⟨gb145, 4, none⟩ = some (.int .i64 x146004_4) := (blk_cell BK145.out 4).trans rfl; have hfz120_0 := blk_frozen BK145.out 0; have hfz120_1 := blk_frozen BK145.out 1; have hfz120_2 := blk_frozen BK145.out 2; have hfz120_3 := blk_frozen BK145.out 3; have hfz120_4 := blk_frozen BK145.out 4))
            refine bodyPost_ret (results_cell_row rfl _ _ gb145 29 #[.int .u8 3, .bool false, .string t164, .int .i64 t165, .int .i64 t162] (0, 0) _ rfl (by (with_reducible repeat (first | refine blk_drewN ?_ _ | refine blk_drew ?_ | refine blk_alloc ?_ _)); refine blk_put (cs := #[.int .u8 3, .bool false, .string t164, .int .i64 t165, .int .i64 x146004_4]) ?_ 4 _ rfl; (with_reducible repeat (first | refine blk_drewN ?_ _ | refine blk_drew ?_ | refine blk_alloc ?_ _)); refine blk_put (cs := #[.int .u8 3, .bool false, .string t164, .int .i64 x146003_4, .int .i64 x146004_4]) ?_ 3 _ rfl; (with_reducible repeat (first | refine blk_drewN ?_ _ | refine blk_drew ?_ | refine blk_alloc ?_ _)); refine blk_put (cs := #[.int .u8 3, .bool false, .string x146002_4, .int .i64 x146003_4, .int .i64 x146004_4]) ?_ 2 _ rfl; (with_reducible repeat (first | refine blk_drewN ?_ _ | refine blk_drew ?_ | refine blk_alloc ?_ _)); refine blk_put (cs := #[.int .u8 3, .bool x146001_4, .string x146002_4, .int .i64 x146003_4, .int .i64 x146004_4]) ?_ 1 _ rfl; (with_reducible repeat (first | refine blk_drewN ?_ _ | refine blk_drew ?_ | refine blk_alloc ?_ _)); refine blk_put (cs := #[.int .u8 x146000_4, .bool x146001_4, .string x146002_4, .int .i64 x146003_4, .int .i64 x146004_4]) ?_ 0 _ rfl; (with_reducible repeat (first | refine blk_drewN ?_ _ | refine blk_drew ?_ | refine blk_alloc ?_ _)); refine blk_far ?_ NB145_163.out _; (with_reducible repeat (first | refine blk_drewN ?_ _ | refine blk_drew ?_ | refine blk_alloc ?_ _)); refine blk_far ?_ NB145_163.out _; (with_reducible repeat (first | refine blk_drewN ?_ _ | refine blk_drew ?_ | refine blk_alloc ?_ _)); refine blk_far ?_ NB145_163.out _; (with_reducible repeat (first | refine blk_drewN ?_ _ | refine blk_drew ?_ | refine blk_alloc ?_ _)); exact BK145.out) Tryd.underlying29 rfl (by kernel_rfl)) rfl ?_
            exact ⟨qnmo10_, qnmo34_⟩

end Go.Proofs.YtcdajedmlfhmeaaDoor.XN
