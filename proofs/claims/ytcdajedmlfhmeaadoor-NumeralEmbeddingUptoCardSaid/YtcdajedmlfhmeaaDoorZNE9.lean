import Derived.Test.YtcdajedmlfhmeaaDoorZNE0
import Derived.Test.YtcdajedmlfhmeaaDoorZNE1
import Derived.Test.YtcdajedmlfhmeaaDoorZNE8
import Derived.Test.YtcdajedmlfhmeaaDoorZNE2
import Derived.Test.YtcdajedmlfhmeaaDoorZNE7
import Derived.Test.YtcdajedmlfhmeaaDoorZNE3
import Derived.Test.YtcdajedmlfhmeaaDoorZNE4
import Derived.Test.YtcdajedmlfhmeaaDoorZNE6
namespace Go.Proofs.YtcdajedmlfhmeaaDoor.XN
open Go.RowKit Go.Proofs.YtcdajedmlfhmeaaDoorW.PrintWords Go.Proofs.YtcdajedmlfhmeaaDoorW.PrintLast Go.Proofs.YtcdajedmlfhmeaaDoorW.PrintMore
attribute [local go_sem] max2_int min2_int max_two min_two max_three min_three max_four min_four
set_option linter.unusedVariables false
set_option linter.unusedSimpArgs false

/-! ### numeral_number: function 61 -/
def numeral_number.l0 : Nat → List Int → Int → Option (ByteArray)
 | 0, _, _ => none
 | k + 1, x5, x6 => if x6 < (x5.length : Int) then (if 0 ≤ x6 then (numeral_number.l0 k (x5.set (x6 : Int).toNat ((255 - (rd x5 x6)) % 256)) (wrap64 (x6 + 1))) else (none)) else (some (strOfNums x5))
def numeral_number.f (k : Nat) (a0_0 : Int) (a0_1 : Int) (a0_2 : Int) (a0_3 : ByteArray) (a1 : Bool) : Option (ByteArray) := if a0_0 = 0 then (some (strOfNums (([80] : List Int)))) else (if a0_0 = 1 then ((some (([96] : List Int) : List Int)).bind fun y652 => ((numeral_size_embed.f k a0_0 a0_1 a0_2 a0_3 a1).bind fun t655 => (if y652.length + t655.length < 140737488355328 then (some (strOfNums (y652 ++ t655))) else (none)))) else ((some (([64] : List Int) : List Int)).bind fun y661 => ((numeral_size_embed.f k a0_0 a0_1 a0_2 a0_3 a1).bind fun t664 => (if y661.length + t664.length < 140737488355328 then (numeral_number.l0 k (y661 ++ t664) 1) else (none)))))
set_option maxHeartbeats 8000000 in
set_option maxRecDepth 100000 in
theorem numeral_number.calls (k : Nat) (a0_0 : Int) (a0_1 : Int) (a0_2 : Int) (a0_3 : ByteArray) (a1 : Bool) (r : ByteArray) (w : World) (h : numeral_number.f k a0_0 a0_1 a0_2 a0_3 a1 = some r) :
  Calls Tryd.prog 61 #[.agg #[.int .i64 a0_0, .int .i64 a0_1, .int .i64 a0_2, .string a0_3], .bool a1] w fun e w' => e = .returned (.string r) ∧ Below w.heap.size w w' := by
 have hu77 := Tryd.underlying77
 have HB := Aside0.mk (Below.refl w.heap.size w)
 have H : (if a0_0 = 0 then (some (strOfNums (([80] : List Int)))) else (if a0_0 = 1 then ((some (([96] : List Int) : List Int)).bind fun y652 => ((numeral_size_embed.f k a0_0 a0_1 a0_2 a0_3 a1).bind fun t655 => (if y652.length + t655.length < 140737488355328 then (some (strOfNums (y652 ++ t655))) else (none)))) else ((some (([64] : List Int) : List Int)).bind fun y661 => ((numeral_size_embed.f k a0_0 a0_1 a0_2 a0_3 a1).bind fun t664 => (if y661.length + t664.length < 140737488355328 then (numeral_number.l0 k (y661 ++ t664) 1) else (none)))))) = some r := h
 clear h
 by_cases c3 : a0_0 = 0
 ·
  rw [if_pos c3] at H
  have c3b0 : (a0_0 == 0) = true := beq_iff_eq.mpr c3
  have c3b1 : (a0_0 != 0) = false := bne_eq_false_iff_eq.mpr c3
  clear c3
  obtain ⟨y649, hy649⟩ : ∃ y_ : List Int, y_ = (([80] : List Int)) := ⟨_, rfl⟩
  replace H : (some (strOfNums y649)) = some r := by first | (rw [hy649]; with_reducible exact H) | (have H2_ := (Option.bind_some _ _).symm.trans H; rw [hy649]; with_reducible exact H2_) | (have H2_ := (Option.bind_some _ _).symm.trans H; with_reducible exact H2_) | with_reducible exact H | (rw [hy649]; exact H) | exact H
  have Ny649 := Aside0.mk hy649
  clear hy649
  obtain rfl := Option.some.inj H
  go_enter Tryd.func61, Tryd.ntmps61
  have tk9 : True := trivial; have tk10 : True := trivial
  go_wp2_with (first | (have ztk9 := tk9; clear tk9 ztk9; (with_reducible refine gate_dst (N := 2) rfl ?_); refine box_event ?hg (N := 2) ?hd (cs := #[.int .i64 a0_0, .int .i64 a0_1, .int .i64 a0_2, .string a0_3]) (t := 77) ?hr ?_; (case hd => rfl); (case hg => rfl); (case hr => first | (go_simp; done) | (go_simp; rfl)); intro gb648 hg w4 hbox hb; have n0_ := Aside0.mk (below_step qne0_ hb); have n1_ := Aside0.mk (hbox); have n2_ := Aside0.mk ((by rw [hg]; exact (below_size qne0_) : w.heap.size ≤ gb648)); have n3_ := Aside0.mk ((by rw [hg]; exact (below_size qne0_) : w.heap.size ≤ gb648)); clear HB; have HB := n0_; have BK648 := n1_; have GW648 := n2_; have GE648 := n3_; clear n0_ n1_ n2_ n3_; clear hb hbox hg; have hcz5_0 : w4.cell? ⟨gb648, 0, none⟩ = some (.int .i64 a0_0) := (blk_cell BK648.out 0).trans rfl; have hcz5_1 : w4.cell? ⟨gb648, 1, none⟩ = some (.int .i64 a0_1) := (blk_cell BK648.out 1).trans rfl; have hcz5_2 : w4.cell? ⟨gb648, 2, none⟩ = some (.int .i64 a0_2) := (blk_cell BK648.out 2).trans rfl; have hcz5_3 : w4.cell? ⟨gb648, 3, none⟩ = some (.string a0_3) := (blk_cell BK648.out 3).trans rfl; have hfz5_0 := blk_frozen BK648.out 0; have hfz5_1 := blk_frozen BK648.out 1; have hfz5_2 := blk_frozen BK648.out 2; have hfz5_3 := blk_frozen BK648.out 3) | (have ztk10 := tk10; clear tk10 ztk10; (with_reducible refine gate_dst (N := 11) rfl ?_); refine Kd.R_lit (Kd.int .u8) _ 5 ?hg (N := 11) ?hd (xs := ([80] : List Int)) (inner := [.int .u8 80]) (ok := fun _ => True) (okp := fun _ => True) ?hr ?hp (fun _ hk => hk) trivial (Below.refl _ _) (Nat.le_refl _) (by simp) ?_; (case hd => rfl); (case hg => rfl); (case hr => first | (go_simp; done) | (go_simp; rfl)); (case hp => exact (Reps.one (show Kd.M (Kd.int .u8) _ _ _ 80 [.int .u8 80] from rfl) (Reps.none _ _))); intro v650 w6 ho7 hb hg_ hnew_; clear hg_ hnew_; (first | rw [← Ny649.out] at ho7 | (simp only [Int.reduceToNat] at ho7; rw [← Ny649.out] at ho7)); have n0_ := Aside0.mk (Kd.R_lower ho7 (below_size qne15_)); have n1_ := Aside0.mk (blk_below (g := gb648) (o := .cells #[.int .i64 a0_0, .int .i64 a0_1, .int .i64 a0_2, .string a0_3] 77 (0, 0)) qne29_ hb); have n2_ := Aside0.mk (below_step qne15_ hb); clear BK648; clear HB; have HO651 := n0_; have BK648 := n1_; have HB := n2_; clear n0_ n1_ n2_; clear hb ho7; have hcv8 := own_string (P := Tryd.prog) Tryd.underlying23 Tryd.underlying5 Tryd.underlying9 (Kd.own_of_R HO651.out)))
  go_ret
  exact ⟨qne5_, qne15_⟩
 ·
  rw [if_neg c3] at H
  have c3b0 : (a0_0 == 0) = false := beq_eq_false_iff_ne.mpr c3
  have c3b1 : (a0_0 != 0) = true := bne_iff_ne.mpr c3
  by_cases c11 : a0_0 = 1
  ·
   rw [if_pos c11] at H
   have c11b0 : (a0_0 == 1) = true := beq_iff_eq.mpr c11
   have c11b1 : (a0_0 != 1) = false := bne_eq_false_iff_eq.mpr c11
   clear c11
   obtain ⟨y652, hy652⟩ : ∃ y_ : List Int, y_ = (([96] : List Int)) := ⟨_, rfl⟩
   replace H : ((numeral_size_embed.f k a0_0 a0_1 a0_2 a0_3 a1).bind fun t655 => (if y652.length + t655.length < 140737488355328 then (some (strOfNums (y652 ++ t655))) else (none))) = some r := by first | (rw [hy652]; with_reducible exact H) | (have H2_ := (Option.bind_some _ _).symm.trans H; rw [hy652]; with_reducible exact H2_) | (have H2_ := (Option.bind_some _ _).symm.trans H; with_reducible exact H2_) | with_reducible exact H | (rw [hy652]; exact H) | exact H
   have Ny652 := Aside0.mk hy652
   clear hy652
   replace H := Option.bind_eq_some_iff.mp H
   obtain ⟨t655, A120, H⟩ := H
   replace H : (if y652.length + t655.length < 140737488355328 then (some (strOfNums (y652 ++ t655))) else (none)) = some r := H
   have A12 := Aside0.mk A120
   clear A120
   by_cases c13 : y652.length + t655.length < 140737488355328
   ·
    rw [if_pos c13] at H
    have LMc13 := Aside0.mk c13
    clear c13
    obtain ⟨y658, hy658⟩ : ∃ y_ : List Int, y_ = (y652 ++ t655) := ⟨_, rfl⟩
    replace H : (some (strOfNums y658)) = some r := by first | (rw [hy658]; with_reducible exact H) | (have H2_ := (Option.bind_some _ _).symm.trans H; rw [hy658]; with_reducible exact H2_) | (have H2_ := (Option.bind_some _ _).symm.trans H; with_reducible exact H2_) | with_reducible exact H | (rw [hy658]; exact H) | exact H
    have Ny658 := Aside0.mk hy658
    clear hy658
    obtain rfl := Option.some.inj H
    go_enter Tryd.func61, Tryd.ntmps61
    have tk23 : True := trivial; have tk24 : True := trivial; have tk25 : True := trivial; have tk26 : True := trivial
    go_wp2_with (first | (have ztk23 := tk23; clear tk23 ztk23; (with_reducible refine gate_dst (N := 2) rfl ?_); refine box_event ?hg (N := 2) ?hd (cs := #[.int .i64 a0_0, .int .i64 a0_1, .int .i64 a0_2, .string a0_3]) (t := 77) ?hr ?_; (case hd => rfl); (case hg => rfl); (case hr => first | (go_simp; done) | (go_simp; rfl)); intro gb648 hg w14 hbox hb; have n0_ := Aside0.mk (below_step qne0_ hb); have n1_ := Aside0.mk (hbox); have n2_ := Aside0.mk ((by rw [hg]; exact (below_size qne0_) : w.heap.size ≤ gb648)); have n3_ := Aside0.mk ((by rw [hg]; exact (below_size qne0_) : w.heap.size ≤ gb648)); clear HB; have HB := n0_; have BK648 := n1_; have GW648 := n2_; have GE648 := n3_; clear n0_ n1_ n2_ n3_; clear hb hbox hg; have hcz15_0 : w14.cell? ⟨gb648, 0, none⟩ = some (.int .i64 a0_0) := (blk_cell BK648.out 0).trans rfl; have hcz15_1 : w14.cell? ⟨gb648, 1, none⟩ = some (.int .i64 a0_1) := (blk_cell BK648.out 1).trans rfl; have hcz15_2 : w14.cell? ⟨gb648, 2, none⟩ = some (.int .i64 a0_2) := (blk_cell BK648.out 2).trans rfl; have hcz15_3 : w14.cell? ⟨gb648, 3, none⟩ = some (.string a0_3) := (blk_cell BK648.out 3).trans rfl; have hfz15_0 := blk_frozen BK648.out 0; have hfz15_1 := blk_frozen BK648.out 1; have hfz15_2 := blk_frozen BK648.out 2; have hfz15_3 := blk_frozen BK648.out 3) | (have ztk24 := tk24; clear tk24 ztk24; (with_reducible refine gate_dst (N := 15) rfl ?_); refine Kd.R_lit (Kd.int .u8) _ 5 ?hg (N := 15) ?hd (xs := ([96] : List Int)) (inner := [.int .u8 96]) (ok := fun _ => True) (okp := fun _ => True) ?hr ?hp (fun _ hk => hk) trivial (Below.refl _ _) (Nat.le_refl _) (by simp) ?_; (case hd => rfl); (case hg => rfl); (case hr => first | (go_simp; done) | (go_simp; rfl)); (case hp => exact (Reps.one (show Kd.M (Kd.int .u8) _ _ _ 96 [.int .u8 96] from rfl) (Reps.none _ _))); intro v653 w16 ho17 hb hg_ hnew_; clear hg_ hnew_; (first | rw [← Ny652.out] at ho17 | (simp only [Int.reduceToNat] at ho17; rw [← Ny652.out] at ho17)); have n0_ := Aside0.mk (Kd.R_lower ho17 (below_size qne15_)); have n1_ := Aside0.mk (blk_below (g := gb648) (o := .cells #[.int .i64 a0_0, .int .i64 a0_1, .int .i64 a0_2, .string a0_3] 77 (0, 0)) qne29_ hb); have n2_ := Aside0.mk (below_step qne15_ hb); clear BK648; clear HB; have HO654 := n0_; have BK648 := n1_; have HB := n2_; clear n0_ n1_ n2_; clear hb ho17; have hcz18_0 : w16.cell? ⟨gb648, 0, none⟩ = some (.int .i64 a0_0) := (blk_cell BK648.out 0).trans rfl; have hcz18_1 : w16.cell? ⟨gb648, 1, none⟩ = some (.int .i64 a0_1) := (blk_cell BK648.out 1).trans rfl; have hcz18_2 : w16.cell? ⟨gb648, 2, none⟩ = some (.int .i64 a0_2) := (blk_cell BK648.out 2).trans rfl; have hcz18_3 : w16.cell? ⟨gb648, 3, none⟩ = some (.string a0_3) := (blk_cell BK648.out 3).trans rfl; have hfz18_0 := blk_frozen BK648.out 0; have hfz18_1 := blk_frozen BK648.out 1; have hfz18_2 := blk_frozen BK648.out 2; have hfz18_3 := blk_frozen BK648.out 3) | (have ztk25 := tk25; clear tk25 ztk25; (with_reducible refine gate_callee (f := 83) rfl ?_); refine goesL_ (some 18) rfl rfl Tryd.func83 (by kernel_rfl) rfl #[.agg #[.int .i64 a0_0, .int .i64 a0_1, .int .i64 a0_2, .string a0_3], .bool a1] rfl qne1_ ?_; (with_reducible refine (numeral_size_embed.calls k a0_0 a0_1 a0_2 a0_3 a1 t655 _ A12.out).mono ?_); rintro e w19 ⟨v656, rfl, ho0, hb⟩; refine ⟨_, rfl, ?_⟩; have n0_ := Aside0.mk (Kd.R_elder' (by (with_reducible repeat (first | apply Kd.R_alloc | apply Kd.R_drewN | apply Kd.R_drew)); exact HO654.out) (Kd.R_base ho0) hb); have n1_ := Aside0.mk (Kd.R_lower (Kd.R_new' ho0 (Kd.R_lt (by (with_reducible repeat (first | apply Kd.R_alloc | apply Kd.R_drewN | apply Kd.R_drew)); exact HO654.out))) (below_size qne15_)); have n2_ := Aside0.mk (blk_below (g := gb648) (o := .cells #[.int .i64 a0_0, .int .i64 a0_1, .int .i64 a0_2, .string a0_3] 77 (0, 0)) qne29_ hb); have n3_ := Aside0.mk (below_step qne15_ hb); clear HO654; clear BK648; clear HB; have HO654 := n0_; have HO657 := n1_; have BK648 := n2_; have HB := n3_; clear n0_ n1_ n2_ n3_; (try clear hb); (try clear hb2); (try clear hk); (try clear hi); (try clear ho0); obtain ⟨Ao21, co21, eo21⟩ := Kd.R_slice HO657.out; subst eo21) | (have ztk26 := tk26; clear tk26 ztk26; (with_reducible refine gate_builtin (b := .append) (xs := #[.tmp 15, .tmp 18]) rfl ?_); at_builtin; refine Kd.R_append_rows (Kd.int .u8) (w0 := w) w.heap.size rfl (.tmp 15) (.tmp 18) 23 5 (.int .u8 0) 1 rfl Tryd.underlying23 info5 rfl (by decide) (by omega) v653 y652 t655 _ _ _ (fun k_ => some k_ ≠ (.slice Ao21 t655.length co21 : Value).ownBlock) (fun _ => False) rfl rfl ?aO ?aR (fun _ _ h => h) (fun _ h => h.elim) ?aF ?aB ?aS ?aL ?_; (case aR => repeat (first | exact (Kd.R_reads' HO657.out).2.2 | (with_reducible refine Kd.C_alloc ?_ _) | (with_reducible refine Kd.C_drewN ?_ _) | (with_reducible refine Kd.C_drew ?_))); (case aB => exact qne15_); (case aF => exact (fun k_ hk => Kd.fresh' (Kd.R_lt (by (with_reducible repeat (first | apply Kd.R_alloc | apply Kd.R_drewN | apply Kd.R_drew)); exact HO657.out)) k_ hk)); (case aO => exact (by (with_reducible repeat (first | apply Kd.R_alloc | apply Kd.R_drewN | apply Kd.R_drew)); exact Kd.R_mono HO654.out (fun _ hk => hk.2))); (case aS => exact (below_size qne15_)); (case aL => have := LMc13.out; omega); intro v659 w20 ho hb hg hat; rw [← Ny658.out] at ho; have n0_ := Aside0.mk (blk_grown (g := gb648) (o := .cells #[.int .i64 a0_0, .int .i64 a0_1, .int .i64 a0_2, .string a0_3] 77 (0, 0)) qne29_ hg (Kd.R_ne HO654.out BK648.out (by decide))); have n1_ := Aside0.mk (Kd.R_after (ok := (fun _ => True)) (by (with_reducible repeat (first | apply Kd.R_alloc | apply Kd.R_drewN | apply Kd.R_drew)); exact HO657.out) hg hat); have n2_ := Aside0.mk (hb); have n3_ := Aside0.mk (ho); clear BK648; clear HO657; clear HB; clear HO654; have BK648 := n0_; have HO657 := n1_; have HB := n2_; have HO660 := n3_; clear n0_ n1_ n2_ n3_; clear ho hb hg hat; have hcv22 := own_string (P := Tryd.prog) Tryd.underlying23 Tryd.underlying5 Tryd.underlying9 (Kd.own_of_R HO660.out)))
    go_ret
    exact ⟨qne5_, qne15_⟩
   ·
    rw [if_neg c13] at H
    exact absurd H (by simp)
  ·
   rw [if_neg c11] at H
   have c11b0 : (a0_0 == 1) = false := beq_eq_false_iff_ne.mpr c11
   have c11b1 : (a0_0 != 1) = true := bne_iff_ne.mpr c11
   obtain ⟨y661, hy661⟩ : ∃ y_ : List Int, y_ = (([64] : List Int)) := ⟨_, rfl⟩
   replace H : ((numeral_size_embed.f k a0_0 a0_1 a0_2 a0_3 a1).bind fun t664 => (if y661.length + t664.length < 140737488355328 then (numeral_number.l0 k (y661 ++ t664) 1) else (none))) = some r := by first | (rw [hy661]; with_reducible exact H) | (have H2_ := (Option.bind_some _ _).symm.trans H; rw [hy661]; with_reducible exact H2_) | (have H2_ := (Option.bind_some _ _).symm.trans H; with_reducible exact H2_) | with_reducible exact H | (rw [hy661]; exact H) | exact H
   have Ny661 := Aside0.mk hy661
   clear hy661
   replace H := Option.bind_eq_some_iff.mp H
   obtain ⟨t664, A270, H⟩ := H
   replace H : (if y661.length + t664.length < 140737488355328 then (numeral_number.l0 k (y661 ++ t664) 1) else (none)) = some r := H
   have A27 := Aside0.mk A270
   clear A270
   by_cases c28 : y661.length + t664.length < 140737488355328
   ·
    rw [if_pos c28] at H
    have LMc28 := Aside0.mk c28
    clear c28
    obtain ⟨y667, hy667⟩ : ∃ y_ : List Int, y_ = (y661 ++ t664) := ⟨_, rfl⟩
    replace H : (numeral_number.l0 k y667 1) = some r := by first | (rw [hy667]; with_reducible exact H) | (have H2_ := (Option.bind_some _ _).symm.trans H; rw [hy667]; with_reducible exact H2_) | (have H2_ := (Option.bind_some _ _).symm.trans H; with_reducible exact H2_) | with_reducible exact H | (rw [hy667]; exact H) | exact H
    have Ny667 := Aside0.mk hy667
    clear hy667
    have H' := Aside0.mk H
    clear H
    go_enter Tryd.func61, Tryd.ntmps61
    have tk37 : True := trivial; have tk38 : True := trivial; have tk39 : True := trivial; have tk40 : True := trivial
    go_wp2_with (first | (have ztk37 := tk37; clear tk37 ztk37; (with_reducible refine gate_dst (N := 2) rfl ?_); refine box_event ?hg (N := 2) ?hd (cs := #[.int .i64 a0_0, .int .i64 a0_1, .int .i64 a0_2, .string a0_3]) (t := 77) ?hr ?_; (case hd => rfl); (case hg => rfl); (case hr => first | (go_simp; done) | (go_simp; rfl)); intro gb648 hg w29 hbox hb; have n0_ := Aside0.mk (below_step qne0_ hb); have n1_ := Aside0.mk (hbox); have n2_ := Aside0.mk ((by rw [hg]; exact (below_size qne0_) : w.heap.size ≤ gb648)); have n3_ := Aside0.mk ((by rw [hg]; exact (below_size qne0_) : w.heap.size ≤ gb648)); clear HB; have HB := n0_; have BK648 := n1_; have GW648 := n2_; have GE648 := n3_; clear n0_ n1_ n2_ n3_; clear hb hbox hg; have hcz30_0 : w29.cell? ⟨gb648, 0, none⟩ = some (.int .i64 a0_0) := (blk_cell BK648.out 0).trans rfl; have hcz30_1 : w29.cell? ⟨gb648, 1, none⟩ = some (.int .i64 a0_1) := (blk_cell BK648.out 1).trans rfl; have hcz30_2 : w29.cell? ⟨gb648, 2, none⟩ = some (.int .i64 a0_2) := (blk_cell BK648.out 2).trans rfl; have hcz30_3 : w29.cell? ⟨gb648, 3, none⟩ = some (.string a0_3) := (blk_cell BK648.out 3).trans rfl; have hfz30_0 := blk_frozen BK648.out 0; have hfz30_1 := blk_frozen BK648.out 1; have hfz30_2 := blk_frozen BK648.out 2; have hfz30_3 := blk_frozen BK648.out 3) | (have ztk38 := tk38; clear tk38 ztk38; (with_reducible refine gate_dst (N := 21) rfl ?_); refine Kd.R_lit (Kd.int .u8) _ 5 ?hg (N := 21) ?hd (xs := ([64] : List Int)) (inner := [.int .u8 64]) (ok := fun _ => True) (okp := fun _ => True) ?hr ?hp (fun _ hk => hk) trivial (Below.refl _ _) (Nat.le_refl _) (by simp) ?_; (case hd => rfl); (case hg => rfl); (case hr => first | (go_simp; done) | (go_simp; rfl)); (case hp => exact (Reps.one (show Kd.M (Kd.int .u8) _ _ _ 64 [.int .u8 64] from rfl) (Reps.none _ _))); intro v662 w31 ho32 hb hg_ hnew_; clear hg_ hnew_; (first | rw [← Ny661.out] at ho32 | (simp only [Int.reduceToNat] at ho32; rw [← Ny661.out] at ho32)); have n0_ := Aside0.mk (Kd.R_lower ho32 (below_size qne15_)); have n1_ := Aside0.mk (blk_below (g := gb648) (o := .cells #[.int .i64 a0_0, .int .i64 a0_1, .int .i64 a0_2, .string a0_3] 77 (0, 0)) qne29_ hb); have n2_ := Aside0.mk (below_step qne15_ hb); clear BK648; clear HB; have HO663 := n0_; have BK648 := n1_; have HB := n2_; clear n0_ n1_ n2_; clear hb ho32; have hcz33_0 : w31.cell? ⟨gb648, 0, none⟩ = some (.int .i64 a0_0) := (blk_cell BK648.out 0).trans rfl; have hcz33_1 : w31.cell? ⟨gb648, 1, none⟩ = some (.int .i64 a0_1) := (blk_cell BK648.out 1).trans rfl; have hcz33_2 : w31.cell? ⟨gb648, 2, none⟩ = some (.int .i64 a0_2) := (blk_cell BK648.out 2).trans rfl; have hcz33_3 : w31.cell? ⟨gb648, 3, none⟩ = some (.string a0_3) := (blk_cell BK648.out 3).trans rfl; have hfz33_0 := blk_frozen BK648.out 0; have hfz33_1 := blk_frozen BK648.out 1; have hfz33_2 := blk_frozen BK648.out 2; have hfz33_3 := blk_frozen BK648.out 3) | (have ztk39 := tk39; clear tk39 ztk39; (with_reducible refine gate_callee (f := 83) rfl ?_); refine goesL_ (some 24) rfl rfl Tryd.func83 (by kernel_rfl) rfl #[.agg #[.int .i64 a0_0, .int .i64 a0_1, .int .i64 a0_2, .string a0_3], .bool a1] rfl qne1_ ?_; (with_reducible refine (numeral_size_embed.calls k a0_0 a0_1 a0_2 a0_3 a1 t664 _ A27.out).mono ?_); rintro e w34 ⟨v665, rfl, ho0, hb⟩; refine ⟨_, rfl, ?_⟩; have n0_ := Aside0.mk (Kd.R_elder' (by (with_reducible repeat (first | apply Kd.R_alloc | apply Kd.R_drewN | apply Kd.R_drew)); exact HO663.out) (Kd.R_base ho0) hb); have n1_ := Aside0.mk (Kd.R_lower (Kd.R_new' ho0 (Kd.R_lt (by (with_reducible repeat (first | apply Kd.R_alloc | apply Kd.R_drewN | apply Kd.R_drew)); exact HO663.out))) (below_size qne15_)); have n2_ := Aside0.mk (blk_below (g := gb648) (o := .cells #[.int .i64 a0_0, .int .i64 a0_1, .int .i64 a0_2, .string a0_3] 77 (0, 0)) qne29_ hb); have n3_ := Aside0.mk (below_step qne15_ hb); clear HO663; clear BK648; clear HB; have HO663 := n0_; have HO666 := n1_; have BK648 := n2_; have HB := n3_; clear n0_ n1_ n2_ n3_; (try clear hb); (try clear hb2); (try clear hk); (try clear hi); (try clear ho0); obtain ⟨Ao36, co36, eo36⟩ := Kd.R_slice HO666.out; subst eo36) | (have ztk40 := tk40; clear tk40 ztk40; (with_reducible refine gate_builtin (b := .append) (xs := #[.tmp 21, .tmp 24]) rfl ?_); at_builtin; refine Kd.R_append_rows (Kd.int .u8) (w0 := w) w.heap.size rfl (.tmp 21) (.tmp 24) 23 5 (.int .u8 0) 1 rfl Tryd.underlying23 info5 rfl (by decide) (by omega) v662 y661 t664 _ _ _ (fun k_ => some k_ ≠ (.slice Ao36 t664.length co36 : Value).ownBlock) (fun _ => False) rfl rfl ?aO ?aR (fun _ _ h => h) (fun _ h => h.elim) ?aF ?aB ?aS ?aL ?_; (case aR => repeat (first | exact (Kd.R_reads' HO666.out).2.2 | (with_reducible refine Kd.C_alloc ?_ _) | (with_reducible refine Kd.C_drewN ?_ _) | (with_reducible refine Kd.C_drew ?_))); (case aB => exact qne15_); (case aF => exact (fun k_ hk => Kd.fresh' (Kd.R_lt (by (with_reducible repeat (first | apply Kd.R_alloc | apply Kd.R_drewN | apply Kd.R_drew)); exact HO666.out)) k_ hk)); (case aO => exact (by (with_reducible repeat (first | apply Kd.R_alloc | apply Kd.R_drewN | apply Kd.R_drew)); exact Kd.R_mono HO663.out (fun _ hk => hk.2))); (case aS => exact (below_size qne15_)); (case aL => have := LMc28.out; omega); intro v668 w35 ho hb hg hat; rw [← Ny667.out] at ho; have n0_ := Aside0.mk (blk_grown (g := gb648) (o := .cells #[.int .i64 a0_0, .int .i64 a0_1, .int .i64 a0_2, .string a0_3] 77 (0, 0)) qne29_ hg (Kd.R_ne HO663.out BK648.out (by decide))); have n1_ := Aside0.mk (Kd.R_after (ok := (fun _ => True)) (by (with_reducible repeat (first | apply Kd.R_alloc | apply Kd.R_drewN | apply Kd.R_drew)); exact HO666.out) hg hat); have n2_ := Aside0.mk (hb); have n3_ := Aside0.mk (ho); clear BK648; clear HO666; clear HB; clear HO663; have BK648 := n0_; have HO666 := n1_; have HB := n2_; have HO669 := n3_; clear n0_ n1_ n2_ n3_; clear ho hb hg hat))
    go_loopg [6] k (fun kq v6 w' => ∃ (x5_1 : List Int) (x6_1 : Int), v6 = .int .i64 x6_1 ∧ Aside0 (numeral_number.l0 kq x5_1 x6_1 = some r) ∧ Aside0 (kq ≤ k) ∧ Aside0 (Kd.R (Kd.int .u8) 5 w' w.heap.size (fun _ => True) v668 x5_1) ∧ Aside0 (w'.heap[gb648]? = some (.cells #[.int .i64 a0_0, .int .i64 a0_1, .int .i64 a0_2, .string a0_3] 77 (0, 0))) ∧ Aside0 (Below w.heap.size w w'))
    case atStart => exact ⟨(y667), (1), qne2_, H', ⟨Nat.le_refl _⟩, ⟨by (with_reducible repeat (first | apply Kd.R_alloc | apply Kd.R_drewN | apply Kd.R_drew)); exact Kd.R_mono HO669.out (fun _ hk => trivial)⟩, ⟨qne29_⟩, ⟨qne15_⟩⟩
    case round =>
     clear H'
     (try clear c1); (try clear c2); (try clear p2); (try clear hcv2); (try clear c3); (try clear c3b0); (try clear c3b1); (try clear c6); (try clear c8); (try clear hcv8); (try clear c11); (try clear c11b0); (try clear c11b1); (try clear c13); (try clear hcv22); (try clear c28); (try clear hcz15_0); (try clear hcz15_1); (try clear hcz15_2); (try clear hcz15_3); (try clear hcz18_0); (try clear hcz18_1)
     (try clear hcz18_2); (try clear hcz18_3); (try clear hcz30_0); (try clear hcz30_1); (try clear hcz30_2); (try clear hcz30_3); (try clear hcz33_0); (try clear hcz33_1); (try clear hcz33_2); (try clear hcz33_3); (try clear hcz5_0); (try clear hcz5_1); (try clear hcz5_2); (try clear hcz5_3); (try clear hfz15_0); (try clear hfz15_1); (try clear hfz15_2); (try clear hfz15_3); (try clear hfz18_0); (try clear hfz18_1)
     (try clear hfz18_2); (try clear hfz18_3); (try clear hfz30_0); (try clear hfz30_1); (try clear hfz30_2); (try clear hfz30_3); (try clear hfz33_0); (try clear hfz33_1); (try clear hfz33_2); (try clear hfz33_3); (try clear hfz5_0); (try clear hfz5_1); (try clear hfz5_2); (try clear hfz5_3)
     obtain ⟨x5_1, x6_1, rfl, HA, HK1, HO_5, BK648, HB⟩ := hrel
     cases gk with
     | zero => exact absurd HA.out (by simp [numeral_number.l0])
     | succ k1 =>
      have H := HA.out
      clear HA
      simp only [numeral_number.l0] at H
      by_cases c41 : x6_1 < (x5_1.length : Int)
      ·
       rw [if_pos c41] at H
       have c41b0 : decide (x6_1 < (x5_1.length : Int)) = true := decide_eq_true c41
       clear c41
       by_cases c42 : 0 ≤ x6_1
       ·
        rw [if_pos c42] at H
        have c42b0 : decide (0 ≤ x6_1) = true := decide_eq_true c42
        clear c42
        obtain ⟨y671, hy671⟩ : ∃ y_ : List Int, y_ = (x5_1.set (x6_1 : Int).toNat ((255 - (rd x5_1 x6_1)) % 256)) := ⟨_, rfl⟩
        replace H : (numeral_number.l0 k1 y671 (wrap64 (x6_1 + 1))) = some r := by first | (rw [hy671]; with_reducible exact H) | (have H2_ := (Option.bind_some _ _).symm.trans H; rw [hy671]; with_reducible exact H2_) | (have H2_ := (Option.bind_some _ _).symm.trans H; with_reducible exact H2_) | with_reducible exact H | (rw [hy671]; exact H) | exact H
        have Ny671 := Aside0.mk hy671
        clear hy671
        have H' := Aside0.mk H
        clear H
        obtain ⟨Ao44, co44, eo44⟩ := Kd.R_slice HO_5.out
        subst eo44
        have p670 : 0 ≤ (x6_1 : Int) := of_decide_eq_true qne3_
        have q670 : x6_1 < (x5_1.length : Int) := of_decide_eq_true qne3_
        obtain ⟨ad670, e670, hx670_0⟩ := Kd.at_int (Kd.R_reads' HO_5.out).2.2 x6_1 p670 q670
        cases e670
        replace p670 := eq_true p670
        replace q670 := eq_true q670
        have p43 : 0 ≤ (x6_1 : Int) := of_decide_eq_true qne3_
        have q43 : (x6_1 : Int) < ((x5_1.length : Int) : Int) := of_decide_eq_true qne3_
        obtain ⟨go43, co43, eo43, gb43, gl43, cl43, HG43⟩ := Kd.R_form HO_5.out (by omega)
        (first | cases eo43 | (injection eo43 with ea_ en_ ec_; (first | subst ea_ | (injection ea_ with ea_; subst ea_)); subst ec_; clear en_))
        have GB43 := Aside0.mk gb43
        have GG43 := Aside0.mk HG43
        clear gb43 gl43 HG43
        (first | simp only [add_plain] at hx670_0 | skip)
        obtain ⟨hx43_0, hf43_0⟩ := Kd.R_celln 0 HO_5.out (x6_1 : Int) p43 q43
        replace p43 := eq_true p43
        replace q43 := eq_true q43
        have HP45 := Kd.R_putg HO_5.out (x6_1 : Int) ((255 - (rd x5_1 x6_1)) % 256)
        go_wp2_with (first | ((with_reducible refine gate_store (t := 5) (p := 39) rfl ?_); refine store_event (t := 5) (p := 39) (v := ?vo_w46) (w1 := (wr.setCell ⟨go43, (x6_1 : Int).toNat, none⟩ (.int .u8 ((255 - (rd x5_1 x6_1)) % 256)))) ?hg ?ho ?hn ?hr ?_; (case ho => rfl); (case hg => rfl); (case hn => rfl); (case hr => first | (go_simp; done) | (go_simp; rfl)); intro w46 hw; have hg : wr.grownBy w46 (some go43) := (by rw [hw]; exact HP45.2); have hp_ : Kd.R (Kd.int .u8) 5 w46 w.heap.size (fun _ => True) (.slice (some ⟨go43, 0, none⟩) x5_1.length co44) y671 := (by rw [hw, Ny671.out]; exact HP45.1); clear HP45; have n0_ := Aside0.mk (hp_); have n1_ := Aside0.mk (blk_grown (g := gb648) (o := .cells #[.int .i64 a0_0, .int .i64 a0_1, .int .i64 a0_2, .string a0_3] 77 (0, 0)) qne29_ hg (Kd.R_ne HO_5.out BK648.out (by decide))); have n2_ := Aside0.mk ((by rw [hw]; exact below_set (HB.out) GB43.out : Below w.heap.size w w46)); clear HO_5; clear BK648; clear HB; have HO_5 := n0_; have BK648 := n1_; have HB := n2_; clear n0_ n1_ n2_; clear hg hw hp_))
        go_roundg k1
        case measure => have := HK1.out; omega
        case rel => exact ⟨(y671), (wrap64 (x6_1 + 1)), qne2_, H', ⟨by have := HK1.out; omega⟩, ⟨by (with_reducible repeat (first | apply Kd.R_alloc | apply Kd.R_drewN | apply Kd.R_drew)); exact HO_5.out⟩, ⟨qne29_⟩, ⟨qne15_⟩⟩
       ·
        rw [if_neg c42] at H
        exact absurd H (by simp)
      ·
       rw [if_neg c41] at H
       have c41b0 : decide (x6_1 < (x5_1.length : Int)) = false := decide_eq_false c41
       clear c41
       obtain rfl := Option.some.inj H
       obtain ⟨Ao47, co47, eo47⟩ := Kd.R_slice HO_5.out
       subst eo47
       have hcv48 := own_string (P := Tryd.prog) Tryd.underlying23 Tryd.underlying5 Tryd.underlying9 (Kd.own_of_R HO_5.out)
       go_wp2
       go_ret
       exact ⟨qne5_, qne15_⟩
   ·
    rw [if_neg c28] at H
    exact absurd H (by simp)


/-! ### numeral_version: function 62 -/
mutual
def numeral_version.l0 : Nat → ByteArray → List Int → Option (ByteArray)
 | 0, _, _ => none
 | k + 1, x0, x3 => if x0.toList = ([] : List UInt8) then ((some (([2, 0] : List Int) : List Int)).bind fun y672 => (if x3.length + y672.length < 140737488355328 then (some (strOfNums (x3 ++ y672))) else (none))) else ((numeral_pair.f k x0).bind fun bt678 => (numeral_version.l1 k x3 bt678.1 bt678.2.1 bt678.2.2 (bt678.1.size : Int) 0))
def numeral_version.l1 : Nat → List Int → ByteArray → ByteArray → ByteArray → Int → Int → Option (ByteArray)
 | 0, _, _, _, _, _, _ => none
 | k + 1, x3, x4, x5, x6, x17, x18 => if x18 < x17 then (if 0 ≤ x18 then (if x18 < (x4.size : Int) then ((numeral_rank.f (bt x4 x18)).bind fun t681 => (if x3.length < 140737488355328 then (numeral_version.l1 k (x3 ++ [t681]) x4 x5 x6 x17 (wrap64 (x18 + 1))) else (none))) else (none)) else (none)) else (if x3.length < 140737488355328 then ((some (x3 ++ [2] : List Int)).bind fun y685 => (if x5.toList = ([] : List UInt8) then (if y685.length < 140737488355328 then (numeral_version.l0 k x6 (y685 ++ [0])) else (none)) else ((strings_TrimLeft.f k x5 (⟨#[48]⟩ : ByteArray)).bind fun t691 => (if y685.length < 140737488355328 then ((some (y685 ++ [1] : List Int)).bind fun y692 => ((numeral_eight.f k (IntKind.u64.wrap ((t691.size : Int)))).bind fun t695 => (if y692.length + t695.length < 140737488355328 then ((some (y692 ++ t695 : List Int)).bind fun y698 => (if y698.length + t691.size < 140737488355328 then (numeral_version.l0 k x6 (y698 ++ bytesOf t691)) else (none))) else (none)))) else (none))))) else (none))
end
def numeral_version.f (k : Nat) (a0 : ByteArray) : Option (ByteArray) := numeral_version.l0 k a0 ([] : List Int)
set_option maxHeartbeats 8000000 in
set_option maxRecDepth 100000 in
theorem numeral_version.calls (k : Nat) (a0 : ByteArray) (r : ByteArray) (w : World) (hGL : GOK w) (h : numeral_version.f k a0 = some r) :
  Calls Tryd.prog 62 #[.string a0] w fun e w' => e = .returned (.string r) ∧ Below w.heap.size w w' := by
 have HGL := Aside0.mk hGL
 clear hGL
 have HB := Aside0.mk (Below.refl w.heap.size w)
 have H : (numeral_version.l0 k a0 ([] : List Int)) = some r := h
 clear h
 have H' := Aside0.mk H
 clear H
 go_enter Tryd.func62, Tryd.ntmps62
 go_wp2
 go_loopg [0, 3] k (fun kq v0 v3 w' => ∃ (x0_1 : ByteArray) (x3_1 : List Int), v0 = .string x0_1 ∧ Aside0 (numeral_version.l0 kq x0_1 x3_1 = some r) ∧ Aside0 (kq ≤ k) ∧ Aside0 (Kd.R (Kd.int .u8) 5 w' w.heap.size (fun _ => True) v3 x3_1) ∧ Aside0 (Below w.heap.size w w'))
 case atStart => exact ⟨(a0), (([] : List Int)), qne2_, H', ⟨Nat.le_refl _⟩, ⟨qne55_⟩, ⟨qne0_⟩⟩
 case round =>
  clear H'
  obtain ⟨x0_1, x3_1, rfl, HA, HK1, HO_3, HB⟩ := hrel
  cases gk with
  | zero => exact absurd HA.out (by simp [numeral_version.l0])
  | succ k1 =>
   have H := HA.out
   clear HA
   simp only [numeral_version.l0] at H
   by_cases c2 : x0_1.toList = ([] : List UInt8)
   ·
    rw [if_pos c2] at H
    have c2b0 : (x0_1.toList == ([] : List UInt8)) = true := beq_iff_eq.mpr c2
    have c2b1 : (x0_1.toList != ([] : List UInt8)) = false := bne_eq_false_iff_eq.mpr c2
    clear c2
    obtain ⟨y672, hy672⟩ : ∃ y_ : List Int, y_ = (([2, 0] : List Int)) := ⟨_, rfl⟩
    replace H : (if x3_1.length + y672.length < 140737488355328 then (some (strOfNums (x3_1 ++ y672))) else (none)) = some r := by first | (rw [hy672]; with_reducible exact H) | (have H2_ := (Option.bind_some _ _).symm.trans H; rw [hy672]; with_reducible exact H2_) | (have H2_ := (Option.bind_some _ _).symm.trans H; with_reducible exact H2_) | with_reducible exact H | (rw [hy672]; exact H) | exact H
    have Ny672 := Aside0.mk hy672
    clear hy672
    by_cases c3 : x3_1.length + y672.length < 140737488355328
    ·
     rw [if_pos c3] at H
     have LMc3 := Aside0.mk c3
     clear c3
     obtain ⟨y675, hy675⟩ : ∃ y_ : List Int, y_ = (x3_1 ++ y672) := ⟨_, rfl⟩
     replace H : (some (strOfNums y675)) = some r := by first | (rw [hy675]; with_reducible exact H) | (have H2_ := (Option.bind_some _ _).symm.trans H; rw [hy675]; with_reducible exact H2_) | (have H2_ := (Option.bind_some _ _).symm.trans H; with_reducible exact H2_) | with_reducible exact H | (rw [hy675]; exact H) | exact H
     have Ny675 := Aside0.mk hy675
     clear hy675
     obtain rfl := Option.some.inj H
     have tk9 : True := trivial; have tk10 : True := trivial
     go_wp2_with (first | (have ztk9 := tk9; clear tk9 ztk9; (with_reducible refine gate_dst (N := 51) rfl ?_); refine Kd.R_lit (Kd.int .u8) _ 5 ?hg (N := 51) ?hd (xs := ([2, 0] : List Int)) (inner := [.int .u8 2, .int .u8 0]) (ok := fun _ => True) (okp := fun _ => True) ?hr ?hp (fun _ hk => hk) trivial (Below.refl _ _) (Nat.le_refl _) (by simp) ?_; (case hd => rfl); (case hg => rfl); (case hr => first | (go_simp; done) | (go_simp; rfl)); (case hp => exact (Reps.one (show Kd.M (Kd.int .u8) _ _ _ 2 [.int .u8 2] from rfl) (Reps.one (show Kd.M (Kd.int .u8) _ _ _ 0 [.int .u8 0] from rfl) (Reps.none _ _)))); intro v673 w4 ho5 hb hg_ hnew_; clear hg_ hnew_; (first | rw [← Ny672.out] at ho5 | (simp only [Int.reduceToNat] at ho5; rw [← Ny672.out] at ho5)); have n0_ := Aside0.mk (Kd.R_elder' qne39_ (Kd.R_base ho5) hb); have n1_ := Aside0.mk (Kd.R_lower (Kd.R_new' ho5 (Kd.R_lt qne39_)) (below_size qne0_)); have n2_ := Aside0.mk (below_step qne0_ hb); clear HO_3; clear HB; have HO_3 := n0_; have HO674 := n1_; have HB := n2_; clear n0_ n1_ n2_; clear hb ho5; obtain ⟨Ao7, co7, eo7⟩ := Kd.R_slice HO674.out; subst eo7) | (have ztk10 := tk10; clear tk10 ztk10; (with_reducible refine gate_builtin (b := .append) (xs := #[.tmp 50, .tmp 51]) rfl ?_); at_builtin; refine Kd.R_append_rows (Kd.int .u8) (w0 := w) w.heap.size rfl (.tmp 50) (.tmp 51) 23 5 (.int .u8 0) 1 rfl Tryd.underlying23 info5 rfl (by decide) (by omega) u3 x3_1 y672 _ _ _ (fun k_ => some k_ ≠ (.slice Ao7 y672.length co7 : Value).ownBlock) (fun _ => False) rfl rfl ?aO ?aR (fun _ _ h => h) (fun _ h => h.elim) ?aF ?aB ?aS ?aL ?_; (case aR => repeat (first | exact (Kd.R_reads' HO674.out).2.2 | (with_reducible refine Kd.C_alloc ?_ _) | (with_reducible refine Kd.C_drewN ?_ _) | (with_reducible refine Kd.C_drew ?_))); (case aB => exact qne0_); (case aF => exact (fun k_ hk => Kd.fresh' (Kd.R_lt (by (with_reducible repeat (first | apply Kd.R_alloc | apply Kd.R_drewN | apply Kd.R_drew)); exact HO674.out)) k_ hk)); (case aO => exact (by (with_reducible repeat (first | apply Kd.R_alloc | apply Kd.R_drewN | apply Kd.R_drew)); exact Kd.R_mono HO_3.out (fun _ hk => hk.2))); (case aS => exact (below_size qne0_)); (case aL => have := LMc3.out; omega); intro v676 w6 ho hb hg hat; rw [← Ny675.out] at ho; have n0_ := Aside0.mk (Kd.R_after (ok := (fun _ => True)) (by (with_reducible repeat (first | apply Kd.R_alloc | apply Kd.R_drewN | apply Kd.R_drew)); exact HO674.out) hg hat); have n1_ := Aside0.mk (hb); have n2_ := Aside0.mk (ho); clear HO674; clear HB; clear HO_3; have HO674 := n0_; have HB := n1_; have HO677 := n2_; clear n0_ n1_ n2_; clear ho hb hg hat; have hcv8 := own_string (P := Tryd.prog) Tryd.underlying23 Tryd.underlying5 Tryd.underlying9 (Kd.own_of_R HO677.out)))
     go_ret
     exact ⟨qne5_, qne0_⟩
    ·
     rw [if_neg c3] at H
     exact absurd H (by simp)
   ·
    rw [if_neg c2] at H
    have c2b0 : (x0_1.toList == ([] : List UInt8)) = false := beq_eq_false_iff_ne.mpr c2
    have c2b1 : (x0_1.toList != ([] : List UInt8)) = true := bne_iff_ne.mpr c2
    replace H := Option.bind_eq_some_iff.mp H
    obtain ⟨⟨t678, t679, t680⟩, A110, H⟩ := H
    replace H : (numeral_version.l1 k1 x3_1 t678 t679 t680 (t678.size : Int) 0) = some r := H
    have A11 := Aside0.mk A110
    clear A110
    have H' := Aside0.mk H
    clear H
    go_wp2_with (first | ((with_reducible refine gate_callee (f := 74) rfl ?_); refine goesL_ (some 12) rfl rfl Tryd.func74 (by kernel_rfl) rfl #[.string x0_1] rfl qne1_ ?_; (with_reducible refine (numeral_pair.calls k1 x0_1 t678 t679 t680 _ A11.out).mono ?_); rintro e w' ⟨rfl, ⟨nd, rfl⟩⟩; refine ⟨_, rfl, ?_⟩))
    go_loopg [3, 18] k1 (fun kq v3 v18 w' => ∃ (x3_2 : List Int) (x18_2 : Int), v18 = .int .i64 x18_2 ∧ Aside0 (numeral_version.l1 kq x3_2 t678 t679 t680 (t678.size : Int) x18_2 = some r) ∧ Aside0 (kq ≤ k1) ∧ Aside0 (Kd.R (Kd.int .u8) 5 w' w.heap.size (fun _ => True) v3 x3_2) ∧ Aside0 (Below w.heap.size w w'))
    case atStart => exact ⟨(x3_1), (0), qne2_, H', ⟨Nat.le_refl _⟩, ⟨qne39_⟩, ⟨qne0_⟩⟩
    case round =>
     clear H'
     (try clear c2); (try clear c2b0); (try clear c2b1); (try clear p2); (try clear c3); (try clear c6); (try clear c7); (try clear hcv8)
     obtain ⟨x3_2, x18_2, rfl, HA, HK2, HO_3, HB⟩ := hrel
     cases gk with
     | zero => exact absurd HA.out (by simp [numeral_version.l1])
     | succ k2 =>
      have H := HA.out
      clear HA
      simp only [numeral_version.l1] at H
      by_cases c12 : x18_2 < (t678.size : Int)
      ·
       rw [if_pos c12] at H
       have c12b0 : decide (x18_2 < (t678.size : Int)) = true := decide_eq_true c12
       clear c12
       by_cases c13 : 0 ≤ x18_2
       ·
        rw [if_pos c13] at H
        have c13b0 : decide (0 ≤ x18_2) = true := decide_eq_true c13
        clear c13
        by_cases c14 : x18_2 < (t678.size : Int)
        ·
         rw [if_pos c14] at H
         have c14b0 : decide (x18_2 < (t678.size : Int)) = true := decide_eq_true c14
         clear c14
         replace H := Option.bind_eq_some_iff.mp H
         obtain ⟨t681, A160, H⟩ := H
         replace H : (if x3_2.length < 140737488355328 then (numeral_version.l1 k2 (x3_2 ++ [t681]) t678 t679 t680 (t678.size : Int) (wrap64 (x18_2 + 1))) else (none)) = some r := H
         have A16 := Aside0.mk A160
         clear A160
         by_cases c17 : x3_2.length < 140737488355328
         ·
          rw [if_pos c17] at H
          have LMc17 := Aside0.mk c17
          clear c17
          obtain ⟨y682, hy682⟩ : ∃ y_ : List Int, y_ = (x3_2 ++ [t681]) := ⟨_, rfl⟩
          replace H : (numeral_version.l1 k2 y682 t678 t679 t680 (t678.size : Int) (wrap64 (x18_2 + 1))) = some r := by first | (rw [hy682]; with_reducible exact H) | (have H2_ := (Option.bind_some _ _).symm.trans H; rw [hy682]; with_reducible exact H2_) | (have H2_ := (Option.bind_some _ _).symm.trans H; with_reducible exact H2_) | with_reducible exact H | (rw [hy682]; exact H) | exact H
          have Ny682 := Aside0.mk hy682
          clear hy682
          have H' := Aside0.mk H
          clear H
          have p15 : 0 ≤ (x18_2 : Int) := of_decide_eq_true qne3_
          have q15 : x18_2 < (t678.size : Int) := of_decide_eq_true qne3_
          have hx15 := bt_at t678 x18_2
          replace p15 := eq_true p15
          replace q15 := eq_true q15
          have tk20 : True := trivial; have tk21 : True := trivial
          go_wp2_with (first | (have ztk20 := tk20; clear tk20 ztk20; (with_reducible refine gate_callee (f := 84) rfl ?_); refine goesL_ (some 25) rfl rfl Tryd.func84 (by kernel_rfl) rfl #[.int .u8 (bt t678 x18_2)] rfl qne1_ ?_; (with_reducible refine (numeral_rank.calls (bt t678 x18_2) t681 _ ?side1 A16.out).mono ?_); (case side1 => exact GOK.below HGL.out qne0_); rintro e w18 ⟨rfl, hb⟩; refine ⟨_, rfl, ?_⟩; have n0_ := Aside0.mk (Kd.R_below qne39_ hb); have n1_ := Aside0.mk (below_step qne0_ hb); clear HO_3; clear HB; have HO_3 := n0_; have HB := n1_; clear n0_ n1_; (try clear hb); (try clear hb2); (try clear hk); (try clear hi)) | (have ztk21 := tk21; clear tk21 ztk21; (with_reducible refine gate_builtin (b := .append) (xs := #[.tmp 21, .tmp 26]) rfl ?_); at_builtin; refine Kd.R_append (Kd.int .u8) (w0 := w) w.heap.size rfl (.tmp 21) (.tmp 26) 23 5 (.int .u8 0) 1 rfl Tryd.underlying23 info5 rfl (by decide) (by omega) u3 x3_2 t681 [.int .u8 t681] (fun _ => True) (fun _ => False) rfl rfl ?aP (fun _ hk => hk.elim) ?aF ?aO ?aB ?aS ?aL ?_; (case aP => exact rfl); (case aB => exact qne0_); (case aF => exact (fun _ _ => trivial)); (case aO => exact qne39_); (case aS => exact (below_size qne0_)); (case aL => have := LMc17.out; omega); intro v683 w19 ho hb hg hat; rw [← Ny682.out] at ho; have n0_ := Aside0.mk (hb); have n1_ := Aside0.mk (ho); clear HB; clear HO_3; have HB := n0_; have HO684 := n1_; clear n0_ n1_; clear ho hb hg hat))
          go_roundg k2
          case measure => have := HK1.out; have := HK2.out; omega
          case rel => exact ⟨(y682), (wrap64 (x18_2 + 1)), qne2_, H', ⟨by have := HK1.out; have := HK2.out; omega⟩, ⟨by (with_reducible repeat (first | apply Kd.R_alloc | apply Kd.R_drewN | apply Kd.R_drew)); exact HO684.out⟩, ⟨qne0_⟩⟩
         ·
          rw [if_neg c17] at H
          exact absurd H (by simp)
        ·
         rw [if_neg c14] at H
         exact absurd H (by simp)
       ·
        rw [if_neg c13] at H
        exact absurd H (by simp)
      ·
       rw [if_neg c12] at H
       have c12b0 : decide (x18_2 < (t678.size : Int)) = false := decide_eq_false c12
       clear c12
       by_cases c22 : x3_2.length < 140737488355328
       ·
        rw [if_pos c22] at H
        have LMc22 := Aside0.mk c22
        clear c22
        obtain ⟨y685, hy685⟩ : ∃ y_ : List Int, y_ = (x3_2 ++ [2]) := ⟨_, rfl⟩
        replace H : (if t679.toList = ([] : List UInt8) then (if y685.length < 140737488355328 then (numeral_version.l0 k2 t680 (y685 ++ [0])) else (none)) else ((strings_TrimLeft.f k2 t679 (⟨#[48]⟩ : ByteArray)).bind fun t691 => (if y685.length < 140737488355328 then ((some (y685 ++ [1] : List Int)).bind fun y692 => ((numeral_eight.f k2 (IntKind.u64.wrap ((t691.size : Int)))).bind fun t695 => (if y692.length + t695.length < 140737488355328 then ((some (y692 ++ t695 : List Int)).bind fun y698 => (if y698.length + t691.size < 140737488355328 then (numeral_version.l0 k2 t680 (y698 ++ bytesOf t691)) else (none))) else (none)))) else (none)))) = some r := by first | (rw [hy685]; with_reducible exact H) | (have H2_ := (Option.bind_some _ _).symm.trans H; rw [hy685]; with_reducible exact H2_) | (have H2_ := (Option.bind_some _ _).symm.trans H; with_reducible exact H2_) | with_reducible exact H | (rw [hy685]; exact H) | exact H
        have Ny685 := Aside0.mk hy685
        clear hy685
        by_cases c23 : t679.toList = ([] : List UInt8)
        ·
         rw [if_pos c23] at H
         have c23b0 : (t679.toList == ([] : List UInt8)) = true := beq_iff_eq.mpr c23
         have c23b1 : (t679.toList != ([] : List UInt8)) = false := bne_eq_false_iff_eq.mpr c23
         clear c23
         by_cases c24 : y685.length < 140737488355328
         ·
          rw [if_pos c24] at H
          have LMc24 := Aside0.mk c24
          clear c24
          obtain ⟨y688, hy688⟩ : ∃ y_ : List Int, y_ = (y685 ++ [0]) := ⟨_, rfl⟩
          replace H : (numeral_version.l0 k2 t680 y688) = some r := by first | (rw [hy688]; with_reducible exact H) | (have H2_ := (Option.bind_some _ _).symm.trans H; rw [hy688]; with_reducible exact H2_) | (have H2_ := (Option.bind_some _ _).symm.trans H; with_reducible exact H2_) | with_reducible exact H | (rw [hy688]; exact H) | exact H
          have Ny688 := Aside0.mk hy688
          clear hy688
          have H' := Aside0.mk H
          clear H
          have tk27 : True := trivial; have tk28 : True := trivial
          go_wp2_with (first | (have ztk27 := tk27; clear tk27 ztk27; (with_reducible refine gate_builtin (b := .append) (xs := #[.tmp 29, .tmp 30]) rfl ?_); at_builtin; refine Kd.R_append (Kd.int .u8) (w0 := w) w.heap.size rfl (.tmp 29) (.tmp 30) 23 5 (.int .u8 0) 1 rfl Tryd.underlying23 info5 rfl (by decide) (by omega) u3 x3_2 2 [.int .u8 2] (fun _ => True) (fun _ => False) rfl rfl ?aP (fun _ hk => hk.elim) ?aF ?aO ?aB ?aS ?aL ?_; (case aP => exact rfl); (case aB => exact qne0_); (case aF => exact (fun _ _ => trivial)); (case aO => exact qne39_); (case aS => exact (below_size qne0_)); (case aL => have := LMc22.out; omega); intro v686 w25 ho hb hg hat; rw [← Ny685.out] at ho; have n0_ := Aside0.mk (hb); have n1_ := Aside0.mk (ho); clear HB; clear HO_3; have HB := n0_; have HO687 := n1_; clear n0_ n1_; clear ho hb hg hat) | (have ztk28 := tk28; clear tk28 ztk28; (with_reducible refine gate_builtin (b := .append) (xs := #[.tmp 34, .tmp 35]) rfl ?_); at_builtin; refine Kd.R_append (Kd.int .u8) (w0 := w) w.heap.size rfl (.tmp 34) (.tmp 35) 23 5 (.int .u8 0) 1 rfl Tryd.underlying23 info5 rfl (by decide) (by omega) v686 y685 0 [.int .u8 0] (fun _ => True) (fun _ => False) rfl rfl ?aP (fun _ hk => hk.elim) ?aF ?aO ?aB ?aS ?aL ?_; (case aP => exact rfl); (case aB => exact qne0_); (case aF => exact (fun _ _ => trivial)); (case aO => exact qne58_); (case aS => exact (below_size qne0_)); (case aL => have := LMc24.out; omega); intro v689 w26 ho hb hg hat; rw [← Ny688.out] at ho; have n0_ := Aside0.mk (hb); have n1_ := Aside0.mk (ho); clear HB; clear HO687; have HB := n0_; have HO690 := n1_; clear n0_ n1_; clear ho hb hg hat))
          go_roundg k2
          case measure => have := HK1.out; have := HK2.out; omega
          case rel => exact ⟨(t680), (y688), qne2_, H', ⟨by have := HK1.out; have := HK2.out; omega⟩, ⟨by (with_reducible repeat (first | apply Kd.R_alloc | apply Kd.R_drewN | apply Kd.R_drew)); exact HO690.out⟩, ⟨qne0_⟩⟩
         ·
          rw [if_neg c24] at H
          exact absurd H (by simp)
        ·
         rw [if_neg c23] at H
         have c23b0 : (t679.toList == ([] : List UInt8)) = false := beq_eq_false_iff_ne.mpr c23
         have c23b1 : (t679.toList != ([] : List UInt8)) = true := bne_iff_ne.mpr c23
         replace H := Option.bind_eq_some_iff.mp H
         obtain ⟨t691, A290, H⟩ := H
         replace H : (if y685.length < 140737488355328 then ((some (y685 ++ [1] : List Int)).bind fun y692 => ((numeral_eight.f k2 (IntKind.u64.wrap ((t691.size : Int)))).bind fun t695 => (if y692.length + t695.length < 140737488355328 then ((some (y692 ++ t695 : List Int)).bind fun y698 => (if y698.length + t691.size < 140737488355328 then (numeral_version.l0 k2 t680 (y698 ++ bytesOf t691)) else (none))) else (none)))) else (none)) = some r := H
         have A29 := Aside0.mk A290
         clear A290
         by_cases c30 : y685.length < 140737488355328
         ·
          rw [if_pos c30] at H
          have LMc30 := Aside0.mk c30
          clear c30
          obtain ⟨y692, hy692⟩ : ∃ y_ : List Int, y_ = (y685 ++ [1]) := ⟨_, rfl⟩
          replace H : ((numeral_eight.f k2 (IntKind.u64.wrap ((t691.size : Int)))).bind fun t695 => (if y692.length + t695.length < 140737488355328 then ((some (y692 ++ t695 : List Int)).bind fun y698 => (if y698.length + t691.size < 140737488355328 then (numeral_version.l0 k2 t680 (y698 ++ bytesOf t691)) else (none))) else (none))) = some r := by first | (rw [hy692]; with_reducible exact H) | (have H2_ := (Option.bind_some _ _).symm.trans H; rw [hy692]; with_reducible exact H2_) | (have H2_ := (Option.bind_some _ _).symm.trans H; with_reducible exact H2_) | with_reducible exact H | (rw [hy692]; exact H) | exact H
          have Ny692 := Aside0.mk hy692
          clear hy692
          replace H := Option.bind_eq_some_iff.mp H
          obtain ⟨t695, A310, H⟩ := H
          replace H : (if y692.length + t695.length < 140737488355328 then ((some (y692 ++ t695 : List Int)).bind fun y698 => (if y698.length + t691.size < 140737488355328 then (numeral_version.l0 k2 t680 (y698 ++ bytesOf t691)) else (none))) else (none)) = some r := H
          have A31 := Aside0.mk A310
          clear A310
          by_cases c32 : y692.length + t695.length < 140737488355328
          ·
           rw [if_pos c32] at H
           have LMc32 := Aside0.mk c32
           clear c32
           obtain ⟨y698, hy698⟩ : ∃ y_ : List Int, y_ = (y692 ++ t695) := ⟨_, rfl⟩
           replace H : (if y698.length + t691.size < 140737488355328 then (numeral_version.l0 k2 t680 (y698 ++ bytesOf t691)) else (none)) = some r := by first | (rw [hy698]; with_reducible exact H) | (have H2_ := (Option.bind_some _ _).symm.trans H; rw [hy698]; with_reducible exact H2_) | (have H2_ := (Option.bind_some _ _).symm.trans H; with_reducible exact H2_) | with_reducible exact H | (rw [hy698]; exact H) | exact H
           have Ny698 := Aside0.mk hy698
           clear hy698
           by_cases c33 : y698.length + t691.size < 140737488355328
           ·
            rw [if_pos c33] at H
            have LMc33 := Aside0.mk c33
            clear c33
            obtain ⟨y701, hy701⟩ : ∃ y_ : List Int, y_ = (y698 ++ bytesOf t691) := ⟨_, rfl⟩
            replace H : (numeral_version.l0 k2 t680 y701) = some r := by first | (rw [hy701]; with_reducible exact H) | (have H2_ := (Option.bind_some _ _).symm.trans H; rw [hy701]; with_reducible exact H2_) | (have H2_ := (Option.bind_some _ _).symm.trans H; with_reducible exact H2_) | with_reducible exact H | (rw [hy701]; exact H) | exact H
            have Ny701 := Aside0.mk hy701
            clear hy701
            have H' := Aside0.mk H
            clear H
            have tk41 : True := trivial; have tk42 : True := trivial; have tk43 : True := trivial; have tk44 : True := trivial; have tk45 : True := trivial; have tk46 : True := trivial
            go_wp2_with (first | (have ztk41 := tk41; clear tk41 ztk41; (with_reducible refine gate_builtin (b := .append) (xs := #[.tmp 29, .tmp 30]) rfl ?_); at_builtin; refine Kd.R_append (Kd.int .u8) (w0 := w) w.heap.size rfl (.tmp 29) (.tmp 30) 23 5 (.int .u8 0) 1 rfl Tryd.underlying23 info5 rfl (by decide) (by omega) u3 x3_2 2 [.int .u8 2] (fun _ => True) (fun _ => False) rfl rfl ?aP (fun _ hk => hk.elim) ?aF ?aO ?aB ?aS ?aL ?_; (case aP => exact rfl); (case aB => exact qne0_); (case aF => exact (fun _ _ => trivial)); (case aO => exact qne39_); (case aS => exact (below_size qne0_)); (case aL => have := LMc22.out; omega); intro v686 w34 ho hb hg hat; rw [← Ny685.out] at ho; have n0_ := Aside0.mk (hb); have n1_ := Aside0.mk (ho); clear HB; clear HO_3; have HB := n0_; have HO687 := n1_; clear n0_ n1_; clear ho hb hg hat) | (have ztk42 := tk42; clear tk42 ztk42; (with_reducible refine gate_callee (f := 66) rfl ?_); refine goesL_ (some 38) rfl rfl Tryd.func66 (by kernel_rfl) rfl #[.string t679, .string (⟨#[48]⟩ : ByteArray)] rfl qne1_ ?_; (with_reducible refine (strings_TrimLeft.calls k2 t679 (⟨#[48]⟩ : ByteArray) t691 _ A29.out).mono ?_); rintro e w35 ⟨rfl, hb⟩; refine ⟨_, rfl, ?_⟩; have n0_ := Aside0.mk (Kd.R_below qne58_ hb); have n1_ := Aside0.mk (below_step qne0_ hb); clear HO687; clear HB; have HO687 := n0_; have HB := n1_; clear n0_ n1_; (try clear hb); (try clear hb2); (try clear hk); (try clear hi)) | (have ztk43 := tk43; clear tk43 ztk43; (with_reducible refine gate_builtin (b := .append) (xs := #[.tmp 39, .tmp 40]) rfl ?_); at_builtin; refine Kd.R_append (Kd.int .u8) (w0 := w) w.heap.size rfl (.tmp 39) (.tmp 40) 23 5 (.int .u8 0) 1 rfl Tryd.underlying23 info5 rfl (by decide) (by omega) v686 y685 1 [.int .u8 1] (fun _ => True) (fun _ => False) rfl rfl ?aP (fun _ hk => hk.elim) ?aF ?aO ?aB ?aS ?aL ?_; (case aP => exact rfl); (case aB => exact qne0_); (case aF => exact (fun _ _ => trivial)); (case aO => exact qne58_); (case aS => exact (below_size qne0_)); (case aL => have := LMc30.out; omega); intro v693 w36 ho hb hg hat; rw [← Ny692.out] at ho; have n0_ := Aside0.mk (hb); have n1_ := Aside0.mk (ho); clear HB; clear HO687; have HB := n0_; have HO694 := n1_; clear n0_ n1_; clear ho hb hg hat) | (have ztk44 := tk44; clear tk44 ztk44; (with_reducible refine gate_callee (f := 85) rfl ?_); refine goesL_ (some 45) rfl rfl Tryd.func85 (by kernel_rfl) rfl #[.int .u64 (IntKind.u64.wrap ((t691.size : Int)))] rfl qne1_ ?_; (with_reducible refine (numeral_eight.calls k2 (IntKind.u64.wrap ((t691.size : Int))) t695 _ A31.out).mono ?_); rintro e w37 ⟨v696, rfl, ho0, hb⟩; refine ⟨_, rfl, ?_⟩; have n0_ := Aside0.mk (Kd.R_elder' (by (with_reducible repeat (first | apply Kd.R_alloc | apply Kd.R_drewN | apply Kd.R_drew)); exact HO694.out) (Kd.R_base ho0) hb); have n1_ := Aside0.mk (Kd.R_lower (Kd.R_new' ho0 (Kd.R_lt (by (with_reducible repeat (first | apply Kd.R_alloc | apply Kd.R_drewN | apply Kd.R_drew)); exact HO694.out))) (below_size qne0_)); have n2_ := Aside0.mk (below_step qne0_ hb); clear HO694; clear HB; have HO694 := n0_; have HO697 := n1_; have HB := n2_; clear n0_ n1_ n2_; (try clear hb); (try clear hb2); (try clear hk); (try clear hi); (try clear ho0); obtain ⟨Ao39, co39, eo39⟩ := Kd.R_slice HO697.out; subst eo39) | (have ztk45 := tk45; clear tk45 ztk45; (with_reducible refine gate_builtin (b := .append) (xs := #[.tmp 41, .tmp 45]) rfl ?_); at_builtin; refine Kd.R_append_rows (Kd.int .u8) (w0 := w) w.heap.size rfl (.tmp 41) (.tmp 45) 23 5 (.int .u8 0) 1 rfl Tryd.underlying23 info5 rfl (by decide) (by omega) v693 y692 t695 _ _ _ (fun k_ => some k_ ≠ (.slice Ao39 t695.length co39 : Value).ownBlock) (fun _ => False) rfl rfl ?aO ?aR (fun _ _ h => h) (fun _ h => h.elim) ?aF ?aB ?aS ?aL ?_; (case aR => repeat (first | exact (Kd.R_reads' HO697.out).2.2 | (with_reducible refine Kd.C_alloc ?_ _) | (with_reducible refine Kd.C_drewN ?_ _) | (with_reducible refine Kd.C_drew ?_))); (case aB => exact qne0_); (case aF => exact (fun k_ hk => Kd.fresh' (Kd.R_lt (by (with_reducible repeat (first | apply Kd.R_alloc | apply Kd.R_drewN | apply Kd.R_drew)); exact HO697.out)) k_ hk)); (case aO => exact (by (with_reducible repeat (first | apply Kd.R_alloc | apply Kd.R_drewN | apply Kd.R_drew)); exact Kd.R_mono HO694.out (fun _ hk => hk.2))); (case aS => exact (below_size qne0_)); (case aL => have := LMc32.out; omega); intro v699 w38 ho hb hg hat; rw [← Ny698.out] at ho; have n0_ := Aside0.mk (Kd.R_after (ok := (fun _ => True)) (by (with_reducible repeat (first | apply Kd.R_alloc | apply Kd.R_drewN | apply Kd.R_drew)); exact HO697.out) hg hat); have n1_ := Aside0.mk (hb); have n2_ := Aside0.mk (ho); clear HO697; clear HB; clear HO694; have HO697 := n0_; have HB := n1_; have HO700 := n2_; clear n0_ n1_ n2_; clear ho hb hg hat) | (have ztk46 := tk46; clear tk46 ztk46; at_builtin; refine print_append_str (w0 := w) w.heap.size rfl (.tmp 46) _ 23 9 5 rfl Tryd.underlying23 Tryd.underlying9 info5 v699 y698 t691 rfl rfl ?aO ?aB ?aS ?aL ?_; (case aB => exact qne0_); (case aO => exact (Kd.own_of_R (by (with_reducible repeat (first | apply Kd.R_alloc | apply Kd.R_drewN | apply Kd.R_drew)); exact Kd.R_mono HO700.out (fun _ hk => trivial)))); (case aS => exact (below_size qne0_)); (case aL => have := LMc33.out; omega); intro v702 w40 ho0 hb hg; have ho := Kd.R_of_own (h1 := fun _ => rfl) (ok := fun _ => True) ho0 (fun _ _ => trivial); clear ho0; have hat := True.intro; rw [← Ny701.out] at ho; change Kd.R (Kd.int .u8) 5 w40 w.heap.size (fun _ => True) v702 y701 at ho; have n0_ := Aside0.mk (hb); have n1_ := Aside0.mk (ho); clear HB; clear HO700; have HB := n0_; have HO703 := n1_; clear n0_ n1_; clear ho hb hg hat))
            go_roundg k2
            case measure => have := HK1.out; have := HK2.out; omega
            case rel => exact ⟨(t680), (y701), qne2_, H', ⟨by have := HK1.out; have := HK2.out; omega⟩, ⟨by (with_reducible repeat (first | apply Kd.R_alloc | apply Kd.R_drewN | apply Kd.R_drew)); exact HO703.out⟩, ⟨qne0_⟩⟩
           ·
            rw [if_neg c33] at H
            exact absurd H (by simp)
          ·
           rw [if_neg c32] at H
           exact absurd H (by simp)
         ·
          rw [if_neg c30] at H
          exact absurd H (by simp)
       ·
        rw [if_neg c22] at H
        exact absurd H (by simp)


/-! ### numeral_Embed: function 29 -/
mutual
def numeral_Embed.j0 : Nat → Int → ByteArray → Int → Bool → Option (ByteArray)
 | 0, _, _, _, _ => none
 | k + 1, x0, x1, x8, x9 => if x9 = true then ((numeral_human.f k x0 x1).bind fun bt704 => ((numeral_number.f k bt704.1 bt704.2.1 bt704.2.2.1 bt704.2.2.2 (x0 == 64)).bind fun t708 => (some t708))) else (if x8 = 32 then ((numeral_General.f k x1).bind fun bt709 => (if bt709.1 = 3 then ((numeral_sizeOf.f bt709.2.1 bt709.2.2.1 bt709.2.2.2.1 0).bind fun bt715 => ((numeral_number.f k bt715.1 bt715.2.1 bt715.2.2.1 bt715.2.2.2 false).bind fun t719 => (some t719))) else (if bt709.1 = 0 then (some (strOfNums (([16] : List Int)))) else (if bt709.1 = 1 then (some (strOfNums (([32] : List Int)))) else (if bt709.1 = 2 then (some (strOfNums (([48] : List Int)))) else (if bt709.1 = 4 then (some (strOfNums (([112] : List Int)))) else (none))))))) else (if x8 = 128 then ((numeral_Month.f k x1).bind fun t736 => (some (strOfNums (([(t736) % 256] : List Int))))) else (if x8 = 256 then ((numeral_version.f k x1).bind fun t740 => (some t740)) else (numeral_Embed.l0 k x1 ([] : List Int) (x1.size : Int) 0))))
def numeral_Embed.l0 : Nat → ByteArray → List Int → Int → Int → Option (ByteArray)
 | 0, _, _, _, _ => none
 | k + 1, x1, x6, x51, x52 => if x52 < x51 then (if 0 ≤ x52 then (if x52 < (x1.size : Int) then (if (bt x1 x52) < 2 then (if x6.length < 140737488355328 then (numeral_Embed.j2 k x1 (x6 ++ [1]) x52 x51 x52) else (none)) else (numeral_Embed.j2 k x1 x6 x52 x51 x52)) else (none)) else (none)) else (if x6.length < 140737488355328 then (some (strOfNums (x6 ++ [0]))) else (none))
def numeral_Embed.j2 : Nat → ByteArray → List Int → Int → Int → Int → Option (ByteArray)
 | 0, _, _, _, _, _ => none
 | k + 1, x1, x6, x7, x51, x52 => if 0 ≤ x7 then (if x7 < (x1.size : Int) then (if (bt x1 x7) = 0 then (if x6.length < 140737488355328 then (numeral_Embed.l0 k x1 (x6 ++ [1]) x51 (wrap64 (x52 + 1))) else (none)) else (if (bt x1 x7) = 1 then (if x6.length < 140737488355328 then (numeral_Embed.l0 k x1 (x6 ++ [2]) x51 (wrap64 (x52 + 1))) else (none)) else (if x6.length < 140737488355328 then (numeral_Embed.l0 k x1 (x6 ++ [bt x1 x7]) x51 (wrap64 (x52 + 1))) else (none)))) else (none)) else (none)
end
def numeral_Embed.f (k : Nat) (a0 : Int) (a1 : ByteArray) : Option (ByteArray) := if a0 = 16 then (numeral_Embed.j0 k a0 a1 a0 (a0 == 16)) else (numeral_Embed.j0 k a0 a1 a0 (a0 == 64))
set_option maxHeartbeats 8000000 in
set_option maxRecDepth 100000 in
theorem numeral_Embed.calls (k : Nat) (a0 : Int) (a1 : ByteArray) (r : ByteArray) (w : World) (hGL : GOK w) (h : numeral_Embed.f k a0 a1 = some r) :
  Calls Tryd.prog 29 #[.int .u16 a0, .string a1] w fun e w' => e = .returned (.string r) ∧ Below w.heap.size w w' := by
 have hu29 := Tryd.underlying29
 have hu86 := Tryd.underlying86
 have HGL := Aside0.mk hGL
 clear hGL
 have HB := Aside0.mk (Below.refl w.heap.size w)
 have H : (if a0 = 16 then (numeral_Embed.j0 k a0 a1 a0 (a0 == 16)) else (numeral_Embed.j0 k a0 a1 a0 (a0 == 64))) = some r := h
 clear h
 have HC3 := Aside0.mk H
 clear H
 go_enter Tryd.func29, Tryd.ntmps29
 go_upto_if 9 with (fail)
 go_cut [9] (fun v9 wc => ∃ (kq : Nat) (x9_2 : Bool), v9 = .bool x9_2 ∧ Aside0 (numeral_Embed.j0 kq a0 a1 a0 x9_2 = some r) ∧ Aside0 (kq ≤ k) ∧ Aside0 (Below w.heap.size w wc))
 case first =>
  have H := HC3.out
  clear HC3
  by_cases c4 : a0 = 16
  ·
   rw [if_pos c4] at H
   have c4b0 : (a0 == 16) = true := beq_iff_eq.mpr c4
   have c4b1 : (a0 != 16) = false := bne_eq_false_iff_eq.mpr c4
   clear c4
   (first | rw [c4b0] | (simp only [i64_w, i32_w]; rw [c4b0]) | skip)
   have H' := Aside0.mk H
   clear H
   go_wp2
   go_meet
   case rel => exact ⟨_, ((a0 == 16)), qne2_, H', ⟨by first | omega | exact Nat.le_refl _⟩, ⟨qne0_⟩⟩
  ·
   rw [if_neg c4] at H
   have c4b0 : (a0 == 16) = false := beq_eq_false_iff_ne.mpr c4
   have c4b1 : (a0 != 16) = true := bne_iff_ne.mpr c4
   (first | rw [c4b0] | (simp only [i64_w, i32_w]; rw [c4b0]) | skip)
   have H' := Aside0.mk H
   clear H
   go_wp2
   go_meet
   case rel => exact ⟨_, ((a0 == 64)), qne2_, H', ⟨by first | omega | exact Nat.le_refl _⟩, ⟨qne0_⟩⟩
 case rest =>
  clear HC3
  (try clear c2); (try clear p2); (try clear c4); (try clear c4b0); (try clear c4b1)
  obtain ⟨kq, x9_2, rfl, HA, HJ2, HB⟩ := hcut
  cases kq with
  | zero => exact absurd HA.out (by simp [numeral_Embed.j0])
  | succ kj2 =>
   have H := HA.out
   clear HA
   simp only [numeral_Embed.j0] at H
   by_cases c5 : x9_2 = true
   ·
    subst c5
    have H1 : ((numeral_human.f kj2 a0 a1).bind fun bt704 => ((numeral_number.f kj2 bt704.1 bt704.2.1 bt704.2.2.1 bt704.2.2.2 (a0 == 64)).bind fun t708 => (some t708))) = some r := by rw [if_pos rfl] at H; exact H
    clear H
    have H := H1
    clear H1
    replace H := Option.bind_eq_some_iff.mp H
    obtain ⟨⟨t704, t705, t706, t707⟩, A60, H⟩ := H
    replace H : ((numeral_number.f kj2 t704 t705 t706 t707 (a0 == 64)).bind fun t708 => (some t708)) = some r := H
    have A6 := Aside0.mk A60
    clear A60
    replace H := Option.bind_eq_some_iff.mp H
    obtain ⟨t708, A70, H⟩ := H
    replace H : (some t708) = some r := H
    have A7 := Aside0.mk A70
    clear A70
    obtain rfl := Option.some.inj H
    have tk10 : True := trivial; have tk11 : True := trivial
    go_wp2_with (first | (have ztk10 := tk10; clear tk10 ztk10; (with_reducible refine gate_callee (f := 50) rfl ?_); refine goesL_ (some 14) rfl rfl Tryd.func50 (by kernel_rfl) rfl #[.int .u16 a0, .string a1] rfl qne1_ ?_; (with_reducible refine (numeral_human.calls kj2 a0 a1 t704 t705 t706 t707 _ A6.out).mono ?_); rintro e w8 ⟨rfl, hb⟩; refine ⟨_, rfl, ?_⟩; have n0_ := Aside0.mk (below_step qne0_ hb); clear HB; have HB := n0_; clear n0_; (try clear hb); (try clear hb2); (try clear hk); (try clear hi)) | (have ztk11 := tk11; clear tk11 ztk11; (with_reducible refine gate_callee (f := 61) rfl ?_); refine goesL_ (some 17) rfl rfl Tryd.func61 (by kernel_rfl) rfl #[.agg #[.int .i64 t704, .int .i64 t705, .int .i64 t706, .string t707], .bool (a0 == 64)] rfl qne1_ ?_; (with_reducible refine (numeral_number.calls kj2 t704 t705 t706 t707 (a0 == 64) t708 _ A7.out).mono ?_); rintro e w9 ⟨rfl, hb⟩; refine ⟨_, rfl, ?_⟩; have n0_ := Aside0.mk (below_step qne0_ hb); clear HB; have HB := n0_; clear n0_; (try clear hb); (try clear hb2); (try clear hk); (try clear hi)))
    go_ret
    exact ⟨qne5_, qne0_⟩
   ·
    replace c5 := Bool.eq_false_iff.mpr c5
    subst c5
    have H1 : (if a0 = 32 then ((numeral_General.f kj2 a1).bind fun bt709 => (if bt709.1 = 3 then ((numeral_sizeOf.f bt709.2.1 bt709.2.2.1 bt709.2.2.2.1 0).bind fun bt715 => ((numeral_number.f kj2 bt715.1 bt715.2.1 bt715.2.2.1 bt715.2.2.2 false).bind fun t719 => (some t719))) else (if bt709.1 = 0 then (some (strOfNums (([16] : List Int)))) else (if bt709.1 = 1 then (some (strOfNums (([32] : List Int)))) else (if bt709.1 = 2 then (some (strOfNums (([48] : List Int)))) else (if bt709.1 = 4 then (some (strOfNums (([112] : List Int)))) else (none))))))) else (if a0 = 128 then ((numeral_Month.f kj2 a1).bind fun t736 => (some (strOfNums (([(t736) % 256] : List Int))))) else (if a0 = 256 then ((numeral_version.f kj2 a1).bind fun t740 => (some t740)) else (numeral_Embed.l0 kj2 a1 ([] : List Int) (a1.size : Int) 0)))) = some r := by rw [if_neg (show ¬ (false = true) by decide)] at H; exact H
    clear H
    have H := H1
    clear H1
    by_cases c12 : a0 = 32
    ·
     rw [if_pos c12] at H
     have c12b0 : (a0 == 32) = true := beq_iff_eq.mpr c12
     have c12b1 : (a0 != 32) = false := bne_eq_false_iff_eq.mpr c12
     clear c12
     replace H := Option.bind_eq_some_iff.mp H
     obtain ⟨⟨t709, t710, t711, t712, t713⟩, A130, H⟩ := H
     replace H : (if t709 = 3 then ((numeral_sizeOf.f t710 t711 t712 0).bind fun bt715 => ((numeral_number.f kj2 bt715.1 bt715.2.1 bt715.2.2.1 bt715.2.2.2 false).bind fun t719 => (some t719))) else (if t709 = 0 then (some (strOfNums (([16] : List Int)))) else (if t709 = 1 then (some (strOfNums (([32] : List Int)))) else (if t709 = 2 then (some (strOfNums (([48] : List Int)))) else (if t709 = 4 then (some (strOfNums (([112] : List Int)))) else (none)))))) = some r := H
     have A13 := Aside0.mk A130
     clear A130
     by_cases c14 : t709 = 3
     ·
      rw [if_pos c14] at H
      have c14b0 : (t709 == 3) = true := beq_iff_eq.mpr c14
      have c14b1 : (t709 != 3) = false := bne_eq_false_iff_eq.mpr c14
      clear c14
      replace H := Option.bind_eq_some_iff.mp H
      obtain ⟨⟨t715, t716, t717, t718⟩, A150, H⟩ := H
      replace H : ((numeral_number.f kj2 t715 t716 t717 t718 false).bind fun t719 => (some t719)) = some r := H
      have A15 := Aside0.mk A150
      clear A150
      replace H := Option.bind_eq_some_iff.mp H
      obtain ⟨t719, A160, H⟩ := H
      replace H : (some t719) = some r := H
      have A16 := Aside0.mk A160
      clear A160
      obtain rfl := Option.some.inj H
      have tk22 : True := trivial; have tk23 : True := trivial; have tk24 : True := trivial; have tk25 : True := trivial
      go_wp2_with (first | (have ztk22 := tk22; clear tk22 ztk22; (with_reducible refine gate_callee (f := 17) rfl ?_); refine goesL_ (some 21) rfl rfl Tryd.func17 (by kernel_rfl) rfl #[.string a1] rfl qne1_ ?_; (with_reducible refine (numeral_General.calls kj2 a1 t709 t710 t711 t712 t713 _ A13.out).mono ?_); rintro e w17 ⟨rfl, hb⟩; refine ⟨_, rfl, ?_⟩; have n0_ := Aside0.mk (below_step qne0_ hb); clear HB; have HB := n0_; clear n0_; (try clear hb); (try clear hb2); (try clear hk); (try clear hi)) | (have ztk23 := tk23; clear tk23 ztk23; (with_reducible refine gate_dst (N := 5) rfl ?_); refine box_event ?hg (N := 5) ?hd (cs := #[.int .u8 0, .bool false, .string (⟨#[]⟩ : ByteArray), .int .i64 0, .int .i64 0]) (t := 29) ?hr ?_; (case hd => rfl); (case hg => rfl); (case hr => first | (go_simp; done) | (go_simp; rfl)); intro gb714 hg w18 hbox hb; have n0_ := Aside0.mk (below_step qne0_ hb); have n1_ := Aside0.mk (hbox); have n2_ := Aside0.mk ((by rw [hg]; exact (below_size qne0_) : w.heap.size ≤ gb714)); have n3_ := Aside0.mk ((by rw [hg]; exact (below_size qne0_) : w.heap.size ≤ gb714)); clear HB; have HB := n0_; have BK714 := n1_; have GW714 := n2_; have GE714 := n3_; clear n0_ n1_ n2_ n3_; clear hb hbox hg; have hcz19_0 : w18.cell? ⟨gb714, 0, none⟩ = some (.int .u8 0) := (blk_cell BK714.out 0).trans rfl; have hcz19_1 : w18.cell? ⟨gb714, 1, none⟩ = some (.bool false) := (blk_cell BK714.out 1).trans rfl; have hcz19_2 : w18.cell? ⟨gb714, 2, none⟩ = some (.string (⟨#[]⟩ : ByteArray)) := (blk_cell BK714.out 2).trans rfl; have hcz19_3 : w18.cell? ⟨gb714, 3, none⟩ = some (.int .i64 0) := (blk_cell BK714.out 3).trans rfl; have hcz19_4 : w18.cell? ⟨gb714, 4, none⟩ = some (.int .i64 0) := (blk_cell BK714.out 4).trans rfl; have hfz19_0 := blk_frozen BK714.out 0; have hfz19_1 := blk_frozen BK714.out 1; have hfz19_2 := blk_frozen BK714.out 2; have hfz19_3 := blk_frozen BK714.out 3; have hfz19_4 := blk_frozen BK714.out 4) | (have ztk24 := tk24; clear tk24 ztk24; (with_reducible refine gate_callee (f := 54) rfl ?_); refine goesL_ (some 31) rfl rfl Tryd.func54 (by kernel_rfl) rfl #[.bool t710, .string t711, .int .i64 t712, .int .i64 0] rfl qne1_ ?_; (with_reducible refine (numeral_sizeOf.calls t710 t711 t712 0 t715 t716 t717 t718 _ A15.out).mono ?_); rintro e w20 ⟨rfl, hb⟩; refine ⟨_, rfl, ?_⟩; have n0_ := Aside0.mk (blk_below (g := gb714) (o := .cells #[.int .u8 t709, .bool t710, .string t711, .int .i64 t712, .int .i64 t713] 29 (0, 0)) qne9_ hb); have n1_ := Aside0.mk (below_step qne17_ hb); clear BK714; clear HB; have BK714 := n0_; have HB := n1_; clear n0_ n1_; (try clear hb); (try clear hb2); (try clear hk); (try clear hi)) | (have ztk25 := tk25; clear tk25 ztk25; (with_reducible refine gate_callee (f := 61) rfl ?_); refine goesL_ (some 32) rfl rfl Tryd.func61 (by kernel_rfl) rfl #[.agg #[.int .i64 t715, .int .i64 t716, .int .i64 t717, .string t718], .bool false] rfl qne1_ ?_; (with_reducible refine (numeral_number.calls kj2 t715 t716 t717 t718 false t719 _ A16.out).mono ?_); rintro e w21 ⟨rfl, hb⟩; refine ⟨_, rfl, ?_⟩; have n0_ := Aside0.mk (blk_below (g := gb714) (o := .cells #[.int .u8 t709, .bool t710, .string t711, .int .i64 t712, .int .i64 t713] 29 (0, 0)) (by (with_reducible repeat (first | refine blk_drewN ?_ _ | refine blk_drew ?_ | refine blk_alloc ?_ _)); exact BK714.out) hb); have n1_ := Aside0.mk (below_step qne17_ hb); clear BK714; clear HB; have BK714 := n0_; have HB := n1_; clear n0_ n1_; (try clear hb); (try clear hb2); (try clear hk); (try clear hi)))
      go_ret
      exact ⟨qne5_, qne17_⟩
     ·
      rw [if_neg c14] at H
      have c14b0 : (t709 == 3) = false := beq_eq_false_iff_ne.mpr c14
      have c14b1 : (t709 != 3) = true := bne_iff_ne.mpr c14
      by_cases c26 : t709 = 0
      ·
       rw [if_pos c26] at H
       have c26b0 : (t709 == 0) = true := beq_iff_eq.mpr c26
       have c26b1 : (t709 != 0) = false := bne_eq_false_iff_eq.mpr c26
       clear c26
       have ix720 : ∀ W_ : World, (Instr.index 86 (.agg #[.int .u8 16, .int .u8 32, .int .u8 48, .int .u8 0, .int .u8 112]) (.int .u8 t709)).run Tryd.prog W_ = .ok (.int .u8 16) W_ := by rw [show t709 = 0 from beq_iff_eq.mp qne3_]; exact fun _ => by kernel_rfl
       obtain ⟨y721, hy721⟩ : ∃ y_ : List Int, y_ = (([16] : List Int)) := ⟨_, rfl⟩
       replace H : (some (strOfNums y721)) = some r := by first | (rw [hy721]; with_reducible exact H) | (have H2_ := (Option.bind_some _ _).symm.trans H; rw [hy721]; with_reducible exact H2_) | (have H2_ := (Option.bind_some _ _).symm.trans H; with_reducible exact H2_) | with_reducible exact H | (rw [hy721]; exact H) | exact H
       have Ny721 := Aside0.mk hy721
       clear hy721
       obtain rfl := Option.some.inj H
       have tk33 : True := trivial; have tk34 : True := trivial; have tk35 : True := trivial
       go_wp2_with (first | (have ztk33 := tk33; clear tk33 ztk33; (with_reducible refine gate_callee (f := 17) rfl ?_); refine goesL_ (some 21) rfl rfl Tryd.func17 (by kernel_rfl) rfl #[.string a1] rfl qne1_ ?_; (with_reducible refine (numeral_General.calls kj2 a1 t709 t710 t711 t712 t713 _ A13.out).mono ?_); rintro e w27 ⟨rfl, hb⟩; refine ⟨_, rfl, ?_⟩; have n0_ := Aside0.mk (below_step qne0_ hb); clear HB; have HB := n0_; clear n0_; (try clear hb); (try clear hb2); (try clear hk); (try clear hi)) | (have ztk34 := tk34; clear tk34 ztk34; (with_reducible refine gate_dst (N := 5) rfl ?_); refine box_event ?hg (N := 5) ?hd (cs := #[.int .u8 0, .bool false, .string (⟨#[]⟩ : ByteArray), .int .i64 0, .int .i64 0]) (t := 29) ?hr ?_; (case hd => rfl); (case hg => rfl); (case hr => first | (go_simp; done) | (go_simp; rfl)); intro gb714 hg w28 hbox hb; have n0_ := Aside0.mk (below_step qne0_ hb); have n1_ := Aside0.mk (hbox); have n2_ := Aside0.mk ((by rw [hg]; exact (below_size qne0_) : w.heap.size ≤ gb714)); have n3_ := Aside0.mk ((by rw [hg]; exact (below_size qne0_) : w.heap.size ≤ gb714)); clear HB; have HB := n0_; have BK714 := n1_; have GW714 := n2_; have GE714 := n3_; clear n0_ n1_ n2_ n3_; clear hb hbox hg; have hcz29_0 : w28.cell? ⟨gb714, 0, none⟩ = some (.int .u8 0) := (blk_cell BK714.out 0).trans rfl; have hcz29_1 : w28.cell? ⟨gb714, 1, none⟩ = some (.bool false) := (blk_cell BK714.out 1).trans rfl; have hcz29_2 : w28.cell? ⟨gb714, 2, none⟩ = some (.string (⟨#[]⟩ : ByteArray)) := (blk_cell BK714.out 2).trans rfl; have hcz29_3 : w28.cell? ⟨gb714, 3, none⟩ = some (.int .i64 0) := (blk_cell BK714.out 3).trans rfl; have hcz29_4 : w28.cell? ⟨gb714, 4, none⟩ = some (.int .i64 0) := (blk_cell BK714.out 4).trans rfl; have hfz29_0 := blk_frozen BK714.out 0; have hfz29_1 := blk_frozen BK714.out 1; have hfz29_2 := blk_frozen BK714.out 2; have hfz29_3 := blk_frozen BK714.out 3; have hfz29_4 := blk_frozen BK714.out 4) | (have ztk35 := tk35; clear tk35 ztk35; (with_reducible refine gate_dst (N := 37) rfl ?_); refine Kd.R_lit (Kd.int .u8) _ 5 ?hg (N := 37) ?hd (xs := ([16] : List Int)) (inner := [.int .u8 16]) (ok := fun _ => True) (okp := fun _ => True) ?hr ?hp (fun _ hk => hk) trivial (Below.refl _ _) (Nat.le_refl _) (by simp) ?_; (case hd => rfl); (case hg => rfl); (case hr => first | (go_simp; done) | (go_simp; rfl)); (case hp => exact (Reps.one (show Kd.M (Kd.int .u8) _ _ _ 16 [.int .u8 16] from rfl) (Reps.none _ _))); intro v722 w30 ho31 hb hg_ hnew_; clear hg_ hnew_; (first | rw [← Ny721.out] at ho31 | (simp only [Int.reduceToNat] at ho31; rw [← Ny721.out] at ho31)); have n0_ := Aside0.mk (Kd.R_lower ho31 (below_size qne17_)); have n1_ := Aside0.mk (blk_below (g := gb714) (o := .cells #[.int .u8 t709, .bool t710, .string t711, .int .i64 t712, .int .i64 t713] 29 (0, 0)) qne9_ hb); have n2_ := Aside0.mk (below_step qne17_ hb); clear BK714; clear HB; have HO723 := n0_; have BK714 := n1_; have HB := n2_; clear n0_ n1_ n2_; clear hb ho31; have hcv32 := own_string (P := Tryd.prog) Tryd.underlying23 Tryd.underlying5 Tryd.underlying9 (Kd.own_of_R HO723.out)))
       go_ret
       exact ⟨qne5_, qne17_⟩
      ·
       rw [if_neg c26] at H
       have c26b0 : (t709 == 0) = false := beq_eq_false_iff_ne.mpr c26
       have c26b1 : (t709 != 0) = true := bne_iff_ne.mpr c26
       by_cases c36 : t709 = 1
       ·
        rw [if_pos c36] at H
        have c36b0 : (t709 == 1) = true := beq_iff_eq.mpr c36
        have c36b1 : (t709 != 1) = false := bne_eq_false_iff_eq.mpr c36
        clear c36
        have ix724 : ∀ W_ : World, (Instr.index 86 (.agg #[.int .u8 16, .int .u8 32, .int .u8 48, .int .u8 0, .int .u8 112]) (.int .u8 t709)).run Tryd.prog W_ = .ok (.int .u8 32) W_ := by rw [show t709 = 1 from beq_iff_eq.mp qne3_]; exact fun _ => by kernel_rfl
        obtain ⟨y725, hy725⟩ : ∃ y_ : List Int, y_ = (([32] : List Int)) := ⟨_, rfl⟩
        replace H : (some (strOfNums y725)) = some r := by first | (rw [hy725]; with_reducible exact H) | (have H2_ := (Option.bind_some _ _).symm.trans H; rw [hy725]; with_reducible exact H2_) | (have H2_ := (Option.bind_some _ _).symm.trans H; with_reducible exact H2_) | with_reducible exact H | (rw [hy725]; exact H) | exact H
        have Ny725 := Aside0.mk hy725
        clear hy725
        obtain rfl := Option.some.inj H
        have tk43 : True := trivial; have tk44 : True := trivial; have tk45 : True := trivial
        go_wp2_with (first | (have ztk43 := tk43; clear tk43 ztk43; (with_reducible refine gate_callee (f := 17) rfl ?_); refine goesL_ (some 21) rfl rfl Tryd.func17 (by kernel_rfl) rfl #[.string a1] rfl qne1_ ?_; (with_reducible refine (numeral_General.calls kj2 a1 t709 t710 t711 t712 t713 _ A13.out).mono ?_); rintro e w37 ⟨rfl, hb⟩; refine ⟨_, rfl, ?_⟩; have n0_ := Aside0.mk (below_step qne0_ hb); clear HB; have HB := n0_; clear n0_; (try clear hb); (try clear hb2); (try clear hk); (try clear hi)) | (have ztk44 := tk44; clear tk44 ztk44; (with_reducible refine gate_dst (N := 5) rfl ?_); refine box_event ?hg (N := 5) ?hd (cs := #[.int .u8 0, .bool false, .string (⟨#[]⟩ : ByteArray), .int .i64 0, .int .i64 0]) (t := 29) ?hr ?_; (case hd => rfl); (case hg => rfl); (case hr => first | (go_simp; done) | (go_simp; rfl)); intro gb714 hg w38 hbox hb; have n0_ := Aside0.mk (below_step qne0_ hb); have n1_ := Aside0.mk (hbox); have n2_ := Aside0.mk ((by rw [hg]; exact (below_size qne0_) : w.heap.size ≤ gb714)); have n3_ := Aside0.mk ((by rw [hg]; exact (below_size qne0_) : w.heap.size ≤ gb714)); clear HB; have HB := n0_; have BK714 := n1_; have GW714 := n2_; have GE714 := n3_; clear n0_ n1_ n2_ n3_; clear hb hbox hg; have hcz39_0 : w38.cell? ⟨gb714, 0, none⟩ = some (.int .u8 0) := (blk_cell BK714.out 0).trans rfl; have hcz39_1 : w38.cell? ⟨gb714, 1, none⟩ = some (.bool false) := (blk_cell BK714.out 1).trans rfl; have hcz39_2 : w38.cell? ⟨gb714, 2, none⟩ = some (.string (⟨#[]⟩ : ByteArray)) := (blk_cell BK714.out 2).trans rfl; have hcz39_3 : w38.cell? ⟨gb714, 3, none⟩ = some (.int .i64 0) := (blk_cell BK714.out 3).trans rfl; have hcz39_4 : w38.cell? ⟨gb714, 4, none⟩ = some (.int .i64 0) := (blk_cell BK714.out 4).trans rfl; have hfz39_0 := blk_frozen BK714.out 0; have hfz39_1 := blk_frozen BK714.out 1; have hfz39_2 := blk_frozen BK714.out 2; have hfz39_3 := blk_frozen BK714.out 3; have hfz39_4 := blk_frozen BK714.out 4) | (have ztk45 := tk45; clear tk45 ztk45; (with_reducible refine gate_dst (N := 37) rfl ?_); refine Kd.R_lit (Kd.int .u8) _ 5 ?hg (N := 37) ?hd (xs := ([32] : List Int)) (inner := [.int .u8 32]) (ok := fun _ => True) (okp := fun _ => True) ?hr ?hp (fun _ hk => hk) trivial (Below.refl _ _) (Nat.le_refl _) (by simp) ?_; (case hd => rfl); (case hg => rfl); (case hr => first | (go_simp; done) | (go_simp; rfl)); (case hp => exact (Reps.one (show Kd.M (Kd.int .u8) _ _ _ 32 [.int .u8 32] from rfl) (Reps.none _ _))); intro v726 w40 ho41 hb hg_ hnew_; clear hg_ hnew_; (first | rw [← Ny725.out] at ho41 | (simp only [Int.reduceToNat] at ho41; rw [← Ny725.out] at ho41)); have n0_ := Aside0.mk (Kd.R_lower ho41 (below_size qne17_)); have n1_ := Aside0.mk (blk_below (g := gb714) (o := .cells #[.int .u8 t709, .bool t710, .string t711, .int .i64 t712, .int .i64 t713] 29 (0, 0)) qne9_ hb); have n2_ := Aside0.mk (below_step qne17_ hb); clear BK714; clear HB; have HO727 := n0_; have BK714 := n1_; have HB := n2_; clear n0_ n1_ n2_; clear hb ho41; have hcv42 := own_string (P := Tryd.prog) Tryd.underlying23 Tryd.underlying5 Tryd.underlying9 (Kd.own_of_R HO727.out)))
        go_ret
        exact ⟨qne5_, qne17_⟩
       ·
        rw [if_neg c36] at H
        have c36b0 : (t709 == 1) = false := beq_eq_false_iff_ne.mpr c36
        have c36b1 : (t709 != 1) = true := bne_iff_ne.mpr c36
        by_cases c46 : t709 = 2
        ·
         rw [if_pos c46] at H
         have c46b0 : (t709 == 2) = true := beq_iff_eq.mpr c46
         have c46b1 : (t709 != 2) = false := bne_eq_false_iff_eq.mpr c46
         clear c46
         have ix728 : ∀ W_ : World, (Instr.index 86 (.agg #[.int .u8 16, .int .u8 32, .int .u8 48, .int .u8 0, .int .u8 112]) (.int .u8 t709)).run Tryd.prog W_ = .ok (.int .u8 48) W_ := by rw [show t709 = 2 from beq_iff_eq.mp qne3_]; exact fun _ => by kernel_rfl
         obtain ⟨y729, hy729⟩ : ∃ y_ : List Int, y_ = (([48] : List Int)) := ⟨_, rfl⟩
         replace H : (some (strOfNums y729)) = some r := by first | (rw [hy729]; with_reducible exact H) | (have H2_ := (Option.bind_some _ _).symm.trans H; rw [hy729]; with_reducible exact H2_) | (have H2_ := (Option.bind_some _ _).symm.trans H; with_reducible exact H2_) | with_reducible exact H | (rw [hy729]; exact H) | exact H
         have Ny729 := Aside0.mk hy729
         clear hy729
         obtain rfl := Option.some.inj H
         have tk53 : True := trivial; have tk54 : True := trivial; have tk55 : True := trivial
         go_wp2_with (first | (have ztk53 := tk53; clear tk53 ztk53; (with_reducible refine gate_callee (f := 17) rfl ?_); refine goesL_ (some 21) rfl rfl Tryd.func17 (by kernel_rfl) rfl #[.string a1] rfl qne1_ ?_; (with_reducible refine (numeral_General.calls kj2 a1 t709 t710 t711 t712 t713 _ A13.out).mono ?_); rintro e w47 ⟨rfl, hb⟩; refine ⟨_, rfl, ?_⟩; have n0_ := Aside0.mk (below_step qne0_ hb); clear HB; have HB := n0_; clear n0_; (try clear hb); (try clear hb2); (try clear hk); (try clear hi)) | (have ztk54 := tk54; clear tk54 ztk54; (with_reducible refine gate_dst (N := 5) rfl ?_); refine box_event ?hg (N := 5) ?hd (cs := #[.int .u8 0, .bool false, .string (⟨#[]⟩ : ByteArray), .int .i64 0, .int .i64 0]) (t := 29) ?hr ?_; (case hd => rfl); (case hg => rfl); (case hr => first | (go_simp; done) | (go_simp; rfl)); intro gb714 hg w48 hbox hb; have n0_ := Aside0.mk (below_step qne0_ hb); have n1_ := Aside0.mk (hbox); have n2_ := Aside0.mk ((by rw [hg]; exact (below_size qne0_) : w.heap.size ≤ gb714)); have n3_ := Aside0.mk ((by rw [hg]; exact (below_size qne0_) : w.heap.size ≤ gb714)); clear HB; have HB := n0_; have BK714 := n1_; have GW714 := n2_; have GE714 := n3_; clear n0_ n1_ n2_ n3_; clear hb hbox hg; have hcz49_0 : w48.cell? ⟨gb714, 0, none⟩ = some (.int .u8 0) := (blk_cell BK714.out 0).trans rfl; have hcz49_1 : w48.cell? ⟨gb714, 1, none⟩ = some (.bool false) := (blk_cell BK714.out 1).trans rfl; have hcz49_2 : w48.cell? ⟨gb714, 2, none⟩ = some (.string (⟨#[]⟩ : ByteArray)) := (blk_cell BK714.out 2).trans rfl; have hcz49_3 : w48.cell? ⟨gb714, 3, none⟩ = some (.int .i64 0) := (blk_cell BK714.out 3).trans rfl; have hcz49_4 : w48.cell? ⟨gb714, 4, none⟩ = some (.int .i64 0) := (blk_cell BK714.out 4).trans rfl; have hfz49_0 := blk_frozen BK714.out 0; have hfz49_1 := blk_frozen BK714.out 1; have hfz49_2 := blk_frozen BK714.out 2; have hfz49_3 := blk_frozen BK714.out 3; have hfz49_4 := blk_frozen BK714.out 4) | (have ztk55 := tk55; clear tk55 ztk55; (with_reducible refine gate_dst (N := 37) rfl ?_); refine Kd.R_lit (Kd.int .u8) _ 5 ?hg (N := 37) ?hd (xs := ([48] : List Int)) (inner := [.int .u8 48]) (ok := fun _ => True) (okp := fun _ => True) ?hr ?hp (fun _ hk => hk) trivial (Below.refl _ _) (Nat.le_refl _) (by simp) ?_; (case hd => rfl); (case hg => rfl); (case hr => first | (go_simp; done) | (go_simp; rfl)); (case hp => exact (Reps.one (show Kd.M (Kd.int .u8) _ _ _ 48 [.int .u8 48] from rfl) (Reps.none _ _))); intro v730 w50 ho51 hb hg_ hnew_; clear hg_ hnew_; (first | rw [← Ny729.out] at ho51 | (simp only [Int.reduceToNat] at ho51; rw [← Ny729.out] at ho51)); have n0_ := Aside0.mk (Kd.R_lower ho51 (below_size qne17_)); have n1_ := Aside0.mk (blk_below (g := gb714) (o := .cells #[.int .u8 t709, .bool t710, .string t711, .int .i64 t712, .int .i64 t713] 29 (0, 0)) qne9_ hb); have n2_ := Aside0.mk (below_step qne17_ hb); clear BK714; clear HB; have HO731 := n0_; have BK714 := n1_; have HB := n2_; clear n0_ n1_ n2_; clear hb ho51; have hcv52 := own_string (P := Tryd.prog) Tryd.underlying23 Tryd.underlying5 Tryd.underlying9 (Kd.own_of_R HO731.out)))
         go_ret
         exact ⟨qne5_, qne17_⟩
        ·
         rw [if_neg c46] at H
         have c46b0 : (t709 == 2) = false := beq_eq_false_iff_ne.mpr c46
         have c46b1 : (t709 != 2) = true := bne_iff_ne.mpr c46
         by_cases c56 : t709 = 4
         ·
          rw [if_pos c56] at H
          have c56b0 : (t709 == 4) = true := beq_iff_eq.mpr c56
          have c56b1 : (t709 != 4) = false := bne_eq_false_iff_eq.mpr c56
          clear c56
          have ix732 : ∀ W_ : World, (Instr.index 86 (.agg #[.int .u8 16, .int .u8 32, .int .u8 48, .int .u8 0, .int .u8 112]) (.int .u8 t709)).run Tryd.prog W_ = .ok (.int .u8 112) W_ := by rw [show t709 = 4 from beq_iff_eq.mp qne3_]; exact fun _ => by kernel_rfl
          obtain ⟨y733, hy733⟩ : ∃ y_ : List Int, y_ = (([112] : List Int)) := ⟨_, rfl⟩
          replace H : (some (strOfNums y733)) = some r := by first | (rw [hy733]; with_reducible exact H) | (have H2_ := (Option.bind_some _ _).symm.trans H; rw [hy733]; with_reducible exact H2_) | (have H2_ := (Option.bind_some _ _).symm.trans H; with_reducible exact H2_) | with_reducible exact H | (rw [hy733]; exact H) | exact H
          have Ny733 := Aside0.mk hy733
          clear hy733
          obtain rfl := Option.some.inj H
          have tk63 : True := trivial; have tk64 : True := trivial; have tk65 : True := trivial
          go_wp2_with (first | (have ztk63 := tk63; clear tk63 ztk63; (with_reducible refine gate_callee (f := 17) rfl ?_); refine goesL_ (some 21) rfl rfl Tryd.func17 (by kernel_rfl) rfl #[.string a1] rfl qne1_ ?_; (with_reducible refine (numeral_General.calls kj2 a1 t709 t710 t711 t712 t713 _ A13.out).mono ?_); rintro e w57 ⟨rfl, hb⟩; refine ⟨_, rfl, ?_⟩; have n0_ := Aside0.mk (below_step qne0_ hb); clear HB; have HB := n0_; clear n0_; (try clear hb); (try clear hb2); (try clear hk); (try clear hi)) | (have ztk64 := tk64; clear tk64 ztk64; (with_reducible refine gate_dst (N := 5) rfl ?_); refine box_event ?hg (N := 5) ?hd (cs := #[.int .u8 0, .bool false, .string (⟨#[]⟩ : ByteArray), .int .i64 0, .int .i64 0]) (t := 29) ?hr ?_; (case hd => rfl); (case hg => rfl); (case hr => first | (go_simp; done) | (go_simp; rfl)); intro gb714 hg w58 hbox hb; have n0_ := Aside0.mk (below_step qne0_ hb); have n1_ := Aside0.mk (hbox); have n2_ := Aside0.mk ((by rw [hg]; exact (below_size qne0_) : w.heap.size ≤ gb714)); have n3_ := Aside0.mk ((by rw [hg]; exact (below_size qne0_) : w.heap.size ≤ gb714)); clear HB; have HB := n0_; have BK714 := n1_; have GW714 := n2_; have GE714 := n3_; clear n0_ n1_ n2_ n3_; clear hb hbox hg; have hcz59_0 : w58.cell? ⟨gb714, 0, none⟩ = some (.int .u8 0) := (blk_cell BK714.out 0).trans rfl; have hcz59_1 : w58.cell? ⟨gb714, 1, none⟩ = some (.bool false) := (blk_cell BK714.out 1).trans rfl; have hcz59_2 : w58.cell? ⟨gb714, 2, none⟩ = some (.string (⟨#[]⟩ : ByteArray)) := (blk_cell BK714.out 2).trans rfl; have hcz59_3 : w58.cell? ⟨gb714, 3, none⟩ = some (.int .i64 0) := (blk_cell BK714.out 3).trans rfl; have hcz59_4 : w58.cell? ⟨gb714, 4, none⟩ = some (.int .i64 0) := (blk_cell BK714.out 4).trans rfl; have hfz59_0 := blk_frozen BK714.out 0; have hfz59_1 := blk_frozen BK714.out 1; have hfz59_2 := blk_frozen BK714.out 2; have hfz59_3 := blk_frozen BK714.out 3; have hfz59_4 := blk_frozen BK714.out 4) | (have ztk65 := tk65; clear tk65 ztk65; (with_reducible refine gate_dst (N := 37) rfl ?_); refine Kd.R_lit (Kd.int .u8) _ 5 ?hg (N := 37) ?hd (xs := ([112] : List Int)) (inner := [.int .u8 112]) (ok := fun _ => True) (okp := fun _ => True) ?hr ?hp (fun _ hk => hk) trivial (Below.refl _ _) (Nat.le_refl _) (by simp) ?_; (case hd => rfl); (case hg => rfl); (case hr => first | (go_simp; done) | (go_simp; rfl)); (case hp => exact (Reps.one (show Kd.M (Kd.int .u8) _ _ _ 112 [.int .u8 112] from rfl) (Reps.none _ _))); intro v734 w60 ho61 hb hg_ hnew_; clear hg_ hnew_; (first | rw [← Ny733.out] at ho61 | (simp only [Int.reduceToNat] at ho61; rw [← Ny733.out] at ho61)); have n0_ := Aside0.mk (Kd.R_lower ho61 (below_size qne17_)); have n1_ := Aside0.mk (blk_below (g := gb714) (o := .cells #[.int .u8 t709, .bool t710, .string t711, .int .i64 t712, .int .i64 t713] 29 (0, 0)) qne9_ hb); have n2_ := Aside0.mk (below_step qne17_ hb); clear BK714; clear HB; have HO735 := n0_; have BK714 := n1_; have HB := n2_; clear n0_ n1_ n2_; clear hb ho61; have hcv62 := own_string (P := Tryd.prog) Tryd.underlying23 Tryd.underlying5 Tryd.underlying9 (Kd.own_of_R HO735.out)))
          go_ret
          exact ⟨qne5_, qne17_⟩
         ·
          rw [if_neg c56] at H
          exact absurd H (by simp)
    ·
     rw [if_neg c12] at H
     have c12b0 : (a0 == 32) = false := beq_eq_false_iff_ne.mpr c12
     have c12b1 : (a0 != 32) = true := bne_iff_ne.mpr c12
     by_cases c66 : a0 = 128
     ·
      rw [if_pos c66] at H
      have c66b0 : (a0 == 128) = true := beq_iff_eq.mpr c66
      have c66b1 : (a0 != 128) = false := bne_eq_false_iff_eq.mpr c66
      clear c66
      replace H := Option.bind_eq_some_iff.mp H
      obtain ⟨t736, A670, H⟩ := H
      replace H : (some (strOfNums (([(t736) % 256] : List Int)))) = some r := H
      have A67 := Aside0.mk A670
      clear A670
      obtain ⟨y737, hy737⟩ : ∃ y_ : List Int, y_ = (([(t736) % 256] : List Int)) := ⟨_, rfl⟩
      replace H : (some (strOfNums y737)) = some r := by first | (rw [hy737]; with_reducible exact H) | (have H2_ := (Option.bind_some _ _).symm.trans H; rw [hy737]; with_reducible exact H2_) | (have H2_ := (Option.bind_some _ _).symm.trans H; with_reducible exact H2_) | with_reducible exact H | (rw [hy737]; exact H) | exact H
      have Ny737 := Aside0.mk hy737
      clear hy737
      obtain rfl := Option.some.inj H
      have tk71 : True := trivial; have tk72 : True := trivial
      go_wp2_with (first | (have ztk71 := tk71; clear tk71 ztk71; (with_reducible refine gate_callee (f := 23) rfl ?_); refine goesL_ (some 42) rfl rfl Tryd.func23 (by kernel_rfl) rfl #[.string a1] rfl qne1_ ?_; (with_reducible refine (numeral_Month.calls kj2 a1 t736 _ ?side1 A67.out).mono ?_); (case side1 => exact GOK.below HGL.out qne0_); rintro e w' ⟨rfl, ⟨nd, rfl⟩⟩; refine ⟨_, rfl, ?_⟩) | (have ztk72 := tk72; clear tk72 ztk72; (with_reducible refine gate_dst (N := 44) rfl ?_); refine Kd.R_lit (Kd.int .u8) _ 5 ?hg (N := 44) ?hd (xs := ([(t736) % 256] : List Int)) (inner := [.int .u8 ((t736) % 256)]) (ok := fun _ => True) (okp := fun _ => True) ?hr ?hp (fun _ hk => hk) trivial (Below.refl _ _) (Nat.le_refl _) (by simp) ?_; (case hd => rfl); (case hg => rfl); (case hr => first | (go_simp; done) | (go_simp; rfl)); (case hp => exact (Reps.one (show Kd.M (Kd.int .u8) _ _ _ ((t736) % 256) [.int .u8 ((t736) % 256)] from rfl) (Reps.none _ _))); intro v738 w68 ho69 hb hg_ hnew_; clear hg_ hnew_; (first | rw [← Ny737.out] at ho69 | (simp only [Int.reduceToNat] at ho69; rw [← Ny737.out] at ho69)); have n0_ := Aside0.mk (Kd.R_lower ho69 (below_size qne0_)); have n1_ := Aside0.mk (below_step qne0_ hb); clear HB; have HO739 := n0_; have HB := n1_; clear n0_ n1_; clear hb ho69; have hcv70 := own_string (P := Tryd.prog) Tryd.underlying23 Tryd.underlying5 Tryd.underlying9 (Kd.own_of_R HO739.out)))
      go_ret
      exact ⟨qne5_, qne0_⟩
     ·
      rw [if_neg c66] at H
      have c66b0 : (a0 == 128) = false := beq_eq_false_iff_ne.mpr c66
      have c66b1 : (a0 != 128) = true := bne_iff_ne.mpr c66
      by_cases c73 : a0 = 256
      ·
       rw [if_pos c73] at H
       have c73b0 : (a0 == 256) = true := beq_iff_eq.mpr c73
       have c73b1 : (a0 != 256) = false := bne_eq_false_iff_eq.mpr c73
       clear c73
       replace H := Option.bind_eq_some_iff.mp H
       obtain ⟨t740, A740, H⟩ := H
       replace H : (some t740) = some r := H
       have A74 := Aside0.mk A740
       clear A740
       obtain rfl := Option.some.inj H
       go_wp2_with (first | ((with_reducible refine gate_callee (f := 62) rfl ?_); refine goesL_ (some 49) rfl rfl Tryd.func62 (by kernel_rfl) rfl #[.string a1] rfl qne1_ ?_; (with_reducible refine (numeral_version.calls kj2 a1 t740 _ ?side1 A74.out).mono ?_); (case side1 => exact GOK.below HGL.out qne0_); rintro e w75 ⟨rfl, hb⟩; refine ⟨_, rfl, ?_⟩; have n0_ := Aside0.mk (below_step qne0_ hb); clear HB; have HB := n0_; clear n0_; (try clear hb); (try clear hb2); (try clear hk); (try clear hi)))
       go_ret
       exact ⟨qne5_, qne0_⟩
      ·
       rw [if_neg c73] at H
       have c73b0 : (a0 == 256) = false := beq_eq_false_iff_ne.mpr c73
       have c73b1 : (a0 != 256) = true := bne_iff_ne.mpr c73
       have H' := Aside0.mk H
       clear H
       go_wp2
       go_loopg [6, 52] kj2 (fun kq v6 v52 w' => ∃ (x6_2 : List Int) (x52_2 : Int), v52 = .int .i64 x52_2 ∧ Aside0 (numeral_Embed.l0 kq a1 x6_2 (a1.size : Int) x52_2 = some r) ∧ Aside0 (kq ≤ kj2) ∧ Aside0 (Kd.R (Kd.int .u8) 5 w' w.heap.size (fun _ => True) v6 x6_2) ∧ Aside0 (Below w.heap.size w w'))
       case atStart => exact ⟨(([] : List Int)), (0), qne2_, H', ⟨Nat.le_refl _⟩, ⟨qne55_⟩, ⟨qne0_⟩⟩
       case round =>
        clear H'
        (try clear c1); (try clear c2); (try clear p2); (try clear c3); (try clear hcv3); (try clear c4); (try clear c4b0); (try clear c4b1); (try clear hcv4); (try clear c5); (try clear hcv5); (try clear c6); (try clear hcv6); (try clear c7); (try clear hcv7); (try clear c12); (try clear c12b0); (try clear c12b1); (try clear c14); (try clear c14b0); (try clear c14b1); (try clear c17); (try clear c23)
        (try clear c26); (try clear c26b0); (try clear c26b1); (try clear c29); (try clear hcv32); (try clear c36); (try clear c36b0); (try clear c36b1); (try clear hcv42); (try clear c46); (try clear c46b0); (try clear c46b1); (try clear c50); (try clear hcv52); (try clear c54); (try clear c56); (try clear c56b0); (try clear c56b1); (try clear c61); (try clear c62); (try clear hcv62); (try clear c66)
        (try clear c66b0); (try clear c66b1); (try clear hcv70); (try clear c73); (try clear c73b0); (try clear c73b1); (try clear hcz19_0); (try clear hcz19_1); (try clear hcz19_2); (try clear hcz19_3); (try clear hcz19_4); (try clear hcz29_0); (try clear hcz29_1); (try clear hcz29_2); (try clear hcz29_3); (try clear hcz29_4); (try clear hcz39_0); (try clear hcz39_1); (try clear hcz39_2); (try clear hcz39_3)
        (try clear hcz39_4); (try clear hcz49_0); (try clear hcz49_1); (try clear hcz49_2); (try clear hcz49_3); (try clear hcz49_4); (try clear hcz59_0); (try clear hcz59_1); (try clear hcz59_2); (try clear hcz59_3); (try clear hcz59_4); (try clear hfz19_0); (try clear hfz19_1); (try clear hfz19_2); (try clear hfz19_3); (try clear hfz19_4); (try clear hfz29_0); (try clear hfz29_1); (try clear hfz29_2)
        (try clear hfz29_3); (try clear hfz29_4); (try clear hfz39_0); (try clear hfz39_1); (try clear hfz39_2); (try clear hfz39_3); (try clear hfz39_4); (try clear hfz49_0); (try clear hfz49_1); (try clear hfz49_2); (try clear hfz49_3); (try clear hfz49_4); (try clear hfz59_0); (try clear hfz59_1); (try clear hfz59_2); (try clear hfz59_3); (try clear hfz59_4); (try clear p2)
        obtain ⟨x6_2, x52_2, rfl, HA, HK2, HO_6, HB⟩ := hrel
        cases gk with
        | zero => exact absurd HA.out (by simp [numeral_Embed.l0])
        | succ k2 =>
         have H := HA.out
         clear HA
         simp only [numeral_Embed.l0] at H
         by_cases c76 : x52_2 < (a1.size : Int)
         ·
          rw [if_pos c76] at H
          have c76b0 : decide (x52_2 < (a1.size : Int)) = true := decide_eq_true c76
          clear c76
          by_cases c77 : 0 ≤ x52_2
          ·
           rw [if_pos c77] at H
           have c77b0 : decide (0 ≤ x52_2) = true := decide_eq_true c77
           clear c77
           by_cases c78 : x52_2 < (a1.size : Int)
           ·
            rw [if_pos c78] at H
            have c78b0 : decide (x52_2 < (a1.size : Int)) = true := decide_eq_true c78
            clear c78
            have HC80 := Aside0.mk H
            clear H
            have p79 : 0 ≤ (x52_2 : Int) := of_decide_eq_true qne3_
            have q79 : x52_2 < (a1.size : Int) := of_decide_eq_true qne3_
            have hx79 := bt_at a1 x52_2
            replace p79 := eq_true p79
            replace q79 := eq_true q79
            go_upto_if 58 with (fail)
            go_cut [6] (fun v6 wc => ∃ (kq : Nat) (x6_79 : List Int), Aside0 (numeral_Embed.j2 kq a1 x6_79 x52_2 (a1.size : Int) x52_2 = some r) ∧ Aside0 (kq ≤ k2) ∧ Aside0 (Kd.R (Kd.int .u8) 5 wc w.heap.size (fun _ => True) v6 x6_79) ∧ Aside0 (Below w.heap.size w wc))
            case first =>
             have H := HC80.out
             clear HC80
             by_cases c81 : (bt a1 x52_2) < 2
             ·
              rw [if_pos c81] at H
              have c81b0 : decide ((bt a1 x52_2) < 2) = true := decide_eq_true c81
              clear c81
              (first | rw [c81b0] | (simp only [i64_w, i32_w]; rw [c81b0]) | skip)
              by_cases c82 : x6_2.length < 140737488355328
              ·
               rw [if_pos c82] at H
               have LMc82 := Aside0.mk c82
               clear c82
               obtain ⟨y744, hy744⟩ : ∃ y_ : List Int, y_ = (x6_2 ++ [1]) := ⟨_, rfl⟩
               replace H : (numeral_Embed.j2 k2 a1 y744 x52_2 (a1.size : Int) x52_2) = some r := by first | (rw [hy744]; with_reducible exact H) | (have H2_ := (Option.bind_some _ _).symm.trans H; rw [hy744]; with_reducible exact H2_) | (have H2_ := (Option.bind_some _ _).symm.trans H; with_reducible exact H2_) | with_reducible exact H | (rw [hy744]; exact H) | exact H
               have Ny744 := Aside0.mk hy744
               clear hy744
               have H' := Aside0.mk H
               clear H
               go_wp2_with (first | ((with_reducible refine gate_builtin (b := .append) (xs := #[.tmp 59, .tmp 60]) rfl ?_); at_builtin; refine Kd.R_append (Kd.int .u8) (w0 := w) w.heap.size rfl (.tmp 59) (.tmp 60) 23 5 (.int .u8 0) 1 rfl Tryd.underlying23 info5 rfl (by decide) (by omega) u6 x6_2 1 [.int .u8 1] (fun _ => True) (fun _ => False) rfl rfl ?aP (fun _ hk => hk.elim) ?aF ?aO ?aB ?aS ?aL ?_; (case aP => exact rfl); (case aB => exact qne0_); (case aF => exact (fun _ _ => trivial)); (case aO => exact qne45_); (case aS => exact (below_size qne0_)); (case aL => have := LMc82.out; omega); intro v745 w83 ho hb hg hat; rw [← Ny744.out] at ho; have n0_ := Aside0.mk (hb); have n1_ := Aside0.mk (ho); clear HB; clear HO_6; have HB := n0_; have HO746 := n1_; clear n0_ n1_; clear ho hb hg hat))
               go_meet
               case rel => exact ⟨_, (y744), H', ⟨by have := HJ2.out; have := HK2.out; first | omega | exact Nat.le_refl _⟩, ⟨by (with_reducible repeat (first | apply Kd.R_alloc | apply Kd.R_drewN | apply Kd.R_drew)); exact HO746.out⟩, ⟨qne0_⟩⟩
              ·
               rw [if_neg c82] at H
               exact absurd H (by simp)
             ·
              rw [if_neg c81] at H
              have c81b0 : decide ((bt a1 x52_2) < 2) = false := decide_eq_false c81
              clear c81
              (first | rw [c81b0] | (simp only [i64_w, i32_w]; rw [c81b0]) | skip)
              have H' := Aside0.mk H
              clear H
              go_wp2
              go_meet
              case rel => exact ⟨_, (x6_2), H', ⟨by have := HJ2.out; have := HK2.out; first | omega | exact Nat.le_refl _⟩, ⟨qne45_⟩, ⟨qne0_⟩⟩
            case rest =>
             clear HC80
             (try clear c1); (try clear c2); (try clear p2); (try clear c3); (try clear hcv3); (try clear c4); (try clear c4b0); (try clear c4b1); (try clear hcv4); (try clear c5); (try clear hcv5); (try clear c6); (try clear hcv6); (try clear c7); (try clear p7); (try clear q7); (try clear hx7); (try clear hcv7); (try clear c8); (try clear c12); (try clear c12b0); (try clear c12b1); (try clear c14)
             (try clear c14b0); (try clear c14b1); (try clear c17); (try clear c23); (try clear c26); (try clear c26b0); (try clear c26b1); (try clear c29); (try clear hcv32); (try clear c36); (try clear c36b0); (try clear c36b1); (try clear hcv42); (try clear c46); (try clear c46b0); (try clear c46b1); (try clear c50); (try clear hcv52); (try clear c54); (try clear c56); (try clear c56b0); (try clear c56b1)
             (try clear c61); (try clear c62); (try clear hcv62); (try clear c66); (try clear c66b0); (try clear c66b1); (try clear hcv70); (try clear c73); (try clear c73b0); (try clear c73b1); (try clear c76); (try clear c76b0); (try clear c77); (try clear c77b0); (try clear c78); (try clear c78b0); (try clear p79); (try clear q79); (try clear hx79); (try clear c81); (try clear c81b0); (try clear c82)
             (try clear hcz19_0); (try clear hcz19_1); (try clear hcz19_2); (try clear hcz19_3); (try clear hcz19_4); (try clear hcz29_0); (try clear hcz29_1); (try clear hcz29_2); (try clear hcz29_3); (try clear hcz29_4); (try clear hcz39_0); (try clear hcz39_1); (try clear hcz39_2); (try clear hcz39_3); (try clear hcz39_4); (try clear hcz49_0); (try clear hcz49_1); (try clear hcz49_2); (try clear hcz49_3)
             (try clear hcz49_4); (try clear hcz59_0); (try clear hcz59_1); (try clear hcz59_2); (try clear hcz59_3); (try clear hcz59_4); (try clear hfz19_0); (try clear hfz19_1); (try clear hfz19_2); (try clear hfz19_3); (try clear hfz19_4); (try clear hfz29_0); (try clear hfz29_1); (try clear hfz29_2); (try clear hfz29_3); (try clear hfz29_4); (try clear hfz39_0); (try clear hfz39_1); (try clear hfz39_2)
             (try clear hfz39_3); (try clear hfz39_4); (try clear hfz49_0); (try clear hfz49_1); (try clear hfz49_2); (try clear hfz49_3); (try clear hfz49_4); (try clear hfz59_0); (try clear hfz59_1); (try clear hfz59_2); (try clear hfz59_3); (try clear hfz59_4); (try clear p2); (try clear p79); (try clear q79)
             obtain ⟨kq, x6_79, HA, HJ79, HO_6, HB⟩ := hcut
             cases kq with
             | zero => exact absurd HA.out (by simp [numeral_Embed.j2])
             | succ kj79 =>
              have H := HA.out
              clear HA
              simp only [numeral_Embed.j2] at H
              by_cases c84 : 0 ≤ x52_2
              ·
               rw [if_pos c84] at H
               have c84b0 : decide (0 ≤ x52_2) = true := decide_eq_true c84
               clear c84
               by_cases c85 : x52_2 < (a1.size : Int)
               ·
                rw [if_pos c85] at H
                have c85b0 : decide (x52_2 < (a1.size : Int)) = true := decide_eq_true c85
                clear c85
                by_cases c87 : (bt a1 x52_2) = 0
                ·
                 rw [if_pos c87] at H
                 have c87b0 : ((bt a1 x52_2) == 0) = true := beq_iff_eq.mpr c87
                 have c87b1 : ((bt a1 x52_2) != 0) = false := bne_eq_false_iff_eq.mpr c87
                 clear c87
                 by_cases c88 : x6_79.length < 140737488355328
                 ·
                  rw [if_pos c88] at H
                  have LMc88 := Aside0.mk c88
                  clear c88
                  obtain ⟨y747, hy747⟩ : ∃ y_ : List Int, y_ = (x6_79 ++ [1]) := ⟨_, rfl⟩
                  replace H : (numeral_Embed.l0 kj79 a1 y747 (a1.size : Int) (wrap64 (x52_2 + 1))) = some r := by first | (rw [hy747]; with_reducible exact H) | (have H2_ := (Option.bind_some _ _).symm.trans H; rw [hy747]; with_reducible exact H2_) | (have H2_ := (Option.bind_some _ _).symm.trans H; with_reducible exact H2_) | with_reducible exact H | (rw [hy747]; exact H) | exact H
                  have Ny747 := Aside0.mk hy747
                  clear hy747
                  have H' := Aside0.mk H
                  clear H
                  have p86 : 0 ≤ (x52_2 : Int) := of_decide_eq_true qne3_
                  have q86 : x52_2 < (a1.size : Int) := of_decide_eq_true qne3_
                  have hx86 := bt_at a1 x52_2
                  replace p86 := eq_true p86
                  replace q86 := eq_true q86
                  go_wp2_with (first | ((with_reducible refine gate_builtin (b := .append) (xs := #[.tmp 66, .tmp 67]) rfl ?_); at_builtin; refine Kd.R_append (Kd.int .u8) (w0 := w) w.heap.size rfl (.tmp 66) (.tmp 67) 23 5 (.int .u8 0) 1 rfl Tryd.underlying23 info5 rfl (by decide) (by omega) u6 x6_79 1 [.int .u8 1] (fun _ => True) (fun _ => False) rfl rfl ?aP (fun _ hk => hk.elim) ?aF ?aO ?aB ?aS ?aL ?_; (case aP => exact rfl); (case aB => exact qne0_); (case aF => exact (fun _ _ => trivial)); (case aO => exact qne45_); (case aS => exact (below_size qne0_)); (case aL => have := LMc88.out; omega); intro v748 w89 ho hb hg hat; rw [← Ny747.out] at ho; have n0_ := Aside0.mk (hb); have n1_ := Aside0.mk (ho); clear HB; clear HO_6; have HB := n0_; have HO749 := n1_; clear n0_ n1_; clear ho hb hg hat))
                  go_roundg kj79
                  case measure => have := HJ2.out; have := HK2.out; have := HJ79.out; omega
                  case rel => exact ⟨(y747), (wrap64 (x52_2 + 1)), qne2_, H', ⟨by have := HJ2.out; have := HK2.out; have := HJ79.out; omega⟩, ⟨by (with_reducible repeat (first | apply Kd.R_alloc | apply Kd.R_drewN | apply Kd.R_drew)); exact HO749.out⟩, ⟨qne0_⟩⟩
                 ·
                  rw [if_neg c88] at H
                  exact absurd H (by simp)
                ·
                 rw [if_neg c87] at H
                 have c87b0 : ((bt a1 x52_2) == 0) = false := beq_eq_false_iff_ne.mpr c87
                 have c87b1 : ((bt a1 x52_2) != 0) = true := bne_iff_ne.mpr c87
                 by_cases c91 : (bt a1 x52_2) = 1
                 ·
                  rw [if_pos c91] at H
                  have c91b0 : ((bt a1 x52_2) == 1) = true := beq_iff_eq.mpr c91
                  have c91b1 : ((bt a1 x52_2) != 1) = false := bne_eq_false_iff_eq.mpr c91
                  clear c91
                  by_cases c92 : x6_79.length < 140737488355328
                  ·
                   rw [if_pos c92] at H
                   have LMc92 := Aside0.mk c92
                   clear c92
                   obtain ⟨y750, hy750⟩ : ∃ y_ : List Int, y_ = (x6_79 ++ [2]) := ⟨_, rfl⟩
                   replace H : (numeral_Embed.l0 kj79 a1 y750 (a1.size : Int) (wrap64 (x52_2 + 1))) = some r := by first | (rw [hy750]; with_reducible exact H) | (have H2_ := (Option.bind_some _ _).symm.trans H; rw [hy750]; with_reducible exact H2_) | (have H2_ := (Option.bind_some _ _).symm.trans H; with_reducible exact H2_) | with_reducible exact H | (rw [hy750]; exact H) | exact H
                   have Ny750 := Aside0.mk hy750
                   clear hy750
                   have H' := Aside0.mk H
                   clear H
                   have p86 : 0 ≤ (x52_2 : Int) := of_decide_eq_true qne3_
                   have q86 : x52_2 < (a1.size : Int) := of_decide_eq_true qne3_
                   have hx86 := bt_at a1 x52_2
                   replace p86 := eq_true p86
                   replace q86 := eq_true q86
                   have p90 : 0 ≤ (x52_2 : Int) := of_decide_eq_true qne3_
                   have q90 : x52_2 < (a1.size : Int) := of_decide_eq_true qne3_
                   have hx90 := bt_at a1 x52_2
                   replace p90 := eq_true p90
                   replace q90 := eq_true q90
                   go_wp2_with (first | ((with_reducible refine gate_builtin (b := .append) (xs := #[.tmp 73, .tmp 74]) rfl ?_); at_builtin; refine Kd.R_append (Kd.int .u8) (w0 := w) w.heap.size rfl (.tmp 73) (.tmp 74) 23 5 (.int .u8 0) 1 rfl Tryd.underlying23 info5 rfl (by decide) (by omega) u6 x6_79 2 [.int .u8 2] (fun _ => True) (fun _ => False) rfl rfl ?aP (fun _ hk => hk.elim) ?aF ?aO ?aB ?aS ?aL ?_; (case aP => exact rfl); (case aB => exact qne0_); (case aF => exact (fun _ _ => trivial)); (case aO => exact qne45_); (case aS => exact (below_size qne0_)); (case aL => have := LMc92.out; omega); intro v751 w93 ho hb hg hat; rw [← Ny750.out] at ho; have n0_ := Aside0.mk (hb); have n1_ := Aside0.mk (ho); clear HB; clear HO_6; have HB := n0_; have HO752 := n1_; clear n0_ n1_; clear ho hb hg hat))
                   go_roundg kj79
                   case measure => have := HJ2.out; have := HK2.out; have := HJ79.out; omega
                   case rel => exact ⟨(y750), (wrap64 (x52_2 + 1)), qne2_, H', ⟨by have := HJ2.out; have := HK2.out; have := HJ79.out; omega⟩, ⟨by (with_reducible repeat (first | apply Kd.R_alloc | apply Kd.R_drewN | apply Kd.R_drew)); exact HO752.out⟩, ⟨qne0_⟩⟩
                  ·
                   rw [if_neg c92] at H
                   exact absurd H (by simp)
                 ·
                  rw [if_neg c91] at H
                  have c91b0 : ((bt a1 x52_2) == 1) = false := beq_eq_false_iff_ne.mpr c91
                  have c91b1 : ((bt a1 x52_2) != 1) = true := bne_iff_ne.mpr c91
                  by_cases c95 : x6_79.length < 140737488355328
                  ·
                   rw [if_pos c95] at H
                   have LMc95 := Aside0.mk c95
                   clear c95
                   obtain ⟨y753, hy753⟩ : ∃ y_ : List Int, y_ = (x6_79 ++ [bt a1 x52_2]) := ⟨_, rfl⟩
                   replace H : (numeral_Embed.l0 kj79 a1 y753 (a1.size : Int) (wrap64 (x52_2 + 1))) = some r := by first | (rw [hy753]; with_reducible exact H) | (have H2_ := (Option.bind_some _ _).symm.trans H; rw [hy753]; with_reducible exact H2_) | (have H2_ := (Option.bind_some _ _).symm.trans H; with_reducible exact H2_) | with_reducible exact H | (rw [hy753]; exact H) | exact H
                   have Ny753 := Aside0.mk hy753
                   clear hy753
                   have H' := Aside0.mk H
                   clear H
                   have p86 : 0 ≤ (x52_2 : Int) := of_decide_eq_true qne3_
                   have q86 : x52_2 < (a1.size : Int) := of_decide_eq_true qne3_
                   have hx86 := bt_at a1 x52_2
                   replace p86 := eq_true p86
                   replace q86 := eq_true q86
                   have p90 : 0 ≤ (x52_2 : Int) := of_decide_eq_true qne3_
                   have q90 : x52_2 < (a1.size : Int) := of_decide_eq_true qne3_
                   have hx90 := bt_at a1 x52_2
                   replace p90 := eq_true p90
                   replace q90 := eq_true q90
                   have p94 : 0 ≤ (x52_2 : Int) := of_decide_eq_true qne3_
                   have q94 : x52_2 < (a1.size : Int) := of_decide_eq_true qne3_
                   have hx94 := bt_at a1 x52_2
                   replace p94 := eq_true p94
                   replace q94 := eq_true q94
                   go_wp2_with (first | ((with_reducible refine gate_builtin (b := .append) (xs := #[.tmp 76, .tmp 80]) rfl ?_); at_builtin; refine Kd.R_append (Kd.int .u8) (w0 := w) w.heap.size rfl (.tmp 76) (.tmp 80) 23 5 (.int .u8 0) 1 rfl Tryd.underlying23 info5 rfl (by decide) (by omega) u6 x6_79 (bt a1 x52_2) [.int .u8 (bt a1 x52_2)] (fun _ => True) (fun _ => False) rfl rfl ?aP (fun _ hk => hk.elim) ?aF ?aO ?aB ?aS ?aL ?_; (case aP => exact rfl); (case aB => exact qne0_); (case aF => exact (fun _ _ => trivial)); (case aO => exact qne45_); (case aS => exact (below_size qne0_)); (case aL => have := LMc95.out; omega); intro v754 w96 ho hb hg hat; rw [← Ny753.out] at ho; have n0_ := Aside0.mk (hb); have n1_ := Aside0.mk (ho); clear HB; clear HO_6; have HB := n0_; have HO755 := n1_; clear n0_ n1_; clear ho hb hg hat))
                   go_roundg kj79
                   case measure => have := HJ2.out; have := HK2.out; have := HJ79.out; omega
                   case rel => exact ⟨(y753), (wrap64 (x52_2 + 1)), qne2_, H', ⟨by have := HJ2.out; have := HK2.out; have := HJ79.out; omega⟩, ⟨by (with_reducible repeat (first | apply Kd.R_alloc | apply Kd.R_drewN | apply Kd.R_drew)); exact HO755.out⟩, ⟨qne0_⟩⟩
                  ·
                   rw [if_neg c95] at H
                   exact absurd H (by simp)
               ·
                rw [if_neg c85] at H
                exact absurd H (by simp)
              ·
               rw [if_neg c84] at H
               exact absurd H (by simp)
           ·
            rw [if_neg c78] at H
            exact absurd H (by simp)
          ·
           rw [if_neg c77] at H
           exact absurd H (by simp)
         ·
          rw [if_neg c76] at H
          have c76b0 : decide (x52_2 < (a1.size : Int)) = false := decide_eq_false c76
          clear c76
          by_cases c97 : x6_2.length < 140737488355328
          ·
           rw [if_pos c97] at H
           have LMc97 := Aside0.mk c97
           clear c97
           obtain ⟨y741, hy741⟩ : ∃ y_ : List Int, y_ = (x6_2 ++ [0]) := ⟨_, rfl⟩
           replace H : (some (strOfNums y741)) = some r := by first | (rw [hy741]; with_reducible exact H) | (have H2_ := (Option.bind_some _ _).symm.trans H; rw [hy741]; with_reducible exact H2_) | (have H2_ := (Option.bind_some _ _).symm.trans H; with_reducible exact H2_) | with_reducible exact H | (rw [hy741]; exact H) | exact H
           have Ny741 := Aside0.mk hy741
           clear hy741
           obtain rfl := Option.some.inj H
           go_wp2_with (first | ((with_reducible refine gate_builtin (b := .append) (xs := #[.tmp 83, .tmp 84]) rfl ?_); at_builtin; refine Kd.R_append (Kd.int .u8) (w0 := w) w.heap.size rfl (.tmp 83) (.tmp 84) 23 5 (.int .u8 0) 1 rfl Tryd.underlying23 info5 rfl (by decide) (by omega) u6 x6_2 0 [.int .u8 0] (fun _ => True) (fun _ => False) rfl rfl ?aP (fun _ hk => hk.elim) ?aF ?aO ?aB ?aS ?aL ?_; (case aP => exact rfl); (case aB => exact qne0_); (case aF => exact (fun _ _ => trivial)); (case aO => exact qne45_); (case aS => exact (below_size qne0_)); (case aL => have := LMc97.out; omega); intro v742 w98 ho hb hg hat; rw [← Ny741.out] at ho; have n0_ := Aside0.mk (hb); have n1_ := Aside0.mk (ho); clear HB; clear HO_6; have HB := n0_; have HO743 := n1_; clear n0_ n1_; clear ho hb hg hat; have hcv99 := own_string (P := Tryd.prog) Tryd.underlying23 Tryd.underlying5 Tryd.underlying9 (Kd.own_of_R HO743.out)))
           go_ret
           exact ⟨qne5_, qne0_⟩
          ·
           rw [if_neg c97] at H
           exact absurd H (by simp)

end Go.Proofs.YtcdajedmlfhmeaaDoor.XN
