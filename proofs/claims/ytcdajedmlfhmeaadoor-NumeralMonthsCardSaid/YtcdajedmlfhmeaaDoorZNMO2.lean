import Derived.Test.YtcdajedmlfhmeaaDoorZNMO0
import Derived.Test.YtcdajedmlfhmeaaDoorZNMO1
namespace Go.Proofs.YtcdajedmlfhmeaaDoor.XN
open Go.RowKit Go.Proofs.YtcdajedmlfhmeaaDoorW.PrintWords Go.Proofs.YtcdajedmlfhmeaaDoorW.PrintLast Go.Proofs.YtcdajedmlfhmeaaDoorW.PrintMore
attribute [local go_sem] max2_int min2_int max_two min_two max_three min_three max_four min_four
set_option linter.unusedVariables false
set_option linter.unusedSimpArgs false

/-! ### numeral_decimal: function 32 -/
def numeral_decimal.f (k : Nat) (a0_0 : Bool) (a0_1 : ByteArray) (a0_2 : ByteArray) (a0_3 : Int) : Option (Bool × ByteArray × ByteArray × Int) := (strings_TrimLeft.f k a0_1 (⟨#[48]⟩ : ByteArray)).bind fun t111 => ((strings_TrimRight.f k a0_2 (⟨#[48]⟩ : ByteArray)).bind fun t112 => (if a0_0 = true then (if t111.toList = ([] : List UInt8) then (some ((!t112.toList.isEmpty), t111, t112, a0_3)) else (some (true, t111, t112, a0_3))) else (some (false, t111, t112, a0_3))))
def numeral_decimal.T1 : Bool × List (List Nat × List Nat) := (true, [([], []), ([0], [0]), ([1], [1]), ([], []), ([3], [3]), ([4, 2], [4]), ([], []), ([6], [6]), ([2, 5, 7], [2, 5, 7]), ([], []), ([9, 8, 5, 0, 1, 2, 3, 4, 5, 6, 7, 8, 9], [8, 9])])
def numeral_decimal.B1 : List Nat := [0, 1, 3, 0, 8, 31, 0, 64, 255, 0, 1023]
theorem numeral_decimal.tab1 : rtab .any (opsOf Tryd.f32 1) = numeral_decimal.T1 := by kernel_rfl
theorem numeral_decimal.bits1 : waitsOk numeral_decimal.T1.2 numeral_decimal.B1 = true := by kernel_rfl
set_option maxHeartbeats 8000000 in
set_option maxRecDepth 100000 in
theorem numeral_decimal.calls (k : Nat) (a0_0 : Bool) (a0_1 : ByteArray) (a0_2 : ByteArray) (a0_3 : Int) (r1 : Bool) (r2 : ByteArray) (r3 : ByteArray) (r4 : Int) (w : World) (h : numeral_decimal.f k a0_0 a0_1 a0_2 a0_3 = some (r1, r2, r3, r4)) :
  Calls Tryd.prog 32 #[.agg #[.bool a0_0, .string a0_1, .string a0_2, .int .i64 a0_3]] w fun e w' => e = .returned (.agg #[.bool r1, .string r2, .string r3, .int .i64 r4]) ∧ Below w.heap.size w w' := by
 have hu55 := Tryd.underlying55
 have hu25 := Tryd.underlying25
 have HB := Aside0.mk (Below.refl w.heap.size w)
 have H : ((strings_TrimLeft.f k a0_1 (⟨#[48]⟩ : ByteArray)).bind fun t111 => ((strings_TrimRight.f k a0_2 (⟨#[48]⟩ : ByteArray)).bind fun t112 => (if a0_0 = true then (if t111.toList = ([] : List UInt8) then (some ((!t112.toList.isEmpty), t111, t112, a0_3)) else (some (true, t111, t112, a0_3))) else (some (false, t111, t112, a0_3))))) = some (r1, r2, r3, r4) := h
 clear h
 replace H := Option.bind_eq_some_iff.mp H
 obtain ⟨t111, A20, H⟩ := H
 replace H : ((strings_TrimRight.f k a0_2 (⟨#[48]⟩ : ByteArray)).bind fun t112 => (if a0_0 = true then (if t111.toList = ([] : List UInt8) then (some ((!t112.toList.isEmpty), t111, t112, a0_3)) else (some (true, t111, t112, a0_3))) else (some (false, t111, t112, a0_3)))) = some (r1, r2, r3, r4) := H
 have A2 := Aside0.mk A20
 clear A20
 replace H := Option.bind_eq_some_iff.mp H
 obtain ⟨t112, A30, H⟩ := H
 replace H : (if a0_0 = true then (if t111.toList = ([] : List UInt8) then (some ((!t112.toList.isEmpty), t111, t112, a0_3)) else (some (true, t111, t112, a0_3))) else (some (false, t111, t112, a0_3))) = some (r1, r2, r3, r4) := H
 have A3 := Aside0.mk A30
 clear A30
 by_cases c4 : a0_0 = true
 ·
  subst c4
  have H1 : (if t111.toList = ([] : List UInt8) then (some ((!t112.toList.isEmpty), t111, t112, a0_3)) else (some (true, t111, t112, a0_3))) = some (r1, r2, r3, r4) := by rw [if_pos rfl] at H; exact H
  clear H
  have H := H1
  clear H1
  by_cases c5 : t111.toList = ([] : List UInt8)
  ·
   rw [if_pos c5] at H
   have c5b0 : (t111.toList == ([] : List UInt8)) = true := beq_iff_eq.mpr c5
   have c5b1 : (t111.toList != ([] : List UInt8)) = false := bne_eq_false_iff_eq.mpr c5
   clear c5
   simp only [Option.some.injEq, Prod.mk.injEq] at H
   obtain ⟨rfl, rfl, rfl, rfl⟩ := H
   go_enter Tryd.func32, Tryd.ntmps32
   have tk23 : True := trivial; have tk24 : True := trivial
   try go_wp2_with (first | (have ztk23 := tk23; clear tk23 ztk23; (with_reducible refine gate_dst (N := 1) rfl ?_); refine box_event ?hg (N := 1) ?hd (cs := #[.bool true, .string a0_1, .string a0_2, .int .i64 a0_3]) (t := 55) ?hr ?_; (case hd => rfl); (case hg => rfl); (case hr => first | (go_simp; done) | (go_simp; rfl)); intro gb109 hg w6 hbox hb; have n0_ := Aside0.mk (below_step qnmo1_ hb); have n1_ := Aside0.mk (hbox); have n2_ := Aside0.mk ((by rw [hg]; exact (below_size qnmo1_) : w.heap.size ≤ gb109)); have n3_ := Aside0.mk ((by rw [hg]; exact (below_size qnmo1_) : w.heap.size ≤ gb109)); clear HB; have HB := n0_; have BK109 := n1_; have GW109 := n2_; have GE109 := n3_; clear n0_ n1_ n2_ n3_; clear hb hbox hg) | (have ztk24 := tk24; clear tk24 ztk24; (with_reducible refine gate_dst (N := 2) rfl ?_); refine box_event ?hg (N := 2) ?hd (cs := #[.bool false, .string (⟨#[]⟩ : ByteArray), .string (⟨#[]⟩ : ByteArray), .int .i64 0]) (t := 25) ?hr ?_; (case hd => rfl); (case hg => rfl); (case hr => first | (go_simp; done) | (go_simp; rfl)); intro gb110 hg w7 hbox hb; have n0_ := Aside0.mk (blk_below (g := gb109) (o := .cells #[.bool true, .string a0_1, .string a0_2, .int .i64 a0_3] 55 (0, 0)) qnmo3_ hb); have n1_ := Aside0.mk (below_step qnmo20_ hb); have n2_ := Aside0.mk (hbox); have n3_ := Aside0.mk ((by rw [hg]; exact (below_size qnmo20_) : w.heap.size ≤ gb110)); have n4_ := Aside0.mk ((by rw [hg]; exact (below_size qnmo20_) : w.heap.size ≤ gb110)); have n5_ := Aside0.mk ((by rw [hg]; exact Nat.ne_of_lt (blk_lt (g := gb109) (o := .cells #[.bool true, .string a0_1, .string a0_2, .int .i64 a0_3] 55 (0, 0)) qnmo3_) : gb109 ≠ gb110)); have n6_ := Aside0.mk ((by rw [hg]; exact Nat.ne_of_gt (blk_lt (g := gb109) (o := .cells #[.bool true, .string a0_1, .string a0_2, .int .i64 a0_3] 55 (0, 0)) qnmo3_) : gb110 ≠ gb109)); clear BK109; clear HB; have BK109 := n0_; have HB := n1_; have BK110 := n2_; have GW110 := n3_; have GE110 := n4_; have NB109_110 := n5_; have NB110_109 := n6_; clear n0_ n1_ n2_ n3_ n4_ n5_ n6_; clear hb hbox hg))
   have n0_ := Aside0.mk (blk_drew BK109.out)
   have n1_ := Aside0.mk (blk_drew BK110.out)
   have n2_ := Aside0.mk (below_drew1 HB.out)
   clear BK109
   clear BK110
   clear HB
   have BK109 := n0_
   have BK110 := n1_
   have HB := n2_
   clear n0_ n1_ n2_
   refine start_ (n := 11) (S := fun w' => w'.cell? ⟨gb109, 0, none⟩ = some (.bool true) ∧ w'.cell? ⟨gb109, 1, none⟩ = some (.string a0_1) ∧ w'.cell? ⟨gb109, 2, none⟩ = some (.string a0_2) ∧ w'.cell? ⟨gb109, 3, none⟩ = some (.int .i64 a0_3)) (ds := []) #[false, false, false, false, false, false, false, false, false, false, false] (by kernel_rfl) rfl rfl ⟨(blk_cell BK109.out 0).trans rfl, (blk_cell BK109.out 1).trans rfl, (blk_cell BK109.out 2).trans rfl, (blk_cell BK109.out 3).trans rfl⟩ (fun hHeld => ?_); refine with_tabW numeral_decimal.tab1 numeral_decimal.bits1 (fun HT_ HW_ => ?_)
   generalize w7.drew = w8 at BK109 BK110 HB hHeld ⊢
   refine pure_ (i := 0) (N := some 4) (v := ?_) (a' := ?_) #[true, false, false, false, false, false, false, false, false, false, false] rfl rfl (any_of HT_.out (by kernel_rfl)) (fun _ _ _ h => h) (Or.inl ⟨by rfl, ?_⟩) ?_ ?_
   rotate_left
   ·
    intro w'
    go_simp
    with_reducible rfl
   rotate_left
   ·
    simp only [Act.put, List.setIfInBounds_toArray, List.set_cons_zero, List.set_cons_succ, i64_w, i32_w]
    rfl
   refine pure_ (i := 3) (N := some 7) (v := ?_) (a' := ?_) #[true, false, false, true, false, false, false, false, false, false, false] rfl rfl (any_of HT_.out (by kernel_rfl)) (fun _ _ _ h => h) (Or.inl ⟨by rfl, ?_⟩) ?_ ?_
   rotate_left
   ·
    intro w'
    go_simp
    with_reducible rfl
   rotate_left
   ·
    simp only [Act.put, List.setIfInBounds_toArray, List.set_cons_zero, List.set_cons_succ, i64_w, i32_w]
    rfl
   refine pure_ (i := 6) (N := some 10) (v := ?_) (a' := ?_) #[true, false, false, true, false, false, true, false, false, false, false] rfl rfl (any_of HT_.out (by kernel_rfl)) (fun _ _ _ h => h) (Or.inl ⟨by rfl, ?_⟩) ?_ ?_
   rotate_left
   ·
    intro w'
    go_simp
    with_reducible rfl
   rotate_left
   ·
    simp only [Act.put, List.setIfInBounds_toArray, List.set_cons_zero, List.set_cons_succ, i64_w, i32_w]
    rfl
   refine take_ (i := 1) (N := some 5) (v := ?_) (a' := ?_) #[true, true, false, true, false, false, true, false, false, false, false] rfl rfl (take_ofW HT_.out HW_.out (by kernel_rfl)) (fun _ _ _ h => h) (Or.inl ⟨by rfl, ?_⟩) hHeld ?_ ?_
   rotate_left
   ·
    rintro w' ⟨s0, s1, s2, s3⟩
    go_simp
    with_reducible rfl
   rotate_left
   ·
    simp only [Act.put, List.setIfInBounds_toArray, List.set_cons_zero, List.set_cons_succ, i64_w, i32_w]
    rfl
   refine take_ (i := 4) (N := some 8) (v := ?_) (a' := ?_) #[true, true, false, true, true, false, true, false, false, false, false] rfl rfl (take_ofW HT_.out HW_.out (by kernel_rfl)) (fun _ _ _ h => h) (Or.inl ⟨by rfl, ?_⟩) hHeld ?_ ?_
   rotate_left
   ·
    rintro w' ⟨s0, s1, s2, s3⟩
    go_simp
    with_reducible rfl
   rotate_left
   ·
    simp only [Act.put, List.setIfInBounds_toArray, List.set_cons_zero, List.set_cons_succ, i64_w, i32_w]
    rfl
   refine take_ (i := 7) (N := some 11) (v := ?_) (a' := ?_) #[true, true, false, true, true, false, true, true, false, false, false] rfl rfl (take_ofW HT_.out HW_.out (by kernel_rfl)) (fun _ _ _ h => h) (Or.inl ⟨by rfl, ?_⟩) hHeld ?_ ?_
   rotate_left
   ·
    rintro w' ⟨s0, s1, s2, s3⟩
    go_simp
    with_reducible rfl
   rotate_left
   ·
    simp only [Act.put, List.setIfInBounds_toArray, List.set_cons_zero, List.set_cons_succ, i64_w, i32_w]
    rfl
   refine join_ (σ := Nat) 1 #[true, true, true, true, true, true, true, true, true, true, false] (fun s_ => [(6, .string t111), (9, .string t112), (3, .pointer (some ⟨s_, 0, none⟩)), (12, .agg #[.bool false, .string t111, .string t112, .int .i64 a0_3])]) (fun s_ w' => (w'.cell? ⟨gb109, 0, none⟩ = some (.bool true) ∧ w'.cell? ⟨gb109, 1, none⟩ = some (.string a0_1) ∧ w'.cell? ⟨gb109, 2, none⟩ = some (.string a0_2) ∧ w'.cell? ⟨gb109, 3, none⟩ = some (.int .i64 a0_3)) ∧ (w'.heap[gb109]? = some (.cells #[.bool true, .string a0_1, .string a0_2, .int .i64 a0_3] 55 (0, 0))) ∧ (w'.heap[gb110]? = some (.cells #[.bool false, .string (⟨#[]⟩ : ByteArray), .string (⟨#[]⟩ : ByteArray), .int .i64 0] 25 (0, 0))) ∧ (w'.heap[s_]? = some (.cells #[.bool false, .string (⟨#[]⟩ : ByteArray), .string (⟨#[]⟩ : ByteArray), .int .i64 0] 25 (0, 0))) ∧ (w.heap.size ≤ s_) ∧ (w.heap.size ≤ s_) ∧ (gb109 ≠ s_) ∧ (s_ ≠ gb109) ∧ (gb110 ≠ s_) ∧ (s_ ≠ gb110) ∧ (Below w.heap.size w w')) ?_ ?_
   rotate_left
   ·
    intro hCont
    refine two_ (i := 2) (j := 9) (Ni := some 6) (Nj := some 3) #[true, true, true, true, true, false, true, true, false, false, false] #[true, true, false, true, true, false, true, true, false, true, false] rfl rfl rfl rfl (two_of HT_.out (by kernel_rfl)) (by decide) (by decide) (fun K hK => ?_) (fun K hK => ?_)
    ·
     skip
     refine goes_ Tryd.func66 (by kernel_rfl) rfl #[.string a0_1, .string (⟨#[48]⟩ : ByteArray)] (by rfl) rfl rfl qnmo0_ ?_
     with_reducible refine (strings_TrimLeft.calls k a0_1 (⟨#[48]⟩ : ByteArray) t111 _ A2.out).mono ?_
     rintro e w9 ⟨rfl, hb⟩
     refine ⟨_, rfl, ?_⟩
     have n0_ := Aside0.mk (blk_below (g := gb109) (o := .cells #[.bool true, .string a0_1, .string a0_2, .int .i64 a0_3] 55 (0, 0)) qnmo3_ hb)
     have n1_ := Aside0.mk (blk_below (g := gb110) (o := .cells #[.bool false, .string (⟨#[]⟩ : ByteArray), .string (⟨#[]⟩ : ByteArray), .int .i64 0] 25 (0, 0)) qnmo6_ hb)
     have n2_ := Aside0.mk (below_step qnmo4_ hb)
     clear BK109
     clear BK110
     clear HB
     have BK109 := n0_
     have BK110 := n1_
     have HB := n2_
     clear n0_ n1_ n2_
     (try clear hb); (try clear hb2); (try clear hk); (try clear hi)
     refine hK.out _ _ ⟨(blk_cell BK109.out 0).trans rfl, (blk_cell BK109.out 1).trans rfl, (blk_cell BK109.out 2).trans rfl, (blk_cell BK109.out 3).trans rfl⟩ (fun hHeld => ?_)
     clear hK K
     refine norm_ (a' := ?_) ?_ ?_
     rotate_left
     ·
      show Act.put _ (some 6) _ = _
      simp only [Act.put, List.setIfInBounds_toArray, List.set_cons_zero, List.set_cons_succ, i64_w, i32_w]
      rfl
     refine two_ (i := 5) (j := 9) (Ni := some 9) (Nj := some 3) #[true, true, true, true, true, true, true, true, false, false, false] #[true, true, true, true, true, false, true, true, false, true, false] rfl rfl rfl rfl (two_of HT_.out (by kernel_rfl)) (by decide) (by decide) (fun K hK => ?_) (fun K hK => ?_)
     ·
      skip
      refine goes_ Tryd.func67 (by kernel_rfl) rfl #[.string a0_2, .string (⟨#[48]⟩ : ByteArray)] (by rfl) rfl rfl qnmo0_ ?_
      with_reducible refine (strings_TrimRight.calls k a0_2 (⟨#[48]⟩ : ByteArray) t112 _ A3.out).mono ?_
      rintro e w10 ⟨rfl, hb⟩
      refine ⟨_, rfl, ?_⟩
      have n0_ := Aside0.mk (blk_below (g := gb109) (o := .cells #[.bool true, .string a0_1, .string a0_2, .int .i64 a0_3] 55 (0, 0)) qnmo3_ hb)
      have n1_ := Aside0.mk (blk_below (g := gb110) (o := .cells #[.bool false, .string (⟨#[]⟩ : ByteArray), .string (⟨#[]⟩ : ByteArray), .int .i64 0] 25 (0, 0)) qnmo6_ hb)
      have n2_ := Aside0.mk (below_step qnmo4_ hb)
      clear BK109
      clear BK110
      clear HB
      have BK109 := n0_
      have BK110 := n1_
      have HB := n2_
      clear n0_ n1_ n2_
      (try clear hb); (try clear hb2); (try clear hk); (try clear hi)
      refine hK.out _ _ ⟨(blk_cell BK109.out 0).trans rfl, (blk_cell BK109.out 1).trans rfl, (blk_cell BK109.out 2).trans rfl, (blk_cell BK109.out 3).trans rfl⟩ (fun hHeld => ?_)
      clear hK K
      refine norm_ (a' := ?_) ?_ ?_
      rotate_left
      ·
       show Act.put _ (some 9) _ = _
       simp only [Act.put, List.setIfInBounds_toArray, List.set_cons_zero, List.set_cons_succ, i64_w, i32_w]
       rfl
      refine pure_ (i := 8) (N := some 12) (v := ?_) (a' := ?_) #[true, true, true, true, true, true, true, true, true, false, false] rfl rfl (any_of HT_.out (by kernel_rfl)) (fun _ _ _ h => h) (Or.inl ⟨by rfl, ?_⟩) ?_ ?_
      rotate_left
      ·
       intro w'
       go_simp
       with_reducible rfl
      rotate_left
      ·
       simp only [Act.put, List.setIfInBounds_toArray, List.set_cons_zero, List.set_cons_succ, i64_w, i32_w]
       rfl
      refine one_ (i := 9) (N := some 3) #[true, true, true, true, true, true, true, true, true, true, false] rfl rfl (one_of HT_.out (by kernel_rfl)) (by decide) (fun K hK => ?_)
      refine box_step ?hg (N := 3) ?hd (cs := #[.bool false, .string (⟨#[]⟩ : ByteArray), .string (⟨#[]⟩ : ByteArray), .int .i64 0]) (t := 25) ?hr ?_; (case hd => rfl); (case hg => rfl); (case hr => first | (go_simp; done) | (go_simp; rfl))
      intro gb113 hg w11 hbox hb
      have n0_ := Aside0.mk (blk_below (g := gb109) (o := .cells #[.bool true, .string a0_1, .string a0_2, .int .i64 a0_3] 55 (0, 0)) qnmo3_ hb)
      have n1_ := Aside0.mk (blk_below (g := gb110) (o := .cells #[.bool false, .string (⟨#[]⟩ : ByteArray), .string (⟨#[]⟩ : ByteArray), .int .i64 0] 25 (0, 0)) qnmo6_ hb)
      have n2_ := Aside0.mk (below_step qnmo4_ hb)
      have n3_ := Aside0.mk (hbox)
      have n4_ := Aside0.mk ((by rw [hg]; exact (below_size qnmo4_) : w.heap.size ≤ gb113))
      have n5_ := Aside0.mk ((by rw [hg]; exact (below_size qnmo4_) : w.heap.size ≤ gb113))
      have n6_ := Aside0.mk ((by rw [hg]; exact Nat.ne_of_lt (blk_lt (g := gb109) (o := .cells #[.bool true, .string a0_1, .string a0_2, .int .i64 a0_3] 55 (0, 0)) qnmo3_) : gb109 ≠ gb113))
      have n7_ := Aside0.mk ((by rw [hg]; exact Nat.ne_of_gt (blk_lt (g := gb109) (o := .cells #[.bool true, .string a0_1, .string a0_2, .int .i64 a0_3] 55 (0, 0)) qnmo3_) : gb113 ≠ gb109))
      have n8_ := Aside0.mk ((by rw [hg]; exact Nat.ne_of_lt (blk_lt (g := gb110) (o := .cells #[.bool false, .string (⟨#[]⟩ : ByteArray), .string (⟨#[]⟩ : ByteArray), .int .i64 0] 25 (0, 0)) qnmo6_) : gb110 ≠ gb113))
      have n9_ := Aside0.mk ((by rw [hg]; exact Nat.ne_of_gt (blk_lt (g := gb110) (o := .cells #[.bool false, .string (⟨#[]⟩ : ByteArray), .string (⟨#[]⟩ : ByteArray), .int .i64 0] 25 (0, 0)) qnmo6_) : gb113 ≠ gb110))
      clear BK109
      clear BK110
      clear HB
      have BK109 := n0_
      have BK110 := n1_
      have HB := n2_
      have BK113 := n3_
      have GW113 := n4_
      have GE113 := n5_
      have NB109_113 := n6_
      have NB113_109 := n7_
      have NB110_113 := n8_
      have NB113_110 := n9_
      clear n0_ n1_ n2_ n3_ n4_ n5_ n6_ n7_ n8_ n9_
      clear hb hbox hg
      refine hK.out _ _ ⟨(blk_cell BK109.out 0).trans rfl, (blk_cell BK109.out 1).trans rfl, (blk_cell BK109.out 2).trans rfl, (blk_cell BK109.out 3).trans rfl⟩ (fun hHeld => ?_)
      clear hK K
      refine norm_ (a' := ?_) ?_ ?_
      rotate_left
      ·
       show Act.put _ (some 3) _ = _
       simp only [Act.put, List.setIfInBounds_toArray, List.set_cons_zero, List.set_cons_succ, i64_w, i32_w]
       rfl
      exact norm_ qnmo33_ (hCont (gb113) _ ⟨hHeld, qnmo3_, qnmo6_, qnmo16_, GW113.out, GE113.out, NB109_113.out, NB113_109.out, NB110_113.out, NB113_110.out, qnmo9_⟩)
     ·
      skip
      refine box_step ?hg (N := 3) ?hd (cs := #[.bool false, .string (⟨#[]⟩ : ByteArray), .string (⟨#[]⟩ : ByteArray), .int .i64 0]) (t := 25) ?hr ?_; (case hd => rfl); (case hg => rfl); (case hr => first | (go_simp; done) | (go_simp; rfl))
      intro gb113 hg w10 hbox hb
      have n0_ := Aside0.mk (blk_below (g := gb109) (o := .cells #[.bool true, .string a0_1, .string a0_2, .int .i64 a0_3] 55 (0, 0)) qnmo3_ hb)
      have n1_ := Aside0.mk (blk_below (g := gb110) (o := .cells #[.bool false, .string (⟨#[]⟩ : ByteArray), .string (⟨#[]⟩ : ByteArray), .int .i64 0] 25 (0, 0)) qnmo6_ hb)
      have n2_ := Aside0.mk (below_step qnmo4_ hb)
      have n3_ := Aside0.mk (hbox)
      have n4_ := Aside0.mk ((by rw [hg]; exact (below_size qnmo4_) : w.heap.size ≤ gb113))
      have n5_ := Aside0.mk ((by rw [hg]; exact (below_size qnmo4_) : w.heap.size ≤ gb113))
      have n6_ := Aside0.mk ((by rw [hg]; exact Nat.ne_of_lt (blk_lt (g := gb109) (o := .cells #[.bool true, .string a0_1, .string a0_2, .int .i64 a0_3] 55 (0, 0)) qnmo3_) : gb109 ≠ gb113))
      have n7_ := Aside0.mk ((by rw [hg]; exact Nat.ne_of_gt (blk_lt (g := gb109) (o := .cells #[.bool true, .string a0_1, .string a0_2, .int .i64 a0_3] 55 (0, 0)) qnmo3_) : gb113 ≠ gb109))
      have n8_ := Aside0.mk ((by rw [hg]; exact Nat.ne_of_lt (blk_lt (g := gb110) (o := .cells #[.bool false, .string (⟨#[]⟩ : ByteArray), .string (⟨#[]⟩ : ByteArray), .int .i64 0] 25 (0, 0)) qnmo6_) : gb110 ≠ gb113))
      have n9_ := Aside0.mk ((by rw [hg]; exact Nat.ne_of_gt (blk_lt (g := gb110) (o := .cells #[.bool false, .string (⟨#[]⟩ : ByteArray), .string (⟨#[]⟩ : ByteArray), .int .i64 0] 25 (0, 0)) qnmo6_) : gb113 ≠ gb110))
      clear BK109
      clear BK110
      clear HB
      have BK109 := n0_
      have BK110 := n1_
      have HB := n2_
      have BK113 := n3_
      have GW113 := n4_
      have GE113 := n5_
      have NB109_113 := n6_
      have NB113_109 := n7_
      have NB110_113 := n8_
      have NB113_110 := n9_
      clear n0_ n1_ n2_ n3_ n4_ n5_ n6_ n7_ n8_ n9_
      clear hb hbox hg
      refine hK.out _ _ ⟨(blk_cell BK109.out 0).trans rfl, (blk_cell BK109.out 1).trans rfl, (blk_cell BK109.out 2).trans rfl, (blk_cell BK109.out 3).trans rfl⟩ (fun hHeld => ?_)
      clear hK K
      refine norm_ (a' := ?_) ?_ ?_
      rotate_left
      ·
       show Act.put _ (some 3) _ = _
       simp only [Act.put, List.setIfInBounds_toArray, List.set_cons_zero, List.set_cons_succ, i64_w, i32_w]
       rfl
      refine one_ (i := 5) (N := some 9) #[true, true, true, true, true, true, true, true, false, true, false] rfl rfl (one_of HT_.out (by kernel_rfl)) (by decide) (fun K hK => ?_)
      refine goes_ Tryd.func67 (by kernel_rfl) rfl #[.string a0_2, .string (⟨#[48]⟩ : ByteArray)] (by rfl) rfl rfl qnmo0_ ?_
      with_reducible refine (strings_TrimRight.calls k a0_2 (⟨#[48]⟩ : ByteArray) t112 _ A3.out).mono ?_
      rintro e w11 ⟨rfl, hb⟩
      refine ⟨_, rfl, ?_⟩
      have n0_ := Aside0.mk (blk_below (g := gb109) (o := .cells #[.bool true, .string a0_1, .string a0_2, .int .i64 a0_3] 55 (0, 0)) qnmo3_ hb)
      have n1_ := Aside0.mk (blk_below (g := gb110) (o := .cells #[.bool false, .string (⟨#[]⟩ : ByteArray), .string (⟨#[]⟩ : ByteArray), .int .i64 0] 25 (0, 0)) qnmo6_ hb)
      have n2_ := Aside0.mk (blk_below (g := gb113) (o := .cells #[.bool false, .string (⟨#[]⟩ : ByteArray), .string (⟨#[]⟩ : ByteArray), .int .i64 0] 25 (0, 0)) qnmo16_ hb)
      have n3_ := Aside0.mk (below_step qnmo9_ hb)
      clear BK109
      clear BK110
      clear BK113
      clear HB
      have BK109 := n0_
      have BK110 := n1_
      have BK113 := n2_
      have HB := n3_
      clear n0_ n1_ n2_ n3_
      (try clear hb); (try clear hb2); (try clear hk); (try clear hi)
      refine hK.out _ _ ⟨(blk_cell BK109.out 0).trans rfl, (blk_cell BK109.out 1).trans rfl, (blk_cell BK109.out 2).trans rfl, (blk_cell BK109.out 3).trans rfl⟩ (fun hHeld => ?_)
      clear hK K
      refine norm_ (a' := ?_) ?_ ?_
      rotate_left
      ·
       show Act.put _ (some 9) _ = _
       simp only [Act.put, List.setIfInBounds_toArray, List.set_cons_zero, List.set_cons_succ, i64_w, i32_w]
       rfl
      refine pure_ (i := 8) (N := some 12) (v := ?_) (a' := ?_) #[true, true, true, true, true, true, true, true, true, true, false] rfl rfl (any_of HT_.out (by kernel_rfl)) (fun _ _ _ h => h) (Or.inl ⟨by rfl, ?_⟩) ?_ ?_
      rotate_left
      ·
       intro w'
       go_simp
       with_reducible rfl
      rotate_left
      ·
       simp only [Act.put, List.setIfInBounds_toArray, List.set_cons_zero, List.set_cons_succ, i64_w, i32_w]
       rfl
      exact norm_ qnmo33_ (hCont (gb113) _ ⟨hHeld, qnmo3_, qnmo6_, qnmo16_, GW113.out, GE113.out, NB109_113.out, NB113_109.out, NB110_113.out, NB113_110.out, qnmo9_⟩)
    ·
     skip
     refine box_step ?hg (N := 3) ?hd (cs := #[.bool false, .string (⟨#[]⟩ : ByteArray), .string (⟨#[]⟩ : ByteArray), .int .i64 0]) (t := 25) ?hr ?_; (case hd => rfl); (case hg => rfl); (case hr => first | (go_simp; done) | (go_simp; rfl))
     intro gb113 hg w9 hbox hb
     have n0_ := Aside0.mk (blk_below (g := gb109) (o := .cells #[.bool true, .string a0_1, .string a0_2, .int .i64 a0_3] 55 (0, 0)) qnmo3_ hb)
     have n1_ := Aside0.mk (blk_below (g := gb110) (o := .cells #[.bool false, .string (⟨#[]⟩ : ByteArray), .string (⟨#[]⟩ : ByteArray), .int .i64 0] 25 (0, 0)) qnmo6_ hb)
     have n2_ := Aside0.mk (below_step qnmo4_ hb)
     have n3_ := Aside0.mk (hbox)
     have n4_ := Aside0.mk ((by rw [hg]; exact (below_size qnmo4_) : w.heap.size ≤ gb113))
     have n5_ := Aside0.mk ((by rw [hg]; exact (below_size qnmo4_) : w.heap.size ≤ gb113))
     have n6_ := Aside0.mk ((by rw [hg]; exact Nat.ne_of_lt (blk_lt (g := gb109) (o := .cells #[.bool true, .string a0_1, .string a0_2, .int .i64 a0_3] 55 (0, 0)) qnmo3_) : gb109 ≠ gb113))
     have n7_ := Aside0.mk ((by rw [hg]; exact Nat.ne_of_gt (blk_lt (g := gb109) (o := .cells #[.bool true, .string a0_1, .string a0_2, .int .i64 a0_3] 55 (0, 0)) qnmo3_) : gb113 ≠ gb109))
     have n8_ := Aside0.mk ((by rw [hg]; exact Nat.ne_of_lt (blk_lt (g := gb110) (o := .cells #[.bool false, .string (⟨#[]⟩ : ByteArray), .string (⟨#[]⟩ : ByteArray), .int .i64 0] 25 (0, 0)) qnmo6_) : gb110 ≠ gb113))
     have n9_ := Aside0.mk ((by rw [hg]; exact Nat.ne_of_gt (blk_lt (g := gb110) (o := .cells #[.bool false, .string (⟨#[]⟩ : ByteArray), .string (⟨#[]⟩ : ByteArray), .int .i64 0] 25 (0, 0)) qnmo6_) : gb113 ≠ gb110))
     clear BK109
     clear BK110
     clear HB
     have BK109 := n0_
     have BK110 := n1_
     have HB := n2_
     have BK113 := n3_
     have GW113 := n4_
     have GE113 := n5_
     have NB109_113 := n6_
     have NB113_109 := n7_
     have NB110_113 := n8_
     have NB113_110 := n9_
     clear n0_ n1_ n2_ n3_ n4_ n5_ n6_ n7_ n8_ n9_
     clear hb hbox hg
     refine hK.out _ _ ⟨(blk_cell BK109.out 0).trans rfl, (blk_cell BK109.out 1).trans rfl, (blk_cell BK109.out 2).trans rfl, (blk_cell BK109.out 3).trans rfl⟩ (fun hHeld => ?_)
     clear hK K
     refine norm_ (a' := ?_) ?_ ?_
     rotate_left
     ·
      show Act.put _ (some 3) _ = _
      simp only [Act.put, List.setIfInBounds_toArray, List.set_cons_zero, List.set_cons_succ, i64_w, i32_w]
      rfl
     refine one_ (i := 2) (N := some 6) #[true, true, true, true, true, false, true, true, false, true, false] rfl rfl (one_of HT_.out (by kernel_rfl)) (by decide) (fun K hK => ?_)
     refine goes_ Tryd.func66 (by kernel_rfl) rfl #[.string a0_1, .string (⟨#[48]⟩ : ByteArray)] (by rfl) rfl rfl qnmo0_ ?_
     with_reducible refine (strings_TrimLeft.calls k a0_1 (⟨#[48]⟩ : ByteArray) t111 _ A2.out).mono ?_
     rintro e w10 ⟨rfl, hb⟩
     refine ⟨_, rfl, ?_⟩
     have n0_ := Aside0.mk (blk_below (g := gb109) (o := .cells #[.bool true, .string a0_1, .string a0_2, .int .i64 a0_3] 55 (0, 0)) qnmo3_ hb)
     have n1_ := Aside0.mk (blk_below (g := gb110) (o := .cells #[.bool false, .string (⟨#[]⟩ : ByteArray), .string (⟨#[]⟩ : ByteArray), .int .i64 0] 25 (0, 0)) qnmo6_ hb)
     have n2_ := Aside0.mk (blk_below (g := gb113) (o := .cells #[.bool false, .string (⟨#[]⟩ : ByteArray), .string (⟨#[]⟩ : ByteArray), .int .i64 0] 25 (0, 0)) qnmo16_ hb)
     have n3_ := Aside0.mk (below_step qnmo9_ hb)
     clear BK109
     clear BK110
     clear BK113
     clear HB
     have BK109 := n0_
     have BK110 := n1_
     have BK113 := n2_
     have HB := n3_
     clear n0_ n1_ n2_ n3_
     (try clear hb); (try clear hb2); (try clear hk); (try clear hi)
     refine hK.out _ _ ⟨(blk_cell BK109.out 0).trans rfl, (blk_cell BK109.out 1).trans rfl, (blk_cell BK109.out 2).trans rfl, (blk_cell BK109.out 3).trans rfl⟩ (fun hHeld => ?_)
     clear hK K
     refine norm_ (a' := ?_) ?_ ?_
     rotate_left
     ·
      show Act.put _ (some 6) _ = _
      simp only [Act.put, List.setIfInBounds_toArray, List.set_cons_zero, List.set_cons_succ, i64_w, i32_w]
      rfl
     refine one_ (i := 5) (N := some 9) #[true, true, true, true, true, true, true, true, false, true, false] rfl rfl (one_of HT_.out (by kernel_rfl)) (by decide) (fun K hK => ?_)
     refine goes_ Tryd.func67 (by kernel_rfl) rfl #[.string a0_2, .string (⟨#[48]⟩ : ByteArray)] (by rfl) rfl rfl qnmo0_ ?_
     with_reducible refine (strings_TrimRight.calls k a0_2 (⟨#[48]⟩ : ByteArray) t112 _ A3.out).mono ?_
     rintro e w11 ⟨rfl, hb⟩
     refine ⟨_, rfl, ?_⟩
     have n0_ := Aside0.mk (blk_below (g := gb109) (o := .cells #[.bool true, .string a0_1, .string a0_2, .int .i64 a0_3] 55 (0, 0)) qnmo3_ hb)
     have n1_ := Aside0.mk (blk_below (g := gb110) (o := .cells #[.bool false, .string (⟨#[]⟩ : ByteArray), .string (⟨#[]⟩ : ByteArray), .int .i64 0] 25 (0, 0)) qnmo6_ hb)
     have n2_ := Aside0.mk (blk_below (g := gb113) (o := .cells #[.bool false, .string (⟨#[]⟩ : ByteArray), .string (⟨#[]⟩ : ByteArray), .int .i64 0] 25 (0, 0)) qnmo16_ hb)
     have n3_ := Aside0.mk (below_step qnmo9_ hb)
     clear BK109
     clear BK110
     clear BK113
     clear HB
     have BK109 := n0_
     have BK110 := n1_
     have BK113 := n2_
     have HB := n3_
     clear n0_ n1_ n2_ n3_
     (try clear hb); (try clear hb2); (try clear hk); (try clear hi)
     refine hK.out _ _ ⟨(blk_cell BK109.out 0).trans rfl, (blk_cell BK109.out 1).trans rfl, (blk_cell BK109.out 2).trans rfl, (blk_cell BK109.out 3).trans rfl⟩ (fun hHeld => ?_)
     clear hK K
     refine norm_ (a' := ?_) ?_ ?_
     rotate_left
     ·
      show Act.put _ (some 9) _ = _
      simp only [Act.put, List.setIfInBounds_toArray, List.set_cons_zero, List.set_cons_succ, i64_w, i32_w]
      rfl
     refine pure_ (i := 8) (N := some 12) (v := ?_) (a' := ?_) #[true, true, true, true, true, true, true, true, true, true, false] rfl rfl (any_of HT_.out (by kernel_rfl)) (fun _ _ _ h => h) (Or.inl ⟨by rfl, ?_⟩) ?_ ?_
     rotate_left
     ·
      intro w'
      go_simp
      with_reducible rfl
     rotate_left
     ·
      simp only [Act.put, List.setIfInBounds_toArray, List.set_cons_zero, List.set_cons_succ, i64_w, i32_w]
      rfl
     exact norm_ qnmo33_ (hCont (gb113) _ ⟨hHeld, qnmo3_, qnmo6_, qnmo16_, GW113.out, GE113.out, NB109_113.out, NB113_109.out, NB110_113.out, NB113_110.out, qnmo9_⟩)
   rintro gb113 w12 ⟨hS_, h0_, h1_, h2_, h3_, h4_, h5_, h6_, h7_, h8_, h9_⟩
   have n0_ : Aside0 (w12.heap[gb109]? = some (.cells #[.bool true, .string a0_1, .string a0_2, .int .i64 a0_3] 55 (0, 0))) := ⟨h0_⟩
   have n1_ : Aside0 (w12.heap[gb110]? = some (.cells #[.bool false, .string (⟨#[]⟩ : ByteArray), .string (⟨#[]⟩ : ByteArray), .int .i64 0] 25 (0, 0))) := ⟨h1_⟩
   have n2_ : Aside0 (w12.heap[gb113]? = some (.cells #[.bool false, .string (⟨#[]⟩ : ByteArray), .string (⟨#[]⟩ : ByteArray), .int .i64 0] 25 (0, 0))) := ⟨h2_⟩
   have n3_ : Aside0 (w.heap.size ≤ gb113) := ⟨h3_⟩
   have n4_ : Aside0 (w.heap.size ≤ gb113) := ⟨h4_⟩
   have n5_ : Aside0 (gb109 ≠ gb113) := ⟨h5_⟩
   have n6_ : Aside0 (gb113 ≠ gb109) := ⟨h6_⟩
   have n7_ : Aside0 (gb110 ≠ gb113) := ⟨h7_⟩
   have n8_ : Aside0 (gb113 ≠ gb110) := ⟨h8_⟩
   have n9_ : Aside0 (Below w.heap.size w w12) := ⟨h9_⟩
   clear BK109
   clear BK110
   clear HB
   clear h0_ h1_ h2_ h3_ h4_ h5_ h6_ h7_ h8_ h9_
   have BK109 := n0_
   have BK110 := n1_
   have BK113 := n2_
   have GW113 := n3_
   have GE113 := n4_
   have NB109_113 := n5_
   have NB113_109 := n6_
   have NB110_113 := n7_
   have NB113_110 := n8_
   have HB := n9_
   clear n0_ n1_ n2_ n3_ n4_ n5_ n6_ n7_ n8_ n9_
   have hHeld : w12.cell? ⟨gb109, 0, none⟩ = some (.bool true) ∧ w12.cell? ⟨gb109, 1, none⟩ = some (.string a0_1) ∧ w12.cell? ⟨gb109, 2, none⟩ = some (.string a0_2) ∧ w12.cell? ⟨gb109, 3, none⟩ = some (.int .i64 a0_3) := hS_
   refine norm_ (a' := ?_) ?_ ?_
   rotate_left
   ·
    simp only [putAll, Act.put, List.setIfInBounds_toArray, List.set_cons_zero, List.set_cons_succ]
    rfl
   refine one_ (i := 10) (N := none) #[true, true, true, true, true, true, true, true, true, true, true] rfl rfl (one_of HT_.out (by kernel_rfl)) (by decide) (fun K hK => ?_)
   have hs13 : w12.cell? ⟨gb113, 0, none⟩ = some (.bool false) := (blk_cell BK113.out 0).trans rfl
   have hfs13 := blk_frozen BK113.out 0
   have hns13_0 := NB109_113.out
   have hns13_1 := NB110_113.out
   have hms13_0 := NB113_109.out
   have hms13_1 := NB113_110.out
   have hs14 : w12.cell? ⟨gb113, 1, none⟩ = some (.string (⟨#[]⟩ : ByteArray)) := (blk_cell BK113.out 1).trans rfl
   have hfs14 := blk_frozen BK113.out 1
   have hns14_0 := NB109_113.out
   have hns14_1 := NB110_113.out
   have hms14_0 := NB113_109.out
   have hms14_1 := NB113_110.out
   have hs15 : w12.cell? ⟨gb113, 2, none⟩ = some (.string (⟨#[]⟩ : ByteArray)) := (blk_cell BK113.out 2).trans rfl
   have hfs15 := blk_frozen BK113.out 2
   have hns15_0 := NB109_113.out
   have hns15_1 := NB110_113.out
   have hms15_0 := NB113_109.out
   have hms15_1 := NB113_110.out
   have hs16 : w12.cell? ⟨gb113, 3, none⟩ = some (.int .i64 0) := (blk_cell BK113.out 3).trans rfl
   have hfs16 := blk_frozen BK113.out 3
   have hns16_0 := NB109_113.out
   have hns16_1 := NB110_113.out
   have hms16_0 := NB113_109.out
   have hms16_1 := NB113_110.out
   refine skip_ (w1 := ?_) (by rfl) rfl ?_ ?_
   rotate_left
   ·
    go_simp
    rfl
   refine hK.out _ _ ⟨((cell_far (p := ⟨gb113, _, none⟩) NB109_113.out _).trans (((cell_far (p := ⟨gb113, _, none⟩) NB109_113.out _).trans (((cell_far (p := ⟨gb113, _, none⟩) NB109_113.out _).trans (((cell_far (p := ⟨gb113, _, none⟩) NB109_113.out _).trans (hHeld.1)))))))), ((cell_far (p := ⟨gb113, _, none⟩) NB109_113.out _).trans (((cell_far (p := ⟨gb113, _, none⟩) NB109_113.out _).trans (((cell_far (p := ⟨gb113, _, none⟩) NB109_113.out _).trans (((cell_far (p := ⟨gb113, _, none⟩) NB109_113.out _).trans (hHeld.2.1)))))))), ((cell_far (p := ⟨gb113, _, none⟩) NB109_113.out _).trans (((cell_far (p := ⟨gb113, _, none⟩) NB109_113.out _).trans (((cell_far (p := ⟨gb113, _, none⟩) NB109_113.out _).trans (((cell_far (p := ⟨gb113, _, none⟩) NB109_113.out _).trans (hHeld.2.2.1)))))))), ((cell_far (p := ⟨gb113, _, none⟩) NB109_113.out _).trans (((cell_far (p := ⟨gb113, _, none⟩) NB109_113.out _).trans (((cell_far (p := ⟨gb113, _, none⟩) NB109_113.out _).trans (((cell_far (p := ⟨gb113, _, none⟩) NB109_113.out _).trans (hHeld.2.2.2))))))))⟩ (fun hHeld => ?_)
   clear hK K
   refine done_ (done_of HT_.out (by kernel_rfl)) ?_
   have hnb17 := NB109_110.out
   have hnc17 := NB110_109.out
   have hnb18 := NB109_113.out
   have hnc18 := NB113_109.out
   have hcz19_0 : w12.cell? ⟨gb109, 0, none⟩ = some (.bool true) := (blk_cell BK109.out 0).trans rfl
   have hcz19_1 : w12.cell? ⟨gb109, 1, none⟩ = some (.string a0_1) := (blk_cell BK109.out 1).trans rfl
   have hcz19_2 : w12.cell? ⟨gb109, 2, none⟩ = some (.string a0_2) := (blk_cell BK109.out 2).trans rfl
   have hcz19_3 : w12.cell? ⟨gb109, 3, none⟩ = some (.int .i64 a0_3) := (blk_cell BK109.out 3).trans rfl
   have hfz19_0 := blk_frozen BK109.out 0
   have hfz19_1 := blk_frozen BK109.out 1
   have hfz19_2 := blk_frozen BK109.out 2
   have hfz19_3 := blk_frozen BK109.out 3
   have hnb20 := NB113_110.out
   have hnc20 := NB110_113.out
   have hcz21_0 : w12.cell? ⟨gb113, 0, none⟩ = some (.bool false) := (blk_cell BK113.out 0).trans rfl
   have hcz21_1 : w12.cell? ⟨gb113, 1, none⟩ = some (.string (⟨#[]⟩ : ByteArray)) := (blk_cell BK113.out 1).trans rfl
   have hcz21_2 : w12.cell? ⟨gb113, 2, none⟩ = some (.string (⟨#[]⟩ : ByteArray)) := (blk_cell BK113.out 2).trans rfl
   have hcz21_3 : w12.cell? ⟨gb113, 3, none⟩ = some (.int .i64 0) := (blk_cell BK113.out 3).trans rfl
   have hfz21_0 := blk_frozen BK113.out 0
   have hfz21_1 := blk_frozen BK113.out 1
   have hfz21_2 := blk_frozen BK113.out 2
   have hfz21_3 := blk_frozen BK113.out 3
   have hcz22_0 : w12.cell? ⟨gb110, 0, none⟩ = some (.bool false) := (blk_cell BK110.out 0).trans rfl
   have hcz22_1 : w12.cell? ⟨gb110, 1, none⟩ = some (.string (⟨#[]⟩ : ByteArray)) := (blk_cell BK110.out 1).trans rfl
   have hcz22_2 : w12.cell? ⟨gb110, 2, none⟩ = some (.string (⟨#[]⟩ : ByteArray)) := (blk_cell BK110.out 2).trans rfl
   have hcz22_3 : w12.cell? ⟨gb110, 3, none⟩ = some (.int .i64 0) := (blk_cell BK110.out 3).trans rfl
   have hfz22_0 := blk_frozen BK110.out 0
   have hfz22_1 := blk_frozen BK110.out 1
   have hfz22_2 := blk_frozen BK110.out 2
   have hfz22_3 := blk_frozen BK110.out 3
   try go_wp2
   refine bodyPost_ret (results_cell_row rfl _ _ gb110 25 #[.bool (!t112.toList.isEmpty), .string t111, .string t112, .int .i64 a0_3] (0, 0) _ rfl (by (with_reducible repeat (first | refine blk_drewN ?_ _ | refine blk_drew ?_ | refine blk_alloc ?_ _)); refine blk_put (cs := #[.bool (!t112.toList.isEmpty), .string t111, .string t112, .int .i64 0]) ?_ 3 _ rfl; (with_reducible repeat (first | refine blk_drewN ?_ _ | refine blk_drew ?_ | refine blk_alloc ?_ _)); refine blk_put (cs := #[.bool (!t112.toList.isEmpty), .string t111, .string (⟨#[]⟩ : ByteArray), .int .i64 0]) ?_ 2 _ rfl; (with_reducible repeat (first | refine blk_drewN ?_ _ | refine blk_drew ?_ | refine blk_alloc ?_ _)); refine blk_put (cs := #[.bool (!t112.toList.isEmpty), .string (⟨#[]⟩ : ByteArray), .string (⟨#[]⟩ : ByteArray), .int .i64 0]) ?_ 1 _ rfl; (with_reducible repeat (first | refine blk_drewN ?_ _ | refine blk_drew ?_ | refine blk_alloc ?_ _)); refine blk_put (cs := #[.bool false, .string (⟨#[]⟩ : ByteArray), .string (⟨#[]⟩ : ByteArray), .int .i64 0]) ?_ 0 _ rfl; (with_reducible repeat (first | refine blk_drewN ?_ _ | refine blk_drew ?_ | refine blk_alloc ?_ _)); refine blk_far ?_ NB110_113.out _; (with_reducible repeat (first | refine blk_drewN ?_ _ | refine blk_drew ?_ | refine blk_alloc ?_ _)); refine blk_far ?_ NB110_113.out _; (with_reducible repeat (first | refine blk_drewN ?_ _ | refine blk_drew ?_ | refine blk_alloc ?_ _)); refine blk_far ?_ NB110_113.out _; (with_reducible repeat (first | refine blk_drewN ?_ _ | refine blk_drew ?_ | refine blk_alloc ?_ _)); refine blk_far ?_ NB110_113.out _; (with_reducible repeat (first | refine blk_drewN ?_ _ | refine blk_drew ?_ | refine blk_alloc ?_ _)); refine blk_far ?_ NB110_113.out _; (with_reducible repeat (first | refine blk_drewN ?_ _ | refine blk_drew ?_ | refine blk_alloc ?_ _)); exact BK110.out) Tryd.underlying25 rfl (by kernel_rfl)) rfl ?_
   exact ⟨qnmo10_, qnmo9_⟩
  ·
   rw [if_neg c5] at H
   have c5b0 : (t111.toList == ([] : List UInt8)) = false := beq_eq_false_iff_ne.mpr c5
   have c5b1 : (t111.toList != ([] : List UInt8)) = true := bne_iff_ne.mpr c5
   simp only [Option.some.injEq, Prod.mk.injEq] at H
   obtain ⟨rfl, rfl, rfl, rfl⟩ := H
   go_enter Tryd.func32, Tryd.ntmps32
   have tk42 : True := trivial; have tk43 : True := trivial
   try go_wp2_with (first | (have ztk42 := tk42; clear tk42 ztk42; (with_reducible refine gate_dst (N := 1) rfl ?_); refine box_event ?hg (N := 1) ?hd (cs := #[.bool true, .string a0_1, .string a0_2, .int .i64 a0_3]) (t := 55) ?hr ?_; (case hd => rfl); (case hg => rfl); (case hr => first | (go_simp; done) | (go_simp; rfl)); intro gb109 hg w25 hbox hb; have n0_ := Aside0.mk (below_step qnmo1_ hb); have n1_ := Aside0.mk (hbox); have n2_ := Aside0.mk ((by rw [hg]; exact (below_size qnmo1_) : w.heap.size ≤ gb109)); have n3_ := Aside0.mk ((by rw [hg]; exact (below_size qnmo1_) : w.heap.size ≤ gb109)); clear HB; have HB := n0_; have BK109 := n1_; have GW109 := n2_; have GE109 := n3_; clear n0_ n1_ n2_ n3_; clear hb hbox hg) | (have ztk43 := tk43; clear tk43 ztk43; (with_reducible refine gate_dst (N := 2) rfl ?_); refine box_event ?hg (N := 2) ?hd (cs := #[.bool false, .string (⟨#[]⟩ : ByteArray), .string (⟨#[]⟩ : ByteArray), .int .i64 0]) (t := 25) ?hr ?_; (case hd => rfl); (case hg => rfl); (case hr => first | (go_simp; done) | (go_simp; rfl)); intro gb110 hg w26 hbox hb; have n0_ := Aside0.mk (blk_below (g := gb109) (o := .cells #[.bool true, .string a0_1, .string a0_2, .int .i64 a0_3] 55 (0, 0)) qnmo3_ hb); have n1_ := Aside0.mk (below_step qnmo20_ hb); have n2_ := Aside0.mk (hbox); have n3_ := Aside0.mk ((by rw [hg]; exact (below_size qnmo20_) : w.heap.size ≤ gb110)); have n4_ := Aside0.mk ((by rw [hg]; exact (below_size qnmo20_) : w.heap.size ≤ gb110)); have n5_ := Aside0.mk ((by rw [hg]; exact Nat.ne_of_lt (blk_lt (g := gb109) (o := .cells #[.bool true, .string a0_1, .string a0_2, .int .i64 a0_3] 55 (0, 0)) qnmo3_) : gb109 ≠ gb110)); have n6_ := Aside0.mk ((by rw [hg]; exact Nat.ne_of_gt (blk_lt (g := gb109) (o := .cells #[.bool true, .string a0_1, .string a0_2, .int .i64 a0_3] 55 (0, 0)) qnmo3_) : gb110 ≠ gb109)); clear BK109; clear HB; have BK109 := n0_; have HB := n1_; have BK110 := n2_; have GW110 := n3_; have GE110 := n4_; have NB109_110 := n5_; have NB110_109 := n6_; clear n0_ n1_ n2_ n3_ n4_ n5_ n6_; clear hb hbox hg))
   have n0_ := Aside0.mk (blk_drew BK109.out)
   have n1_ := Aside0.mk (blk_drew BK110.out)
   have n2_ := Aside0.mk (below_drew1 HB.out)
   clear BK109
   clear BK110
   clear HB
   have BK109 := n0_
   have BK110 := n1_
   have HB := n2_
   clear n0_ n1_ n2_
   refine start_ (n := 11) (S := fun w' => w'.cell? ⟨gb109, 0, none⟩ = some (.bool true) ∧ w'.cell? ⟨gb109, 1, none⟩ = some (.string a0_1) ∧ w'.cell? ⟨gb109, 2, none⟩ = some (.string a0_2) ∧ w'.cell? ⟨gb109, 3, none⟩ = some (.int .i64 a0_3)) (ds := []) #[false, false, false, false, false, false, false, false, false, false, false] (by kernel_rfl) rfl rfl ⟨(blk_cell BK109.out 0).trans rfl, (blk_cell BK109.out 1).trans rfl, (blk_cell BK109.out 2).trans rfl, (blk_cell BK109.out 3).trans rfl⟩ (fun hHeld => ?_); refine with_tabW numeral_decimal.tab1 numeral_decimal.bits1 (fun HT_ HW_ => ?_)
   generalize w26.drew = w27 at BK109 BK110 HB hHeld ⊢
   refine pure_ (i := 0) (N := some 4) (v := ?_) (a' := ?_) #[true, false, false, false, false, false, false, false, false, false, false] rfl rfl (any_of HT_.out (by kernel_rfl)) (fun _ _ _ h => h) (Or.inl ⟨by rfl, ?_⟩) ?_ ?_
   rotate_left
   ·
    intro w'
    go_simp
    with_reducible rfl
   rotate_left
   ·
    simp only [Act.put, List.setIfInBounds_toArray, List.set_cons_zero, List.set_cons_succ, i64_w, i32_w]
    rfl
   refine pure_ (i := 3) (N := some 7) (v := ?_) (a' := ?_) #[true, false, false, true, false, false, false, false, false, false, false] rfl rfl (any_of HT_.out (by kernel_rfl)) (fun _ _ _ h => h) (Or.inl ⟨by rfl, ?_⟩) ?_ ?_
   rotate_left
   ·
    intro w'
    go_simp
    with_reducible rfl
   rotate_left
   ·
    simp only [Act.put, List.setIfInBounds_toArray, List.set_cons_zero, List.set_cons_succ, i64_w, i32_w]
    rfl
   refine pure_ (i := 6) (N := some 10) (v := ?_) (a' := ?_) #[true, false, false, true, false, false, true, false, false, false, false] rfl rfl (any_of HT_.out (by kernel_rfl)) (fun _ _ _ h => h) (Or.inl ⟨by rfl, ?_⟩) ?_ ?_
   rotate_left
   ·
    intro w'
    go_simp
    with_reducible rfl
   rotate_left
   ·
    simp only [Act.put, List.setIfInBounds_toArray, List.set_cons_zero, List.set_cons_succ, i64_w, i32_w]
    rfl
   refine take_ (i := 1) (N := some 5) (v := ?_) (a' := ?_) #[true, true, false, true, false, false, true, false, false, false, false] rfl rfl (take_ofW HT_.out HW_.out (by kernel_rfl)) (fun _ _ _ h => h) (Or.inl ⟨by rfl, ?_⟩) hHeld ?_ ?_
   rotate_left
   ·
    rintro w' ⟨s0, s1, s2, s3⟩
    go_simp
    with_reducible rfl
   rotate_left
   ·
    simp only [Act.put, List.setIfInBounds_toArray, List.set_cons_zero, List.set_cons_succ, i64_w, i32_w]
    rfl
   refine take_ (i := 4) (N := some 8) (v := ?_) (a' := ?_) #[true, true, false, true, true, false, true, false, false, false, false] rfl rfl (take_ofW HT_.out HW_.out (by kernel_rfl)) (fun _ _ _ h => h) (Or.inl ⟨by rfl, ?_⟩) hHeld ?_ ?_
   rotate_left
   ·
    rintro w' ⟨s0, s1, s2, s3⟩
    go_simp
    with_reducible rfl
   rotate_left
   ·
    simp only [Act.put, List.setIfInBounds_toArray, List.set_cons_zero, List.set_cons_succ, i64_w, i32_w]
    rfl
   refine take_ (i := 7) (N := some 11) (v := ?_) (a' := ?_) #[true, true, false, true, true, false, true, true, false, false, false] rfl rfl (take_ofW HT_.out HW_.out (by kernel_rfl)) (fun _ _ _ h => h) (Or.inl ⟨by rfl, ?_⟩) hHeld ?_ ?_
   rotate_left
   ·
    rintro w' ⟨s0, s1, s2, s3⟩
    go_simp
    with_reducible rfl
   rotate_left
   ·
    simp only [Act.put, List.setIfInBounds_toArray, List.set_cons_zero, List.set_cons_succ, i64_w, i32_w]
    rfl
   refine join_ (σ := Nat) 1 #[true, true, true, true, true, true, true, true, true, true, false] (fun s_ => [(6, .string t111), (9, .string t112), (3, .pointer (some ⟨s_, 0, none⟩)), (12, .agg #[.bool false, .string t111, .string t112, .int .i64 a0_3])]) (fun s_ w' => (w'.cell? ⟨gb109, 0, none⟩ = some (.bool true) ∧ w'.cell? ⟨gb109, 1, none⟩ = some (.string a0_1) ∧ w'.cell? ⟨gb109, 2, none⟩ = some (.string a0_2) ∧ w'.cell? ⟨gb109, 3, none⟩ = some (.int .i64 a0_3)) ∧ (w'.heap[gb109]? = some (.cells #[.bool true, .string a0_1, .string a0_2, .int .i64 a0_3] 55 (0, 0))) ∧ (w'.heap[gb110]? = some (.cells #[.bool false, .string (⟨#[]⟩ : ByteArray), .string (⟨#[]⟩ : ByteArray), .int .i64 0] 25 (0, 0))) ∧ (w'.heap[s_]? = some (.cells #[.bool false, .string (⟨#[]⟩ : ByteArray), .string (⟨#[]⟩ : ByteArray), .int .i64 0] 25 (0, 0))) ∧ (w.heap.size ≤ s_) ∧ (w.heap.size ≤ s_) ∧ (gb109 ≠ s_) ∧ (s_ ≠ gb109) ∧ (gb110 ≠ s_) ∧ (s_ ≠ gb110) ∧ (Below w.heap.size w w')) ?_ ?_
   rotate_left
   ·
    intro hCont
    refine two_ (i := 2) (j := 9) (Ni := some 6) (Nj := some 3) #[true, true, true, true, true, false, true, true, false, false, false] #[true, true, false, true, true, false, true, true, false, true, false] rfl rfl rfl rfl (two_of HT_.out (by kernel_rfl)) (by decide) (by decide) (fun K hK => ?_) (fun K hK => ?_)
    ·
     skip
     refine goes_ Tryd.func66 (by kernel_rfl) rfl #[.string a0_1, .string (⟨#[48]⟩ : ByteArray)] (by rfl) rfl rfl qnmo0_ ?_
     with_reducible refine (strings_TrimLeft.calls k a0_1 (⟨#[48]⟩ : ByteArray) t111 _ A2.out).mono ?_
     rintro e w28 ⟨rfl, hb⟩
     refine ⟨_, rfl, ?_⟩
     have n0_ := Aside0.mk (blk_below (g := gb109) (o := .cells #[.bool true, .string a0_1, .string a0_2, .int .i64 a0_3] 55 (0, 0)) qnmo3_ hb)
     have n1_ := Aside0.mk (blk_below (g := gb110) (o := .cells #[.bool false, .string (⟨#[]⟩ : ByteArray), .string (⟨#[]⟩ : ByteArray), .int .i64 0] 25 (0, 0)) qnmo6_ hb)
     have n2_ := Aside0.mk (below_step qnmo4_ hb)
     clear BK109
     clear BK110
     clear HB
     have BK109 := n0_
     have BK110 := n1_
     have HB := n2_
     clear n0_ n1_ n2_
     (try clear hb); (try clear hb2); (try clear hk); (try clear hi)
     refine hK.out _ _ ⟨(blk_cell BK109.out 0).trans rfl, (blk_cell BK109.out 1).trans rfl, (blk_cell BK109.out 2).trans rfl, (blk_cell BK109.out 3).trans rfl⟩ (fun hHeld => ?_)
     clear hK K
     refine norm_ (a' := ?_) ?_ ?_
     rotate_left
     ·
      show Act.put _ (some 6) _ = _
      simp only [Act.put, List.setIfInBounds_toArray, List.set_cons_zero, List.set_cons_succ, i64_w, i32_w]
      rfl
     refine two_ (i := 5) (j := 9) (Ni := some 9) (Nj := some 3) #[true, true, true, true, true, true, true, true, false, false, false] #[true, true, true, true, true, false, true, true, false, true, false] rfl rfl rfl rfl (two_of HT_.out (by kernel_rfl)) (by decide) (by decide) (fun K hK => ?_) (fun K hK => ?_)
     ·
      skip
      refine goes_ Tryd.func67 (by kernel_rfl) rfl #[.string a0_2, .string (⟨#[48]⟩ : ByteArray)] (by rfl) rfl rfl qnmo0_ ?_
      with_reducible refine (strings_TrimRight.calls k a0_2 (⟨#[48]⟩ : ByteArray) t112 _ A3.out).mono ?_
      rintro e w29 ⟨rfl, hb⟩
      refine ⟨_, rfl, ?_⟩
      have n0_ := Aside0.mk (blk_below (g := gb109) (o := .cells #[.bool true, .string a0_1, .string a0_2, .int .i64 a0_3] 55 (0, 0)) qnmo3_ hb)
      have n1_ := Aside0.mk (blk_below (g := gb110) (o := .cells #[.bool false, .string (⟨#[]⟩ : ByteArray), .string (⟨#[]⟩ : ByteArray), .int .i64 0] 25 (0, 0)) qnmo6_ hb)
      have n2_ := Aside0.mk (below_step qnmo4_ hb)
      clear BK109
      clear BK110
      clear HB
      have BK109 := n0_
      have BK110 := n1_
      have HB := n2_
      clear n0_ n1_ n2_
      (try clear hb); (try clear hb2); (try clear hk); (try clear hi)
      refine hK.out _ _ ⟨(blk_cell BK109.out 0).trans rfl, (blk_cell BK109.out 1).trans rfl, (blk_cell BK109.out 2).trans rfl, (blk_cell BK109.out 3).trans rfl⟩ (fun hHeld => ?_)
      clear hK K
      refine norm_ (a' := ?_) ?_ ?_
      rotate_left
      ·
       show Act.put _ (some 9) _ = _
       simp only [Act.put, List.setIfInBounds_toArray, List.set_cons_zero, List.set_cons_succ, i64_w, i32_w]
       rfl
      refine pure_ (i := 8) (N := some 12) (v := ?_) (a' := ?_) #[true, true, true, true, true, true, true, true, true, false, false] rfl rfl (any_of HT_.out (by kernel_rfl)) (fun _ _ _ h => h) (Or.inl ⟨by rfl, ?_⟩) ?_ ?_
      rotate_left
      ·
       intro w'
       go_simp
       with_reducible rfl
      rotate_left
      ·
       simp only [Act.put, List.setIfInBounds_toArray, List.set_cons_zero, List.set_cons_succ, i64_w, i32_w]
       rfl
      refine one_ (i := 9) (N := some 3) #[true, true, true, true, true, true, true, true, true, true, false] rfl rfl (one_of HT_.out (by kernel_rfl)) (by decide) (fun K hK => ?_)
      refine box_step ?hg (N := 3) ?hd (cs := #[.bool false, .string (⟨#[]⟩ : ByteArray), .string (⟨#[]⟩ : ByteArray), .int .i64 0]) (t := 25) ?hr ?_; (case hd => rfl); (case hg => rfl); (case hr => first | (go_simp; done) | (go_simp; rfl))
      intro gb113 hg w30 hbox hb
      have n0_ := Aside0.mk (blk_below (g := gb109) (o := .cells #[.bool true, .string a0_1, .string a0_2, .int .i64 a0_3] 55 (0, 0)) qnmo3_ hb)
      have n1_ := Aside0.mk (blk_below (g := gb110) (o := .cells #[.bool false, .string (⟨#[]⟩ : ByteArray), .string (⟨#[]⟩ : ByteArray), .int .i64 0] 25 (0, 0)) qnmo6_ hb)
      have n2_ := Aside0.mk (below_step qnmo4_ hb)
      have n3_ := Aside0.mk (hbox)
      have n4_ := Aside0.mk ((by rw [hg]; exact (below_size qnmo4_) : w.heap.size ≤ gb113))
      have n5_ := Aside0.mk ((by rw [hg]; exact (below_size qnmo4_) : w.heap.size ≤ gb113))
      have n6_ := Aside0.mk ((by rw [hg]; exact Nat.ne_of_lt (blk_lt (g := gb109) (o := .cells #[.bool true, .string a0_1, .string a0_2, .int .i64 a0_3] 55 (0, 0)) qnmo3_) : gb109 ≠ gb113))
      have n7_ := Aside0.mk ((by rw [hg]; exact Nat.ne_of_gt (blk_lt (g := gb109) (o := .cells #[.bool true, .string a0_1, .string a0_2, .int .i64 a0_3] 55 (0, 0)) qnmo3_) : gb113 ≠ gb109))
      have n8_ := Aside0.mk ((by rw [hg]; exact Nat.ne_of_lt (blk_lt (g := gb110) (o := .cells #[.bool false, .string (⟨#[]⟩ : ByteArray), .string (⟨#[]⟩ : ByteArray), .int .i64 0] 25 (0, 0)) qnmo6_) : gb110 ≠ gb113))
      have n9_ := Aside0.mk ((by rw [hg]; exact Nat.ne_of_gt (blk_lt (g := gb110) (o := .cells #[.bool false, .string (⟨#[]⟩ : ByteArray), .string (⟨#[]⟩ : ByteArray), .int .i64 0] 25 (0, 0)) qnmo6_) : gb113 ≠ gb110))
      clear BK109
      clear BK110
      clear HB
      have BK109 := n0_
      have BK110 := n1_
      have HB := n2_
      have BK113 := n3_
      have GW113 := n4_
      have GE113 := n5_
      have NB109_113 := n6_
      have NB113_109 := n7_
      have NB110_113 := n8_
      have NB113_110 := n9_
      clear n0_ n1_ n2_ n3_ n4_ n5_ n6_ n7_ n8_ n9_
      clear hb hbox hg
      refine hK.out _ _ ⟨(blk_cell BK109.out 0).trans rfl, (blk_cell BK109.out 1).trans rfl, (blk_cell BK109.out 2).trans rfl, (blk_cell BK109.out 3).trans rfl⟩ (fun hHeld => ?_)
      clear hK K
      refine norm_ (a' := ?_) ?_ ?_
      rotate_left
      ·
       show Act.put _ (some 3) _ = _
       simp only [Act.put, List.setIfInBounds_toArray, List.set_cons_zero, List.set_cons_succ, i64_w, i32_w]
       rfl
      exact norm_ qnmo33_ (hCont (gb113) _ ⟨hHeld, qnmo3_, qnmo6_, qnmo16_, GW113.out, GE113.out, NB109_113.out, NB113_109.out, NB110_113.out, NB113_110.out, qnmo9_⟩)
     ·
      skip
      refine box_step ?hg (N := 3) ?hd (cs := #[.bool false, .string (⟨#[]⟩ : ByteArray), .string (⟨#[]⟩ : ByteArray), .int .i64 0]) (t := 25) ?hr ?_; (case hd => rfl); (case hg => rfl); (case hr => first | (go_simp; done) | (go_simp; rfl))
      intro gb113 hg w29 hbox hb
      have n0_ := Aside0.mk (blk_below (g := gb109) (o := .cells #[.bool true, .string a0_1, .string a0_2, .int .i64 a0_3] 55 (0, 0)) qnmo3_ hb)
      have n1_ := Aside0.mk (blk_below (g := gb110) (o := .cells #[.bool false, .string (⟨#[]⟩ : ByteArray), .string (⟨#[]⟩ : ByteArray), .int .i64 0] 25 (0, 0)) qnmo6_ hb)
      have n2_ := Aside0.mk (below_step qnmo4_ hb)
      have n3_ := Aside0.mk (hbox)
      have n4_ := Aside0.mk ((by rw [hg]; exact (below_size qnmo4_) : w.heap.size ≤ gb113))
      have n5_ := Aside0.mk ((by rw [hg]; exact (below_size qnmo4_) : w.heap.size ≤ gb113))
      have n6_ := Aside0.mk ((by rw [hg]; exact Nat.ne_of_lt (blk_lt (g := gb109) (o := .cells #[.bool true, .string a0_1, .string a0_2, .int .i64 a0_3] 55 (0, 0)) qnmo3_) : gb109 ≠ gb113))
      have n7_ := Aside0.mk ((by rw [hg]; exact Nat.ne_of_gt (blk_lt (g := gb109) (o := .cells #[.bool true, .string a0_1, .string a0_2, .int .i64 a0_3] 55 (0, 0)) qnmo3_) : gb113 ≠ gb109))
      have n8_ := Aside0.mk ((by rw [hg]; exact Nat.ne_of_lt (blk_lt (g := gb110) (o := .cells #[.bool false, .string (⟨#[]⟩ : ByteArray), .string (⟨#[]⟩ : ByteArray), .int .i64 0] 25 (0, 0)) qnmo6_) : gb110 ≠ gb113))
      have n9_ := Aside0.mk ((by rw [hg]; exact Nat.ne_of_gt (blk_lt (g := gb110) (o := .cells #[.bool false, .string (⟨#[]⟩ : ByteArray), .string (⟨#[]⟩ : ByteArray), .int .i64 0] 25 (0, 0)) qnmo6_) : gb113 ≠ gb110))
      clear BK109
      clear BK110
      clear HB
      have BK109 := n0_
      have BK110 := n1_
      have HB := n2_
      have BK113 := n3_
      have GW113 := n4_
      have GE113 := n5_
      have NB109_113 := n6_
      have NB113_109 := n7_
      have NB110_113 := n8_
      have NB113_110 := n9_
      clear n0_ n1_ n2_ n3_ n4_ n5_ n6_ n7_ n8_ n9_
      clear hb hbox hg
      refine hK.out _ _ ⟨(blk_cell BK109.out 0).trans rfl, (blk_cell BK109.out 1).trans rfl, (blk_cell BK109.out 2).trans rfl, (blk_cell BK109.out 3).trans rfl⟩ (fun hHeld => ?_)
      clear hK K
      refine norm_ (a' := ?_) ?_ ?_
      rotate_left
      ·
       show Act.put _ (some 3) _ = _
       simp only [Act.put, List.setIfInBounds_toArray, List.set_cons_zero, List.set_cons_succ, i64_w, i32_w]
       rfl
      refine one_ (i := 5) (N := some 9) #[true, true, true, true, true, true, true, true, false, true, false] rfl rfl (one_of HT_.out (by kernel_rfl)) (by decide) (fun K hK => ?_)
      refine goes_ Tryd.func67 (by kernel_rfl) rfl #[.string a0_2, .string (⟨#[48]⟩ : ByteArray)] (by rfl) rfl rfl qnmo0_ ?_
      with_reducible refine (strings_TrimRight.calls k a0_2 (⟨#[48]⟩ : ByteArray) t112 _ A3.out).mono ?_
      rintro e w30 ⟨rfl, hb⟩
      refine ⟨_, rfl, ?_⟩
      have n0_ := Aside0.mk (blk_below (g := gb109) (o := .cells #[.bool true, .string a0_1, .string a0_2, .int .i64 a0_3] 55 (0, 0)) qnmo3_ hb)
      have n1_ := Aside0.mk (blk_below (g := gb110) (o := .cells #[.bool false, .string (⟨#[]⟩ : ByteArray), .string (⟨#[]⟩ : ByteArray), .int .i64 0] 25 (0, 0)) qnmo6_ hb)
      have n2_ := Aside0.mk (blk_below (g := gb113) (o := .cells #[.bool false, .string (⟨#[]⟩ : ByteArray), .string (⟨#[]⟩ : ByteArray), .int .i64 0] 25 (0, 0)) qnmo16_ hb)
      have n3_ := Aside0.mk (below_step qnmo9_ hb)
      clear BK109
      clear BK110
      clear BK113
      clear HB
      have BK109 := n0_
      have BK110 := n1_
      have BK113 := n2_
      have HB := n3_
      clear n0_ n1_ n2_ n3_
      (try clear hb); (try clear hb2); (try clear hk); (try clear hi)
      refine hK.out _ _ ⟨(blk_cell BK109.out 0).trans rfl, (blk_cell BK109.out 1).trans rfl, (blk_cell BK109.out 2).trans rfl, (blk_cell BK109.out 3).trans rfl⟩ (fun hHeld => ?_)
      clear hK K
      refine norm_ (a' := ?_) ?_ ?_
      rotate_left
      ·
       show Act.put _ (some 9) _ = _
       simp only [Act.put, List.setIfInBounds_toArray, List.set_cons_zero, List.set_cons_succ, i64_w, i32_w]
       rfl
      refine pure_ (i := 8) (N := some 12) (v := ?_) (a' := ?_) #[true, true, true, true, true, true, true, true, true, true, false] rfl rfl (any_of HT_.out (by kernel_rfl)) (fun _ _ _ h => h) (Or.inl ⟨by rfl, ?_⟩) ?_ ?_
      rotate_left
      ·
       intro w'
       go_simp
       with_reducible rfl
      rotate_left
      ·
       simp only [Act.put, List.setIfInBounds_toArray, List.set_cons_zero, List.set_cons_succ, i64_w, i32_w]
       rfl
      exact norm_ qnmo33_ (hCont (gb113) _ ⟨hHeld, qnmo3_, qnmo6_, qnmo16_, GW113.out, GE113.out, NB109_113.out, NB113_109.out, NB110_113.out, NB113_110.out, qnmo9_⟩)
    ·
     skip
     refine box_step ?hg (N := 3) ?hd (cs := #[.bool false, .string (⟨#[]⟩ : ByteArray), .string (⟨#[]⟩ : ByteArray), .int .i64 0]) (t := 25) ?hr ?_; (case hd => rfl); (case hg => rfl); (case hr => first | (go_simp; done) | (go_simp; rfl))
     intro gb113 hg w28 hbox hb
     have n0_ := Aside0.mk (blk_below (g := gb109) (o := .cells #[.bool true, .string a0_1, .string a0_2, .int .i64 a0_3] 55 (0, 0)) qnmo3_ hb)
     have n1_ := Aside0.mk (blk_below (g := gb110) (o := .cells #[.bool false, .string (⟨#[]⟩ : ByteArray), .string (⟨#[]⟩ : ByteArray), .int .i64 0] 25 (0, 0)) qnmo6_ hb)
     have n2_ := Aside0.mk (below_step qnmo4_ hb)
     have n3_ := Aside0.mk (hbox)
     have n4_ := Aside0.mk ((by rw [hg]; exact (below_size qnmo4_) : w.heap.size ≤ gb113))
     have n5_ := Aside0.mk ((by rw [hg]; exact (below_size qnmo4_) : w.heap.size ≤ gb113))
     have n6_ := Aside0.mk ((by rw [hg]; exact Nat.ne_of_lt (blk_lt (g := gb109) (o := .cells #[.bool true, .string a0_1, .string a0_2, .int .i64 a0_3] 55 (0, 0)) qnmo3_) : gb109 ≠ gb113))
     have n7_ := Aside0.mk ((by rw [hg]; exact Nat.ne_of_gt (blk_lt (g := gb109) (o := .cells #[.bool true, .string a0_1, .string a0_2, .int .i64 a0_3] 55 (0, 0)) qnmo3_) : gb113 ≠ gb109))
     have n8_ := Aside0.mk ((by rw [hg]; exact Nat.ne_of_lt (blk_lt (g := gb110) (o := .cells #[.bool false, .string (⟨#[]⟩ : ByteArray), .string (⟨#[]⟩ : ByteArray), .int .i64 0] 25 (0, 0)) qnmo6_) : gb110 ≠ gb113))
     have n9_ := Aside0.mk ((by rw [hg]; exact Nat.ne_of_gt (blk_lt (g := gb110) (o := .cells #[.bool false, .string (⟨#[]⟩ : ByteArray), .string (⟨#[]⟩ : ByteArray), .int .i64 0] 25 (0, 0)) qnmo6_) : gb113 ≠ gb110))
     clear BK109
     clear BK110
     clear HB
     have BK109 := n0_
     have BK110 := n1_
     have HB := n2_
     have BK113 := n3_
     have GW113 := n4_
     have GE113 := n5_
     have NB109_113 := n6_
     have NB113_109 := n7_
     have NB110_113 := n8_
     have NB113_110 := n9_
     clear n0_ n1_ n2_ n3_ n4_ n5_ n6_ n7_ n8_ n9_
     clear hb hbox hg
     refine hK.out _ _ ⟨(blk_cell BK109.out 0).trans rfl, (blk_cell BK109.out 1).trans rfl, (blk_cell BK109.out 2).trans rfl, (blk_cell BK109.out 3).trans rfl⟩ (fun hHeld => ?_)
     clear hK K
     refine norm_ (a' := ?_) ?_ ?_
     rotate_left
     ·
      show Act.put _ (some 3) _ = _
      simp only [Act.put, List.setIfInBounds_toArray, List.set_cons_zero, List.set_cons_succ, i64_w, i32_w]
      rfl
     refine one_ (i := 2) (N := some 6) #[true, true, true, true, true, false, true, true, false, true, false] rfl rfl (one_of HT_.out (by kernel_rfl)) (by decide) (fun K hK => ?_)
     refine goes_ Tryd.func66 (by kernel_rfl) rfl #[.string a0_1, .string (⟨#[48]⟩ : ByteArray)] (by rfl) rfl rfl qnmo0_ ?_
     with_reducible refine (strings_TrimLeft.calls k a0_1 (⟨#[48]⟩ : ByteArray) t111 _ A2.out).mono ?_
     rintro e w29 ⟨rfl, hb⟩
     refine ⟨_, rfl, ?_⟩
     have n0_ := Aside0.mk (blk_below (g := gb109) (o := .cells #[.bool true, .string a0_1, .string a0_2, .int .i64 a0_3] 55 (0, 0)) qnmo3_ hb)
     have n1_ := Aside0.mk (blk_below (g := gb110) (o := .cells #[.bool false, .string (⟨#[]⟩ : ByteArray), .string (⟨#[]⟩ : ByteArray), .int .i64 0] 25 (0, 0)) qnmo6_ hb)
     have n2_ := Aside0.mk (blk_below (g := gb113) (o := .cells #[.bool false, .string (⟨#[]⟩ : ByteArray), .string (⟨#[]⟩ : ByteArray), .int .i64 0] 25 (0, 0)) qnmo16_ hb)
     have n3_ := Aside0.mk (below_step qnmo9_ hb)
     clear BK109
     clear BK110
     clear BK113
     clear HB
     have BK109 := n0_
     have BK110 := n1_
     have BK113 := n2_
     have HB := n3_
     clear n0_ n1_ n2_ n3_
     (try clear hb); (try clear hb2); (try clear hk); (try clear hi)
     refine hK.out _ _ ⟨(blk_cell BK109.out 0).trans rfl, (blk_cell BK109.out 1).trans rfl, (blk_cell BK109.out 2).trans rfl, (blk_cell BK109.out 3).trans rfl⟩ (fun hHeld => ?_)
     clear hK K
     refine norm_ (a' := ?_) ?_ ?_
     rotate_left
     ·
      show Act.put _ (some 6) _ = _
      simp only [Act.put, List.setIfInBounds_toArray, List.set_cons_zero, List.set_cons_succ, i64_w, i32_w]
      rfl
     refine one_ (i := 5) (N := some 9) #[true, true, true, true, true, true, true, true, false, true, false] rfl rfl (one_of HT_.out (by kernel_rfl)) (by decide) (fun K hK => ?_)
     refine goes_ Tryd.func67 (by kernel_rfl) rfl #[.string a0_2, .string (⟨#[48]⟩ : ByteArray)] (by rfl) rfl rfl qnmo0_ ?_
     with_reducible refine (strings_TrimRight.calls k a0_2 (⟨#[48]⟩ : ByteArray) t112 _ A3.out).mono ?_
     rintro e w30 ⟨rfl, hb⟩
     refine ⟨_, rfl, ?_⟩
     have n0_ := Aside0.mk (blk_below (g := gb109) (o := .cells #[.bool true, .string a0_1, .string a0_2, .int .i64 a0_3] 55 (0, 0)) qnmo3_ hb)
     have n1_ := Aside0.mk (blk_below (g := gb110) (o := .cells #[.bool false, .string (⟨#[]⟩ : ByteArray), .string (⟨#[]⟩ : ByteArray), .int .i64 0] 25 (0, 0)) qnmo6_ hb)
     have n2_ := Aside0.mk (blk_below (g := gb113) (o := .cells #[.bool false, .string (⟨#[]⟩ : ByteArray), .string (⟨#[]⟩ : ByteArray), .int .i64 0] 25 (0, 0)) qnmo16_ hb)
     have n3_ := Aside0.mk (below_step qnmo9_ hb)
     clear BK109
     clear BK110
     clear BK113
     clear HB
     have BK109 := n0_
     have BK110 := n1_
     have BK113 := n2_
     have HB := n3_
     clear n0_ n1_ n2_ n3_
     (try clear hb); (try clear hb2); (try clear hk); (try clear hi)
     refine hK.out _ _ ⟨(blk_cell BK109.out 0).trans rfl, (blk_cell BK109.out 1).trans rfl, (blk_cell BK109.out 2).trans rfl, (blk_cell BK109.out 3).trans rfl⟩ (fun hHeld => ?_)
     clear hK K
     refine norm_ (a' := ?_) ?_ ?_
     rotate_left
     ·
      show Act.put _ (some 9) _ = _
      simp only [Act.put, List.setIfInBounds_toArray, List.set_cons_zero, List.set_cons_succ, i64_w, i32_w]
      rfl
     refine pure_ (i := 8) (N := some 12) (v := ?_) (a' := ?_) #[true, true, true, true, true, true, true, true, true, true, false] rfl rfl (any_of HT_.out (by kernel_rfl)) (fun _ _ _ h => h) (Or.inl ⟨by rfl, ?_⟩) ?_ ?_
     rotate_left
     ·
      intro w'
      go_simp
      with_reducible rfl
     rotate_left
     ·
      simp only [Act.put, List.setIfInBounds_toArray, List.set_cons_zero, List.set_cons_succ, i64_w, i32_w]
      rfl
     exact norm_ qnmo33_ (hCont (gb113) _ ⟨hHeld, qnmo3_, qnmo6_, qnmo16_, GW113.out, GE113.out, NB109_113.out, NB113_109.out, NB110_113.out, NB113_110.out, qnmo9_⟩)
   rintro gb113 w31 ⟨hS_, h0_, h1_, h2_, h3_, h4_, h5_, h6_, h7_, h8_, h9_⟩
   have n0_ : Aside0 (w31.heap[gb109]? = some (.cells #[.bool true, .string a0_1, .string a0_2, .int .i64 a0_3] 55 (0, 0))) := ⟨h0_⟩
   have n1_ : Aside0 (w31.heap[gb110]? = some (.cells #[.bool false, .string (⟨#[]⟩ : ByteArray), .string (⟨#[]⟩ : ByteArray), .int .i64 0] 25 (0, 0))) := ⟨h1_⟩
   have n2_ : Aside0 (w31.heap[gb113]? = some (.cells #[.bool false, .string (⟨#[]⟩ : ByteArray), .string (⟨#[]⟩ : ByteArray), .int .i64 0] 25 (0, 0))) := ⟨h2_⟩
   have n3_ : Aside0 (w.heap.size ≤ gb113) := ⟨h3_⟩
   have n4_ : Aside0 (w.heap.size ≤ gb113) := ⟨h4_⟩
   have n5_ : Aside0 (gb109 ≠ gb113) := ⟨h5_⟩
   have n6_ : Aside0 (gb113 ≠ gb109) := ⟨h6_⟩
   have n7_ : Aside0 (gb110 ≠ gb113) := ⟨h7_⟩
   have n8_ : Aside0 (gb113 ≠ gb110) := ⟨h8_⟩
   have n9_ : Aside0 (Below w.heap.size w w31) := ⟨h9_⟩
   clear BK109
   clear BK110
   clear HB
   clear h0_ h1_ h2_ h3_ h4_ h5_ h6_ h7_ h8_ h9_
   have BK109 := n0_
   have BK110 := n1_
   have BK113 := n2_
   have GW113 := n3_
   have GE113 := n4_
   have NB109_113 := n5_
   have NB113_109 := n6_
   have NB110_113 := n7_
   have NB113_110 := n8_
   have HB := n9_
   clear n0_ n1_ n2_ n3_ n4_ n5_ n6_ n7_ n8_ n9_
   have hHeld : w31.cell? ⟨gb109, 0, none⟩ = some (.bool true) ∧ w31.cell? ⟨gb109, 1, none⟩ = some (.string a0_1) ∧ w31.cell? ⟨gb109, 2, none⟩ = some (.string a0_2) ∧ w31.cell? ⟨gb109, 3, none⟩ = some (.int .i64 a0_3) := hS_
   refine norm_ (a' := ?_) ?_ ?_
   rotate_left
   ·
    simp only [putAll, Act.put, List.setIfInBounds_toArray, List.set_cons_zero, List.set_cons_succ]
    rfl
   refine one_ (i := 10) (N := none) #[true, true, true, true, true, true, true, true, true, true, true] rfl rfl (one_of HT_.out (by kernel_rfl)) (by decide) (fun K hK => ?_)
   have hs32 : w31.cell? ⟨gb113, 0, none⟩ = some (.bool false) := (blk_cell BK113.out 0).trans rfl
   have hfs32 := blk_frozen BK113.out 0
   have hns32_0 := NB109_113.out
   have hns32_1 := NB110_113.out
   have hms32_0 := NB113_109.out
   have hms32_1 := NB113_110.out
   have hs33 : w31.cell? ⟨gb113, 1, none⟩ = some (.string (⟨#[]⟩ : ByteArray)) := (blk_cell BK113.out 1).trans rfl
   have hfs33 := blk_frozen BK113.out 1
   have hns33_0 := NB109_113.out
   have hns33_1 := NB110_113.out
   have hms33_0 := NB113_109.out
   have hms33_1 := NB113_110.out
   have hs34 : w31.cell? ⟨gb113, 2, none⟩ = some (.string (⟨#[]⟩ : ByteArray)) := (blk_cell BK113.out 2).trans rfl
   have hfs34 := blk_frozen BK113.out 2
   have hns34_0 := NB109_113.out
   have hns34_1 := NB110_113.out
   have hms34_0 := NB113_109.out
   have hms34_1 := NB113_110.out
   have hs35 : w31.cell? ⟨gb113, 3, none⟩ = some (.int .i64 0) := (blk_cell BK113.out 3).trans rfl
   have hfs35 := blk_frozen BK113.out 3
   have hns35_0 := NB109_113.out
   have hns35_1 := NB110_113.out
   have hms35_0 := NB113_109.out
   have hms35_1 := NB113_110.out
   refine skip_ (w1 := ?_) (by rfl) rfl ?_ ?_
   rotate_left
   ·
    go_simp
    rfl
   refine hK.out _ _ ⟨((cell_far (p := ⟨gb113, _, none⟩) NB109_113.out _).trans (((cell_far (p := ⟨gb113, _, none⟩) NB109_113.out _).trans (((cell_far (p := ⟨gb113, _, none⟩) NB109_113.out _).trans (((cell_far (p := ⟨gb113, _, none⟩) NB109_113.out _).trans (hHeld.1)))))))), ((cell_far (p := ⟨gb113, _, none⟩) NB109_113.out _).trans (((cell_far (p := ⟨gb113, _, none⟩) NB109_113.out _).trans (((cell_far (p := ⟨gb113, _, none⟩) NB109_113.out _).trans (((cell_far (p := ⟨gb113, _, none⟩) NB109_113.out _).trans (hHeld.2.1)))))))), ((cell_far (p := ⟨gb113, _, none⟩) NB109_113.out _).trans (((cell_far (p := ⟨gb113, _, none⟩) NB109_113.out _).trans (((cell_far (p := ⟨gb113, _, none⟩) NB109_113.out _).trans (((cell_far (p := ⟨gb113, _, none⟩) NB109_113.out _).trans (hHeld.2.2.1)))))))), ((cell_far (p := ⟨gb113, _, none⟩) NB109_113.out _).trans (((cell_far (p := ⟨gb113, _, none⟩) NB109_113.out _).trans (((cell_far (p := ⟨gb113, _, none⟩) NB109_113.out _).trans (((cell_far (p := ⟨gb113, _, none⟩) NB109_113.out _).trans (hHeld.2.2.2))))))))⟩ (fun hHeld => ?_)
   clear hK K
   refine done_ (done_of HT_.out (by kernel_rfl)) ?_
   have hnb36 := NB109_110.out
   have hnc36 := NB110_109.out
   have hnb37 := NB109_113.out
   have hnc37 := NB113_109.out
   have hcz38_0 : w31.cell? ⟨gb109, 0, none⟩ = some (.bool true) := (blk_cell BK109.out 0).trans rfl
   have hcz38_1 : w31.cell? ⟨gb109, 1, none⟩ = some (.string a0_1) := (blk_cell BK109.out 1).trans rfl
   have hcz38_2 : w31.cell? ⟨gb109, 2, none⟩ = some (.string a0_2) := (blk_cell BK109.out 2).trans rfl
   have hcz38_3 : w31.cell? ⟨gb109, 3, none⟩ = some (.int .i64 a0_3) := (blk_cell BK109.out 3).trans rfl
   have hfz38_0 := blk_frozen BK109.out 0
   have hfz38_1 := blk_frozen BK109.out 1
   have hfz38_2 := blk_frozen BK109.out 2
   have hfz38_3 := blk_frozen BK109.out 3
   have hnb39 := NB113_110.out
   have hnc39 := NB110_113.out
   have hcz40_0 : w31.cell? ⟨gb113, 0, none⟩ = some (.bool false) := (blk_cell BK113.out 0).trans rfl
   have hcz40_1 : w31.cell? ⟨gb113, 1, none⟩ = some (.string (⟨#[]⟩ : ByteArray)) := (blk_cell BK113.out 1).trans rfl
   have hcz40_2 : w31.cell? ⟨gb113, 2, none⟩ = some (.string (⟨#[]⟩ : ByteArray)) := (blk_cell BK113.out 2).trans rfl
   have hcz40_3 : w31.cell? ⟨gb113, 3, none⟩ = some (.int .i64 0) := (blk_cell BK113.out 3).trans rfl
   have hfz40_0 := blk_frozen BK113.out 0
   have hfz40_1 := blk_frozen BK113.out 1
   have hfz40_2 := blk_frozen BK113.out 2
   have hfz40_3 := blk_frozen BK113.out 3
   have hcz41_0 : w31.cell? ⟨gb110, 0, none⟩ = some (.bool false) := (blk_cell BK110.out 0).trans rfl
   have hcz41_1 : w31.cell? ⟨gb110, 1, none⟩ = some (.string (⟨#[]⟩ : ByteArray)) := (blk_cell BK110.out 1).trans rfl
   have hcz41_2 : w31.cell? ⟨gb110, 2, none⟩ = some (.string (⟨#[]⟩ : ByteArray)) := (blk_cell BK110.out 2).trans rfl
   have hcz41_3 : w31.cell? ⟨gb110, 3, none⟩ = some (.int .i64 0) := (blk_cell BK110.out 3).trans rfl
   have hfz41_0 := blk_frozen BK110.out 0
   have hfz41_1 := blk_frozen BK110.out 1
   have hfz41_2 := blk_frozen BK110.out 2
   have hfz41_3 := blk_frozen BK110.out 3
   try go_wp2
   refine bodyPost_ret (results_cell_row rfl _ _ gb110 25 #[.bool true, .string t111, .string t112, .int .i64 a0_3] (0, 0) _ rfl (by (with_reducible repeat (first | refine blk_drewN ?_ _ | refine blk_drew ?_ | refine blk_alloc ?_ _)); refine blk_put (cs := #[.bool true, .string t111, .string t112, .int .i64 0]) ?_ 3 _ rfl; (with_reducible repeat (first | refine blk_drewN ?_ _ | refine blk_drew ?_ | refine blk_alloc ?_ _)); refine blk_put (cs := #[.bool true, .string t111, .string (⟨#[]⟩ : ByteArray), .int .i64 0]) ?_ 2 _ rfl; (with_reducible repeat (first | refine blk_drewN ?_ _ | refine blk_drew ?_ | refine blk_alloc ?_ _)); refine blk_put (cs := #[.bool true, .string (⟨#[]⟩ : ByteArray), .string (⟨#[]⟩ : ByteArray), .int .i64 0]) ?_ 1 _ rfl; (with_reducible repeat (first | refine blk_drewN ?_ _ | refine blk_drew ?_ | refine blk_alloc ?_ _)); refine blk_put (cs := #[.bool false, .string (⟨#[]⟩ : ByteArray), .string (⟨#[]⟩ : ByteArray), .int .i64 0]) ?_ 0 _ rfl; (with_reducible repeat (first | refine blk_drewN ?_ _ | refine blk_drew ?_ | refine blk_alloc ?_ _)); refine blk_far ?_ NB110_113.out _; (with_reducible repeat (first | refine blk_drewN ?_ _ | refine blk_drew ?_ | refine blk_alloc ?_ _)); refine blk_far ?_ NB110_113.out _; (with_reducible repeat (first | refine blk_drewN ?_ _ | refine blk_drew ?_ | refine blk_alloc ?_ _)); refine blk_far ?_ NB110_113.out _; (with_reducible repeat (first | refine blk_drewN ?_ _ | refine blk_drew ?_ | refine blk_alloc ?_ _)); refine blk_far ?_ NB110_113.out _; (with_reducible repeat (first | refine blk_drewN ?_ _ | refine blk_drew ?_ | refine blk_alloc ?_ _)); refine blk_far ?_ NB110_113.out _; (with_reducible repeat (first | refine blk_drewN ?_ _ | refine blk_drew ?_ | refine blk_alloc ?_ _)); exact BK110.out) Tryd.underlying25 rfl (by kernel_rfl)) rfl ?_
   exact ⟨qnmo10_, qnmo9_⟩
 ·
  replace c4 := Bool.eq_false_iff.mpr c4
  subst c4
  have H1 : (some (false, t111, t112, a0_3)) = some (r1, r2, r3, r4) := by rw [if_neg (show ¬ (false = true) by decide)] at H; exact H
  clear H
  have H := H1
  clear H1
  simp only [Option.some.injEq, Prod.mk.injEq] at H
  obtain ⟨rfl, rfl, rfl, rfl⟩ := H
  go_enter Tryd.func32, Tryd.ntmps32
  have tk61 : True := trivial; have tk62 : True := trivial
  try go_wp2_with (first | (have ztk61 := tk61; clear tk61 ztk61; (with_reducible refine gate_dst (N := 1) rfl ?_); refine box_event ?hg (N := 1) ?hd (cs := #[.bool false, .string a0_1, .string a0_2, .int .i64 a0_3]) (t := 55) ?hr ?_; (case hd => rfl); (case hg => rfl); (case hr => first | (go_simp; done) | (go_simp; rfl)); intro gb109 hg w44 hbox hb; have n0_ := Aside0.mk (below_step qnmo1_ hb); have n1_ := Aside0.mk (hbox); have n2_ := Aside0.mk ((by rw [hg]; exact (below_size qnmo1_) : w.heap.size ≤ gb109)); have n3_ := Aside0.mk ((by rw [hg]; exact (below_size qnmo1_) : w.heap.size ≤ gb109)); clear HB; have HB := n0_; have BK109 := n1_; have GW109 := n2_; have GE109 := n3_; clear n0_ n1_ n2_ n3_; clear hb hbox hg) | (have ztk62 := tk62; clear tk62 ztk62; (with_reducible refine gate_dst (N := 2) rfl ?_); refine box_event ?hg (N := 2) ?hd (cs := #[.bool false, .string (⟨#[]⟩ : ByteArray), .string (⟨#[]⟩ : ByteArray), .int .i64 0]) (t := 25) ?hr ?_; (case hd => rfl); (case hg => rfl); (case hr => first | (go_simp; done) | (go_simp; rfl)); intro gb110 hg w45 hbox hb; have n0_ := Aside0.mk (blk_below (g := gb109) (o := .cells #[.bool false, .string a0_1, .string a0_2, .int .i64 a0_3] 55 (0, 0)) qnmo3_ hb); have n1_ := Aside0.mk (below_step qnmo20_ hb); have n2_ := Aside0.mk (hbox); have n3_ := Aside0.mk ((by rw [hg]; exact (below_size qnmo20_) : w.heap.size ≤ gb110)); have n4_ := Aside0.mk ((by rw [hg]; exact (below_size qnmo20_) : w.heap.size ≤ gb110)); have n5_ := Aside0.mk ((by rw [hg]; exact Nat.ne_of_lt (blk_lt (g := gb109) (o := .cells #[.bool false, .string a0_1, .string a0_2, .int .i64 a0_3] 55 (0, 0)) qnmo3_) : gb109 ≠ gb110)); have n6_ := Aside0.mk ((by rw [hg]; exact Nat.ne_of_gt (blk_lt (g := gb109) (o := .cells #[.bool false, .string a0_1, .string a0_2, .int .i64 a0_3] 55 (0, 0)) qnmo3_) : gb110 ≠ gb109)); clear BK109; clear HB; have BK109 := n0_; have HB := n1_; have BK110 := n2_; have GW110 := n3_; have GE110 := n4_; have NB109_110 := n5_; have NB110_109 := n6_; clear n0_ n1_ n2_ n3_ n4_ n5_ n6_; clear hb hbox hg))
  have n0_ := Aside0.mk (blk_drew BK109.out)
  have n1_ := Aside0.mk (blk_drew BK110.out)
  have n2_ := Aside0.mk (below_drew1 HB.out)
  clear BK109
  clear BK110
  clear HB
  have BK109 := n0_
  have BK110 := n1_
  have HB := n2_
  clear n0_ n1_ n2_
  refine start_ (n := 11) (S := fun w' => w'.cell? ⟨gb109, 0, none⟩ = some (.bool false) ∧ w'.cell? ⟨gb109, 1, none⟩ = some (.string a0_1) ∧ w'.cell? ⟨gb109, 2, none⟩ = some (.string a0_2) ∧ w'.cell? ⟨gb109, 3, none⟩ = some (.int .i64 a0_3)) (ds := []) #[false, false, false, false, false, false, false, false, false, false, false] (by kernel_rfl) rfl rfl ⟨(blk_cell BK109.out 0).trans rfl, (blk_cell BK109.out 1).trans rfl, (blk_cell BK109.out 2).trans rfl, (blk_cell BK109.out 3).trans rfl⟩ (fun hHeld => ?_); refine with_tabW numeral_decimal.tab1 numeral_decimal.bits1 (fun HT_ HW_ => ?_)
  generalize w45.drew = w46 at BK109 BK110 HB hHeld ⊢
  refine pure_ (i := 0) (N := some 4) (v := ?_) (a' := ?_) #[true, false, false, false, false, false, false, false, false, false, false] rfl rfl (any_of HT_.out (by kernel_rfl)) (fun _ _ _ h => h) (Or.inl ⟨by rfl, ?_⟩) ?_ ?_
  rotate_left
  ·
   intro w'
   go_simp
   with_reducible rfl
  rotate_left
  ·
   simp only [Act.put, List.setIfInBounds_toArray, List.set_cons_zero, List.set_cons_succ, i64_w, i32_w]
   rfl
  refine pure_ (i := 3) (N := some 7) (v := ?_) (a' := ?_) #[true, false, false, true, false, false, false, false, false, false, false] rfl rfl (any_of HT_.out (by kernel_rfl)) (fun _ _ _ h => h) (Or.inl ⟨by rfl, ?_⟩) ?_ ?_
  rotate_left
  ·
   intro w'
   go_simp
   with_reducible rfl
  rotate_left
  ·
   simp only [Act.put, List.setIfInBounds_toArray, List.set_cons_zero, List.set_cons_succ, i64_w, i32_w]
   rfl
  refine pure_ (i := 6) (N := some 10) (v := ?_) (a' := ?_) #[true, false, false, true, false, false, true, false, false, false, false] rfl rfl (any_of HT_.out (by kernel_rfl)) (fun _ _ _ h => h) (Or.inl ⟨by rfl, ?_⟩) ?_ ?_
  rotate_left
  ·
   intro w'
   go_simp
   with_reducible rfl
  rotate_left
  ·
   simp only [Act.put, List.setIfInBounds_toArray, List.set_cons_zero, List.set_cons_succ, i64_w, i32_w]
   rfl
  refine take_ (i := 1) (N := some 5) (v := ?_) (a' := ?_) #[true, true, false, true, false, false, true, false, false, false, false] rfl rfl (take_ofW HT_.out HW_.out (by kernel_rfl)) (fun _ _ _ h => h) (Or.inl ⟨by rfl, ?_⟩) hHeld ?_ ?_
  rotate_left
  ·
   rintro w' ⟨s0, s1, s2, s3⟩
   go_simp
   with_reducible rfl
  rotate_left
  ·
   simp only [Act.put, List.setIfInBounds_toArray, List.set_cons_zero, List.set_cons_succ, i64_w, i32_w]
   rfl
  refine take_ (i := 4) (N := some 8) (v := ?_) (a' := ?_) #[true, true, false, true, true, false, true, false, false, false, false] rfl rfl (take_ofW HT_.out HW_.out (by kernel_rfl)) (fun _ _ _ h => h) (Or.inl ⟨by rfl, ?_⟩) hHeld ?_ ?_
  rotate_left
  ·
   rintro w' ⟨s0, s1, s2, s3⟩
   go_simp
   with_reducible rfl
  rotate_left
  ·
   simp only [Act.put, List.setIfInBounds_toArray, List.set_cons_zero, List.set_cons_succ, i64_w, i32_w]
   rfl
  refine take_ (i := 7) (N := some 11) (v := ?_) (a' := ?_) #[true, true, false, true, true, false, true, true, false, false, false] rfl rfl (take_ofW HT_.out HW_.out (by kernel_rfl)) (fun _ _ _ h => h) (Or.inl ⟨by rfl, ?_⟩) hHeld ?_ ?_
  rotate_left
  ·
   rintro w' ⟨s0, s1, s2, s3⟩
   go_simp
   with_reducible rfl
  rotate_left
  ·
   simp only [Act.put, List.setIfInBounds_toArray, List.set_cons_zero, List.set_cons_succ, i64_w, i32_w]
   rfl
  refine join_ (σ := Nat) 1 #[true, true, true, true, true, true, true, true, true, true, false] (fun s_ => [(6, .string t111), (9, .string t112), (3, .pointer (some ⟨s_, 0, none⟩)), (12, .agg #[.bool false, .string t111, .string t112, .int .i64 a0_3])]) (fun s_ w' => (w'.cell? ⟨gb109, 0, none⟩ = some (.bool false) ∧ w'.cell? ⟨gb109, 1, none⟩ = some (.string a0_1) ∧ w'.cell? ⟨gb109, 2, none⟩ = some (.string a0_2) ∧ w'.cell? ⟨gb109, 3, none⟩ = some (.int .i64 a0_3)) ∧ (w'.heap[gb109]? = some (.cells #[.bool false, .string a0_1, .string a0_2, .int .i64 a0_3] 55 (0, 0))) ∧ (w'.heap[gb110]? = some (.cells #[.bool false, .string (⟨#[]⟩ : ByteArray), .string (⟨#[]⟩ : ByteArray), .int .i64 0] 25 (0, 0))) ∧ (w'.heap[s_]? = some (.cells #[.bool false, .string (⟨#[]⟩ : ByteArray), .string (⟨#[]⟩ : ByteArray), .int .i64 0] 25 (0, 0))) ∧ (w.heap.size ≤ s_) ∧ (w.heap.size ≤ s_) ∧ (gb109 ≠ s_) ∧ (s_ ≠ gb109) ∧ (gb110 ≠ s_) ∧ (s_ ≠ gb110) ∧ (Below w.heap.size w w')) ?_ ?_
  rotate_left
  ·
   intro hCont
   refine two_ (i := 2) (j := 9) (Ni := some 6) (Nj := some 3) #[true, true, true, true, true, false, true, true, false, false, false] #[true, true, false, true, true, false, true, true, false, true, false] rfl rfl rfl rfl (two_of HT_.out (by kernel_rfl)) (by decide) (by decide) (fun K hK => ?_) (fun K hK => ?_)
   ·
    skip
    refine goes_ Tryd.func66 (by kernel_rfl) rfl #[.string a0_1, .string (⟨#[48]⟩ : ByteArray)] (by rfl) rfl rfl qnmo0_ ?_
    with_reducible refine (strings_TrimLeft.calls k a0_1 (⟨#[48]⟩ : ByteArray) t111 _ A2.out).mono ?_
    rintro e w47 ⟨rfl, hb⟩
    refine ⟨_, rfl, ?_⟩
    have n0_ := Aside0.mk (blk_below (g := gb109) (o := .cells #[.bool false, .string a0_1, .string a0_2, .int .i64 a0_3] 55 (0, 0)) qnmo3_ hb)
    have n1_ := Aside0.mk (blk_below (g := gb110) (o := .cells #[.bool false, .string (⟨#[]⟩ : ByteArray), .string (⟨#[]⟩ : ByteArray), .int .i64 0] 25 (0, 0)) qnmo6_ hb)
    have n2_ := Aside0.mk (below_step qnmo4_ hb)
    clear BK109
    clear BK110
    clear HB
    have BK109 := n0_
    have BK110 := n1_
    have HB := n2_
    clear n0_ n1_ n2_
    (try clear hb); (try clear hb2); (try clear hk); (try clear hi)
    refine hK.out _ _ ⟨(blk_cell BK109.out 0).trans rfl, (blk_cell BK109.out 1).trans rfl, (blk_cell BK109.out 2).trans rfl, (blk_cell BK109.out 3).trans rfl⟩ (fun hHeld => ?_)
    clear hK K
    refine norm_ (a' := ?_) ?_ ?_
    rotate_left
    ·
     show Act.put _ (some 6) _ = _
     simp only [Act.put, List.setIfInBounds_toArray, List.set_cons_zero, List.set_cons_succ, i64_w, i32_w]
     rfl
    refine two_ (i := 5) (j := 9) (Ni := some 9) (Nj := some 3) #[true, true, true, true, true, true, true, true, false, false, false] #[true, true, true, true, true, false, true, true, false, true, false] rfl rfl rfl rfl (two_of HT_.out (by kernel_rfl)) (by decide) (by decide) (fun K hK => ?_) (fun K hK => ?_)
    ·
     skip
     refine goes_ Tryd.func67 (by kernel_rfl) rfl #[.string a0_2, .string (⟨#[48]⟩ : ByteArray)] (by rfl) rfl rfl qnmo0_ ?_
     with_reducible refine (strings_TrimRight.calls k a0_2 (⟨#[48]⟩ : ByteArray) t112 _ A3.out).mono ?_
     rintro e w48 ⟨rfl, hb⟩
     refine ⟨_, rfl, ?_⟩
     have n0_ := Aside0.mk (blk_below (g := gb109) (o := .cells #[.bool false, .string a0_1, .string a0_2, .int .i64 a0_3] 55 (0, 0)) qnmo3_ hb)
     have n1_ := Aside0.mk (blk_below (g := gb110) (o := .cells #[.bool false, .string (⟨#[]⟩ : ByteArray), .string (⟨#[]⟩ : ByteArray), .int .i64 0] 25 (0, 0)) qnmo6_ hb)
     have n2_ := Aside0.mk (below_step qnmo4_ hb)
     clear BK109
     clear BK110
     clear HB
     have BK109 := n0_
     have BK110 := n1_
     have HB := n2_
     clear n0_ n1_ n2_
     (try clear hb); (try clear hb2); (try clear hk); (try clear hi)
     refine hK.out _ _ ⟨(blk_cell BK109.out 0).trans rfl, (blk_cell BK109.out 1).trans rfl, (blk_cell BK109.out 2).trans rfl, (blk_cell BK109.out 3).trans rfl⟩ (fun hHeld => ?_)
     clear hK K
     refine norm_ (a' := ?_) ?_ ?_
     rotate_left
     ·
      show Act.put _ (some 9) _ = _
      simp only [Act.put, List.setIfInBounds_toArray, List.set_cons_zero, List.set_cons_succ, i64_w, i32_w]
      rfl
     refine pure_ (i := 8) (N := some 12) (v := ?_) (a' := ?_) #[true, true, true, true, true, true, true, true, true, false, false] rfl rfl (any_of HT_.out (by kernel_rfl)) (fun _ _ _ h => h) (Or.inl ⟨by rfl, ?_⟩) ?_ ?_
     rotate_left
     ·
      intro w'
      go_simp
      with_reducible rfl
     rotate_left
     ·
      simp only [Act.put, List.setIfInBounds_toArray, List.set_cons_zero, List.set_cons_succ, i64_w, i32_w]
      rfl
     refine one_ (i := 9) (N := some 3) #[true, true, true, true, true, true, true, true, true, true, false] rfl rfl (one_of HT_.out (by kernel_rfl)) (by decide) (fun K hK => ?_)
     refine box_step ?hg (N := 3) ?hd (cs := #[.bool false, .string (⟨#[]⟩ : ByteArray), .string (⟨#[]⟩ : ByteArray), .int .i64 0]) (t := 25) ?hr ?_; (case hd => rfl); (case hg => rfl); (case hr => first | (go_simp; done) | (go_simp; rfl))
     intro gb113 hg w49 hbox hb
     have n0_ := Aside0.mk (blk_below (g := gb109) (o := .cells #[.bool false, .string a0_1, .string a0_2, .int .i64 a0_3] 55 (0, 0)) qnmo3_ hb)
     have n1_ := Aside0.mk (blk_below (g := gb110) (o := .cells #[.bool false, .string (⟨#[]⟩ : ByteArray), .string (⟨#[]⟩ : ByteArray), .int .i64 0] 25 (0, 0)) qnmo6_ hb)
     have n2_ := Aside0.mk (below_step qnmo4_ hb)
     have n3_ := Aside0.mk (hbox)
     have n4_ := Aside0.mk ((by rw [hg]; exact (below_size qnmo4_) : w.heap.size ≤ gb113))
     have n5_ := Aside0.mk ((by rw [hg]; exact (below_size qnmo4_) : w.heap.size ≤ gb113))
     have n6_ := Aside0.mk ((by rw [hg]; exact Nat.ne_of_lt (blk_lt (g := gb109) (o := .cells #[.bool false, .string a0_1, .string a0_2, .int .i64 a0_3] 55 (0, 0)) qnmo3_) : gb109 ≠ gb113))
     have n7_ := Aside0.mk ((by rw [hg]; exact Nat.ne_of_gt (blk_lt (g := gb109) (o := .cells #[.bool false, .string a0_1, .string a0_2, .int .i64 a0_3] 55 (0, 0)) qnmo3_) : gb113 ≠ gb109))
     have n8_ := Aside0.mk ((by rw [hg]; exact Nat.ne_of_lt (blk_lt (g := gb110) (o := .cells #[.bool false, .string (⟨#[]⟩ : ByteArray), .string (⟨#[]⟩ : ByteArray), .int .i64 0] 25 (0, 0)) qnmo6_) : gb110 ≠ gb113))
     have n9_ := Aside0.mk ((by rw [hg]; exact Nat.ne_of_gt (blk_lt (g := gb110) (o := .cells #[.bool false, .string (⟨#[]⟩ : ByteArray), .string (⟨#[]⟩ : ByteArray), .int .i64 0] 25 (0, 0)) qnmo6_) : gb113 ≠ gb110))
     clear BK109
     clear BK110
     clear HB
     have BK109 := n0_
     have BK110 := n1_
     have HB := n2_
     have BK113 := n3_
     have GW113 := n4_
     have GE113 := n5_
     have NB109_113 := n6_
     have NB113_109 := n7_
     have NB110_113 := n8_
     have NB113_110 := n9_
     clear n0_ n1_ n2_ n3_ n4_ n5_ n6_ n7_ n8_ n9_
     clear hb hbox hg
     refine hK.out _ _ ⟨(blk_cell BK109.out 0).trans rfl, (blk_cell BK109.out 1).trans rfl, (blk_cell BK109.out 2).trans rfl, (blk_cell BK109.out 3).trans rfl⟩ (fun hHeld => ?_)
     clear hK K
     refine norm_ (a' := ?_) ?_ ?_
     rotate_left
     ·
      show Act.put _ (some 3) _ = _
      simp only [Act.put, List.setIfInBounds_toArray, List.set_cons_zero, List.set_cons_succ, i64_w, i32_w]
      rfl
     exact norm_ qnmo33_ (hCont (gb113) _ ⟨hHeld, qnmo3_, qnmo6_, qnmo16_, GW113.out, GE113.out, NB109_113.out, NB113_109.out, NB110_113.out, NB113_110.out, qnmo9_⟩)
    ·
     skip
     refine box_step ?hg (N := 3) ?hd (cs := #[.bool false, .string (⟨#[]⟩ : ByteArray), .string (⟨#[]⟩ : ByteArray), .int .i64 0]) (t := 25) ?hr ?_; (case hd => rfl); (case hg => rfl); (case hr => first | (go_simp; done) | (go_simp; rfl))
     intro gb113 hg w48 hbox hb
     have n0_ := Aside0.mk (blk_below (g := gb109) (o := .cells #[.bool false, .string a0_1, .string a0_2, .int .i64 a0_3] 55 (0, 0)) qnmo3_ hb)
     have n1_ := Aside0.mk (blk_below (g := gb110) (o := .cells #[.bool false, .string (⟨#[]⟩ : ByteArray), .string (⟨#[]⟩ : ByteArray), .int .i64 0] 25 (0, 0)) qnmo6_ hb)
     have n2_ := Aside0.mk (below_step qnmo4_ hb)
     have n3_ := Aside0.mk (hbox)
     have n4_ := Aside0.mk ((by rw [hg]; exact (below_size qnmo4_) : w.heap.size ≤ gb113))
     have n5_ := Aside0.mk ((by rw [hg]; exact (below_size qnmo4_) : w.heap.size ≤ gb113))
     have n6_ := Aside0.mk ((by rw [hg]; exact Nat.ne_of_lt (blk_lt (g := gb109) (o := .cells #[.bool false, .string a0_1, .string a0_2, .int .i64 a0_3] 55 (0, 0)) qnmo3_) : gb109 ≠ gb113))
     have n7_ := Aside0.mk ((by rw [hg]; exact Nat.ne_of_gt (blk_lt (g := gb109) (o := .cells #[.bool false, .string a0_1, .string a0_2, .int .i64 a0_3] 55 (0, 0)) qnmo3_) : gb113 ≠ gb109))
     have n8_ := Aside0.mk ((by rw [hg]; exact Nat.ne_of_lt (blk_lt (g := gb110) (o := .cells #[.bool false, .string (⟨#[]⟩ : ByteArray), .string (⟨#[]⟩ : ByteArray), .int .i64 0] 25 (0, 0)) qnmo6_) : gb110 ≠ gb113))
     have n9_ := Aside0.mk ((by rw [hg]; exact Nat.ne_of_gt (blk_lt (g := gb110) (o := .cells #[.bool false, .string (⟨#[]⟩ : ByteArray), .string (⟨#[]⟩ : ByteArray), .int .i64 0] 25 (0, 0)) qnmo6_) : gb113 ≠ gb110))
     clear BK109
     clear BK110
     clear HB
     have BK109 := n0_
     have BK110 := n1_
     have HB := n2_
     have BK113 := n3_
     have GW113 := n4_
     have GE113 := n5_
     have NB109_113 := n6_
     have NB113_109 := n7_
     have NB110_113 := n8_
     have NB113_110 := n9_
     clear n0_ n1_ n2_ n3_ n4_ n5_ n6_ n7_ n8_ n9_
     clear hb hbox hg
     refine hK.out _ _ ⟨(blk_cell BK109.out 0).trans rfl, (blk_cell BK109.out 1).trans rfl, (blk_cell BK109.out 2).trans rfl, (blk_cell BK109.out 3).trans rfl⟩ (fun hHeld => ?_)
     clear hK K
     refine norm_ (a' := ?_) ?_ ?_
     rotate_left
     ·
      show Act.put _ (some 3) _ = _
      simp only [Act.put, List.setIfInBounds_toArray, List.set_cons_zero, List.set_cons_succ, i64_w, i32_w]
      rfl
     refine one_ (i := 5) (N := some 9) #[true, true, true, true, true, true, true, true, false, true, false] rfl rfl (one_of HT_.out (by kernel_rfl)) (by decide) (fun K hK => ?_)
     refine goes_ Tryd.func67 (by kernel_rfl) rfl #[.string a0_2, .string (⟨#[48]⟩ : ByteArray)] (by rfl) rfl rfl qnmo0_ ?_
     with_reducible refine (strings_TrimRight.calls k a0_2 (⟨#[48]⟩ : ByteArray) t112 _ A3.out).mono ?_
     rintro e w49 ⟨rfl, hb⟩
     refine ⟨_, rfl, ?_⟩
     have n0_ := Aside0.mk (blk_below (g := gb109) (o := .cells #[.bool false, .string a0_1, .string a0_2, .int .i64 a0_3] 55 (0, 0)) qnmo3_ hb)
     have n1_ := Aside0.mk (blk_below (g := gb110) (o := .cells #[.bool false, .string (⟨#[]⟩ : ByteArray), .string (⟨#[]⟩ : ByteArray), .int .i64 0] 25 (0, 0)) qnmo6_ hb)
     have n2_ := Aside0.mk (blk_below (g := gb113) (o := .cells #[.bool false, .string (⟨#[]⟩ : ByteArray), .string (⟨#[]⟩ : ByteArray), .int .i64 0] 25 (0, 0)) qnmo16_ hb)
     have n3_ := Aside0.mk (below_step qnmo9_ hb)
     clear BK109
     clear BK110
     clear BK113
     clear HB
     have BK109 := n0_
     have BK110 := n1_
     have BK113 := n2_
     have HB := n3_
     clear n0_ n1_ n2_ n3_
     (try clear hb); (try clear hb2); (try clear hk); (try clear hi)
     refine hK.out _ _ ⟨(blk_cell BK109.out 0).trans rfl, (blk_cell BK109.out 1).trans rfl, (blk_cell BK109.out 2).trans rfl, (blk_cell BK109.out 3).trans rfl⟩ (fun hHeld => ?_)
     clear hK K
     refine norm_ (a' := ?_) ?_ ?_
     rotate_left
     ·
      show Act.put _ (some 9) _ = _
      simp only [Act.put, List.setIfInBounds_toArray, List.set_cons_zero, List.set_cons_succ, i64_w, i32_w]
      rfl
     refine pure_ (i := 8) (N := some 12) (v := ?_) (a' := ?_) #[true, true, true, true, true, true, true, true, true, true, false] rfl rfl (any_of HT_.out (by kernel_rfl)) (fun _ _ _ h => h) (Or.inl ⟨by rfl, ?_⟩) ?_ ?_
     rotate_left
     ·
      intro w'
      go_simp
      with_reducible rfl
     rotate_left
     ·
      simp only [Act.put, List.setIfInBounds_toArray, List.set_cons_zero, List.set_cons_succ, i64_w, i32_w]
      rfl
     exact norm_ qnmo33_ (hCont (gb113) _ ⟨hHeld, qnmo3_, qnmo6_, qnmo16_, GW113.out, GE113.out, NB109_113.out, NB113_109.out, NB110_113.out, NB113_110.out, qnmo9_⟩)
   ·
    skip
    refine box_step ?hg (N := 3) ?hd (cs := #[.bool false, .string (⟨#[]⟩ : ByteArray), .string (⟨#[]⟩ : ByteArray), .int .i64 0]) (t := 25) ?hr ?_; (case hd => rfl); (case hg => rfl); (case hr => first | (go_simp; done) | (go_simp; rfl))
    intro gb113 hg w47 hbox hb
    have n0_ := Aside0.mk (blk_below (g := gb109) (o := .cells #[.bool false, .string a0_1, .string a0_2, .int .i64 a0_3] 55 (0, 0)) qnmo3_ hb)
    have n1_ := Aside0.mk (blk_below (g := gb110) (o := .cells #[.bool false, .string (⟨#[]⟩ : ByteArray), .string (⟨#[]⟩ : ByteArray), .int .i64 0] 25 (0, 0)) qnmo6_ hb)
    have n2_ := Aside0.mk (below_step qnmo4_ hb)
    have n3_ := Aside0.mk (hbox)
    have n4_ := Aside0.mk ((by rw [hg]; exact (below_size qnmo4_) : w.heap.size ≤ gb113))
    have n5_ := Aside0.mk ((by rw [hg]; exact (below_size qnmo4_) : w.heap.size ≤ gb113))
    have n6_ := Aside0.mk ((by rw [hg]; exact Nat.ne_of_lt (blk_lt (g := gb109) (o := .cells #[.bool false, .string a0_1, .string a0_2, .int .i64 a0_3] 55 (0, 0)) qnmo3_) : gb109 ≠ gb113))
    have n7_ := Aside0.mk ((by rw [hg]; exact Nat.ne_of_gt (blk_lt (g := gb109) (o := .cells #[.bool false, .string a0_1, .string a0_2, .int .i64 a0_3] 55 (0, 0)) qnmo3_) : gb113 ≠ gb109))
    have n8_ := Aside0.mk ((by rw [hg]; exact Nat.ne_of_lt (blk_lt (g := gb110) (o := .cells #[.bool false, .string (⟨#[]⟩ : ByteArray), .string (⟨#[]⟩ : ByteArray), .int .i64 0] 25 (0, 0)) qnmo6_) : gb110 ≠ gb113))
    have n9_ := Aside0.mk ((by rw [hg]; exact Nat.ne_of_gt (blk_lt (g := gb110) (o := .cells #[.bool false, .string (⟨#[]⟩ : ByteArray), .string (⟨#[]⟩ : ByteArray), .int .i64 0] 25 (0, 0)) qnmo6_) : gb113 ≠ gb110))
    clear BK109
    clear BK110
    clear HB
    have BK109 := n0_
    have BK110 := n1_
    have HB := n2_
    have BK113 := n3_
    have GW113 := n4_
    have GE113 := n5_
    have NB109_113 := n6_
    have NB113_109 := n7_
    have NB110_113 := n8_
    have NB113_110 := n9_
    clear n0_ n1_ n2_ n3_ n4_ n5_ n6_ n7_ n8_ n9_
    clear hb hbox hg
    refine hK.out _ _ ⟨(blk_cell BK109.out 0).trans rfl, (blk_cell BK109.out 1).trans rfl, (blk_cell BK109.out 2).trans rfl, (blk_cell BK109.out 3).trans rfl⟩ (fun hHeld => ?_)
    clear hK K
    refine norm_ (a' := ?_) ?_ ?_
    rotate_left
    ·
     show Act.put _ (some 3) _ = _
     simp only [Act.put, List.setIfInBounds_toArray, List.set_cons_zero, List.set_cons_succ, i64_w, i32_w]
     rfl
    refine one_ (i := 2) (N := some 6) #[true, true, true, true, true, false, true, true, false, true, false] rfl rfl (one_of HT_.out (by kernel_rfl)) (by decide) (fun K hK => ?_)
    refine goes_ Tryd.func66 (by kernel_rfl) rfl #[.string a0_1, .string (⟨#[48]⟩ : ByteArray)] (by rfl) rfl rfl qnmo0_ ?_
    with_reducible refine (strings_TrimLeft.calls k a0_1 (⟨#[48]⟩ : ByteArray) t111 _ A2.out).mono ?_
    rintro e w48 ⟨rfl, hb⟩
    refine ⟨_, rfl, ?_⟩
    have n0_ := Aside0.mk (blk_below (g := gb109) (o := .cells #[.bool false, .string a0_1, .string a0_2, .int .i64 a0_3] 55 (0, 0)) qnmo3_ hb)
    have n1_ := Aside0.mk (blk_below (g := gb110) (o := .cells #[.bool false, .string (⟨#[]⟩ : ByteArray), .string (⟨#[]⟩ : ByteArray), .int .i64 0] 25 (0, 0)) qnmo6_ hb)
    have n2_ := Aside0.mk (blk_below (g := gb113) (o := .cells #[.bool false, .string (⟨#[]⟩ : ByteArray), .string (⟨#[]⟩ : ByteArray), .int .i64 0] 25 (0, 0)) qnmo16_ hb)
    have n3_ := Aside0.mk (below_step qnmo9_ hb)
    clear BK109
    clear BK110
    clear BK113
    clear HB
    have BK109 := n0_
    have BK110 := n1_
    have BK113 := n2_
    have HB := n3_
    clear n0_ n1_ n2_ n3_
    (try clear hb); (try clear hb2); (try clear hk); (try clear hi)
    refine hK.out _ _ ⟨(blk_cell BK109.out 0).trans rfl, (blk_cell BK109.out 1).trans rfl, (blk_cell BK109.out 2).trans rfl, (blk_cell BK109.out 3).trans rfl⟩ (fun hHeld => ?_)
    clear hK K
    refine norm_ (a' := ?_) ?_ ?_
    rotate_left
    ·
     show Act.put _ (some 6) _ = _
     simp only [Act.put, List.setIfInBounds_toArray, List.set_cons_zero, List.set_cons_succ, i64_w, i32_w]
     rfl
    refine one_ (i := 5) (N := some 9) #[true, true, true, true, true, true, true, true, false, true, false] rfl rfl (one_of HT_.out (by kernel_rfl)) (by decide) (fun K hK => ?_)
    refine goes_ Tryd.func67 (by kernel_rfl) rfl #[.string a0_2, .string (⟨#[48]⟩ : ByteArray)] (by rfl) rfl rfl qnmo0_ ?_
    with_reducible refine (strings_TrimRight.calls k a0_2 (⟨#[48]⟩ : ByteArray) t112 _ A3.out).mono ?_
    rintro e w49 ⟨rfl, hb⟩
    refine ⟨_, rfl, ?_⟩
    have n0_ := Aside0.mk (blk_below (g := gb109) (o := .cells #[.bool false, .string a0_1, .string a0_2, .int .i64 a0_3] 55 (0, 0)) qnmo3_ hb)
    have n1_ := Aside0.mk (blk_below (g := gb110) (o := .cells #[.bool false, .string (⟨#[]⟩ : ByteArray), .string (⟨#[]⟩ : ByteArray), .int .i64 0] 25 (0, 0)) qnmo6_ hb)
    have n2_ := Aside0.mk (blk_below (g := gb113) (o := .cells #[.bool false, .string (⟨#[]⟩ : ByteArray), .string (⟨#[]⟩ : ByteArray), .int .i64 0] 25 (0, 0)) qnmo16_ hb)
    have n3_ := Aside0.mk (below_step qnmo9_ hb)
    clear BK109
    clear BK110
    clear BK113
    clear HB
    have BK109 := n0_
    have BK110 := n1_
    have BK113 := n2_
    have HB := n3_
    clear n0_ n1_ n2_ n3_
    (try clear hb); (try clear hb2); (try clear hk); (try clear hi)
    refine hK.out _ _ ⟨(blk_cell BK109.out 0).trans rfl, (blk_cell BK109.out 1).trans rfl, (blk_cell BK109.out 2).trans rfl, (blk_cell BK109.out 3).trans rfl⟩ (fun hHeld => ?_)
    clear hK K
    refine norm_ (a' := ?_) ?_ ?_
    rotate_left
    ·
     show Act.put _ (some 9) _ = _
     simp only [Act.put, List.setIfInBounds_toArray, List.set_cons_zero, List.set_cons_succ, i64_w, i32_w]
     rfl
    refine pure_ (i := 8) (N := some 12) (v := ?_) (a' := ?_) #[true, true, true, true, true, true, true, true, true, true, false] rfl rfl (any_of HT_.out (by kernel_rfl)) (fun _ _ _ h => h) (Or.inl ⟨by rfl, ?_⟩) ?_ ?_
    rotate_left
    ·
     intro w'
     go_simp
     with_reducible rfl
    rotate_left
    ·
     simp only [Act.put, List.setIfInBounds_toArray, List.set_cons_zero, List.set_cons_succ, i64_w, i32_w]
     rfl
    exact norm_ qnmo33_ (hCont (gb113) _ ⟨hHeld, qnmo3_, qnmo6_, qnmo16_, GW113.out, GE113.out, NB109_113.out, NB113_109.out, NB110_113.out, NB113_110.out, qnmo9_⟩)
  rintro gb113 w50 ⟨hS_, h0_, h1_, h2_, h3_, h4_, h5_, h6_, h7_, h8_, h9_⟩
  have n0_ : Aside0 (w50.heap[gb109]? = some (.cells #[.bool false, .string a0_1, .string a0_2, .int .i64 a0_3] 55 (0, 0))) := ⟨h0_⟩
  have n1_ : Aside0 (w50.heap[gb110]? = some (.cells #[.bool false, .string (⟨#[]⟩ : ByteArray), .string (⟨#[]⟩ : ByteArray), .int .i64 0] 25 (0, 0))) := ⟨h1_⟩
  have n2_ : Aside0 (w50.heap[gb113]? = some (.cells #[.bool false, .string (⟨#[]⟩ : ByteArray), .string (⟨#[]⟩ : ByteArray), .int .i64 0] 25 (0, 0))) := ⟨h2_⟩
  have n3_ : Aside0 (w.heap.size ≤ gb113) := ⟨h3_⟩
  have n4_ : Aside0 (w.heap.size ≤ gb113) := ⟨h4_⟩
  have n5_ : Aside0 (gb109 ≠ gb113) := ⟨h5_⟩
  have n6_ : Aside0 (gb113 ≠ gb109) := ⟨h6_⟩
  have n7_ : Aside0 (gb110 ≠ gb113) := ⟨h7_⟩
  have n8_ : Aside0 (gb113 ≠ gb110) := ⟨h8_⟩
  have n9_ : Aside0 (Below w.heap.size w w50) := ⟨h9_⟩
  clear BK109
  clear BK110
  clear HB
  clear h0_ h1_ h2_ h3_ h4_ h5_ h6_ h7_ h8_ h9_
  have BK109 := n0_
  have BK110 := n1_
  have BK113 := n2_
  have GW113 := n3_
  have GE113 := n4_
  have NB109_113 := n5_
  have NB113_109 := n6_
  have NB110_113 := n7_
  have NB113_110 := n8_
  have HB := n9_
  clear n0_ n1_ n2_ n3_ n4_ n5_ n6_ n7_ n8_ n9_
  have hHeld : w50.cell? ⟨gb109, 0, none⟩ = some (.bool false) ∧ w50.cell? ⟨gb109, 1, none⟩ = some (.string a0_1) ∧ w50.cell? ⟨gb109, 2, none⟩ = some (.string a0_2) ∧ w50.cell? ⟨gb109, 3, none⟩ = some (.int .i64 a0_3) := hS_
  refine norm_ (a' := ?_) ?_ ?_
  rotate_left
  ·
   simp only [putAll, Act.put, List.setIfInBounds_toArray, List.set_cons_zero, List.set_cons_succ]
   rfl
  refine one_ (i := 10) (N := none) #[true, true, true, true, true, true, true, true, true, true, true] rfl rfl (one_of HT_.out (by kernel_rfl)) (by decide) (fun K hK => ?_)
  have hs51 : w50.cell? ⟨gb113, 0, none⟩ = some (.bool false) := (blk_cell BK113.out 0).trans rfl
  have hfs51 := blk_frozen BK113.out 0
  have hns51_0 := NB109_113.out
  have hns51_1 := NB110_113.out
  have hms51_0 := NB113_109.out
  have hms51_1 := NB113_110.out
  have hs52 : w50.cell? ⟨gb113, 1, none⟩ = some (.string (⟨#[]⟩ : ByteArray)) := (blk_cell BK113.out 1).trans rfl
  have hfs52 := blk_frozen BK113.out 1
  have hns52_0 := NB109_113.out
  have hns52_1 := NB110_113.out
  have hms52_0 := NB113_109.out
  have hms52_1 := NB113_110.out
  have hs53 : w50.cell? ⟨gb113, 2, none⟩ = some (.string (⟨#[]⟩ : ByteArray)) := (blk_cell BK113.out 2).trans rfl
  have hfs53 := blk_frozen BK113.out 2
  have hns53_0 := NB109_113.out
  have hns53_1 := NB110_113.out
  have hms53_0 := NB113_109.out
  have hms53_1 := NB113_110.out
  have hs54 : w50.cell? ⟨gb113, 3, none⟩ = some (.int .i64 0) := (blk_cell BK113.out 3).trans rfl
  have hfs54 := blk_frozen BK113.out 3
  have hns54_0 := NB109_113.out
  have hns54_1 := NB110_113.out
  have hms54_0 := NB113_109.out
  have hms54_1 := NB113_110.out
  refine skip_ (w1 := ?_) (by rfl) rfl ?_ ?_
  rotate_left
  ·
   go_simp
   rfl
  refine hK.out _ _ ⟨((cell_far (p := ⟨gb113, _, none⟩) NB109_113.out _).trans (((cell_far (p := ⟨gb113, _, none⟩) NB109_113.out _).trans (((cell_far (p := ⟨gb113, _, none⟩) NB109_113.out _).trans (((cell_far (p := ⟨gb113, _, none⟩) NB109_113.out _).trans (hHeld.1)))))))), ((cell_far (p := ⟨gb113, _, none⟩) NB109_113.out _).trans (((cell_far (p := ⟨gb113, _, none⟩) NB109_113.out _).trans (((cell_far (p := ⟨gb113, _, none⟩) NB109_113.out _).trans (((cell_far (p := ⟨gb113, _, none⟩) NB109_113.out _).trans (hHeld.2.1)))))))), ((cell_far (p := ⟨gb113, _, none⟩) NB109_113.out _).trans (((cell_far (p := ⟨gb113, _, none⟩) NB109_113.out _).trans (((cell_far (p := ⟨gb113, _, none⟩) NB109_113.out _).trans (((cell_far (p := ⟨gb113, _, none⟩) NB109_113.out _).trans (hHeld.2.2.1)))))))), ((cell_far (p := ⟨gb113, _, none⟩) NB109_113.out _).trans (((cell_far (p := ⟨gb113, _, none⟩) NB109_113.out _).trans (((cell_far (p := ⟨gb113, _, none⟩) NB109_113.out _).trans (((cell_far (p := ⟨gb113, _, none⟩) NB109_113.out _).trans (hHeld.2.2.2))))))))⟩ (fun hHeld => ?_)
  clear hK K
  refine done_ (done_of HT_.out (by kernel_rfl)) ?_
  have hnb55 := NB109_110.out
  have hnc55 := NB110_109.out
  have hnb56 := NB109_113.out
  have hnc56 := NB113_109.out
  have hcz57_0 : w50.cell? ⟨gb109, 0, none⟩ = some (.bool false) := (blk_cell BK109.out 0).trans rfl
  have hcz57_1 : w50.cell? ⟨gb109, 1, none⟩ = some (.string a0_1) := (blk_cell BK109.out 1).trans rfl
  have hcz57_2 : w50.cell? ⟨gb109, 2, none⟩ = some (.string a0_2) := (blk_cell BK109.out 2).trans rfl
  have hcz57_3 : w50.cell? ⟨gb109, 3, none⟩ = some (.int .i64 a0_3) := (blk_cell BK109.out 3).trans rfl
  have hfz57_0 := blk_frozen BK109.out 0
  have hfz57_1 := blk_frozen BK109.out 1
  have hfz57_2 := blk_frozen BK109.out 2
  have hfz57_3 := blk_frozen BK109.out 3
  have hnb58 := NB113_110.out
  have hnc58 := NB110_113.out
  have hcz59_0 : w50.cell? ⟨gb113, 0, none⟩ = some (.bool false) := (blk_cell BK113.out 0).trans rfl
  have hcz59_1 : w50.cell? ⟨gb113, 1, none⟩ = some (.string (⟨#[]⟩ : ByteArray)) := (blk_cell BK113.out 1).trans rfl
  have hcz59_2 : w50.cell? ⟨gb113, 2, none⟩ = some (.string (⟨#[]⟩ : ByteArray)) := (blk_cell BK113.out 2).trans rfl
  have hcz59_3 : w50.cell? ⟨gb113, 3, none⟩ = some (.int .i64 0) := (blk_cell BK113.out 3).trans rfl
  have hfz59_0 := blk_frozen BK113.out 0
  have hfz59_1 := blk_frozen BK113.out 1
  have hfz59_2 := blk_frozen BK113.out 2
  have hfz59_3 := blk_frozen BK113.out 3
  have hcz60_0 : w50.cell? ⟨gb110, 0, none⟩ = some (.bool false) := (blk_cell BK110.out 0).trans rfl
  have hcz60_1 : w50.cell? ⟨gb110, 1, none⟩ = some (.string (⟨#[]⟩ : ByteArray)) := (blk_cell BK110.out 1).trans rfl
  have hcz60_2 : w50.cell? ⟨gb110, 2, none⟩ = some (.string (⟨#[]⟩ : ByteArray)) := (blk_cell BK110.out 2).trans rfl
  have hcz60_3 : w50.cell? ⟨gb110, 3, none⟩ = some (.int .i64 0) := (blk_cell BK110.out 3).trans rfl
  have hfz60_0 := blk_frozen BK110.out 0
  have hfz60_1 := blk_frozen BK110.out 1
  have hfz60_2 := blk_frozen BK110.out 2
  have hfz60_3 := blk_frozen BK110.out 3
  try go_wp2
  refine bodyPost_ret (results_cell_row rfl _ _ gb110 25 #[.bool false, .string t111, .string t112, .int .i64 a0_3] (0, 0) _ rfl (by (with_reducible repeat (first | refine blk_drewN ?_ _ | refine blk_drew ?_ | refine blk_alloc ?_ _)); refine blk_put (cs := #[.bool false, .string t111, .string t112, .int .i64 0]) ?_ 3 _ rfl; (with_reducible repeat (first | refine blk_drewN ?_ _ | refine blk_drew ?_ | refine blk_alloc ?_ _)); refine blk_put (cs := #[.bool false, .string t111, .string (⟨#[]⟩ : ByteArray), .int .i64 0]) ?_ 2 _ rfl; (with_reducible repeat (first | refine blk_drewN ?_ _ | refine blk_drew ?_ | refine blk_alloc ?_ _)); refine blk_put (cs := #[.bool false, .string (⟨#[]⟩ : ByteArray), .string (⟨#[]⟩ : ByteArray), .int .i64 0]) ?_ 1 _ rfl; (with_reducible repeat (first | refine blk_drewN ?_ _ | refine blk_drew ?_ | refine blk_alloc ?_ _)); refine blk_put (cs := #[.bool false, .string (⟨#[]⟩ : ByteArray), .string (⟨#[]⟩ : ByteArray), .int .i64 0]) ?_ 0 _ rfl; (with_reducible repeat (first | refine blk_drewN ?_ _ | refine blk_drew ?_ | refine blk_alloc ?_ _)); refine blk_far ?_ NB110_113.out _; (with_reducible repeat (first | refine blk_drewN ?_ _ | refine blk_drew ?_ | refine blk_alloc ?_ _)); refine blk_far ?_ NB110_113.out _; (with_reducible repeat (first | refine blk_drewN ?_ _ | refine blk_drew ?_ | refine blk_alloc ?_ _)); refine blk_far ?_ NB110_113.out _; (with_reducible repeat (first | refine blk_drewN ?_ _ | refine blk_drew ?_ | refine blk_alloc ?_ _)); refine blk_far ?_ NB110_113.out _; (with_reducible repeat (first | refine blk_drewN ?_ _ | refine blk_drew ?_ | refine blk_alloc ?_ _)); refine blk_far ?_ NB110_113.out _; (with_reducible repeat (first | refine blk_drewN ?_ _ | refine blk_drew ?_ | refine blk_alloc ?_ _)); exact BK110.out) Tryd.underlying25 rfl (by kernel_rfl)) rfl ?_
  exact ⟨qnmo10_, qnmo9_⟩

end Go.Proofs.YtcdajedmlfhmeaaDoor.XN
