import Derived.Test.YtcdajedmlfhmeaaDoorZNP0
import Derived.Test.YtcdajedmlfhmeaaDoorZNP1
namespace Go.Proofs.YtcdajedmlfhmeaaDoor.XN
open Go.RowKit Go.Proofs.YtcdajedmlfhmeaaDoorW.PrintWords Go.Proofs.YtcdajedmlfhmeaaDoorW.PrintLast Go.Proofs.YtcdajedmlfhmeaaDoorW.PrintMore
attribute [local go_sem] max2_int min2_int max_two min_two max_three min_three max_four min_four
set_option linter.unusedVariables false
set_option linter.unusedSimpArgs false

/-! ### numeral_decimal: function 32 -/
def numeral_decimal.f (k : Nat) (a0_0 : Bool) (a0_1 : ByteArray) (a0_2 : ByteArray) (a0_3 : Int) : Option (Bool × ByteArray × ByteArray × Int) := (strings_TrimLeft.f k a0_1 (⟨#[48]⟩ : ByteArray)).bind fun t111 => ((strings_TrimRight.f k a0_2 (⟨#[48]⟩ : ByteArray)).bind fun t112 => (if a0_0 = true then (if t111.toList = ([] : List UInt8) then (some ((!t112.toList.isEmpty), t111, t112, a0_3)) else (some (true, t111, t112, a0_3))) else (some (false, t111, t112, a0_3))))
def numeral_decimal.T1 : Bool × List (List Nat × List Nat) := (true, [([], []), ([0], [0]), ([1], [1]), ([], []), ([3], [3]), ([4, 2], [4]), ([], []), ([6], [6]), ([2, 5, 7], [2, 5, 7]), ([], []), ([9, 8, 5, 0, 1, 2, 3, 4, 5, 6, 7, 8, 9], [8, 9])])
def numeral_decimal.B1 : List Nat := [0, 1, 3, 0, 8, 31, 0, 64, 255, 0, 1023]
theorem numeral_decimal.tab1 : rtab .any (opsOf Tryd.f32 1) = numeral_decimal.T1 := by kernel_rfl
theorem numeral_decimal.bits1 : waitsOk numeral_decimal.T1.2 numeral_decimal.B1 = true := by kernel_rfl
set_option maxHeartbeats 8000000 in
set_option maxRecDepth 100000 in
theorem numeral_decimal.calls (k : Nat) (a0_0 : Bool) (a0_1 : ByteArray) (a0_2 : ByteArray) (a0_3 : Int) (r1 : Bool) (r2 : ByteArray) (r3 : ByteArray) (r4 : Int) (w : World) (h : numeral_decimal.f k a0_0 a0_1 a0_2 a0_3 = some (r1, r2, r3, r4)) :
  Calls Tryd.prog 32 #[.agg #[.bool a0_0, .string a0_1, .string a0_2, .int .i64 a0_3]] w fun e w' => e = .returned (.agg #[.bool r1, .string r2, .string r3, .int .i64 r4]) ∧ Below w.heap.size w w' := by
 have hu55 := Tryd.underlying55
 have hu25 := Tryd.underlying25
 have HB := Aside0.mk (Below.refl w.heap.size w)
 have H : ((strings_TrimLeft.f k a0_1 (⟨#[48]⟩ : ByteArray)).bind fun t111 => ((strings_TrimRight.f k a0_2 (⟨#[48]⟩ : ByteArray)).bind fun t112 => (if a0_0 = true then (if t111.toList = ([] : List UInt8) then (some ((!t112.toList.isEmpty), t111, t112, a0_3)) else (some (true, t111, t112, a0_3))) else (some (false, t111, t112, a0_3))))) = some (r1, r2, r3, r4) := h
 clear h
 replace H := Option.bind_eq_some_iff.mp H
 obtain ⟨t111, A20, H⟩ := H
 replace H : ((strings_TrimRight.f k a0_2 (⟨#[48]⟩ : ByteArray)).bind fun t112 => (if a0_0 = true then (if t111.toList = ([] : List UInt8) then (some ((!t112.toList.isEmpty), t111, t112, a0_3)) else (some (true, t111, t112, a0_3))) else (some (false, t111, t112, a0_3)))) = some (r1, r2, r3, r4) := H
 have A2 := Aside0.mk A20
 clear A20
 replace H := Option.bind_eq_some_iff.mp H
 obtain ⟨t112, A30, H⟩ := H
 replace H : (if a0_0 = true then (if t111.toList = ([] : List UInt8) then (some ((!t112.toList.isEmpty), t111, t112, a0_3)) else (some (true, t111, t112, a0_3))) else (some (false, t111, t112, a0_3))) = some (r1, r2, r3, r4) := H
 have A3 := Aside0.mk A30
 clear A30
 by_cases c4 : a0_0 = true
 ·
  subst c4
  have H1 : (if t111.toList = ([] : List UInt8) then (some ((!t112.toList.isEmpty), t111, t112, a0_3)) else (some (true, t111, t112, a0_3))) = some (r1, r2, r3, r4) := by rw [if_pos rfl] at H; exact H
  clear H
  have H := H1
  clear H1
  by_cases c5 : t111.toList = ([] : List UInt8)
  ·
   rw [if_pos c5] at H
   have c5b0 : (t111.toList == ([] : List UInt8)) = true := beq_iff_eq.mpr c5
   have c5b1 : (t111.toList != ([] : List UInt8)) = false := bne_eq_false_iff_eq.mpr c5
   clear c5
   simp only [Option.some.injEq, Prod.mk.injEq] at H
   obtain ⟨rfl, rfl, rfl, rfl⟩ := H
   go_enter Tryd.func32, Tryd.ntmps32
   have tk23 : True := trivial; have tk24 : True := trivial
   try go_wp2_with (first | (have ztk23 := tk23; clear tk23 ztk23; (with_reducible refine gate_dst (N := 1) rfl ?_); refine box_event ?hg (N := 1) ?hd (cs := #[.bool true, .string a0_1, .string a0_2, .int .i64 a0_3]) (t := 55) ?hr ?_; (case hd => rfl); (case hg => rfl); (case hr => first | (go_simp; done) | (go_simp; rfl)); intro gb109 hg w6 hbox hb; have n0_ := Aside0.mk (below_step qnp1_ hb); have n1_ := Aside0.mk (hbox); have n2_ := Aside0.mk ((by rw [hg]; exact (below_size qnp1_) : w.heap.size ≤ gb109)); have n3_ := Aside0.mk ((by rw [hg]; exact (below_size qnp1_) : w.heap.size ≤ gb109)); clear HB; have HB := n0_; have BK109 := n1_; have GW109 := n2_; have GE109 := n3_; clear n0_ n1_ n2_ n3_; clear hb hbox hg) | (have ztk24 := tk24; clear tk24 ztk24; (with_reducible refine gate_dst (N := 2) rfl ?_); refine box_event ?hg (N := 2) ?hd (cs := #[.bool false, .string (⟨#[]⟩ : ByteArray), .string (⟨#[]⟩ : ByteArray), .int .i64 0]) (t := 25) ?hr ?_; (case hd => rfl); (case hg => rfl); (case hr => first | (go_simp; done) | (go_simp; rfl)); intro gb110 hg w7 hbox hb; have n0_ := Aside0.mk (blk_below (g := gb109) (o := .cells #[.bool true, .string a0_1, .string a0_2, .int .i64 a0_3] 55 (0, 0)) qnp6_ hb); have n1_ := Aside0.mk (below_step qnp34_ hb); have n2_ := Aside0.mk (hbox); have n3_ := Aside0.mk ((by rw [hg]; exact (below_size qnp34_) : w.heap.size ≤ gb110)); have n4_ := Aside0.mk ((by rw [hg]; exact (below_size qnp34_) : w.heap.size ≤ gb110)); have n5_ := Aside0.mk ((by rw [hg]; exact Nat.ne_of_lt (blk_lt (g := gb109) (o := .cells #[.bool true, .string a0_1, .string a0_2, .int .i64 a0_3] 55 (0, 0)) qnp6_) : gb109 ≠ gb110)); have n6_ := Aside0.mk ((by rw [hg]; exact Nat.ne_of_gt (blk_lt (g := gb109) (o := .cells #[.bool true, .string a0_1, .string a0_2, .int .i64 a0_3] 55 (0, 0)) qnp6_) : gb110 ≠ gb109)); clear BK109; clear HB; have BK109 := n0_; have HB := n1_; have BK110 := n2_; have GW110 := n3_; have GE110 := n4_; have NB109_110 := n5_; have NB110_109 := n6_; clear n0_ n1_ n2_ n3_ n4_ n5_ n6_; clear hb hbox hg))
   have n0_ := Aside0.mk (blk_drew BK109.out)
   have n1_ := Aside0.mk (blk_drew BK110.out)
   have n2_ := Aside0.mk (below_drew1 HB.out)
   clear BK109
   clear BK110
   clear HB
   have BK109 := n0_
   have BK110 := n1_
   have HB := n2_
   clear n0_ n1_ n2_
   refine start_ (n := 11) (S := fun w' => w'.cell? ⟨gb109, 0, none⟩ = some (.bool true) ∧ w'.cell? ⟨gb109, 1, none⟩ = some (.string a0_1) ∧ w'.cell? ⟨gb109, 2, none⟩ = some (.string a0_2) ∧ w'.cell? ⟨gb109, 3, none⟩ = some (.int .i64 a0_3)) (ds := []) #[false, false, false, false, false, false, false, false, false, false, false] (by kernel_rfl) rfl rfl ⟨(blk_cell BK109.out 0).trans rfl, (blk_cell BK109.out 1).trans rfl, (blk_cell BK109.out 2).trans rfl, (blk_cell BK109.out 3).trans rfl⟩ (fun hHeld => ?_); refine with_tabW numeral_decimal.tab1 numeral_decimal.bits1 (fun HT_ HW_ => ?_)
   generalize w7.drew = w8 at BK109 BK110 HB hHeld ⊢
   refine pure_ (i := 0) (N := some 4) (v := ?_) (a' := ?_) #[true, false, false, false, false, false, false, false, false, false, false] rfl rfl (any_of HT_.out (by kernel_rfl)) (fun _ _ _ h => h) (Or.inl ⟨by rfl, ?_⟩) ?_ ?_
   rotate_left
   ·
    intro w'
    go_simp
    with_reducible rfl
   rotate_left
   ·
    simp only [Act.put, List.setIfInBounds_toArray, List.set_cons_zero, List.set_cons_succ, i64_w, i32_w]
    rfl
   refine pure_ (i := 3) (N := some 7) (v := ?_) (a' := ?_) #[true, false, false, true, false, false, false, false, false, false, false] rfl rfl (any_of HT_.out (by kernel_rfl)) (fun _ _ _ h => h) (Or.inl ⟨by rfl, ?_⟩) ?_ ?_
   rotate_left
   ·
    intro w'
    go_simp
    with_reducible rfl
   rotate_left
   ·
    simp only [Act.put, List.setIfInBounds_toArray, List.set_cons_zero, List.set_cons_succ, i64_w, i32_w]
    rfl
   refine pure_ (i := 6) (N := some 10) (v := ?_) (a' := ?_) #[true, false, false, true, false, false, true, false, false, false, false] rfl rfl (any_of HT_.out (by kernel_rfl)) (fun _ _ _ h => h) (Or.inl ⟨by rfl, ?_⟩) ?_ ?_
   rotate_left
   ·
    intro w'
    go_simp
    with_reducible rfl
   rotate_left
   ·
    simp only [Act.put, List.setIfInBounds_toArray, List.set_cons_zero, List.set_cons_succ, i64_w, i32_w]
    rfl
   refine take_ (i := 1) (N := some 5) (v := ?_) (a' := ?_) #[true, true, false, true, false, false, true, false, false, false, false] rfl rfl (take_ofW HT_.out HW_.out (by kernel_rfl)) (fun _ _ _ h => h) (Or.inl ⟨by rfl, ?_⟩) hHeld ?_ ?_
   rotate_left
   ·
    rintro w' ⟨s0, s1, s2, s3⟩
    go_simp
    with_reducible rfl
   rotate_left
   ·
    simp only [Act.put, List.setIfInBounds_toArray, List.set_cons_zero, List.set_cons_succ, i64_w, i32_w]
    rfl
   refine take_ (i := 4) (N := some 8) (v := ?_) (a' := ?_) #[true, true, false, true, true, false, true, false, false, false, false] rfl rfl (take_ofW HT_.out HW_.out (by kernel_rfl)) (fun _ _ _ h => h) (Or.inl ⟨by rfl, ?_⟩) hHeld ?_ ?_
   rotate_left
   ·
    rintro w' ⟨s0, s1, s2, s3⟩
    go_simp
    with_reducible rfl
   rotate_left
   ·
    simp only [Act.put, List.setIfInBounds_toArray, List.set_cons_zero, List.set_cons_succ, i64_w, i32_w]
    rfl
   refine take_ (i := 7) (N := some 11) (v := ?_) (a' := ?_) #[true, true, false, true, true, false, true, true, false, false, false] rfl rfl (take_ofW HT_.out HW_.out (by kernel_rfl)) (fun _ _ _ h => h) (Or.inl ⟨by rfl, ?_⟩) hHeld ?_ ?_
   rotate_left
   ·
    rintro w' ⟨s0, s1, s2, s3⟩
    go_simp
    with_reducible rfl
   rotate_left
   ·
    simp only [Act.put, List.setIfInBounds_toArray, List.set_cons_zero, List.set_cons_succ, i64_w, i32_w]
    rfl
   refine join_ (σ := Nat) 1 #[true, true, true, true, true, true, true, true, true, true, false] (fun s_ => [(6, .string t111), (9, .string t112), (3, .pointer (some ⟨s_, 0, none⟩)), (12, .agg #[.bool false, .string t111, .string t112, .int .i64 a0_3])]) (fun s_ w' => (w'.cell? ⟨gb109, 0, none⟩ = some (.bool true) ∧ w'.cell? ⟨gb109, 1, none⟩ = some (.string a0_1) ∧ w'.cell? ⟨gb109, 2, none⟩ = some (.string a0_2) ∧ w'.cell? ⟨gb109, 3, none⟩ = some (.int .i64 a0_3)) ∧ (w'.heap[gb109]? = some (.cells #[.bool true, .string a0_1, .string a0_2, .int .i64 a0_3] 55 (0, 0))) ∧ (w'.heap[gb110]? = some (.cells #[.bool false, .string (⟨#[]⟩ : ByteArray), .string (⟨#[]⟩ : ByteArray), .int .i64 0] 25 (0, 0))) ∧ (w'.heap[s_]? = some (.cells #[.bool false, .string (⟨#[]⟩ : ByteArray), .string (⟨#[]⟩ : ByteArray), .int .i64 0] 25 (0, 0))) ∧ (w.heap.size ≤ s_) ∧ (w.heap.size ≤ s_) ∧ (gb109 ≠ s_) ∧ (s_ ≠ gb109) ∧ (gb110 ≠ s_) ∧ (s_ ≠ gb110) ∧ (Below w.heap.size w w')) ?_ ?_
   rotate_left
   ·
    intro hCont
    refine two_ (i := 2) (j := 9) (Ni := some 6) (Nj := some 3) #[true, true, true, true, true, false, true, true, false, false, false] #[true, true, false, true, true, false, true, true, false, true, false] rfl rfl rfl rfl (two_of HT_.out (by kernel_rfl)) (by decide) (by decide) (fun K hK => ?_) (fun K hK => ?_)
    ·
     skip
     refine goes_ Tryd.func66 (by kernel_rfl) rfl #[.string a0_1, .string (⟨#[48]⟩ : ByteArray)] (by rfl) rfl rfl qnp0_ ?_
     with_reducible refine (strings_TrimLeft.calls k a0_1 (⟨#[48]⟩ : ByteArray) t111 _ A2.out).mono ?_
     rintro e w9 ⟨rfl, hb⟩
     refine ⟨_, rfl, ?_⟩
     have n0_ := Aside0.mk (blk_below (g := gb109) (o := .cells #[.bool true, .string a0_1, .string a0_2, .int .i64 a0_3] 55 (0, 0)) qnp6_ hb)
     have n1_ := Aside0.mk (blk_below (g := gb110) (o := .cells #[.bool false, .string (⟨#[]⟩ : ByteArray), .string (⟨#[]⟩ : ByteArray), .int .i64 0] 25 (0, 0)) qnp8_ hb)
     have n2_ := Aside0.mk (below_step qnp7_ hb)
     clear BK109
     clear BK110
     clear HB
     have BK109 := n0_
     have BK110 := n1_
     have HB := n2_
     clear n0_ n1_ n2_
     (try clear hb); (try clear hb2); (try clear hk); (try clear hi)
     refine hK.out _ _ ⟨(blk_cell BK109.out 0).trans rfl, (blk_cell BK109.out 1).trans rfl, (blk_cell BK109.out 2).trans rfl, (blk_cell BK109.out 3).trans rfl⟩ (fun hHeld => ?_)
     clear hK K
     refine norm_ (a' := ?_) ?_ ?_
     rotate_left
     ·
      show Act.put _ (some 6) _ = _
      simp only [Act.put, List.setIfInBounds_toArray, List.set_cons_zero, List.set_cons_succ, i64_w, i32_w]
      rfl
     refine two_ (i := 5) (j := 9) (Ni := some 9) (Nj := some 3) #[true, true, true, true, true, true, true, true, false, false, false] #[true, true, true, true, true, false, true, true, false, true, false] rfl rfl rfl rfl (two_of HT_.out (by kernel_rfl)) (by decide) (by decide) (fun K hK => ?_) (fun K hK => ?_)
     ·
      skip
      refine goes_ Tryd.func67 (by kernel_rfl) rfl #[.string a0_2, .string (⟨#[48]⟩ : ByteArray)] (by rfl) rfl rfl qnp0_ ?_
      with_reducible refine (strings_TrimRight.calls k a0_2 (⟨#[48]⟩ : ByteArray) t112 _ A3.out).mono ?_
      rintro e w10 ⟨rfl, hb⟩
      refine ⟨_, rfl, ?_⟩
      have n0_ := Aside0.mk (blk_below (g := gb109) (o := .cells #[.bool true, .string a0_1, .string a0_2, .int .i64 a0_3] 55 (0, 0)) qnp6_ hb)
      have n1_ := Aside0.mk (blk_below (g := gb110) (o := .cells #[.bool false, .string (⟨#[]⟩ : ByteArray), .string (⟨#[]⟩ : ByteArray), .int .i64 0] 25 (0, 0)) qnp8_ hb)
      have n2_ := Aside0.mk (below_step qnp7_ hb)
      clear BK109
      clear BK110
      clear HB
      have BK109 := n0_
      have BK110 := n1_
      have HB := n2_
      clear n0_ n1_ n2_
      (try clear hb); (try clear hb2); (try clear hk); (try clear hi)
      refine hK.out _ _ ⟨(blk_cell BK109.out 0).trans rfl, (blk_cell BK109.out 1).trans rfl, (blk_cell BK109.out 2).trans rfl, (blk_cell BK109.out 3).trans rfl⟩ (fun hHeld => ?_)
      clear hK K
      refine norm_ (a' := ?_) ?_ ?_
      rotate_left
      ·
       show Act.put _ (some 9) _ = _
       simp only [Act.put, List.setIfInBounds_toArray, List.set_cons_zero, List.set_cons_succ, i64_w, i32_w]
       rfl
      refine pure_ (i := 8) (N := some 12) (v := ?_) (a' := ?_) #[true, true, true, true, true, true, true, true, true, false, false] rfl rfl (any_of HT_.out (by kernel_rfl)) (fun _ _ _ h => h) (Or.inl ⟨by rfl, ?_⟩) ?_ ?_
      rotate_left
      ·
       intro w'
       go_simp
       with_reducible rfl
      rotate_left
      ·
       simp only [Act.put, List.setIfInBounds_toArray, List.set_cons_zero, List.set_cons_succ, i64_w, i32_w]
       rfl
      refine one_ (i := 9) (N := some 3) #[true, true, true, true, true, true, true, true, true, true, false] rfl rfl (one_of HT_.out (by kernel_rfl)) (by decide) (fun K hK => ?_)
      refine box_step ?hg (N := 3) ?hd (cs := #[.bool false, .string (⟨#[]⟩ : ByteArray), .string (⟨#[]⟩ : ByteArray), .int .i64 0]) (t := 25) ?hr ?_; (case hd => rfl); (case hg => rfl); (case hr => first | (go_simp; done) | (go_simp; rfl))
      intro gb113 hg w11 hbox hb
      have n0_ := Aside0.mk (blk_below (g := gb109) (o := .cells #[.bool true, .string a0_1, .string a0_2, .int .i64 a0_3] 55 (0, 0)) qnp6_ hb)
      have n1_ := Aside0.mk (blk_below (g := gb110) (o := .cells #[.bool false, .string (⟨#[]⟩ : ByteArray), .string (⟨#[]⟩ : ByteArray), .int .i64 0] 25 (0, 0)) qnp8_ hb)
      have n2_ := Aside0.mk (below_step qnp7_ hb)
      have n3_ := Aside0.mk (hbox)
      have n4_ := Aside0.mk ((by rw [hg]; exact (below_size qnp7_) : w.heap.size ≤ gb113))
      have n5_ := Aside0.mk ((by rw [hg]; exact (below_size qnp7_) : w.heap.size ≤ gb113))
      have n6_ := Aside0.mk ((by rw [hg]; exact Nat.ne_of_lt (blk_lt (g := gb109) (o := .cells #[.bool true, .string a0_1, .string a0_2, .int .i64 a0_3] 55 (0, 0)) qnp6_) : gb109 ≠ gb113))
      have n7_ := Aside0.mk ((by rw [hg]; exact Nat.ne_of_gt (blk_lt (g := gb109) (o := .cells #[.bool true, .string a0_1, .string a0_2, .int .i64 a0_3] 55 (0, 0)) qnp6_) : gb113 ≠ gb109))
      have n8_ := Aside0.mk ((by rw [hg]; exact Nat.ne_of_lt (blk_lt (g := gb110) (o := .cells #[.bool false, .string (⟨#[]⟩ : ByteArray), .string (⟨#[]⟩ : ByteArray), .int .i64 0] 25 (0, 0)) qnp8_) : gb110 ≠ gb113))
      have n9_ := Aside0.mk ((by rw [hg]; exact Nat.ne_of_gt (blk_lt (g := gb110) (o := .cells #[.bool false, .string (⟨#[]⟩ : ByteArray), .string (⟨#[]⟩ : ByteArray), .int .i64 0] 25 (0, 0)) qnp8_) : gb113 ≠ gb110))
      clear BK109
      clear BK110
      clear HB
      have BK109 := n0_
      have BK110 := n1_
      have HB := n2_
      have BK113 := n3_
      have GW113 := n4_
      have GE113 := n5_
      have NB109_113 := n6_
      have NB113_109 := n7_
      have NB110_113 := n8_
      have NB113_110 := n9_
      clear n0_ n1_ n2_ n3_ n4_ n5_ n6_ n7_ n8_ n9_
      clear hb hbox hg
      refine hK.out _ _ ⟨(blk_cell BK109.out 0).trans rfl, (blk_cell BK109.out 1).trans rfl, (blk_cell BK109.out 2).trans rfl, (blk_cell BK109.out 3).trans rfl⟩ (fun hHeld => ?_)
      clear hK K
      refine norm_ (a' := ?_) ?_ ?_
      rotate_left
      ·
       show Act.put _ (some 3) _ = _
       simp only [Act.put, List.setIfInBounds_toArray, List.set_cons_zero, List.set_cons_succ, i64_w, i32_w]
       rfl
      exact norm_ qnp32_ (hCont (gb113) _ ⟨hHeld, qnp6_, qnp8_, qnp23_, GW113.out, GE113.out, NB109_113.out, NB113_109.out, NB110_113.out, NB113_110.out, qnp11_⟩)
     ·
      skip
      refine box_step ?hg (N := 3) ?hd (cs := #[.bool false, .string (⟨#[]⟩ : ByteArray), .string (⟨#[]⟩ : ByteArray), .int .i64 0]) (t := 25) ?hr ?_; (case hd => rfl); (case hg => rfl); (case hr => first | (go_simp; done) | (go_simp; rfl))
      intro gb113 hg w10 hbox hb
      have n0_ := Aside0.mk (blk_below (g := gb109) (o := .cells #[.bool true, .string a0_1, .string a0_2, .int .i64 a0_3] 55 (0, 0)) qnp6_ hb)
      have n1_ := Aside0.mk (blk_below (g := gb110) (o := .cells #[.bool false, .string (⟨#[]⟩ : ByteArray), .string (⟨#[]⟩ : ByteArray), .int .i64 0] 25 (0, 0)) qnp8_ hb)
      have n2_ := Aside0.mk (below_step qnp7_ hb)
      have n3_ := Aside0.mk (hbox)
      have n4_ := Aside0.mk ((by rw [hg]; exact (below_size qnp7_) : w.heap.size ≤ gb113))
      have n5_ := Aside0.mk ((by rw [hg]; exact (below_size qnp7_) : w.heap.size ≤ gb113))
      have n6_ := Aside0.mk ((by rw [hg]; exact Nat.ne_of_lt (blk_lt (g := gb109) (o := .cells #[.bool true, .string a0_1, .string a0_2, .int .i64 a0_3] 55 (0, 0)) qnp6_) : gb109 ≠ gb113))
      have n7_ := Aside0.mk ((by rw [hg]; exact Nat.ne_of_gt (blk_lt (g := gb109) (o := .cells #[.bool true, .string a0_1, .string a0_2, .int .i64 a0_3] 55 (0, 0)) qnp6_) : gb113 ≠ gb109))
      have n8_ := Aside0.mk ((by rw [hg]; exact Nat.ne_of_lt (blk_lt (g := gb110) (o := .cells #[.bool false, .string (⟨#[]⟩ : ByteArray), .string (⟨#[]⟩ : ByteArray), .int .i64 0] 25 (0, 0)) qnp8_) : gb110 ≠ gb113))
      have n9_ := Aside0.mk ((by rw [hg]; exact Nat.ne_of_gt (blk_lt (g := gb110) (o := .cells #[.bool false, .string (⟨#[]⟩ : ByteArray), .string (⟨#[]⟩ : ByteArray), .int .i64 0] 25 (0, 0)) qnp8_) : gb113 ≠ gb110))
      clear BK109
      clear BK110
      clear HB
      have BK109 := n0_
      have BK110 := n1_
      have HB := n2_
      have BK113 := n3_
      have GW113 := n4_
      have GE113 := n5_
      have NB109_113 := n6_
      have NB113_109 := n7_
      have NB110_113 := n8_
      have NB113_110 := n9_
      clear n0_ n1_ n2_ n3_ n4_ n5_ n6_ n7_ n8_ n9_
      clear hb hbox hg
      refine hK.out _ _ ⟨(blk_cell BK109.out 0).trans rfl, (blk_cell BK109.out 1).trans rfl, (blk_cell BK109.out 2).trans rfl, (blk_cell BK109.out 3).trans rfl⟩ (fun hHeld => ?_)
      clear hK K
      refine norm_ (a' := ?_) ?_ ?_
      rotate_left
      ·
       show Act.put _ (some 3) _ = _
       simp only [Act.put, List.setIfInBounds_toArray, List.set_cons_zero, List.set_cons_succ, i64_w, i32_w]
       rfl
      refine one_ (i := 5) (N := some 9) #[true, true, true, true, true, true, true, true, false, true, false] rfl rfl (one_of HT_.out (by kernel_rfl)) (by decide) (fun K hK => ?_)
      refine goes_ Tryd.func67 (by kernel_rfl) rfl #[.string a0_2, .string (⟨#[48]⟩ : ByteArray)] (by rfl) rfl rfl qnp0_ ?_
      with_reducible refine (strings_TrimRight.calls k a0_2 (⟨#[48]⟩ : ByteArray) t112 _ A3.out).mono ?_
      rintro e w11 ⟨rfl, hb⟩
      refine ⟨_, rfl, ?_⟩
      have n0_ := Aside0.mk (blk_below (g := gb109) (o := .cells #[.bool true, .string a0_1, .string a0_2, .int .i64 a0_3] 55 (0, 0)) qnp6_ hb)
      have n1_ := Aside0.mk (blk_below (g := gb110) (o := .cells #[.bool false, .string (⟨#[]⟩ : ByteArray), .string (⟨#[]⟩ : ByteArray), .int .i64 0] 25 (0, 0)) qnp8_ hb)
      have n2_ := Aside0.mk (blk_below (g := gb113) (o := .cells #[.bool false, .string (⟨#[]⟩ : ByteArray), .string (⟨#[]⟩ : ByteArray), .int .i64 0] 25 (0, 0)) qnp23_ hb)
      have n3_ := Aside0.mk (below_step qnp11_ hb)
      clear BK109
      clear BK110
      clear BK113
      clear HB
      have BK109 := n0_
      have BK110 := n1_
      have BK113 := n2_
      have HB := n3_
      clear n0_ n1_ n2_ n3_
      (try clear hb); (try clear hb2); (try clear hk); (try clear hi)
      refine hK.out _ _ ⟨(blk_cell BK109.out 0).trans rfl, (blk_cell BK109.out 1).trans rfl, (blk_cell BK109.out 2).trans rfl, (blk_cell BK109.out 3).trans rfl⟩ (fun hHeld => ?_)
      clear hK K
      refine norm_ (a' := ?_) ?_ ?_
      rotate_left
      ·
       show Act.put _ (some 9) _ = _
       simp only [Act.put, List.setIfInBounds_toArray, List.set_cons_zero, List.set_cons_succ, i64_w, i32_w]
       rfl
      refine pure_ (i := 8) (N := some 12) (v := ?_) (a' := ?_) #[true, true, true, true, true, true, true, true, true, true, false] rfl rfl (any_of HT_.out (by kernel_rfl)) (fun _ _ _ h => h) (Or.inl ⟨by rfl, ?_⟩) ?_ ?_
      rotate_left
      ·
       intro w'
       go_simp
       with_reducible rfl
      rotate_left
      ·
       simp only [Act.put, List.setIfInBounds_toArray, List.set_cons_zero, List.set_cons_succ, i64_w, i32_w]
       rfl
      exact norm_ qnp32_ (hCont (gb113) _ ⟨hHeld, qnp6_, qnp8_, qnp23_, GW113.out, GE113.out, NB109_113.out, NB113_109.out, NB110_113.out, NB113_110.out, qnp11_⟩)
    ·
     skip
     refine box_step ?hg (N := 3) ?hd (cs := #[.bool false, .string (⟨#[]⟩ : ByteArray), .string (⟨#[]⟩ : ByteArray), .int .i64 0]) (t := 25) ?hr ?_; (case hd => rfl); (case hg => rfl); (case hr => first | (go_simp; done) | (go_simp; rfl))
     intro gb113 hg w9 hbox hb
     have n0_ := Aside0.mk (blk_below (g := gb109) (o := .cells #[.bool true, .string a0_1, .string a0_2, .int .i64 a0_3] 55 (0, 0)) qnp6_ hb)
     have n1_ := Aside0.mk (blk_below (g := gb110) (o := .cells #[.bool false, .string (⟨#[]⟩ : ByteArray), .string (⟨#[]⟩ : ByteArray), .int .i64 0] 25 (0, 0)) qnp8_ hb)
     have n2_ := Aside0.mk (below_step qnp7_ hb)
     have n3_ := Aside0.mk (hbox)
     have n4_ := Aside0.mk ((by rw [hg]; exact (below_size qnp7_) : w.heap.size ≤ gb113))
     have n5_ := Aside0.mk ((by rw [hg]; exact (below_size qnp7_) : w.heap.size ≤ gb113))
     have n6_ := Aside0.mk ((by rw [hg]; exact Nat.ne_of_lt (blk_lt (g := gb109) (o := .cells #[.bool true, .string a0_1, .string a0_2, .int .i64 a0_3] 55 (0, 0)) qnp6_) : gb109 ≠ gb113))
     have n7_ := Aside0.mk ((by rw [hg]; exact Nat.ne_of_gt (blk_lt (g := gb109) (o := .cells #[.bool true, .string a0_1, .string a0_2, .int .i64 a0_3] 55 (0, 0)) qnp6_) : gb113 ≠ gb109))
     have n8_ := Aside0.mk ((by rw [hg]; exact Nat.ne_of_lt (blk_lt (g := gb110) (o := .cells #[.bool false, .string (⟨#[]⟩ : ByteArray), .string (⟨#[]⟩ : ByteArray), .int .i64 0] 25 (0, 0)) qnp8_) : gb110 ≠ gb113))
     have n9_ := Aside0.mk ((by rw [hg]; exact Nat.ne_of_gt (blk_lt (g := gb110) (o := .cells #[.bool false, .string (⟨#[]⟩ : ByteArray), .string (⟨#[]⟩ : ByteArray), .int .i64 0] 25 (0, 0)) qnp8_) : gb113 ≠ gb110))
     clear BK109
     clear BK110
     clear HB
     have BK109 := n0_
     have BK110 := n1_
     have HB := n2_
     have BK113 := n3_
     have GW113 := n4_
     have GE113 := n5_
     have NB109_113 := n6_
     have NB113_109 := n7_
     have NB110_113 := n8_
     have NB113_110 := n9_
     clear n0_ n1_ n2_ n3_ n4_ n5_ n6_ n7_ n8_ n9_
     clear hb hbox hg
     refine hK.out _ _ ⟨(blk_cell BK109.out 0).trans rfl, (blk_cell BK109.out 1).trans rfl, (blk_cell BK109.out 2).trans rfl, (blk_cell BK109.out 3).trans rfl⟩ (fun hHeld => ?_)
     clear hK K
     refine norm_ (a' := ?_) ?_ ?_
     rotate_left
     ·
      show Act.put _ (some 3) _ = _
      simp only [Act.put, List.setIfInBounds_toArray, List.set_cons_zero, List.set_cons_succ, i64_w, i32_w]
      rfl
     refine one_ (i := 2) (N := some 6) #[true, true, true, true, true, false, true, true, false, true, false] rfl rfl (one_of HT_.out (by kernel_rfl)) (by decide) (fun K hK => ?_)
     refine goes_ Tryd.func66 (by kernel_rfl) rfl #[.string a0_1, .string (⟨#[48]⟩ : ByteArray)] (by rfl) rfl rfl qnp0_ ?_
     with_reducible refine (strings_TrimLeft.calls k a0_1 (⟨#[48]⟩ : ByteArray) t111 _ A2.out).mono ?_
     rintro e w10 ⟨rfl, hb⟩
     refine ⟨_, rfl, ?_⟩
     have n0_ := Aside0.mk (blk_below (g := gb109) (o := .cells #[.bool true, .string a0_1, .string a0_2, .int .i64 a0_3] 55 (0, 0)) qnp6_ hb)
     have n1_ := Aside0.mk (blk_below (g := gb110) (o := .cells #[.bool false, .string (⟨#[]⟩ : ByteArray), .string (⟨#[]⟩ : ByteArray), .int .i64 0] 25 (0, 0)) qnp8_ hb)
     have n2_ := Aside0.mk (blk_below (g := gb113) (o := .cells #[.bool false, .string (⟨#[]⟩ : ByteArray), .string (⟨#[]⟩ : ByteArray), .int .i64 0] 25 (0, 0)) qnp23_ hb)
     have n3_ := Aside0.mk (below_step qnp11_ hb)
     clear BK109
     clear BK110
     clear BK113
     clear HB
     have BK109 := n0_
     have BK110 := n1_
     have BK113 := n2_
     have HB := n3_
     clear n0_ n1_ n2_ n3_
     (try clear hb); (try clear hb2); (try clear hk); (try clear hi)
     refine hK.out _ _ ⟨(blk_cell BK109.out 0).trans rfl, (blk_cell BK109.out 1).trans rfl, (blk_cell BK109.out 2).trans rfl, (blk_cell BK109.out 3).trans rfl⟩ (fun hHeld => ?_)
     clear hK K
     refine norm_ (a' := ?_) ?_ ?_
     rotate_left
     ·
      show Act.put _ (some 6) _ = _
      simp only [Act.put, List.setIfInBounds_toArray, List.set_cons_zero, List.set_cons_succ, i64_w, i32_w]
      rfl
     refine one_ (i := 5) (N := some 9) #[true, true, true, true, true, true, true, true, false, true, false] rfl rfl (one_of HT_.out (by kernel_rfl)) (by decide) (fun K hK => ?_)
     refine goes_ Tryd.func67 (by kernel_rfl) rfl #[.string a0_2, .string (⟨#[48]⟩ : ByteArray)] (by rfl) rfl rfl qnp0_ ?_
     with_reducible refine (strings_TrimRight.calls k a0_2 (⟨#[48]⟩ : ByteArray) t112 _ A3.out).mono ?_
     rintro e w11 ⟨rfl, hb⟩
     refine ⟨_, rfl, ?_⟩
     have n0_ := Aside0.mk (blk_below (g := gb109) (o := .cells #[.bool true, .string a0_1, .string a0_2, .int .i64 a0_3] 55 (0, 0)) qnp6_ hb)
     have n1_ := Aside0.mk (blk_below (g := gb110) (o := .cells #[.bool false, .string (⟨#[]⟩ : ByteArray), .string (⟨#[]⟩ : ByteArray), .int .i64 0] 25 (0, 0)) qnp8_ hb)
     have n2_ := Aside0.mk (blk_below (g := gb113) (o := .cells #[.bool false, .string (⟨#[]⟩ : ByteArray), .string (⟨#[]⟩ : ByteArray), .int .i64 0] 25 (0, 0)) qnp23_ hb)
     have n3_ := Aside0.mk (below_step qnp11_ hb)
     clear BK109
     clear BK110
     clear BK113
     clear HB
     have BK109 := n0_
     have BK110 := n1_
     have BK113 := n2_
     have HB := n3_
     clear n0_ n1_ n2_ n3_
     (try clear hb); (try clear hb2); (try clear hk); (try clear hi)
     refine hK.out _ _ ⟨(blk_cell BK109.out 0).trans rfl, (blk_cell BK109.out 1).trans rfl, (blk_cell BK109.out 2).trans rfl, (blk_cell BK109.out 3).trans rfl⟩ (fun hHeld => ?_)
     clear hK K
     refine norm_ (a' := ?_) ?_ ?_
     rotate_left
     ·
      show Act.put _ (some 9) _ = _
      simp only [Act.put, List.setIfInBounds_toArray, List.set_cons_zero, List.set_cons_succ, i64_w, i32_w]
      rfl
     refine pure_ (i := 8) (N := some 12) (v := ?_) (a' := ?_) #[true, true, true, true, true, true, true, true, true, true, false] rfl rfl (any_of HT_.out (by kernel_rfl)) (fun _ _ _ h => h) (Or.inl ⟨by rfl, ?_⟩) ?_ ?_
     rotate_left
     ·
      intro w'
      go_simp
      with_reducible rfl
     rotate_left
     ·
      simp only [Act.put, List.setIfInBounds_toArray, List.set_cons_zero, List.set_cons_succ, i64_w, i32_w]
      rfl
     exact norm_ qnp32_ (hCont (gb113) _ ⟨hHeld, qnp6_, qnp8_, qnp23_, GW113.out, GE113.out, NB109_113.out, NB113_109.out, NB110_113.out, NB113_110.out, qnp11_⟩)
   rintro gb113 w12 ⟨hS_, h0_, h1_, h2_, h3_, h4_, h5_, h6_, h7_, h8_, h9_⟩
   have n0_ : Aside0 (w12.heap[gb109]? = some (.cells #[.bool true, .string a0_1, .string a0_2, .int .i64 a0_3] 55 (0, 0))) := ⟨h0_⟩
   have n1_ : Aside0 (w12.heap[gb110]? = some (.cells #[.bool false, .string (⟨#[]⟩ : ByteArray), .string (⟨#[]⟩ : ByteArray), .int .i64 0] 25 (0, 0))) := ⟨h1_⟩
   have n2_ : Aside0 (w12.heap[gb113]? = some (.cells #[.bool false, .string (⟨#[]⟩ : ByteArray), .string (⟨#[]⟩ : ByteArray), .int .i64 0] 25 (0, 0))) := ⟨h2_⟩
   have n3_ : Aside0 (w.heap.size ≤ gb113) := ⟨h3_⟩
   have n4_ : Aside0 (w.heap.size ≤ gb113) := ⟨h4_⟩
   have n5_ : Aside0 (gb109 ≠ gb113) := ⟨h5_⟩
   have n6_ : Aside0 (gb113 ≠ gb109) := ⟨h6_⟩
   have n7_ : Aside0 (gb110 ≠ gb113) := ⟨h7_⟩
   have n8_ : Aside0 (gb113 ≠ gb110) := ⟨h8_⟩
   have n9_ : Aside0 (Below w.heap.size w w12) := ⟨h9_⟩
   clear BK109
   clear BK110
   clear HB
   clear h0_ h1_ h2_ h3_ h4_ h5_ h6_ h7_ h8_ h9_
   have BK109 := n0_
   have BK110 := n1_
   have BK113 := n2_
   have GW113 := n3_
   have GE113 := n4_
   have NB109_113 := n5_
   have NB113_109 := n6_
   have NB110_113 := n7_
   have NB113_110 := n8_
   have HB := n9_
   clear n0_ n1_ n2_ n3_ n4_ n5_ n6_ n7_ n8_ n9_
   have hHeld : w12.cell? ⟨gb109, 0, none⟩ = some (.bool true) ∧ w12.cell? ⟨gb109, 1, none⟩ = some (.string a0_1) ∧ w12.cell? ⟨gb109, 2, none⟩ = some (.string a0_2) ∧ w12.cell? ⟨gb109, 3, none⟩ = some (.int .i64 a0_3) := hS_
   refine norm_ (a' := ?_) ?_ ?_
   rotate_left
   ·
    simp only [putAll, Act.put, List.setIfInBounds_toArray, List.set_cons_zero, List.set_cons_succ]
    rfl
   refine one_ (i := 10) (N := none) #[true, true, true, true, true, true, true, true, true, true, true] rfl rfl (one_of HT_.out (by kernel_rfl)) (by decide) (fun K hK => ?_)
   have hs13 : w12.cell? ⟨gb113, 0, none⟩ = some (.bool false) := (blk_cell BK113.out 0).trans rfl
   have hfs13 := blk_frozen BK113.out 0
   have hns13_0 := NB109_113.out
   have hns13_1 := NB110_113.out
   have hms13_0 := NB113_109.out
   have hms13_1 := NB113_110.out
   have hs14 : w12.cell? ⟨gb113, 1, none⟩ = some (.string (⟨#[]⟩ : ByteArray)) := (blk_cell BK113.out 1).trans rfl
   have hfs14 := blk_frozen BK113.out 1
   have hns14_0 := NB109_113.out
   have hns14_1 := NB110_113.out
   have hms14_0 := NB113_109.out
   have hms14_1 := NB113_110.out
   have hs15 : w12.cell? ⟨gb113, 2, none⟩ = some (.string (⟨#[]⟩ : ByteArray)) := (blk_cell BK113.out 2).trans rfl
   have hfs15 := blk_frozen BK113.out 2
   have hns15_0 := NB109_113.out
   have hns15_1 := NB110_113.out
   have hms15_0 := NB113_109.out
   have hms15_1 := NB113_110.out
   have hs16 : w12.cell? ⟨gb113, 3, none⟩ = some (.int .i64 0) := (blk_cell BK113.out 3).trans rfl
   have hfs16 := blk_frozen BK113.out 3
   have hns16_0 := NB109_113.out
   have hns16_1 := NB110_113.out
   have hms16_0 := NB113_109.out
   have hms16_1 := NB113_110.out
   refine skip_ (w1 := ?_) (by rfl) rfl ?_ ?_
   rotate_left
   ·
    go_simp
    rfl
   refine hK.out _ _ ⟨((cell_far (p := ⟨gb113, _, none⟩) NB109_113.out _).trans (((cell_far (p := ⟨gb113, _, none⟩) NB109_113.out _).trans (((cell_far (p := ⟨gb113, _, none⟩) NB109_113.out _).trans (((cell_far (p := ⟨gb113, _, none⟩) NB109_113.out _).trans (hHeld.1)))))))), ((cell_far (p := ⟨gb113, _, none⟩) NB109_113.out _).trans (((cell_far (p := ⟨gb113, _, none⟩) NB109_113.out _).trans (((cell_far (p := ⟨gb113, _, none⟩) NB109_113.out _).trans (((cell_far (p := ⟨gb113, _, none⟩) NB109_113.out _).trans (hHeld.2.1)))))))), ((cell_far (p := ⟨gb113, _, none⟩) NB109_113.out _).trans (((cell_far (p := ⟨gb113, _, none⟩) NB109_113.out _).trans (((cell_far (p := ⟨gb113, _, none⟩) NB109_113.out _).trans (((cell_far (p := ⟨gb113, _, none⟩) NB109_113.out _).trans (hHeld.2.2.1)))))))), ((cell_far (p := ⟨gb113, _, none⟩) NB109_113.out _).trans (((cell_far (p := ⟨gb113, _, none⟩) NB109_113.out _).trans (((cell_far (p := ⟨gb113, _, none⟩) NB109_113.out _).trans (((cell_far (p := ⟨gb113, _, none⟩) NB109_113.out _).trans (hHeld.2.2.2))))))))⟩ (fun hHeld => ?_)
   clear hK K
   refine done_ (done_of HT_.out (by kernel_rfl)) ?_
   have hnb17 := NB109_110.out
   have hnc17 := NB110_109.out
   have hnb18 := NB109_113.out
   have hnc18 := NB113_109.out
   have hcz19_0 : w12.cell? ⟨gb109, 0, none⟩ = some (.bool true) := (blk_cell BK109.out 0).trans rfl
   have hcz19_1 : w12.cell? ⟨gb109, 1, none⟩ = some (.string a0_1) := (blk_cell BK109.out 1).trans rfl
   have hcz19_2 : w12.cell? ⟨gb109, 2, none⟩ = some (.string a0_2) := (blk_cell BK109.out 2).trans rfl
   have hcz19_3 : w12.cell? ⟨gb109, 3, none⟩ = some (.int .i64 a0_3) := (blk_cell BK109.out 3).trans rfl
   have hfz19_0 := blk_frozen BK109.out 0
   have hfz19_1 := blk_frozen BK109.out 1
   have hfz19_2 := blk_frozen BK109.out 2
   have hfz19_3 := blk_frozen BK109.out 3
   have hnb20 := NB113_110.out
   have hnc20 := NB110_113.out
   have hcz21_0 : w12.cell? ⟨gb113, 0, none⟩ = some (.bool false) := (blk_cell BK113.out 0).trans rfl
   have hcz21_1 : w12.cell? ⟨gb113, 1, none⟩ = some (.string (⟨#[]⟩ : ByteArray)) := (blk_cell BK113.out 1).trans rfl
   have hcz21_2 : w12.cell? ⟨gb113, 2, none⟩ = some (.string (⟨#[]⟩ : ByteArray)) := (blk_cell BK113.out 2).trans rfl
   have hcz21_3 : w12.cell? ⟨gb113, 3, none⟩ = some (.int .i64 0) := (blk_cell BK113.out 3).trans rfl
   have hfz21_0 := blk_frozen BK113.out 0
   have hfz21_1 := blk_frozen BK113.out 1
   have hfz21_2 := blk_frozen BK113.out 2
   have hfz21_3 := blk_frozen BK113.out 3
   have hcz22_0 : w12.cell? ⟨gb110, 0, none⟩ = some (.bool false) := (blk_cell BK110.out 0).trans rfl
   have hcz22_1 : w12.cell? ⟨gb110, 1, none⟩ = some (.string (⟨#[]⟩ : ByteArray)) := (blk_cell BK110.out 1).trans rfl
   have hcz22_2 : w12.cell? ⟨gb110, 2, none⟩ = some (.string (⟨#[]⟩ : ByteArray)) := (blk_cell BK110.out 2).trans rfl
   have hcz22_3 : w12.cell? ⟨gb110, 3, none⟩ = some (.int .i64 0) := (blk_cell BK110.out 3).trans rfl
   have hfz22_0 := blk_frozen BK110.out 0
   have hfz22_1 := blk_frozen BK110.out 1
   have hfz22_2 := blk_frozen BK110.out 2
   have hfz22_3 := blk_frozen BK110.out 3
   try go_wp2
   refine bodyPost_ret (results_cell_row rfl _ _ gb110 25 #[.bool (!t112.toList.isEmpty), .string t111, .string t112, .int .i64 a0_3] (0, 0) _ rfl (by (with_reducible repeat (first | refine blk_drewN ?_ _ | refine blk_drew ?_ | refine blk_alloc ?_ _)); refine blk_put (cs := #[.bool (!t112.toList.isEmpty), .string t111, .string t112, .int .i64 0]) ?_ 3 _ rfl; (with_reducible repeat (first | refine blk_drewN ?_ _ | refine blk_drew ?_ | refine blk_alloc ?_ _)); refine blk_put (cs := #[.bool (!t112.toList.isEmpty), .string t111, .string (⟨#[]⟩ : ByteArray), .int .i64 0]) ?_ 2 _ rfl; (with_reducible repeat (first | refine blk_drewN ?_ _ | refine blk_drew ?_ | refine blk_alloc ?_ _)); refine blk_put (cs := #[.bool (!t112.toList.isEmpty), .string (⟨#[]⟩ : ByteArray), .string (⟨#[]⟩ : ByteArray), .int .i64 0]) ?_ 1 _ rfl; (with_reducible repeat (first | refine blk_drewN ?_ _ | refine blk_drew ?_ | refine blk_alloc ?_ _)); refine blk_put (cs := #[.bool false, .string (⟨#[]⟩ : ByteArray), .string (⟨#[]⟩ : ByteArray), .int .i64 0]) ?_ 0 _ rfl; (with_reducible repeat (first | refine blk_drewN ?_ _ | refine blk_drew ?_ | refine blk_alloc ?_ _)); refine blk_far ?_ NB110_113.out _; (with_reducible repeat (first | refine blk_drewN ?_ _ | refine blk_drew ?_ | refine blk_alloc ?_ _)); refine blk_far ?_ NB110_113.out _; (with_reducible repeat (first | refine blk_drewN ?_ _ | refine blk_drew ?_ | refine blk_alloc ?_ _)); refine blk_far ?_ NB110_113.out _; (with_reducible repeat (first | refine blk_drewN ?_ _ | refine blk_drew ?_ | refine blk_alloc ?_ _)); refine blk_far ?_ NB110_113.out _; (with_reducible repeat (first | refine blk_drewN ?_ _ | refine blk_drew ?_ | refine blk_alloc ?_ _)); refine blk_far ?_ NB110_113.out _; (with_reducible repeat (first | refine blk_drewN ?_ _ | refine blk_drew ?_ | refine blk_alloc ?_ _)); exact BK110.out) Tryd.underlying25 rfl (by kernel_rfl)) rfl ?_
   exact ⟨qnp5_, qnp11_⟩
  ·
   rw [if_neg c5] at H
   have c5b0 : (t111.toList == ([] : List UInt8)) = false := beq_eq_false_iff_ne.mpr c5
   have c5b1 : (t111.toList != ([] : List UInt8)) = true := bne_iff_ne.mpr c5
   simp only [Option.some.injEq, Prod.mk.injEq] at H
   obtain ⟨rfl, rfl, rfl, rfl⟩ := H
   go_enter Tryd.func32, Tryd.ntmps32
   have tk42 : True := trivial; have tk43 : True := trivial
   try go_wp2_with (first | (have ztk42 := tk42; clear tk42 ztk42; (with_reducible refine gate_dst (N := 1) rfl ?_); refine box_event ?hg (N := 1) ?hd (cs := #[.bool true, .string a0_1, .string a0_2, .int .i64 a0_3]) (t := 55) ?hr ?_; (case hd => rfl); (case hg => rfl); (case hr => first | (go_simp; done) | (go_simp; rfl)); intro gb109 hg w25 hbox hb; have n0_ := Aside0.mk (below_step qnp1_ hb); have n1_ := Aside0.mk (hbox); have n2_ := Aside0.mk ((by rw [hg]; exact (below_size qnp1_) : w.heap.size ≤ gb109)); have n3_ := Aside0.mk ((by rw [hg]; exact (below_size qnp1_) : w.heap.size ≤ gb109)); clear HB; have HB := n0_; have BK109 := n1_; have GW109 := n2_; have GE109 := n3_; clear n0_ n1_ n2_ n3_; clear hb hbox hg) | (have ztk43 := tk43; clear tk43 ztk43; (with_reducible refine gate_dst (N := 2) rfl ?_); refine box_event ?hg (N := 2) ?hd (cs := #[.bool false, .string (⟨#[]⟩ : ByteArray), .string (⟨#[]⟩ : ByteArray), .int .i64 0]) (t := 25) ?hr ?_; (case hd => rfl); (case hg => rfl); (case hr => first | (go_simp; done) | (go_simp; rfl)); intro gb110 hg w26 hbox hb; have n0_ := Aside0.mk (blk_below (g := gb109) (o := .cells #[.bool true, .string a0_1, .string a0_2, .int .i64 a0_3] 55 (0, 0)) qnp6_ hb); have n1_ := Aside0.mk (below_step qnp34_ hb); have n2_ := Aside0.mk (hbox); have n3_ := Aside0.mk ((by rw [hg]; exact (below_size qnp34_) : w.heap.size ≤ gb110)); have n4_ := Aside0.mk ((by rw [hg]; exact (below_size qnp34_) : w.heap.size ≤ gb110)); have n5_ := Aside0.mk ((by rw [hg]; exact Nat.ne_of_lt (blk_lt (g := gb109) (o := .cells #[.bool true, .string a0_1, .string a0_2, .int .i64 a0_3] 55 (0, 0)) qnp6_) : gb109 ≠ gb110)); have n6_ := Aside0.mk ((by rw [hg]; exact Nat.ne_of_gt (blk_lt (g := gb109) (o := .cells #[.bool true, .string a0_1, .string a0_2, .int .i64 a0_3] 55 (0, 0)) qnp6_) : gb110 ≠ gb109)); clear BK109; clear HB; have BK109 := n0_; have HB := n1_; have BK110 := n2_; have GW110 := n3_; have GE110 := n4_; have NB109_110 := n5_; have NB110_109 := n6_; clear n0_ n1_ n2_ n3_ n4_ n5_ n6_; clear hb hbox hg))
   have n0_ := Aside0.mk (blk_drew BK109.out)
   have n1_ := Aside0.mk (blk_drew BK110.out)
   have n2_ := Aside0.mk (below_drew1 HB.out)
   clear BK109
   clear BK110
   clear HB
   have BK109 := n0_
   have BK110 := n1_
   have HB := n2_
   clear n0_ n1_ n2_
   refine start_ (n := 11) (S := fun w' => w'.cell? ⟨gb109, 0, none⟩ = some (.bool true) ∧ w'.cell? ⟨gb109, 1, none⟩ = some (.string a0_1) ∧ w'.cell? ⟨gb109, 2, none⟩ = some (.string a0_2) ∧ w'.cell? ⟨gb109, 3, none⟩ = some (.int .i64 a0_3)) (ds := []) #[false, false, false, false, false, false, false, false, false, false, false] (by kernel_rfl) rfl rfl ⟨(blk_cell BK109.out 0).trans rfl, (blk_cell BK109.out 1).trans rfl, (blk_cell BK109.out 2).trans rfl, (blk_cell BK109.out 3).trans rfl⟩ (fun hHeld => ?_); refine with_tabW numeral_decimal.tab1 numeral_decimal.bits1 (fun HT_ HW_ => ?_)
   generalize w26.drew = w27 at BK109 BK110 HB hHeld ⊢
   refine pure_ (i := 0) (N := some 4) (v := ?_) (a' := ?_) #[true, false, false, false, false, false, false, false, false, false, false] rfl rfl (any_of HT_.out (by kernel_rfl)) (fun _ _ _ h => h) (Or.inl ⟨by rfl, ?_⟩) ?_ ?_
   rotate_left
   ·
    intro w'
    go_simp
    with_reducible rfl
   rotate_left
   ·
    simp only [Act.put, List.setIfInBounds_toArray, List.set_cons_zero, List.set_cons_succ, i64_w, i32_w]
    rfl
   refine pure_ (i := 3) (N := some 7) (v := ?_) (a' := ?_) #[true, false, false, true, false, false, false, false, false, false, false] rfl rfl (any_of HT_.out (by kernel_rfl)) (fun _ _ _ h => h) (Or.inl ⟨by rfl, ?_⟩) ?_ ?_
   rotate_left
   ·
    intro w'
    go_simp
    with_reducible rfl
   rotate_left
   ·
    simp only [Act.put, List.setIfInBounds_toArray, List.set_cons_zero, List.set_cons_succ, i64_w, i32_w]
    rfl
   refine pure_ (i := 6) (N := some 10) (v := ?_) (a' := ?_) #[true, false, false, true, false, false, true, false, false, false, false] rfl rfl (any_of HT_.out (by kernel_rfl)) (fun _ _ _ h => h) (Or.inl ⟨by rfl, ?_⟩) ?_ ?_
   rotate_left
   ·
    intro w'
    go_simp
    with_reducible rfl
   rotate_left
   ·
    simp only [Act.put, List.setIfInBounds_toArray, List.set_cons_zero, List.set_cons_succ, i64_w, i32_w]
    rfl
   refine take_ (i := 1) (N := some 5) (v := ?_) (a' := ?_) #[true, true, false, true, false, false, true, false, false, false, false] rfl rfl (take_ofW HT_.out HW_.out (by kernel_rfl)) (fun _ _ _ h => h) (Or.inl ⟨by rfl, ?_⟩) hHeld ?_ ?_
   rotate_left
   ·
    rintro w' ⟨s0, s1, s2, s3⟩
    go_simp
    with_reducible rfl
   rotate_left
   ·
    simp only [Act.put, List.setIfInBounds_toArray, List.set_cons_zero, List.set_cons_succ, i64_w, i32_w]
    rfl
   refine take_ (i := 4) (N := some 8) (v := ?_) (a' := ?_) #[true, true, false, true, true, false, true, false, false, false, false] rfl rfl (take_ofW HT_.out HW_.out (by kernel_rfl)) (fun _ _ _ h => h) (Or.inl ⟨by rfl, ?_⟩) hHeld ?_ ?_
   rotate_left
   ·
    rintro w' ⟨s0, s1, s2, s3⟩
    go_simp
    with_reducible rfl
   rotate_left
   ·
    simp only [Act.put, List.setIfInBounds_toArray, List.set_cons_zero, List.set_cons_succ, i64_w, i32_w]
    rfl
   refine take_ (i := 7) (N := some 11) (v := ?_) (a' := ?_) #[true, true, false, true, true, false, true, true, false, false, false] rfl rfl (take_ofW HT_.out HW_.out (by kernel_rfl)) (fun _ _ _ h => h) (Or.inl ⟨by rfl, ?_⟩) hHeld ?_ ?_
   rotate_left
   ·
    rintro w' ⟨s0, s1, s2, s3⟩
    go_simp
    with_reducible rfl
   rotate_left
   ·
    simp only [Act.put, List.setIfInBounds_toArray, List.set_cons_zero, List.set_cons_succ, i64_w, i32_w]
    rfl
   refine join_ (σ := Nat) 1 #[true, true, true, true, true, true, true, true, true, true, false] (fun s_ => [(6, .string t111), (9, .string t112), (3, .pointer (some ⟨s_, 0, none⟩)), (12, .agg #[.bool false, .string t111, .string t112, .int .i64 a0_3])]) (fun s_ w' => (w'.cell? ⟨gb109, 0, none⟩ = some (.bool true) ∧ w'.cell? ⟨gb109, 1, none⟩ = some (.string a0_1) ∧ w'.cell? ⟨gb109, 2, none⟩ = some (.string a0_2) ∧ w'.cell? ⟨gb109, 3, none⟩ = some (.int .i64 a0_3)) ∧ (w'.heap[gb109]? = some (.cells #[.bool true, .string a0_1, .string a0_2, .int .i64 a0_3] 55 (0, 0))) ∧ (w'.heap[gb110]? = some (.cells #[.bool false, .string (⟨#[]⟩ : ByteArray), .string (⟨#[]⟩ : ByteArray), .int .i64 0] 25 (0, 0))) ∧ (w'.heap[s_]? = some (.cells #[.bool false, .string (⟨#[]⟩ : ByteArray), .string (⟨#[]⟩ : ByteArray), .int .i64 0] 25 (0, 0))) ∧ (w.heap.size ≤ s_) ∧ (w.heap.size ≤ s_) ∧ (gb109 ≠ s_) ∧ (s_ ≠ gb109) ∧ (gb110 ≠ s_) ∧ (s_ ≠ gb110) ∧ (Below w.heap.size w w')) ?_ ?_
   rotate_left
   ·
    intro hCont
    refine two_ (i := 2) (j := 9) (Ni := some 6) (Nj := some 3) #[true, true, true, true, true, false, true, true, false, false, false] #[true, true, false, true, true, false, true, true, false, true, false] rfl rfl rfl rfl (two_of HT_.out (by kernel_rfl)) (by decide) (by decide) (fun K hK => ?_) (fun K hK => ?_)
    ·
     skip
     refine goes_ Tryd.func66 (by kernel_rfl) rfl #[.string a0_1, .string (⟨#[48]⟩ : ByteArray)] (by rfl) rfl rfl qnp0_ ?_
     with_reducible refine (strings_TrimLeft.calls k a0_1 (⟨#[48]⟩ : ByteArray) t111 _ A2.out).mono ?_
     rintro e w28 ⟨rfl, hb⟩
     refine ⟨_, rfl, ?_⟩
     have n0_ := Aside0.mk (blk_below (g := gb109) (o := .cells #[.bool true, .string a0_1, .string a0_2, .int .i64 a0_3] 55 (0, 0)) qnp6_ hb)
     have n1_ := Aside0.mk (blk_below (g := gb110) (o := .cells #[.bool false, .string (⟨#[]⟩ : ByteArray), .string (⟨#[]⟩ : ByteArray), .int .i64 0] 25 (0, 0)) qnp8_ hb)
     have n2_ := Aside0.mk (below_step qnp7_ hb)
     clear BK109
     clear BK110
     clear HB
     have BK109 := n0_
     have BK110 := n1_
     have HB := n2_
     clear n0_ n1_ n2_
     (try clear hb); (try clear hb2); (try clear hk); (try clear hi)
     refine hK.out _ _ ⟨(blk_cell BK109.out 0).trans rfl, (blk_cell BK109.out 1).trans rfl, (blk_cell BK109.out 2).trans rfl, (blk_cell BK109.out 3).trans rfl⟩ (fun hHeld => ?_)
     clear hK K
     refine norm_ (a' := ?_) ?_ ?_
     rotate_left
     ·
      show Act.put _ (some 6) _ = _
      simp only [Act.put, List.setIfInBounds_toArray, List.set_cons_zero, List.set_cons_succ, i64_w, i32_w]
      rfl
     refine two_ (i := 5) (j := 9) (Ni := some 9) (Nj := some 3) #[true, true, true, true, true, true, true, true, false, false, false] #[true, true, true, true, true, false, true, true, false, true, false] rfl rfl rfl rfl (two_of HT_.out (by kernel_rfl)) (by decide) (by decide) (fun K hK => ?_) (fun K hK => ?_)
     ·
      skip
      refine goes_ Tryd.func67 (by kernel_rfl) rfl #[.string a0_2, .string (⟨#[48]⟩ : ByteArray)] (by rfl) rfl rfl qnp0_ ?_
      with_reducible refine (strings_TrimRight.calls k a0_2 (⟨#[48]⟩ : ByteArray) t112 _ A3.out).mono ?_
      rintro e w29 ⟨rfl, hb⟩
      refine ⟨_, rfl, ?_⟩
      have n0_ := Aside0.mk (blk_below (g := gb109) (o := .cells #[.bool true, .string a0_1, .string a0_2, .int .i64 a0_3] 55 (0, 0)) qnp6_ hb)
      have n1_ := Aside0.mk (blk_below (g := gb110) (o := .cells #[.bool false, .string (⟨#[]⟩ : ByteArray), .string (⟨#[]⟩ : ByteArray), .int .i64 0] 25 (0, 0)) qnp8_ hb)
      have n2_ := Aside0.mk (below_step qnp7_ hb)
      clear BK109
      clear BK110
      clear HB
      have BK109 := n0_
      have BK110 := n1_
      have HB := n2_
      clear n0_ n1_ n2_
      (try clear hb); (try clear hb2); (try clear hk); (try clear hi)
      refine hK.out _ _ ⟨(blk_cell BK109.out 0).trans rfl, (blk_cell BK109.out 1).trans rfl, (blk_cell BK109.out 2).trans rfl, (blk_cell BK109.out 3).trans rfl⟩ (fun hHeld => ?_)
      clear hK K
      refine norm_ (a' := ?_) ?_ ?_
      rotate_left
      ·
       show Act.put _ (some 9) _ = _
       simp only [Act.put, List.setIfInBounds_toArray, List.set_cons_zero, List.set_cons_succ, i64_w, i32_w]
       rfl
      refine pure_ (i := 8) (N := some 12) (v := ?_) (a' := ?_) #[true, true, true, true, true, true, true, true, true, false, false] rfl rfl (any_of HT_.out (by kernel_rfl)) (fun _ _ _ h => h) (Or.inl ⟨by rfl, ?_⟩) ?_ ?_
      rotate_left
      ·
       intro w'
       go_simp
       with_reducible rfl
      rotate_left
      ·
       simp only [Act.put, List.setIfInBounds_toArray, List.set_cons_zero, List.set_cons_succ, i64_w, i32_w]
       rfl
      refine one_ (i := 9) (N := some 3) #[true, true, true, true, true, true, true, true, true, true, false] rfl rfl (one_of HT_.out (by kernel_rfl)) (by decide) (fun K hK => ?_)
      refine box_step ?hg (N := 3) ?hd (cs := #[.bool false, .string (⟨#[]⟩ : ByteArray), .string (⟨#[]⟩ : ByteArray), .int .i64 0]) (t := 25) ?hr ?_; (case hd => rfl); (case hg => rfl); (case hr => first | (go_simp; done) | (go_simp; rfl))
      intro gb113 hg w30 hbox hb
      have n0_ := Aside0.mk (blk_below (g := gb109) (o := .cells #[.bool true, .string a0_1, .string a0_2, .int .i64 a0_3] 55 (0, 0)) qnp6_ hb)
      have n1_ := Aside0.mk (blk_below (g := gb110) (o := .cells #[.bool false, .string (⟨#[]⟩ : ByteArray), .string (⟨#[]⟩ : ByteArray), .int .i64 0] 25 (0, 0)) qnp8_ hb)
      have n2_ := Aside0.mk (below_step qnp7_ hb)
      have n3_ := Aside0.mk (hbox)
      have n4_ := Aside0.mk ((by rw [hg]; exact (below_size qnp7_) : w.heap.size ≤ gb113))
      have n5_ := Aside0.mk ((by rw [hg]; exact (below_size qnp7_) : w.heap.size ≤ gb113))
      have n6_ := Aside0.mk ((by rw [hg]; exact Nat.ne_of_lt (blk_lt (g := gb109) (o := .cells #[.bool true, .string a0_1, .string a0_2, .int .i64 a0_3] 55 (0, 0)) qnp6_) : gb109 ≠ gb113))
      have n7_ := Aside0.mk ((by rw [hg]; exact Nat.ne_of_gt (blk_lt (g := gb109) (o := .cells #[.bool true, .string a0_1, .string a0_2, .int .i64 a0_3] 55 (0, 0)) qnp6_) : gb113 ≠ gb109))
      have n8_ := Aside0.mk ((by rw [hg]; exact Nat.ne_of_lt (blk_lt (g := gb110) (o := .cells #[.bool false, .string (⟨#[]⟩ : ByteArray), .string (⟨#[]⟩ : ByteArray), .int .i64 0] 25 (0, 0)) qnp8_) : gb110 ≠ gb113))
      have n9_ := Aside0.mk ((by rw [hg]; exact Nat.ne_of_gt (blk_lt (g := gb110) (o := .cells #[.bool false, .string (⟨#[]⟩ : ByteArray), .string (⟨#[]⟩ : ByteArray), .int .i64 0] 25 (0, 0)) qnp8_) : gb113 ≠ gb110))
      clear BK109
      clear BK110
      clear HB
      have BK109 := n0_
      have BK110 := n1_
      have HB := n2_
      have BK113 := n3_
      have GW113 := n4_
      have GE113 := n5_
      have NB109_113 := n6_
      have NB113_109 := n7_
      have NB110_113 := n8_
      have NB113_110 := n9_
      clear n0_ n1_ n2_ n3_ n4_ n5_ n6_ n7_ n8_ n9_
      clear hb hbox hg
      refine hK.out _ _ ⟨(blk_cell BK109.out 0).trans rfl, (blk_cell BK109.out 1).trans rfl, (blk_cell BK109.out 2).trans rfl, (blk_cell BK109.out 3).trans rfl⟩ (fun hHeld => ?_)
      clear hK K
      refine norm_ (a' := ?_) ?_ ?_
      rotate_left
      ·
       show Act.put _ (some 3) _ = _
       simp only [Act.put, List.setIfInBounds_toArray, List.set_cons_zero, List.set_cons_succ, i64_w, i32_w]
       rfl
      exact norm_ qnp32_ (hCont (gb113) _ ⟨hHeld, qnp6_, qnp8_, qnp23_, GW113.out, GE113.out, NB109_113.out, NB113_109.out, NB110_113.out, NB113_110.out, qnp11_⟩)
     ·
      skip
      refine box_step ?hg (N := 3) ?hd (cs := #[.bool false, .string (⟨#[]⟩ : ByteArray), .string (⟨#[]⟩ : ByteArray), .int .i64 0]) (t := 25) ?hr ?_; (case hd => rfl); (case hg => rfl); (case hr => first | (go_simp; done) | (go_simp; rfl))
      intro gb113 hg w29 hbox hb
      have n0_ := Aside0.mk (blk_below (g := gb109) (o := .cells #[.bool true, .string a0_1, .string a0_2, .int .i64 a0_3] 55 (0, 0)) qnp6_ hb)
      have n1_ := Aside0.mk (blk_below (g := gb110) (o := .cells #[.bool false, .string (⟨#[]⟩ : ByteArray), .string (⟨#[]⟩ : ByteArray), .int .i64 0] 25 (0, 0)) qnp8_ hb)
      have n2_ := Aside0.mk (below_step qnp7_ hb)
      have n3_ := Aside0.mk (hbox)
      have n4_ := Aside0.mk ((by rw [hg]; exact (below_size qnp7_) : w.heap.size ≤ gb113))
      have n5_ := Aside0.mk ((by rw [hg]; exact (below_size qnp7_) : w.heap.size ≤ gb113))
      have n6_ := Aside0.mk ((by rw [hg]; exact Nat.ne_of_lt (blk_lt (g := gb109) (o := .cells #[.bool true, .string a0_1, .string a0_2, .int .i64 a0_3] 55 (0, 0)) qnp6_) : gb109 ≠ gb113))
      have n7_ := Aside0.mk ((by rw [hg]; exact Nat.ne_of_gt (blk_lt (g := gb109) (o := .cells #[.bool true, .string a0_1, .string a0_2, .int .i64 a0_3] 55 (0, 0)) qnp6_) : gb113 ≠ gb109))
      have n8_ := Aside0.mk ((by rw [hg]; exact Nat.ne_of_lt (blk_lt (g := gb110) (o := .cells #[.bool false, .string (⟨#[]⟩ : ByteArray), .string (⟨#[]⟩ : ByteArray), .int .i64 0] 25 (0, 0)) qnp8_) : gb110 ≠ gb113))
      have n9_ := Aside0.mk ((by rw [hg]; exact Nat.ne_of_gt (blk_lt (g := gb110) (o := .cells #[.bool false, .string (⟨#[]⟩ : ByteArray), .string (⟨#[]⟩ : ByteArray), .int .i64 0] 25 (0, 0)) qnp8_) : gb113 ≠ gb110))
      clear BK109
      clear BK110
      clear HB
      have BK109 := n0_
      have BK110 := n1_
      have HB := n2_
      have BK113 := n3_
      have GW113 := n4_
      have GE113 := n5_
      have NB109_113 := n6_
      have NB113_109 := n7_
      have NB110_113 := n8_
      have NB113_110 := n9_
      clear n0_ n1_ n2_ n3_ n4_ n5_ n6_ n7_ n8_ n9_
      clear hb hbox hg
      refine hK.out _ _ ⟨(blk_cell BK109.out 0).trans rfl, (blk_cell BK109.out 1).trans rfl, (blk_cell BK109.out 2).trans rfl, (blk_cell BK109.out 3).trans rfl⟩ (fun hHeld => ?_)
      clear hK K
      refine norm_ (a' := ?_) ?_ ?_
      rotate_left
      ·
       show Act.put _ (some 3) _ = _
       simp only [Act.put, List.setIfInBounds_toArray, List.set_cons_zero, List.set_cons_succ, i64_w, i32_w]
       rfl
      refine one_ (i := 5) (N := some 9) #[true, true, true, true, true, true, true, true, false, true, false] rfl rfl (one_of HT_.out (by kernel_rfl)) (by decide) (fun K hK => ?_)
      refine goes_ Tryd.func67 (by kernel_rfl) rfl #[.string a0_2, .string (⟨#[48]⟩ : ByteArray)] (by rfl) rfl rfl qnp0_ ?_
      with_reducible refine (strings_TrimRight.calls k a0_2 (⟨#[48]⟩ : ByteArray) t112 _ A3.out).mono ?_
      rintro e w30 ⟨rfl, hb⟩
      refine ⟨_, rfl, ?_⟩
      have n0_ := Aside0.mk (blk_below (g := gb109) (o := .cells #[.bool true, .string a0_1, .string a0_2, .int .i64 a0_3] 55 (0, 0)) qnp6_ hb)
      have n1_ := Aside0.mk (blk_below (g := gb110) (o := .cells #[.bool false, .string (⟨#[]⟩ : ByteArray), .string (⟨#[]⟩ : ByteArray), .int .i64 0] 25 (0, 0)) qnp8_ hb)
      have n2_ := Aside0.mk (blk_below (g := gb113) (o := .cells #[.bool false, .string (⟨#[]⟩ : ByteArray), .string (⟨#[]⟩ : ByteArray), .int .i64 0] 25 (0, 0)) qnp23_ hb)
      have n3_ := Aside0.mk (below_step qnp11_ hb)
      clear BK109
      clear BK110
      clear BK113
      clear HB
      have BK109 := n0_
      have BK110 := n1_
      have BK113 := n2_
      have HB := n3_
      clear n0_ n1_ n2_ n3_
      (try clear hb); (try clear hb2); (try clear hk); (try clear hi)
      refine hK.out _ _ ⟨(blk_cell BK109.out 0).trans rfl, (blk_cell BK109.out 1).trans rfl, (blk_cell BK109.out 2).trans rfl, (blk_cell BK109.out 3).trans rfl⟩ (fun hHeld => ?_)
      clear hK K
      refine norm_ (a' := ?_) ?_ ?_
      rotate_left
      ·
       show Act.put _ (some 9) _ = _
       simp only [Act.put, List.setIfInBounds_toArray, List.set_cons_zero, List.set_cons_succ, i64_w, i32_w]
       rfl
      refine pure_ (i := 8) (N := some 12) (v := ?_) (a' := ?_) #[true, true, true, true, true, true, true, true, true, true, false] rfl rfl (any_of HT_.out (by kernel_rfl)) (fun _ _ _ h => h) (Or.inl ⟨by rfl, ?_⟩) ?_ ?_
      rotate_left
      ·
       intro w'
       go_simp
       with_reducible rfl
      rotate_left
      ·
       simp only [Act.put, List.setIfInBounds_toArray, List.set_cons_zero, List.set_cons_succ, i64_w, i32_w]
       rfl
      exact norm_ qnp32_ (hCont (gb113) _ ⟨hHeld, qnp6_, qnp8_, qnp23_, GW113.out, GE113.out, NB109_113.out, NB113_109.out, NB110_113.out, NB113_110.out, qnp11_⟩)
    ·
     skip
     refine box_step ?hg (N := 3) ?hd (cs := #[.bool false, .string (⟨#[]⟩ : ByteArray), .string (⟨#[]⟩ : ByteArray), .int .i64 0]) (t := 25) ?hr ?_; (case hd => rfl); (case hg => rfl); (case hr => first | (go_simp; done) | (go_simp; rfl))
     intro gb113 hg w28 hbox hb
     have n0_ := Aside0.mk (blk_below (g := gb109) (o := .cells #[.bool true, .string a0_1, .string a0_2, .int .i64 a0_3] 55 (0, 0)) qnp6_ hb)
     have n1_ := Aside0.mk (blk_below (g := gb110) (o := .cells #[.bool false, .string (⟨#[]⟩ : ByteArray), .string (⟨#[]⟩ : ByteArray), .int .i64 0] 25 (0, 0)) qnp8_ hb)
     have n2_ := Aside0.mk (below_step qnp7_ hb)
     have n3_ := Aside0.mk (hbox)
     have n4_ := Aside0.mk ((by rw [hg]; exact (below_size qnp7_) : w.heap.size ≤ gb113))
     have n5_ := Aside0.mk ((by rw [hg]; exact (below_size qnp7_) : w.heap.size ≤ gb113))
     have n6_ := Aside0.mk ((by rw [hg]; exact Nat.ne_of_lt (blk_lt (g := gb109) (o := .cells #[.bool true, .string a0_1, .string a0_2, .int .i64 a0_3] 55 (0, 0)) qnp6_) : gb109 ≠ gb113))
     have n7_ := Aside0.mk ((by rw [hg]; exact Nat.ne_of_gt (blk_lt (g := gb109) (o := .cells #[.bool true, .string a0_1, .string a0_2, .int .i64 a0_3] 55 (0, 0)) qnp6_) : gb113 ≠ gb109))
     have n8_ := Aside0.mk ((by rw [hg]; exact Nat.ne_of_lt (blk_lt (g := gb110) (o := .cells #[.bool false, .string (⟨#[]⟩ : ByteArray), .string (⟨#[]⟩ : ByteArray), .int .i64 0] 25 (0, 0)) qnp8_) : gb110 ≠ gb113))
     have n9_ := Aside0.mk ((by rw [hg]; exact Nat.ne_of_gt (blk_lt (g := gb110) (o := .cells #[.bool false, .string (⟨#[]⟩ : ByteArray), .string (⟨#[]⟩ : ByteArray), .int .i64 0] 25 (0, 0)) qnp8_) : gb113 ≠ gb110))
     clear BK109
     clear BK110
     clear HB
     have BK109 := n0_
     have BK110 := n1_
     have HB := n2_
     have BK113 := n3_
     have GW113 := n4_
     have GE113 := n5_
     have NB109_113 := n6_
     have NB113_109 := n7_
     have NB110_113 := n8_
     have NB113_110 := n9_
     clear n0_ n1_ n2_ n3_ n4_ n5_ n6_ n7_ n8_ n9_
     clear hb hbox hg
     refine hK.out _ _ ⟨(blk_cell BK109.out 0).trans rfl, (blk_cell BK109.out 1).trans rfl, (blk_cell BK109.out 2).trans rfl, (blk_cell BK109.out 3).trans rfl⟩ (fun hHeld => ?_)
     clear hK K
     refine norm_ (a' := ?_) ?_ ?_
     rotate_left
     ·
      show Act.put _ (some 3) _ = _
      simp only [Act.put, List.setIfInBounds_toArray, List.set_cons_zero, List.set_cons_succ, i64_w, i32_w]
      rfl
     refine one_ (i := 2) (N := some 6) #[true, true, true, true, true, false, true, true, false, true, false] rfl rfl (one_of HT_.out (by kernel_rfl)) (by decide) (fun K hK => ?_)
     refine goes_ Tryd.func66 (by kernel_rfl) rfl #[.string a0_1, .string (⟨#[48]⟩ : ByteArray)] (by rfl) rfl rfl qnp0_ ?_
     with_reducible refine (strings_TrimLeft.calls k a0_1 (⟨#[48]⟩ : ByteArray) t111 _ A2.out).mono ?_
     rintro e w29 ⟨rfl, hb⟩
     refine ⟨_, rfl, ?_⟩
     have n0_ := Aside0.mk (blk_below (g := gb109) (o := .cells #[.bool true, .string a0_1, .string a0_2, .int .i64 a0_3] 55 (0, 0)) qnp6_ hb)
     have n1_ := Aside0.mk (blk_below (g := gb110) (o := .cells #[.bool false, .string (⟨#[]⟩ : ByteArray), .string (⟨#[]⟩ : ByteArray), .int .i64 0] 25 (0, 0)) qnp8_ hb)
     have n2_ := Aside0.mk (blk_below (g := gb113) (o := .cells #[.bool false, .string (⟨#[]⟩ : ByteArray), .string (⟨#[]⟩ : ByteArray), .int .i64 0] 25 (0, 0)) qnp23_ hb)
     have n3_ := Aside0.mk (below_step qnp11_ hb)
     clear BK109
     clear BK110
     clear BK113
     clear HB
     have BK109 := n0_
     have BK110 := n1_
     have BK113 := n2_
     have HB := n3_
     clear n0_ n1_ n2_ n3_
     (try clear hb); (try clear hb2); (try clear hk); (try clear hi)
     refine hK.out _ _ ⟨(blk_cell BK109.out 0).trans rfl, (blk_cell BK109.out 1).trans rfl, (blk_cell BK109.out 2).trans rfl, (blk_cell BK109.out 3).trans rfl⟩ (fun hHeld => ?_)
     clear hK K
     refine norm_ (a' := ?_) ?_ ?_
     rotate_left
     ·
      show Act.put _ (some 6) _ = _
      simp only [Act.put, List.setIfInBounds_toArray, List.set_cons_zero, List.set_cons_succ, i64_w, i32_w]
      rfl
     refine one_ (i := 5) (N := some 9) #[true, true, true, true, true, true, true, true, false, true, false] rfl rfl (one_of HT_.out (by kernel_rfl)) (by decide) (fun K hK => ?_)
     refine goes_ Tryd.func67 (by kernel_rfl) rfl #[.string a0_2, .string (⟨#[48]⟩ : ByteArray)] (by rfl) rfl rfl qnp0_ ?_
     with_reducible refine (strings_TrimRight.calls k a0_2 (⟨#[48]⟩ : ByteArray) t112 _ A3.out).mono ?_
     rintro e w30 ⟨rfl, hb⟩
     refine ⟨_, rfl, ?_⟩
     have n0_ := Aside0.mk (blk_below (g := gb109) (o := .cells #[.bool true, .string a0_1, .string a0_2, .int .i64 a0_3] 55 (0, 0)) qnp6_ hb)
     have n1_ := Aside0.mk (blk_below (g := gb110) (o := .cells #[.bool false, .string (⟨#[]⟩ : ByteArray), .string (⟨#[]⟩ : ByteArray), .int .i64 0] 25 (0, 0)) qnp8_ hb)
     have n2_ := Aside0.mk (blk_below (g := gb113) (o := .cells #[.bool false, .string (⟨#[]⟩ : ByteArray), .string (⟨#[]⟩ : ByteArray), .int .i64 0] 25 (0, 0)) qnp23_ hb)
     have n3_ := Aside0.mk (below_step qnp11_ hb)
     clear BK109
     clear BK110
     clear BK113
     clear HB
     have BK109 := n0_
     have BK110 := n1_
     have BK113 := n2_
     have HB := n3_
     clear n0_ n1_ n2_ n3_
     (try clear hb); (try clear hb2); (try clear hk); (try clear hi)
     refine hK.out _ _ ⟨(blk_cell BK109.out 0).trans rfl, (blk_cell BK109.out 1).trans rfl, (blk_cell BK109.out 2).trans rfl, (blk_cell BK109.out 3).trans rfl⟩ (fun hHeld => ?_)
     clear hK K
     refine norm_ (a' := ?_) ?_ ?_
     rotate_left
     ·
      show Act.put _ (some 9) _ = _
      simp only [Act.put, List.setIfInBounds_toArray, List.set_cons_zero, List.set_cons_succ, i64_w, i32_w]
      rfl
     refine pure_ (i := 8) (N := some 12) (v := ?_) (a' := ?_) #[true, true, true, true, true, true, true, true, true, true, false] rfl rfl (any_of HT_.out (by kernel_rfl)) (fun _ _ _ h => h) (Or.inl ⟨by rfl, ?_⟩) ?_ ?_
     rotate_left
     ·
      intro w'
      go_simp
      with_reducible rfl
     rotate_left
     ·
      simp only [Act.put, List.setIfInBounds_toArray, List.set_cons_zero, List.set_cons_succ, i64_w, i32_w]
      rfl
     exact norm_ qnp32_ (hCont (gb113) _ ⟨hHeld, qnp6_, qnp8_, qnp23_, GW113.out, GE113.out, NB109_113.out, NB113_109.out, NB110_113.out, NB113_110.out, qnp11_⟩)
   rintro gb113 w31 ⟨hS_, h0_, h1_, h2_, h3_, h4_, h5_, h6_, h7_, h8_, h9_⟩
   have n0_ : Aside0 (w31.heap[gb109]? = some (.cells #[.bool true, .string a0_1, .string a0_2, .int .i64 a0_3] 55 (0, 0))) := ⟨h0_⟩
   have n1_ : Aside0 (w31.heap[gb110]? = some (.cells #[.bool false, .string (⟨#[]⟩ : ByteArray), .string (⟨#[]⟩ : ByteArray), .int .i64 0] 25 (0, 0))) := ⟨h1_⟩
   have n2_ : Aside0 (w31.heap[gb113]? = some (.cells #[.bool false, .string (⟨#[]⟩ : ByteArray), .string (⟨#[]⟩ : ByteArray), .int .i64 0] 25 (0, 0))) := ⟨h2_⟩
   have n3_ : Aside0 (w.heap.size ≤ gb113) := ⟨h3_⟩
   have n4_ : Aside0 (w.heap.size ≤ gb113) := ⟨h4_⟩
   have n5_ : Aside0 (gb109 ≠ gb113) := ⟨h5_⟩
   have n6_ : Aside0 (gb113 ≠ gb109) := ⟨h6_⟩
   have n7_ : Aside0 (gb110 ≠ gb113) := ⟨h7_⟩
   have n8_ : Aside0 (gb113 ≠ gb110) := ⟨h8_⟩
   have n9_ : Aside0 (Below w.heap.size w w31) := ⟨h9_⟩
   clear BK109
   clear BK110
   clear HB
   clear h0_ h1_ h2_ h3_ h4_ h5_ h6_ h7_ h8_ h9_
   have BK109 := n0_
   have BK110 := n1_
   have BK113 := n2_
   have GW113 := n3_
   have GE113 := n4_
   have NB109_113 := n5_
   have NB113_109 := n6_
   have NB110_113 := n7_
   have NB113_110 := n8_
   have HB := n9_
   clear n0_ n1_ n2_ n3_ n4_ n5_ n6_ n7_ n8_ n9_
   have hHeld : w31.cell? ⟨gb109, 0, none⟩ = some (.bool true) ∧ w31.cell? ⟨gb109, 1, none⟩ = some (.string a0_1) ∧ w31.cell? ⟨gb109, 2, none⟩ = some (.string a0_2) ∧ w31.cell? ⟨gb109, 3, none⟩ = some (.int .i64 a0_3) := hS_
   refine norm_ (a' := ?_) ?_ ?_
   rotate_left
   ·
    simp only [putAll, Act.put, List.setIfInBounds_toArray, List.set_cons_zero, List.set_cons_succ]
    rfl
   refine one_ (i := 10) (N := none) #[true, true, true, true, true, true, true, true, true, true, true] rfl rfl (one_of HT_.out (by kernel_rfl)) (by decide) (fun K hK => ?_)
   have hs32 : w31.cell? ⟨gb113, 0, none⟩ = some (.bool false) := (blk_cell BK113.out 0).trans rfl
   have hfs32 := blk_frozen BK113.out 0
   have hns32_0 := NB109_113.out
   have hns32_1 := NB110_113.out
   have hms32_0 := NB113_109.out
   have hms32_1 := NB113_110.out
   have hs33 : w31.cell? ⟨gb113, 1, none⟩ = some (.string (⟨#[]⟩ : ByteArray)) := (blk_cell BK113.out 1).trans rfl
   have hfs33 := blk_frozen BK113.out 1
   have hns33_0 := NB109_113.out
   have hns33_1 := NB110_113.out
   have hms33_0 := NB113_109.out
   have hms33_1 := NB113_110.out
   have hs34 : w31.cell? ⟨gb113, 2, none⟩ = some (.string (⟨#[]⟩ : ByteArray)) := (blk_cell BK113.out 2).trans rfl
   have hfs34 := blk_frozen BK113.out 2
   have hns34_0 := NB109_113.out
   have hns34_1 := NB110_113.out
   have hms34_0 := NB113_109.out
   have hms34_1 := NB113_110.out
   have hs35 : w31.cell? ⟨gb113, 3, none⟩ = some (.int .i64 0) := (blk_cell BK113.out 3).trans rfl
   have hfs35 := blk_frozen BK113.out 3
   have hns35_0 := NB109_113.out
   have hns35_1 := NB110_113.out
   have hms35_0 := NB113_109.out
   have hms35_1 := NB113_110.out
   refine skip_ (w1 := ?_) (by rfl) rfl ?_ ?_
   rotate_left
   ·
    go_simp
    rfl
   refine hK.out _ _ ⟨((cell_far (p := ⟨gb113, _, none⟩) NB109_113.out _).trans (((cell_far (p := ⟨gb113, _, none⟩) NB109_113.out _).trans (((cell_far (p := ⟨gb113, _, none⟩) NB109_113.out _).trans (((cell_far (p := ⟨gb113, _, none⟩) NB109_113.out _).trans (hHeld.1)))))))), ((cell_far (p := ⟨gb113, _, none⟩) NB109_113.out _).trans (((cell_far (p := ⟨gb113, _, none⟩) NB109_113.out _).trans (((cell_far (p := ⟨gb113, _, none⟩) NB109_113.out _).trans (((cell_far (p := ⟨gb113, _, none⟩) NB109_113.out _).trans (hHeld.2.1)))))))), ((cell_far (p := ⟨gb113, _, none⟩) NB109_113.out _).trans (((cell_far (p := ⟨gb113, _, none⟩) NB109_113.out _).trans (((cell_far (p := ⟨gb113, _, none⟩) NB109_113.out _).trans (((cell_far (p := ⟨gb113, _, none⟩) NB109_113.out _).trans (hHeld.2.2.1)))))))), ((cell_far (p := ⟨gb113, _, none⟩) NB109_113.out _).trans (((cell_far (p := ⟨gb113, _, none⟩) NB109_113.out _).trans (((cell_far (p := ⟨gb113, _, none⟩) NB109_113.out _).trans (((cell_far (p := ⟨gb113, _, none⟩) NB109_113.out _).trans (hHeld.2.2.2))))))))⟩ (fun hHeld => ?_)
   clear hK K
   refine done_ (done_of HT_.out (by kernel_rfl)) ?_
   have hnb36 := NB109_110.out
   have hnc36 := NB110_109.out
   have hnb37 := NB109_113.out
   have hnc37 := NB113_109.out
   have hcz38_0 : w31.cell? ⟨gb109, 0, none⟩ = some (.bool true) := (blk_cell BK109.out 0).trans rfl
   have hcz38_1 : w31.cell? ⟨gb109, 1, none⟩ = some (.string a0_1) := (blk_cell BK109.out 1).trans rfl
   have hcz38_2 : w31.cell? ⟨gb109, 2, none⟩ = some (.string a0_2) := (blk_cell BK109.out 2).trans rfl
   have hcz38_3 : w31.cell? ⟨gb109, 3, none⟩ = some (.int .i64 a0_3) := (blk_cell BK109.out 3).trans rfl
   have hfz38_0 := blk_frozen BK109.out 0
   have hfz38_1 := blk_frozen BK109.out 1
   have hfz38_2 := blk_frozen BK109.out 2
   have hfz38_3 := blk_frozen BK109.out 3
   have hnb39 := NB113_110.out
   have hnc39 := NB110_113.out
   have hcz40_0 : w31.cell? ⟨gb113, 0, none⟩ = some (.bool false) := (blk_cell BK113.out 0).trans rfl
   have hcz40_1 : w31.cell? ⟨gb113, 1, none⟩ = some (.string (⟨#[]⟩ : ByteArray)) := (blk_cell BK113.out 1).trans rfl
   have hcz40_2 : w31.cell? ⟨gb113, 2, none⟩ = some (.string (⟨#[]⟩ : ByteArray)) := (blk_cell BK113.out 2).trans rfl
   have hcz40_3 : w31.cell? ⟨gb113, 3, none⟩ = some (.int .i64 0) := (blk_cell BK113.out 3).trans rfl
   have hfz40_0 := blk_frozen BK113.out 0
   have hfz40_1 := blk_frozen BK113.out 1
   have hfz40_2 := blk_frozen BK113.out 2
   have hfz40_3 := blk_frozen BK113.out 3
   have hcz41_0 : w31.cell? ⟨gb110, 0, none⟩ = some (.bool false) := (blk_cell BK110.out 0).trans rfl
   have hcz41_1 : w31.cell? ⟨gb110, 1, none⟩ = some (.string (⟨#[]⟩ : ByteArray)) := (blk_cell BK110.out 1).trans rfl
   have hcz41_2 : w31.cell? ⟨gb110, 2, none⟩ = some (.string (⟨#[]⟩ : ByteArray)) := (blk_cell BK110.out 2).trans rfl
   have hcz41_3 : w31.cell? ⟨gb110, 3, none⟩ = some (.int .i64 0) := (blk_cell BK110.out 3).trans rfl
   have hfz41_0 := blk_frozen BK110.out 0
   have hfz41_1 := blk_frozen BK110.out 1
   have hfz41_2 := blk_frozen BK110.out 2
   have hfz41_3 := blk_frozen BK110.out 3
   try go_wp2
   refine bodyPost_ret (results_cell_row rfl _ _ gb110 25 #[.bool true, .string t111, .string t112, .int .i64 a0_3] (0, 0) _ rfl (by (with_reducible repeat (first | refine blk_drewN ?_ _ | refine blk_drew ?_ | refine blk_alloc ?_ _)); refine blk_put (cs := #[.bool true, .string t111, .string t112, .int .i64 0]) ?_ 3 _ rfl; (with_reducible repeat (first | refine blk_drewN ?_ _ | refine blk_drew ?_ | refine blk_alloc ?_ _)); refine blk_put (cs := #[.bool true, .string t111, .string (⟨#[]⟩ : ByteArray), .int .i64 0]) ?_ 2 _ rfl; (with_reducible repeat (first | refine blk_drewN ?_ _ | refine blk_drew ?_ | refine blk_alloc ?_ _)); refine blk_put (cs := #[.bool true, .string (⟨#[]⟩ : ByteArray), .string (⟨#[]⟩ : ByteArray), .int .i64 0]) ?_ 1 _ rfl; (with_reducible repeat (first | refine blk_drewN ?_ _ | refine blk_drew ?_ | refine blk_alloc ?_ _)); refine blk_put (cs := #[.bool false, .string (⟨#[]⟩ : ByteArray), .string (⟨#[]⟩ : ByteArray), .int .i64 0]) ?_ 0 _ rfl; (with_reducible repeat (first | refine blk_drewN ?_ _ | refine blk_drew ?_ | refine blk_alloc ?_ _)); refine blk_far ?_ NB110_113.out _; (with_reducible repeat (first | refine blk_drewN ?_ _ | refine blk_drew ?_ | refine blk_alloc ?_ _)); refine blk_far ?_ NB110_113.out _; (with_reducible repeat (first | refine blk_drewN ?_ _ | refine blk_drew ?_ | refine blk_alloc ?_ _)); refine blk_far ?_ NB110_113.out _; (with_reducible repeat (first | refine blk_drewN ?_ _ | refine blk_drew ?_ | refine blk_alloc ?_ _)); refine blk_far ?_ NB110_113.out _; (with_reducible repeat (first | refine blk_drewN ?_ _ | refine blk_drew ?_ | refine blk_alloc ?_ _)); refine blk_far ?_ NB110_113.out _; (with_reducible repeat (first | refine blk_drewN ?_ _ | refine blk_drew ?_ | refine blk_alloc ?_ _)); exact BK110.out) Tryd.underlying25 rfl (by kernel_rfl)) rfl ?_
   exact ⟨qnp5_, qnp11_⟩
 ·
  replace c4 := Bool.eq_false_iff.mpr c4
  subst c4
  have H1 : (some (false, t111, t112, a0_3)) = some (r1, r2, r3, r4) := by rw [if_neg (show ¬ (false = true) by decide)] at H; exact H
  clear H
  have H := H1
  clear H1
  simp only [Option.some.injEq, Prod.mk.injEq] at H
  obtain ⟨rfl, rfl, rfl, rfl⟩ := H
  go_enter Tryd.func32, Tryd.ntmps32
  have tk61 : True := trivial; have tk62 : True := trivial
  try go_wp2_with (first | (have ztk61 := tk61; clear tk61 ztk61; (with_reducible refine gate_dst (N := 1) rfl ?_); refine box_event ?hg (N := 1) ?hd (cs := #[.bool false, .string a0_1, .string a0_2, .int .i64 a0_3]) (t := 55) ?hr ?_; (case hd => rfl); (case hg => rfl); (case hr => first | (go_simp; done) | (go_simp; rfl)); intro gb109 hg w44 hbox hb; have n0_ := Aside0.mk (below_step qnp1_ hb); have n1_ := Aside0.mk (hbox); have n2_ := Aside0.mk ((by rw [hg]; exact (below_size qnp1_) : w.heap.size ≤ gb109)); have n3_ := Aside0.mk ((by rw [hg]; exact (below_size qnp1_) : w.heap.size ≤ gb109)); clear HB; have HB := n0_; have BK109 := n1_; have GW109 := n2_; have GE109 := n3_; clear n0_ n1_ n2_ n3_; clear hb hbox hg) | (have ztk62 := tk62; clear tk62 ztk62; (with_reducible refine gate_dst (N := 2) rfl ?_); refine box_event ?hg (N := 2) ?hd (cs := #[.bool false, .string (⟨#[]⟩ : ByteArray), .string (⟨#[]⟩ : ByteArray), .int .i64 0]) (t := 25) ?hr ?_; (case hd => rfl); (case hg => rfl); (case hr => first | (go_simp; done) | (go_simp; rfl)); intro gb110 hg w45 hbox hb; have n0_ := Aside0.mk (blk_below (g := gb109) (o := .cells #[.bool false, .string a0_1, .string a0_2, .int .i64 a0_3] 55 (0, 0)) qnp6_ hb); have n1_ := Aside0.mk (below_step qnp34_ hb); have n2_ := Aside0.mk (hbox); have n3_ := Aside0.mk ((by rw [hg]; exact (below_size qnp34_) : w.heap.size ≤ gb110)); have n4_ := Aside0.mk ((by rw [hg]; exact (below_size qnp34_) : w.heap.size ≤ gb110)); have n5_ := Aside0.mk ((by rw [hg]; exact Nat.ne_of_lt (blk_lt (g := gb109) (o := .cells #[.bool false, .string a0_1, .string a0_2, .int .i64 a0_3] 55 (0, 0)) qnp6_) : gb109 ≠ gb110)); have n6_ := Aside0.mk ((by rw [hg]; exact Nat.ne_of_gt (blk_lt (g := gb109) (o := .cells #[.bool false, .string a0_1, .string a0_2, .int .i64 a0_3] 55 (0, 0)) qnp6_) : gb110 ≠ gb109)); clear BK109; clear HB; have BK109 := n0_; have HB := n1_; have BK110 := n2_; have GW110 := n3_; have GE110 := n4_; have NB109_110 := n5_; have NB110_109 := n6_; clear n0_ n1_ n2_ n3_ n4_ n5_ n6_; clear hb hbox hg))
  have n0_ := Aside0.mk (blk_drew BK109.out)
  have n1_ := Aside0.mk (blk_drew BK110.out)
  have n2_ := Aside0.mk (below_drew1 HB.out)
  clear BK109
  clear BK110
  clear HB
  have BK109 := n0_
  have BK110 := n1_
  have HB := n2_
  clear n0_ n1_ n2_
  refine start_ (n := 11) (S := fun w' => w'.cell? ⟨gb109, 0, none⟩ = some (.bool false) ∧ w'.cell? ⟨gb109, 1, none⟩ = some (.string a0_1) ∧ w'.cell? ⟨gb109, 2, none⟩ = some (.string a0_2) ∧ w'.cell? ⟨gb109, 3, none⟩ = some (.int .i64 a0_3)) (ds := []) #[false, false, false, false, false, false, false, false, false, false, false] (by kernel_rfl) rfl rfl ⟨(blk_cell BK109.out 0).trans rfl, (blk_cell BK109.out 1).trans rfl, (blk_cell BK109.out 2).trans rfl, (blk_cell BK109.out 3).trans rfl⟩ (fun hHeld => ?_); refine with_tabW numeral_decimal.tab1 numeral_decimal.bits1 (fun HT_ HW_ => ?_)
  generalize w45.drew = w46 at BK109 BK110 HB hHeld ⊢
  refine pure_ (i := 0) (N := some 4) (v := ?_) (a' := ?_) #[true, false, false, false, false, false, false, false, false, false, false] rfl rfl (any_of HT_.out (by kernel_rfl)) (fun _ _ _ h => h) (Or.inl ⟨by rfl, ?_⟩) ?_ ?_
  rotate_left
  ·
   intro w'
   go_simp
   with_reducible rfl
  rotate_left
  ·
   simp only [Act.put, List.setIfInBounds_toArray, List.set_cons_zero, List.set_cons_succ, i64_w, i32_w]
   rfl
  refine pure_ (i := 3) (N := some 7) (v := ?_) (a' := ?_) #[true, false, false, true, false, false, false, false, false, false, false] rfl rfl (any_of HT_.out (by kernel_rfl)) (fun _ _ _ h => h) (Or.inl ⟨by rfl, ?_⟩) ?_ ?_
  rotate_left
  ·
   intro w'
   go_simp
   with_reducible rfl
  rotate_left
  ·
   simp only [Act.put, List.setIfInBounds_toArray, List.set_cons_zero, List.set_cons_succ, i64_w, i32_w]
   rfl
  refine pure_ (i := 6) (N := some 10) (v := ?_) (a' := ?_) #[true, false, false, true, false, false, true, false, false, false, false] rfl rfl (any_of HT_.out (by kernel_rfl)) (fun _ _ _ h => h) (Or.inl ⟨by rfl, ?_⟩) ?_ ?_
  rotate_left
  ·
   intro w'
   go_simp
   with_reducible rfl
  rotate_left
  ·
   simp only [Act.put, List.setIfInBounds_toArray, List.set_cons_zero, List.set_cons_succ, i64_w, i32_w]
   rfl
  refine take_ (i := 1) (N := some 5) (v := ?_) (a' := ?_) #[true, true, false, true, false, false, true, false, false, false, false] rfl rfl (take_ofW HT_.out HW_.out (by kernel_rfl)) (fun _ _ _ h => h) (Or.inl ⟨by rfl, ?_⟩) hHeld ?_ ?_
  rotate_left
  ·
   rintro w' ⟨s0, s1, s2, s3⟩
   go_simp
   with_reducible rfl
  rotate_left
  ·
   simp only [Act.put, List.setIfInBounds_toArray, List.set_cons_zero, List.set_cons_succ, i64_w, i32_w]
   rfl
  refine take_ (i := 4) (N := some 8) (v := ?_) (a' := ?_) #[true, true, false, true, true, false, true, false, false, false, false] rfl rfl (take_ofW HT_.out HW_.out (by kernel_rfl)) (fun _ _ _ h => h) (Or.inl ⟨by rfl, ?_⟩) hHeld ?_ ?_
  rotate_left
  ·
   rintro w' ⟨s0, s1, s2, s3⟩
   go_simp
   with_reducible rfl
  rotate_left
  ·
   simp only [Act.put, List.setIfInBounds_toArray, List.set_cons_zero, List.set_cons_succ, i64_w, i32_w]
   rfl
  refine take_ (i := 7) (N := some 11) (v := ?_) (a' := ?_) #[true, true, false, true, true, false, true, true, false, false, false] rfl rfl (take_ofW HT_.out HW_.out (by kernel_rfl)) (fun _ _ _ h => h) (Or.inl ⟨by rfl, ?_⟩) hHeld ?_ ?_
  rotate_left
  ·
   rintro w' ⟨s0, s1, s2, s3⟩
   go_simp
   with_reducible rfl
  rotate_left
  ·
   simp only [Act.put, List.setIfInBounds_toArray, List.set_cons_zero, List.set_cons_succ, i64_w, i32_w]
   rfl
  refine join_ (σ := Nat) 1 #[true, true, true, true, true, true, true, true, true, true, false] (fun s_ => [(6, .string t111), (9, .string t112), (3, .pointer (some ⟨s_, 0, none⟩)), (12, .agg #[.bool false, .string t111, .string t112, .int .i64 a0_3])]) (fun s_ w' => (w'.cell? ⟨gb109, 0, none⟩ = some (.bool false) ∧ w'.cell? ⟨gb109, 1, none⟩ = some (.string a0_1) ∧ w'.cell? ⟨gb109, 2, none⟩ = some (.string a0_2) ∧ w'.cell? ⟨gb109, 3, none⟩ = some (.int .i64 a0_3)) ∧ (w'.heap[gb109]? = some (.cells #[.bool false, .string a0_1, .string a0_2, .int .i64 a0_3] 55 (0, 0))) ∧ (w'.heap[gb110]? = some (.cells #[.bool false, .string (⟨#[]⟩ : ByteArray), .string (⟨#[]⟩ : ByteArray), .int .i64 0] 25 (0, 0))) ∧ (w'.heap[s_]? = some (.cells #[.bool false, .string (⟨#[]⟩ : ByteArray), .string (⟨#[]⟩ : ByteArray), .int .i64 0] 25 (0, 0))) ∧ (w.heap.size ≤ s_) ∧ (w.heap.size ≤ s_) ∧ (gb109 ≠ s_) ∧ (s_ ≠ gb109) ∧ (gb110 ≠ s_) ∧ (s_ ≠ gb110) ∧ (Below w.heap.size w w')) ?_ ?_
  rotate_left
  ·
   intro hCont
   refine two_ (i := 2) (j := 9) (Ni := some 6) (Nj := some 3) #[true, true, true, true, true, false, true, true, false, false, false] #[true, true, false, true, true, false, true, true, false, true, false] rfl rfl rfl rfl (two_of HT_.out (by kernel_rfl)) (by decide) (by decide) (fun K hK => ?_) (fun K hK => ?_)
   ·
    skip
    refine goes_ Tryd.func66 (by kernel_rfl) rfl #[.string a0_1, .string (⟨#[48]⟩ : ByteArray)] (by rfl) rfl rfl qnp0_ ?_
    with_reducible refine (strings_TrimLeft.calls k a0_1 (⟨#[48]⟩ : ByteArray) t111 _ A2.out).mono ?_
    rintro e w47 ⟨rfl, hb⟩
    refine ⟨_, rfl, ?_⟩
    have n0_ := Aside0.mk (blk_below (g := gb109) (o := .cells #[.bool false, .string a0_1, .string a0_2, .int .i64 a0_3] 55 (0, 0)) qnp6_ hb)
    have n1_ := Aside0.mk (blk_below (g := gb110) (o := .cells #[.bool false, .string (⟨#[]⟩ : ByteArray), .string (⟨#[]⟩ : ByteArray), .int .i64 0] 25 (0, 0)) qnp8_ hb)
    have n2_ := Aside0.mk (below_step qnp7_ hb)
    clear BK109
    clear BK110
    clear HB
    have BK109 := n0_
    have BK110 := n1_
    have HB := n2_
    clear n0_ n1_ n2_
    (try clear hb); (try clear hb2); (try clear hk); (try clear hi)
    refine hK.out _ _ ⟨(blk_cell BK109.out 0).trans rfl, (blk_cell BK109.out 1).trans rfl, (blk_cell BK109.out 2).trans rfl, (blk_cell BK109.out 3).trans rfl⟩ (fun hHeld => ?_)
    clear hK K
    refine norm_ (a' := ?_) ?_ ?_
    rotate_left
    ·
     show Act.put _ (some 6) _ = _
     simp only [Act.put, List.setIfInBounds_toArray, List.set_cons_zero, List.set_cons_succ, i64_w, i32_w]
     rfl
    refine two_ (i := 5) (j := 9) (Ni := some 9) (Nj := some 3) #[true, true, true, true, true, true, true, true, false, false, false] #[true, true, true, true, true, false, true, true, false, true, false] rfl rfl rfl rfl (two_of HT_.out (by kernel_rfl)) (by decide) (by decide) (fun K hK => ?_) (fun K hK => ?_)
    ·
     skip
     refine goes_ Tryd.func67 (by kernel_rfl) rfl #[.string a0_2, .string (⟨#[48]⟩ : ByteArray)] (by rfl) rfl rfl qnp0_ ?_
     with_reducible refine (strings_TrimRight.calls k a0_2 (⟨#[48]⟩ : ByteArray) t112 _ A3.out).mono ?_
     rintro e w48 ⟨rfl, hb⟩
     refine ⟨_, rfl, ?_⟩
     have n0_ := Aside0.mk (blk_below (g := gb109) (o := .cells #[.bool false, .string a0_1, .string a0_2, .int .i64 a0_3] 55 (0, 0)) qnp6_ hb)
     have n1_ := Aside0.mk (blk_below (g := gb110) (o := .cells #[.bool false, .string (⟨#[]⟩ : ByteArray), .string (⟨#[]⟩ : ByteArray), .int .i64 0] 25 (0, 0)) qnp8_ hb)
     have n2_ := Aside0.mk (below_step qnp7_ hb)
     clear BK109
     clear BK110
     clear HB
     have BK109 := n0_
     have BK110 := n1_
     have HB := n2_
     clear n0_ n1_ n2_
     (try clear hb); (try clear hb2); (try clear hk); (try clear hi)
     refine hK.out _ _ ⟨(blk_cell BK109.out 0).trans rfl, (blk_cell BK109.out 1).trans rfl, (blk_cell BK109.out 2).trans rfl, (blk_cell BK109.out 3).trans rfl⟩ (fun hHeld => ?_)
     clear hK K
     refine norm_ (a' := ?_) ?_ ?_
     rotate_left
     ·
      show Act.put _ (some 9) _ = _
      simp only [Act.put, List.setIfInBounds_toArray, List.set_cons_zero, List.set_cons_succ, i64_w, i32_w]
      rfl
     refine pure_ (i := 8) (N := some 12) (v := ?_) (a' := ?_) #[true, true, true, true, true, true, true, true, true, false, false] rfl rfl (any_of HT_.out (by kernel_rfl)) (fun _ _ _ h => h) (Or.inl ⟨by rfl, ?_⟩) ?_ ?_
     rotate_left
     ·
      intro w'
      go_simp
      with_reducible rfl
     rotate_left
     ·
      simp only [Act.put, List.setIfInBounds_toArray, List.set_cons_zero, List.set_cons_succ, i64_w, i32_w]
      rfl
     refine one_ (i := 9) (N := some 3) #[true, true, true, true, true, true, true, true, true, true, false] rfl rfl (one_of HT_.out (by kernel_rfl)) (by decide) (fun K hK => ?_)
     refine box_step ?hg (N := 3) ?hd (cs := #[.bool false, .string (⟨#[]⟩ : ByteArray), .string (⟨#[]⟩ : ByteArray), .int .i64 0]) (t := 25) ?hr ?_; (case hd => rfl); (case hg => rfl); (case hr => first | (go_simp; done) | (go_simp; rfl))
     intro gb113 hg w49 hbox hb
     have n0_ := Aside0.mk (blk_below (g := gb109) (o := .cells #[.bool false, .string a0_1, .string a0_2, .int .i64 a0_3] 55 (0, 0)) qnp6_ hb)
     have n1_ := Aside0.mk (blk_below (g := gb110) (o := .cells #[.bool false, .string (⟨#[]⟩ : ByteArray), .string (⟨#[]⟩ : ByteArray), .int .i64 0] 25 (0, 0)) qnp8_ hb)
     have n2_ := Aside0.mk (below_step qnp7_ hb)
     have n3_ := Aside0.mk (hbox)
     have n4_ := Aside0.mk ((by rw [hg]; exact (below_size qnp7_) : w.heap.size ≤ gb113))
     have n5_ := Aside0.mk ((by rw [hg]; exact (below_size qnp7_) : w.heap.size ≤ gb113))
     have n6_ := Aside0.mk ((by rw [hg]; exact Nat.ne_of_lt (blk_lt (g := gb109) (o := .cells #[.bool false, .string a0_1, .string a0_2, .int .i64 a0_3] 55 (0, 0)) qnp6_) : gb109 ≠ gb113))
     have n7_ := Aside0.mk ((by rw [hg]; exact Nat.ne_of_gt (blk_lt (g := gb109) (o := .cells #[.bool false, .string a0_1, .string a0_2, .int .i64 a0_3] 55 (0, 0)) qnp6_) : gb113 ≠ gb109))
     have n8_ := Aside0.mk ((by rw [hg]; exact Nat.ne_of_lt (blk_lt (g := gb110) (o := .cells #[.bool false, .string (⟨#[]⟩ : ByteArray), .string (⟨#[]⟩ : ByteArray), .int .i64 0] 25 (0, 0)) qnp8_) : gb110 ≠ gb113))
     have n9_ := Aside0.mk ((by rw [hg]; exact Nat.ne_of_gt (blk_lt (g := gb110) (o := .cells #[.bool false, .string (⟨#[]⟩ : ByteArray), .string (⟨#[]⟩ : ByteArray), .int .i64 0] 25 (0, 0)) qnp8_) : gb113 ≠ gb110))
     clear BK109
     clear BK110
     clear HB
     have BK109 := n0_
     have BK110 := n1_
     have HB := n2_
     have BK113 := n3_
     have GW113 := n4_
     have GE113 := n5_
     have NB109_113 := n6_
     have NB113_109 := n7_
     have NB110_113 := n8_
     have NB113_110 := n9_
     clear n0_ n1_ n2_ n3_ n4_ n5_ n6_ n7_ n8_ n9_
     clear hb hbox hg
     refine hK.out _ _ ⟨(blk_cell BK109.out 0).trans rfl, (blk_cell BK109.out 1).trans rfl, (blk_cell BK109.out 2).trans rfl, (blk_cell BK109.out 3).trans rfl⟩ (fun hHeld => ?_)
     clear hK K
     refine norm_ (a' := ?_) ?_ ?_
     rotate_left
     ·
      show Act.put _ (some 3) _ = _
      simp only [Act.put, List.setIfInBounds_toArray, List.set_cons_zero, List.set_cons_succ, i64_w, i32_w]
      rfl
     exact norm_ qnp32_ (hCont (gb113) _ ⟨hHeld, qnp6_, qnp8_, qnp23_, GW113.out, GE113.out, NB109_113.out, NB113_109.out, NB110_113.out, NB113_110.out, qnp11_⟩)
    ·
     skip
     refine box_step ?hg (N := 3) ?hd (cs := #[.bool false, .string (⟨#[]⟩ : ByteArray), .string (⟨#[]⟩ : ByteArray), .int .i64 0]) (t := 25) ?hr ?_; (case hd => rfl); (case hg => rfl); (case hr => first | (go_simp; done) | (go_simp; rfl))
     intro gb113 hg w48 hbox hb
     have n0_ := Aside0.mk (blk_below (g := gb109) (o := .cells #[.bool false, .string a0_1, .string a0_2, .int .i64 a0_3] 55 (0, 0)) qnp6_ hb)
     have n1_ := Aside0.mk (blk_below (g := gb110) (o := .cells #[.bool false, .string (⟨#[]⟩ : ByteArray), .string (⟨#[]⟩ : ByteArray), .int .i64 0] 25 (0, 0)) qnp8_ hb)
     have n2_ := Aside0.mk (below_step qnp7_ hb)
     have n3_ := Aside0.mk (hbox)
     have n4_ := Aside0.mk ((by rw [hg]; exact (below_size qnp7_) : w.heap.size ≤ gb113))
     have n5_ := Aside0.mk ((by rw [hg]; exact (below_size qnp7_) : w.heap.size ≤ gb113))
     have n6_ := Aside0.mk ((by rw [hg]; exact Nat.ne_of_lt (blk_lt (g := gb109) (o := .cells #[.bool false, .string a0_1, .string a0_2, .int .i64 a0_3] 55 (0, 0)) qnp6_) : gb109 ≠ gb113))
     have n7_ := Aside0.mk ((by rw [hg]; exact Nat.ne_of_gt (blk_lt (g := gb109) (o := .cells #[.bool false, .string a0_1, .string a0_2, .int .i64 a0_3] 55 (0, 0)) qnp6_) : gb113 ≠ gb109))
     have n8_ := Aside0.mk ((by rw [hg]; exact Nat.ne_of_lt (blk_lt (g := gb110) (o := .cells #[.bool false, .string (⟨#[]⟩ : ByteArray), .string (⟨#[]⟩ : ByteArray), .int .i64 0] 25 (0, 0)) qnp8_) : gb110 ≠ gb113))
     have n9_ := Aside0.mk ((by rw [hg]; exact Nat.ne_of_gt (blk_lt (g := gb110) (o := .cells #[.bool false, .string (⟨#[]⟩ : ByteArray), .string (⟨#[]⟩ : ByteArray), .int .i64 0] 25 (0, 0)) qnp8_) : gb113 ≠ gb110))
     clear BK109
     clear BK110
     clear HB
     have BK109 := n0_
     have BK110 := n1_
     have HB := n2_
     have BK113 := n3_
     have GW113 := n4_
     have GE113 := n5_
     have NB109_113 := n6_
     have NB113_109 := n7_
     have NB110_113 := n8_
     have NB113_110 := n9_
     clear n0_ n1_ n2_ n3_ n4_ n5_ n6_ n7_ n8_ n9_
     clear hb hbox hg
     refine hK.out _ _ ⟨(blk_cell BK109.out 0).trans rfl, (blk_cell BK109.out 1).trans rfl, (blk_cell BK109.out 2).trans rfl, (blk_cell BK109.out 3).trans rfl⟩ (fun hHeld => ?_)
     clear hK K
     refine norm_ (a' := ?_) ?_ ?_
     rotate_left
     ·
      show Act.put _ (some 3) _ = _
      simp only [Act.put, List.setIfInBounds_toArray, List.set_cons_zero, List.set_cons_succ, i64_w, i32_w]
      rfl
     refine one_ (i := 5) (N := some 9) #[true, true, true, true, true, true, true, true, false, true, false] rfl rfl (one_of HT_.out (by kernel_rfl)) (by decide) (fun K hK => ?_)
     refine goes_ Tryd.func67 (by kernel_rfl) rfl #[.string a0_2, .string (⟨#[48]⟩ : ByteArray)] (by rfl) rfl rfl qnp0_ ?_
     with_reducible refine (strings_TrimRight.calls k a0_2 (⟨#[48]⟩ : ByteArray) t112 _ A3.out).mono ?_
     rintro e w49 ⟨rfl, hb⟩
     refine ⟨_, rfl, ?_⟩
     have n0_ := Aside0.mk (blk_below (g := gb109) (o := .cells #[.bool false, .string a0_1, .string a0_2, .int .i64 a0_3] 55 (0, 0)) qnp6_ hb)
     have n1_ := Aside0.mk (blk_below (g := gb110) (o := .cells #[.bool false, .string (⟨#[]⟩ : ByteArray), .string (⟨#[]⟩ : ByteArray), .int .i64 0] 25 (0, 0)) qnp8_ hb)
     have n2_ := Aside0.mk (blk_below (g := gb113) (o := .cells #[.bool false, .string (⟨#[]⟩ : ByteArray), .string (⟨#[]⟩ : ByteArray), .int .i64 0] 25 (0, 0)) qnp23_ hb)
     have n3_ := Aside0.mk (below_step qnp11_ hb)
     clear BK109
     clear BK110
     clear BK113
     clear HB
     have BK109 := n0_
     have BK110 := n1_
     have BK113 := n2_
     have HB := n3_
     clear n0_ n1_ n2_ n3_
     (try clear hb); (try clear hb2); (try clear hk); (try clear hi)
     refine hK.out _ _ ⟨(blk_cell BK109.out 0).trans rfl, (blk_cell BK109.out 1).trans rfl, (blk_cell BK109.out 2).trans rfl, (blk_cell BK109.out 3).trans rfl⟩ (fun hHeld => ?_)
     clear hK K
     refine norm_ (a' := ?_) ?_ ?_
     rotate_left
     ·
      show Act.put _ (some 9) _ = _
      simp only [Act.put, List.setIfInBounds_toArray, List.set_cons_zero, List.set_cons_succ, i64_w, i32_w]
      rfl
     refine pure_ (i := 8) (N := some 12) (v := ?_) (a' := ?_) #[true, true, true, true, true, true, true, true, true, true, false] rfl rfl (any_of HT_.out (by kernel_rfl)) (fun _ _ _ h => h) (Or.inl ⟨by rfl, ?_⟩) ?_ ?_
     rotate_left
     ·
      intro w'
      go_simp
      with_reducible rfl
     rotate_left
     ·
      simp only [Act.put, List.setIfInBounds_toArray, List.set_cons_zero, List.set_cons_succ, i64_w, i32_w]
      rfl
     exact norm_ qnp32_ (hCont (gb113) _ ⟨hHeld, qnp6_, qnp8_, qnp23_, GW113.out, GE113.out, NB109_113.out, NB113_109.out, NB110_113.out, NB113_110.out, qnp11_⟩)
   ·
    skip
    refine box_step ?hg (N := 3) ?hd (cs := #[.bool false, .string (⟨#[]⟩ : ByteArray), .string (⟨#[]⟩ : ByteArray), .int .i64 0]) (t := 25) ?hr ?_; (case hd => rfl); (case hg => rfl); (case hr => first | (go_simp; done) | (go_simp; rfl))
    intro gb113 hg w47 hbox hb
    have n0_ := Aside0.mk (blk_below (g := gb109) (o := .cells #[.bool false, .string a0_1, .string a0_2, .int .i64 a0_3] 55 (0, 0)) qnp6_ hb)
    have n1_ := Aside0.mk (blk_below (g := gb110) (o := .cells #[.bool false, .string (⟨#[]⟩ : ByteArray), .string (⟨#[]⟩ : ByteArray), .int .i64 0] 25 (0, 0)) qnp8_ hb)
    have n2_ := Aside0.mk (below_step qnp7_ hb)
    have n3_ := Aside0.mk (hbox)
    have n4_ := Aside0.mk ((by rw [hg]; exact (below_size qnp7_) : w.heap.size ≤ gb113))
    have n5_ := Aside0.mk ((by rw [hg]; exact (below_size qnp7_) : w.heap.size ≤ gb113))
    have n6_ := Aside0.mk ((by rw [hg]; exact Nat.ne_of_lt (blk_lt (g := gb109) (o := .cells #[.bool false, .string a0_1, .string a0_2, .int .i64 a0_3] 55 (0, 0)) qnp6_) : gb109 ≠ gb113))
    have n7_ := Aside0.mk ((by rw [hg]; exact Nat.ne_of_gt (blk_lt (g := gb109) (o := .cells #[.bool false, .string a0_1, .string a0_2, .int .i64 a0_3] 55 (0, 0)) qnp6_) : gb113 ≠ gb109))
    have n8_ := Aside0.mk ((by rw [hg]; exact Nat.ne_of_lt (blk_lt (g := gb110) (o := .cells #[.bool false, .string (⟨#[]⟩ : ByteArray), .string (⟨#[]⟩ : ByteArray), .int .i64 0] 25 (0, 0)) qnp8_) : gb110 ≠ gb113))
    have n9_ := Aside0.mk ((by rw [hg]; exact Nat.ne_of_gt (blk_lt (g := gb110) (o := .cells #[.bool false, .string (⟨#[]⟩ : ByteArray), .string (⟨#[]⟩ : ByteArray), .int .i64 0] 25 (0, 0)) qnp8_) : gb113 ≠ gb110))
    clear BK109
    clear BK110
    clear HB
    have BK109 := n0_
    have BK110 := n1_
    have HB := n2_
    have BK113 := n3_
    have GW113 := n4_
    have GE113 := n5_
    have NB109_113 := n6_
    have NB113_109 := n7_
    have NB110_113 := n8_
    have NB113_110 := n9_
    clear n0_ n1_ n2_ n3_ n4_ n5_ n6_ n7_ n8_ n9_
    clear hb hbox hg
    refine hK.out _ _ ⟨(blk_cell BK109.out 0).trans rfl, (blk_cell BK109.out 1).trans rfl, (blk_cell BK109.out 2).trans rfl, (blk_cell BK109.out 3).trans rfl⟩ (fun hHeld => ?_)
    clear hK K
    refine norm_ (a' := ?_) ?_ ?_
    rotate_left
    ·
     show Act.put _ (some 3) _ = _
     simp only [Act.put, List.setIfInBounds_toArray, List.set_cons_zero, List.set_cons_succ, i64_w, i32_w]
     rfl
    refine one_ (i := 2) (N := some 6) #[true, true, true, true, true, false, true, true, false, true, false] rfl rfl (one_of HT_.out (by kernel_rfl)) (by decide) (fun K hK => ?_)
    refine goes_ Tryd.func66 (by kernel_rfl) rfl #[.string a0_1, .string (⟨#[48]⟩ : ByteArray)] (by rfl) rfl rfl qnp0_ ?_
    with_reducible refine (strings_TrimLeft.calls k a0_1 (⟨#[48]⟩ : ByteArray) t111 _ A2.out).mono ?_
    rintro e w48 ⟨rfl, hb⟩
    refine ⟨_, rfl, ?_⟩
    have n0_ := Aside0.mk (blk_below (g := gb109) (o := .cells #[.bool false, .string a0_1, .string a0_2, .int .i64 a0_3] 55 (0, 0)) qnp6_ hb)
    have n1_ := Aside0.mk (blk_below (g := gb110) (o := .cells #[.bool false, .string (⟨#[]⟩ : ByteArray), .string (⟨#[]⟩ : ByteArray), .int .i64 0] 25 (0, 0)) qnp8_ hb)
    have n2_ := Aside0.mk (blk_below (g := gb113) (o := .cells #[.bool false, .string (⟨#[]⟩ : ByteArray), .string (⟨#[]⟩ : ByteArray), .int .i64 0] 25 (0, 0)) qnp23_ hb)
    have n3_ := Aside0.mk (below_step qnp11_ hb)
    clear BK109
    clear BK110
    clear BK113
    clear HB
    have BK109 := n0_
    have BK110 := n1_
    have BK113 := n2_
    have HB := n3_
    clear n0_ n1_ n2_ n3_
    (try clear hb); (try clear hb2); (try clear hk); (try clear hi)
    refine hK.out _ _ ⟨(blk_cell BK109.out 0).trans rfl, (blk_cell BK109.out 1).trans rfl, (blk_cell BK109.out 2).trans rfl, (blk_cell BK109.out 3).trans rfl⟩ (fun hHeld => ?_)
    clear hK K
    refine norm_ (a' := ?_) ?_ ?_
    rotate_left
    ·
     show Act.put _ (some 6) _ = _
     simp only [Act.put, List.setIfInBounds_toArray, List.set_cons_zero, List.set_cons_succ, i64_w, i32_w]
     rfl
    refine one_ (i := 5) (N := some 9) #[true, true, true, true, true, true, true, true, false, true, false] rfl rfl (one_of HT_.out (by kernel_rfl)) (by decide) (fun K hK => ?_)
    refine goes_ Tryd.func67 (by kernel_rfl) rfl #[.string a0_2, .string (⟨#[48]⟩ : ByteArray)] (by rfl) rfl rfl qnp0_ ?_
    with_reducible refine (strings_TrimRight.calls k a0_2 (⟨#[48]⟩ : ByteArray) t112 _ A3.out).mono ?_
    rintro e w49 ⟨rfl, hb⟩
    refine ⟨_, rfl, ?_⟩
    have n0_ := Aside0.mk (blk_below (g := gb109) (o := .cells #[.bool false, .string a0_1, .string a0_2, .int .i64 a0_3] 55 (0, 0)) qnp6_ hb)
    have n1_ := Aside0.mk (blk_below (g := gb110) (o := .cells #[.bool false, .string (⟨#[]⟩ : ByteArray), .string (⟨#[]⟩ : ByteArray), .int .i64 0] 25 (0, 0)) qnp8_ hb)
    have n2_ := Aside0.mk (blk_below (g := gb113) (o := .cells #[.bool false, .string (⟨#[]⟩ : ByteArray), .string (⟨#[]⟩ : ByteArray), .int .i64 0] 25 (0, 0)) qnp23_ hb)
    have n3_ := Aside0.mk (below_step qnp11_ hb)
    clear BK109
    clear BK110
    clear BK113
    clear HB
    have BK109 := n0_
    have BK110 := n1_
    have BK113 := n2_
    have HB := n3_
    clear n0_ n1_ n2_ n3_
    (try clear hb); (try clear hb2); (try clear hk); (try clear hi)
    refine hK.out _ _ ⟨(blk_cell BK109.out 0).trans rfl, (blk_cell BK109.out 1).trans rfl, (blk_cell BK109.out 2).trans rfl, (blk_cell BK109.out 3).trans rfl⟩ (fun hHeld => ?_)
    clear hK K
    refine norm_ (a' := ?_) ?_ ?_
    rotate_left
    ·
     show Act.put _ (some 9) _ = _
     simp only [Act.put, List.setIfInBounds_toArray, List.set_cons_zero, List.set_cons_succ, i64_w, i32_w]
     rfl
    refine pure_ (i := 8) (N := some 12) (v := ?_) (a' := ?_) #[true, true, true, true, true, true, true, true, true, true, false] rfl rfl (any_of HT_.out (by kernel_rfl)) (fun _ _ _ h => h) (Or.inl ⟨by rfl, ?_⟩) ?_ ?_
    rotate_left
    ·
     intro w'
     go_simp
     with_reducible rfl
    rotate_left
    ·
     simp only [Act.put, List.setIfInBounds_toArray, List.set_cons_zero, List.set_cons_succ, i64_w, i32_w]
     rfl
    exact norm_ qnp32_ (hCont (gb113) _ ⟨hHeld, qnp6_, qnp8_, qnp23_, GW113.out, GE113.out, NB109_113.out, NB113_109.out, NB110_113.out, NB113_110.out, qnp11_⟩)
  rintro gb113 w50 ⟨hS_, h0_, h1_, h2_, h3_, h4_, h5_, h6_, h7_, h8_, h9_⟩
  have n0_ : Aside0 (w50.heap[gb109]? = some (.cells #[.bool false, .string a0_1, .string a0_2, .int .i64 a0_3] 55 (0, 0))) := ⟨h0_⟩
  have n1_ : Aside0 (w50.heap[gb110]? = some (.cells #[.bool false, .string (⟨#[]⟩ : ByteArray), .string (⟨#[]⟩ : ByteArray), .int .i64 0] 25 (0, 0))) := ⟨h1_⟩
  have n2_ : Aside0 (w50.heap[gb113]? = some (.cells #[.bool false, .string (⟨#[]⟩ : ByteArray), .string (⟨#[]⟩ : ByteArray), .int .i64 0] 25 (0, 0))) := ⟨h2_⟩
  have n3_ : Aside0 (w.heap.size ≤ gb113) := ⟨h3_⟩
  have n4_ : Aside0 (w.heap.size ≤ gb113) := ⟨h4_⟩
  have n5_ : Aside0 (gb109 ≠ gb113) := ⟨h5_⟩
  have n6_ : Aside0 (gb113 ≠ gb109) := ⟨h6_⟩
  have n7_ : Aside0 (gb110 ≠ gb113) := ⟨h7_⟩
  have n8_ : Aside0 (gb113 ≠ gb110) := ⟨h8_⟩
  have n9_ : Aside0 (Below w.heap.size w w50) := ⟨h9_⟩
  clear BK109
  clear BK110
  clear HB
  clear h0_ h1_ h2_ h3_ h4_ h5_ h6_ h7_ h8_ h9_
  have BK109 := n0_
  have BK110 := n1_
  have BK113 := n2_
  have GW113 := n3_
  have GE113 := n4_
  have NB109_113 := n5_
  have NB113_109 := n6_
  have NB110_113 := n7_
  have NB113_110 := n8_
  have HB := n9_
  clear n0_ n1_ n2_ n3_ n4_ n5_ n6_ n7_ n8_ n9_
  have hHeld : w50.cell? ⟨gb109, 0, none⟩ = some (.bool false) ∧ w50.cell? ⟨gb109, 1, none⟩ = some (.string a0_1) ∧ w50.cell? ⟨gb109, 2, none⟩ = some (.string a0_2) ∧ w50.cell? ⟨gb109, 3, none⟩ = some (.int .i64 a0_3) := hS_
  refine norm_ (a' := ?_) ?_ ?_
  rotate_left
  ·
   simp only [putAll, Act.put, List.setIfInBounds_toArray, List.set_cons_zero, List.set_cons_succ]
   rfl
  refine one_ (i := 10) (N := none) #[true, true, true, true, true, true, true, true, true, true, true] rfl rfl (one_of HT_.out (by kernel_rfl)) (by decide) (fun K hK => ?_)
  have hs51 : w50.cell? ⟨gb113, 0, none⟩ = some (.bool false) := (blk_cell BK113.out 0).trans rfl
  have hfs51 := blk_frozen BK113.out 0
  have hns51_0 := NB109_113.out
  have hns51_1 := NB110_113.out
  have hms51_0 := NB113_109.out
  have hms51_1 := NB113_110.out
  have hs52 : w50.cell? ⟨gb113, 1, none⟩ = some (.string (⟨#[]⟩ : ByteArray)) := (blk_cell BK113.out 1).trans rfl
  have hfs52 := blk_frozen BK113.out 1
  have hns52_0 := NB109_113.out
  have hns52_1 := NB110_113.out
  have hms52_0 := NB113_109.out
  have hms52_1 := NB113_110.out
  have hs53 : w50.cell? ⟨gb113, 2, none⟩ = some (.string (⟨#[]⟩ : ByteArray)) := (blk_cell BK113.out 2).trans rfl
  have hfs53 := blk_frozen BK113.out 2
  have hns53_0 := NB109_113.out
  have hns53_1 := NB110_113.out
  have hms53_0 := NB113_109.out
  have hms53_1 := NB113_110.out
  have hs54 : w50.cell? ⟨gb113, 3, none⟩ = some (.int .i64 0) := (blk_cell BK113.out 3).trans rfl
  have hfs54 := blk_frozen BK113.out 3
  have hns54_0 := NB109_113.out
  have hns54_1 := NB110_113.out
  have hms54_0 := NB113_109.out
  have hms54_1 := NB113_110.out
  refine skip_ (w1 := ?_) (by rfl) rfl ?_ ?_
  rotate_left
  ·
   go_simp
   rfl
  refine hK.out _ _ ⟨((cell_far (p := ⟨gb113, _, none⟩) NB109_113.out _).trans (((cell_far (p := ⟨gb113, _, none⟩) NB109_113.out _).trans (((cell_far (p := ⟨gb113, _, none⟩) NB109_113.out _).trans (((cell_far (p := ⟨gb113, _, none⟩) NB109_113.out _).trans (hHeld.1)))))))), ((cell_far (p := ⟨gb113, _, none⟩) NB109_113.out _).trans (((cell_far (p := ⟨gb113, _, none⟩) NB109_113.out _).trans (((cell_far (p := ⟨gb113, _, none⟩) NB109_113.out _).trans (((cell_far (p := ⟨gb113, _, none⟩) NB109_113.out _).trans (hHeld.2.1)))))))), ((cell_far (p := ⟨gb113, _, none⟩) NB109_113.out _).trans (((cell_far (p := ⟨gb113, _, none⟩) NB109_113.out _).trans (((cell_far (p := ⟨gb113, _, none⟩) NB109_113.out _).trans (((cell_far (p := ⟨gb113, _, none⟩) NB109_113.out _).trans (hHeld.2.2.1)))))))), ((cell_far (p := ⟨gb113, _, none⟩) NB109_113.out _).trans (((cell_far (p := ⟨gb113, _, none⟩) NB109_113.out _).trans (((cell_far (p := ⟨gb113, _, none⟩) NB109_113.out _).trans (((cell_far (p := ⟨gb113, _, none⟩) NB109_113.out _).trans (hHeld.2.2.2))))))))⟩ (fun hHeld => ?_)
  clear hK K
  refine done_ (done_of HT_.out (by kernel_rfl)) ?_
  have hnb55 := NB109_110.out
  have hnc55 := NB110_109.out
  have hnb56 := NB109_113.out
  have hnc56 := NB113_109.out
  have hcz57_0 : w50.cell? ⟨gb109, 0, none⟩ = some (.bool false) := (blk_cell BK109.out 0).trans rfl
  have hcz57_1 : w50.cell? ⟨gb109, 1, none⟩ = some (.string a0_1) := (blk_cell BK109.out 1).trans rfl
  have hcz57_2 : w50.cell? ⟨gb109, 2, none⟩ = some (.string a0_2) := (blk_cell BK109.out 2).trans rfl
  have hcz57_3 : w50.cell? ⟨gb109, 3, none⟩ = some (.int .i64 a0_3) := (blk_cell BK109.out 3).trans rfl
  have hfz57_0 := blk_frozen BK109.out 0
  have hfz57_1 := blk_frozen BK109.out 1
  have hfz57_2 := blk_frozen BK109.out 2
  have hfz57_3 := blk_frozen BK109.out 3
  have hnb58 := NB113_110.out
  have hnc58 := NB110_113.out
  have hcz59_0 : w50.cell? ⟨gb113, 0, none⟩ = some (.bool false) := (blk_cell BK113.out 0).trans rfl
  have hcz59_1 : w50.cell? ⟨gb113, 1, none⟩ = some (.string (⟨#[]⟩ : ByteArray)) := (blk_cell BK113.out 1).trans rfl
  have hcz59_2 : w50.cell? ⟨gb113, 2, none⟩ = some (.string (⟨#[]⟩ : ByteArray)) := (blk_cell BK113.out 2).trans rfl
  have hcz59_3 : w50.cell? ⟨gb113, 3, none⟩ = some (.int .i64 0) := (blk_cell BK113.out 3).trans rfl
  have hfz59_0 := blk_frozen BK113.out 0
  have hfz59_1 := blk_frozen BK113.out 1
  have hfz59_2 := blk_frozen BK113.out 2
  have hfz59_3 := blk_frozen BK113.out 3
  have hcz60_0 : w50.cell? ⟨gb110, 0, none⟩ = some (.bool false) := (blk_cell BK110.out 0).trans rfl
  have hcz60_1 : w50.cell? ⟨gb110, 1, none⟩ = some (.string (⟨#[]⟩ : ByteArray)) := (blk_cell BK110.out 1).trans rfl
  have hcz60_2 : w50.cell? ⟨gb110, 2, none⟩ = some (.string (⟨#[]⟩ : ByteArray)) := (blk_cell BK110.out 2).trans rfl
  have hcz60_3 : w50.cell? ⟨gb110, 3, none⟩ = some (.int .i64 0) := (blk_cell BK110.out 3).trans rfl
  have hfz60_0 := blk_frozen BK110.out 0
  have hfz60_1 := blk_frozen BK110.out 1
  have hfz60_2 := blk_frozen BK110.out 2
  have hfz60_3 := blk_frozen BK110.out 3
  try go_wp2
  refine bodyPost_ret (results_cell_row rfl _ _ gb110 25 #[.bool false, .string t111, .string t112, .int .i64 a0_3] (0, 0) _ rfl (by (with_reducible repeat (first | refine blk_drewN ?_ _ | refine blk_drew ?_ | refine blk_alloc ?_ _)); refine blk_put (cs := #[.bool false, .string t111, .string t112, .int .i64 0]) ?_ 3 _ rfl; (with_reducible repeat (first | refine blk_drewN ?_ _ | refine blk_drew ?_ | refine blk_alloc ?_ _)); refine blk_put (cs := #[.bool false, .string t111, .string (⟨#[]⟩ : ByteArray), .int .i64 0]) ?_ 2 _ rfl; (with_reducible repeat (first | refine blk_drewN ?_ _ | refine blk_drew ?_ | refine blk_alloc ?_ _)); refine blk_put (cs := #[.bool false, .string (⟨#[]⟩ : ByteArray), .string (⟨#[]⟩ : ByteArray), .int .i64 0]) ?_ 1 _ rfl; (with_reducible repeat (first | refine blk_drewN ?_ _ | refine blk_drew ?_ | refine blk_alloc ?_ _)); refine blk_put (cs := #[.bool false, .string (⟨#[]⟩ : ByteArray), .string (⟨#[]⟩ : ByteArray), .int .i64 0]) ?_ 0 _ rfl; (with_reducible repeat (first | refine blk_drewN ?_ _ | refine blk_drew ?_ | refine blk_alloc ?_ _)); refine blk_far ?_ NB110_113.out _; (with_reducible repeat (first | refine blk_drewN ?_ _ | refine blk_drew ?_ | refine blk_alloc ?_ _)); refine blk_far ?_ NB110_113.out _; (with_reducible repeat (first | refine blk_drewN ?_ _ | refine blk_drew ?_ | refine blk_alloc ?_ _)); refine blk_far ?_ NB110_113.out _; (with_reducible repeat (first | refine blk_drewN ?_ _ | refine blk_drew ?_ | refine blk_alloc ?_ _)); refine blk_far ?_ NB110_113.out _; (with_reducible repeat (first | refine blk_drewN ?_ _ | refine blk_drew ?_ | refine blk_alloc ?_ _)); refine blk_far ?_ NB110_113.out _; (with_reducible repeat (first | refine blk_drewN ?_ _ | refine blk_drew ?_ | refine blk_alloc ?_ _)); exact BK110.out) Tryd.underlying25 rfl (by kernel_rfl)) rfl ?_
  exact ⟨qnp5_, qnp11_⟩


/-! ### numeral_signed: function 33 -/
def numeral_signed.f (k : Nat) (a0 : ByteArray) : Option (Bool × ByteArray × ByteArray × Int) := (numeral_blanks.f k a0).bind fun t115 => (if t115 < (a0.size : Int) then (if 0 ≤ t115 then (if (bt a0 t115) = 45 then ((numeral_plain.f a0 (wrap64 (t115 + 1))).bind fun bt116 => (some (decide (bt116.2.2.2 > 0), bt116.2.1, bt116.2.2.1, bt116.2.2.2))) else ((numeral_plain.f a0 t115).bind fun bt121 => (some (false, bt121.2.1, bt121.2.2.1, bt121.2.2.2)))) else (none)) else ((numeral_plain.f a0 t115).bind fun bt126 => (some (false, bt126.2.1, bt126.2.2.1, bt126.2.2.2))))
set_option maxHeartbeats 8000000 in
set_option maxRecDepth 100000 in
theorem numeral_signed.calls (k : Nat) (a0 : ByteArray) (r1 : Bool) (r2 : ByteArray) (r3 : ByteArray) (r4 : Int) (w : World) (h : numeral_signed.f k a0 = some (r1, r2, r3, r4)) :
  Calls Tryd.prog 33 #[.string a0] w fun e w' => e = .returned (.agg #[.bool r1, .string r2, .string r3, .int .i64 r4]) ∧ Below w.heap.size w w' := by
 have hu55 := Tryd.underlying55
 have HB := Aside0.mk (Below.refl w.heap.size w)
 have H : ((numeral_blanks.f k a0).bind fun t115 => (if t115 < (a0.size : Int) then (if 0 ≤ t115 then (if (bt a0 t115) = 45 then ((numeral_plain.f a0 (wrap64 (t115 + 1))).bind fun bt116 => (some (decide (bt116.2.2.2 > 0), bt116.2.1, bt116.2.2.1, bt116.2.2.2))) else ((numeral_plain.f a0 t115).bind fun bt121 => (some (false, bt121.2.1, bt121.2.2.1, bt121.2.2.2)))) else (none)) else ((numeral_plain.f a0 t115).bind fun bt126 => (some (false, bt126.2.1, bt126.2.2.1, bt126.2.2.2))))) = some (r1, r2, r3, r4) := h
 clear h
 replace H := Option.bind_eq_some_iff.mp H
 obtain ⟨t115, A20, H⟩ := H
 replace H : (if t115 < (a0.size : Int) then (if 0 ≤ t115 then (if (bt a0 t115) = 45 then ((numeral_plain.f a0 (wrap64 (t115 + 1))).bind fun bt116 => (some (decide (bt116.2.2.2 > 0), bt116.2.1, bt116.2.2.1, bt116.2.2.2))) else ((numeral_plain.f a0 t115).bind fun bt121 => (some (false, bt121.2.1, bt121.2.2.1, bt121.2.2.2)))) else (none)) else ((numeral_plain.f a0 t115).bind fun bt126 => (some (false, bt126.2.1, bt126.2.2.1, bt126.2.2.2)))) = some (r1, r2, r3, r4) := H
 have A2 := Aside0.mk A20
 clear A20
 by_cases c3 : t115 < (a0.size : Int)
 ·
  rw [if_pos c3] at H
  have c3b0 : decide (t115 < (a0.size : Int)) = true := decide_eq_true c3
  clear c3
  by_cases c4 : 0 ≤ t115
  ·
   rw [if_pos c4] at H
   have c4b0 : decide (0 ≤ t115) = true := decide_eq_true c4
   clear c4
   by_cases c6 : (bt a0 t115) = 45
   ·
    rw [if_pos c6] at H
    have c6b0 : ((bt a0 t115) == 45) = true := beq_iff_eq.mpr c6
    have c6b1 : ((bt a0 t115) != 45) = false := bne_eq_false_iff_eq.mpr c6
    clear c6
    replace H := Option.bind_eq_some_iff.mp H
    obtain ⟨⟨t116, t117, t118, t119⟩, A70, H⟩ := H
    replace H : (some (decide (t119 > 0), t117, t118, t119)) = some (r1, r2, r3, r4) := H
    have A7 := Aside0.mk A70
    clear A70
    simp only [Option.some.injEq, Prod.mk.injEq] at H
    obtain ⟨rfl, rfl, rfl, rfl⟩ := H
    go_enter Tryd.func33, Tryd.ntmps33
    have tk15 : True := trivial; have tk16 : True := trivial; have tk17 : True := trivial; have tk18 : True := trivial
    go_wp2_with (first | (have ztk15 := tk15; clear tk15 ztk15; (with_reducible refine gate_dst (N := 2) rfl ?_); refine box_event ?hg (N := 2) ?hd (cs := #[.bool false, .string (⟨#[]⟩ : ByteArray), .string (⟨#[]⟩ : ByteArray), .int .i64 0]) (t := 55) ?hr ?_; (case hd => rfl); (case hg => rfl); (case hr => first | (go_simp; done) | (go_simp; rfl)); intro gb114 hg w8 hbox hb; have n0_ := Aside0.mk (below_step qnp1_ hb); have n1_ := Aside0.mk (hbox); have n2_ := Aside0.mk ((by rw [hg]; exact (below_size qnp1_) : w.heap.size ≤ gb114)); have n3_ := Aside0.mk ((by rw [hg]; exact (below_size qnp1_) : w.heap.size ≤ gb114)); clear HB; have HB := n0_; have BK114 := n1_; have GW114 := n2_; have GE114 := n3_; clear n0_ n1_ n2_ n3_; clear hb hbox hg) | (have ztk16 := tk16; clear tk16 ztk16; (with_reducible refine gate_callee (f := 34) rfl ?_); refine goesL_ (some 7) rfl rfl Tryd.func34 (by kernel_rfl) rfl #[.string a0] rfl qnp0_ ?_; (with_reducible refine (numeral_blanks.calls k a0 t115 _ A2.out).mono ?_); rintro e w' ⟨rfl, ⟨nd, rfl⟩⟩; refine ⟨_, rfl, ?_⟩; (try (rw [drewN_self w8]; generalize hq_ : World.drewN w8 _ = w8; have n0_ : Aside0 (w8.heap[gb114]? = some (.cells #[.bool false, .string (⟨#[]⟩ : ByteArray), .string (⟨#[]⟩ : ByteArray), .int .i64 0] 55 (0, 0))) := ⟨by rw [← hq_]; exact qnp27_⟩; have n1_ : Aside0 (Below w.heap.size w w8) := ⟨by rw [← hq_]; exact qnp19_⟩; clear BK114 HB hq_; have BK114 := n0_; have HB := n1_; clear n0_ n1_)); (try (have hcu9_0 : w8.cell? ⟨gb114, 0, none⟩ = some (.bool false) := (blk_cell BK114.out 0).trans rfl; have hfu9_0 := blk_frozen BK114.out 0; have hcu9_1 : w8.cell? ⟨gb114, 1, none⟩ = some (.string (⟨#[]⟩ : ByteArray)) := (blk_cell BK114.out 1).trans rfl; have hfu9_1 := blk_frozen BK114.out 1; have hcu9_2 : w8.cell? ⟨gb114, 2, none⟩ = some (.string (⟨#[]⟩ : ByteArray)) := (blk_cell BK114.out 2).trans rfl; have hfu9_2 := blk_frozen BK114.out 2; have hcu9_3 : w8.cell? ⟨gb114, 3, none⟩ = some (.int .i64 0) := (blk_cell BK114.out 3).trans rfl; have hfu9_3 := blk_frozen BK114.out 3)); have p5 : 0 ≤ (t115 : Int) := of_decide_eq_true qnp3_; have q5 : t115 < (a0.size : Int) := of_decide_eq_true qnp3_; have hx5 := bt_at a0 t115; replace p5 := eq_true p5; replace q5 := eq_true q5) | (have ztk17 := tk17; clear tk17 ztk17; (with_reducible refine gate_callee (f := 36) rfl ?_); refine goesL_ (some 23) rfl rfl Tryd.func36 (by kernel_rfl) rfl #[.string a0, .int .i64 (wrap64 (t115 + 1))] rfl qnp0_ ?_; (with_reducible refine (numeral_plain.calls a0 (wrap64 (t115 + 1)) t116 t117 t118 t119 _ A7.out).mono ?_); rintro e w10 ⟨rfl, hb⟩; refine ⟨_, rfl, ?_⟩; have n0_ := Aside0.mk (blk_below (g := gb114) (o := .cells #[.bool false, .string (⟨#[]⟩ : ByteArray), .string (⟨#[]⟩ : ByteArray), .int .i64 0] 55 (0, 0)) qnp27_ hb); have n1_ := Aside0.mk (below_step qnp19_ hb); clear BK114; clear HB; have BK114 := n0_; have HB := n1_; clear n0_ n1_; (try clear hb); (try clear hb2); (try clear hk); (try clear hi)) | (have ztk18 := tk18; clear tk18 ztk18; (with_reducible refine gate_dst (N := 5) rfl ?_); refine box_event ?hg (N := 5) ?hd (cs := #[.bool false, .string (⟨#[]⟩ : ByteArray), .string (⟨#[]⟩ : ByteArray), .int .i64 0]) (t := 55) ?hr ?_; (case hd => rfl); (case hg => rfl); (case hr => first | (go_simp; done) | (go_simp; rfl)); intro gb120 hg w11 hbox hb; have n0_ := Aside0.mk (blk_below (g := gb114) (o := .cells #[.bool false, .string (⟨#[]⟩ : ByteArray), .string (⟨#[]⟩ : ByteArray), .int .i64 0] 55 (0, 0)) qnp27_ hb); have n1_ := Aside0.mk (below_step qnp19_ hb); have n2_ := Aside0.mk (hbox); have n3_ := Aside0.mk ((by rw [hg]; exact (below_size qnp19_) : w.heap.size ≤ gb120)); have n4_ := Aside0.mk ((by rw [hg]; exact (below_size qnp19_) : w.heap.size ≤ gb120)); have n5_ := Aside0.mk ((by rw [hg]; exact Nat.ne_of_lt (blk_lt (g := gb114) (o := .cells #[.bool false, .string (⟨#[]⟩ : ByteArray), .string (⟨#[]⟩ : ByteArray), .int .i64 0] 55 (0, 0)) qnp27_) : gb114 ≠ gb120)); have n6_ := Aside0.mk ((by rw [hg]; exact Nat.ne_of_gt (blk_lt (g := gb114) (o := .cells #[.bool false, .string (⟨#[]⟩ : ByteArray), .string (⟨#[]⟩ : ByteArray), .int .i64 0] 55 (0, 0)) qnp27_) : gb120 ≠ gb114)); clear BK114; clear HB; have BK114 := n0_; have HB := n1_; have BK120 := n2_; have GW120 := n3_; have GE120 := n4_; have NB114_120 := n5_; have NB120_114 := n6_; clear n0_ n1_ n2_ n3_ n4_ n5_ n6_; clear hb hbox hg; have hnb12 := NB120_114.out; have hnc12 := NB114_120.out; have hcz13_0 : w11.cell? ⟨gb120, 0, none⟩ = some (.bool false) := (blk_cell BK120.out 0).trans rfl; have hcz13_1 : w11.cell? ⟨gb120, 1, none⟩ = some (.string (⟨#[]⟩ : ByteArray)) := (blk_cell BK120.out 1).trans rfl; have hcz13_2 : w11.cell? ⟨gb120, 2, none⟩ = some (.string (⟨#[]⟩ : ByteArray)) := (blk_cell BK120.out 2).trans rfl; have hcz13_3 : w11.cell? ⟨gb120, 3, none⟩ = some (.int .i64 0) := (blk_cell BK120.out 3).trans rfl; have hfz13_0 := blk_frozen BK120.out 0; have hfz13_1 := blk_frozen BK120.out 1; have hfz13_2 := blk_frozen BK120.out 2; have hfz13_3 := blk_frozen BK120.out 3; have hcz14_0 : w11.cell? ⟨gb114, 0, none⟩ = some (.bool false) := (blk_cell BK114.out 0).trans rfl; have hcz14_1 : w11.cell? ⟨gb114, 1, none⟩ = some (.string (⟨#[]⟩ : ByteArray)) := (blk_cell BK114.out 1).trans rfl; have hcz14_2 : w11.cell? ⟨gb114, 2, none⟩ = some (.string (⟨#[]⟩ : ByteArray)) := (blk_cell BK114.out 2).trans rfl; have hcz14_3 : w11.cell? ⟨gb114, 3, none⟩ = some (.int .i64 0) := (blk_cell BK114.out 3).trans rfl; have hfz14_0 := blk_frozen BK114.out 0; have hfz14_1 := blk_frozen BK114.out 1; have hfz14_2 := blk_frozen BK114.out 2; have hfz14_3 := blk_frozen BK114.out 3))
    refine bodyPost_ret (results_cell_row rfl _ _ gb114 55 #[.bool (decide (t119 > 0)), .string t117, .string t118, .int .i64 t119] (0, 0) _ rfl (by (with_reducible repeat (first | refine blk_drewN ?_ _ | refine blk_drew ?_ | refine blk_alloc ?_ _)); refine blk_put (cs := #[.bool (decide (t119 > 0)), .string t117, .string t118, .int .i64 0]) ?_ 3 _ rfl; (with_reducible repeat (first | refine blk_drewN ?_ _ | refine blk_drew ?_ | refine blk_alloc ?_ _)); refine blk_put (cs := #[.bool (decide (t119 > 0)), .string t117, .string (⟨#[]⟩ : ByteArray), .int .i64 0]) ?_ 2 _ rfl; (with_reducible repeat (first | refine blk_drewN ?_ _ | refine blk_drew ?_ | refine blk_alloc ?_ _)); refine blk_put (cs := #[.bool (decide (t119 > 0)), .string (⟨#[]⟩ : ByteArray), .string (⟨#[]⟩ : ByteArray), .int .i64 0]) ?_ 1 _ rfl; (with_reducible repeat (first | refine blk_drewN ?_ _ | refine blk_drew ?_ | refine blk_alloc ?_ _)); refine blk_put (cs := #[.bool false, .string (⟨#[]⟩ : ByteArray), .string (⟨#[]⟩ : ByteArray), .int .i64 0]) ?_ 0 _ rfl; (with_reducible repeat (first | refine blk_drewN ?_ _ | refine blk_drew ?_ | refine blk_alloc ?_ _)); refine blk_far ?_ NB114_120.out _; (with_reducible repeat (first | refine blk_drewN ?_ _ | refine blk_drew ?_ | refine blk_alloc ?_ _)); refine blk_far ?_ NB114_120.out _; (with_reducible repeat (first | refine blk_drewN ?_ _ | refine blk_drew ?_ | refine blk_alloc ?_ _)); refine blk_far ?_ NB114_120.out _; (with_reducible repeat (first | refine blk_drewN ?_ _ | refine blk_drew ?_ | refine blk_alloc ?_ _)); refine blk_far ?_ NB114_120.out _; (with_reducible repeat (first | refine blk_drewN ?_ _ | refine blk_drew ?_ | refine blk_alloc ?_ _)); refine blk_far ?_ NB114_120.out _; (with_reducible repeat (first | refine blk_drewN ?_ _ | refine blk_drew ?_ | refine blk_alloc ?_ _)); exact BK114.out) Tryd.underlying55 rfl (by kernel_rfl)) rfl ?_
    exact ⟨qnp5_, by repeat (first | (with_reducible first | exact HB.out | apply below_alloc | apply pw_below_drewN | apply below_drew1 | refine below_set ?_ GE114.out | refine below_set ?_ GE120.out) | exact HB.out)⟩
   ·
    rw [if_neg c6] at H
    have c6b0 : ((bt a0 t115) == 45) = false := beq_eq_false_iff_ne.mpr c6
    have c6b1 : ((bt a0 t115) != 45) = true := bne_iff_ne.mpr c6
    replace H := Option.bind_eq_some_iff.mp H
    obtain ⟨⟨t121, t122, t123, t124⟩, A190, H⟩ := H
    replace H : (some (false, t122, t123, t124)) = some (r1, r2, r3, r4) := H
    have A19 := Aside0.mk A190
    clear A190
    simp only [Option.some.injEq, Prod.mk.injEq] at H
    obtain ⟨rfl, rfl, rfl, rfl⟩ := H
    go_enter Tryd.func33, Tryd.ntmps33
    have tk27 : True := trivial; have tk28 : True := trivial; have tk29 : True := trivial; have tk30 : True := trivial
    go_wp2_with (first | (have ztk27 := tk27; clear tk27 ztk27; (with_reducible refine gate_dst (N := 2) rfl ?_); refine box_event ?hg (N := 2) ?hd (cs := #[.bool false, .string (⟨#[]⟩ : ByteArray), .string (⟨#[]⟩ : ByteArray), .int .i64 0]) (t := 55) ?hr ?_; (case hd => rfl); (case hg => rfl); (case hr => first | (go_simp; done) | (go_simp; rfl)); intro gb114 hg w20 hbox hb; have n0_ := Aside0.mk (below_step qnp1_ hb); have n1_ := Aside0.mk (hbox); have n2_ := Aside0.mk ((by rw [hg]; exact (below_size qnp1_) : w.heap.size ≤ gb114)); have n3_ := Aside0.mk ((by rw [hg]; exact (below_size qnp1_) : w.heap.size ≤ gb114)); clear HB; have HB := n0_; have BK114 := n1_; have GW114 := n2_; have GE114 := n3_; clear n0_ n1_ n2_ n3_; clear hb hbox hg) | (have ztk28 := tk28; clear tk28 ztk28; (with_reducible refine gate_callee (f := 34) rfl ?_); refine goesL_ (some 7) rfl rfl Tryd.func34 (by kernel_rfl) rfl #[.string a0] rfl qnp0_ ?_; (with_reducible refine (numeral_blanks.calls k a0 t115 _ A2.out).mono ?_); rintro e w' ⟨rfl, ⟨nd, rfl⟩⟩; refine ⟨_, rfl, ?_⟩; (try (rw [drewN_self w20]; generalize hq_ : World.drewN w20 _ = w20; have n0_ : Aside0 (w20.heap[gb114]? = some (.cells #[.bool false, .string (⟨#[]⟩ : ByteArray), .string (⟨#[]⟩ : ByteArray), .int .i64 0] 55 (0, 0))) := ⟨by rw [← hq_]; exact qnp27_⟩; have n1_ : Aside0 (Below w.heap.size w w20) := ⟨by rw [← hq_]; exact qnp19_⟩; clear BK114 HB hq_; have BK114 := n0_; have HB := n1_; clear n0_ n1_)); (try (have hcu21_0 : w20.cell? ⟨gb114, 0, none⟩ = some (.bool false) := (blk_cell BK114.out 0).trans rfl; have hfu21_0 := blk_frozen BK114.out 0; have hcu21_1 : w20.cell? ⟨gb114, 1, none⟩ = some (.string (⟨#[]⟩ : ByteArray)) := (blk_cell BK114.out 1).trans rfl; have hfu21_1 := blk_frozen BK114.out 1; have hcu21_2 : w20.cell? ⟨gb114, 2, none⟩ = some (.string (⟨#[]⟩ : ByteArray)) := (blk_cell BK114.out 2).trans rfl; have hfu21_2 := blk_frozen BK114.out 2; have hcu21_3 : w20.cell? ⟨gb114, 3, none⟩ = some (.int .i64 0) := (blk_cell BK114.out 3).trans rfl; have hfu21_3 := blk_frozen BK114.out 3)); have p5 : 0 ≤ (t115 : Int) := of_decide_eq_true qnp3_; have q5 : t115 < (a0.size : Int) := of_decide_eq_true qnp3_; have hx5 := bt_at a0 t115; replace p5 := eq_true p5; replace q5 := eq_true q5) | (have ztk29 := tk29; clear tk29 ztk29; (with_reducible refine gate_callee (f := 36) rfl ?_); refine goesL_ (some 23) rfl rfl Tryd.func36 (by kernel_rfl) rfl #[.string a0, .int .i64 t115] rfl qnp0_ ?_; (with_reducible refine (numeral_plain.calls a0 t115 t121 t122 t123 t124 _ A19.out).mono ?_); rintro e w22 ⟨rfl, hb⟩; refine ⟨_, rfl, ?_⟩; have n0_ := Aside0.mk (blk_below (g := gb114) (o := .cells #[.bool false, .string (⟨#[]⟩ : ByteArray), .string (⟨#[]⟩ : ByteArray), .int .i64 0] 55 (0, 0)) qnp27_ hb); have n1_ := Aside0.mk (below_step qnp19_ hb); clear BK114; clear HB; have BK114 := n0_; have HB := n1_; clear n0_ n1_; (try clear hb); (try clear hb2); (try clear hk); (try clear hi)) | (have ztk30 := tk30; clear tk30 ztk30; (with_reducible refine gate_dst (N := 5) rfl ?_); refine box_event ?hg (N := 5) ?hd (cs := #[.bool false, .string (⟨#[]⟩ : ByteArray), .string (⟨#[]⟩ : ByteArray), .int .i64 0]) (t := 55) ?hr ?_; (case hd => rfl); (case hg => rfl); (case hr => first | (go_simp; done) | (go_simp; rfl)); intro gb125 hg w23 hbox hb; have n0_ := Aside0.mk (blk_below (g := gb114) (o := .cells #[.bool false, .string (⟨#[]⟩ : ByteArray), .string (⟨#[]⟩ : ByteArray), .int .i64 0] 55 (0, 0)) qnp27_ hb); have n1_ := Aside0.mk (below_step qnp19_ hb); have n2_ := Aside0.mk (hbox); have n3_ := Aside0.mk ((by rw [hg]; exact (below_size qnp19_) : w.heap.size ≤ gb125)); have n4_ := Aside0.mk ((by rw [hg]; exact (below_size qnp19_) : w.heap.size ≤ gb125)); have n5_ := Aside0.mk ((by rw [hg]; exact Nat.ne_of_lt (blk_lt (g := gb114) (o := .cells #[.bool false, .string (⟨#[]⟩ : ByteArray), .string (⟨#[]⟩ : ByteArray), .int .i64 0] 55 (0, 0)) qnp27_) : gb114 ≠ gb125)); have n6_ := Aside0.mk ((by rw [hg]; exact Nat.ne_of_gt (blk_lt (g := gb114) (o := .cells #[.bool false, .string (⟨#[]⟩ : ByteArray), .string (⟨#[]⟩ : ByteArray), .int .i64 0] 55 (0, 0)) qnp27_) : gb125 ≠ gb114)); clear BK114; clear HB; have BK114 := n0_; have HB := n1_; have BK125 := n2_; have GW125 := n3_; have GE125 := n4_; have NB114_125 := n5_; have NB125_114 := n6_; clear n0_ n1_ n2_ n3_ n4_ n5_ n6_; clear hb hbox hg; have hnb24 := NB125_114.out; have hnc24 := NB114_125.out; have hcz25_0 : w23.cell? ⟨gb125, 0, none⟩ = some (.bool false) := (blk_cell BK125.out 0).trans rfl; have hcz25_1 : w23.cell? ⟨gb125, 1, none⟩ = some (.string (⟨#[]⟩ : ByteArray)) := (blk_cell BK125.out 1).trans rfl; have hcz25_2 : w23.cell? ⟨gb125, 2, none⟩ = some (.string (⟨#[]⟩ : ByteArray)) := (blk_cell BK125.out 2).trans rfl; have hcz25_3 : w23.cell? ⟨gb125, 3, none⟩ = some (.int .i64 0) := (blk_cell BK125.out 3).trans rfl; have hfz25_0 := blk_frozen BK125.out 0; have hfz25_1 := blk_frozen BK125.out 1; have hfz25_2 := blk_frozen BK125.out 2; have hfz25_3 := blk_frozen BK125.out 3; have hcz26_0 : w23.cell? ⟨gb114, 0, none⟩ = some (.bool false) := (blk_cell BK114.out 0).trans rfl; have hcz26_1 : w23.cell? ⟨gb114, 1, none⟩ = some (.string (⟨#[]⟩ : ByteArray)) := (blk_cell BK114.out 1).trans rfl; have hcz26_2 : w23.cell? ⟨gb114, 2, none⟩ = some (.string (⟨#[]⟩ : ByteArray)) := (blk_cell BK114.out 2).trans rfl; have hcz26_3 : w23.cell? ⟨gb114, 3, none⟩ = some (.int .i64 0) := (blk_cell BK114.out 3).trans rfl; have hfz26_0 := blk_frozen BK114.out 0; have hfz26_1 := blk_frozen BK114.out 1; have hfz26_2 := blk_frozen BK114.out 2; have hfz26_3 := blk_frozen BK114.out 3))
    refine bodyPost_ret (results_cell_row rfl _ _ gb114 55 #[.bool false, .string t122, .string t123, .int .i64 t124] (0, 0) _ rfl (by (with_reducible repeat (first | refine blk_drewN ?_ _ | refine blk_drew ?_ | refine blk_alloc ?_ _)); refine blk_put (cs := #[.bool false, .string t122, .string t123, .int .i64 0]) ?_ 3 _ rfl; (with_reducible repeat (first | refine blk_drewN ?_ _ | refine blk_drew ?_ | refine blk_alloc ?_ _)); refine blk_put (cs := #[.bool false, .string t122, .string (⟨#[]⟩ : ByteArray), .int .i64 0]) ?_ 2 _ rfl; (with_reducible repeat (first | refine blk_drewN ?_ _ | refine blk_drew ?_ | refine blk_alloc ?_ _)); refine blk_put (cs := #[.bool false, .string (⟨#[]⟩ : ByteArray), .string (⟨#[]⟩ : ByteArray), .int .i64 0]) ?_ 1 _ rfl; (with_reducible repeat (first | refine blk_drewN ?_ _ | refine blk_drew ?_ | refine blk_alloc ?_ _)); refine blk_put (cs := #[.bool false, .string (⟨#[]⟩ : ByteArray), .string (⟨#[]⟩ : ByteArray), .int .i64 0]) ?_ 0 _ rfl; (with_reducible repeat (first | refine blk_drewN ?_ _ | refine blk_drew ?_ | refine blk_alloc ?_ _)); refine blk_far ?_ NB114_125.out _; (with_reducible repeat (first | refine blk_drewN ?_ _ | refine blk_drew ?_ | refine blk_alloc ?_ _)); refine blk_far ?_ NB114_125.out _; (with_reducible repeat (first | refine blk_drewN ?_ _ | refine blk_drew ?_ | refine blk_alloc ?_ _)); refine blk_far ?_ NB114_125.out _; (with_reducible repeat (first | refine blk_drewN ?_ _ | refine blk_drew ?_ | refine blk_alloc ?_ _)); refine blk_far ?_ NB114_125.out _; (with_reducible repeat (first | refine blk_drewN ?_ _ | refine blk_drew ?_ | refine blk_alloc ?_ _)); refine blk_far ?_ NB114_125.out _; (with_reducible repeat (first | refine blk_drewN ?_ _ | refine blk_drew ?_ | refine blk_alloc ?_ _)); exact BK114.out) Tryd.underlying55 rfl (by kernel_rfl)) rfl ?_
    exact ⟨qnp5_, by repeat (first | (with_reducible first | exact HB.out | apply below_alloc | apply pw_below_drewN | apply below_drew1 | refine below_set ?_ GE114.out | refine below_set ?_ GE125.out) | exact HB.out)⟩
  ·
   rw [if_neg c4] at H
   exact absurd H (by simp)
 ·
  rw [if_neg c3] at H
  have c3b0 : decide (t115 < (a0.size : Int)) = false := decide_eq_false c3
  clear c3
  replace H := Option.bind_eq_some_iff.mp H
  obtain ⟨⟨t126, t127, t128, t129⟩, A310, H⟩ := H
  replace H : (some (false, t127, t128, t129)) = some (r1, r2, r3, r4) := H
  have A31 := Aside0.mk A310
  clear A310
  simp only [Option.some.injEq, Prod.mk.injEq] at H
  obtain ⟨rfl, rfl, rfl, rfl⟩ := H
  go_enter Tryd.func33, Tryd.ntmps33
  have tk39 : True := trivial; have tk40 : True := trivial; have tk41 : True := trivial; have tk42 : True := trivial
  go_wp2_with (first | (have ztk39 := tk39; clear tk39 ztk39; (with_reducible refine gate_dst (N := 2) rfl ?_); refine box_event ?hg (N := 2) ?hd (cs := #[.bool false, .string (⟨#[]⟩ : ByteArray), .string (⟨#[]⟩ : ByteArray), .int .i64 0]) (t := 55) ?hr ?_; (case hd => rfl); (case hg => rfl); (case hr => first | (go_simp; done) | (go_simp; rfl)); intro gb114 hg w32 hbox hb; have n0_ := Aside0.mk (below_step qnp1_ hb); have n1_ := Aside0.mk (hbox); have n2_ := Aside0.mk ((by rw [hg]; exact (below_size qnp1_) : w.heap.size ≤ gb114)); have n3_ := Aside0.mk ((by rw [hg]; exact (below_size qnp1_) : w.heap.size ≤ gb114)); clear HB; have HB := n0_; have BK114 := n1_; have GW114 := n2_; have GE114 := n3_; clear n0_ n1_ n2_ n3_; clear hb hbox hg) | (have ztk40 := tk40; clear tk40 ztk40; (with_reducible refine gate_callee (f := 34) rfl ?_); refine goesL_ (some 7) rfl rfl Tryd.func34 (by kernel_rfl) rfl #[.string a0] rfl qnp0_ ?_; (with_reducible refine (numeral_blanks.calls k a0 t115 _ A2.out).mono ?_); rintro e w' ⟨rfl, ⟨nd, rfl⟩⟩; refine ⟨_, rfl, ?_⟩; (try (rw [drewN_self w32]; generalize hq_ : World.drewN w32 _ = w32; have n0_ : Aside0 (w32.heap[gb114]? = some (.cells #[.bool false, .string (⟨#[]⟩ : ByteArray), .string (⟨#[]⟩ : ByteArray), .int .i64 0] 55 (0, 0))) := ⟨by rw [← hq_]; exact qnp27_⟩; have n1_ : Aside0 (Below w.heap.size w w32) := ⟨by rw [← hq_]; exact qnp19_⟩; clear BK114 HB hq_; have BK114 := n0_; have HB := n1_; clear n0_ n1_)); (try (have hcu33_0 : w32.cell? ⟨gb114, 0, none⟩ = some (.bool false) := (blk_cell BK114.out 0).trans rfl; have hfu33_0 := blk_frozen BK114.out 0; have hcu33_1 : w32.cell? ⟨gb114, 1, none⟩ = some (.string (⟨#[]⟩ : ByteArray)) := (blk_cell BK114.out 1).trans rfl; have hfu33_1 := blk_frozen BK114.out 1; have hcu33_2 : w32.cell? ⟨gb114, 2, none⟩ = some (.string (⟨#[]⟩ : ByteArray)) := (blk_cell BK114.out 2).trans rfl; have hfu33_2 := blk_frozen BK114.out 2; have hcu33_3 : w32.cell? ⟨gb114, 3, none⟩ = some (.int .i64 0) := (blk_cell BK114.out 3).trans rfl; have hfu33_3 := blk_frozen BK114.out 3))) | (have ztk41 := tk41; clear tk41 ztk41; (with_reducible refine gate_callee (f := 36) rfl ?_); refine goesL_ (some 23) rfl rfl Tryd.func36 (by kernel_rfl) rfl #[.string a0, .int .i64 t115] rfl qnp0_ ?_; (with_reducible refine (numeral_plain.calls a0 t115 t126 t127 t128 t129 _ A31.out).mono ?_); rintro e w34 ⟨rfl, hb⟩; refine ⟨_, rfl, ?_⟩; have n0_ := Aside0.mk (blk_below (g := gb114) (o := .cells #[.bool false, .string (⟨#[]⟩ : ByteArray), .string (⟨#[]⟩ : ByteArray), .int .i64 0] 55 (0, 0)) qnp27_ hb); have n1_ := Aside0.mk (below_step qnp19_ hb); clear BK114; clear HB; have BK114 := n0_; have HB := n1_; clear n0_ n1_; (try clear hb); (try clear hb2); (try clear hk); (try clear hi)) | (have ztk42 := tk42; clear tk42 ztk42; (with_reducible refine gate_dst (N := 5) rfl ?_); refine box_event ?hg (N := 5) ?hd (cs := #[.bool false, .string (⟨#[]⟩ : ByteArray), .string (⟨#[]⟩ : ByteArray), .int .i64 0]) (t := 55) ?hr ?_; (case hd => rfl); (case hg => rfl); (case hr => first | (go_simp; done) | (go_simp; rfl)); intro gb130 hg w35 hbox hb; have n0_ := Aside0.mk (blk_below (g := gb114) (o := .cells #[.bool false, .string (⟨#[]⟩ : ByteArray), .string (⟨#[]⟩ : ByteArray), .int .i64 0] 55 (0, 0)) qnp27_ hb); have n1_ := Aside0.mk (below_step qnp19_ hb); have n2_ := Aside0.mk (hbox); have n3_ := Aside0.mk ((by rw [hg]; exact (below_size qnp19_) : w.heap.size ≤ gb130)); have n4_ := Aside0.mk ((by rw [hg]; exact (below_size qnp19_) : w.heap.size ≤ gb130)); have n5_ := Aside0.mk ((by rw [hg]; exact Nat.ne_of_lt (blk_lt (g := gb114) (o := .cells #[.bool false, .string (⟨#[]⟩ : ByteArray), .string (⟨#[]⟩ : ByteArray), .int .i64 0] 55 (0, 0)) qnp27_) : gb114 ≠ gb130)); have n6_ := Aside0.mk ((by rw [hg]; exact Nat.ne_of_gt (blk_lt (g := gb114) (o := .cells #[.bool false, .string (⟨#[]⟩ : ByteArray), .string (⟨#[]⟩ : ByteArray), .int .i64 0] 55 (0, 0)) qnp27_) : gb130 ≠ gb114)); clear BK114; clear HB; have BK114 := n0_; have HB := n1_; have BK130 := n2_; have GW130 := n3_; have GE130 := n4_; have NB114_130 := n5_; have NB130_114 := n6_; clear n0_ n1_ n2_ n3_ n4_ n5_ n6_; clear hb hbox hg; have hnb36 := NB130_114.out; have hnc36 := NB114_130.out; have hcz37_0 : w35.cell? ⟨gb130, 0, none⟩ = some (.bool false) := (blk_cell BK130.out 0).trans rfl; have hcz37_1 : w35.cell? ⟨gb130, 1, none⟩ = some (.string (⟨#[]⟩ : ByteArray)) := (blk_cell BK130.out 1).trans rfl; have hcz37_2 : w35.cell? ⟨gb130, 2, none⟩ = some (.string (⟨#[]⟩ : ByteArray)) := (blk_cell BK130.out 2).trans rfl; have hcz37_3 : w35.cell? ⟨gb130, 3, none⟩ = some (.int .i64 0) := (blk_cell BK130.out 3).trans rfl; have hfz37_0 := blk_frozen BK130.out 0; have hfz37_1 := blk_frozen BK130.out 1; have hfz37_2 := blk_frozen BK130.out 2; have hfz37_3 := blk_frozen BK130.out 3; have hcz38_0 : w35.cell? ⟨gb114, 0, none⟩ = some (.bool false) := (blk_cell BK114.out 0).trans rfl; have hcz38_1 : w35.cell? ⟨gb114, 1, none⟩ = some (.string (⟨#[]⟩ : ByteArray)) := (blk_cell BK114.out 1).trans rfl; have hcz38_2 : w35.cell? ⟨gb114, 2, none⟩ = some (.string (⟨#[]⟩ : ByteArray)) := (blk_cell BK114.out 2).trans rfl; have hcz38_3 : w35.cell? ⟨gb114, 3, none⟩ = some (.int .i64 0) := (blk_cell BK114.out 3).trans rfl; have hfz38_0 := blk_frozen BK114.out 0; have hfz38_1 := blk_frozen BK114.out 1; have hfz38_2 := blk_frozen BK114.out 2; have hfz38_3 := blk_frozen BK114.out 3))
  refine bodyPost_ret (results_cell_row rfl _ _ gb114 55 #[.bool false, .string t127, .string t128, .int .i64 t129] (0, 0) _ rfl (by (with_reducible repeat (first | refine blk_drewN ?_ _ | refine blk_drew ?_ | refine blk_alloc ?_ _)); refine blk_put (cs := #[.bool false, .string t127, .string t128, .int .i64 0]) ?_ 3 _ rfl; (with_reducible repeat (first | refine blk_drewN ?_ _ | refine blk_drew ?_ | refine blk_alloc ?_ _)); refine blk_put (cs := #[.bool false, .string t127, .string (⟨#[]⟩ : ByteArray), .int .i64 0]) ?_ 2 _ rfl; (with_reducible repeat (first | refine blk_drewN ?_ _ | refine blk_drew ?_ | refine blk_alloc ?_ _)); refine blk_put (cs := #[.bool false, .string (⟨#[]⟩ : ByteArray), .string (⟨#[]⟩ : ByteArray), .int .i64 0]) ?_ 1 _ rfl; (with_reducible repeat (first | refine blk_drewN ?_ _ | refine blk_drew ?_ | refine blk_alloc ?_ _)); refine blk_put (cs := #[.bool false, .string (⟨#[]⟩ : ByteArray), .string (⟨#[]⟩ : ByteArray), .int .i64 0]) ?_ 0 _ rfl; (with_reducible repeat (first | refine blk_drewN ?_ _ | refine blk_drew ?_ | refine blk_alloc ?_ _)); refine blk_far ?_ NB114_130.out _; (with_reducible repeat (first | refine blk_drewN ?_ _ | refine blk_drew ?_ | refine blk_alloc ?_ _)); refine blk_far ?_ NB114_130.out _; (with_reducible repeat (first | refine blk_drewN ?_ _ | refine blk_drew ?_ | refine blk_alloc ?_ _)); refine blk_far ?_ NB114_130.out _; (with_reducible repeat (first | refine blk_drewN ?_ _ | refine blk_drew ?_ | refine blk_alloc ?_ _)); refine blk_far ?_ NB114_130.out _; (with_reducible repeat (first | refine blk_drewN ?_ _ | refine blk_drew ?_ | refine blk_alloc ?_ _)); refine blk_far ?_ NB114_130.out _; (with_reducible repeat (first | refine blk_drewN ?_ _ | refine blk_drew ?_ | refine blk_alloc ?_ _)); exact BK114.out) Tryd.underlying55 rfl (by kernel_rfl)) rfl ?_
  exact ⟨qnp5_, by repeat (first | (with_reducible first | exact HB.out | apply below_alloc | apply pw_below_drewN | apply below_drew1 | refine below_set ?_ GE114.out | refine below_set ?_ GE130.out) | exact HB.out)⟩


/-! ### numeral_Decimal: function 16 -/
def numeral_Decimal.f (k : Nat) (a0 : ByteArray) : Option (Bool × ByteArray × ByteArray × Int) := (numeral_signed.f k a0).bind fun bt132 => ((numeral_decimal.f k bt132.1 bt132.2.1 bt132.2.2.1 bt132.2.2.2).bind fun bt136 => (some (bt136.1, bt136.2.1, bt136.2.2.1, bt136.2.2.2)))
set_option maxHeartbeats 8000000 in
set_option maxRecDepth 100000 in
theorem numeral_Decimal.calls (k : Nat) (a0 : ByteArray) (r1 : Bool) (r2 : ByteArray) (r3 : ByteArray) (r4 : Int) (w : World) (h : numeral_Decimal.f k a0 = some (r1, r2, r3, r4)) :
  Calls Tryd.prog 16 #[.string a0] w fun e w' => e = .returned (.agg #[.bool r1, .string r2, .string r3, .int .i64 r4]) ∧ Below w.heap.size w w' := by
 have hu25 := Tryd.underlying25
 have HB := Aside0.mk (Below.refl w.heap.size w)
 have H : ((numeral_signed.f k a0).bind fun bt132 => ((numeral_decimal.f k bt132.1 bt132.2.1 bt132.2.2.1 bt132.2.2.2).bind fun bt136 => (some (bt136.1, bt136.2.1, bt136.2.2.1, bt136.2.2.2)))) = some (r1, r2, r3, r4) := h
 clear h
 replace H := Option.bind_eq_some_iff.mp H
 obtain ⟨⟨t132, t133, t134, t135⟩, A20, H⟩ := H
 replace H : ((numeral_decimal.f k t132 t133 t134 t135).bind fun bt136 => (some (bt136.1, bt136.2.1, bt136.2.2.1, bt136.2.2.2))) = some (r1, r2, r3, r4) := H
 have A2 := Aside0.mk A20
 clear A20
 replace H := Option.bind_eq_some_iff.mp H
 obtain ⟨⟨t136, t137, t138, t139⟩, A30, H⟩ := H
 replace H : (some (t136, t137, t138, t139)) = some (r1, r2, r3, r4) := H
 have A3 := Aside0.mk A30
 clear A30
 simp only [Option.some.injEq, Prod.mk.injEq] at H
 obtain ⟨rfl, rfl, rfl, rfl⟩ := H
 go_enter Tryd.func16, Tryd.ntmps16
 have tk8 : True := trivial; have tk9 : True := trivial; have tk10 : True := trivial
 go_wp2_with (first | (have ztk8 := tk8; clear tk8 ztk8; (with_reducible refine gate_dst (N := 2) rfl ?_); refine box_event ?hg (N := 2) ?hd (cs := #[.bool false, .string (⟨#[]⟩ : ByteArray), .string (⟨#[]⟩ : ByteArray), .int .i64 0]) (t := 25) ?hr ?_; (case hd => rfl); (case hg => rfl); (case hr => first | (go_simp; done) | (go_simp; rfl)); intro gb131 hg w4 hbox hb; have n0_ := Aside0.mk (below_step qnp1_ hb); have n1_ := Aside0.mk (hbox); have n2_ := Aside0.mk ((by rw [hg]; exact (below_size qnp1_) : w.heap.size ≤ gb131)); have n3_ := Aside0.mk ((by rw [hg]; exact (below_size qnp1_) : w.heap.size ≤ gb131)); clear HB; have HB := n0_; have BK131 := n1_; have GW131 := n2_; have GE131 := n3_; clear n0_ n1_ n2_ n3_; clear hb hbox hg) | (have ztk9 := tk9; clear tk9 ztk9; (with_reducible refine gate_callee (f := 33) rfl ?_); refine goesL_ (some 4) rfl rfl Tryd.func33 (by kernel_rfl) rfl #[.string a0] rfl qnp0_ ?_; (with_reducible refine (numeral_signed.calls k a0 t132 t133 t134 t135 _ A2.out).mono ?_); rintro e w5 ⟨rfl, hb⟩; refine ⟨_, rfl, ?_⟩; have n0_ := Aside0.mk (blk_below (g := gb131) (o := .cells #[.bool false, .string (⟨#[]⟩ : ByteArray), .string (⟨#[]⟩ : ByteArray), .int .i64 0] 25 (0, 0)) (by (with_reducible repeat (first | refine blk_drewN ?_ _ | refine blk_drew ?_ | refine blk_alloc ?_ _)); exact BK131.out) hb); have n1_ := Aside0.mk (below_step qnp71_ hb); clear BK131; clear HB; have BK131 := n0_; have HB := n1_; clear n0_ n1_; (try clear hb); (try clear hb2); (try clear hk); (try clear hi)) | (have ztk10 := tk10; clear tk10 ztk10; (with_reducible refine gate_callee (f := 32) rfl ?_); refine goesL_ (some 5) rfl rfl Tryd.func32 (by kernel_rfl) rfl #[.agg #[.bool t132, .string t133, .string t134, .int .i64 t135]] rfl qnp0_ ?_; (with_reducible refine (numeral_decimal.calls k t132 t133 t134 t135 t136 t137 t138 t139 _ A3.out).mono ?_); rintro e w6 ⟨rfl, hb⟩; refine ⟨_, rfl, ?_⟩; have n0_ := Aside0.mk (blk_below (g := gb131) (o := .cells #[.bool false, .string (⟨#[]⟩ : ByteArray), .string (⟨#[]⟩ : ByteArray), .int .i64 0] 25 (0, 0)) (by (with_reducible repeat (first | refine blk_drewN ?_ _ | refine blk_drew ?_ | refine blk_alloc ?_ _)); exact BK131.out) hb); have n1_ := Aside0.mk (below_step qnp71_ hb); clear BK131; clear HB; have BK131 := n0_; have HB := n1_; clear n0_ n1_; (try clear hb); (try clear hb2); (try clear hk); (try clear hi); have hcz7_0 : w6.cell? ⟨gb131, 0, none⟩ = some (.bool false) := (blk_cell BK131.out 0).trans rfl; have hcz7_1 : w6.cell? ⟨gb131, 1, none⟩ = some (.string (⟨#[]⟩ : ByteArray)) := (blk_cell BK131.out 1).trans rfl; have hcz7_2 : w6.cell? ⟨gb131, 2, none⟩ = some (.string (⟨#[]⟩ : ByteArray)) := (blk_cell BK131.out 2).trans rfl; have hcz7_3 : w6.cell? ⟨gb131, 3, none⟩ = some (.int .i64 0) := (blk_cell BK131.out 3).trans rfl; have hfz7_0 := blk_frozen BK131.out 0; have hfz7_1 := blk_frozen BK131.out 1; have hfz7_2 := blk_frozen BK131.out 2; have hfz7_3 := blk_frozen BK131.out 3))
 refine bodyPost_ret (results_cell_row rfl _ _ gb131 25 #[.bool t136, .string t137, .string t138, .int .i64 t139] (0, 0) _ rfl (by (with_reducible repeat (first | refine blk_drewN ?_ _ | refine blk_drew ?_ | refine blk_alloc ?_ _)); refine blk_put (cs := #[.bool t136, .string t137, .string t138, .int .i64 0]) ?_ 3 _ rfl; (with_reducible repeat (first | refine blk_drewN ?_ _ | refine blk_drew ?_ | refine blk_alloc ?_ _)); refine blk_put (cs := #[.bool t136, .string t137, .string (⟨#[]⟩ : ByteArray), .int .i64 0]) ?_ 2 _ rfl; (with_reducible repeat (first | refine blk_drewN ?_ _ | refine blk_drew ?_ | refine blk_alloc ?_ _)); refine blk_put (cs := #[.bool t136, .string (⟨#[]⟩ : ByteArray), .string (⟨#[]⟩ : ByteArray), .int .i64 0]) ?_ 1 _ rfl; (with_reducible repeat (first | refine blk_drewN ?_ _ | refine blk_drew ?_ | refine blk_alloc ?_ _)); refine blk_put (cs := #[.bool false, .string (⟨#[]⟩ : ByteArray), .string (⟨#[]⟩ : ByteArray), .int .i64 0]) ?_ 0 _ rfl; (with_reducible repeat (first | refine blk_drewN ?_ _ | refine blk_drew ?_ | refine blk_alloc ?_ _)); exact BK131.out) Tryd.underlying25 rfl (by kernel_rfl)) rfl ?_
 exact ⟨qnp5_, qnp71_⟩


/-! ### stringslite_IndexByte: function 69 (by hand) -/
def stringslite_IndexByte.f (a0 : ByteArray) (a1 : Int) : Option (Int) := some (Lib.indexByte a0.data.toList a1.toNat.toUInt8)
set_option maxHeartbeats 1000000 in
set_option maxRecDepth 100000 in
theorem stringslite_IndexByte.calls (a0 : ByteArray) (a1 : Int) (r : Int) (w : World) (h : stringslite_IndexByte.f a0 a1 = some r) :
    Calls Tryd.prog 69 #[.string a0, .int .u8 a1] w fun e w' => e = .returned (.int .i64 r) ∧ Drawn0 w w' := by
  obtain rfl := Option.some.inj h
  clear h
  go_enter Tryd.func69, Tryd.ntmps69
  go_wp2
  rw [run_callFunc_extern Tryd.func95 (by kernel_rfl) (by kernel_rfl) (by kernel_rfl) (e := Extern.BytealgIndexByte.indexByte) (by kernel_rfl), Lib.run_indexByteString]
  simp only [Result.andThen]
  rw [Oper.upon_value]
  go_wp2
  go_ret
  exact ⟨rfl, Drawn0.refl _⟩


/-! ### strings_IndexByte: function 39 -/
def strings_IndexByte.f (a0 : ByteArray) (a1 : Int) : Option (Int) := (stringslite_IndexByte.f a0 a1).bind fun t186 => (some t186)
set_option maxHeartbeats 8000000 in
set_option maxRecDepth 100000 in
theorem strings_IndexByte.calls (a0 : ByteArray) (a1 : Int) (r : Int) (w : World) (h : strings_IndexByte.f a0 a1 = some r) :
  Calls Tryd.prog 39 #[.string a0, .int .u8 a1] w fun e w' => e = .returned (.int .i64 r) ∧ Drawn0 w w' := by
 have H : ((stringslite_IndexByte.f a0 a1).bind fun t186 => (some t186)) = some r := h
 clear h
 replace H := Option.bind_eq_some_iff.mp H
 obtain ⟨t186, A30, H⟩ := H
 replace H : (some t186) = some r := H
 have A3 := Aside0.mk A30
 clear A30
 obtain rfl := Option.some.inj H
 go_enter Tryd.func39, Tryd.ntmps39
 go_wp2_with (first | ((with_reducible refine gate_callee (f := 69) rfl ?_); refine goesL_ (some 7) rfl rfl Tryd.func69 (by kernel_rfl) rfl #[.string a0, .int .u8 a1] rfl qnp0_ ?_; (with_reducible refine (stringslite_IndexByte.calls a0 a1 t186 _ A3.out).mono ?_); rintro e w' ⟨rfl, ⟨nd, rfl⟩⟩; refine ⟨_, rfl, ?_⟩))
 go_ret
 exact ⟨qnp2_, qnp4_⟩


/-! ### numeral_Human: function 20 -/
mutual
def numeral_Human.j0 : Nat → ByteArray → Bool → Bool → ByteArray → ByteArray → Int → Option (Bool × ByteArray × ByteArray × Int × Int)
 | 0, _, _, _, _, _, _ => none
 | k + 1, x0, x18, x193000, x193001, x193002, x193003 => if x18 = true then (some (x193000, x193001, x193002, x193003, 0)) else (if 0 ≤ x193003 then (if x193003 < (x0.size : Int) then (if (bt x0 x193003) = 107 then (numeral_Human.j1 k 75 x193000 x193001 x193002 x193003) else (numeral_Human.j1 k (bt x0 x193003) x193000 x193001 x193002 x193003)) else (none)) else (none))
def numeral_Human.j1 : Nat → Int → Bool → ByteArray → ByteArray → Int → Option (Bool × ByteArray × ByteArray × Int × Int)
 | 0, _, _, _, _, _ => none
 | k + 1, x5, x193000, x193001, x193002, x193003 => (strings_IndexByte.f (⟨#[75, 77, 71, 84, 80, 69, 90, 89, 82, 81]⟩ : ByteArray) x5).bind fun t193 => (if (wrap64 (t193 + 1)) > 0 then (if x193001.toList = ([] : List UInt8) then (if x193002.toList = ([] : List UInt8) then (some (x193000, x193001, x193002, wrap64 (x193003 + 1), 0)) else (some (x193000, x193001, x193002, wrap64 (x193003 + 1), wrap64 (t193 + 1)))) else (some (x193000, x193001, x193002, wrap64 (x193003 + 1), wrap64 (t193 + 1)))) else (if x193001.toList = ([] : List UInt8) then (if x193002.toList = ([] : List UInt8) then (some (x193000, x193001, x193002, x193003, 0)) else (some (x193000, x193001, x193002, x193003, wrap64 (t193 + 1)))) else (some (x193000, x193001, x193002, x193003, wrap64 (t193 + 1)))))
end
def numeral_Human.f (k : Nat) (a0 : ByteArray) : Option (Bool × ByteArray × ByteArray × Int × Int) := (numeral_Decimal.f k a0).bind fun bt188 => (if bt188.2.2.2 = 0 then (numeral_Human.j0 k a0 true bt188.1 bt188.2.1 bt188.2.2.1 bt188.2.2.2) else (numeral_Human.j0 k a0 (bt188.2.2.2 == (a0.size : Int)) bt188.1 bt188.2.1 bt188.2.2.1 bt188.2.2.2))
set_option maxHeartbeats 8000000 in
set_option maxRecDepth 100000 in
theorem numeral_Human.calls (k : Nat) (a0 : ByteArray) (r1 : Bool) (r2 : ByteArray) (r3 : ByteArray) (r4 : Int) (r5 : Int) (w : World) (h : numeral_Human.f k a0 = some (r1, r2, r3, r4, r5)) :
  Calls Tryd.prog 20 #[.string a0] w fun e w' => e = .returned (.tuple #[.agg #[.bool r1, .string r2, .string r3, .int .i64 r4], .int .i64 r5]) ∧ Below w.heap.size w w' := by
 have hu25 := Tryd.underlying25
 have HB := Aside0.mk (Below.refl w.heap.size w)
 have H : ((numeral_Decimal.f k a0).bind fun bt188 => (if bt188.2.2.2 = 0 then (numeral_Human.j0 k a0 true bt188.1 bt188.2.1 bt188.2.2.1 bt188.2.2.2) else (numeral_Human.j0 k a0 (bt188.2.2.2 == (a0.size : Int)) bt188.1 bt188.2.1 bt188.2.2.1 bt188.2.2.2))) = some (r1, r2, r3, r4, r5) := h
 clear h
 replace H := Option.bind_eq_some_iff.mp H
 obtain ⟨⟨t188, t189, t190, t191⟩, A20, H⟩ := H
 replace H : (if t191 = 0 then (numeral_Human.j0 k a0 true t188 t189 t190 t191) else (numeral_Human.j0 k a0 (t191 == (a0.size : Int)) t188 t189 t190 t191)) = some (r1, r2, r3, r4, r5) := H
 have A2 := Aside0.mk A20
 clear A20
 have HC3 := Aside0.mk H
 clear H
 go_enter Tryd.func20, Tryd.ntmps20
 have tk9 : True := trivial; have tk10 : True := trivial; have tk11 : True := trivial
 go_upto_region 2 with (first | (have ztk9 := tk9; clear tk9 ztk9; (with_reducible refine gate_dst (N := 2) rfl ?_); (try (refine gate_guard (by rfl) ?_; dsimp only)); refine box_event ?hg (N := 2) ?hd (cs := #[.bool false, .string (⟨#[]⟩ : ByteArray), .string (⟨#[]⟩ : ByteArray), .int .i64 0]) (t := 25) ?hr ?_; (case hd => rfl); (case hg => rfl); (case hr => first | (go_simp; done) | (go_simp; rfl)); intro gb187 hg w4 hbox hb; have n0_ := Aside0.mk (below_step qnp1_ hb); have n1_ := Aside0.mk (hbox); have n2_ := Aside0.mk ((by rw [hg]; exact (below_size qnp1_) : w.heap.size ≤ gb187)); have n3_ := Aside0.mk ((by rw [hg]; exact (below_size qnp1_) : w.heap.size ≤ gb187)); clear HB; have HB := n0_; have BK187 := n1_; have GW187 := n2_; have GE187 := n3_; clear n0_ n1_ n2_ n3_; clear hb hbox hg) | (have ztk10 := tk10; clear tk10 ztk10; (with_reducible refine gate_callee (f := 16) rfl ?_); refine goesL_ (some 8) rfl rfl Tryd.func16 (by kernel_rfl) rfl #[.string a0] rfl qnp0_ ?_; (with_reducible refine (numeral_Decimal.calls k a0 t188 t189 t190 t191 _ A2.out).mono ?_); rintro e w5 ⟨rfl, hb⟩; refine ⟨_, rfl, ?_⟩; have n0_ := Aside0.mk (blk_below (g := gb187) (o := .cells #[.bool false, .string (⟨#[]⟩ : ByteArray), .string (⟨#[]⟩ : ByteArray), .int .i64 0] 25 (0, 0)) qnp35_ hb); have n1_ := Aside0.mk (below_step qnp60_ hb); clear BK187; clear HB; have BK187 := n0_; have HB := n1_; clear n0_ n1_; (try clear hb); (try clear hb2); (try clear hk); (try clear hi)) | (have ztk11 := tk11; clear tk11 ztk11; (with_reducible refine gate_dst (N := 4) rfl ?_); (try (refine gate_guard (by rfl) ?_; dsimp only)); refine box_event ?hg (N := 4) ?hd (cs := #[.bool false, .string (⟨#[]⟩ : ByteArray), .string (⟨#[]⟩ : ByteArray), .int .i64 0]) (t := 25) ?hr ?_; (case hd => rfl); (case hg => rfl); (case hr => first | (go_simp; done) | (go_simp; rfl)); intro gb192 hg w6 hbox hb; have n0_ := Aside0.mk (blk_below (g := gb187) (o := .cells #[.bool false, .string (⟨#[]⟩ : ByteArray), .string (⟨#[]⟩ : ByteArray), .int .i64 0] 25 (0, 0)) qnp35_ hb); have n1_ := Aside0.mk (below_step qnp60_ hb); have n2_ := Aside0.mk (hbox); have n3_ := Aside0.mk ((by rw [hg]; exact (below_size qnp60_) : w.heap.size ≤ gb192)); have n4_ := Aside0.mk ((by rw [hg]; exact (below_size qnp60_) : w.heap.size ≤ gb192)); have n5_ := Aside0.mk ((by rw [hg]; exact Nat.ne_of_lt (blk_lt (g := gb187) (o := .cells #[.bool false, .string (⟨#[]⟩ : ByteArray), .string (⟨#[]⟩ : ByteArray), .int .i64 0] 25 (0, 0)) qnp35_) : gb187 ≠ gb192)); have n6_ := Aside0.mk ((by rw [hg]; exact Nat.ne_of_gt (blk_lt (g := gb187) (o := .cells #[.bool false, .string (⟨#[]⟩ : ByteArray), .string (⟨#[]⟩ : ByteArray), .int .i64 0] 25 (0, 0)) qnp35_) : gb192 ≠ gb187)); clear BK187; clear HB; have BK187 := n0_; have HB := n1_; have BK192 := n2_; have GW192 := n3_; have GE192 := n4_; have NB187_192 := n5_; have NB192_187 := n6_; clear n0_ n1_ n2_ n3_ n4_ n5_ n6_; clear hb hbox hg; have hnb7 := NB192_187.out; have hnc7 := NB187_192.out; have hcz8_0 : w6.cell? ⟨gb192, 0, none⟩ = some (.bool false) := (blk_cell BK192.out 0).trans rfl; have hcz8_1 : w6.cell? ⟨gb192, 1, none⟩ = some (.string (⟨#[]⟩ : ByteArray)) := (blk_cell BK192.out 1).trans rfl; have hcz8_2 : w6.cell? ⟨gb192, 2, none⟩ = some (.string (⟨#[]⟩ : ByteArray)) := (blk_cell BK192.out 2).trans rfl; have hcz8_3 : w6.cell? ⟨gb192, 3, none⟩ = some (.int .i64 0) := (blk_cell BK192.out 3).trans rfl; have hfz8_0 := blk_frozen BK192.out 0; have hfz8_1 := blk_frozen BK192.out 1; have hfz8_2 := blk_frozen BK192.out 2; have hfz8_3 := blk_frozen BK192.out 3))
 (try simp only [Act.put, List.setIfInBounds_toArray, List.set_cons_zero, List.set_cons_succ])
 go_cut [18] (fun v18 wc => ∃ (kq : Nat) (x18_2 : Bool), v18 = .bool x18_2 ∧ Aside0 (numeral_Human.j0 kq a0 x18_2 t188 t189 t190 t191 = some (r1, r2, r3, r4, r5)) ∧ Aside0 (kq ≤ k) ∧ Aside0 (wc.heap[gb187]? = some (.cells #[.bool false, .string (⟨#[]⟩ : ByteArray), .string (⟨#[]⟩ : ByteArray), .int .i64 0] 25 (0, 0))) ∧ Aside0 (wc.heap[gb192]? = some (.cells #[.bool t188, .string t189, .string t190, .int .i64 t191] 25 (0, 0))) ∧ Aside0 (Below w.heap.size w wc))
 case first =>
  have H := HC3.out
  clear HC3
  by_cases c12 : t191 = 0
  ·
   rw [if_pos c12] at H
   have c12b0 : (t191 == 0) = true := beq_iff_eq.mpr c12
   have c12b1 : (t191 != 0) = false := bne_eq_false_iff_eq.mpr c12
   clear c12
   (first | rw [c12b0] | (simp only [i64_w, i32_w]; rw [c12b0]) | skip)
   have H' := Aside0.mk H
   clear H
   have hnb13 := NB192_187.out
   have hnc13 := NB187_192.out
   have hcz14_0 : w6.cell? ⟨gb192, 0, none⟩ = some (.bool false) := (blk_cell BK192.out 0).trans rfl
   have hcz14_1 : w6.cell? ⟨gb192, 1, none⟩ = some (.string (⟨#[]⟩ : ByteArray)) := (blk_cell BK192.out 1).trans rfl
   have hcz14_2 : w6.cell? ⟨gb192, 2, none⟩ = some (.string (⟨#[]⟩ : ByteArray)) := (blk_cell BK192.out 2).trans rfl
   have hcz14_3 : w6.cell? ⟨gb192, 3, none⟩ = some (.int .i64 0) := (blk_cell BK192.out 3).trans rfl
   have hfz14_0 := blk_frozen BK192.out 0
   have hfz14_1 := blk_frozen BK192.out 1
   have hfz14_2 := blk_frozen BK192.out 2
   have hfz14_3 := blk_frozen BK192.out 3
   go_wp2
   go_meet
   case rel => exact ⟨_, (true), qnp2_, H', ⟨by first | omega | exact Nat.le_refl _⟩, ⟨by (with_reducible repeat (first | refine blk_drewN ?_ _ | refine blk_drew ?_ | refine blk_alloc ?_ _)); refine blk_far ?_ NB187_192.out _; (with_reducible repeat (first | refine blk_drewN ?_ _ | refine blk_drew ?_ | refine blk_alloc ?_ _)); refine blk_far ?_ NB187_192.out _; (with_reducible repeat (first | refine blk_drewN ?_ _ | refine blk_drew ?_ | refine blk_alloc ?_ _)); refine blk_far ?_ NB187_192.out _; (with_reducible repeat (first | refine blk_drewN ?_ _ | refine blk_drew ?_ | refine blk_alloc ?_ _)); refine blk_far ?_ NB187_192.out _; (with_reducible repeat (first | refine blk_drewN ?_ _ | refine blk_drew ?_ | refine blk_alloc ?_ _)); exact BK187.out⟩, ⟨by (with_reducible repeat (first | refine blk_drewN ?_ _ | refine blk_drew ?_ | refine blk_alloc ?_ _)); refine blk_put (cs := #[.bool t188, .string t189, .string t190, .int .i64 0]) ?_ 3 _ rfl; (with_reducible repeat (first | refine blk_drewN ?_ _ | refine blk_drew ?_ | refine blk_alloc ?_ _)); refine blk_put (cs := #[.bool t188, .string t189, .string (⟨#[]⟩ : ByteArray), .int .i64 0]) ?_ 2 _ rfl; (with_reducible repeat (first | refine blk_drewN ?_ _ | refine blk_drew ?_ | refine blk_alloc ?_ _)); refine blk_put (cs := #[.bool t188, .string (⟨#[]⟩ : ByteArray), .string (⟨#[]⟩ : ByteArray), .int .i64 0]) ?_ 1 _ rfl; (with_reducible repeat (first | refine blk_drewN ?_ _ | refine blk_drew ?_ | refine blk_alloc ?_ _)); refine blk_put (cs := #[.bool false, .string (⟨#[]⟩ : ByteArray), .string (⟨#[]⟩ : ByteArray), .int .i64 0]) ?_ 0 _ rfl; (with_reducible repeat (first | refine blk_drewN ?_ _ | refine blk_drew ?_ | refine blk_alloc ?_ _)); exact BK192.out⟩, ⟨qnp15_⟩⟩
  ·
   rw [if_neg c12] at H
   have c12b0 : (t191 == 0) = false := beq_eq_false_iff_ne.mpr c12
   have c12b1 : (t191 != 0) = true := bne_iff_ne.mpr c12
   (first | rw [c12b0] | (simp only [i64_w, i32_w]; rw [c12b0]) | skip)
   have H' := Aside0.mk H
   clear H
   have hnb15 := NB192_187.out
   have hnc15 := NB187_192.out
   have hcz16_0 : w6.cell? ⟨gb192, 0, none⟩ = some (.bool false) := (blk_cell BK192.out 0).trans rfl
   have hcz16_1 : w6.cell? ⟨gb192, 1, none⟩ = some (.string (⟨#[]⟩ : ByteArray)) := (blk_cell BK192.out 1).trans rfl
   have hcz16_2 : w6.cell? ⟨gb192, 2, none⟩ = some (.string (⟨#[]⟩ : ByteArray)) := (blk_cell BK192.out 2).trans rfl
   have hcz16_3 : w6.cell? ⟨gb192, 3, none⟩ = some (.int .i64 0) := (blk_cell BK192.out 3).trans rfl
   have hfz16_0 := blk_frozen BK192.out 0
   have hfz16_1 := blk_frozen BK192.out 1
   have hfz16_2 := blk_frozen BK192.out 2
   have hfz16_3 := blk_frozen BK192.out 3
   go_wp2
   go_meet
   case rel => exact ⟨_, ((t191 == (a0.size : Int))), qnp2_, H', ⟨by first | omega | exact Nat.le_refl _⟩, ⟨by (with_reducible repeat (first | refine blk_drewN ?_ _ | refine blk_drew ?_ | refine blk_alloc ?_ _)); refine blk_far ?_ NB187_192.out _; (with_reducible repeat (first | refine blk_drewN ?_ _ | refine blk_drew ?_ | refine blk_alloc ?_ _)); refine blk_far ?_ NB187_192.out _; (with_reducible repeat (first | refine blk_drewN ?_ _ | refine blk_drew ?_ | refine blk_alloc ?_ _)); refine blk_far ?_ NB187_192.out _; (with_reducible repeat (first | refine blk_drewN ?_ _ | refine blk_drew ?_ | refine blk_alloc ?_ _)); refine blk_far ?_ NB187_192.out _; (with_reducible repeat (first | refine blk_drewN ?_ _ | refine blk_drew ?_ | refine blk_alloc ?_ _)); exact BK187.out⟩, ⟨by (with_reducible repeat (first | refine blk_drewN ?_ _ | refine blk_drew ?_ | refine blk_alloc ?_ _)); refine blk_put (cs := #[.bool t188, .string t189, .string t190, .int .i64 0]) ?_ 3 _ rfl; (with_reducible repeat (first | refine blk_drewN ?_ _ | refine blk_drew ?_ | refine blk_alloc ?_ _)); refine blk_put (cs := #[.bool t188, .string t189, .string (⟨#[]⟩ : ByteArray), .int .i64 0]) ?_ 2 _ rfl; (with_reducible repeat (first | refine blk_drewN ?_ _ | refine blk_drew ?_ | refine blk_alloc ?_ _)); refine blk_put (cs := #[.bool t188, .string (⟨#[]⟩ : ByteArray), .string (⟨#[]⟩ : ByteArray), .int .i64 0]) ?_ 1 _ rfl; (with_reducible repeat (first | refine blk_drewN ?_ _ | refine blk_drew ?_ | refine blk_alloc ?_ _)); refine blk_put (cs := #[.bool false, .string (⟨#[]⟩ : ByteArray), .string (⟨#[]⟩ : ByteArray), .int .i64 0]) ?_ 0 _ rfl; (with_reducible repeat (first | refine blk_drewN ?_ _ | refine blk_drew ?_ | refine blk_alloc ?_ _)); exact BK192.out⟩, ⟨qnp15_⟩⟩
 case rest =>
  clear HC3
  (try clear c1); (try clear c2); (try clear p2); (try clear c7); (try clear c12); (try clear c12b0); (try clear c12b1); (try clear c13); (try clear c15); (try clear c16); (try clear hcz14_0); (try clear hcz14_1); (try clear hcz14_2); (try clear hcz14_3); (try clear hcz16_0); (try clear hcz16_1); (try clear hcz16_2); (try clear hcz16_3); (try clear hcz8_0); (try clear hcz8_1); (try clear hcz8_2); (try clear hcz8_3)
  (try clear hfz14_0); (try clear hfz14_1); (try clear hfz14_2); (try clear hfz14_3); (try clear hfz16_0); (try clear hfz16_1); (try clear hfz16_2); (try clear hfz16_3); (try clear hfz8_0); (try clear hfz8_1); (try clear hfz8_2); (try clear hfz8_3)
  obtain ⟨kq, x18_2, rfl, HA, HJ2, BK187, BK192, HB⟩ := hcut
  cases kq with
  | zero => exact absurd HA.out (by simp [numeral_Human.j0])
  | succ kj2 =>
   have H := HA.out
   clear HA
   simp only [numeral_Human.j0] at H
   by_cases c17 : x18_2 = true
   ·
    subst c17
    have H1 : (some (t188, t189, t190, t191, 0)) = some (r1, r2, r3, r4, r5) := by rw [if_pos rfl] at H; exact H
    clear H
    have H := H1
    clear H1
    simp only [Option.some.injEq, Prod.mk.injEq] at H
    obtain ⟨rfl, rfl, rfl, rfl, rfl⟩ := H
    have hnb18 := NB192_187.out
    have hnc18 := NB187_192.out
    have hcz19_0 : wc.cell? ⟨gb192, 0, none⟩ = some (.bool t188) := (blk_cell BK192.out 0).trans rfl
    have hcz19_1 : wc.cell? ⟨gb192, 1, none⟩ = some (.string t189) := (blk_cell BK192.out 1).trans rfl
    have hcz19_2 : wc.cell? ⟨gb192, 2, none⟩ = some (.string t190) := (blk_cell BK192.out 2).trans rfl
    have hcz19_3 : wc.cell? ⟨gb192, 3, none⟩ = some (.int .i64 t191) := (blk_cell BK192.out 3).trans rfl
    have hfz19_0 := blk_frozen BK192.out 0
    have hfz19_1 := blk_frozen BK192.out 1
    have hfz19_2 := blk_frozen BK192.out 2
    have hfz19_3 := blk_frozen BK192.out 3
    have hcz20_0 : wc.cell? ⟨gb187, 0, none⟩ = some (.bool false) := (blk_cell BK187.out 0).trans rfl
    have hcz20_1 : wc.cell? ⟨gb187, 1, none⟩ = some (.string (⟨#[]⟩ : ByteArray)) := (blk_cell BK187.out 1).trans rfl
    have hcz20_2 : wc.cell? ⟨gb187, 2, none⟩ = some (.string (⟨#[]⟩ : ByteArray)) := (blk_cell BK187.out 2).trans rfl
    have hcz20_3 : wc.cell? ⟨gb187, 3, none⟩ = some (.int .i64 0) := (blk_cell BK187.out 3).trans rfl
    have hfz20_0 := blk_frozen BK187.out 0
    have hfz20_1 := blk_frozen BK187.out 1
    have hfz20_2 := blk_frozen BK187.out 2
    have hfz20_3 := blk_frozen BK187.out 3
    go_wp2
    refine bodyPost_ret (results_ct rfl _ _ gb187 25 #[.bool t188, .string t189, .string t190, .int .i64 t191] (0, 0) _ rfl qnp16_ Tryd.underlying25 rfl (by kernel_rfl)) rfl ?_
    exact ⟨qnp5_, qnp15_⟩
   ·
    replace c17 := Bool.eq_false_iff.mpr c17
    subst c17
    have H1 : (if 0 ≤ t191 then (if t191 < (a0.size : Int) then (if (bt a0 t191) = 107 then (numeral_Human.j1 kj2 75 t188 t189 t190 t191) else (numeral_Human.j1 kj2 (bt a0 t191) t188 t189 t190 t191)) else (none)) else (none)) = some (r1, r2, r3, r4, r5) := by rw [if_neg (show ¬ (false = true) by decide)] at H; exact H
    clear H
    have H := H1
    clear H1
    by_cases c21 : 0 ≤ t191
    ·
     rw [if_pos c21] at H
     have c21b0 : decide (0 ≤ t191) = true := decide_eq_true c21
     clear c21
     by_cases c22 : t191 < (a0.size : Int)
     ·
      rw [if_pos c22] at H
      have c22b0 : decide (t191 < (a0.size : Int)) = true := decide_eq_true c22
      clear c22
      have HC24 := Aside0.mk H
      clear H
      have hnb25 := NB192_187.out
      have hnc25 := NB187_192.out
      have hcz26_0 : wc.cell? ⟨gb192, 0, none⟩ = some (.bool t188) := (blk_cell BK192.out 0).trans rfl
      have hcz26_1 : wc.cell? ⟨gb192, 1, none⟩ = some (.string t189) := (blk_cell BK192.out 1).trans rfl
      have hcz26_2 : wc.cell? ⟨gb192, 2, none⟩ = some (.string t190) := (blk_cell BK192.out 2).trans rfl
      have hcz26_3 : wc.cell? ⟨gb192, 3, none⟩ = some (.int .i64 t191) := (blk_cell BK192.out 3).trans rfl
      have hfz26_0 := blk_frozen BK192.out 0
      have hfz26_1 := blk_frozen BK192.out 1
      have hfz26_2 := blk_frozen BK192.out 2
      have hfz26_3 := blk_frozen BK192.out 3
      have p23 : 0 ≤ (t191 : Int) := of_decide_eq_true qnp3_
      have q23 : t191 < (a0.size : Int) := of_decide_eq_true qnp3_
      have hx23 := bt_at a0 t191
      replace p23 := eq_true p23
      replace q23 := eq_true q23
      go_upto_if 25 with (fail)
      go_cut [5] (fun v5 wc => ∃ (kq : Nat) (x5_23 : Int), v5 = .int .u8 x5_23 ∧ Aside0 (numeral_Human.j1 kq x5_23 t188 t189 t190 t191 = some (r1, r2, r3, r4, r5)) ∧ Aside0 (kq ≤ kj2) ∧ Aside0 (wc.heap[gb187]? = some (.cells #[.bool false, .string (⟨#[]⟩ : ByteArray), .string (⟨#[]⟩ : ByteArray), .int .i64 0] 25 (0, 0))) ∧ Aside0 (wc.heap[gb192]? = some (.cells #[.bool t188, .string t189, .string t190, .int .i64 t191] 25 (0, 0))) ∧ Aside0 (Below w.heap.size w wc))
      case first =>
       have H := HC24.out
       clear HC24
       by_cases c27 : (bt a0 t191) = 107
       ·
        rw [if_pos c27] at H
        have c27b0 : ((bt a0 t191) == 107) = true := beq_iff_eq.mpr c27
        have c27b1 : ((bt a0 t191) != 107) = false := bne_eq_false_iff_eq.mpr c27
        clear c27
        (first | rw [c27b0] | (simp only [i64_w, i32_w]; rw [c27b0]) | skip)
        have H' := Aside0.mk H
        clear H
        go_wp2
        go_meet
        case rel => exact ⟨_, (75), qnp2_, H', ⟨by have := HJ2.out; first | omega | exact Nat.le_refl _⟩, ⟨qnp35_⟩, ⟨qnp51_⟩, ⟨qnp15_⟩⟩
       ·
        rw [if_neg c27] at H
        have c27b0 : ((bt a0 t191) == 107) = false := beq_eq_false_iff_ne.mpr c27
        have c27b1 : ((bt a0 t191) != 107) = true := bne_iff_ne.mpr c27
        (first | rw [c27b0] | (simp only [i64_w, i32_w]; rw [c27b0]) | skip)
        have H' := Aside0.mk H
        clear H
        go_wp2
        go_meet
        case rel => exact ⟨_, (bt a0 t191), qnp2_, H', ⟨by have := HJ2.out; first | omega | exact Nat.le_refl _⟩, ⟨qnp35_⟩, ⟨qnp51_⟩, ⟨qnp15_⟩⟩
      case rest =>
       clear HC24
       (try clear c1); (try clear c2); (try clear p2); (try clear q2); (try clear hx2); (try clear c7); (try clear c12); (try clear c12b0); (try clear c12b1); (try clear c13); (try clear c15); (try clear c16); (try clear c17); (try clear c18); (try clear c20); (try clear c21); (try clear c21b0); (try clear c22); (try clear c22b0); (try clear p23); (try clear q23); (try clear hx23); (try clear c25)
       (try clear c27); (try clear c27b0); (try clear c27b1); (try clear hcz14_0); (try clear hcz14_1); (try clear hcz14_2); (try clear hcz14_3); (try clear hcz16_0); (try clear hcz16_1); (try clear hcz16_2); (try clear hcz16_3); (try clear hcz19_0); (try clear hcz19_1); (try clear hcz19_2); (try clear hcz19_3); (try clear hcz20_0); (try clear hcz20_1); (try clear hcz20_2); (try clear hcz20_3); (try clear hcz26_0)
       (try clear hcz26_1); (try clear hcz26_2); (try clear hcz26_3); (try clear hcz8_0); (try clear hcz8_1); (try clear hcz8_2); (try clear hcz8_3); (try clear hfz14_0); (try clear hfz14_1); (try clear hfz14_2); (try clear hfz14_3); (try clear hfz16_0); (try clear hfz16_1); (try clear hfz16_2); (try clear hfz16_3); (try clear hfz19_0); (try clear hfz19_1); (try clear hfz19_2); (try clear hfz19_3)
       (try clear hfz20_0); (try clear hfz20_1); (try clear hfz20_2); (try clear hfz20_3); (try clear hfz26_0); (try clear hfz26_1); (try clear hfz26_2); (try clear hfz26_3); (try clear hfz8_0); (try clear hfz8_1); (try clear hfz8_2); (try clear hfz8_3); (try clear p2); (try clear p23); (try clear q23)
       obtain ⟨kq, x5_23, rfl, HA, HJ23, BK187, BK192, HB⟩ := hcut
       cases kq with
       | zero => exact absurd HA.out (by simp [numeral_Human.j1])
       | succ kj23 =>
        have H := HA.out
        clear HA
        simp only [numeral_Human.j1] at H
        replace H := Option.bind_eq_some_iff.mp H
        obtain ⟨t193, A280, H⟩ := H
        replace H : (if (wrap64 (t193 + 1)) > 0 then (if t189.toList = ([] : List UInt8) then (if t190.toList = ([] : List UInt8) then (some (t188, t189, t190, wrap64 (t191 + 1), 0)) else (some (t188, t189, t190, wrap64 (t191 + 1), wrap64 (t193 + 1)))) else (some (t188, t189, t190, wrap64 (t191 + 1), wrap64 (t193 + 1)))) else (if t189.toList = ([] : List UInt8) then (if t190.toList = ([] : List UInt8) then (some (t188, t189, t190, t191, 0)) else (some (t188, t189, t190, t191, wrap64 (t193 + 1)))) else (some (t188, t189, t190, t191, wrap64 (t193 + 1))))) = some (r1, r2, r3, r4, r5) := H
        have A28 := Aside0.mk A280
        clear A280
        by_cases c29 : (wrap64 (t193 + 1)) > 0
        ·
         rw [if_pos c29] at H
         have c29b0 : decide (0 < (wrap64 (t193 + 1))) = true := decide_eq_true c29
         clear c29
         by_cases c30 : t189.toList = ([] : List UInt8)
         ·
          rw [if_pos c30] at H
          have c30b0 : (t189.toList == ([] : List UInt8)) = true := beq_iff_eq.mpr c30
          have c30b1 : (t189.toList != ([] : List UInt8)) = false := bne_eq_false_iff_eq.mpr c30
          clear c30
          by_cases c31 : t190.toList = ([] : List UInt8)
          ·
           rw [if_pos c31] at H
           have c31b0 : (t190.toList == ([] : List UInt8)) = true := beq_iff_eq.mpr c31
           have c31b1 : (t190.toList != ([] : List UInt8)) = false := bne_eq_false_iff_eq.mpr c31
           clear c31
           simp only [Option.some.injEq, Prod.mk.injEq] at H
           obtain ⟨rfl, rfl, rfl, rfl, rfl⟩ := H
           go_wp2_with (first | ((with_reducible refine gate_callee (f := 39) rfl ?_); refine goesL_ (some 27) rfl rfl Tryd.func39 (by kernel_rfl) rfl #[.string (⟨#[75, 77, 71, 84, 80, 69, 90, 89, 82, 81]⟩ : ByteArray), .int .u8 x5_23] rfl qnp0_ ?_; (with_reducible refine (strings_IndexByte.calls (⟨#[75, 77, 71, 84, 80, 69, 90, 89, 82, 81]⟩ : ByteArray) x5_23 t193 _ A28.out).mono ?_); rintro e w' ⟨rfl, ⟨nd, rfl⟩⟩; refine ⟨_, rfl, ?_⟩; (try (rw [drewN_self wc]; generalize hq_ : World.drewN wc _ = wc; have n0_ : Aside0 (wc.heap[gb187]? = some (.cells #[.bool false, .string (⟨#[]⟩ : ByteArray), .string (⟨#[]⟩ : ByteArray), .int .i64 0] 25 (0, 0))) := ⟨by rw [← hq_]; exact qnp35_⟩; have n1_ : Aside0 (wc.heap[gb192]? = some (.cells #[.bool t188, .string t189, .string t190, .int .i64 t191] 25 (0, 0))) := ⟨by rw [← hq_]; exact qnp51_⟩; have n2_ : Aside0 (Below w.heap.size w wc) := ⟨by rw [← hq_]; exact qnp15_⟩; clear BK187 BK192 HB hq_; have BK187 := n0_; have BK192 := n1_; have HB := n2_; clear n0_ n1_ n2_)); (try (have hcu32_0 : wc.cell? ⟨gb187, 0, none⟩ = some (.bool false) := (blk_cell BK187.out 0).trans rfl; have hfu32_0 := blk_frozen BK187.out 0; have hcu32_1 : wc.cell? ⟨gb187, 1, none⟩ = some (.string (⟨#[]⟩ : ByteArray)) := (blk_cell BK187.out 1).trans rfl; have hfu32_1 := blk_frozen BK187.out 1; have hcu32_2 : wc.cell? ⟨gb187, 2, none⟩ = some (.string (⟨#[]⟩ : ByteArray)) := (blk_cell BK187.out 2).trans rfl; have hfu32_2 := blk_frozen BK187.out 2; have hcu32_3 : wc.cell? ⟨gb187, 3, none⟩ = some (.int .i64 0) := (blk_cell BK187.out 3).trans rfl; have hfu32_3 := blk_frozen BK187.out 3)); (try (have hcu33_0 : wc.cell? ⟨gb192, 0, none⟩ = some (.bool t188) := (blk_cell BK192.out 0).trans rfl; have hfu33_0 := blk_frozen BK192.out 0; have hcu33_1 : wc.cell? ⟨gb192, 1, none⟩ = some (.string t189) := (blk_cell BK192.out 1).trans rfl; have hfu33_1 := blk_frozen BK192.out 1; have hcu33_2 : wc.cell? ⟨gb192, 2, none⟩ = some (.string t190) := (blk_cell BK192.out 2).trans rfl; have hfu33_2 := blk_frozen BK192.out 2; have hcu33_3 : wc.cell? ⟨gb192, 3, none⟩ = some (.int .i64 t191) := (blk_cell BK192.out 3).trans rfl; have hfu33_3 := blk_frozen BK192.out 3)); have hnb34 := NB192_187.out; have hnc34 := NB187_192.out; have hcz35_0 : wc.cell? ⟨gb192, 0, none⟩ = some (.bool t188) := (blk_cell BK192.out 0).trans rfl; have hcz35_1 : wc.cell? ⟨gb192, 1, none⟩ = some (.string t189) := (blk_cell BK192.out 1).trans rfl; have hcz35_2 : wc.cell? ⟨gb192, 2, none⟩ = some (.string t190) := (blk_cell BK192.out 2).trans rfl; have hcz35_3 : wc.cell? ⟨gb192, 3, none⟩ = some (.int .i64 t191) := (blk_cell BK192.out 3).trans rfl; have hfz35_0 := blk_frozen BK192.out 0; have hfz35_1 := blk_frozen BK192.out 1; have hfz35_2 := blk_frozen BK192.out 2; have hfz35_3 := blk_frozen BK192.out 3; have hcz36_0 : wc.cell? ⟨gb187, 0, none⟩ = some (.bool false) := (blk_cell BK187.out 0).trans rfl; have hcz36_1 : wc.cell? ⟨gb187, 1, none⟩ = some (.string (⟨#[]⟩ : ByteArray)) := (blk_cell BK187.out 1).trans rfl; have hcz36_2 : wc.cell? ⟨gb187, 2, none⟩ = some (.string (⟨#[]⟩ : ByteArray)) := (blk_cell BK187.out 2).trans rfl; have hcz36_3 : wc.cell? ⟨gb187, 3, none⟩ = some (.int .i64 0) := (blk_cell BK187.out 3).trans rfl; have hfz36_0 := blk_frozen BK187.out 0; have hfz36_1 := blk_frozen BK187.out 1; have hfz36_2 := blk_frozen BK187.out 2; have hfz36_3 := blk_frozen BK187.out 3))
           refine bodyPost_ret (results_ct rfl _ _ gb187 25 #[.bool t188, .string t189, .string t190, .int .i64 (wrap64 (t191 + 1))] (0, 0) _ rfl qnp20_ Tryd.underlying25 rfl (by kernel_rfl)) rfl ?_
           exact ⟨qnp5_, qnp15_⟩
          ·
           rw [if_neg c31] at H
           have c31b0 : (t190.toList == ([] : List UInt8)) = false := beq_eq_false_iff_ne.mpr c31
           have c31b1 : (t190.toList != ([] : List UInt8)) = true := bne_iff_ne.mpr c31
           simp only [Option.some.injEq, Prod.mk.injEq] at H
           obtain ⟨rfl, rfl, rfl, rfl, rfl⟩ := H
           go_wp2_with (first | ((with_reducible refine gate_callee (f := 39) rfl ?_); refine goesL_ (some 27) rfl rfl Tryd.func39 (by kernel_rfl) rfl #[.string (⟨#[75, 77, 71, 84, 80, 69, 90, 89, 82, 81]⟩ : ByteArray), .int .u8 x5_23] rfl qnp0_ ?_; (with_reducible refine (strings_IndexByte.calls (⟨#[75, 77, 71, 84, 80, 69, 90, 89, 82, 81]⟩ : ByteArray) x5_23 t193 _ A28.out).mono ?_); rintro e w' ⟨rfl, ⟨nd, rfl⟩⟩; refine ⟨_, rfl, ?_⟩; (try (rw [drewN_self wc]; generalize hq_ : World.drewN wc _ = wc; have n0_ : Aside0 (wc.heap[gb187]? = some (.cells #[.bool false, .string (⟨#[]⟩ : ByteArray), .string (⟨#[]⟩ : ByteArray), .int .i64 0] 25 (0, 0))) := ⟨by rw [← hq_]; exact qnp35_⟩; have n1_ : Aside0 (wc.heap[gb192]? = some (.cells #[.bool t188, .string t189, .string t190, .int .i64 t191] 25 (0, 0))) := ⟨by rw [← hq_]; exact qnp51_⟩; have n2_ : Aside0 (Below w.heap.size w wc) := ⟨by rw [← hq_]; exact qnp15_⟩; clear BK187 BK192 HB hq_; have BK187 := n0_; have BK192 := n1_; have HB := n2_; clear n0_ n1_ n2_)); (try (have hcu37_0 : wc.cell? ⟨gb187, 0, none⟩ = some (.bool false) := (blk_cell BK187.out 0).trans rfl; have hfu37_0 := blk_frozen BK187.out 0; have hcu37_1 : wc.cell? ⟨gb187, 1, none⟩ = some (.string (⟨#[]⟩ : ByteArray)) := (blk_cell BK187.out 1).trans rfl; have hfu37_1 := blk_frozen BK187.out 1; have hcu37_2 : wc.cell? ⟨gb187, 2, none⟩ = some (.string (⟨#[]⟩ : ByteArray)) := (blk_cell BK187.out 2).trans rfl; have hfu37_2 := blk_frozen BK187.out 2; have hcu37_3 : wc.cell? ⟨gb187, 3, none⟩ = some (.int .i64 0) := (blk_cell BK187.out 3).trans rfl; have hfu37_3 := blk_frozen BK187.out 3)); (try (have hcu38_0 : wc.cell? ⟨gb192, 0, none⟩ = some (.bool t188) := (blk_cell BK192.out 0).trans rfl; have hfu38_0 := blk_frozen BK192.out 0; have hcu38_1 : wc.cell? ⟨gb192, 1, none⟩ = some (.string t189) := (blk_cell BK192.out 1).trans rfl; have hfu38_1 := blk_frozen BK192.out 1; have hcu38_2 : wc.cell? ⟨gb192, 2, none⟩ = some (.string t190) := (blk_cell BK192.out 2).trans rfl; have hfu38_2 := blk_frozen BK192.out 2; have hcu38_3 : wc.cell? ⟨gb192, 3, none⟩ = some (.int .i64 t191) := (blk_cell BK192.out 3).trans rfl; have hfu38_3 := blk_frozen BK192.out 3)); have hnb39 := NB192_187.out; have hnc39 := NB187_192.out; have hcz40_0 : wc.cell? ⟨gb192, 0, none⟩ = some (.bool t188) := (blk_cell BK192.out 0).trans rfl; have hcz40_1 : wc.cell? ⟨gb192, 1, none⟩ = some (.string t189) := (blk_cell BK192.out 1).trans rfl; have hcz40_2 : wc.cell? ⟨gb192, 2, none⟩ = some (.string t190) := (blk_cell BK192.out 2).trans rfl; have hcz40_3 : wc.cell? ⟨gb192, 3, none⟩ = some (.int .i64 t191) := (blk_cell BK192.out 3).trans rfl; have hfz40_0 := blk_frozen BK192.out 0; have hfz40_1 := blk_frozen BK192.out 1; have hfz40_2 := blk_frozen BK192.out 2; have hfz40_3 := blk_frozen BK192.out 3; have hcz41_0 : wc.cell? ⟨gb187, 0, none⟩ = some (.bool false) := (blk_cell BK187.out 0).trans rfl; have hcz41_1 : wc.cell? ⟨gb187, 1, none⟩ = some (.string (⟨#[]⟩ : ByteArray)) := (blk_cell BK187.out 1).trans rfl; have hcz41_2 : wc.cell? ⟨gb187, 2, none⟩ = some (.string (⟨#[]⟩ : ByteArray)) := (blk_cell BK187.out 2).trans rfl; have hcz41_3 : wc.cell? ⟨gb187, 3, none⟩ = some (.int .i64 0) := (blk_cell BK187.out 3).trans rfl; have hfz41_0 := blk_frozen BK187.out 0; have hfz41_1 := blk_frozen BK187.out 1; have hfz41_2 := blk_frozen BK187.out 2; have hfz41_3 := blk_frozen BK187.out 3))
           refine bodyPost_ret (results_ct rfl _ _ gb187 25 #[.bool t188, .string t189, .string t190, .int .i64 (wrap64 (t191 + 1))] (0, 0) _ rfl qnp20_ Tryd.underlying25 rfl (by kernel_rfl)) rfl ?_
           exact ⟨qnp5_, qnp15_⟩
         ·
          rw [if_neg c30] at H
          have c30b0 : (t189.toList == ([] : List UInt8)) = false := beq_eq_false_iff_ne.mpr c30
          have c30b1 : (t189.toList != ([] : List UInt8)) = true := bne_iff_ne.mpr c30
          simp only [Option.some.injEq, Prod.mk.injEq] at H
          obtain ⟨rfl, rfl, rfl, rfl, rfl⟩ := H
          go_wp2_with (first | ((with_reducible refine gate_callee (f := 39) rfl ?_); refine goesL_ (some 27) rfl rfl Tryd.func39 (by kernel_rfl) rfl #[.string (⟨#[75, 77, 71, 84, 80, 69, 90, 89, 82, 81]⟩ : ByteArray), .int .u8 x5_23] rfl qnp0_ ?_; (with_reducible refine (strings_IndexByte.calls (⟨#[75, 77, 71, 84, 80, 69, 90, 89, 82, 81]⟩ : ByteArray) x5_23 t193 _ A28.out).mono ?_); rintro e w' ⟨rfl, ⟨nd, rfl⟩⟩; refine ⟨_, rfl, ?_⟩; (try (rw [drewN_self wc]; generalize hq_ : World.drewN wc _ = wc; have n0_ : Aside0 (wc.heap[gb187]? = some (.cells #[.bool false, .string (⟨#[]⟩ : ByteArray), .string (⟨#[]⟩ : ByteArray), .int .i64 0] 25 (0, 0))) := ⟨by rw [← hq_]; exact qnp35_⟩; have n1_ : Aside0 (wc.heap[gb192]? = some (.cells #[.bool t188, .string t189, .string t190, .int .i64 t191] 25 (0, 0))) := ⟨by rw [← hq_]; exact qnp51_⟩; have n2_ : Aside0 (Below w.heap.size w wc) := ⟨by rw [← hq_]; exact qnp15_⟩; clear BK187 BK192 HB hq_; have BK187 := n0_; have BK192 := n1_; have HB := n2_; clear n0_ n1_ n2_)); (try (have hcu42_0 : wc.cell? ⟨gb187, 0, none⟩ = some (.bool false) := (blk_cell BK187.out 0).trans rfl; have hfu42_0 := blk_frozen BK187.out 0; have hcu42_1 : wc.cell? ⟨gb187, 1, none⟩ = some (.string (⟨#[]⟩ : ByteArray)) := (blk_cell BK187.out 1).trans rfl; have hfu42_1 := blk_frozen BK187.out 1; have hcu42_2 : wc.cell? ⟨gb187, 2, none⟩ = some (.string (⟨#[]⟩ : ByteArray)) := (blk_cell BK187.out 2).trans rfl; have hfu42_2 := blk_frozen BK187.out 2; have hcu42_3 : wc.cell? ⟨gb187, 3, none⟩ = some (.int .i64 0) := (blk_cell BK187.out 3).trans rfl; have hfu42_3 := blk_frozen BK187.out 3)); (try (have hcu43_0 : wc.cell? ⟨gb192, 0, none⟩ = some (.bool t188) := (blk_cell BK192.out 0).trans rfl; have hfu43_0 := blk_frozen BK192.out 0; have hcu43_1 : wc.cell? ⟨gb192, 1, none⟩ = some (.string t189) := (blk_cell BK192.out 1).trans rfl; have hfu43_1 := blk_frozen BK192.out 1; have hcu43_2 : wc.cell? ⟨gb192, 2, none⟩ = some (.string t190) := (blk_cell BK192.out 2).trans rfl; have hfu43_2 := blk_frozen BK192.out 2; have hcu43_3 : wc.cell? ⟨gb192, 3, none⟩ = some (.int .i64 t191) := (blk_cell BK192.out 3).trans rfl; have hfu43_3 := blk_frozen BK192.out 3)); have hnb44 := NB192_187.out; have hnc44 := NB187_192.out; have hcz45_0 : wc.cell? ⟨gb192, 0, none⟩ = some (.bool t188) := (blk_cell BK192.out 0).trans rfl; have hcz45_1 : wc.cell? ⟨gb192, 1, none⟩ = some (.string t189) := (blk_cell BK192.out 1).trans rfl; have hcz45_2 : wc.cell? ⟨gb192, 2, none⟩ = some (.string t190) := (blk_cell BK192.out 2).trans rfl; have hcz45_3 : wc.cell? ⟨gb192, 3, none⟩ = some (.int .i64 t191) := (blk_cell BK192.out 3).trans rfl; have hfz45_0 := blk_frozen BK192.out 0; have hfz45_1 := blk_frozen BK192.out 1; have hfz45_2 := blk_frozen BK192.out 2; have hfz45_3 := blk_frozen BK192.out 3; have hcz46_0 : wc.cell? ⟨gb187, 0, none⟩ = some (.bool false) := (blk_cell BK187.out 0).trans rfl; have hcz46_1 : wc.cell? ⟨gb187, 1, none⟩ = some (.string (⟨#[]⟩ : ByteArray)) := (blk_cell BK187.out 1).trans rfl; have hcz46_2 : wc.cell? ⟨gb187, 2, none⟩ = some (.string (⟨#[]⟩ : ByteArray)) := (blk_cell BK187.out 2).trans rfl; have hcz46_3 : wc.cell? ⟨gb187, 3, none⟩ = some (.int .i64 0) := (blk_cell BK187.out 3).trans rfl; have hfz46_0 := blk_frozen BK187.out 0; have hfz46_1 := blk_frozen BK187.out 1; have hfz46_2 := blk_frozen BK187.out 2; have hfz46_3 := blk_frozen BK187.out 3))
          refine bodyPost_ret (results_ct rfl _ _ gb187 25 #[.bool t188, .string t189, .string t190, .int .i64 (wrap64 (t191 + 1))] (0, 0) _ rfl qnp20_ Tryd.underlying25 rfl (by kernel_rfl)) rfl ?_
          exact ⟨qnp5_, qnp15_⟩
        ·
         rw [if_neg c29] at H
         have c29b0 : decide (0 < (wrap64 (t193 + 1))) = false := decide_eq_false c29
         clear c29
         by_cases c47 : t189.toList = ([] : List UInt8)
         ·
          rw [if_pos c47] at H
          have c47b0 : (t189.toList == ([] : List UInt8)) = true := beq_iff_eq.mpr c47
          have c47b1 : (t189.toList != ([] : List UInt8)) = false := bne_eq_false_iff_eq.mpr c47
          clear c47
          by_cases c48 : t190.toList = ([] : List UInt8)
          ·
           rw [if_pos c48] at H
           have c48b0 : (t190.toList == ([] : List UInt8)) = true := beq_iff_eq.mpr c48
           have c48b1 : (t190.toList != ([] : List UInt8)) = false := bne_eq_false_iff_eq.mpr c48
           clear c48
           simp only [Option.some.injEq, Prod.mk.injEq] at H
           obtain ⟨rfl, rfl, rfl, rfl, rfl⟩ := H
           go_wp2_with (first | ((with_reducible refine gate_callee (f := 39) rfl ?_); refine goesL_ (some 27) rfl rfl Tryd.func39 (by kernel_rfl) rfl #[.string (⟨#[75, 77, 71, 84, 80, 69, 90, 89, 82, 81]⟩ : ByteArray), .int .u8 x5_23] rfl qnp0_ ?_; (with_reducible refine (strings_IndexByte.calls (⟨#[75, 77, 71, 84, 80, 69, 90, 89, 82, 81]⟩ : ByteArray) x5_23 t193 _ A28.out).mono ?_); rintro e w' ⟨rfl, ⟨nd, rfl⟩⟩; refine ⟨_, rfl, ?_⟩; (try (rw [drewN_self wc]; generalize hq_ : World.drewN wc _ = wc; have n0_ : Aside0 (wc.heap[gb187]? = some (.cells #[.bool false, .string (⟨#[]⟩ : ByteArray), .string (⟨#[]⟩ : ByteArray), .int .i64 0] 25 (0, 0))) := ⟨by rw [← hq_]; exact qnp35_⟩; have n1_ : Aside0 (wc.heap[gb192]? = some (.cells #[.bool t188, .string t189, .string t190, .int .i64 t191] 25 (0, 0))) := ⟨by rw [← hq_]; exact qnp51_⟩; have n2_ : Aside0 (Below w.heap.size w wc) := ⟨by rw [← hq_]; exact qnp15_⟩; clear BK187 BK192 HB hq_; have BK187 := n0_; have BK192 := n1_; have HB := n2_; clear n0_ n1_ n2_)); (try (have hcu49_0 : wc.cell? ⟨gb187, 0, none⟩ = some (.bool false) := (blk_cell BK187.out 0).trans rfl; have hfu49_0 := blk_frozen BK187.out 0; have hcu49_1 : wc.cell? ⟨gb187, 1, none⟩ = some (.string (⟨#[]⟩ : ByteArray)) := (blk_cell BK187.out 1).trans rfl; have hfu49_1 := blk_frozen BK187.out 1; have hcu49_2 : wc.cell? ⟨gb187, 2, none⟩ = some (.string (⟨#[]⟩ : ByteArray)) := (blk_cell BK187.out 2).trans rfl; have hfu49_2 := blk_frozen BK187.out 2; have hcu49_3 : wc.cell? ⟨gb187, 3, none⟩ = some (.int .i64 0) := (blk_cell BK187.out 3).trans rfl; have hfu49_3 := blk_frozen BK187.out 3)); (try (have hcu50_0 : wc.cell? ⟨gb192, 0, none⟩ = some (.bool t188) := (blk_cell BK192.out 0).trans rfl; have hfu50_0 := blk_frozen BK192.out 0; have hcu50_1 : wc.cell? ⟨gb192, 1, none⟩ = some (.string t189) := (blk_cell BK192.out 1).trans rfl; have hfu50_1 := blk_frozen BK192.out 1; have hcu50_2 : wc.cell? ⟨gb192, 2, none⟩ = some (.string t190) := (blk_cell BK192.out 2).trans rfl; have hfu50_2 := blk_frozen BK192.out 2; have hcu50_3 : wc.cell? ⟨gb192, 3, none⟩ = some (.int .i64 t191) := (blk_cell BK192.out 3).trans rfl; have hfu50_3 := blk_frozen BK192.out 3)); have hnb51 := NB192_187.out; have hnc51 := NB187_192.out; have hcz52_0 : wc.cell? ⟨gb192, 0, none⟩ = some (.bool t188) := (blk_cell BK192.out 0).trans rfl; have hcz52_1 : wc.cell? ⟨gb192, 1, none⟩ = some (.string t189) := (blk_cell BK192.out 1).trans rfl; have hcz52_2 : wc.cell? ⟨gb192, 2, none⟩ = some (.string t190) := (blk_cell BK192.out 2).trans rfl; have hcz52_3 : wc.cell? ⟨gb192, 3, none⟩ = some (.int .i64 t191) := (blk_cell BK192.out 3).trans rfl; have hfz52_0 := blk_frozen BK192.out 0; have hfz52_1 := blk_frozen BK192.out 1; have hfz52_2 := blk_frozen BK192.out 2; have hfz52_3 := blk_frozen BK192.out 3; have hcz53_0 : wc.cell? ⟨gb187, 0, none⟩ = some (.bool false) := (blk_cell BK187.out 0).trans rfl; have hcz53_1 : wc.cell? ⟨gb187, 1, none⟩ = some (.string (⟨#[]⟩ : ByteArray)) := (blk_cell BK187.out 1).trans rfl; have hcz53_2 : wc.cell? ⟨gb187, 2, none⟩ = some (.string (⟨#[]⟩ : ByteArray)) := (blk_cell BK187.out 2).trans rfl; have hcz53_3 : wc.cell? ⟨gb187, 3, none⟩ = some (.int .i64 0) := (blk_cell BK187.out 3).trans rfl; have hfz53_0 := blk_frozen BK187.out 0; have hfz53_1 := blk_frozen BK187.out 1; have hfz53_2 := blk_frozen BK187.out 2; have hfz53_3 := blk_frozen BK187.out 3))
           refine bodyPost_ret (results_ct rfl _ _ gb187 25 #[.bool t188, .string t189, .string t190, .int .i64 t191] (0, 0) _ rfl qnp16_ Tryd.underlying25 rfl (by kernel_rfl)) rfl ?_
           exact ⟨qnp5_, qnp15_⟩
          ·
           rw [if_neg c48] at H
           have c48b0 : (t190.toList == ([] : List UInt8)) = false := beq_eq_false_iff_ne.mpr c48
           have c48b1 : (t190.toList != ([] : List UInt8)) = true := bne_iff_ne.mpr c48
           simp only [Option.some.injEq, Prod.mk.injEq] at H
           obtain ⟨rfl, rfl, rfl, rfl, rfl⟩ := H
           go_wp2_with (first | ((with_reducible refine gate_callee (f := 39) rfl ?_); refine goesL_ (some 27) rfl rfl Tryd.func39 (by kernel_rfl) rfl #[.string (⟨#[75, 77, 71, 84, 80, 69, 90, 89, 82, 81]⟩ : ByteArray), .int .u8 x5_23] rfl qnp0_ ?_; (with_reducible refine (strings_IndexByte.calls (⟨#[75, 77, 71, 84, 80, 69, 90, 89, 82, 81]⟩ : ByteArray) x5_23 t193 _ A28.out).mono ?_); rintro e w' ⟨rfl, ⟨nd, rfl⟩⟩; refine ⟨_, rfl, ?_⟩; (try (rw [drewN_self wc]; generalize hq_ : World.drewN wc _ = wc; have n0_ : Aside0 (wc.heap[gb187]? = some (.cells #[.bool false, .string (⟨#[]⟩ : ByteArray), .string (⟨#[]⟩ : ByteArray), .int .i64 0] 25 (0, 0))) := ⟨by rw [← hq_]; exact qnp35_⟩; have n1_ : Aside0 (wc.heap[gb192]? = some (.cells #[.bool t188, .string t189, .string t190, .int .i64 t191] 25 (0, 0))) := ⟨by rw [← hq_]; exact qnp51_⟩; have n2_ : Aside0 (Below w.heap.size w wc) := ⟨by rw [← hq_]; exact qnp15_⟩; clear BK187 BK192 HB hq_; have BK187 := n0_; have BK192 := n1_; have HB := n2_; clear n0_ n1_ n2_)); (try (have hcu54_0 : wc.cell? ⟨gb187, 0, none⟩ = some (.bool false) := (blk_cell BK187.out 0).trans rfl; have hfu54_0 := blk_frozen BK187.out 0; have hcu54_1 : wc.cell? ⟨gb187, 1, none⟩ = some (.string (⟨#[]⟩ : ByteArray)) := (blk_cell BK187.out 1).trans rfl; have hfu54_1 := blk_frozen BK187.out 1; have hcu54_2 : wc.cell? ⟨gb187, 2, none⟩ = some (.string (⟨#[]⟩ : ByteArray)) := (blk_cell BK187.out 2).trans rfl; have hfu54_2 := blk_frozen BK187.out 2; have hcu54_3 : wc.cell? ⟨gb187, 3, none⟩ = some (.int .i64 0) := (blk_cell BK187.out 3).trans rfl; have hfu54_3 := blk_frozen BK187.out 3)); (try (have hcu55_0 : wc.cell? ⟨gb192, 0, none⟩ = some (.bool t188) := (blk_cell BK192.out 0).trans rfl; have hfu55_0 := blk_frozen BK192.out 0; have hcu55_1 : wc.cell? ⟨gb192, 1, none⟩ = some (.string t189) := (blk_cell BK192.out 1).trans rfl; have hfu55_1 := blk_frozen BK192.out 1; have hcu55_2 : wc.cell? ⟨gb192, 2, none⟩ = some (.string t190) := (blk_cell BK192.out 2).trans rfl; have hfu55_2 := blk_frozen BK192.out 2; have hcu55_3 : wc.cell? ⟨gb192, 3, none⟩ = some (.int .i64 t191) := (blk_cell BK192.out 3).trans rfl; have hfu55_3 := blk_frozen BK192.out 3)); have hnb56 := NB192_187.out; have hnc56 := NB187_192.out; have hcz57_0 : wc.cell? ⟨gb192, 0, none⟩ = some (.bool t188) := (blk_cell BK192.out 0).trans rfl; have hcz57_1 : wc.cell? ⟨gb192, 1, none⟩ = some (.string t189) := (blk_cell BK192.out 1).trans rfl; have hcz57_2 : wc.cell? ⟨gb192, 2, none⟩ = some (.string t190) := (blk_cell BK192.out 2).trans rfl; have hcz57_3 : wc.cell? ⟨gb192, 3, none⟩ = some (.int .i64 t191) := (blk_cell BK192.out 3).trans rfl; have hfz57_0 := blk_frozen BK192.out 0; have hfz57_1 := blk_frozen BK192.out 1; have hfz57_2 := blk_frozen BK192.out 2; have hfz57_3 := blk_frozen BK192.out 3; have hcz58_0 : wc.cell? ⟨gb187, 0, none⟩ = some (.bool false) := (blk_cell BK187.out 0).trans rfl; have hcz58_1 : wc.cell? ⟨gb187, 1, none⟩ = some (.string (⟨#[]⟩ : ByteArray)) := (blk_cell BK187.out 1).trans rfl; have hcz58_2 : wc.cell? ⟨gb187, 2, none⟩ = some (.string (⟨#[]⟩ : ByteArray)) := (blk_cell BK187.out 2).trans rfl; have hcz58_3 : wc.cell? ⟨gb187, 3, none⟩ = some (.int .i64 0) := (blk_cell BK187.out 3).trans rfl; have hfz58_0 := blk_frozen BK187.out 0; have hfz58_1 := blk_frozen BK187.out 1; have hfz58_2 := blk_frozen BK187.out 2; have hfz58_3 := blk_frozen BK187.out 3))
           refine bodyPost_ret (results_ct rfl _ _ gb187 25 #[.bool t188, .string t189, .string t190, .int .i64 t191] (0, 0) _ rfl qnp16_ Tryd.underlying25 rfl (by kernel_rfl)) rfl ?_
           exact ⟨qnp5_, qnp15_⟩
         ·
          rw [if_neg c47] at H
          have c47b0 : (t189.toList == ([] : List UInt8)) = false := beq_eq_false_iff_ne.mpr c47
          have c47b1 : (t189.toList != ([] : List UInt8)) = true := bne_iff_ne.mpr c47
          simp only [Option.some.injEq, Prod.mk.injEq] at H
          obtain ⟨rfl, rfl, rfl, rfl, rfl⟩ := H
          go_wp2_with (first | ((with_reducible refine gate_callee (f := 39) rfl ?_); refine goesL_ (some 27) rfl rfl Tryd.func39 (by kernel_rfl) rfl #[.string (⟨#[75, 77, 71, 84, 80, 69, 90, 89, 82, 81]⟩ : ByteArray), .int .u8 x5_23] rfl qnp0_ ?_; (with_reducible refine (strings_IndexByte.calls (⟨#[75, 77, 71, 84, 80, 69, 90, 89, 82, 81]⟩ : ByteArray) x5_23 t193 _ A28.out).mono ?_); rintro e w' ⟨rfl, ⟨nd, rfl⟩⟩; refine ⟨_, rfl, ?_⟩; (try (rw [drewN_self wc]; generalize hq_ : World.drewN wc _ = wc; have n0_ : Aside0 (wc.heap[gb187]? = some (.cells #[.bool false, .string (⟨#[]⟩ : ByteArray), .string (⟨#[]⟩ : ByteArray), .int .i64 0] 25 (0, 0))) := ⟨by rw [← hq_]; exact qnp35_⟩; have n1_ : Aside0 (wc.heap[gb192]? = some (.cells #[.bool t188, .string t189, .string t190, .int .i64 t191] 25 (0, 0))) := ⟨by rw [← hq_]; exact qnp51_⟩; have n2_ : Aside0 (Below w.heap.size w wc) := ⟨by rw [← hq_]; exact qnp15_⟩; clear BK187 BK192 HB hq_; have BK187 := n0_; have BK192 := n1_; have HB := n2_; clear n0_ n1_ n2_)); (try (have hcu59_0 : wc.cell? ⟨gb187, 0, none⟩ = some (.bool false) := (blk_cell BK187.out 0).trans rfl; have hfu59_0 := blk_frozen BK187.out 0; have hcu59_1 : wc.cell? ⟨gb187, 1, none⟩ = some (.string (⟨#[]⟩ : ByteArray)) := (blk_cell BK187.out 1).trans rfl; have hfu59_1 := blk_frozen BK187.out 1; have hcu59_2 : wc.cell? ⟨gb187, 2, none⟩ = some (.string (⟨#[]⟩ : ByteArray)) := (blk_cell BK187.out 2).trans rfl; have hfu59_2 := blk_frozen BK187.out 2; have hcu59_3 : wc.cell? ⟨gb187, 3, none⟩ = some (.int .i64 0) := (blk_cell BK187.out 3).trans rfl; have hfu59_3 := blk_frozen BK187.out 3)); (try (have hcu60_0 : wc.cell? ⟨gb192, 0, none⟩ = some (.bool t188) := (blk_cell BK192.out 0).trans rfl; have hfu60_0 := blk_frozen BK192.out 0; have hcu60_1 : wc.cell? ⟨gb192, 1, none⟩ = some (.string t189) := (blk_cell BK192.out 1).trans rfl; have hfu60_1 := blk_frozen BK192.out 1; have hcu60_2 : wc.cell? ⟨gb192, 2, none⟩ = some (.string t190) := (blk_cell BK192.out 2).trans rfl; have hfu60_2 := blk_frozen BK192.out 2; have hcu60_3 : wc.cell? ⟨gb192, 3, none⟩ = some (.int .i64 t191) := (blk_cell BK192.out 3).trans rfl; have hfu60_3 := blk_frozen BK192.out 3)); have hnb61 := NB192_187.out; have hnc61 := NB187_192.out; have hcz62_0 : wc.cell? ⟨gb192, 0, none⟩ = some (.bool t188) := (blk_cell BK192.out 0).trans rfl; have hcz62_1 : wc.cell? ⟨gb192, 1, none⟩ = some (.string t189) := (blk_cell BK192.out 1).trans rfl; have hcz62_2 : wc.cell? ⟨gb192, 2, none⟩ = some (.string t190) := (blk_cell BK192.out 2).trans rfl; have hcz62_3 : wc.cell? ⟨gb192, 3, none⟩ = some (.int .i64 t191) := (blk_cell BK192.out 3).trans rfl; have hfz62_0 := blk_frozen BK192.out 0; have hfz62_1 := blk_frozen BK192.out 1; have hfz62_2 := blk_frozen BK192.out 2; have hfz62_3 := blk_frozen BK192.out 3; have hcz63_0 : wc.cell? ⟨gb187, 0, none⟩ = some (.bool false) := (blk_cell BK187.out 0).trans rfl; have hcz63_1 : wc.cell? ⟨gb187, 1, none⟩ = some (.string (⟨#[]⟩ : ByteArray)) := (blk_cell BK187.out 1).trans rfl; have hcz63_2 : wc.cell? ⟨gb187, 2, none⟩ = some (.string (⟨#[]⟩ : ByteArray)) := (blk_cell BK187.out 2).trans rfl; have hcz63_3 : wc.cell? ⟨gb187, 3, none⟩ = some (.int .i64 0) := (blk_cell BK187.out 3).trans rfl; have hfz63_0 := blk_frozen BK187.out 0; have hfz63_1 := blk_frozen BK187.out 1; have hfz63_2 := blk_frozen BK187.out 2; have hfz63_3 := blk_frozen BK187.out 3))
          refine bodyPost_ret (results_ct rfl _ _ gb187 25 #[.bool t188, .string t189, .string t190, .int .i64 t191] (0, 0) _ rfl qnp16_ Tryd.underlying25 rfl (by kernel_rfl)) rfl ?_
          exact ⟨qnp5_, qnp15_⟩
     ·
      rw [if_neg c22] at H
      exact absurd H (by simp)
    ·
     rw [if_neg c21] at H
     exact absurd H (by simp)


/-! ### numeral_human: function 50 -/
def numeral_human.f (k : Nat) (a0 : Int) (a1 : ByteArray) : Option (Int × Int × Int × ByteArray) := (numeral_Human.f k a1).bind fun bt245 => (if a0 = 16 then ((numeral_digits.f k bt245.2.1 bt245.2.2.1 0).bind fun bt251 => ((numeral_sizeOf.f bt245.1 bt251.1 bt251.2 0).bind fun bt253 => (some (bt253.1, bt253.2.1, bt253.2.2.1, bt253.2.2.2)))) else ((numeral_digits.f k bt245.2.1 bt245.2.2.1 0).bind fun bt257 => ((numeral_sizeOf.f bt245.1 bt257.1 bt257.2 bt245.2.2.2.2).bind fun bt259 => (some (bt259.1, bt259.2.1, bt259.2.2.1, bt259.2.2.2)))))
set_option maxHeartbeats 8000000 in
set_option maxRecDepth 100000 in
theorem numeral_human.calls (k : Nat) (a0 : Int) (a1 : ByteArray) (r1 : Int) (r2 : Int) (r3 : Int) (r4 : ByteArray) (w : World) (h : numeral_human.f k a0 a1 = some (r1, r2, r3, r4)) :
  Calls Tryd.prog 50 #[.int .u16 a0, .string a1] w fun e w' => e = .returned (.agg #[.int .i64 r1, .int .i64 r2, .int .i64 r3, .string r4]) ∧ Below w.heap.size w w' := by
 have hu77 := Tryd.underlying77
 have hu25 := Tryd.underlying25
 have HB := Aside0.mk (Below.refl w.heap.size w)
 have H : ((numeral_Human.f k a1).bind fun bt245 => (if a0 = 16 then ((numeral_digits.f k bt245.2.1 bt245.2.2.1 0).bind fun bt251 => ((numeral_sizeOf.f bt245.1 bt251.1 bt251.2 0).bind fun bt253 => (some (bt253.1, bt253.2.1, bt253.2.2.1, bt253.2.2.2)))) else ((numeral_digits.f k bt245.2.1 bt245.2.2.1 0).bind fun bt257 => ((numeral_sizeOf.f bt245.1 bt257.1 bt257.2 bt245.2.2.2.2).bind fun bt259 => (some (bt259.1, bt259.2.1, bt259.2.2.1, bt259.2.2.2)))))) = some (r1, r2, r3, r4) := h
 clear h
 replace H := Option.bind_eq_some_iff.mp H
 obtain ⟨⟨t245, t246, t247, t248, t249⟩, A30, H⟩ := H
 replace H : (if a0 = 16 then ((numeral_digits.f k t246 t247 0).bind fun bt251 => ((numeral_sizeOf.f t245 bt251.1 bt251.2 0).bind fun bt253 => (some (bt253.1, bt253.2.1, bt253.2.2.1, bt253.2.2.2)))) else ((numeral_digits.f k t246 t247 0).bind fun bt257 => ((numeral_sizeOf.f t245 bt257.1 bt257.2 t249).bind fun bt259 => (some (bt259.1, bt259.2.1, bt259.2.2.1, bt259.2.2.2))))) = some (r1, r2, r3, r4) := H
 have A3 := Aside0.mk A30
 clear A30
 by_cases c4 : a0 = 16
 ·
  rw [if_pos c4] at H
  have c4b0 : (a0 == 16) = true := beq_iff_eq.mpr c4
  have c4b1 : (a0 != 16) = false := bne_eq_false_iff_eq.mpr c4
  clear c4
  replace H := Option.bind_eq_some_iff.mp H
  obtain ⟨⟨t251, t252⟩, A50, H⟩ := H
  replace H : ((numeral_sizeOf.f t245 t251 t252 0).bind fun bt253 => (some (bt253.1, bt253.2.1, bt253.2.2.1, bt253.2.2.2))) = some (r1, r2, r3, r4) := H
  have A5 := Aside0.mk A50
  clear A50
  replace H := Option.bind_eq_some_iff.mp H
  obtain ⟨⟨t253, t254, t255, t256⟩, A60, H⟩ := H
  replace H : (some (t253, t254, t255, t256)) = some (r1, r2, r3, r4) := H
  have A6 := Aside0.mk A60
  clear A60
  simp only [Option.some.injEq, Prod.mk.injEq] at H
  obtain ⟨rfl, rfl, rfl, rfl⟩ := H
  go_enter Tryd.func50, Tryd.ntmps50
  have tk16 : True := trivial; have tk17 : True := trivial; have tk18 : True := trivial; have tk19 : True := trivial; have tk20 : True := trivial
  go_wp2_with (first | (have ztk16 := tk16; clear tk16 ztk16; (with_reducible refine gate_dst (N := 4) rfl ?_); refine box_event ?hg (N := 4) ?hd (cs := #[.int .i64 0, .int .i64 0, .int .i64 0, .string (⟨#[]⟩ : ByteArray)]) (t := 77) ?hr ?_; (case hd => rfl); (case hg => rfl); (case hr => first | (go_simp; done) | (go_simp; rfl)); intro gb244 hg w7 hbox hb; have n0_ := Aside0.mk (below_step qnp1_ hb); have n1_ := Aside0.mk (hbox); have n2_ := Aside0.mk ((by rw [hg]; exact (below_size qnp1_) : w.heap.size ≤ gb244)); have n3_ := Aside0.mk ((by rw [hg]; exact (below_size qnp1_) : w.heap.size ≤ gb244)); clear HB; have HB := n0_; have BK244 := n1_; have GW244 := n2_; have GE244 := n3_; clear n0_ n1_ n2_ n3_; clear hb hbox hg) | (have ztk17 := tk17; clear tk17 ztk17; (with_reducible refine gate_callee (f := 20) rfl ?_); refine goesL_ (some 11) rfl rfl Tryd.func20 (by kernel_rfl) rfl #[.string a1] rfl qnp0_ ?_; (with_reducible refine (numeral_Human.calls k a1 t245 t246 t247 t248 t249 _ A3.out).mono ?_); rintro e w8 ⟨rfl, hb⟩; refine ⟨_, rfl, ?_⟩; have n0_ := Aside0.mk (blk_below (g := gb244) (o := .cells #[.int .i64 0, .int .i64 0, .int .i64 0, .string (⟨#[]⟩ : ByteArray)] 77 (0, 0)) qnp40_ hb); have n1_ := Aside0.mk (below_step qnp37_ hb); clear BK244; clear HB; have BK244 := n0_; have HB := n1_; clear n0_ n1_; (try clear hb); (try clear hb2); (try clear hk); (try clear hi)) | (have ztk18 := tk18; clear tk18 ztk18; (with_reducible refine gate_dst (N := 5) rfl ?_); refine box_event ?hg (N := 5) ?hd (cs := #[.bool false, .string (⟨#[]⟩ : ByteArray), .string (⟨#[]⟩ : ByteArray), .int .i64 0]) (t := 25) ?hr ?_; (case hd => rfl); (case hg => rfl); (case hr => first | (go_simp; done) | (go_simp; rfl)); intro gb250 hg w9 hbox hb; have n0_ := Aside0.mk (blk_below (g := gb244) (o := .cells #[.int .i64 0, .int .i64 0, .int .i64 0, .string (⟨#[]⟩ : ByteArray)] 77 (0, 0)) qnp40_ hb); have n1_ := Aside0.mk (below_step qnp37_ hb); have n2_ := Aside0.mk (hbox); have n3_ := Aside0.mk ((by rw [hg]; exact (below_size qnp37_) : w.heap.size ≤ gb250)); have n4_ := Aside0.mk ((by rw [hg]; exact (below_size qnp37_) : w.heap.size ≤ gb250)); have n5_ := Aside0.mk ((by rw [hg]; exact Nat.ne_of_lt (blk_lt (g := gb244) (o := .cells #[.int .i64 0, .int .i64 0, .int .i64 0, .string (⟨#[]⟩ : ByteArray)] 77 (0, 0)) qnp40_) : gb244 ≠ gb250)); have n6_ := Aside0.mk ((by rw [hg]; exact Nat.ne_of_gt (blk_lt (g := gb244) (o := .cells #[.int .i64 0, .int .i64 0, .int .i64 0, .string (⟨#[]⟩ : ByteArray)] 77 (0, 0)) qnp40_) : gb250 ≠ gb244)); clear BK244; clear HB; have BK244 := n0_; have HB := n1_; have BK250 := n2_; have GW250 := n3_; have GE250 := n4_; have NB244_250 := n5_; have NB250_244 := n6_; clear n0_ n1_ n2_ n3_ n4_ n5_ n6_; clear hb hbox hg; have hnb10 := NB250_244.out; have hnc10 := NB244_250.out; have hcz11_0 : w9.cell? ⟨gb250, 0, none⟩ = some (.bool false) := (blk_cell BK250.out 0).trans rfl; have hcz11_1 : w9.cell? ⟨gb250, 1, none⟩ = some (.string (⟨#[]⟩ : ByteArray)) := (blk_cell BK250.out 1).trans rfl; have hcz11_2 : w9.cell? ⟨gb250, 2, none⟩ = some (.string (⟨#[]⟩ : ByteArray)) := (blk_cell BK250.out 2).trans rfl; have hcz11_3 : w9.cell? ⟨gb250, 3, none⟩ = some (.int .i64 0) := (blk_cell BK250.out 3).trans rfl; have hfz11_0 := blk_frozen BK250.out 0; have hfz11_1 := blk_frozen BK250.out 1; have hfz11_2 := blk_frozen BK250.out 2; have hfz11_3 := blk_frozen BK250.out 3) | (have ztk19 := tk19; clear tk19 ztk19; (with_reducible refine gate_callee (f := 38) rfl ?_); refine goesL_ (some 21) rfl rfl Tryd.func38 (by kernel_rfl) rfl #[.string t246, .string t247, .int .i64 0] rfl qnp0_ ?_; (with_reducible refine (numeral_digits.calls k t246 t247 0 t251 t252 _ A5.out).mono ?_); rintro e w12 ⟨rfl, hb⟩; refine ⟨_, rfl, ?_⟩; have n0_ := Aside0.mk (blk_below (g := gb244) (o := .cells #[.int .i64 0, .int .i64 0, .int .i64 0, .string (⟨#[]⟩ : ByteArray)] 77 (0, 0)) (by (with_reducible repeat (first | refine blk_drewN ?_ _ | refine blk_drew ?_ | refine blk_alloc ?_ _)); refine blk_far ?_ NB244_250.out _; (with_reducible repeat (first | refine blk_drewN ?_ _ | refine blk_drew ?_ | refine blk_alloc ?_ _)); refine blk_far ?_ NB244_250.out _; (with_reducible repeat (first | refine blk_drewN ?_ _ | refine blk_drew ?_ | refine blk_alloc ?_ _)); refine blk_far ?_ NB244_250.out _; (with_reducible repeat (first | refine blk_drewN ?_ _ | refine blk_drew ?_ | refine blk_alloc ?_ _)); refine blk_far ?_ NB244_250.out _; (with_reducible repeat (first | refine blk_drewN ?_ _ | refine blk_drew ?_ | refine blk_alloc ?_ _)); exact BK244.out) hb); have n1_ := Aside0.mk (blk_below (g := gb250) (o := .cells #[.bool t245, .string t246, .string t247, .int .i64 t248] 25 (0, 0)) (by (with_reducible repeat (first | refine blk_drewN ?_ _ | refine blk_drew ?_ | refine blk_alloc ?_ _)); refine blk_put (cs := #[.bool t245, .string t246, .string t247, .int .i64 0]) ?_ 3 _ rfl; (with_reducible repeat (first | refine blk_drewN ?_ _ | refine blk_drew ?_ | refine blk_alloc ?_ _)); refine blk_put (cs := #[.bool t245, .string t246, .string (⟨#[]⟩ : ByteArray), .int .i64 0]) ?_ 2 _ rfl; (with_reducible repeat (first | refine blk_drewN ?_ _ | refine blk_drew ?_ | refine blk_alloc ?_ _)); refine blk_put (cs := #[.bool t245, .string (⟨#[]⟩ : ByteArray), .string (⟨#[]⟩ : ByteArray), .int .i64 0]) ?_ 1 _ rfl; (with_reducible repeat (first | refine blk_drewN ?_ _ | refine blk_drew ?_ | refine blk_alloc ?_ _)); refine blk_put (cs := #[.bool false, .string (⟨#[]⟩ : ByteArray), .string (⟨#[]⟩ : ByteArray), .int .i64 0]) ?_ 0 _ rfl; (with_reducible repeat (first | refine blk_drewN ?_ _ | refine blk_drew ?_ | refine blk_alloc ?_ _)); exact BK250.out) hb); have n2_ := Aside0.mk (below_step qnp44_ hb); clear BK244; clear BK250; clear HB; have BK244 := n0_; have BK250 := n1_; have HB := n2_; clear n0_ n1_ n2_; (try clear hb); (try clear hb2); (try clear hk); (try clear hi); have hcz13_0 : w12.cell? ⟨gb250, 0, none⟩ = some (.bool t245) := (blk_cell BK250.out 0).trans rfl; have hcz13_1 : w12.cell? ⟨gb250, 1, none⟩ = some (.string t246) := (blk_cell BK250.out 1).trans rfl; have hcz13_2 : w12.cell? ⟨gb250, 2, none⟩ = some (.string t247) := (blk_cell BK250.out 2).trans rfl; have hcz13_3 : w12.cell? ⟨gb250, 3, none⟩ = some (.int .i64 t248) := (blk_cell BK250.out 3).trans rfl; have hfz13_0 := blk_frozen BK250.out 0; have hfz13_1 := blk_frozen BK250.out 1; have hfz13_2 := blk_frozen BK250.out 2; have hfz13_3 := blk_frozen BK250.out 3) | (have ztk20 := tk20; clear tk20 ztk20; (with_reducible refine gate_callee (f := 54) rfl ?_); refine goesL_ (some 29) rfl rfl Tryd.func54 (by kernel_rfl) rfl #[.bool t245, .string t251, .int .i64 t252, .int .i64 0] rfl qnp0_ ?_; (with_reducible refine (numeral_sizeOf.calls t245 t251 t252 0 t253 t254 t255 t256 _ A6.out).mono ?_); rintro e w14 ⟨rfl, hb⟩; refine ⟨_, rfl, ?_⟩; have n0_ := Aside0.mk (blk_below (g := gb244) (o := .cells #[.int .i64 0, .int .i64 0, .int .i64 0, .string (⟨#[]⟩ : ByteArray)] 77 (0, 0)) qnp40_ hb); have n1_ := Aside0.mk (blk_below (g := gb250) (o := .cells #[.bool t245, .string t246, .string t247, .int .i64 t248] 25 (0, 0)) (by (with_reducible repeat (first | refine blk_drewN ?_ _ | refine blk_drew ?_ | refine blk_alloc ?_ _)); exact BK250.out) hb); have n2_ := Aside0.mk (below_step qnp44_ hb); clear BK244; clear BK250; clear HB; have BK244 := n0_; have BK250 := n1_; have HB := n2_; clear n0_ n1_ n2_; (try clear hb); (try clear hb2); (try clear hk); (try clear hi); have hcz15_0 : w14.cell? ⟨gb244, 0, none⟩ = some (.int .i64 0) := (blk_cell BK244.out 0).trans rfl; have hcz15_1 : w14.cell? ⟨gb244, 1, none⟩ = some (.int .i64 0) := (blk_cell BK244.out 1).trans rfl; have hcz15_2 : w14.cell? ⟨gb244, 2, none⟩ = some (.int .i64 0) := (blk_cell BK244.out 2).trans rfl; have hcz15_3 : w14.cell? ⟨gb244, 3, none⟩ = some (.string (⟨#[]⟩ : ByteArray)) := (blk_cell BK244.out 3).trans rfl; have hfz15_0 := blk_frozen BK244.out 0; have hfz15_1 := blk_frozen BK244.out 1; have hfz15_2 := blk_frozen BK244.out 2; have hfz15_3 := blk_frozen BK244.out 3))
  refine bodyPost_ret (results_cell_row rfl _ _ gb244 77 #[.int .i64 t253, .int .i64 t254, .int .i64 t255, .string t256] (0, 0) _ rfl (by (with_reducible repeat (first | refine blk_drewN ?_ _ | refine blk_drew ?_ | refine blk_alloc ?_ _)); refine blk_put (cs := #[.int .i64 t253, .int .i64 t254, .int .i64 t255, .string (⟨#[]⟩ : ByteArray)]) ?_ 3 _ rfl; (with_reducible repeat (first | refine blk_drewN ?_ _ | refine blk_drew ?_ | refine blk_alloc ?_ _)); refine blk_put (cs := #[.int .i64 t253, .int .i64 t254, .int .i64 0, .string (⟨#[]⟩ : ByteArray)]) ?_ 2 _ rfl; (with_reducible repeat (first | refine blk_drewN ?_ _ | refine blk_drew ?_ | refine blk_alloc ?_ _)); refine blk_put (cs := #[.int .i64 t253, .int .i64 0, .int .i64 0, .string (⟨#[]⟩ : ByteArray)]) ?_ 1 _ rfl; (with_reducible repeat (first | refine blk_drewN ?_ _ | refine blk_drew ?_ | refine blk_alloc ?_ _)); refine blk_put (cs := #[.int .i64 0, .int .i64 0, .int .i64 0, .string (⟨#[]⟩ : ByteArray)]) ?_ 0 _ rfl; (with_reducible repeat (first | refine blk_drewN ?_ _ | refine blk_drew ?_ | refine blk_alloc ?_ _)); exact BK244.out) Tryd.underlying77 rfl (by kernel_rfl)) rfl ?_
  exact ⟨qnp5_, qnp44_⟩
 ·
  rw [if_neg c4] at H
  have c4b0 : (a0 == 16) = false := beq_eq_false_iff_ne.mpr c4
  have c4b1 : (a0 != 16) = true := bne_iff_ne.mpr c4
  replace H := Option.bind_eq_some_iff.mp H
  obtain ⟨⟨t257, t258⟩, A210, H⟩ := H
  replace H : ((numeral_sizeOf.f t245 t257 t258 t249).bind fun bt259 => (some (bt259.1, bt259.2.1, bt259.2.2.1, bt259.2.2.2))) = some (r1, r2, r3, r4) := H
  have A21 := Aside0.mk A210
  clear A210
  replace H := Option.bind_eq_some_iff.mp H
  obtain ⟨⟨t259, t260, t261, t262⟩, A220, H⟩ := H
  replace H : (some (t259, t260, t261, t262)) = some (r1, r2, r3, r4) := H
  have A22 := Aside0.mk A220
  clear A220
  simp only [Option.some.injEq, Prod.mk.injEq] at H
  obtain ⟨rfl, rfl, rfl, rfl⟩ := H
  go_enter Tryd.func50, Tryd.ntmps50
  have tk32 : True := trivial; have tk33 : True := trivial; have tk34 : True := trivial; have tk35 : True := trivial; have tk36 : True := trivial
  go_wp2_with (first | (have ztk32 := tk32; clear tk32 ztk32; (with_reducible refine gate_dst (N := 4) rfl ?_); refine box_event ?hg (N := 4) ?hd (cs := #[.int .i64 0, .int .i64 0, .int .i64 0, .string (⟨#[]⟩ : ByteArray)]) (t := 77) ?hr ?_; (case hd => rfl); (case hg => rfl); (case hr => first | (go_simp; done) | (go_simp; rfl)); intro gb244 hg w23 hbox hb; have n0_ := Aside0.mk (below_step qnp1_ hb); have n1_ := Aside0.mk (hbox); have n2_ := Aside0.mk ((by rw [hg]; exact (below_size qnp1_) : w.heap.size ≤ gb244)); have n3_ := Aside0.mk ((by rw [hg]; exact (below_size qnp1_) : w.heap.size ≤ gb244)); clear HB; have HB := n0_; have BK244 := n1_; have GW244 := n2_; have GE244 := n3_; clear n0_ n1_ n2_ n3_; clear hb hbox hg) | (have ztk33 := tk33; clear tk33 ztk33; (with_reducible refine gate_callee (f := 20) rfl ?_); refine goesL_ (some 11) rfl rfl Tryd.func20 (by kernel_rfl) rfl #[.string a1] rfl qnp0_ ?_; (with_reducible refine (numeral_Human.calls k a1 t245 t246 t247 t248 t249 _ A3.out).mono ?_); rintro e w24 ⟨rfl, hb⟩; refine ⟨_, rfl, ?_⟩; have n0_ := Aside0.mk (blk_below (g := gb244) (o := .cells #[.int .i64 0, .int .i64 0, .int .i64 0, .string (⟨#[]⟩ : ByteArray)] 77 (0, 0)) qnp40_ hb); have n1_ := Aside0.mk (below_step qnp37_ hb); clear BK244; clear HB; have BK244 := n0_; have HB := n1_; clear n0_ n1_; (try clear hb); (try clear hb2); (try clear hk); (try clear hi)) | (have ztk34 := tk34; clear tk34 ztk34; (with_reducible refine gate_dst (N := 5) rfl ?_); refine box_event ?hg (N := 5) ?hd (cs := #[.bool false, .string (⟨#[]⟩ : ByteArray), .string (⟨#[]⟩ : ByteArray), .int .i64 0]) (t := 25) ?hr ?_; (case hd => rfl); (case hg => rfl); (case hr => first | (go_simp; done) | (go_simp; rfl)); intro gb250 hg w25 hbox hb; have n0_ := Aside0.mk (blk_below (g := gb244) (o := .cells #[.int .i64 0, .int .i64 0, .int .i64 0, .string (⟨#[]⟩ : ByteArray)] 77 (0, 0)) qnp40_ hb); have n1_ := Aside0.mk (below_step qnp37_ hb); have n2_ := Aside0.mk (hbox); have n3_ := Aside0.mk ((by rw [hg]; exact (below_size qnp37_) : w.heap.size ≤ gb250)); have n4_ := Aside0.mk ((by rw [hg]; exact (below_size qnp37_) : w.heap.size ≤ gb250)); have n5_ := Aside0.mk ((by rw [hg]; exact Nat.ne_of_lt (blk_lt (g := gb244) (o := .cells #[.int .i64 0, .int .i64 0, .int .i64 0, .string (⟨#[]⟩ : ByteArray)] 77 (0, 0)) qnp40_) : gb244 ≠ gb250)); have n6_ := Aside0.mk ((by rw [hg]; exact Nat.ne_of_gt (blk_lt (g := gb244) (o := .cells #[.int .i64 0, .int .i64 0, .int .i64 0, .string (⟨#[]⟩ : ByteArray)] 77 (0, 0)) qnp40_) : gb250 ≠ gb244)); clear BK244; clear HB; have BK244 := n0_; have HB := n1_; have BK250 := n2_; have GW250 := n3_; have GE250 := n4_; have NB244_250 := n5_; have NB250_244 := n6_; clear n0_ n1_ n2_ n3_ n4_ n5_ n6_; clear hb hbox hg; have hnb26 := NB250_244.out; have hnc26 := NB244_250.out; have hcz27_0 : w25.cell? ⟨gb250, 0, none⟩ = some (.bool false) := (blk_cell BK250.out 0).trans rfl; have hcz27_1 : w25.cell? ⟨gb250, 1, none⟩ = some (.string (⟨#[]⟩ : ByteArray)) := (blk_cell BK250.out 1).trans rfl; have hcz27_2 : w25.cell? ⟨gb250, 2, none⟩ = some (.string (⟨#[]⟩ : ByteArray)) := (blk_cell BK250.out 2).trans rfl; have hcz27_3 : w25.cell? ⟨gb250, 3, none⟩ = some (.int .i64 0) := (blk_cell BK250.out 3).trans rfl; have hfz27_0 := blk_frozen BK250.out 0; have hfz27_1 := blk_frozen BK250.out 1; have hfz27_2 := blk_frozen BK250.out 2; have hfz27_3 := blk_frozen BK250.out 3) | (have ztk35 := tk35; clear tk35 ztk35; (with_reducible refine gate_callee (f := 38) rfl ?_); refine goesL_ (some 21) rfl rfl Tryd.func38 (by kernel_rfl) rfl #[.string t246, .string t247, .int .i64 0] rfl qnp0_ ?_; (with_reducible refine (numeral_digits.calls k t246 t247 0 t257 t258 _ A21.out).mono ?_); rintro e w28 ⟨rfl, hb⟩; refine ⟨_, rfl, ?_⟩; have n0_ := Aside0.mk (blk_below (g := gb244) (o := .cells #[.int .i64 0, .int .i64 0, .int .i64 0, .string (⟨#[]⟩ : ByteArray)] 77 (0, 0)) (by (with_reducible repeat (first | refine blk_drewN ?_ _ | refine blk_drew ?_ | refine blk_alloc ?_ _)); refine blk_far ?_ NB244_250.out _; (with_reducible repeat (first | refine blk_drewN ?_ _ | refine blk_drew ?_ | refine blk_alloc ?_ _)); refine blk_far ?_ NB244_250.out _; (with_reducible repeat (first | refine blk_drewN ?_ _ | refine blk_drew ?_ | refine blk_alloc ?_ _)); refine blk_far ?_ NB244_250.out _; (with_reducible repeat (first | refine blk_drewN ?_ _ | refine blk_drew ?_ | refine blk_alloc ?_ _)); refine blk_far ?_ NB244_250.out _; (with_reducible repeat (first | refine blk_drewN ?_ _ | refine blk_drew ?_ | refine blk_alloc ?_ _)); exact BK244.out) hb); have n1_ := Aside0.mk (blk_below (g := gb250) (o := .cells #[.bool t245, .string t246, .string t247, .int .i64 t248] 25 (0, 0)) (by (with_reducible repeat (first | refine blk_drewN ?_ _ | refine blk_drew ?_ | refine blk_alloc ?_ _)); refine blk_put (cs := #[.bool t245, .string t246, .string t247, .int .i64 0]) ?_ 3 _ rfl; (with_reducible repeat (first | refine blk_drewN ?_ _ | refine blk_drew ?_ | refine blk_alloc ?_ _)); refine blk_put (cs := #[.bool t245, .string t246, .string (⟨#[]⟩ : ByteArray), .int .i64 0]) ?_ 2 _ rfl; (with_reducible repeat (first | refine blk_drewN ?_ _ | refine blk_drew ?_ | refine blk_alloc ?_ _)); refine blk_put (cs := #[.bool t245, .string (⟨#[]⟩ : ByteArray), .string (⟨#[]⟩ : ByteArray), .int .i64 0]) ?_ 1 _ rfl; (with_reducible repeat (first | refine blk_drewN ?_ _ | refine blk_drew ?_ | refine blk_alloc ?_ _)); refine blk_put (cs := #[.bool false, .string (⟨#[]⟩ : ByteArray), .string (⟨#[]⟩ : ByteArray), .int .i64 0]) ?_ 0 _ rfl; (with_reducible repeat (first | refine blk_drewN ?_ _ | refine blk_drew ?_ | refine blk_alloc ?_ _)); exact BK250.out) hb); have n2_ := Aside0.mk (below_step qnp44_ hb); clear BK244; clear BK250; clear HB; have BK244 := n0_; have BK250 := n1_; have HB := n2_; clear n0_ n1_ n2_; (try clear hb); (try clear hb2); (try clear hk); (try clear hi); have hcz29_0 : w28.cell? ⟨gb250, 0, none⟩ = some (.bool t245) := (blk_cell BK250.out 0).trans rfl; have hcz29_1 : w28.cell? ⟨gb250, 1, none⟩ = some (.string t246) := (blk_cell BK250.out 1).trans rfl; have hcz29_2 : w28.cell? ⟨gb250, 2, none⟩ = some (.string t247) := (blk_cell BK250.out 2).trans rfl; have hcz29_3 : w28.cell? ⟨gb250, 3, none⟩ = some (.int .i64 t248) := (blk_cell BK250.out 3).trans rfl; have hfz29_0 := blk_frozen BK250.out 0; have hfz29_1 := blk_frozen BK250.out 1; have hfz29_2 := blk_frozen BK250.out 2; have hfz29_3 := blk_frozen BK250.out 3) | (have ztk36 := tk36; clear tk36 ztk36; (with_reducible refine gate_callee (f := 54) rfl ?_); refine goesL_ (some 29) rfl rfl Tryd.func54 (by kernel_rfl) rfl #[.bool t245, .string t257, .int .i64 t258, .int .i64 t249] rfl qnp0_ ?_; (with_reducible refine (numeral_sizeOf.calls t245 t257 t258 t249 t259 t260 t261 t262 _ A22.out).mono ?_); rintro e w30 ⟨rfl, hb⟩; refine ⟨_, rfl, ?_⟩; have n0_ := Aside0.mk (blk_below (g := gb244) (o := .cells #[.int .i64 0, .int .i64 0, .int .i64 0, .string (⟨#[]⟩ : ByteArray)] 77 (0, 0)) qnp40_ hb); have n1_ := Aside0.mk (blk_below (g := gb250) (o := .cells #[.bool t245, .string t246, .string t247, .int .i64 t248] 25 (0, 0)) (by (with_reducible repeat (first | refine blk_drewN ?_ _ | refine blk_drew ?_ | refine blk_alloc ?_ _)); exact BK250.out) hb); have n2_ := Aside0.mk (below_step qnp44_ hb); clear BK244; clear BK250; clear HB; have BK244 := n0_; have BK250 := n1_; have HB := n2_; clear n0_ n1_ n2_; (try clear hb); (try clear hb2); (try clear hk); (try clear hi); have hcz31_0 : w30.cell? ⟨gb244, 0, none⟩ = some (.int .i64 0) := (blk_cell BK244.out 0).trans rfl; have hcz31_1 : w30.cell? ⟨gb244, 1, none⟩ = some (.int .i64 0) := (blk_cell BK244.out 1).trans rfl; have hcz31_2 : w30.cell? ⟨gb244, 2, none⟩ = some (.int .i64 0) := (blk_cell BK244.out 2).trans rfl; have hcz31_3 : w30.cell? ⟨gb244, 3, none⟩ = some (.string (⟨#[]⟩ : ByteArray)) := (blk_cell BK244.out 3).trans rfl; have hfz31_0 := blk_frozen BK244.out 0; have hfz31_1 := blk_frozen BK244.out 1; have hfz31_2 := blk_frozen BK244.out 2; have hfz31_3 := blk_frozen BK244.out 3))
  refine bodyPost_ret (results_cell_row rfl _ _ gb244 77 #[.int .i64 t259, .int .i64 t260, .int .i64 t261, .string t262] (0, 0) _ rfl (by (with_reducible repeat (first | refine blk_drewN ?_ _ | refine blk_drew ?_ | refine blk_alloc ?_ _)); refine blk_put (cs := #[.int .i64 t259, .int .i64 t260, .int .i64 t261, .string (⟨#[]⟩ : ByteArray)]) ?_ 3 _ rfl; (with_reducible repeat (first | refine blk_drewN ?_ _ | refine blk_drew ?_ | refine blk_alloc ?_ _)); refine blk_put (cs := #[.int .i64 t259, .int .i64 t260, .int .i64 0, .string (⟨#[]⟩ : ByteArray)]) ?_ 2 _ rfl; (with_reducible repeat (first | refine blk_drewN ?_ _ | refine blk_drew ?_ | refine blk_alloc ?_ _)); refine blk_put (cs := #[.int .i64 t259, .int .i64 0, .int .i64 0, .string (⟨#[]⟩ : ByteArray)]) ?_ 1 _ rfl; (with_reducible repeat (first | refine blk_drewN ?_ _ | refine blk_drew ?_ | refine blk_alloc ?_ _)); refine blk_put (cs := #[.int .i64 0, .int .i64 0, .int .i64 0, .string (⟨#[]⟩ : ByteArray)]) ?_ 0 _ rfl; (with_reducible repeat (first | refine blk_drewN ?_ _ | refine blk_drew ?_ | refine blk_alloc ?_ _)); exact BK244.out) Tryd.underlying77 rfl (by kernel_rfl)) rfl ?_
  exact ⟨qnp5_, qnp44_⟩


/-! ### numeral_pair: function 74 -/
mutual
def numeral_pair.j1 : Nat → ByteArray → Int → Option (ByteArray × ByteArray × ByteArray)
 | 0, _, _ => none
 | k + 1, x0, x5 => numeral_pair.l1 k x0 x5 x5
def numeral_pair.l1 : Nat → ByteArray → Int → Int → Option (ByteArray × ByteArray × ByteArray)
 | 0, _, _, _ => none
 | k + 1, x0, x5, x6 => if x6 < (x0.size : Int) then (if 0 ≤ x6 then ((numeral_digit.f (bt x0 x6)).bind fun t264 => (if t264 = true then (numeral_pair.l1 k x0 x5 (wrap64 (x6 + 1))) else (if 0 ≤ x5 then (if x5 ≤ (x0.size : Int) then (if x5 ≤ x6 then (if x6 ≤ (x0.size : Int) then (some (x0.extract 0 (x5 : Int).toNat, x0.extract (x5 : Int).toNat (x6 : Int).toNat, x0.extract (x6 : Int).toNat x0.size)) else (none)) else (none)) else (none)) else (none)))) else (none)) else (if 0 ≤ x5 then (if x5 ≤ (x0.size : Int) then (if x5 ≤ x6 then (if x6 ≤ (x0.size : Int) then (if 0 ≤ x6 then (some (x0.extract 0 (x5 : Int).toNat, x0.extract (x5 : Int).toNat (x6 : Int).toNat, x0.extract (x6 : Int).toNat x0.size)) else (none)) else (none)) else (none)) else (none)) else (none))
def numeral_pair.l0 : Nat → ByteArray → Int → Option (ByteArray × ByteArray × ByteArray)
 | 0, _, _ => none
 | k + 1, x0, x5 => if x5 < (x0.size : Int) then (if 0 ≤ x5 then ((numeral_digit.f (bt x0 x5)).bind fun t263 => (if t263 = true then (numeral_pair.j1 k x0 x5) else (numeral_pair.l0 k x0 (wrap64 (x5 + 1))))) else (none)) else (numeral_pair.j1 k x0 x5)
end
def numeral_pair.f (k : Nat) (a0 : ByteArray) : Option (ByteArray × ByteArray × ByteArray) := numeral_pair.l0 k a0 0
set_option maxHeartbeats 8000000 in
set_option maxRecDepth 100000 in
theorem numeral_pair.calls (k : Nat) (a0 : ByteArray) (r1 : ByteArray) (r2 : ByteArray) (r3 : ByteArray) (w : World) (h : numeral_pair.f k a0 = some (r1, r2, r3)) :
  Calls Tryd.prog 74 #[.string a0] w fun e w' => e = .returned (.tuple #[.string r1, .string r2, .string r3]) ∧ Drawn0 w w' := by
 have H : (numeral_pair.l0 k a0 0) = some (r1, r2, r3) := h
 clear h
 have HC2 := Aside0.mk H
 clear H
 go_enter Tryd.func74, Tryd.ntmps74
 go_upto_block 0 with (fail)
 repeat (go_quiet (fail); go_upto_block 0 with (fail))
 go_cut [5] (fun v5 wc => ∃ (kq : Nat) (x5_1 : Int), v5 = .int .i64 x5_1 ∧ Aside0 (numeral_pair.j1 kq a0 x5_1 = some (r1, r2, r3)) ∧ Aside0 (kq ≤ k) ∧ Drawn0 w wc)
 case first =>
  have H := HC2.out
  clear HC2
  have H' := Aside0.mk H
  clear H
  go_wp2
  repeat (go_quiet (fail); try go_wp2)
  go_loopg [5] k (fun kq v5 w' => ∃ (x5_1 : Int), v5 = .int .i64 x5_1 ∧ Aside0 (numeral_pair.l0 kq a0 x5_1 = some (r1, r2, r3)) ∧ Aside0 (kq ≤ k) ∧ Drawn0 w w')
  case atStart => exact ⟨(0), qnp2_, H', ⟨Nat.le_refl _⟩, qnp4_⟩
  case round =>
   clear H'
   (try clear p2)
   obtain ⟨x5_1, rfl, HA, HK1, ⟨m1, rfl⟩⟩ := hrel
   cases gk with
   | zero => exact absurd HA.out (by simp [numeral_pair.l0])
   | succ k1 =>
    have H := HA.out
    clear HA
    simp only [numeral_pair.l0] at H
    by_cases c3 : x5_1 < (a0.size : Int)
    ·
     rw [if_pos c3] at H
     have c3b0 : decide (x5_1 < (a0.size : Int)) = true := decide_eq_true c3
     clear c3
     (first | rw [c3b0] | (simp only [i64_w, i32_w]; rw [c3b0]) | skip)
     by_cases c4 : 0 ≤ x5_1
     ·
      rw [if_pos c4] at H
      have c4b0 : decide (0 ≤ x5_1) = true := decide_eq_true c4
      clear c4
      replace H := Option.bind_eq_some_iff.mp H
      obtain ⟨t263, A60, H⟩ := H
      replace H : (if t263 = true then (numeral_pair.j1 k1 a0 x5_1) else (numeral_pair.l0 k1 a0 (wrap64 (x5_1 + 1)))) = some (r1, r2, r3) := H
      have A6 := Aside0.mk A60
      clear A60
      by_cases c7 : t263 = true
      ·
       subst c7
       have H1 : (numeral_pair.j1 k1 a0 x5_1) = some (r1, r2, r3) := by rw [if_pos rfl] at H; exact H
       clear H
       have H := H1
       clear H1
       have H' := Aside0.mk H
       clear H
       have p5 : 0 ≤ (x5_1 : Int) := of_decide_eq_true qnp3_
       have q5 : x5_1 < (a0.size : Int) := of_decide_eq_true qnp3_
       have hx5 := bt_at a0 x5_1
       replace p5 := eq_true p5
       replace q5 := eq_true q5
       go_wp2_with (first | (go_at_call 68; (with_reducible refine (numeral_digit.calls (bt a0 x5_1) true _ A6.out).mono ?_); rintro e w' ⟨rfl, ⟨nd, rfl⟩⟩; (try first | exact ⟨rfl, _, World.drewN_drewN _ _ _⟩ | exact ⟨rfl, _, Eq.trans (World.drewN_drewN _ _ _) (congrArg (World.drewN _) (Nat.add_assoc _ _ _))⟩)))
       repeat (go_quiet (first | (go_at_call 68; (with_reducible refine (numeral_digit.calls (bt a0 x5_1) true _ A6.out).mono ?_); rintro e w' ⟨rfl, ⟨nd, rfl⟩⟩; (try first | exact ⟨rfl, _, World.drewN_drewN _ _ _⟩ | exact ⟨rfl, _, Eq.trans (World.drewN_drewN _ _ _) (congrArg (World.drewN _) (Nat.add_assoc _ _ _))⟩))); try go_wp2_with (first | (go_at_call 68; (with_reducible refine (numeral_digit.calls (bt a0 x5_1) true _ A6.out).mono ?_); rintro e w' ⟨rfl, ⟨nd, rfl⟩⟩; (try first | exact ⟨rfl, _, World.drewN_drewN _ _ _⟩ | exact ⟨rfl, _, Eq.trans (World.drewN_drewN _ _ _) (congrArg (World.drewN _) (Nat.add_assoc _ _ _))⟩))))
       go_meet
       case rel => exact ⟨_, (x5_1), qnp2_, H', ⟨by have := HK1.out; first | omega | exact Nat.le_refl _⟩, qnp4_⟩
      ·
       replace c7 := Bool.eq_false_iff.mpr c7
       subst c7
       have H1 : (numeral_pair.l0 k1 a0 (wrap64 (x5_1 + 1))) = some (r1, r2, r3) := by rw [if_neg (show ¬ (false = true) by decide)] at H; exact H
       clear H
       have H := H1
       clear H1
       have H' := Aside0.mk H
       clear H
       have p5 : 0 ≤ (x5_1 : Int) := of_decide_eq_true qnp3_
       have q5 : x5_1 < (a0.size : Int) := of_decide_eq_true qnp3_
       have hx5 := bt_at a0 x5_1
       replace p5 := eq_true p5
       replace q5 := eq_true q5
       go_wp2_with (first | (go_at_call 68; (with_reducible refine (numeral_digit.calls (bt a0 x5_1) false _ A6.out).mono ?_); rintro e w' ⟨rfl, ⟨nd, rfl⟩⟩; (try first | exact ⟨rfl, _, World.drewN_drewN _ _ _⟩ | exact ⟨rfl, _, Eq.trans (World.drewN_drewN _ _ _) (congrArg (World.drewN _) (Nat.add_assoc _ _ _))⟩)))
       repeat (go_quiet (first | (go_at_call 68; (with_reducible refine (numeral_digit.calls (bt a0 x5_1) false _ A6.out).mono ?_); rintro e w' ⟨rfl, ⟨nd, rfl⟩⟩; (try first | exact ⟨rfl, _, World.drewN_drewN _ _ _⟩ | exact ⟨rfl, _, Eq.trans (World.drewN_drewN _ _ _) (congrArg (World.drewN _) (Nat.add_assoc _ _ _))⟩))); try go_wp2_with (first | (go_at_call 68; (with_reducible refine (numeral_digit.calls (bt a0 x5_1) false _ A6.out).mono ?_); rintro e w' ⟨rfl, ⟨nd, rfl⟩⟩; (try first | exact ⟨rfl, _, World.drewN_drewN _ _ _⟩ | exact ⟨rfl, _, Eq.trans (World.drewN_drewN _ _ _) (congrArg (World.drewN _) (Nat.add_assoc _ _ _))⟩))))
       go_roundg k1
       case measure => have := HK1.out; omega
       case rel => exact ⟨(wrap64 (x5_1 + 1)), qnp2_, H', ⟨by have := HK1.out; omega⟩, qnp4_⟩
     ·
      rw [if_neg c4] at H
      exact absurd H (by simp)
    ·
     rw [if_neg c3] at H
     have c3b0 : decide (x5_1 < (a0.size : Int)) = false := decide_eq_false c3
     clear c3
     (first | rw [c3b0] | (simp only [i64_w, i32_w]; rw [c3b0]) | skip)
     have H' := Aside0.mk H
     clear H
     go_wp2
     repeat (go_quiet (fail); try go_wp2)
     go_meet
     case rel => exact ⟨_, (x5_1), qnp2_, H', ⟨by have := HK1.out; first | omega | exact Nat.le_refl _⟩, qnp4_⟩
 case rest =>
  clear HC2
  (try clear p2); (try clear c3); (try clear c3b0); (try clear c4); (try clear c4b0); (try clear p5); (try clear q5); (try clear hx5); (try clear p6); (try clear c7); (try clear p2); (try clear p5); (try clear q5)
  obtain ⟨kq, x5_1, rfl, HA, HJ1, ⟨mc1, rfl⟩⟩ := hcut
  cases kq with
  | zero => exact absurd HA.out (by simp [numeral_pair.j1])
  | succ kj1 =>
   have H := HA.out
   clear HA
   simp only [numeral_pair.j1] at H
   have H' := Aside0.mk H
   clear H
   go_wp2
   repeat (go_quiet (fail); try go_wp2)
   go_loopg [6] kj1 (fun kq v6 w' => ∃ (x6_2 : Int), v6 = .int .i64 x6_2 ∧ Aside0 (numeral_pair.l1 kq a0 x5_1 x6_2 = some (r1, r2, r3)) ∧ Aside0 (kq ≤ kj1) ∧ Drawn0 w w')
   case atStart => exact ⟨(x5_1), qnp2_, H', ⟨Nat.le_refl _⟩, qnp4_⟩
   case round =>
    clear H'
    (try clear c1); (try clear p2); (try clear c3); (try clear c3b0); (try clear c4); (try clear c4b0); (try clear p5); (try clear q5); (try clear hx5); (try clear p6); (try clear c7); (try clear p2); (try clear p5); (try clear p6); (try clear q5)
    obtain ⟨x6_2, rfl, HA, HK2, ⟨m2, rfl⟩⟩ := hrel
    cases gk with
    | zero => exact absurd HA.out (by simp [numeral_pair.l1])
    | succ k2 =>
     have H := HA.out
     clear HA
     simp only [numeral_pair.l1] at H
     by_cases c8 : x6_2 < (a0.size : Int)
     ·
      rw [if_pos c8] at H
      have c8b0 : decide (x6_2 < (a0.size : Int)) = true := decide_eq_true c8
      clear c8
      by_cases c9 : 0 ≤ x6_2
      ·
       rw [if_pos c9] at H
       have c9b0 : decide (0 ≤ x6_2) = true := decide_eq_true c9
       clear c9
       replace H := Option.bind_eq_some_iff.mp H
       obtain ⟨t264, A110, H⟩ := H
       replace H : (if t264 = true then (numeral_pair.l1 k2 a0 x5_1 (wrap64 (x6_2 + 1))) else (if 0 ≤ x5_1 then (if x5_1 ≤ (a0.size : Int) then (if x5_1 ≤ x6_2 then (if x6_2 ≤ (a0.size : Int) then (some (a0.extract 0 (x5_1 : Int).toNat, a0.extract (x5_1 : Int).toNat (x6_2 : Int).toNat, a0.extract (x6_2 : Int).toNat a0.size)) else (none)) else (none)) else (none)) else (none))) = some (r1, r2, r3) := H
       have A11 := Aside0.mk A110
       clear A110
       by_cases c12 : t264 = true
       ·
        subst c12
        have H1 : (numeral_pair.l1 k2 a0 x5_1 (wrap64 (x6_2 + 1))) = some (r1, r2, r3) := by rw [if_pos rfl] at H; exact H
        clear H
        have H := H1
        clear H1
        have H' := Aside0.mk H
        clear H
        have p10 : 0 ≤ (x6_2 : Int) := of_decide_eq_true qnp3_
        have q10 : x6_2 < (a0.size : Int) := of_decide_eq_true qnp3_
        have hx10 := bt_at a0 x6_2
        replace p10 := eq_true p10
        replace q10 := eq_true q10
        go_wp2_with (first | (go_at_call 68; (with_reducible refine (numeral_digit.calls (bt a0 x6_2) true _ A11.out).mono ?_); rintro e w' ⟨rfl, ⟨nd, rfl⟩⟩; (try first | exact ⟨rfl, _, World.drewN_drewN _ _ _⟩ | exact ⟨rfl, _, Eq.trans (World.drewN_drewN _ _ _) (congrArg (World.drewN _) (Nat.add_assoc _ _ _))⟩)))
        repeat (go_quiet (first | (go_at_call 68; (with_reducible refine (numeral_digit.calls (bt a0 x6_2) true _ A11.out).mono ?_); rintro e w' ⟨rfl, ⟨nd, rfl⟩⟩; (try first | exact ⟨rfl, _, World.drewN_drewN _ _ _⟩ | exact ⟨rfl, _, Eq.trans (World.drewN_drewN _ _ _) (congrArg (World.drewN _) (Nat.add_assoc _ _ _))⟩))); try go_wp2_with (first | (go_at_call 68; (with_reducible refine (numeral_digit.calls (bt a0 x6_2) true _ A11.out).mono ?_); rintro e w' ⟨rfl, ⟨nd, rfl⟩⟩; (try first | exact ⟨rfl, _, World.drewN_drewN _ _ _⟩ | exact ⟨rfl, _, Eq.trans (World.drewN_drewN _ _ _) (congrArg (World.drewN _) (Nat.add_assoc _ _ _))⟩))))
        go_roundg k2
        case measure => have := HJ1.out; have := HK2.out; omega
        case rel => exact ⟨(wrap64 (x6_2 + 1)), qnp2_, H', ⟨by have := HJ1.out; have := HK2.out; omega⟩, qnp4_⟩
       ·
        replace c12 := Bool.eq_false_iff.mpr c12
        subst c12
        have H1 : (if 0 ≤ x5_1 then (if x5_1 ≤ (a0.size : Int) then (if x5_1 ≤ x6_2 then (if x6_2 ≤ (a0.size : Int) then (some (a0.extract 0 (x5_1 : Int).toNat, a0.extract (x5_1 : Int).toNat (x6_2 : Int).toNat, a0.extract (x6_2 : Int).toNat a0.size)) else (none)) else (none)) else (none)) else (none)) = some (r1, r2, r3) := by rw [if_neg (show ¬ (false = true) by decide)] at H; exact H
        clear H
        have H := H1
        clear H1
        by_cases c13 : 0 ≤ x5_1
        ·
         rw [if_pos c13] at H
         have c13b0 := eq_true c13
         have c13b1 : decide (0 ≤ x5_1) = true := decide_eq_true c13
         clear c13
         by_cases c14 : x5_1 ≤ (a0.size : Int)
         ·
          rw [if_pos c14] at H
          have c14b0 := eq_true c14
          have c14b1 : decide (x5_1 ≤ (a0.size : Int)) = true := decide_eq_true c14
          clear c14
          have c15b0 := eq_true (of_decide_eq_true qnp3_ : 0 ≤ x5_1)
          by_cases c16 : x5_1 ≤ x6_2
          ·
           rw [if_pos c16] at H
           have c16b0 := eq_true c16
           have c16b1 : decide (x5_1 ≤ x6_2) = true := decide_eq_true c16
           clear c16
           by_cases c17 : x6_2 ≤ (a0.size : Int)
           ·
            rw [if_pos c17] at H
            have c17b0 := eq_true c17
            have c17b1 : decide (x6_2 ≤ (a0.size : Int)) = true := decide_eq_true c17
            clear c17
            have c18b0 := eq_true (of_decide_eq_true qnp3_ : 0 ≤ x6_2)
            have c19b0 := eq_true (of_decide_eq_true qnp3_ : x6_2 ≤ (a0.size : Int))
            simp only [Option.some.injEq, Prod.mk.injEq] at H
            obtain ⟨rfl, rfl, rfl⟩ := H
            have p10 : 0 ≤ (x6_2 : Int) := of_decide_eq_true qnp3_
            have q10 : x6_2 < (a0.size : Int) := of_decide_eq_true qnp3_
            have hx10 := bt_at a0 x6_2
            replace p10 := eq_true p10
            replace q10 := eq_true q10
            go_wp2_with (first | (go_at_call 68; (with_reducible refine (numeral_digit.calls (bt a0 x6_2) false _ A11.out).mono ?_); rintro e w' ⟨rfl, ⟨nd, rfl⟩⟩; (try first | exact ⟨rfl, _, World.drewN_drewN _ _ _⟩ | exact ⟨rfl, _, Eq.trans (World.drewN_drewN _ _ _) (congrArg (World.drewN _) (Nat.add_assoc _ _ _))⟩)))
            repeat (go_quiet (first | (go_at_call 68; (with_reducible refine (numeral_digit.calls (bt a0 x6_2) false _ A11.out).mono ?_); rintro e w' ⟨rfl, ⟨nd, rfl⟩⟩; (try first | exact ⟨rfl, _, World.drewN_drewN _ _ _⟩ | exact ⟨rfl, _, Eq.trans (World.drewN_drewN _ _ _) (congrArg (World.drewN _) (Nat.add_assoc _ _ _))⟩))); try go_wp2_with (first | (go_at_call 68; (with_reducible refine (numeral_digit.calls (bt a0 x6_2) false _ A11.out).mono ?_); rintro e w' ⟨rfl, ⟨nd, rfl⟩⟩; (try first | exact ⟨rfl, _, World.drewN_drewN _ _ _⟩ | exact ⟨rfl, _, Eq.trans (World.drewN_drewN _ _ _) (congrArg (World.drewN _) (Nat.add_assoc _ _ _))⟩))))
            go_ret3
            exact ⟨qnp2_, qnp4_⟩
           ·
            rw [if_neg c17] at H
            exact absurd H (by simp)
          ·
           rw [if_neg c16] at H
           exact absurd H (by simp)
         ·
          rw [if_neg c14] at H
          exact absurd H (by simp)
        ·
         rw [if_neg c13] at H
         exact absurd H (by simp)
      ·
       rw [if_neg c9] at H
       exact absurd H (by simp)
     ·
      rw [if_neg c8] at H
      have c8b0 : decide (x6_2 < (a0.size : Int)) = false := decide_eq_false c8
      clear c8
      by_cases c20 : 0 ≤ x5_1
      ·
       rw [if_pos c20] at H
       have c20b0 := eq_true c20
       have c20b1 : decide (0 ≤ x5_1) = true := decide_eq_true c20
       clear c20
       by_cases c21 : x5_1 ≤ (a0.size : Int)
       ·
        rw [if_pos c21] at H
        have c21b0 := eq_true c21
        have c21b1 : decide (x5_1 ≤ (a0.size : Int)) = true := decide_eq_true c21
        clear c21
        have c22b0 := eq_true (of_decide_eq_true qnp3_ : 0 ≤ x5_1)
        by_cases c23 : x5_1 ≤ x6_2
        ·
         rw [if_pos c23] at H
         have c23b0 := eq_true c23
         have c23b1 : decide (x5_1 ≤ x6_2) = true := decide_eq_true c23
         clear c23
         by_cases c24 : x6_2 ≤ (a0.size : Int)
         ·
          rw [if_pos c24] at H
          have c24b0 := eq_true c24
          have c24b1 : decide (x6_2 ≤ (a0.size : Int)) = true := decide_eq_true c24
          clear c24
          by_cases c25 : 0 ≤ x6_2
          ·
           rw [if_pos c25] at H
           have c25b0 := eq_true c25
           have c25b1 : decide (0 ≤ x6_2) = true := decide_eq_true c25
           clear c25
           have c26b0 := eq_true (of_decide_eq_true qnp3_ : x6_2 ≤ (a0.size : Int))
           simp only [Option.some.injEq, Prod.mk.injEq] at H
           obtain ⟨rfl, rfl, rfl⟩ := H
           go_wp2
           repeat (go_quiet (fail); try go_wp2)
           go_ret3
           exact ⟨qnp2_, qnp4_⟩
          ·
           rw [if_neg c25] at H
           exact absurd H (by simp)
         ·
          rw [if_neg c24] at H
          exact absurd H (by simp)
        ·
         rw [if_neg c23] at H
         exact absurd H (by simp)
       ·
        rw [if_neg c21] at H
        exact absurd H (by simp)
      ·
       rw [if_neg c20] at H
       exact absurd H (by simp)


/-! ### numeral_rank: function 84 (by hand) -/
/-- The place of a byte that has no rank of its own, the first k groups taken off. -/
def rankR (c : Int) (k : Nat) : Int := c + 55 - (if 0 < k ∧ 57 < c then 10 else 0) - (if 1 < k ∧ 90 < c then 26 else 0) - (if 2 < k ∧ 122 < c then 26 else 0) - (if 3 < k ∧ 126 < c then 1 else 0)
def rankF (c : Int) : Int := if c = 126 then 1 else if 65 ≤ c ∧ c ≤ 90 then c - 62 else if 97 ≤ c ∧ c ≤ 122 then c - 68 else rankR c 4
def numeral_rank.f (a0 : Int) : Option Int := if 0 ≤ a0 ∧ a0 ≤ 255 then some (rankF a0) else none
theorem numeral_rank_ret {a b : Int} (h : a = b) : Ending.returned (.int .u8 a) = .returned (.int .u8 b) := by rw [h]
def rankCells : Array Value := #[.int .u8 57, .int .i64 10, .int .u8 90, .int .i64 26, .int .u8 122, .int .i64 26, .int .u8 126, .int .i64 1]
set_option maxRecDepth 100000 in
set_option maxHeartbeats 4000000 in
theorem numeral_rank.calls (a0 : Int) (r : Int) (w : World) (hGL : GOK w) (h : numeral_rank.f a0 = some r) :
    Calls Tryd.prog 84 #[.int .u8 a0] w fun e w' => e = .returned (.int .u8 r) ∧ Below w.heap.size w w' := by
  unfold numeral_rank.f at h
  split at h
  · rename_i hh
    obtain ⟨h0, h1⟩ := hh
    have HR := Aside0.mk (Option.some.inj h)
    clear h
    obtain ⟨fr, hfr⟩ := hGL.g2
    have HG := Aside0.mk (show w.heap[2]? = some (.cells rankCells 116 fr) from hfr)
    have HB := Aside0.mk (Below.refl w.heap.size w)
    clear hGL hfr
    by_cases e1 : a0 = 126
    · subst e1
      go_enter Tryd.func84, Tryd.ntmps84
      go_wp2
      go_ret
      exact ⟨numeral_rank_ret (by rw [← HR.out]; rfl), HB.out⟩
    · have b1 : (a0 == 126) = false := by simpa using e1
      have E1 := Aside0.mk e1
      clear e1
      by_cases e2 : 65 ≤ a0 ∧ a0 ≤ 90
      · obtain ⟨e2, e3⟩ := e2
        go_enter Tryd.func84, Tryd.ntmps84
        go_wp2
        go_ret
        exact ⟨numeral_rank_ret (by rw [← HR.out]; unfold rankF; rw [if_neg E1.out, if_pos ⟨e2, e3⟩]; omega), HB.out⟩
      · by_cases e4 : 97 ≤ a0 ∧ a0 ≤ 122
        · obtain ⟨e4, e5⟩ := e4
          have n2 : ¬ a0 ≤ 90 := by omega
          have n1 : 65 ≤ a0 := by omega
          go_enter Tryd.func84, Tryd.ntmps84
          go_wp2
          go_ret
          exact ⟨numeral_rank_ret (by rw [← HR.out]; unfold rankF; rw [if_neg E1.out, if_neg e2, if_pos ⟨e4, e5⟩]; omega), HB.out⟩
        · have HF := Aside0.mk (show r = rankR a0 4 from by rw [← HR.out]; unfold rankF; rw [if_neg E1.out, if_neg e2, if_neg e4])
          have hi0 : ∀ W : World, (Instr.index 116 (.agg rankCells) (.int .i64 0)).run Tryd.prog W = .ok (.agg #[.int .u8 57, .int .i64 10]) W := fun _ => by kernel_rfl
          have hi1 : ∀ W : World, (Instr.index 116 (.agg rankCells) (.int .i64 1)).run Tryd.prog W = .ok (.agg #[.int .u8 90, .int .i64 26]) W := fun _ => by kernel_rfl
          have hi2 : ∀ W : World, (Instr.index 116 (.agg rankCells) (.int .i64 2)).run Tryd.prog W = .ok (.agg #[.int .u8 122, .int .i64 26]) W := fun _ => by kernel_rfl
          have hi3 : ∀ W : World, (Instr.index 116 (.agg rankCells) (.int .i64 3)).run Tryd.prog W = .ok (.agg #[.int .u8 126, .int .i64 1]) W := fun _ => by kernel_rfl
          have hu1 := Tryd.underlying116
          have hu2 := Tryd.underlying115
          have hcs : (65 ≤ a0 → ¬ a0 ≤ 90) ∧ (97 ≤ a0 → ¬ a0 ≤ 122) := by omega
          have HCS := Aside0.mk hcs
          clear hcs e2 e4
          by_cases n1 : 65 ≤ a0
          all_goals by_cases n2 : 97 ≤ a0
          all_goals first
            | (exfalso; omega)
            | skip
          all_goals (try have n3 : 90 < a0 := by have := HCS.out; omega)
          all_goals (try have n4 : 122 < a0 := by have := HCS.out; omega)
          all_goals (try have d90 : decide (a0 ≤ 90) = false := decide_eq_false (by have := HCS.out; omega))
          all_goals (try have d122 : decide (a0 ≤ 122) = false := decide_eq_false (by have := HCS.out; omega))
          all_goals
            go_enter Tryd.func84, Tryd.ntmps84
            go_wp2_with (refine wpList_load_row rfl 116 _ rfl 2 rfl _ rankCells fr _ HG.out hu1 rfl (by kernel_rfl) ?_)
            go_loopw [3, 33] (fun v3 v33 wr => ∃ (j x : Int), v33 = .int .i64 j ∧ v3 = .int .i64 x ∧ Aside0 (x = rankR a0 j.toNat ∧ 0 ≤ j ∧ j ≤ 4) ∧ 0 ≤ x ∧ x ≤ 400 ∧ Aside0 (Below w.heap.size w wr)) (fun _ v33 _ => 4 - (intOf v33).toNat)
            case atStart => exact ⟨0, a0 + 55, rfl, rfl, ⟨by simp [rankR], by omega, by omega⟩, by omega, by omega, HB⟩
            case round =>
            clear HB
            obtain ⟨j, x, rfl, rfl, hx, hx0, hx1, HB⟩ := hrel
            rcases (by have := hx.out; omega : j = 0 ∨ j = 1 ∨ j = 2 ∨ j = 3 ∨ j = 4) with rfl | rfl | rfl | rfl | rfl
            · by_cases hgt : 57 < a0
              · first
                | (exfalso; omega)
                | (have hge : decide (57 < a0) = true := decide_eq_true hgt
                   go_wp2
                   go_roundw
                   case rel => exact ⟨1, x - 10, rfl, (by first | rfl | (simp; omega)), ⟨by rw [hx.out.1]; simp [rankR]; omega, by omega, by omega⟩, by have := hx.out.1; simp [rankR] at this; omega, by omega, ⟨qnp36_⟩⟩
                   case measure => simp [intOf])
              · first
                | (exfalso; omega)
                | (have hge : decide (57 < a0) = false := decide_eq_false hgt
                   go_wp2
                   go_roundw
                   case rel => exact ⟨1, x, rfl, rfl, ⟨by rw [hx.out.1]; simp [rankR]; omega, by omega, by omega⟩, by have := hx.out.1; simp [rankR] at this; omega, by omega, ⟨qnp36_⟩⟩
                   case measure => simp [intOf])
            · by_cases hgt : 90 < a0
              · first
                | (exfalso; omega)
                | (have hge : decide (90 < a0) = true := decide_eq_true hgt
                   go_wp2
                   go_roundw
                   case rel => exact ⟨2, x - 26, rfl, (by first | rfl | (simp; omega)), ⟨by rw [hx.out.1]; simp [rankR]; omega, by omega, by omega⟩, by have := hx.out.1; simp [rankR] at this; omega, by omega, ⟨qnp36_⟩⟩
                   case measure => simp [intOf])
              · first
                | (exfalso; omega)
                | (have hge : decide (90 < a0) = false := decide_eq_false hgt
                   go_wp2
                   go_roundw
                   case rel => exact ⟨2, x, rfl, rfl, ⟨by rw [hx.out.1]; simp [rankR]; omega, by omega, by omega⟩, by have := hx.out.1; simp [rankR] at this; omega, by omega, ⟨qnp36_⟩⟩
                   case measure => simp [intOf])
            · by_cases hgt : 122 < a0
              · first
                | (exfalso; omega)
                | (have hge : decide (122 < a0) = true := decide_eq_true hgt
                   go_wp2
                   go_roundw
                   case rel => exact ⟨3, x - 26, rfl, (by first | rfl | (simp; omega)), ⟨by rw [hx.out.1]; simp [rankR]; omega, by omega, by omega⟩, by have := hx.out.1; simp [rankR] at this; omega, by omega, ⟨qnp36_⟩⟩
                   case measure => simp [intOf])
              · first
                | (exfalso; omega)
                | (have hge : decide (122 < a0) = false := decide_eq_false hgt
                   go_wp2
                   go_roundw
                   case rel => exact ⟨3, x, rfl, rfl, ⟨by rw [hx.out.1]; simp [rankR]; omega, by omega, by omega⟩, by have := hx.out.1; simp [rankR] at this; omega, by omega, ⟨qnp36_⟩⟩
                   case measure => simp [intOf])
            · by_cases hgt : 126 < a0
              · first
                | (exfalso; omega)
                | (have hge : decide (126 < a0) = true := decide_eq_true hgt
                   go_wp2
                   go_roundw
                   case rel => exact ⟨4, x - 1, rfl, (by first | rfl | (simp; omega)), ⟨by rw [hx.out.1]; simp [rankR]; omega, by omega, by omega⟩, by have := hx.out.1; simp [rankR] at this; omega, by omega, ⟨qnp36_⟩⟩
                   case measure => simp [intOf])
              · first
                | (exfalso; omega)
                | (have hge : decide (126 < a0) = false := decide_eq_false hgt
                   go_wp2
                   go_roundw
                   case rel => exact ⟨4, x, rfl, rfl, ⟨by rw [hx.out.1]; simp [rankR]; omega, by omega, by omega⟩, by have := hx.out.1; simp [rankR] at this; omega, by omega, ⟨qnp36_⟩⟩
                   case measure => simp [intOf])
            · go_wp2
              go_ret
              exact ⟨numeral_rank_ret (by rw [HF.out, hx.out.1]; simp [rankR]; omega), HB.out⟩
  · cases h


/-! ### cmp_isNaN_byte: function 106 -/
def cmp_isNaN_byte.f (a0 : Int) : Option (Bool) := some (a0 != a0)
set_option maxHeartbeats 8000000 in
set_option maxRecDepth 100000 in
theorem cmp_isNaN_byte.calls (a0 : Int) (r : Bool) (w : World) (h : cmp_isNaN_byte.f a0 = some r) :
  Calls Tryd.prog 106 #[.int .u8 a0] w fun e w' => e = .returned (.bool r) ∧ Drawn0 w w' := by
 have H : (some (a0 != a0)) = some r := h
 clear h
 obtain rfl := Option.some.inj H
 go_enter Tryd.func106, Tryd.ntmps106
 go_wp2
 go_ret
 exact ⟨qnp2_, qnp4_⟩


/-! ### cmp_Compare_byte: function 97 -/
def cmp_Compare_byte.f (a0 : Int) (a1 : Int) : Option (Int) := (cmp_isNaN_byte.f a0).bind fun t265 => ((cmp_isNaN_byte.f a1).bind fun t266 => (if t265 = true then (if t266 = true then (some 0) else (some (-1))) else (if t266 = true then (some 1) else (if a0 < a1 then (some (-1)) else (if a0 > a1 then (some 1) else (some 0))))))
set_option maxHeartbeats 8000000 in
set_option maxRecDepth 100000 in
theorem cmp_Compare_byte.calls (a0 : Int) (a1 : Int) (r : Int) (w : World) (h : cmp_Compare_byte.f a0 a1 = some r) :
  Calls Tryd.prog 97 #[.int .u8 a0, .int .u8 a1] w fun e w' => e = .returned (.int .i64 r) ∧ Drawn0 w w' := by
 have H : ((cmp_isNaN_byte.f a0).bind fun t265 => ((cmp_isNaN_byte.f a1).bind fun t266 => (if t265 = true then (if t266 = true then (some 0) else (some (-1))) else (if t266 = true then (some 1) else (if a0 < a1 then (some (-1)) else (if a0 > a1 then (some 1) else (some 0))))))) = some r := h
 clear h
 replace H := Option.bind_eq_some_iff.mp H
 obtain ⟨t265, A30, H⟩ := H
 replace H : ((cmp_isNaN_byte.f a1).bind fun t266 => (if t265 = true then (if t266 = true then (some 0) else (some (-1))) else (if t266 = true then (some 1) else (if a0 < a1 then (some (-1)) else (if a0 > a1 then (some 1) else (some 0)))))) = some r := H
 have A3 := Aside0.mk A30
 clear A30
 replace H := Option.bind_eq_some_iff.mp H
 obtain ⟨t266, A40, H⟩ := H
 replace H : (if t265 = true then (if t266 = true then (some 0) else (some (-1))) else (if t266 = true then (some 1) else (if a0 < a1 then (some (-1)) else (if a0 > a1 then (some 1) else (some 0))))) = some r := H
 have A4 := Aside0.mk A40
 clear A40
 by_cases c5 : t265 = true
 ·
  subst c5
  have H1 : (if t266 = true then (some 0) else (some (-1))) = some r := by rw [if_pos rfl] at H; exact H
  clear H
  have H := H1
  clear H1
  by_cases c6 : t266 = true
  ·
   subst c6
   have H1 : (some 0) = some r := by rw [if_pos rfl] at H; exact H
   clear H
   have H := H1
   clear H1
   obtain rfl := Option.some.inj H
   go_enter Tryd.func97, Tryd.ntmps97
   have tk7 : True := trivial; have tk8 : True := trivial
   go_wp2_with (first | (have ztk7 := tk7; clear tk7 ztk7; (with_reducible refine gate_callee (f := 106) rfl ?_); refine goesL_ (some 8) rfl rfl Tryd.func106 (by kernel_rfl) rfl #[.int .u8 a0] rfl qnp0_ ?_; (with_reducible refine (cmp_isNaN_byte.calls a0 true _ A3.out).mono ?_); rintro e w' ⟨rfl, ⟨nd, rfl⟩⟩; refine ⟨_, rfl, ?_⟩) | (have ztk8 := tk8; clear tk8 ztk8; (with_reducible refine gate_callee (f := 106) rfl ?_); refine goesL_ (some 10) rfl rfl Tryd.func106 (by kernel_rfl) rfl #[.int .u8 a1] rfl qnp0_ ?_; (with_reducible refine (cmp_isNaN_byte.calls a1 true _ A4.out).mono ?_); rintro e w' ⟨rfl, ⟨nd, rfl⟩⟩; refine ⟨_, rfl, ?_⟩))
   go_ret
   exact ⟨qnp2_, qnp4_⟩
  ·
   replace c6 := Bool.eq_false_iff.mpr c6
   subst c6
   have H1 : (some (-1)) = some r := by rw [if_neg (show ¬ (false = true) by decide)] at H; exact H
   clear H
   have H := H1
   clear H1
   obtain rfl := Option.some.inj H
   go_enter Tryd.func97, Tryd.ntmps97
   have tk9 : True := trivial; have tk10 : True := trivial
   go_wp2_with (first | (have ztk9 := tk9; clear tk9 ztk9; (with_reducible refine gate_callee (f := 106) rfl ?_); refine goesL_ (some 8) rfl rfl Tryd.func106 (by kernel_rfl) rfl #[.int .u8 a0] rfl qnp0_ ?_; (with_reducible refine (cmp_isNaN_byte.calls a0 true _ A3.out).mono ?_); rintro e w' ⟨rfl, ⟨nd, rfl⟩⟩; refine ⟨_, rfl, ?_⟩) | (have ztk10 := tk10; clear tk10 ztk10; (with_reducible refine gate_callee (f := 106) rfl ?_); refine goesL_ (some 10) rfl rfl Tryd.func106 (by kernel_rfl) rfl #[.int .u8 a1] rfl qnp0_ ?_; (with_reducible refine (cmp_isNaN_byte.calls a1 false _ A4.out).mono ?_); rintro e w' ⟨rfl, ⟨nd, rfl⟩⟩; refine ⟨_, rfl, ?_⟩))
   go_ret
   exact ⟨qnp2_, qnp4_⟩
 ·
  replace c5 := Bool.eq_false_iff.mpr c5
  subst c5
  have H1 : (if t266 = true then (some 1) else (if a0 < a1 then (some (-1)) else (if a0 > a1 then (some 1) else (some 0)))) = some r := by rw [if_neg (show ¬ (false = true) by decide)] at H; exact H
  clear H
  have H := H1
  clear H1
  by_cases c11 : t266 = true
  ·
   subst c11
   have H1 : (some 1) = some r := by rw [if_pos rfl] at H; exact H
   clear H
   have H := H1
   clear H1
   obtain rfl := Option.some.inj H
   go_enter Tryd.func97, Tryd.ntmps97
   have tk12 : True := trivial; have tk13 : True := trivial
   go_wp2_with (first | (have ztk12 := tk12; clear tk12 ztk12; (with_reducible refine gate_callee (f := 106) rfl ?_); refine goesL_ (some 8) rfl rfl Tryd.func106 (by kernel_rfl) rfl #[.int .u8 a0] rfl qnp0_ ?_; (with_reducible refine (cmp_isNaN_byte.calls a0 false _ A3.out).mono ?_); rintro e w' ⟨rfl, ⟨nd, rfl⟩⟩; refine ⟨_, rfl, ?_⟩) | (have ztk13 := tk13; clear tk13 ztk13; (with_reducible refine gate_callee (f := 106) rfl ?_); refine goesL_ (some 10) rfl rfl Tryd.func106 (by kernel_rfl) rfl #[.int .u8 a1] rfl qnp0_ ?_; (with_reducible refine (cmp_isNaN_byte.calls a1 true _ A4.out).mono ?_); rintro e w' ⟨rfl, ⟨nd, rfl⟩⟩; refine ⟨_, rfl, ?_⟩))
   go_ret
   exact ⟨qnp2_, qnp4_⟩
  ·
   replace c11 := Bool.eq_false_iff.mpr c11
   subst c11
   have H1 : (if a0 < a1 then (some (-1)) else (if a0 > a1 then (some 1) else (some 0))) = some r := by rw [if_neg (show ¬ (false = true) by decide)] at H; exact H
   clear H
   have H := H1
   clear H1
   by_cases c14 : a0 < a1
   ·
    rw [if_pos c14] at H
    have c14b0 : decide (a0 < a1) = true := decide_eq_true c14
    clear c14
    obtain rfl := Option.some.inj H
    go_enter Tryd.func97, Tryd.ntmps97
    have tk15 : True := trivial; have tk16 : True := trivial
    go_wp2_with (first | (have ztk15 := tk15; clear tk15 ztk15; (with_reducible refine gate_callee (f := 106) rfl ?_); refine goesL_ (some 8) rfl rfl Tryd.func106 (by kernel_rfl) rfl #[.int .u8 a0] rfl qnp0_ ?_; (with_reducible refine (cmp_isNaN_byte.calls a0 false _ A3.out).mono ?_); rintro e w' ⟨rfl, ⟨nd, rfl⟩⟩; refine ⟨_, rfl, ?_⟩) | (have ztk16 := tk16; clear tk16 ztk16; (with_reducible refine gate_callee (f := 106) rfl ?_); refine goesL_ (some 10) rfl rfl Tryd.func106 (by kernel_rfl) rfl #[.int .u8 a1] rfl qnp0_ ?_; (with_reducible refine (cmp_isNaN_byte.calls a1 false _ A4.out).mono ?_); rintro e w' ⟨rfl, ⟨nd, rfl⟩⟩; refine ⟨_, rfl, ?_⟩))
    go_ret
    exact ⟨qnp2_, qnp4_⟩
   ·
    rw [if_neg c14] at H
    have c14b0 : decide (a0 < a1) = false := decide_eq_false c14
    clear c14
    by_cases c17 : a0 > a1
    ·
     rw [if_pos c17] at H
     have c17b0 : decide (a1 < a0) = true := decide_eq_true c17
     clear c17
     obtain rfl := Option.some.inj H
     go_enter Tryd.func97, Tryd.ntmps97
     have tk18 : True := trivial; have tk19 : True := trivial
     go_wp2_with (first | (have ztk18 := tk18; clear tk18 ztk18; (with_reducible refine gate_callee (f := 106) rfl ?_); refine goesL_ (some 8) rfl rfl Tryd.func106 (by kernel_rfl) rfl #[.int .u8 a0] rfl qnp0_ ?_; (with_reducible refine (cmp_isNaN_byte.calls a0 false _ A3.out).mono ?_); rintro e w' ⟨rfl, ⟨nd, rfl⟩⟩; refine ⟨_, rfl, ?_⟩) | (have ztk19 := tk19; clear tk19 ztk19; (with_reducible refine gate_callee (f := 106) rfl ?_); refine goesL_ (some 10) rfl rfl Tryd.func106 (by kernel_rfl) rfl #[.int .u8 a1] rfl qnp0_ ?_; (with_reducible refine (cmp_isNaN_byte.calls a1 false _ A4.out).mono ?_); rintro e w' ⟨rfl, ⟨nd, rfl⟩⟩; refine ⟨_, rfl, ?_⟩))
     go_ret
     exact ⟨qnp2_, qnp4_⟩
    ·
     rw [if_neg c17] at H
     have c17b0 : decide (a1 < a0) = false := decide_eq_false c17
     clear c17
     obtain rfl := Option.some.inj H
     go_enter Tryd.func97, Tryd.ntmps97
     have tk20 : True := trivial; have tk21 : True := trivial
     go_wp2_with (first | (have ztk20 := tk20; clear tk20 ztk20; (with_reducible refine gate_callee (f := 106) rfl ?_); refine goesL_ (some 8) rfl rfl Tryd.func106 (by kernel_rfl) rfl #[.int .u8 a0] rfl qnp0_ ?_; (with_reducible refine (cmp_isNaN_byte.calls a0 false _ A3.out).mono ?_); rintro e w' ⟨rfl, ⟨nd, rfl⟩⟩; refine ⟨_, rfl, ?_⟩) | (have ztk21 := tk21; clear tk21 ztk21; (with_reducible refine gate_callee (f := 106) rfl ?_); refine goesL_ (some 10) rfl rfl Tryd.func106 (by kernel_rfl) rfl #[.int .u8 a1] rfl qnp0_ ?_; (with_reducible refine (cmp_isNaN_byte.calls a1 false _ A4.out).mono ?_); rintro e w' ⟨rfl, ⟨nd, rfl⟩⟩; refine ⟨_, rfl, ?_⟩))
     go_ret
     exact ⟨qnp2_, qnp4_⟩


/-! ### numeral_words: function 75 -/
mutual
def numeral_words.l0 : Nat → ByteArray → ByteArray → Int → Int → Option (Int)
 | 0, _, _, _, _ => none
 | k + 1, x0, x1, x12, x13 => if x13 < x12 then (if x13 < (x0.size : Int) then (if 0 ≤ x13 then ((numeral_rank.f (bt x0 x13)).bind fun t267 => (numeral_words.j1 k x0 x1 x13 t267 2 x12 x13)) else (none)) else (numeral_words.j1 k x0 x1 x13 2 2 x12 x13)) else (some 0)
def numeral_words.j1 : Nat → ByteArray → ByteArray → Int → Int → Int → Int → Int → Option (Int)
 | 0, _, _, _, _, _, _, _ => none
 | k + 1, x0, x1, x5, x6, x7, x12, x13 => if x5 < (x1.size : Int) then (if 0 ≤ x5 then ((numeral_rank.f (bt x1 x5)).bind fun t268 => (if x6 = t268 then (numeral_words.l0 k x0 x1 x12 (wrap64 (x13 + 1))) else ((cmp_Compare_byte.f x6 t268).bind fun t269 => (some t269)))) else (none)) else (if x6 = x7 then (numeral_words.l0 k x0 x1 x12 (wrap64 (x13 + 1))) else ((cmp_Compare_byte.f x6 x7).bind fun t270 => (some t270)))
end
def numeral_words.f (k : Nat) (a0 : ByteArray) (a1 : ByteArray) : Option (Int) := numeral_words.l0 k a0 a1 (mx (a0.size : Int) (a1.size : Int)) 0
set_option maxHeartbeats 8000000 in
set_option maxRecDepth 100000 in
theorem numeral_words.calls (k : Nat) (a0 : ByteArray) (a1 : ByteArray) (r : Int) (w : World) (hGL : GOK w) (h : numeral_words.f k a0 a1 = some r) :
  Calls Tryd.prog 75 #[.string a0, .string a1] w fun e w' => e = .returned (.int .i64 r) ∧ Below w.heap.size w w' := by
 have HGL := Aside0.mk hGL
 clear hGL
 have HB := Aside0.mk (Below.refl w.heap.size w)
 have H : (numeral_words.l0 k a0 a1 (mx (a0.size : Int) (a1.size : Int)) 0) = some r := h
 clear h
 obtain ⟨ji3, hji3⟩ : ∃ j_ : Int, (mx (a0.size : Int) (a1.size : Int)) = j_ := ⟨_, rfl⟩
 replace H : (numeral_words.l0 k a0 a1 ji3 0) = some r := by first | (rw [hji3] at H; exact H) | (simp only [hji3] at H ⊢; exact H)
 (try (have hji3l : 0 ≤ ji3 := by (rw [← hji3]; unfold mx; (repeat' split) <;> omega)))
 (try (have hji3m : 0 ≤ ji3 := by omega))
 have hji3_ : (if (a0.size : Int) < (a1.size : Int) then (a1.size : Int) else (a0.size : Int)) = ji3 := hji3
 (try have hji3N : (if a0.size < a1.size then (a1.size : Int) else (a0.size : Int)) = ji3 := by simpa only [Int.ofNat_lt] using hji3_)
 have H' := Aside0.mk H
 clear H
 go_enter Tryd.func75, Tryd.ntmps75
 go_wp2
 go_loopg [13] k (fun kq v13 w' => ∃ (x13_1 : Int), v13 = .int .i64 x13_1 ∧ Aside0 (numeral_words.l0 kq a0 a1 ji3 x13_1 = some r) ∧ Aside0 (kq ≤ k) ∧ Aside0 (Below w.heap.size w w'))
 case atStart => exact ⟨(0), qnp2_, H', ⟨Nat.le_refl _⟩, ⟨qnp1_⟩⟩
 case round =>
  clear H'
  (try clear p2)
  obtain ⟨x13_1, rfl, HA, HK1, HB⟩ := hrel
  cases gk with
  | zero => exact absurd HA.out (by simp [numeral_words.l0])
  | succ k1 =>
   have H := HA.out
   clear HA
   simp only [numeral_words.l0] at H
   by_cases c4 : x13_1 < ji3
   ·
    rw [if_pos c4] at H
    have c4b0 : decide (x13_1 < ji3) = true := decide_eq_true c4
    clear c4
    have HC5 := Aside0.mk H
    clear H
    go_upto_if 19 with (fail)
    go_cut [6] (fun v6 wc => ∃ (kq : Nat) (x6_4 : Int), v6 = .int .u8 x6_4 ∧ Aside0 (numeral_words.j1 kq a0 a1 x13_1 x6_4 2 ji3 x13_1 = some r) ∧ Aside0 (kq ≤ k1) ∧ Aside0 (Below w.heap.size w wc))
    case first =>
     have H := HC5.out
     clear HC5
     by_cases c6 : x13_1 < (a0.size : Int)
     ·
      rw [if_pos c6] at H
      have c6b0 : decide (x13_1 < (a0.size : Int)) = true := decide_eq_true c6
      clear c6
      (first | rw [c6b0] | (simp only [i64_w, i32_w]; rw [c6b0]) | skip)
      by_cases c7 : 0 ≤ x13_1
      ·
       rw [if_pos c7] at H
       have c7b0 : decide (0 ≤ x13_1) = true := decide_eq_true c7
       clear c7
       replace H := Option.bind_eq_some_iff.mp H
       obtain ⟨t267, A90, H⟩ := H
       replace H : (numeral_words.j1 k1 a0 a1 x13_1 t267 2 ji3 x13_1) = some r := H
       have A9 := Aside0.mk A90
       clear A90
       have H' := Aside0.mk H
       clear H
       have p8 : 0 ≤ (x13_1 : Int) := of_decide_eq_true qnp3_
       have q8 : x13_1 < (a0.size : Int) := of_decide_eq_true qnp3_
       have hx8 := bt_at a0 x13_1
       replace p8 := eq_true p8
       replace q8 := eq_true q8
       go_wp2_with (first | ((with_reducible refine gate_callee (f := 84) rfl ?_); refine goesL_ (some 23) rfl rfl Tryd.func84 (by kernel_rfl) rfl #[.int .u8 (bt a0 x13_1)] rfl qnp0_ ?_; (with_reducible refine (numeral_rank.calls (bt a0 x13_1) t267 _ ?side1 A9.out).mono ?_); (case side1 => exact GOK.below HGL.out qnp1_); rintro e w10 ⟨rfl, hb⟩; refine ⟨_, rfl, ?_⟩; have n0_ := Aside0.mk (below_step qnp1_ hb); clear HB; have HB := n0_; clear n0_; (try clear hb); (try clear hb2); (try clear hk); (try clear hi)))
       go_meet
       case rel => exact ⟨_, (t267), qnp2_, H', ⟨by have := HK1.out; first | omega | exact Nat.le_refl _⟩, ⟨qnp1_⟩⟩
      ·
       rw [if_neg c7] at H
       exact absurd H (by simp)
     ·
      rw [if_neg c6] at H
      have c6b0 : decide (x13_1 < (a0.size : Int)) = false := decide_eq_false c6
      clear c6
      (first | rw [c6b0] | (simp only [i64_w, i32_w]; rw [c6b0]) | skip)
      have H' := Aside0.mk H
      clear H
      go_wp2
      go_meet
      case rel => exact ⟨_, (2), qnp2_, H', ⟨by have := HK1.out; first | omega | exact Nat.le_refl _⟩, ⟨qnp1_⟩⟩
    case rest =>
     clear HC5
     (try clear p2); (try clear c4); (try clear c4b0); (try clear c6); (try clear c6b0); (try clear c7); (try clear c7b0); (try clear c8); (try clear p8); (try clear q8); (try clear hx8); (try clear p2); (try clear p8); (try clear q8)
     obtain ⟨kq, x6_4, rfl, HA, HJ4, HB⟩ := hcut
     cases kq with
     | zero => exact absurd HA.out (by simp [numeral_words.j1])
     | succ kj4 =>
      have H := HA.out
      clear HA
      simp only [numeral_words.j1] at H
      by_cases c11 : x13_1 < (a1.size : Int)
      ·
       rw [if_pos c11] at H
       have c11b0 : decide (x13_1 < (a1.size : Int)) = true := decide_eq_true c11
       clear c11
       by_cases c12 : 0 ≤ x13_1
       ·
        rw [if_pos c12] at H
        have c12b0 : decide (0 ≤ x13_1) = true := decide_eq_true c12
        clear c12
        replace H := Option.bind_eq_some_iff.mp H
        obtain ⟨t268, A140, H⟩ := H
        replace H : (if x6_4 = t268 then (numeral_words.l0 kj4 a0 a1 ji3 (wrap64 (x13_1 + 1))) else ((cmp_Compare_byte.f x6_4 t268).bind fun t269 => (some t269))) = some r := H
        have A14 := Aside0.mk A140
        clear A140
        by_cases c15 : x6_4 = t268
        ·
         rw [if_pos c15] at H
         have c15b0 : (x6_4 == t268) = true := beq_iff_eq.mpr c15
         have c15b1 : (x6_4 != t268) = false := bne_eq_false_iff_eq.mpr c15
         clear c15
         have H' := Aside0.mk H
         clear H
         have p13 : 0 ≤ (x13_1 : Int) := of_decide_eq_true qnp3_
         have q13 : x13_1 < (a1.size : Int) := of_decide_eq_true qnp3_
         have hx13 := bt_at a1 x13_1
         replace p13 := eq_true p13
         replace q13 := eq_true q13
         go_wp2_with (first | ((with_reducible refine gate_callee (f := 84) rfl ?_); refine goesL_ (some 31) rfl rfl Tryd.func84 (by kernel_rfl) rfl #[.int .u8 (bt a1 x13_1)] rfl qnp0_ ?_; (with_reducible refine (numeral_rank.calls (bt a1 x13_1) t268 _ ?side1 A14.out).mono ?_); (case side1 => exact GOK.below HGL.out qnp1_); rintro e w16 ⟨rfl, hb⟩; refine ⟨_, rfl, ?_⟩; have n0_ := Aside0.mk (below_step qnp1_ hb); clear HB; have HB := n0_; clear n0_; (try clear hb); (try clear hb2); (try clear hk); (try clear hi)))
         go_roundg kj4
         case measure => have := HK1.out; have := HJ4.out; omega
         case rel => exact ⟨(wrap64 (x13_1 + 1)), qnp2_, H', ⟨by have := HK1.out; have := HJ4.out; omega⟩, ⟨qnp1_⟩⟩
        ·
         rw [if_neg c15] at H
         have c15b0 : (x6_4 == t268) = false := beq_eq_false_iff_ne.mpr c15
         have c15b1 : (x6_4 != t268) = true := bne_iff_ne.mpr c15
         replace H := Option.bind_eq_some_iff.mp H
         obtain ⟨t269, A170, H⟩ := H
         replace H : (some t269) = some r := H
         have A17 := Aside0.mk A170
         clear A170
         obtain rfl := Option.some.inj H
         have p13 : 0 ≤ (x13_1 : Int) := of_decide_eq_true qnp3_
         have q13 : x13_1 < (a1.size : Int) := of_decide_eq_true qnp3_
         have hx13 := bt_at a1 x13_1
         replace p13 := eq_true p13
         replace q13 := eq_true q13
         have tk19 : True := trivial; have tk20 : True := trivial
         go_wp2_with (first | (have ztk19 := tk19; clear tk19 ztk19; (with_reducible refine gate_callee (f := 84) rfl ?_); refine goesL_ (some 31) rfl rfl Tryd.func84 (by kernel_rfl) rfl #[.int .u8 (bt a1 x13_1)] rfl qnp0_ ?_; (with_reducible refine (numeral_rank.calls (bt a1 x13_1) t268 _ ?side1 A14.out).mono ?_); (case side1 => exact GOK.below HGL.out qnp1_); rintro e w18 ⟨rfl, hb⟩; refine ⟨_, rfl, ?_⟩; have n0_ := Aside0.mk (below_step qnp1_ hb); clear HB; have HB := n0_; clear n0_; (try clear hb); (try clear hb2); (try clear hk); (try clear hi)) | (have ztk20 := tk20; clear tk20 ztk20; (with_reducible refine gate_callee (f := 97) rfl ?_); refine goesL_ (some 37) rfl rfl Tryd.func97 (by kernel_rfl) rfl #[.int .u8 x6_4, .int .u8 t268] rfl qnp0_ ?_; (with_reducible refine (cmp_Compare_byte.calls x6_4 t268 t269 _ A17.out).mono ?_); rintro e w' ⟨rfl, ⟨nd, rfl⟩⟩; refine ⟨_, rfl, ?_⟩))
         go_ret
         exact ⟨qnp69_, qnp1_⟩
       ·
        rw [if_neg c12] at H
        exact absurd H (by simp)
      ·
       rw [if_neg c11] at H
       have c11b0 : decide (x13_1 < (a1.size : Int)) = false := decide_eq_false c11
       clear c11
       by_cases c21 : x6_4 = 2
       ·
        rw [if_pos c21] at H
        have c21b0 : (x6_4 == 2) = true := beq_iff_eq.mpr c21
        have c21b1 : (x6_4 != 2) = false := bne_eq_false_iff_eq.mpr c21
        clear c21
        have H' := Aside0.mk H
        clear H
        go_wp2
        go_roundg kj4
        case measure => have := HK1.out; have := HJ4.out; omega
        case rel => exact ⟨(wrap64 (x13_1 + 1)), qnp2_, H', ⟨by have := HK1.out; have := HJ4.out; omega⟩, ⟨qnp1_⟩⟩
       ·
        rw [if_neg c21] at H
        have c21b0 : (x6_4 == 2) = false := beq_eq_false_iff_ne.mpr c21
        have c21b1 : (x6_4 != 2) = true := bne_iff_ne.mpr c21
        replace H := Option.bind_eq_some_iff.mp H
        obtain ⟨t270, A220, H⟩ := H
        replace H : (some t270) = some r := H
        have A22 := Aside0.mk A220
        clear A220
        obtain rfl := Option.some.inj H
        go_wp2_with (first | ((with_reducible refine gate_callee (f := 97) rfl ?_); refine goesL_ (some 37) rfl rfl Tryd.func97 (by kernel_rfl) rfl #[.int .u8 x6_4, .int .u8 2] rfl qnp0_ ?_; (with_reducible refine (cmp_Compare_byte.calls x6_4 2 t270 _ A22.out).mono ?_); rintro e w' ⟨rfl, ⟨nd, rfl⟩⟩; refine ⟨_, rfl, ?_⟩))
        go_ret
        exact ⟨qnp69_, qnp1_⟩
   ·
    rw [if_neg c4] at H
    have c4b0 : decide (x13_1 < ji3) = false := decide_eq_false c4
    clear c4
    obtain rfl := Option.some.inj H
    go_wp2
    go_ret
    exact ⟨qnp69_, qnp1_⟩


/-! ### numeral_runs: function 76 -/
def numeral_runs.j0 : Nat → ByteArray → ByteArray → Bool → Option (Int)
 | 0, _, _, _ => none
 | k + 1, x0, x1, x10 => if x10 = true then ((cmp_Compare_int.f (mn (x0.size : Int) 1) (mn (x1.size : Int) 1)).bind fun t271 => (some t271)) else ((strings_TrimLeft.f k x0 (⟨#[48]⟩ : ByteArray)).bind fun t272 => ((strings_TrimLeft.f k x1 (⟨#[48]⟩ : ByteArray)).bind fun t273 => ((cmp_Compare_int.f (t272.size : Int) (t273.size : Int)).bind fun t274 => ((strings_Compare.f t272 t273).bind fun t275 => ((cmp_Or_int.f k (([t274, t275] : List Int))).bind fun t279 => (some t279))))))
def numeral_runs.f (k : Nat) (a0 : ByteArray) (a1 : ByteArray) : Option (Int) := if a0.toList = ([] : List UInt8) then (numeral_runs.j0 k a0 a1 true) else (numeral_runs.j0 k a0 a1 a1.toList.isEmpty)
set_option maxHeartbeats 8000000 in
set_option maxRecDepth 100000 in
theorem numeral_runs.calls (k : Nat) (a0 : ByteArray) (a1 : ByteArray) (r : Int) (w : World) (h : numeral_runs.f k a0 a1 = some r) :
  Calls Tryd.prog 76 #[.string a0, .string a1] w fun e w' => e = .returned (.int .i64 r) ∧ Below w.heap.size w w' := by
 have HB := Aside0.mk (Below.refl w.heap.size w)
 have H : (if a0.toList = ([] : List UInt8) then (numeral_runs.j0 k a0 a1 true) else (numeral_runs.j0 k a0 a1 a1.toList.isEmpty)) = some r := h
 clear h
 have HC3 := Aside0.mk H
 clear H
 go_enter Tryd.func76, Tryd.ntmps76
 go_upto_region 1 with (fail)
 go_cut [10] (fun v10 wc => ∃ (kq : Nat) (x10_2 : Bool), v10 = .bool x10_2 ∧ Aside0 (numeral_runs.j0 kq a0 a1 x10_2 = some r) ∧ Aside0 (kq ≤ k) ∧ Aside0 (Below w.heap.size w wc))
 case first =>
  have H := HC3.out
  clear HC3
  by_cases c4 : a0.toList = ([] : List UInt8)
  ·
   rw [if_pos c4] at H
   have c4b0 : (a0.toList == ([] : List UInt8)) = true := beq_iff_eq.mpr c4
   have c4b1 : (a0.toList != ([] : List UInt8)) = false := bne_eq_false_iff_eq.mpr c4
   clear c4
   (first | rw [c4b0] | (simp only [i64_w, i32_w]; rw [c4b0]) | skip)
   have H' := Aside0.mk H
   clear H
   go_wp2
   go_meet
   case rel => exact ⟨_, (true), qnp2_, H', ⟨by first | omega | exact Nat.le_refl _⟩, ⟨qnp1_⟩⟩
  ·
   rw [if_neg c4] at H
   have c4b0 : (a0.toList == ([] : List UInt8)) = false := beq_eq_false_iff_ne.mpr c4
   have c4b1 : (a0.toList != ([] : List UInt8)) = true := bne_iff_ne.mpr c4
   (first | rw [c4b0] | (simp only [i64_w, i32_w]; rw [c4b0]) | skip)
   have H' := Aside0.mk H
   clear H
   go_wp2
   go_meet
   case rel => exact ⟨_, (a1.toList.isEmpty), qnp2_, H', ⟨by first | omega | exact Nat.le_refl _⟩, ⟨qnp1_⟩⟩
 case rest =>
  clear HC3
  (try clear p2); (try clear c4); (try clear c4b0); (try clear c4b1)
  obtain ⟨kq, x10_2, rfl, HA, HJ2, HB⟩ := hcut
  cases kq with
  | zero => exact absurd HA.out (by simp [numeral_runs.j0])
  | succ kj2 =>
   have H := HA.out
   clear HA
   simp only [numeral_runs.j0] at H
   by_cases c5 : x10_2 = true
   ·
    subst c5
    have H1 : ((cmp_Compare_int.f (mn (a0.size : Int) 1) (mn (a1.size : Int) 1)).bind fun t271 => (some t271)) = some r := by rw [if_pos rfl] at H; exact H
    clear H
    have H := H1
    clear H1
    obtain ⟨ji6, hji6⟩ : ∃ j_ : Int, (mn (a0.size : Int) 1) = j_ := ⟨_, rfl⟩
    replace H : ((cmp_Compare_int.f (ji6) (mn (a1.size : Int) 1)).bind fun t271 => (some t271)) = some r := by first | (rw [hji6] at H; exact H) | (simp only [hji6] at H ⊢; exact H)
    have hji6_ : (if 1 < (a0.size : Int) then 1 else (a0.size : Int)) = ji6 := hji6
    obtain ⟨ji7, hji7⟩ : ∃ j_ : Int, (mn (a1.size : Int) 1) = j_ := ⟨_, rfl⟩
    replace H : ((cmp_Compare_int.f (ji6) (ji7)).bind fun t271 => (some t271)) = some r := by first | (rw [hji7] at H; exact H) | (simp only [hji7] at H ⊢; exact H)
    have hji7_ : (if 1 < (a1.size : Int) then 1 else (a1.size : Int)) = ji7 := hji7
    replace H := Option.bind_eq_some_iff.mp H
    obtain ⟨t271, A80, H⟩ := H
    replace H : (some t271) = some r := H
    have A8 := Aside0.mk A80
    clear A80
    obtain rfl := Option.some.inj H
    go_wp2_with (first | ((with_reducible refine gate_callee (f := 51) rfl ?_); refine goesL_ (some 17) rfl rfl Tryd.func51 (by kernel_rfl) rfl #[.int .i64 ji6, .int .i64 ji7] rfl (by (try simp only [List.map_toArray, List.map_cons, List.map_nil]); first | done | (simp only [hji6, hji7]; rfl) | rfl | (simp only [List.length_drop, List.length_take]; rfl) | (simp; done) | (simp; omega)) ?_; (with_reducible refine (cmp_Compare_int.calls ji6 ji7 t271 _ A8.out).mono ?_); rintro e w' ⟨rfl, ⟨nd, rfl⟩⟩; refine ⟨_, rfl, ?_⟩))
    go_ret
    exact ⟨by first | rfl | (simp [errW_none, errW_some] <;> rfl) | (simp only [← hji6, ← hji7]; first | rfl | (simp [errW_none, errW_some] <;> rfl)) | (simp [*, errW_none, errW_some] <;> rfl), qnp1_⟩
   ·
    replace c5 := Bool.eq_false_iff.mpr c5
    subst c5
    have H1 : ((strings_TrimLeft.f kj2 a0 (⟨#[48]⟩ : ByteArray)).bind fun t272 => ((strings_TrimLeft.f kj2 a1 (⟨#[48]⟩ : ByteArray)).bind fun t273 => ((cmp_Compare_int.f (t272.size : Int) (t273.size : Int)).bind fun t274 => ((strings_Compare.f t272 t273).bind fun t275 => ((cmp_Or_int.f kj2 (([t274, t275] : List Int))).bind fun t279 => (some t279)))))) = some r := by rw [if_neg (show ¬ (false = true) by decide)] at H; exact H
    clear H
    have H := H1
    clear H1
    replace H := Option.bind_eq_some_iff.mp H
    obtain ⟨t272, A90, H⟩ := H
    replace H : ((strings_TrimLeft.f kj2 a1 (⟨#[48]⟩ : ByteArray)).bind fun t273 => ((cmp_Compare_int.f (t272.size : Int) (t273.size : Int)).bind fun t274 => ((strings_Compare.f t272 t273).bind fun t275 => ((cmp_Or_int.f kj2 (([t274, t275] : List Int))).bind fun t279 => (some t279))))) = some r := H
    have A9 := Aside0.mk A90
    clear A90
    replace H := Option.bind_eq_some_iff.mp H
    obtain ⟨t273, A100, H⟩ := H
    replace H : ((cmp_Compare_int.f (t272.size : Int) (t273.size : Int)).bind fun t274 => ((strings_Compare.f t272 t273).bind fun t275 => ((cmp_Or_int.f kj2 (([t274, t275] : List Int))).bind fun t279 => (some t279)))) = some r := H
    have A10 := Aside0.mk A100
    clear A100
    replace H := Option.bind_eq_some_iff.mp H
    obtain ⟨t274, A110, H⟩ := H
    replace H : ((strings_Compare.f t272 t273).bind fun t275 => ((cmp_Or_int.f kj2 (([t274, t275] : List Int))).bind fun t279 => (some t279))) = some r := H
    have A11 := Aside0.mk A110
    clear A110
    replace H := Option.bind_eq_some_iff.mp H
    obtain ⟨t275, A120, H⟩ := H
    replace H : ((cmp_Or_int.f kj2 (([t274, t275] : List Int))).bind fun t279 => (some t279)) = some r := H
    have A12 := Aside0.mk A120
    clear A120
    obtain ⟨y276, hy276⟩ : ∃ y_ : List Int, y_ = (([t274, t275] : List Int)) := ⟨_, rfl⟩
    replace H : ((cmp_Or_int.f kj2 y276).bind fun t279 => (some t279)) = some r := by first | (rw [hy276]; with_reducible exact H) | (have H2_ := (Option.bind_some _ _).symm.trans H; rw [hy276]; with_reducible exact H2_) | (have H2_ := (Option.bind_some _ _).symm.trans H; with_reducible exact H2_) | with_reducible exact H | (rw [hy276]; exact H) | exact H
    have Ny276 := Aside0.mk hy276
    clear hy276
    replace H := Option.bind_eq_some_iff.mp H
    obtain ⟨t279, A130, H⟩ := H
    replace H : (some t279) = some r := H
    have A13 := Aside0.mk A130
    clear A130
    obtain rfl := Option.some.inj H
    have tk19 : True := trivial; have tk20 : True := trivial; have tk21 : True := trivial; have tk22 : True := trivial; have tk23 : True := trivial; have tk24 : True := trivial
    go_wp2_with (first | (have ztk19 := tk19; clear tk19 ztk19; (with_reducible refine gate_callee (f := 66) rfl ?_); refine goesL_ (some 19) rfl rfl Tryd.func66 (by kernel_rfl) rfl #[.string a0, .string (⟨#[48]⟩ : ByteArray)] rfl qnp0_ ?_; (with_reducible refine (strings_TrimLeft.calls kj2 a0 (⟨#[48]⟩ : ByteArray) t272 _ A9.out).mono ?_); rintro e w14 ⟨rfl, hb⟩; refine ⟨_, rfl, ?_⟩; have n0_ := Aside0.mk (below_step qnp1_ hb); clear HB; have HB := n0_; clear n0_; (try clear hb); (try clear hb2); (try clear hk); (try clear hi)) | (have ztk20 := tk20; clear tk20 ztk20; (with_reducible refine gate_callee (f := 66) rfl ?_); refine goesL_ (some 21) rfl rfl Tryd.func66 (by kernel_rfl) rfl #[.string a1, .string (⟨#[48]⟩ : ByteArray)] rfl qnp0_ ?_; (with_reducible refine (strings_TrimLeft.calls kj2 a1 (⟨#[48]⟩ : ByteArray) t273 _ A10.out).mono ?_); rintro e w15 ⟨rfl, hb⟩; refine ⟨_, rfl, ?_⟩; have n0_ := Aside0.mk (below_step qnp1_ hb); clear HB; have HB := n0_; clear n0_; (try clear hb); (try clear hb2); (try clear hk); (try clear hi)) | (have ztk21 := tk21; clear tk21 ztk21; (with_reducible refine gate_callee (f := 51) rfl ?_); refine goesL_ (some 26) rfl rfl Tryd.func51 (by kernel_rfl) rfl #[.int .i64 (t272.size : Int), .int .i64 (t273.size : Int)] rfl qnp0_ ?_; (with_reducible refine (cmp_Compare_int.calls (t272.size : Int) (t273.size : Int) t274 _ A11.out).mono ?_); rintro e w' ⟨rfl, ⟨nd, rfl⟩⟩; refine ⟨_, rfl, ?_⟩) | (have ztk22 := tk22; clear tk22 ztk22; (with_reducible refine gate_callee (f := 55) rfl ?_); refine goesL_ (some 29) rfl rfl Tryd.func55 (by kernel_rfl) rfl #[.string t272, .string t273] rfl qnp0_ ?_; (with_reducible refine (strings_Compare.calls t272 t273 t275 _ A12.out).mono ?_); rintro e w' ⟨rfl, ⟨nd, rfl⟩⟩; refine ⟨_, rfl, ?_⟩) | (have ztk23 := tk23; clear tk23 ztk23; (with_reducible refine gate_dst (N := 30) rfl ?_); refine Kd.R_lit (Kd.int .i64) _ 3 ?hg (N := 30) ?hd (xs := ([t274, t275] : List Int)) (inner := [.int .i64 t274, .int .i64 t275]) (ok := fun _ => True) (okp := fun _ => True) ?hr ?hp (fun _ hk => hk) trivial (Below.refl _ _) (Nat.le_refl _) (by simp) ?_; (case hd => rfl); (case hg => rfl); (case hr => first | (go_simp; done) | (go_simp; rfl)); (case hp => exact (Reps.one (show Kd.M (Kd.int .i64) _ _ _ t274 [.int .i64 t274] from rfl) (Reps.one (show Kd.M (Kd.int .i64) _ _ _ t275 [.int .i64 t275] from rfl) (Reps.none _ _)))); intro v277 w16 ho17 hb hg_ hnew_; clear hg_ hnew_; (first | rw [← Ny276.out] at ho17 | (simp only [Int.reduceToNat] at ho17; rw [← Ny276.out] at ho17)); have n0_ := Aside0.mk (Kd.R_lower ho17 (below_size qnp1_)); have n1_ := Aside0.mk (below_step qnp1_ hb); clear HB; have HO278 := n0_; have HB := n1_; clear n0_ n1_; clear hb ho17; obtain ⟨Ao18, co18, eo18⟩ := Kd.R_slice HO278.out; subst eo18) | (have ztk24 := tk24; clear tk24 ztk24; (with_reducible refine gate_callee (f := 72) rfl ?_); refine goesL_ (some 31) rfl rfl Tryd.func72 (by kernel_rfl) rfl #[.slice Ao18 y276.length co18] rfl qnp0_ ?_; (with_reducible refine (cmp_Or_int.calls kj2 _ _ y276 t279 _ ?side1 ?side2 A13.out).mono ?_); (case side1 => repeat (first | exact (Kd.R_reads' HO278.out).2.2 | (with_reducible refine Kd.C_alloc ?_ _) | (with_reducible refine Kd.C_drewN ?_ _) | (with_reducible refine Kd.C_drew ?_))); (case side2 => exact (Kd.R_reads' HO278.out).2.1); rintro e w' ⟨rfl, ⟨nd, rfl⟩⟩; refine ⟨_, rfl, ?_⟩))
    go_ret
    exact ⟨qnp5_, qnp1_⟩

end Go.Proofs.YtcdajedmlfhmeaaDoor.XN
