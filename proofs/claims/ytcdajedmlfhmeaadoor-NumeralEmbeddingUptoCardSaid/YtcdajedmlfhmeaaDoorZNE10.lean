import Derived.Test.YtcdajedmlfhmeaaDoorZNE0
import Derived.Test.YtcdajedmlfhmeaaDoorZNE1
import Derived.Test.YtcdajedmlfhmeaaDoorZNE8
import Derived.Test.YtcdajedmlfhmeaaDoorZNE9
import Derived.Lib.Strings
import Derived.Lib.LazyBuf
import Derived.IntWalk
import Derived.Test.YtcdajedmlfhmeaaDoorZNE2
import Derived.Test.YtcdajedmlfhmeaaDoorZNE5
import Derived.Test.YtcdajedmlfhmeaaDoorZNE6
import Derived.Test.YtcdajedmlfhmeaaDoorZNE4
import Derived.Test.YtcdajedmlfhmeaaDoorZNE7
import Derived.Test.YtcdajedmlfhmeaaDoorZNE3
namespace Go.Proofs.YtcdajedmlfhmeaaDoor.XN
open Go.RowKit Go.Proofs.YtcdajedmlfhmeaaDoorW.PrintWords Go.Proofs.YtcdajedmlfhmeaaDoorW.PrintLast Go.Proofs.YtcdajedmlfhmeaaDoorW.PrintMore
attribute [local go_sem] max2_int min2_int max_two min_two max_three min_three max_four min_four
set_option linter.unusedVariables false
set_option linter.unusedSimpArgs false

/-! ### milllaw3_NumeralEmbedding: function 14 -/
mutual
def milllaw3_NumeralEmbedding.j0 : Nat → Int → ByteArray → ByteArray → ByteArray → ByteArray → Bool → Option (Bool)
 | 0, _, _, _, _, _, _ => none
 | k + 1, x0, x1, x2, x7, x8, x24 => if x24 = true then (some false) else (if x7.toList = x8.toList then (milllaw3_NumeralEmbedding.j1 k x0 x1 x2 x7 x8 false) else ((milllaw3_begins.f x7 x8).bind fun t877 => (if t877 = true then (milllaw3_NumeralEmbedding.j1 k x0 x1 x2 x7 x8 true) else ((milllaw3_begins.f x8 x7).bind fun t878 => (milllaw3_NumeralEmbedding.j1 k x0 x1 x2 x7 x8 t878)))))
def milllaw3_NumeralEmbedding.j1 : Nat → Int → ByteArray → ByteArray → ByteArray → ByteArray → Bool → Option (Bool)
 | 0, _, _, _, _, _, _ => none
 | k + 1, x0, x1, x2, x7, x8, x37 => if x37 = true then (some false) else ((millref3_Bytes.f k x7 x8).bind fun t879 => ((numeral_Compare.f k x0 x1 x2).bind fun t880 => (some (t879 == t880))))
end
def milllaw3_NumeralEmbedding.f (k : Nat) (a0 : Int) (a1 : ByteArray) (a2 : ByteArray) : Option (Bool) := (numeral_Embed.f k a0 a1).bind fun t874 => ((numeral_Embed.f k a0 a2).bind fun t875 => (if t874.toList = ([] : List UInt8) then (milllaw3_NumeralEmbedding.j0 k a0 a1 a2 t874 t875 true) else (if t875.toList = ([] : List UInt8) then (milllaw3_NumeralEmbedding.j0 k a0 a1 a2 t874 t875 true) else ((milllaw3_alive.f k).bind fun t876 => (milllaw3_NumeralEmbedding.j0 k a0 a1 a2 t874 t875 (!t876))))))
set_option maxHeartbeats 8000000 in
set_option maxRecDepth 100000 in
theorem milllaw3_NumeralEmbedding.calls (k : Nat) (a0 : Int) (a1 : ByteArray) (a2 : ByteArray) (r : Bool) (w : World) (hGL : GOK w) (h : milllaw3_NumeralEmbedding.f k a0 a1 a2 = some r) :
  Calls Tryd.prog 14 #[.int .u16 a0, .string a1, .string a2] w fun e w' => e = .returned (.bool r) ∧ Below w.heap.size w w' := by
 have HGL := Aside0.mk hGL
 clear hGL
 have HB := Aside0.mk (Below.refl w.heap.size w)
 have H : ((numeral_Embed.f k a0 a1).bind fun t874 => ((numeral_Embed.f k a0 a2).bind fun t875 => (if t874.toList = ([] : List UInt8) then (milllaw3_NumeralEmbedding.j0 k a0 a1 a2 t874 t875 true) else (if t875.toList = ([] : List UInt8) then (milllaw3_NumeralEmbedding.j0 k a0 a1 a2 t874 t875 true) else ((milllaw3_alive.f k).bind fun t876 => (milllaw3_NumeralEmbedding.j0 k a0 a1 a2 t874 t875 (!t876))))))) = some r := h
 clear h
 replace H := Option.bind_eq_some_iff.mp H
 obtain ⟨t874, A40, H⟩ := H
 replace H : ((numeral_Embed.f k a0 a2).bind fun t875 => (if t874.toList = ([] : List UInt8) then (milllaw3_NumeralEmbedding.j0 k a0 a1 a2 t874 t875 true) else (if t875.toList = ([] : List UInt8) then (milllaw3_NumeralEmbedding.j0 k a0 a1 a2 t874 t875 true) else ((milllaw3_alive.f k).bind fun t876 => (milllaw3_NumeralEmbedding.j0 k a0 a1 a2 t874 t875 (!t876)))))) = some r := H
 have A4 := Aside0.mk A40
 clear A40
 replace H := Option.bind_eq_some_iff.mp H
 obtain ⟨t875, A50, H⟩ := H
 replace H : (if t874.toList = ([] : List UInt8) then (milllaw3_NumeralEmbedding.j0 k a0 a1 a2 t874 t875 true) else (if t875.toList = ([] : List UInt8) then (milllaw3_NumeralEmbedding.j0 k a0 a1 a2 t874 t875 true) else ((milllaw3_alive.f k).bind fun t876 => (milllaw3_NumeralEmbedding.j0 k a0 a1 a2 t874 t875 (!t876))))) = some r := H
 have A5 := Aside0.mk A50
 clear A50
 have HC6 := Aside0.mk H
 clear H
 go_enter Tryd.func14, Tryd.ntmps14
 have tk9 : True := trivial; have tk10 : True := trivial
 go_upto_region 3 with (first | (have ztk9 := tk9; clear tk9 ztk9; (with_reducible refine gate_callee (f := 29) rfl ?_); refine goesL_ (some 11) rfl rfl Tryd.func29 (by kernel_rfl) rfl #[.int .u16 a0, .string a1] rfl qne1_ ?_; (with_reducible refine (numeral_Embed.calls k a0 a1 t874 _ ?side1 A4.out).mono ?_); (case side1 => exact GOK.below HGL.out qne0_); rintro e w7 ⟨rfl, hb⟩; refine ⟨_, rfl, ?_⟩; have n0_ := Aside0.mk (below_step qne0_ hb); clear HB; have HB := n0_; clear n0_; (try clear hb); (try clear hb2); (try clear hk); (try clear hi)) | (have ztk10 := tk10; clear tk10 ztk10; (with_reducible refine gate_callee (f := 29) rfl ?_); refine goesL_ (some 14) rfl rfl Tryd.func29 (by kernel_rfl) rfl #[.int .u16 a0, .string a2] rfl qne1_ ?_; (with_reducible refine (numeral_Embed.calls k a0 a2 t875 _ ?side1 A5.out).mono ?_); (case side1 => exact GOK.below HGL.out qne0_); rintro e w8 ⟨rfl, hb⟩; refine ⟨_, rfl, ?_⟩; have n0_ := Aside0.mk (below_step qne0_ hb); clear HB; have HB := n0_; clear n0_; (try clear hb); (try clear hb2); (try clear hk); (try clear hi)))
 (try simp only [Act.put, List.setIfInBounds_toArray, List.set_cons_zero, List.set_cons_succ])
 go_cut [24] (fun v24 wc => ∃ (kq : Nat) (x24_5 : Bool), v24 = .bool x24_5 ∧ Aside0 (milllaw3_NumeralEmbedding.j0 kq a0 a1 a2 t874 t875 x24_5 = some r) ∧ Aside0 (kq ≤ k) ∧ Aside0 (Below w.heap.size w wc))
 case first =>
  have H := HC6.out
  clear HC6
  by_cases c11 : t874.toList = ([] : List UInt8)
  ·
   rw [if_pos c11] at H
   have c11b0 : (t874.toList == ([] : List UInt8)) = true := beq_iff_eq.mpr c11
   have c11b1 : (t874.toList != ([] : List UInt8)) = false := bne_eq_false_iff_eq.mpr c11
   clear c11
   (first | rw [c11b0] | (simp only [i64_w, i32_w]; rw [c11b0]) | skip)
   have H' := Aside0.mk H
   clear H
   go_wp2
   go_meet
   case rel => exact ⟨_, (true), qne2_, H', ⟨by first | omega | exact Nat.le_refl _⟩, ⟨qne0_⟩⟩
  ·
   rw [if_neg c11] at H
   have c11b0 : (t874.toList == ([] : List UInt8)) = false := beq_eq_false_iff_ne.mpr c11
   have c11b1 : (t874.toList != ([] : List UInt8)) = true := bne_iff_ne.mpr c11
   (first | rw [c11b0] | (simp only [i64_w, i32_w]; rw [c11b0]) | skip)
   by_cases c12 : t875.toList = ([] : List UInt8)
   ·
    rw [if_pos c12] at H
    have c12b0 : (t875.toList == ([] : List UInt8)) = true := beq_iff_eq.mpr c12
    have c12b1 : (t875.toList != ([] : List UInt8)) = false := bne_eq_false_iff_eq.mpr c12
    clear c12
    have H' := Aside0.mk H
    clear H
    go_wp2
    go_meet
    case rel => exact ⟨_, (true), qne2_, H', ⟨by first | omega | exact Nat.le_refl _⟩, ⟨qne0_⟩⟩
   ·
    rw [if_neg c12] at H
    have c12b0 : (t875.toList == ([] : List UInt8)) = false := beq_eq_false_iff_ne.mpr c12
    have c12b1 : (t875.toList != ([] : List UInt8)) = true := bne_iff_ne.mpr c12
    replace H := Option.bind_eq_some_iff.mp H
    obtain ⟨t876, A130, H⟩ := H
    replace H : (milllaw3_NumeralEmbedding.j0 k a0 a1 a2 t874 t875 (!t876)) = some r := H
    have A13 := Aside0.mk A130
    clear A130
    have H' := Aside0.mk H
    clear H
    go_wp2_with (first | (go_at_call 25; (with_reducible refine (milllaw3_alive.calls k  t876 _ ?side1 A13.out).mono ?_); (case side1 => exact GOK.below HGL.out qne0_); rintro e w14 ⟨rfl, hb⟩; have n0_ := Aside0.mk (below_step qne0_ hb); clear HB; have HB := n0_; clear n0_; (try clear hb); (try clear hb2); (try clear hk); (try clear hi)))
    go_meet
    case rel => exact ⟨_, (!t876), qne2_, H', ⟨by first | omega | exact Nat.le_refl _⟩, ⟨qne0_⟩⟩
 case rest =>
  clear HC6
  (try clear c1); (try clear c2); (try clear p2); (try clear c11); (try clear c11b0); (try clear c11b1); (try clear c12); (try clear c12b0); (try clear c12b1); (try clear c14)
  obtain ⟨kq, x24_5, rfl, HA, HJ5, HB⟩ := hcut
  cases kq with
  | zero => exact absurd HA.out (by simp [milllaw3_NumeralEmbedding.j0])
  | succ kj5 =>
   have H := HA.out
   clear HA
   simp only [milllaw3_NumeralEmbedding.j0] at H
   by_cases c15 : x24_5 = true
   ·
    subst c15
    have H1 : (some false) = some r := by rw [if_pos rfl] at H; exact H
    clear H
    have H := H1
    clear H1
    obtain rfl := Option.some.inj H
    go_wp2
    go_ret
    exact ⟨qne5_, qne0_⟩
   ·
    replace c15 := Bool.eq_false_iff.mpr c15
    subst c15
    have H1 : (if t874.toList = t875.toList then (milllaw3_NumeralEmbedding.j1 kj5 a0 a1 a2 t874 t875 false) else ((milllaw3_begins.f t874 t875).bind fun t877 => (if t877 = true then (milllaw3_NumeralEmbedding.j1 kj5 a0 a1 a2 t874 t875 true) else ((milllaw3_begins.f t875 t874).bind fun t878 => (milllaw3_NumeralEmbedding.j1 kj5 a0 a1 a2 t874 t875 t878))))) = some r := by rw [if_neg (show ¬ (false = true) by decide)] at H; exact H
    clear H
    have H := H1
    clear H1
    have HC16 := Aside0.mk H
    clear H
    go_upto_region 5 with (fail)
    go_cut [37] (fun v37 wc => ∃ (kq : Nat) (x37_15 : Bool), v37 = .bool x37_15 ∧ Aside0 (milllaw3_NumeralEmbedding.j1 kq a0 a1 a2 t874 t875 x37_15 = some r) ∧ Aside0 (kq ≤ kj5) ∧ Aside0 (Below w.heap.size w wc))
    case first =>
     have H := HC16.out
     clear HC16
     by_cases c17 : t874.toList = t875.toList
     ·
      rw [if_pos c17] at H
      have c17b0 : (t874.toList == t875.toList) = true := beq_iff_eq.mpr c17
      have c17b1 : (t874.toList != t875.toList) = false := bne_eq_false_iff_eq.mpr c17
      clear c17
      (first | rw [c17b0] | (simp only [i64_w, i32_w]; rw [c17b0]) | skip)
      have H' := Aside0.mk H
      clear H
      go_wp2
      go_meet
      case rel => exact ⟨_, (false), qne2_, H', ⟨by have := HJ5.out; first | omega | exact Nat.le_refl _⟩, ⟨qne0_⟩⟩
     ·
      rw [if_neg c17] at H
      have c17b0 : (t874.toList == t875.toList) = false := beq_eq_false_iff_ne.mpr c17
      have c17b1 : (t874.toList != t875.toList) = true := bne_iff_ne.mpr c17
      (first | rw [c17b0] | (simp only [i64_w, i32_w]; rw [c17b0]) | skip)
      replace H := Option.bind_eq_some_iff.mp H
      obtain ⟨t877, A180, H⟩ := H
      replace H : (if t877 = true then (milllaw3_NumeralEmbedding.j1 kj5 a0 a1 a2 t874 t875 true) else ((milllaw3_begins.f t875 t874).bind fun t878 => (milllaw3_NumeralEmbedding.j1 kj5 a0 a1 a2 t874 t875 t878))) = some r := H
      have A18 := Aside0.mk A180
      clear A180
      by_cases c19 : t877 = true
      ·
       subst c19
       have H1 : (milllaw3_NumeralEmbedding.j1 kj5 a0 a1 a2 t874 t875 true) = some r := by rw [if_pos rfl] at H; exact H
       clear H
       have H := H1
       clear H1
       have H' := Aside0.mk H
       clear H
       go_wp2_with (first | (go_at_call 18; (with_reducible refine (milllaw3_begins.calls t874 t875 true _ A18.out).mono ?_); rintro e w' ⟨rfl, ⟨nd, rfl⟩⟩))
       go_meet
       case rel => exact ⟨_, (true), qne2_, H', ⟨by have := HJ5.out; first | omega | exact Nat.le_refl _⟩, ⟨qne0_⟩⟩
      ·
       replace c19 := Bool.eq_false_iff.mpr c19
       subst c19
       have H1 : ((milllaw3_begins.f t875 t874).bind fun t878 => (milllaw3_NumeralEmbedding.j1 kj5 a0 a1 a2 t874 t875 t878)) = some r := by rw [if_neg (show ¬ (false = true) by decide)] at H; exact H
       clear H
       have H := H1
       clear H1
       replace H := Option.bind_eq_some_iff.mp H
       obtain ⟨t878, A200, H⟩ := H
       replace H : (milllaw3_NumeralEmbedding.j1 kj5 a0 a1 a2 t874 t875 t878) = some r := H
       have A20 := Aside0.mk A200
       clear A200
       have H' := Aside0.mk H
       clear H
       have tk21 : True := trivial; have tk22 : True := trivial
       go_wp2_with (first | (have ztk21 := tk21; clear tk21 ztk21; go_at_call 18; (with_reducible refine (milllaw3_begins.calls t874 t875 false _ A18.out).mono ?_); rintro e w' ⟨rfl, ⟨nd, rfl⟩⟩) | (have ztk22 := tk22; clear tk22 ztk22; go_at_call 18; (with_reducible refine (milllaw3_begins.calls t875 t874 t878 _ A20.out).mono ?_); rintro e w' ⟨rfl, ⟨nd, rfl⟩⟩))
       go_meet
       case rel => exact ⟨_, (t878), qne2_, H', ⟨by have := HJ5.out; first | omega | exact Nat.le_refl _⟩, ⟨qne0_⟩⟩
    case rest =>
     clear HC16
     (try clear c1); (try clear c2); (try clear p2); (try clear c11); (try clear c11b0); (try clear c11b1); (try clear c12); (try clear c12b0); (try clear c12b1); (try clear c14); (try clear c15); (try clear c17); (try clear c17b0); (try clear c17b1); (try clear c19); (try clear p2)
     obtain ⟨kq, x37_15, rfl, HA, HJ15, HB⟩ := hcut
     cases kq with
     | zero => exact absurd HA.out (by simp [milllaw3_NumeralEmbedding.j1])
     | succ kj15 =>
      have H := HA.out
      clear HA
      simp only [milllaw3_NumeralEmbedding.j1] at H
      by_cases c23 : x37_15 = true
      ·
       subst c23
       have H1 : (some false) = some r := by rw [if_pos rfl] at H; exact H
       clear H
       have H := H1
       clear H1
       obtain rfl := Option.some.inj H
       go_wp2
       go_ret
       exact ⟨qne5_, qne0_⟩
      ·
       replace c23 := Bool.eq_false_iff.mpr c23
       subst c23
       have H1 : ((millref3_Bytes.f kj15 t874 t875).bind fun t879 => ((numeral_Compare.f kj15 a0 a1 a2).bind fun t880 => (some (t879 == t880)))) = some r := by rw [if_neg (show ¬ (false = true) by decide)] at H; exact H
       clear H
       have H := H1
       clear H1
       replace H := Option.bind_eq_some_iff.mp H
       obtain ⟨t879, A240, H⟩ := H
       replace H : ((numeral_Compare.f kj15 a0 a1 a2).bind fun t880 => (some (t879 == t880))) = some r := H
       have A24 := Aside0.mk A240
       clear A240
       replace H := Option.bind_eq_some_iff.mp H
       obtain ⟨t880, A250, H⟩ := H
       replace H : (some (t879 == t880)) = some r := H
       have A25 := Aside0.mk A250
       clear A250
       obtain rfl := Option.some.inj H
       have tk27 : True := trivial; have tk28 : True := trivial
       go_wp2_with (first | (have ztk27 := tk27; clear tk27 ztk27; (with_reducible refine gate_callee (f := 31) rfl ?_); refine goesL_ (some 40) rfl rfl Tryd.func31 (by kernel_rfl) rfl #[.string t874, .string t875] rfl qne1_ ?_; (with_reducible refine (millref3_Bytes.calls kj15 t874 t875 t879 _ A24.out).mono ?_); rintro e w' ⟨rfl, ⟨nd, rfl⟩⟩; refine ⟨_, rfl, ?_⟩) | (have ztk28 := tk28; clear tk28 ztk28; (with_reducible refine gate_callee (f := 27) rfl ?_); refine goesL_ (some 44) rfl rfl Tryd.func27 (by kernel_rfl) rfl #[.int .u16 a0, .string a1, .string a2] rfl qne1_ ?_; (with_reducible refine (numeral_Compare.calls kj15 a0 a1 a2 t880 _ ?side1 A25.out).mono ?_); (case side1 => exact GOK.below HGL.out qne0_); rintro e w26 ⟨rfl, hb⟩; refine ⟨_, rfl, ?_⟩; have n0_ := Aside0.mk (below_step qne0_ hb); clear HB; have HB := n0_; clear n0_; (try clear hb); (try clear hb2); (try clear hk); (try clear hi)))
       go_ret
       exact ⟨qne5_, qne0_⟩

/-- THE ONE PURE STATEMENT of milllaw3_NumeralEmbedding: yours. -/
def milllaw3_NumeralEmbedding.Pure : Prop := ∀ (a0 : Int) (a1 : ByteArray) (a2 : ByteArray), (Lit.int .u16 a0).wf = true → a1.size ≤ 140737488351232 → a2.size ≤ 140737488351232 → ∃ k, milllaw3_NumeralEmbedding.f k a0 a1 a2 = some true
end Go.Proofs.YtcdajedmlfhmeaaDoor.XN

section
/- What the pure laws stand on: 'enough rounds', bytes as a list, places. (by this session) -/
set_option linter.unusedVariables false
set_option linter.unusedSimpArgs false
namespace Go.Proofs.YtcdajedmlfhmeaaDoor.XN
open Go.RowKit Go.Proofs.YtcdajedmlfhmeaaDoorW.PrintWords Go.Proofs.YtcdajedmlfhmeaaDoorW.PrintMore

/-- With enough rounds, f answers v. -/
def Ev {α : Type} (f : Nat → Option α) (v : α) : Prop := ∃ k0, ∀ k, k0 ≤ k → f k = some v
namespace Ev
variable {α β : Type}
theorem pure (v : α) : Ev (fun _ => some v) v := ⟨0, fun _ _ => rfl⟩
theorem done {v w : α} (h : v = w) : Ev (fun _ => some v) w := ⟨0, fun _ _ => by rw [h]⟩
theorem congr {f g : Nat → Option α} {v : α} (h : ∀ k, f k = g k) (hg : Ev g v) : Ev f v := by
  obtain ⟨k0, hk⟩ := hg
  exact ⟨k0, fun k h0 => by rw [h, hk k h0]⟩
theorem val {f : Nat → Option α} {v w : α} (h : Ev f v) (e : v = w) : Ev f w := e ▸ h
theorem bind {f : Nat → Option α} {g : Nat → α → Option β} {a : α} {v : β} (h : Ev f a) (h2 : Ev (fun k => g k a) v) : Ev (fun k => (f k).bind (g k)) v := by
  obtain ⟨k1, e1⟩ := h
  obtain ⟨k2, e2⟩ := h2
  refine ⟨max k1 k2, fun k hk => ?_⟩
  show (f k).bind (g k) = some v
  rw [e1 k (by omega)]
  exact e2 k (by omega)
theorem succ {f : Nat → Option α} {v : α} (h : Ev (fun k => f (k + 1)) v) : Ev f v := by
  obtain ⟨k0, e⟩ := h
  refine ⟨k0 + 1, fun k hk => ?_⟩
  obtain ⟨k', rfl⟩ : ∃ k', k = k' + 1 := ⟨k - 1, by omega⟩
  exact e k' (by omega)
theorem pos {c : Prop} [Decidable c] {f g : Nat → Option α} {v : α} (hc : c) (h : Ev f v) : Ev (fun k => if c then f k else g k) v := by
  simpa only [if_pos hc] using h
theorem neg {c : Prop} [Decidable c] {f g : Nat → Option α} {v : α} (hc : ¬ c) (h : Ev g v) : Ev (fun k => if c then f k else g k) v := by
  simpa only [if_neg hc] using h
theorem ite {c : Prop} [Decidable c] {f g : Nat → Option α} {v : α} (h1 : c → Ev f v) (h2 : ¬ c → Ev g v) : Ev (fun k => if c then f k else g k) v := by
  by_cases hc : c
  · exact pos hc (h1 hc)
  · exact neg hc (h2 hc)
theorem ex {f : Nat → Option α} {v : α} (h : Ev f v) : ∃ k, f k = some v := by
  obtain ⟨k0, e⟩ := h
  exact ⟨k0, e k0 (Nat.le_refl _)⟩
end Ev

/-! ### bytes as a list -/
def L (s : ByteArray) : List UInt8 := s.data.toList
def mkB (l : List UInt8) : ByteArray := ⟨l.toArray⟩
theorem L_mk (l : List UInt8) : L (mkB l) = l := rfl
theorem mk_L (s : ByteArray) : mkB (L s) = s := by cases s; rfl
theorem L_len (s : ByteArray) : (L s).length = s.size := Array.length_toList
theorem size_mk (l : List UInt8) : (mkB l).size = l.length := by simp [mkB, ByteArray.size]
theorem toList_L (s : ByteArray) : s.toList = L s := ByteArray.toList_eq s
theorem toList_mk (l : List UInt8) : (mkB l).toList = l := by rw [toList_L, L_mk]
theorem L_inj {s t : ByteArray} (h : L s = L t) : s = t := by rw [← mk_L s, h, mk_L]
theorem L_extract (s : ByteArray) (a b : Nat) : L (s.extract a b) = ((L s).drop a).take (b - a) := Lib.extract_data s a b
theorem extract_mk' (s : ByteArray) (a b : Nat) : s.extract a b = mkB (((L s).drop a).take (b - a)) := L_inj (by rw [L_extract, L_mk])
theorem extract_end (s : ByteArray) (a : Nat) : s.extract a s.size = mkB ((L s).drop a) := by
  rw [extract_mk', List.take_of_length_le]
  rw [List.length_drop, L_len]
  omega
theorem extract_front (s : ByteArray) (b : Nat) : s.extract 0 b = mkB ((L s).take b) := by rw [extract_mk']; rfl
theorem L_append (s t : ByteArray) : L (s ++ t) = L s ++ L t := by
  unfold L
  rw [ByteArray.data_append, Array.toList_append]
theorem mk_append (l m : List UInt8) : mkB l ++ mkB m = mkB (l ++ m) := L_inj (by rw [L_append, L_mk, L_mk, L_mk])
theorem bt_nat (s : ByteArray) (i : Nat) (h : i < (L s).length) : bt s (i : Int) = ((L s)[i].toNat : Int) := by
  have h' : i < s.size := by rwa [L_len] at h
  unfold bt
  have e : ((i : Int)).toNat = i := by omega
  simp only [e, h', dite_true]
  rfl
theorem drop_nil {s : ByteArray} {i : Nat} (h : (L s).drop i = []) : s.size ≤ i := by
  rw [← L_len]; exact List.drop_eq_nil_iff.1 h
theorem drop_cons {s : ByteArray} {i : Nat} {c : UInt8} {r : List UInt8} (h : (L s).drop i = c :: r) : i < s.size ∧ bt s (i : Int) = (c.toNat : Int) ∧ (L s).drop (i + 1) = r := by
  have hl : i < (L s).length := by
    rcases Nat.lt_or_ge i (L s).length with h' | h'
    · exact h'
    · rw [List.drop_eq_nil_iff.2 h'] at h; cases h
  have e := List.drop_eq_getElem_cons hl
  rw [h] at e
  injection e with e1 e2
  exact ⟨by rwa [L_len] at hl, by rw [bt_nat s i hl, e1], e2.symm⟩
theorem drop_some {s : ByteArray} {i : Nat} (h : i < s.size) : ∃ c, (L s).drop i = c :: (L s).drop (i + 1) ∧ bt s (i : Int) = (c.toNat : Int) := by
  have hl : i < (L s).length := by rwa [L_len]
  exact ⟨_, List.drop_eq_getElem_cons hl, bt_nat s i hl⟩

/-! ### whole numbers -/
theorem w64 {x : Int} (h : -9223372036854775808 ≤ x ∧ x ≤ 9223372036854775807) : wrap64 x = x := by unfold wrap64; omega
theorem w64_nat {x : Int} {n : Nat} (e : x = (n : Int)) (h : n ≤ 9223372036854775807) : wrap64 x = (n : Int) := by rw [e]; exact w64 (by omega)
theorem w64_succ {i : Nat} (h : i < 9223372036854775807) : wrap64 ((i : Int) + 1) = ((i + 1 : Nat) : Int) := w64_nat (by omega) (by omega)
theorem u8_lt (c : UInt8) : (c.toNat : Int) < 256 ∧ (0 : Int) ≤ (c.toNat : Int) := by have := c.toNat_lt; omega
theorem u8_eq {c d : UInt8} (h : (c.toNat : Int) = (d.toNat : Int)) : c = d := UInt8.toNat_inj.1 (by omega)
/-- The strings that come up are shorter than this. -/
def big : Nat := 4611686018427387904
theorem big_eq : big = 4611686018427387904 := rfl

/-! ### runs at the head of a list -/
theorem take_len {p : UInt8 → Bool} (l : List UInt8) : (l.takeWhile p).length ≤ l.length := by
  induction l with
  | nil => simp
  | cons c r ih => simp only [List.takeWhile_cons]; split <;> simp <;> omega
theorem take_run {p : UInt8 → Bool} (l : List UInt8) : l.take (l.takeWhile p).length = l.takeWhile p := by
  induction l with
  | nil => rfl
  | cons c r ih =>
    simp only [List.takeWhile_cons]
    split
    · simp [ih]
    · simp
theorem drop_run {p : UInt8 → Bool} (l : List UInt8) : l.drop (l.takeWhile p).length = l.dropWhile p := by
  induction l with
  | nil => rfl
  | cons c r ih =>
    simp only [List.takeWhile_cons, List.dropWhile_cons]
    split
    · simp [ih]
    · simp
/-- A loop that goes on while a byte is p, up to the end. -/
theorem scan {β : Type} {s : ByteArray} {p : UInt8 → Bool} {F : Nat → Int → Option β} {v : β} (hs : s.size < big)
    (hstep : ∀ (k i : Nat) (c : UInt8), i < s.size → bt s (i : Int) = (c.toNat : Int) → p c = true → F (k + 1) (i : Int) = F k ((i + 1 : Nat) : Int)) :
    ∀ (l : List UInt8) (i : Nat), (L s).drop i = l → Ev (fun k => F k ((i + (l.takeWhile p).length : Nat) : Int)) v → Ev (fun k => F k (i : Int)) v
  | [], i, h, hend => by simpa using hend
  | c :: r, i, h, hend => by
    obtain ⟨h1, h2, h3⟩ := drop_cons h
    by_cases hp : p c = true
    · rw [List.takeWhile_cons, if_pos hp] at hend
      refine Ev.succ (Ev.congr (fun k => hstep k i c h1 h2 hp) (scan hs hstep r (i + 1) h3 ?_))
      rw [show i + 1 + (r.takeWhile p).length = i + (c :: r.takeWhile p).length by simp; omega]
      exact hend
    · rw [List.takeWhile_cons, if_neg hp] at hend
      simpa using hend
/-- What stands behind such a run: the end, or a byte that isn't p. -/
theorem behind {s : ByteArray} {p : UInt8 → Bool} {i : Nat} (hi : i ≤ s.size) : let j := i + (((L s).drop i).takeWhile p).length; j ≤ s.size ∧ (L s).drop j = ((L s).drop i).dropWhile p := by
  refine ⟨?_, ?_⟩
  · have := take_len (p := p) ((L s).drop i)
    rw [List.length_drop, L_len] at this
    omega
  · rw [← List.drop_drop, drop_run]
theorem dropWhile_head {p : UInt8 → Bool} {l r : List UInt8} {c : UInt8} (h : l.dropWhile p = c :: r) : p c = false := by
  induction l with
  | nil => cases h
  | cons d l ih =>
    rw [List.dropWhile_cons] at h
    split at h
    · exact ih h
    · rename_i hd
      injection h with h1 h2
      subst h1
      simpa using hd
end Go.Proofs.YtcdajedmlfhmeaaDoor.XN
end

namespace Go.Proofs.YtcdajedmlfhmeaaDoor.XN
open Go.RowKit Go.Proofs.YtcdajedmlfhmeaaDoorW.PrintWords Go.Proofs.YtcdajedmlfhmeaaDoorW.PrintLast Go.Proofs.YtcdajedmlfhmeaaDoorW.PrintMore
attribute [local go_sem] max2_int min2_int max_two min_two max_three min_three max_four min_four
set_option linter.unusedVariables false
set_option linter.unusedSimpArgs false

/-! ### millref3_start: function 44 -/
def millref3_start.l0 : Nat → ByteArray → Int → Option (Int)
 | 0, _, _ => none
 | k + 1, x0, x3 => if x3 < (x0.size : Int) then (if 0 ≤ x3 then (if (bt x0 x3) = 32 then (millref3_start.l0 k x0 (wrap64 (x3 + 1))) else (if (bt x0 x3) = 9 then (millref3_start.l0 k x0 (wrap64 (x3 + 1))) else (some x3))) else (none)) else (some x3)
def millref3_start.f (k : Nat) (a0 : ByteArray) : Option (Int) := millref3_start.l0 k a0 0

/-! ### millref3_isDigit: function 96 -/
def millref3_isDigit.f (a0 : Int) : Option (Bool) := if a0 ≥ 48 then (some (decide (a0 ≤ 57))) else (some false)

/-! ### millref3_run: function 71 -/
def millref3_run.l0 : Nat → ByteArray → Int → Option (Int)
 | 0, _, _ => none
 | k + 1, x0, x1 => if x1 < (x0.size : Int) then (if 0 ≤ x1 then ((millref3_isDigit.f (bt x0 x1)).bind fun t194 => (if t194 = true then (millref3_run.l0 k x0 (wrap64 (x1 + 1))) else (some x1))) else (none)) else (some x1)
def millref3_run.f (k : Nat) (a0 : ByteArray) (a1 : Int) : Option (Int) := millref3_run.l0 k a0 a1

/-! ### millref3_Plain: function 46 -/
def millref3_Plain.f (k : Nat) (a0 : ByteArray) (a1 : Int) : Option (ByteArray × Int × Int) := (millref3_run.f k a0 a1).bind fun t195 => (if 0 ≤ a1 then (if a1 ≤ t195 then (if t195 ≤ (a0.size : Int) then (if t195 < (a0.size : Int) then (if 0 ≤ t195 then (if (bt a0 t195) = 46 then ((millref3_run.f k a0 (wrap64 (t195 + 1))).bind fun t196 => (if 0 ≤ (wrap64 (t195 + 1)) then (if (wrap64 (t195 + 1)) ≤ t196 then (if t196 ≤ (a0.size : Int) then (if (t195.toNat - a1.toNat) + (t196.toNat - ((wrap64 (t195 + 1)) : Int).toNat) ≤ 9223372036854775807 then (if ((a0.extract (a1 : Int).toNat (t195 : Int).toNat) ++ (a0.extract ((wrap64 (t195 + 1)) : Int).toNat (t196 : Int).toNat)).toList = ([] : List UInt8) then (some ((⟨#[]⟩ : ByteArray), 0, (-1))) else (some ((a0.extract (a1 : Int).toNat (t195 : Int).toNat) ++ (a0.extract ((wrap64 (t195 + 1)) : Int).toNat (t196 : Int).toNat), ((t195.toNat - a1.toNat : Nat) : Int), t196))) else (none)) else (none)) else (none)) else (none))) else (if (a0.extract (a1 : Int).toNat (t195 : Int).toNat).toList = ([] : List UInt8) then (some ((⟨#[]⟩ : ByteArray), 0, (-1))) else (some (a0.extract (a1 : Int).toNat (t195 : Int).toNat, ((t195.toNat - a1.toNat : Nat) : Int), t195)))) else (none)) else (if (a0.extract (a1 : Int).toNat (t195 : Int).toNat).toList = ([] : List UInt8) then (some ((⟨#[]⟩ : ByteArray), 0, (-1))) else (some (a0.extract (a1 : Int).toNat (t195 : Int).toNat, ((t195.toNat - a1.toNat : Nat) : Int), t195)))) else (none)) else (none)) else (none))
end Go.Proofs.YtcdajedmlfhmeaaDoor.XN

section
/- What numeral and millref3 compute at the head of a text: blanks, digits, the parts of a number. (by this session) -/
-- NEEDS numeral_blanks numeral_plain millref3_start millref3_isDigit millref3_run millref3_Plain
set_option linter.unusedVariables false
set_option linter.unusedSimpArgs false
namespace Go.Proofs.YtcdajedmlfhmeaaDoor.XN
open Go.RowKit Go.Proofs.YtcdajedmlfhmeaaDoorW.PrintWords Go.Proofs.YtcdajedmlfhmeaaDoorW.PrintMore

theorem stop_at {s : ByteArray} {p : UInt8 → Bool} {i : Nat} (hi : i ≤ s.size) :
    (i + (((L s).drop i).takeWhile p).length = s.size ∧ ((L s).drop i).dropWhile p = []) ∨
    (∃ c r, i + (((L s).drop i).takeWhile p).length < s.size ∧ bt s ((i + (((L s).drop i).takeWhile p).length : Nat) : Int) = (c.toNat : Int) ∧ p c = false ∧ ((L s).drop i).dropWhile p = c :: r ∧ (L s).drop (i + (((L s).drop i).takeWhile p).length + 1) = r) := by
  obtain ⟨h1, h2⟩ := behind (p := p) hi
  cases h : ((L s).drop i).dropWhile p with
  | nil =>
    left
    rw [h] at h2
    have := drop_nil h2
    exact ⟨by omega, rfl⟩
  | cons c r =>
    right
    rw [h] at h2
    obtain ⟨a, b, d⟩ := drop_cons h2
    exact ⟨c, r, a, b, dropWhile_head h, rfl, d⟩

def isBl (c : UInt8) : Bool := decide ((c.toNat : Int) = 32) || decide ((c.toNat : Int) = 9)
def isDg (c : UInt8) : Bool := plainDig (c.toNat : Int)
def is0 (c : UInt8) : Bool := decide ((c.toNat : Int) = 48)
def blkN (l : List UInt8) : Nat := (l.takeWhile isBl).length

theorem blanks_ev (s : ByteArray) (hs : s.size < big) : Ev (fun k => numeral_blanks.f k s) (blkN (L s) : Int) := by
  unfold numeral_blanks.f
  refine scan (p := isBl) (F := fun k i => numeral_blanks.l0 k s i) hs (fun k i c h1 h2 hp => ?_) (L s) 0 rfl ?_
  · simp only [numeral_blanks.l0, h2, w64_succ (i := i) (by rw [big_eq] at hs; omega)]
    rw [if_pos (by omega), if_pos (by omega)]
    simp only [isBl, Bool.or_eq_true, decide_eq_true_eq] at hp
    split
    · rfl
    · rw [if_pos (by omega)]
  · simp only [Nat.zero_add]
    have hst := stop_at (s := s) (p := isBl) (i := 0) (Nat.zero_le _)
    simp only [Nat.zero_add, List.drop_zero] at hst
    refine Ev.succ ?_
    rcases hst with ⟨h, _⟩ | ⟨c, r, h1, h2, h3, _⟩
    · simp only [numeral_blanks.l0]
      exact Ev.neg (by rw [h]; omega) (Ev.pure _)
    · simp only [numeral_blanks.l0, h2]
      simp only [isBl, Bool.or_eq_false_iff, decide_eq_false_iff_not] at h3
      exact Ev.pos (by omega) (Ev.pos (by omega) (Ev.neg h3.1 (Ev.neg h3.2 (Ev.pure _))))
theorem blkN_le (s : ByteArray) : blkN (L s) ≤ s.size := by
  have := take_len (p := isBl) (L s)
  rw [L_len] at this
  exact this
theorem plainEnd_L (s : ByteArray) (i : Nat) (hi : i ≤ s.size) : plainEnd s i = i + (((L s).drop i).takeWhile isDg).length := by
  generalize hl : (L s).drop i = l
  induction l generalizing i with
  | nil =>
    have := drop_nil hl
    rw [plainEnd_no (by omega)]
    simp
  | cons c r ih =>
    obtain ⟨h1, h2, h3⟩ := drop_cons hl
    by_cases hp : isDg c = true
    · rw [plainEnd_yes h1 (by rw [h2]; exact hp), ih (i + 1) (by omega) h3, List.takeWhile_cons, if_pos hp]
      simp
      omega
    · rw [plainEnd_no (fun h => hp (by have := h.2; rw [h2] at this; exact this)), List.takeWhile_cons, if_neg hp]
      simp

/-- A number's parts at the head of l: the digits ahead of the point, those behind it, how many bytes in all. -/
def plS (l : List UInt8) : List UInt8 × List UInt8 × Nat :=
  match l.dropWhile isDg with
  | [] => (l.takeWhile isDg, [], (l.takeWhile isDg).length)
  | c :: r => if (c.toNat : Int) = 46 then (l.takeWhile isDg, r.takeWhile isDg, (l.takeWhile isDg).length + 1 + (r.takeWhile isDg).length) else (l.takeWhile isDg, [], (l.takeWhile isDg).length)
theorem plS_len (l : List UInt8) : (plS l).2.2 ≤ l.length := by
  unfold plS
  have h1 := List.takeWhile_append_dropWhile (p := isDg) (l := l)
  have h2 := congrArg List.length h1
  rw [List.length_append] at h2
  split
  · simp only; omega
  · rename_i c r h
    rw [h] at h2
    have := take_len (p := isDg) r
    simp at h2
    split <;> simp only <;> omega
def noneAt (l : List UInt8) : Bool := (plS l).1.isEmpty && (plS l).2.1.isEmpty
theorem nil_iff (l : List UInt8) : l = [] ↔ l.isEmpty = true := by cases l <;> simp
theorem plainF_S (s : ByteArray) (i : Nat) (hi : i ≤ s.size) : plainF s i = if noneAt ((L s).drop i) = true then (false, ⟨#[]⟩, ⟨#[]⟩, 0) else (false, mkB (plS ((L s).drop i)).1, mkB (plS ((L s).drop i)).2.1, ((i + (plS ((L s).drop i)).2.2 : Nat) : Int)) := by
  have he := plainEnd_L s i hi
  have hst := stop_at (s := s) (p := isDg) hi
  generalize hl : (L s).drop i = l at *
  have hx : s.extract i (plainEnd s i) = mkB (l.takeWhile isDg) := by
    rw [extract_mk', he, hl, Nat.add_sub_cancel_left, take_run]
  unfold plainF
  rw [hx]
  rw [he]
  unfold noneAt plS
  rcases hst with ⟨h, h'⟩ | ⟨c, r, h1, h2, h3, h4, h5⟩
  · rw [if_neg (by omega)]
    rw [h']
    simp only [toList_mk, nil_iff, List.isEmpty_nil, Bool.and_true]
    rfl
  · rw [h2, h4]
    simp only []
    by_cases h46 : (c.toNat : Int) = 46
    · rw [if_pos ⟨h1, h46⟩, if_pos h46]
      have hj : i + (l.takeWhile isDg).length + 1 ≤ s.size := by omega
      have he2 := plainEnd_L s _ hj
      rw [h5] at he2
      have hx2 : s.extract (i + (l.takeWhile isDg).length + 1) (plainEnd s (i + (l.takeWhile isDg).length + 1)) = mkB (r.takeWhile isDg) := by
        rw [extract_mk', he2, h5, Nat.add_sub_cancel_left, take_run]
      rw [hx2, he2]
      simp only [toList_mk, nil_iff, Bool.and_eq_true]
      rw [show i + (l.takeWhile isDg).length + 1 + (r.takeWhile isDg).length = i + ((l.takeWhile isDg).length + 1 + (r.takeWhile isDg).length) by omega]
    · rw [if_neg (fun h => h46 h.2), if_neg h46]
      simp only [toList_mk, nil_iff, List.isEmpty_nil, Bool.and_true]
      rfl
theorem plain_f (s : ByteArray) (hs : s.size < big) (i : Nat) (hi : i ≤ s.size) : numeral_plain.f s (i : Int) = some (if noneAt ((L s).drop i) = true then (false, ⟨#[]⟩, ⟨#[]⟩, 0) else (false, mkB (plS ((L s).drop i)).1, mkB (plS ((L s).drop i)).2.1, ((i + (plS ((L s).drop i)).2.2 : Nat) : Int))) := by
  unfold numeral_plain.f
  rw [if_pos ⟨by omega, by omega, by rw [big_eq] at hs; omega⟩, Int.toNat_natCast, plainF_S s i hi]
end Go.Proofs.YtcdajedmlfhmeaaDoor.XN
end

namespace Go.Proofs.YtcdajedmlfhmeaaDoor.XN
open Go.RowKit Go.Proofs.YtcdajedmlfhmeaaDoorW.PrintWords Go.Proofs.YtcdajedmlfhmeaaDoorW.PrintLast Go.Proofs.YtcdajedmlfhmeaaDoorW.PrintMore
attribute [local go_sem] max2_int min2_int max_two min_two max_three min_three max_four min_four
set_option linter.unusedVariables false
set_option linter.unusedSimpArgs false

/-! ### millref3_signed: function 41 -/
def millref3_signed.j0 : Nat → ByteArray → Int → Bool → Bool → Option (Bool × ByteArray × Int × Int × Int)
 | 0, _, _, _, _ => none
 | k + 1, x0, x4, x5, x20 => if x20 = true then ((millref3_Plain.f k x0 (wrap64 (x4 + 1))).bind fun bt199 => (if bt199.2.2 < 0 then (some (false, (⟨#[]⟩ : ByteArray), 0, 0, 0)) else (some (true, bt199.1, bt199.2.1, 0, bt199.2.2)))) else ((millref3_Plain.f k x0 x4).bind fun bt202 => (if bt202.2.2 < 0 then (some (false, (⟨#[]⟩ : ByteArray), 0, 0, 0)) else (some (x5, bt202.1, bt202.2.1, 0, bt202.2.2))))
def millref3_signed.f (k : Nat) (a0 : ByteArray) : Option (Bool × ByteArray × Int × Int × Int) := (millref3_start.f k a0).bind fun t198 => (if t198 < (a0.size : Int) then (if 0 ≤ t198 then (millref3_signed.j0 k a0 t198 false ((bt a0 t198) == 45)) else (none)) else (millref3_signed.j0 k a0 t198 false false))

/-! ### millref3_zeros: function 42 -/
def millref3_zeros.l0 : Nat → ByteArray → Int → Option (Int)
 | 0, _, _ => none
 | k + 1, x0, x3 => if x3 < (x0.size : Int) then (if 0 ≤ x3 then (if (bt x0 x3) = 48 then (millref3_zeros.l0 k x0 (wrap64 (x3 + 1))) else (some x3)) else (none)) else (some x3)
def millref3_zeros.f (k : Nat) (a0 : ByteArray) : Option (Int) := millref3_zeros.l0 k a0 0

/-! ### millref3_trimmed: function 43 -/
def millref3_trimmed.l0 : Nat → ByteArray → Int → Option (ByteArray)
 | 0, _, _ => none
 | k + 1, x0, x3 => if x3 > 0 then (if 0 ≤ (wrap64 (x3 - 1)) then (if (wrap64 (x3 - 1)) < (x0.size : Int) then (if (bt x0 (wrap64 (x3 - 1))) = 48 then (millref3_trimmed.l0 k x0 (wrap64 (x3 - 1))) else (if 0 ≤ x3 then (if x3 ≤ (x0.size : Int) then (some (x0.extract 0 (x3 : Int).toNat)) else (none)) else (none))) else (none)) else (none)) else (if 0 ≤ x3 then (if x3 ≤ (x0.size : Int) then (some (x0.extract 0 (x3 : Int).toNat)) else (none)) else (none))
def millref3_trimmed.f (k : Nat) (a0 : ByteArray) : Option (ByteArray) := millref3_trimmed.l0 k a0 (a0.size : Int)

/-! ### millref3_Decimal: function 22 -/
def millref3_Decimal.f (k : Nat) (a0 : ByteArray) : Option (Bool × ByteArray × ByteArray × Int) := (millref3_signed.f k a0).bind fun bt206 => (if bt206.2.2.2.2 = 0 then (some (false, (⟨#[]⟩ : ByteArray), (⟨#[]⟩ : ByteArray), 0)) else (if 0 ≤ bt206.2.2.1 then (if bt206.2.2.1 ≤ (bt206.2.1.size : Int) then ((millref3_zeros.f k (bt206.2.1.extract 0 (bt206.2.2.1 : Int).toNat)).bind fun t212 => (if 0 ≤ t212 then (if t212 ≤ ((bt206.2.2.1.toNat : Nat) : Int) then ((millref3_trimmed.f k (bt206.2.1.extract (bt206.2.2.1 : Int).toNat bt206.2.1.size)).bind fun t213 => (if bt206.1 = true then (if (bt206.2.2.1.toNat - t212.toNat) + t213.size ≤ 9223372036854775807 then (some ((!((((bt206.2.1.extract 0 (bt206.2.2.1 : Int).toNat).extract (t212 : Int).toNat bt206.2.2.1.toNat) ++ t213).toList).isEmpty), (bt206.2.1.extract 0 (bt206.2.2.1 : Int).toNat).extract (t212 : Int).toNat bt206.2.2.1.toNat, t213, bt206.2.2.2.2)) else (none)) else (some (false, (bt206.2.1.extract 0 (bt206.2.2.1 : Int).toNat).extract (t212 : Int).toNat bt206.2.2.1.toNat, t213, bt206.2.2.2.2)))) else (none)) else (none))) else (none)) else (none)))
def millref3_Decimal.T5 : Bool × List (List Nat × List Nat) := (true, [([], []), ([], []), ([1], [1]), ([0, 2], [0, 2]), ([], []), ([4], [4]), ([], []), ([6], [6]), ([5, 7], [5, 7]), ([8, 2], [8]), ([], []), ([3, 9, 10], [3, 9, 10]), ([], []), ([12, 11, 9, 0, 1, 2, 3, 4, 5, 6, 7, 8, 9, 10, 11, 12], [11, 12])])
def millref3_Decimal.B5 : List Nat := [0, 0, 2, 7, 0, 16, 0, 64, 240, 502, 0, 2047, 0, 8191]

/-! ### millref3_letter: function 40 -/
def millref3_letter.l0 : Nat → Int → Int → Option (Int)
 | 0, _, _ => none
 | k + 1, x0, x3 => if x3 < 10 then (if 0 ≤ x3 then (if (bt (⟨#[75, 77, 71, 84, 80, 69, 90, 89, 82, 81]⟩ : ByteArray) x3) = x0 then (some (wrap64 (x3 + 1))) else (millref3_letter.l0 k x0 (wrap64 (x3 + 1)))) else (none)) else (some 0)
def millref3_letter.f (k : Nat) (a0 : Int) : Option (Int) := if a0 = 107 then (some 1) else (millref3_letter.l0 k a0 0)

/-! ### millref3_Human: function 21 -/
mutual
def millref3_Human.j0 : Nat → ByteArray → Int → Bool → Bool → ByteArray → ByteArray → Int → Option (Bool × ByteArray × ByteArray × Int × Int)
 | 0, _, _, _, _, _, _, _ => none
 | k + 1, x0, x5, x17, x221000, x221001, x221002, x221003 => if x17 = true then (if 0 ≤ x221003 then (if x221003 < (x0.size : Int) then ((millref3_letter.f k (bt x0 x221003)).bind fun t221 => (millref3_Human.j1 k t221 x221000 x221001 x221002 x221003)) else (none)) else (none)) else (millref3_Human.j1 k x5 x221000 x221001 x221002 x221003)
def millref3_Human.j1 : Nat → Int → Bool → ByteArray → ByteArray → Int → Option (Bool × ByteArray × ByteArray × Int × Int)
 | 0, _, _, _, _, _ => none
 | k + 1, x5, x221000, x221001, x221002, x221003 => if x5 > 0 then (if x221001.size + x221002.size ≤ 9223372036854775807 then (if (x221001 ++ x221002).toList = ([] : List UInt8) then (some (x221000, x221001, x221002, wrap64 (x221003 + 1), 0)) else (some (x221000, x221001, x221002, wrap64 (x221003 + 1), x5))) else (none)) else (if x221001.size + x221002.size ≤ 9223372036854775807 then (if (x221001 ++ x221002).toList = ([] : List UInt8) then (some (x221000, x221001, x221002, x221003, 0)) else (some (x221000, x221001, x221002, x221003, x5))) else (none))
end
def millref3_Human.f (k : Nat) (a0 : ByteArray) : Option (Bool × ByteArray × ByteArray × Int × Int) := (millref3_Decimal.f k a0).bind fun bt216 => (if bt216.2.2.2 > 0 then (millref3_Human.j0 k a0 0 (decide (bt216.2.2.2 < (a0.size : Int))) bt216.1 bt216.2.1 bt216.2.2.1 bt216.2.2.2) else (millref3_Human.j0 k a0 0 false bt216.1 bt216.2.1 bt216.2.2.1 bt216.2.2.2))
end Go.Proofs.YtcdajedmlfhmeaaDoor.XN

section
/- Decimal and Human: both sides compute the same. (by this session) -/
-- NEEDS strings_TrimLeft strings_TrimRight numeral_decimal numeral_signed numeral_Decimal strings_IndexByte numeral_Human millref3_zeros millref3_trimmed millref3_signed millref3_Decimal millref3_letter millref3_Human
set_option linter.unusedVariables false
set_option linter.unusedSimpArgs false
namespace Go.Proofs.YtcdajedmlfhmeaaDoor.XN
open Go.RowKit Go.Proofs.YtcdajedmlfhmeaaDoorW.PrintWords Go.Proofs.YtcdajedmlfhmeaaDoorW.PrintMore

def tl (l : List UInt8) : List UInt8 := l.dropWhile is0
def tr (l : List UInt8) : List UInt8 := (l.reverse.dropWhile is0).reverse
theorem bt_mk0 (c : UInt8) (r : List UInt8) : bt (mkB (c :: r)) 0 = (c.toNat : Int) := rfl
theorem is0_iff (c : UInt8) : is0 c = true ↔ (c.toNat : Int) = 48 := by simp [is0]
theorem tl_len (l : List UInt8) : (tl l).length ≤ l.length := by
  unfold tl
  have h1 := List.takeWhile_append_dropWhile (p := is0) (l := l)
  have h2 := congrArg List.length h1
  rw [List.length_append] at h2
  omega
theorem tr_len (l : List UInt8) : (tr l).length ≤ l.length := by
  have := tl_len l.reverse
  unfold tl at this
  unfold tr
  rw [List.length_reverse] at *
  exact this

theorem trimLeftByte_ev : ∀ (l : List UInt8), l.length < big → Ev (fun k => strings_trimLeftByte.l0 k (mkB l) 48) (mkB (tl l))
  | [], _ => by
    refine Ev.succ ?_
    simp only [strings_trimLeftByte.l0, size_mk]
    exact Ev.neg (by simp) (Ev.pure _)
  | c :: r, h => by
    simp only [List.length_cons] at h
    rw [big_eq] at h
    refine Ev.succ ?_
    simp only [strings_trimLeftByte.l0, size_mk, bt_mk0, List.length_cons]
    refine Ev.pos (by omega) (Ev.pos (by omega) ?_)
    have hx : (mkB (c :: r)).extract 1 (r.length + 1) = mkB r := by rw [extract_mk', L_mk]; simp
    unfold tl
    by_cases hc : is0 c = true
    · rw [List.dropWhile_cons, if_pos hc]
      refine Ev.pos ((is0_iff c).1 hc) (Ev.pos (by omega) ?_)
      simp only [hx]
      exact trimLeftByte_ev r (by rw [big_eq]; omega)
    · rw [List.dropWhile_cons, if_neg hc]
      exact Ev.neg (fun h => hc ((is0_iff c).2 h)) (Ev.pure _)
theorem last_rev (c : UInt8) (r : List UInt8) (n : Int) (hn : n = (r.length : Int)) : bt (mkB (c :: r).reverse) n = (c.toNat : Int) := by
  subst hn
  rw [bt_nat _ _ (by rw [L_mk]; simp)]
  simp [L_mk, List.getElem_append_right]
theorem trimRightByte_ev : ∀ (r : List UInt8), r.length < big → Ev (fun k => strings_trimRightByte.l0 k (mkB r.reverse) 48) (mkB (r.dropWhile is0).reverse)
  | [], _ => by
    refine Ev.succ ?_
    simp only [strings_trimRightByte.l0, size_mk]
    exact Ev.neg (by simp) (Ev.pure _)
  | c :: r, h => by
    simp only [List.length_cons] at h
    rw [big_eq] at h
    have hw : wrap64 ((((c :: r).reverse.length : Nat) : Int) - 1) = (r.length : Int) := w64_nat (by simp) (by omega)
    refine Ev.succ ?_
    simp only [strings_trimRightByte.l0, size_mk, hw, last_rev c r _ rfl]
    have hl : (c :: r).reverse.length = r.length + 1 := by simp
    rw [hl]
    refine Ev.pos (by omega) (Ev.pos (by omega) (Ev.pos (by omega) ?_))
    have hx : (mkB (c :: r).reverse).extract 0 ((r.length : Int)).toNat = mkB r.reverse := by
      rw [extract_front, L_mk, Int.toNat_natCast]
      congr 1
      rw [List.reverse_cons, List.take_append_of_le_length (by simp), List.take_of_length_le (by simp)]
    by_cases hc : is0 c = true
    · rw [List.dropWhile_cons, if_pos hc]
      refine Ev.pos ((is0_iff c).1 hc) (Ev.pos (by omega) ?_)
      simp only [hx]
      exact trimRightByte_ev r (by rw [big_eq]; omega)
    · rw [List.dropWhile_cons, if_neg hc]
      exact Ev.neg (fun h => hc ((is0_iff c).2 h)) (Ev.pure _)
theorem TrimLeft_ev (l : List UInt8) (h : l.length < big) : Ev (fun k => strings_TrimLeft.f k (mkB l) (⟨#[48]⟩ : ByteArray)) (mkB (tl l)) := by
  unfold strings_TrimLeft.f
  simp only [toList_mk]
  refine Ev.ite (fun h0 => ?_) (fun h0 => ?_)
  · subst h0
    refine Ev.succ ?_
    simp only [strings_TrimLeft.j0]
    exact Ev.pos trivial (Ev.pure _)
  · refine Ev.succ ?_
    simp only [strings_TrimLeft.j0]
    refine Ev.neg (by rw [toList_L]; decide) (Ev.pos (by rfl) (Ev.pos (by decide) ?_))
    refine Ev.succ ?_
    simp only [strings_TrimLeft.j1]
    refine Ev.pos (by decide) (Ev.pos (by decide) ?_)
    exact Ev.bind (trimLeftByte_ev l h) (Ev.pure _)
theorem TrimRight_ev (l : List UInt8) (h : l.length < big) : Ev (fun k => strings_TrimRight.f k (mkB l) (⟨#[48]⟩ : ByteArray)) (mkB (tr l)) := by
  unfold strings_TrimRight.f
  simp only [toList_mk]
  have key := trimRightByte_ev l.reverse (by simpa using h)
  rw [List.reverse_reverse] at key
  refine Ev.ite (fun h0 => ?_) (fun h0 => ?_)
  · subst h0
    refine Ev.succ ?_
    simp only [strings_TrimRight.j0]
    exact Ev.pos trivial (Ev.pure _)
  · refine Ev.succ ?_
    simp only [strings_TrimRight.j0]
    refine Ev.neg (by rw [toList_L]; decide) (Ev.pos (by rfl) (Ev.pos (by decide) ?_))
    refine Ev.succ ?_
    simp only [strings_TrimRight.j1]
    refine Ev.pos (by decide) (Ev.pos (by decide) ?_)
    exact Ev.bind key (Ev.pure _)

def negAt : List UInt8 → Bool
  | [] => false
  | c :: _ => decide ((c.toNat : Int) = 45)
/-- The place behind the blanks and the sign. -/
def sgN (l : List UInt8) : Nat := blkN l + if negAt (l.drop (blkN l)) = true then 1 else 0
theorem sgN_le (s : ByteArray) : sgN (L s) ≤ s.size := by
  unfold sgN
  have := blkN_le s
  split
  · rename_i h
    cases hd : (L s).drop (blkN (L s)) with
    | nil => rw [hd] at h; cases h
    | cons c r => have := (drop_cons hd).1; omega
  · omega
def sgNeg (l : List UInt8) : Bool := negAt (l.drop (blkN l))
def sgS (l : List UInt8) : Bool × ByteArray × ByteArray × Int :=
  if noneAt (l.drop (sgN l)) = true then (false, mkB [], mkB [], 0) else (sgNeg l, mkB (plS (l.drop (sgN l))).1, mkB (plS (l.drop (sgN l))).2.1, ((sgN l + (plS (l.drop (sgN l))).2.2 : Nat) : Int))
theorem pl_pos {l : List UInt8} (h : ¬ noneAt l = true) : 0 < (plS l).2.2 := by
  unfold noneAt plS at *
  revert h
  cases l.dropWhile isDg with
  | nil => cases l.takeWhile isDg <;> simp
  | cons c r =>
    simp only
    split
    · intro _; simp only; omega
    · cases l.takeWhile isDg <;> simp
theorem signed_ev (s : ByteArray) (hs : s.size < big) : Ev (fun k => numeral_signed.f k s) (sgS (L s)) := by
  unfold numeral_signed.f
  refine Ev.bind (blanks_ev s hs) ?_
  have hb := blkN_le s
  have hsg := sgN_le s
  have hs' := hs
  rw [big_eq] at hs'
  unfold sgS sgNeg
  cases hd : (L s).drop (blkN (L s)) with
  | nil =>
    have h1 := drop_nil hd
    have e : sgN (L s) = blkN (L s) := by unfold sgN; rw [hd]; rfl
    refine Ev.neg (by omega) ?_
    rw [plain_f s hs _ hb, Option.bind_some, e, hd]
    exact Ev.done rfl
  | cons c r =>
    obtain ⟨h1, h2, h3⟩ := drop_cons hd
    refine Ev.pos (by omega) (Ev.pos (by omega) ?_)
    rw [h2]
    by_cases hc : (c.toNat : Int) = 45
    · have e : sgN (L s) = blkN (L s) + 1 := by unfold sgN; rw [hd]; simp [negAt, hc]
      refine Ev.pos hc ?_
      rw [w64_succ (by omega), plain_f s hs _ (by omega), Option.bind_some, e]
      simp only [negAt, hc, decide_true]
      by_cases hn : noneAt ((L s).drop (blkN (L s) + 1)) = true
      · simp only [if_pos hn]
        exact Ev.done rfl
      · simp only [if_neg hn]
        refine Ev.done ?_
        have : ((blkN (L s) + 1 + (plS ((L s).drop (blkN (L s) + 1))).2.2 : Nat) : Int) > 0 := by omega
        rw [decide_eq_true this]
    · have e : sgN (L s) = blkN (L s) := by unfold sgN; rw [hd]; simp [negAt, hc]
      refine Ev.neg hc ?_
      rw [plain_f s hs _ hb, Option.bind_some, e, hd]
      by_cases hn : noneAt (c :: r) = true
      · simp only [if_pos hn]
        exact Ev.done rfl
      · simp only [if_neg hn, negAt, hc, decide_false]
        exact Ev.done rfl

/-- P3.1's number: is it below 0, the whole digits, the digits behind the point, the place behind. -/
def decS (l : List UInt8) : Bool × List UInt8 × List UInt8 × Nat :=
  if noneAt (l.drop (sgN l)) = true then (false, [], [], 0) else
    (sgNeg l && !((tl (plS (l.drop (sgN l))).1).isEmpty && (tr (plS (l.drop (sgN l))).2.1).isEmpty), tl (plS (l.drop (sgN l))).1, tr (plS (l.drop (sgN l))).2.1, sgN l + (plS (l.drop (sgN l))).2.2)
def decV (l : List UInt8) : Bool × ByteArray × ByteArray × Int := ((decS l).1, mkB (decS l).2.1, mkB (decS l).2.2.1, ((decS l).2.2.2 : Int))
theorem pl1_len (l : List UInt8) : (plS l).1.length ≤ l.length := by
  unfold plS
  have := take_len (p := isDg) l
  split
  · exact this
  · split <;> exact this
theorem pl2_len (l : List UInt8) : (plS l).2.1.length ≤ l.length := by
  have h := plS_len l
  have : (plS l).2.1.length ≤ (plS l).2.2 := by
    unfold plS
    split
    · simp
    · split <;> simp <;> omega
  omega
theorem size_drop (s : ByteArray) (n : Nat) : ((L s).drop n).length ≤ s.size := by rw [List.length_drop, L_len]; omega
theorem decimal_ev (n : Bool) (w f : List UInt8) (e : Int) (hw : w.length < big) (hf : f.length < big) : Ev (fun k => numeral_decimal.f k n (mkB w) (mkB f) e) (n && !((tl w).isEmpty && (tr f).isEmpty), mkB (tl w), mkB (tr f), e) := by
  unfold numeral_decimal.f
  refine Ev.bind (TrimLeft_ev w hw) (Ev.bind (TrimRight_ev f hf) ?_)
  simp only [toList_mk, nil_iff]
  cases n with
  | false => exact Ev.neg (by decide) (Ev.done (by simp))
  | true =>
    refine Ev.pos rfl (Ev.ite (fun h => ?_) (fun h => ?_))
    · exact Ev.done (by simp [h])
    · exact Ev.done (by simp [h])
theorem Decimal_ev (s : ByteArray) (hs : s.size < big) : Ev (fun k => numeral_Decimal.f k s) (decV (L s)) := by
  unfold numeral_Decimal.f
  refine Ev.bind (signed_ev s hs) ?_
  unfold sgS decV decS
  have hd := size_drop s (sgN (L s))
  have h1 := pl1_len ((L s).drop (sgN (L s)))
  have h2 := pl2_len ((L s).drop (sgN (L s)))
  by_cases hn : noneAt ((L s).drop (sgN (L s))) = true
  · simp only [if_pos hn]
    refine Ev.bind (decimal_ev false [] [] 0 (by decide) (by decide)) (Ev.done ?_)
    simp [tl, tr]
  · simp only [if_neg hn]
    exact Ev.bind (decimal_ev _ _ _ _ (by omega) (by omega)) (Ev.pure _)

end Go.Proofs.YtcdajedmlfhmeaaDoor.XN
end

namespace Go.Proofs.YtcdajedmlfhmeaaDoor.XN
open Go.RowKit Go.Proofs.YtcdajedmlfhmeaaDoorW.PrintWords Go.Proofs.YtcdajedmlfhmeaaDoorW.PrintLast Go.Proofs.YtcdajedmlfhmeaaDoorW.PrintMore
attribute [local go_sem] max2_int min2_int max_two min_two max_three min_three max_four min_four
set_option linter.unusedVariables false
set_option linter.unusedSimpArgs false

/-! ### millref3_low: function 70 -/
def millref3_low.f (a0 : Int) : Option (Int) := if a0 ≥ 65 then (if a0 ≤ 90 then (some ((a0 + 32) % 256)) else (some a0)) else (some a0)

/-! ### millref3_at: function 45 -/
def millref3_at.l0 : Nat → ByteArray → Int → ByteArray → Int → Option (Bool)
 | 0, _, _, _, _ => none
 | k + 1, x0, x1, x2, x7 => if x7 < (x2.size : Int) then (if 0 ≤ (wrap64 (x1 + x7)) then (if (wrap64 (x1 + x7)) < (x0.size : Int) then ((millref3_low.f (bt x0 (wrap64 (x1 + x7)))).bind fun t225 => (if 0 ≤ x7 then (if t225 = (bt x2 x7) then (millref3_at.l0 k x0 x1 x2 (wrap64 (x7 + 1))) else (some false)) else (none))) else (none)) else (none)) else (some true)
def millref3_at.f (k : Nat) (a0 : ByteArray) (a1 : Int) (a2 : ByteArray) : Option (Bool) := if (wrap64 (a1 + (a2.size : Int))) > (a0.size : Int) then (some false) else (millref3_at.l0 k a0 a1 a2 0)

/-! ### millref3_Month: function 24 -/
def millref3_Month.l0 : Nat → ByteArray → Int → Int → Option (Int)
 | 0, _, _, _ => none
 | k + 1, x0, x3, x4 => if x4 < 12 then (if 0 ≤ (wrap64 (3 * x4)) then (if (wrap64 (3 * x4)) ≤ (wrap64 ((wrap64 (3 * x4)) + 3)) then (if (wrap64 ((wrap64 (3 * x4)) + 3)) ≤ 36 then ((millref3_at.f k x0 x3 ((⟨#[106, 97, 110, 102, 101, 98, 109, 97, 114, 97, 112, 114, 109, 97, 121, 106, 117, 110, 106, 117, 108, 97, 117, 103, 115, 101, 112, 111, 99, 116, 110, 111, 118, 100, 101, 99]⟩ : ByteArray).extract ((wrap64 (3 * x4)) : Int).toNat ((wrap64 ((wrap64 (3 * x4)) + 3)) : Int).toNat)).bind fun t227 => (if t227 = true then (some (wrap64 (x4 + 1))) else (millref3_Month.l0 k x0 x3 (wrap64 (x4 + 1))))) else (none)) else (none)) else (none)) else (some 0)
def millref3_Month.f (k : Nat) (a0 : ByteArray) : Option (Int) := (millref3_start.f k a0).bind fun t226 => (millref3_Month.l0 k a0 t226 0)
end Go.Proofs.YtcdajedmlfhmeaaDoor.XN

section
/- Human and Month: both sides compute the same. (by this session) -/
-- NEEDS strings_IndexByte numeral_Human millref3_letter millref3_Human numeral_begins numeral_Month millref3_low millref3_at millref3_Month
set_option linter.unusedVariables false
set_option linter.unusedSimpArgs false
namespace Go.Proofs.YtcdajedmlfhmeaaDoor.XN
open Go.RowKit Go.Proofs.YtcdajedmlfhmeaaDoorW.PrintWords Go.Proofs.YtcdajedmlfhmeaaDoorW.PrintMore

/-- What is so of 0 to 255 is so of every byte. -/
theorem all8 {P : UInt8 → Prop} (h : ∀ n : Fin 256, P (UInt8.ofNat n.val)) (c : UInt8) : P c := by
  have := h ⟨c.toNat, c.toNat_lt⟩
  simpa using this
def unitL : List UInt8 := [75, 77, 71, 84, 80, 69, 90, 89, 82, 81]
/-- The rank of a byte; 0: it is no letter of h. -/
def letN (c : UInt8) : Nat := if c = 107 then 1 else if c ∈ unitL then unitL.idxOf c + 1 else 0
theorem letN_le (c : UInt8) : letN c ≤ 10 := by
  unfold letN
  split
  · omega
  · split
    · rename_i h
      have := List.idxOf_lt_length_iff.2 h
      have e : unitL.length = 10 := rfl
      omega
    · omega
theorem idx_units : ∀ c : UInt8, Lib.indexByte unitL (if c = 107 then 75 else c) + 1 = (letN c : Int) := all8 (by decide +kernel)
/-- P3.3: the number of h, and its rank. -/
def humS (s : ByteArray) : (Bool × List UInt8 × List UInt8 × Nat) × Nat :=
  let d := decS (L s)
  if d.2.2.2 = 0 ∨ d.2.2.2 = s.size then (d, 0) else
    match (L s).drop d.2.2.2 with
    | [] => (d, 0)
    | c :: _ => ((d.1, d.2.1, d.2.2.1, if 0 < letN c then d.2.2.2 + 1 else d.2.2.2), if d.2.1 = [] ∧ d.2.2.1 = [] then 0 else letN c)
def humV (s : ByteArray) : Bool × ByteArray × ByteArray × Int × Int := ((humS s).1.1, mkB (humS s).1.2.1, mkB (humS s).1.2.2.1, ((humS s).1.2.2.2 : Int), ((humS s).2 : Int))
theorem dec_end (s : ByteArray) : (decS (L s)).2.2.2 ≤ s.size := by
  unfold decS
  split
  · simp
  · have h1 := plS_len ((L s).drop (sgN (L s)))
    have h2 := sgN_le s
    rw [List.length_drop, L_len] at h1
    simp only
    omega
theorem IndexByte_f (c : Int) : strings_IndexByte.f (⟨#[75, 77, 71, 84, 80, 69, 90, 89, 82, 81]⟩ : ByteArray) c = some (Lib.indexByte unitL c.toNat.toUInt8) := rfl
theorem Human_j1 (c : UInt8) (hc : c ≠ 107) (n : Bool) (w f : List UInt8) (e : Nat) (he : e < big) : Ev (fun k => numeral_Human.j1 k (c.toNat : Int) n (mkB w) (mkB f) (e : Int))
    (n, mkB w, mkB f, ((if 0 < letN c then e + 1 else e : Nat) : Int), ((if w = [] ∧ f = [] then 0 else letN c : Nat) : Int)) := by
  have h1 := idx_units c
  have hl := letN_le c
  rw [if_neg hc] at h1
  rw [big_eq] at he
  have hw : wrap64 (Lib.indexByte unitL c + 1) = (letN c : Int) := by rw [h1]; exact w64 (by omega)
  have hcc : ((c.toNat : Int)).toNat.toUInt8 = c := by rw [Int.toNat_natCast]; simp
  refine Ev.succ ?_
  simp only [numeral_Human.j1, IndexByte_f, Option.bind_some, hcc, hw, toList_mk]
  by_cases hp : 0 < letN c
  · have hw2 : wrap64 ((e : Int) + 1) = ((e + 1 : Nat) : Int) := w64_nat (by omega) (by omega)
    simp only [hw2, if_pos hp]
    refine Ev.pos (by omega) (Ev.ite (fun h => Ev.ite (fun h' => ?_) (fun h' => ?_)) (fun h => ?_))
    · exact Ev.done (by simp [h, h'])
    · exact Ev.done (by simp [h'])
    · exact Ev.done (by simp [h])
  · simp only [if_neg hp]
    refine Ev.neg (by omega) (Ev.ite (fun h => Ev.ite (fun h' => ?_) (fun h' => ?_)) (fun h => ?_))
    · exact Ev.done (by simp [h, h'])
    · exact Ev.done (by simp [h'])
    · exact Ev.done (by simp [h])
theorem Human_ev (s : ByteArray) (hs : s.size < big) : Ev (fun k => numeral_Human.f k s) (humV s) := by
  unfold numeral_Human.f
  refine Ev.bind (Decimal_ev s hs) ?_
  have he := dec_end s
  have hs' := hs
  rw [big_eq] at hs'
  unfold humV humS decV
  generalize hd : decS (L s) = d at *
  obtain ⟨n, w, f, e⟩ := d
  simp only at *
  by_cases h0 : e = 0
  · subst h0
    refine Ev.pos (by rfl) (Ev.succ ?_)
    simp only [numeral_Human.j0]
    exact Ev.pos trivial (Ev.done (by simp))
  · refine Ev.neg (by omega) (Ev.succ ?_)
    simp only [numeral_Human.j0]
    by_cases h1 : e = s.size
    · refine Ev.pos (by simp [h1]) (Ev.done ?_)
      simp [h1]
    · obtain ⟨c, hc, hb⟩ := drop_some (s := s) (i := e) (by omega)
      rw [if_neg (by omega), hc]
      refine Ev.neg (by simp; omega) (Ev.pos (by omega) (Ev.pos (by omega) ?_))
      rw [hb]
      by_cases hk : c = 107
      · refine Ev.pos (by rw [hk]; decide) ?_
        have hx := Human_j1 75 (by decide) n w f e (by omega)
        have hl : letN 75 = letN c := by rw [hk]; decide
        rw [hl] at hx
        exact hx
      · refine Ev.neg (fun h => hk (u8_eq (d := 107) h)) ?_
        exact Human_j1 c hk n w f e (by omega)
/-! ### words in small or great letters -/
/-- A letter as a small one. -/
def lowB (c : UInt8) : UInt8 := if 65 ≤ c ∧ c ≤ 90 then c + 32 else c
def isWord (w : List UInt8) : Bool := w.all fun c => decide (97 ≤ c) && decide (c ≤ 122)
/-- Does l begin with the word w (small letters)? -/
def bgN : List UInt8 → List UInt8 → Bool
  | _, [] => true
  | [], _ :: _ => false
  | c :: l, d :: w => lowB c == d && bgN l w
theorem or_low (c d : UInt8) (hd : (decide (97 ≤ d) && decide (d ≤ 122)) = true) : (Go.bits .or .u8 (c.toNat : Int) 32 = (d.toNat : Int) ∧ ¬ (c.toNat : Int) < 65) ↔ lowB c = d := by
  have hb : ∀ c : UInt8, Go.bits .or .u8 (c.toNat : Int) 32 = ((c ||| 32).toNat : Int) := all8 (by decide +kernel)
  have h2 : ∀ d : UInt8, ∀ c : UInt8, (decide (97 ≤ d) && decide (d ≤ 122)) = true → (((c ||| 32) = d ∧ ¬ (c.toNat : Int) < 65) ↔ lowB c = d) := by
    have h3 : ∀ n : Fin 26, ∀ m : Fin 256, (((UInt8.ofNat m.val ||| 32) = UInt8.ofNat (97 + n.val) ∧ ¬ ((UInt8.ofNat m.val).toNat : Int) < 65) ↔ lowB (UInt8.ofNat m.val) = UInt8.ofNat (97 + n.val)) := by decide +kernel
    intro d c hd
    simp only [Bool.and_eq_true, decide_eq_true_eq, UInt8.le_iff_toNat_le] at hd
    have e1 : (97 : UInt8).toNat = 97 := rfl
    have e2 : (122 : UInt8).toNat = 122 := rfl
    have h4 := h3 ⟨d.toNat - 97, by omega⟩ ⟨c.toNat, c.toNat_lt⟩
    have e3 : 97 + (d.toNat - 97) = d.toNat := by omega
    simp only [e3, UInt8.ofNat_toNat] at h4
    exact h4
  rw [hb c, ← h2 d c hd]
  constructor
  · rintro ⟨a, b⟩; exact ⟨u8_eq a, b⟩
  · rintro ⟨a, b⟩; exact ⟨by rw [a], b⟩
theorem begins_l0 (s : ByteArray) (hs : s.size < big) (i : Nat) (w : List UInt8) (hwd : isWord w = true) : ∀ (v : List UInt8) (j : Nat), w.drop j = v → j ≤ w.length → i + w.length ≤ s.size →
    Ev (fun k => numeral_begins.l0 k s (i : Int) (mkB w) (w.length : Int) (j : Int)) (bgN ((L s).drop (i + j)) v)
  | [], j, h, hj, hl => by
    have : w.length ≤ j := List.drop_eq_nil_iff.1 h
    refine Ev.succ ?_
    simp only [numeral_begins.l0]
    exact Ev.neg (by omega) (Ev.done (by simp [bgN]))
  | d :: v, j, h, hj, hl => by
    have hjl : j < w.length := by
      rcases Nat.lt_or_ge j w.length with h' | h'
      · exact h'
      · rw [List.drop_eq_nil_iff.2 h'] at h; cases h
    have hb : bt (mkB w) (j : Int) = (d.toNat : Int) ∧ (L (mkB w)).drop (j + 1) = v := (drop_cons (s := mkB w) (i := j) (by rw [L_mk]; exact h)).2
    have hwj := w64_nat (x := (i : Int) + (j : Int)) (n := i + j) (by omega) (by rw [big_eq] at hs; omega)
    have hwj2 := w64_succ (i := j) (by rw [big_eq] at hs; omega)
    obtain ⟨c, hc, hbt⟩ := drop_some (s := s) (i := i + j) (by omega)
    have hd : (decide (97 ≤ d) && decide (d ≤ 122)) = true := by
      have hm : d ∈ w := List.mem_of_mem_drop (by rw [h]; simp)
      have := List.all_eq_true.1 hwd d hm
      exact this
    refine Ev.succ ?_
    simp only [numeral_begins.l0, hwj, hwj2, hbt, hb.1, size_mk]
    refine Ev.pos (by omega) (Ev.pos (by omega) (Ev.pos (by omega) (Ev.pos (by omega) (Ev.pos (by omega) ?_))))
    rw [hc]
    simp only [bgN]
    have hor := or_low c d hd
    have ih := begins_l0 s hs i w hwd v (j + 1) (by simpa [L_mk] using hb.2) (by omega) hl
    rw [← Nat.add_assoc] at ih
    refine Ev.ite (fun h1 => Ev.ite (fun h2 => ?_) (fun h2 => ?_)) (fun h1 => ?_)
    · refine Ev.done ?_
      have : ¬ lowB c = d := fun hh => (hor.2 hh).2 h2
      simp [this]
    · have : lowB c = d := hor.1 ⟨h1, h2⟩
      simp only [this, beq_self_eq_true, Bool.true_and]
      exact ih
    · refine Ev.done ?_
      have : ¬ lowB c = d := fun hh => h1 (hor.2 hh).1
      simp [this]
theorem bgN_short : ∀ (l w : List UInt8), l.length < w.length → bgN l w = false
  | _, [], h => by simp at h
  | [], _ :: _, _ => rfl
  | c :: l, d :: w, h => by
    simp only [bgN, bgN_short l w (by simpa using h), Bool.and_false]
theorem begins_ev (s : ByteArray) (hs : s.size < big) (i : Nat) (hi : i ≤ s.size) (w : List UInt8) (hwd : isWord w = true) (hwl : w.length < 100) : Ev (fun k => numeral_begins.f k s (i : Int) (mkB w)) (bgN ((L s).drop i) w) := by
  unfold numeral_begins.f
  have hw := w64_nat (x := (s.size : Int) - (i : Int)) (n := s.size - i) (by omega) (by rw [big_eq] at hs; omega)
  simp only [hw, size_mk]
  refine Ev.ite (fun h => ?_) (fun h => ?_)
  · exact Ev.done (by rw [bgN_short _ _ (by rw [List.length_drop, L_len]; omega)])
  · exact begins_l0 s hs i w hwd w 0 rfl (Nat.zero_le _) (by omega)
def monthL : List (List UInt8) := [[106, 97, 110], [102, 101, 98], [109, 97, 114], [97, 112, 114], [109, 97, 121], [106, 117, 110], [106, 117, 108], [97, 117, 103], [115, 101, 112], [111, 99, 116], [110, 111, 118], [100, 101, 99]]
/-- The first of the months from number m on that l begins with; 0: none. -/
def monF (l : List UInt8) : Nat → List (List UInt8) → Nat
  | _, [] => 0
  | m, w :: ws => if bgN l w = true then m + 1 else monF l (m + 1) ws
def monS (l : List UInt8) : Nat := monF (l.drop (blkN l)) 0 monthL
theorem months_word : ∀ m, m < 12 → isWord (monthL.getD m []) = true ∧ (monthL.getD m []).length = 3 ∧ rdOf ByteArray.empty G_months (m : Int) = mkB (monthL.getD m []) := by
  intro m hm
  rcases (by omega : m = 0 ∨ m = 1 ∨ m = 2 ∨ m = 3 ∨ m = 4 ∨ m = 5 ∨ m = 6 ∨ m = 7 ∨ m = 8 ∨ m = 9 ∨ m = 10 ∨ m = 11) with rfl | rfl | rfl | rfl | rfl | rfl | rfl | rfl | rfl | rfl | rfl | rfl <;> exact ⟨by decide, rfl, rfl⟩
theorem Month_l0 (s : ByteArray) (hs : s.size < big) (i : Nat) (hi : i ≤ s.size) : ∀ (ws : List (List UInt8)) (m : Nat), monthL.drop m = ws → m ≤ 12 → Ev (fun k => numeral_Month.l0 k s (i : Int) (m : Int)) ((monF ((L s).drop i) m ws : Nat) : Int)
  | [], m, h, hm => by
    have : monthL.length ≤ m := List.drop_eq_nil_iff.1 h
    have e : monthL.length = 12 := rfl
    refine Ev.succ ?_
    simp only [numeral_Month.l0]
    exact Ev.neg (by omega) (Ev.done rfl)
  | w :: ws, m, h, hm => by
    have hml : m < monthL.length := by
      rcases Nat.lt_or_ge m monthL.length with h' | h'
      · exact h'
      · rw [List.drop_eq_nil_iff.2 h'] at h; cases h
    have e : monthL.length = 12 := rfl
    have hw := List.drop_eq_getElem_cons hml
    rw [h] at hw
    injection hw with hw1 hw2
    obtain ⟨a, b, c⟩ := months_word m (by omega)
    have hg : monthL.getD m [] = w := by rw [hw1]; simp [List.getD, hml]
    rw [hg] at a b c
    have hws := w64_succ (i := m) (by omega)
    refine Ev.succ ?_
    simp only [numeral_Month.l0, c, hws]
    refine Ev.pos (by omega) (Ev.pos (by omega) (Ev.bind (begins_ev s hs i hi w a (by omega)) ?_))
    simp only [monF]
    refine Ev.ite (fun h1 => ?_) (fun h1 => ?_)
    · rw [if_pos h1]; exact Ev.pure _
    · rw [if_neg h1]; exact Month_l0 s hs i hi ws (m + 1) hw2.symm (by omega)
theorem Month_ev (s : ByteArray) (hs : s.size < big) : Ev (fun k => numeral_Month.f k s) (monS (L s) : Int) := by
  unfold numeral_Month.f
  exact Ev.bind (blanks_ev s hs) (Month_l0 s hs _ (blkN_le s) monthL 0 rfl (by omega))
end Go.Proofs.YtcdajedmlfhmeaaDoor.XN
end

section
/- Compare: what numeral computes. (by this session) -/
-- NEEDS numeral_digits cmp_isNaN_int cmp_Compare_int bytealg_CompareString strings_Compare cmp_Or_int numeral_order numeral_sizeOf numeral_human numeral_pair numeral_rank cmp_Compare_byte numeral_words numeral_runs numeral_versions
set_option linter.unusedVariables false
set_option linter.unusedSimpArgs false
namespace Go.Proofs.YtcdajedmlfhmeaaDoor.XN
open Go.RowKit Go.Proofs.YtcdajedmlfhmeaaDoorW.PrintWords Go.Proofs.YtcdajedmlfhmeaaDoorW.PrintMore

/-- A number as 0.DIGITS times ten to the Exp. -/
def digS (w f : List UInt8) (e : Int) : List UInt8 × Int :=
  if tl w = [] then if tr (tl f) = [] then ([], 0) else (tr (tl f), ((tl f).length : Int) - (f.length : Int) + e)
  else if tr (tl w ++ f) = [] then ([], 0) else (tr (tl w ++ f), ((tl w).length : Int) + e)
theorem digits_ev (w f : List UInt8) (e : Int) (hw : w.length < 2305843009213693952) (hf : f.length < 2305843009213693952) (he : -1125899906842624 ≤ e ∧ e ≤ 1125899906842624) :
    Ev (fun k => numeral_digits.f k (mkB w) (mkB f) e) (mkB (digS w f e).1, (digS w f e).2) := by
  unfold numeral_digits.f
  have h1 := tl_len w
  have h2 := tl_len f
  refine Ev.bind (TrimLeft_ev w (by rw [big_eq]; omega)) ?_
  unfold digS
  simp only [toList_mk]
  refine Ev.ite (fun h => ?_) (fun h => ?_)
  · rw [if_pos h]
    refine Ev.bind (TrimLeft_ev f (by rw [big_eq]; omega)) (Ev.bind (TrimRight_ev (tl f) (by rw [big_eq]; omega)) ?_)
    simp only [toList_mk]
    refine Ev.ite (fun h' => ?_) (fun h' => ?_)
    · rw [if_pos h']; exact Ev.pure _
    · rw [if_neg h']
      refine Ev.done ?_
      rw [size_mk, size_mk, w64 (x := ((tl f).length : Int) - (f.length : Int)) (by omega), w64 (by omega)]
  · rw [if_neg h]
    simp only [size_mk, mk_append]
    refine Ev.pos (by omega) (Ev.bind (TrimRight_ev (tl w ++ f) (by rw [big_eq, List.length_append]; omega)) ?_)
    simp only [toList_mk]
    refine Ev.ite (fun h' => ?_) (fun h' => ?_)
    · rw [if_pos h']; exact Ev.pure _
    · rw [if_neg h']
      refine Ev.done ?_
      rw [w64 (by omega)]

def cmpI (a b : Int) : Int := if a < b then -1 else if a > b then 1 else 0
theorem cmpI_range (a b : Int) : cmpI a b = -1 ∨ cmpI a b = 0 ∨ cmpI a b = 1 := by unfold cmpI; split; · simp
                                                                                   · split <;> simp
theorem Compare_int_f (a b : Int) : cmp_Compare_int.f a b = some (cmpI a b) := by
  unfold cmp_Compare_int.f cmp_isNaN_int.f cmpI
  simp only [Option.bind_some, bne_self_eq_false, Bool.false_eq_true, if_false]
  split
  · rfl
  · split <;> rfl
theorem Compare_byte_f (a b : Int) : cmp_Compare_byte.f a b = some (cmpI a b) := by
  unfold cmp_Compare_byte.f cmp_isNaN_byte.f cmpI
  simp only [Option.bind_some, bne_self_eq_false, Bool.false_eq_true, if_false]
  split
  · rfl
  · split <;> rfl
def bcmp (l m : List UInt8) : Int := Lib.compareBytes l m
theorem bcmp_range : ∀ (l m : List UInt8), bcmp l m = -1 ∨ bcmp l m = 0 ∨ bcmp l m = 1
  | [], [] => by simp [bcmp, Lib.compareBytes]
  | [], _ :: _ => by simp [bcmp, Lib.compareBytes]
  | _ :: _, [] => by simp [bcmp, Lib.compareBytes]
  | a :: l, b :: m => by
    have := bcmp_range l m
    unfold bcmp Lib.compareBytes
    split
    · simp
    · split
      · simp
      · exact this
theorem Compare_str_f (s t : ByteArray) : strings_Compare.f s t = some (bcmp (L s) (L t)) := rfl
/-- The first that is no 0. -/
def orS : List Int → Int
  | [] => 0
  | x :: xs => if x = 0 then orS xs else x
theorem Or_l0 (l : List Int) (hl : l.length < 100) : ∀ (m : List Int) (i : Nat), l.drop i = m → i ≤ l.length → Ev (fun k => cmp_Or_int.l0 k 0 l (l.length : Int) (i : Int)) (orS m)
  | [], i, h, hi => by
    have : l.length ≤ i := List.drop_eq_nil_iff.1 h
    refine Ev.succ ?_
    simp only [cmp_Or_int.l0]
    exact Ev.neg (by omega) (Ev.done rfl)
  | x :: m, i, h, hi => by
    have hil : i < l.length := by
      rcases Nat.lt_or_ge i l.length with h' | h'
      · exact h'
      · rw [List.drop_eq_nil_iff.2 h'] at h; cases h
    have e := List.drop_eq_getElem_cons hil
    rw [h] at e
    injection e with e1 e2
    have hr : rd l (i : Int) = x := by unfold rd; rw [Int.toNat_natCast, e1]; simp [List.getD, hil]
    refine Ev.succ ?_
    simp only [cmp_Or_int.l0, hr, w64_succ (i := i) (by omega)]
    refine Ev.pos (by omega) (Ev.pos (by omega) (Ev.pos (by omega) ?_))
    simp only [orS]
    refine Ev.ite (fun h1 => ?_) (fun h1 => ?_)
    · rw [if_pos h1]; exact Or_l0 l hl m (i + 1) e2.symm (by omega)
    · rw [if_neg h1]; exact Ev.pure _
theorem Or_ev (l : List Int) (hl : l.length < 100) : Ev (fun k => cmp_Or_int.f k l) (orS l) := by
  unfold cmp_Or_int.f
  exact Or_l0 l hl l 0 rfl (Nat.zero_le _)

/-- A number as it is compared: sign, rank, exponent, digits. -/
abbrev Sz := Int × Int × Int × List UInt8
def szS (n : Bool) (d : List UInt8) (x r : Int) : Sz := if d = [] then (0, 0, 0, []) else ((if n = true then -1 else 1), r, x, d)
theorem szS_sign (n : Bool) (d : List UInt8) (x r : Int) : (szS n d x r).1 = -1 ∨ (szS n d x r).1 = 0 ∨ (szS n d x r).1 = 1 := by
  unfold szS
  split
  · simp
  · split <;> simp
theorem sizeOf_f (n : Bool) (d : List UInt8) (x r : Int) : numeral_sizeOf.f n (mkB d) x r = some ((szS n d x r).1, (szS n d x r).2.1, (szS n d x r).2.2.1, mkB (szS n d x r).2.2.2) := by
  unfold numeral_sizeOf.f szS
  simp only [toList_mk]
  split
  · rfl
  · split <;> rfl
def ordS (a b : Sz) : Int := if a.1 = b.1 ∧ ¬ a.1 = 0 then a.1 * orS [cmpI a.2.1 b.2.1, cmpI a.2.2.1 b.2.2.1, bcmp a.2.2.2 b.2.2.2] else cmpI a.1 b.1
theorem orS_range {l : List Int} (h : ∀ x ∈ l, x = -1 ∨ x = 0 ∨ x = 1) : orS l = -1 ∨ orS l = 0 ∨ orS l = 1 := by
  induction l with
  | nil => simp [orS]
  | cons x l ih =>
    simp only [orS]
    split
    · exact ih (fun y hy => h y (List.mem_cons_of_mem _ hy))
    · exact h x (List.mem_cons_self)
theorem or3_range (a b : Sz) : orS [cmpI a.2.1 b.2.1, cmpI a.2.2.1 b.2.2.1, bcmp a.2.2.2 b.2.2.2] = -1 ∨ orS [cmpI a.2.1 b.2.1, cmpI a.2.2.1 b.2.2.1, bcmp a.2.2.2 b.2.2.2] = 0 ∨ orS [cmpI a.2.1 b.2.1, cmpI a.2.2.1 b.2.2.1, bcmp a.2.2.2 b.2.2.2] = 1 := by
  refine orS_range (fun x hx => ?_)
  simp only [List.mem_cons, List.not_mem_nil, or_false] at hx
  rcases hx with rfl | rfl | rfl
  · exact cmpI_range _ _
  · exact cmpI_range _ _
  · exact bcmp_range _ _
theorem order_ev (a b : Sz) (ha : a.1 = -1 ∨ a.1 = 0 ∨ a.1 = 1) : Ev (fun k => numeral_order.f k a.1 a.2.1 a.2.2.1 (mkB a.2.2.2) b.1 b.2.1 b.2.2.1 (mkB b.2.2.2)) (ordS a b) := by
  unfold numeral_order.f
  unfold ordS
  have h3 := or3_range a b
  refine Ev.ite (fun h => ?_) (fun h => ?_)
  · refine Ev.succ ?_
    simp only [numeral_order.j0, Compare_int_f, Compare_str_f, Option.bind_some, L_mk]
    refine Ev.ite (fun h' => ?_) (fun h' => ?_)
    · rw [if_neg (fun hh => hh.2 (by simpa using h'))]
      exact Ev.pure _
    · rw [if_pos ⟨h, by simpa using h'⟩]
      refine Ev.bind (Or_ev _ (by simp)) (Ev.done ?_)
      refine w64 ?_
      rcases ha with ha | ha | ha <;> rw [ha] <;> omega
  · refine Ev.succ ?_
    simp only [numeral_order.j0, Compare_int_f, Option.bind_some]
    rw [if_neg (fun hh => h hh.1)]
    exact Ev.pos trivial (Ev.pure _)
/-- n's and h's number of a text. -/
def huS (kind : Int) (s : ByteArray) : Sz :=
  szS (humS s).1.1 (digS (humS s).1.2.1 (humS s).1.2.2.1 0).1 (digS (humS s).1.2.1 (humS s).1.2.2.1 0).2 (if kind = 16 then 0 else ((humS s).2 : Int))
theorem dec_len (s : ByteArray) : (decS (L s)).2.1.length ≤ s.size ∧ (decS (L s)).2.2.1.length ≤ s.size := by
  unfold decS
  split
  · simp
  · have h1 := tl_len (plS ((L s).drop (sgN (L s)))).1
    have h2 := tr_len (plS ((L s).drop (sgN (L s)))).2.1
    have h3 := pl1_len ((L s).drop (sgN (L s)))
    have h4 := pl2_len ((L s).drop (sgN (L s)))
    have h5 := size_drop s (sgN (L s))
    simp only
    omega
theorem humS_fields (s : ByteArray) : (humS s).1.1 = (decS (L s)).1 ∧ (humS s).1.2.1 = (decS (L s)).2.1 ∧ (humS s).1.2.2.1 = (decS (L s)).2.2.1 := by
  unfold humS
  simp only
  split
  · exact ⟨rfl, rfl, rfl⟩
  · split <;> exact ⟨rfl, rfl, rfl⟩
theorem human_ev (kind : Int) (s : ByteArray) (hs : s.size < 2305843009213693952) : Ev (fun k => numeral_human.f k kind s) ((huS kind s).1, (huS kind s).2.1, (huS kind s).2.2.1, mkB (huS kind s).2.2.2) := by
  unfold numeral_human.f
  refine Ev.bind (Human_ev s (by rw [big_eq]; omega)) ?_
  obtain ⟨f1, f2, f3⟩ := humS_fields s
  have hl := dec_len s
  unfold huS humV
  simp only
  rw [f2, f3]
  refine Ev.ite (fun h => ?_) (fun h => ?_)
  · rw [if_pos h]
    refine Ev.bind (digits_ev _ _ 0 (by omega) (by omega) (by omega)) ?_
    simp only [sizeOf_f, Option.bind_some]
    exact Ev.pure _
  · rw [if_neg h]
    refine Ev.bind (digits_ev _ _ 0 (by omega) (by omega) (by omega)) ?_
    simp only [sizeOf_f, Option.bind_some]
    exact Ev.pure _

/-! ### versions -/
def noDg (c : UInt8) : Bool := !isDg c
def pr1 (l : List UInt8) : List UInt8 := l.takeWhile noDg
def pr2 (l : List UInt8) : List UInt8 := (l.dropWhile noDg).takeWhile isDg
def pr3 (l : List UInt8) : List UInt8 := (l.dropWhile noDg).dropWhile isDg
theorem pr_all (l : List UInt8) : pr1 l ++ (pr2 l ++ pr3 l) = l := by
  unfold pr1 pr2 pr3
  rw [List.takeWhile_append_dropWhile, List.takeWhile_append_dropWhile]
theorem pr_len (l : List UInt8) : (pr1 l).length + (pr2 l).length + (pr3 l).length = l.length := by
  have := congrArg List.length (pr_all l)
  rw [List.length_append, List.length_append] at this
  omega
theorem pr_short {l : List UInt8} (h : l ≠ []) : (pr3 l).length < l.length := by
  have hl := pr_len l
  cases l with
  | nil => exact absurd rfl h
  | cons c r =>
    by_cases hc : isDg c = true
    · have : 0 < (pr2 (c :: r)).length := by
        unfold pr2
        rw [List.dropWhile_cons, if_neg (by simp [noDg, hc]), List.takeWhile_cons, if_pos hc]
        simp
      omega
    · have : 0 < (pr1 (c :: r)).length := by
        unfold pr1
        rw [List.takeWhile_cons, if_pos (by simp [noDg, hc])]
        simp
      omega
theorem digit_f (c : UInt8) : numeral_digit.f (c.toNat : Int) = some (isDg c) := plainDig_f _
theorem pair_l1 (s : ByteArray) (hs : s.size < big) (i : Nat) (hi : i ≤ s.size) (hx : (L s).take i = pr1 (L s)) (hy : (L s).drop i = (L s).dropWhile noDg) :
    Ev (fun k => numeral_pair.l1 k s (i : Int) (i : Int)) (mkB (pr1 (L s)), mkB (pr2 (L s)), mkB (pr3 (L s))) := by
  refine scan (p := isDg) (F := fun k j => numeral_pair.l1 k s (i : Int) j) hs (fun k j c h1 h2 hp => ?_) ((L s).drop i) i rfl ?_
  · simp only [numeral_pair.l1, h2, digit_f, Option.bind_some, w64_succ (i := j) (by rw [big_eq] at hs; omega)]
    rw [if_pos (by omega), if_pos (by omega), if_pos hp]
  · have e1 : s.extract 0 ((i : Int)).toNat = mkB (pr1 (L s)) := by rw [extract_front, Int.toNat_natCast, hx]
    have e2 : s.extract ((i : Int)).toNat (((i + (((L s).drop i).takeWhile isDg).length : Nat) : Int)).toNat = mkB (pr2 (L s)) := by
      rw [extract_mk', Int.toNat_natCast, Int.toNat_natCast, Nat.add_sub_cancel_left, take_run, hy]; rfl
    have e3 : s.extract (((i + (((L s).drop i).takeWhile isDg).length : Nat) : Int)).toNat s.size = mkB (pr3 (L s)) := by
      rw [extract_end, Int.toNat_natCast, (behind (p := isDg) hi).2, hy]; rfl
    have hb := (behind (p := isDg) hi).1
    refine Ev.succ ?_
    rcases stop_at (s := s) (p := isDg) hi with ⟨h, _⟩ | ⟨c, r, h1, h2, h3, _⟩
    · simp only [numeral_pair.l1, e1, e2, e3]
      exact Ev.neg (by omega) (Ev.pos (by omega) (Ev.pos (by omega) (Ev.pos (by omega) (Ev.pos (by omega) (Ev.pos (by omega) (Ev.pure _))))))
    · simp only [numeral_pair.l1, h2, digit_f, Option.bind_some, e1, e2, e3]
      exact Ev.pos (by omega) (Ev.pos (by omega) (Ev.neg (by rw [h3]; decide) (Ev.pos (by omega) (Ev.pos (by omega) (Ev.pos (by omega) (Ev.pos (by omega) (Ev.pure _)))))))
theorem pair_ev (s : ByteArray) (hs : s.size < big) : Ev (fun k => numeral_pair.f k s) (mkB (pr1 (L s)), mkB (pr2 (L s)), mkB (pr3 (L s))) := by
  unfold numeral_pair.f
  refine scan (p := noDg) (F := fun k j => numeral_pair.l0 k s j) hs (fun k j c h1 h2 hp => ?_) (L s) 0 rfl ?_
  · have hp' : isDg c = false := by simpa [noDg] using hp
    simp only [numeral_pair.l0, h2, digit_f, Option.bind_some, w64_succ (i := j) (by rw [big_eq] at hs; omega)]
    rw [if_pos (by omega), if_pos (by omega), if_neg (by rw [hp']; decide)]
  · have hst := stop_at (s := s) (p := noDg) (i := 0) (Nat.zero_le _)
    have hb := behind (s := s) (p := noDg) (i := 0) (Nat.zero_le _)
    simp only [Nat.zero_add, List.drop_zero] at *
    have key := pair_l1 s hs _ hb.1 (by rw [take_run]; rfl) hb.2
    refine Ev.succ ?_
    rcases hst with ⟨h, _⟩ | ⟨c, r, h1, h2, h3, _⟩
    · simp only [numeral_pair.l0]
      refine Ev.neg (by omega) (Ev.succ ?_)
      simp only [numeral_pair.j1]
      exact key
    · have hp' : isDg c = true := by simpa [noDg] using h3
      simp only [numeral_pair.l0, h2, digit_f, Option.bind_some]
      refine Ev.pos (by omega) (Ev.pos (by omega) (Ev.pos hp' (Ev.succ ?_)))
      simp only [numeral_pair.j1]
      exact key

def rkB (c : UInt8) : Int := rankF (c.toNat : Int)
theorem rank_f (c : UInt8) : numeral_rank.f (c.toNat : Int) = some (rkB c) := by
  unfold numeral_rank.f
  have := u8_lt c
  rw [if_pos (by omega)]
  rfl
/-- The order of two runs without digits. -/
def wdS : List UInt8 → List UInt8 → Int
  | [], [] => 0
  | a :: l, [] => if rkB a = 2 then wdS l [] else cmpI (rkB a) 2
  | [], b :: m => if 2 = rkB b then wdS [] m else cmpI 2 (rkB b)
  | a :: l, b :: m => if rkB a = rkB b then wdS l m else cmpI (rkB a) (rkB b)
theorem words_l0 (s t : ByteArray) (hs : s.size < big) (ht : t.size < big) (n : Nat) (hn : n = max s.size t.size) : ∀ (d i : Nat), n - i = d → i ≤ n →
    Ev (fun k => numeral_words.l0 k s t (n : Int) (i : Int)) (wdS ((L s).drop i) ((L t).drop i))
  | 0, i, h, hi => by
    refine Ev.succ ?_
    simp only [numeral_words.l0]
    rw [List.drop_eq_nil_iff.2 (by rw [L_len]; omega), List.drop_eq_nil_iff.2 (by rw [L_len]; omega)]
    exact Ev.neg (by omega) (Ev.done (by simp [wdS]))
  | d + 1, i, h, hi => by
    have hsu := w64_succ (i := i) (by rw [big_eq] at *; omega)
    have ih := words_l0 s t hs ht n hn d (i + 1) (by omega) (by omega)
    refine Ev.succ ?_
    simp only [numeral_words.l0]
    refine Ev.pos (by omega) ?_
    by_cases h1 : i < s.size
    · obtain ⟨a, ha, hb⟩ := drop_some h1
      rw [hb, rank_f]
      simp only [Option.bind_some]
      refine Ev.pos (by omega) (Ev.pos (by omega) (Ev.succ ?_))
      simp only [numeral_words.j1, hsu]
      by_cases h2 : i < t.size
      · obtain ⟨b, hc, hd⟩ := drop_some h2
        rw [hd, rank_f]
        simp only [Option.bind_some, Compare_byte_f]
        rw [ha, hc]
        simp only [wdS]
        refine Ev.pos (by omega) (Ev.pos (by omega) (Ev.ite (fun h3 => ?_) (fun h3 => ?_)))
        · rw [if_pos h3]; exact ih
        · rw [if_neg h3]; exact Ev.pure _
      · have hz : (L t).drop i = [] := List.drop_eq_nil_iff.2 (by rw [L_len]; omega)
        have hz1 : (L t).drop (i + 1) = [] := List.drop_eq_nil_iff.2 (by rw [L_len]; omega)
        rw [hz1] at ih
        rw [ha, hz]
        simp only [wdS, Compare_byte_f, Option.bind_some]
        refine Ev.neg (by omega) (Ev.ite (fun h3 => ?_) (fun h3 => ?_))
        · rw [if_pos h3]; exact ih
        · rw [if_neg h3]; exact Ev.pure _
    · have h2 : i < t.size := by omega
      obtain ⟨b, hc, hd⟩ := drop_some h2
      have hz : (L s).drop i = [] := List.drop_eq_nil_iff.2 (by rw [L_len]; omega)
      have hz1 : (L s).drop (i + 1) = [] := List.drop_eq_nil_iff.2 (by rw [L_len]; omega)
      rw [hz1] at ih
      refine Ev.neg (by omega) (Ev.succ ?_)
      simp only [numeral_words.j1, hsu]
      rw [hd, rank_f]
      simp only [Option.bind_some, Compare_byte_f]
      rw [hz, hc]
      simp only [wdS]
      refine Ev.pos (by omega) (Ev.pos (by omega) (Ev.ite (fun h3 => ?_) (fun h3 => ?_)))
      · rw [if_pos h3]; exact ih
      · rw [if_neg h3]; exact Ev.pure _
theorem words_ev (l m : List UInt8) (hl : l.length < big) (hm : m.length < big) : Ev (fun k => numeral_words.f k (mkB l) (mkB m)) (wdS l m) := by
  unfold numeral_words.f
  have e : mx ((mkB l).size : Int) ((mkB m).size : Int) = ((max (mkB l).size (mkB m).size : Nat) : Int) := by
    unfold mx
    split <;> omega
  rw [e]
  exact words_l0 (mkB l) (mkB m) (by rwa [size_mk]) (by rwa [size_mk]) _ rfl _ 0 rfl (Nat.zero_le _)
/-- The order of two runs of digits. -/
def rnS (l m : List UInt8) : Int :=
  if l = [] ∨ m = [] then cmpI (if l = [] then 0 else 1) (if m = [] then 0 else 1) else orS [cmpI ((tl l).length : Int) ((tl m).length : Int), bcmp (tl l) (tl m)]
theorem mn_len (l : List UInt8) : mn ((mkB l).size : Int) 1 = if l = [] then 0 else 1 := by
  unfold mn
  rw [size_mk]
  cases l with
  | nil => rfl
  | cons c r => simp only [List.length_cons, reduceCtorEq, if_false]; split <;> omega
theorem runs_ev (l m : List UInt8) (hl : l.length < big) (hm : m.length < big) : Ev (fun k => numeral_runs.f k (mkB l) (mkB m)) (rnS l m) := by
  unfold numeral_runs.f rnS
  simp only [toList_mk]
  refine Ev.ite (fun h => ?_) (fun h => ?_)
  · refine Ev.succ ?_
    simp only [numeral_runs.j0, mn_len, Compare_int_f, Option.bind_some]
    rw [if_pos (Or.inl h)]
    exact Ev.pos trivial (Ev.pure _)
  · refine Ev.succ ?_
    simp only [numeral_runs.j0, mn_len, Compare_int_f, Option.bind_some]
    refine Ev.ite (fun h' => ?_) (fun h' => ?_)
    · rw [if_pos (Or.inr (List.isEmpty_iff.1 h'))]
      exact Ev.pure _
    · rw [if_neg (by rintro (h1 | h1); exact h h1; exact h' (by rw [h1]; rfl))]
      refine Ev.bind (TrimLeft_ev l hl) (Ev.bind (TrimLeft_ev m hm) ?_)
      simp only [Compare_str_f, Option.bind_some, L_mk, size_mk]
      exact Ev.bind (Or_ev _ (by simp)) (Ev.pure _)
def vrF : Nat → List UInt8 → List UInt8 → Int
  | 0, _, _ => 0
  | n + 1, l, m => if l = [] ∧ m = [] then 0 else if orS [wdS (pr1 l) (pr1 m), rnS (pr2 l) (pr2 m)] = 0 then vrF n (pr3 l) (pr3 m) else orS [wdS (pr1 l) (pr1 m), rnS (pr2 l) (pr2 m)]
def vrS (l m : List UInt8) : Int := vrF (l.length + m.length + 1) l m
theorem pr3_nil : pr3 [] = [] := rfl
theorem versions_l0 : ∀ (n : Nat) (l m : List UInt8), l.length + m.length < n → l.length < big → m.length < big → Ev (fun k => numeral_versions.l0 k (mkB l) (mkB m)) (vrF n l m)
  | 0, l, m, h, _, _ => by omega
  | n + 1, l, m, h, hl, hm => by
    have step : ¬ (l = [] ∧ m = []) → Ev (fun k => numeral_versions.j1 k (mkB l) (mkB m) true) (vrF (n + 1) l m) := by
      intro hne
      have h1 := pr_len l
      have h2 := pr_len m
      have hsh : (pr3 l).length + (pr3 m).length < l.length + m.length := by
        by_cases hl0 : l = []
        · subst hl0
          have := pr_short (l := m) (fun hm0 => hne ⟨rfl, hm0⟩)
          rw [pr3_nil]; omega
        · have := pr_short hl0
          omega
      refine Ev.succ ?_
      simp only [numeral_versions.j1]
      refine Ev.pos trivial (Ev.bind (pair_ev (mkB l) (by rwa [size_mk])) (Ev.bind (pair_ev (mkB m) (by rwa [size_mk])) ?_))
      simp only [L_mk]
      refine Ev.bind (words_ev _ _ (by omega) (by omega)) (Ev.bind (runs_ev _ _ (by omega) (by omega)) (Ev.bind (Or_ev _ (by simp)) ?_))
      simp only [vrF]
      rw [if_neg hne]
      refine Ev.ite (fun h3 => ?_) (fun h3 => ?_)
      · rw [if_pos h3]
        exact versions_l0 n _ _ (by omega) (by omega) (by omega)
      · rw [if_neg h3]; exact Ev.pure _
    refine Ev.succ ?_
    simp only [numeral_versions.l0, toList_mk]
    refine Ev.ite (fun h1 => ?_) (fun h1 => ?_)
    · by_cases h2 : m = []
      · subst h1 h2
        refine Ev.succ ?_
        simp only [numeral_versions.j1]
        exact Ev.neg (by decide) (Ev.done rfl)
      · have : (!m.isEmpty) = true := by cases m <;> simp_all
        rw [this]
        exact step (fun hh => h2 hh.2)
    · exact step (fun hh => h1 hh.1)
theorem versions_ev (s t : ByteArray) (hs : s.size < big) (ht : t.size < big) : Ev (fun k => numeral_versions.f k s t) (vrS (L s) (L t)) := by
  unfold numeral_versions.f
  have := versions_l0 ((L s).length + (L t).length + 1) (L s) (L t) (by omega) (by rwa [L_len]) (by rwa [L_len])
  simp only [mk_L] at this
  exact this
end Go.Proofs.YtcdajedmlfhmeaaDoor.XN
end

section
/- The laws' head: what must come. (by this session) -/
-- NEEDS numeral_Compare milllaw3_alive
set_option linter.unusedVariables false
set_option linter.unusedSimpArgs false
namespace Go.Proofs.YtcdajedmlfhmeaaDoor.XN
open Go.RowKit Go.Proofs.YtcdajedmlfhmeaaDoorW.PrintWords Go.Proofs.YtcdajedmlfhmeaaDoorW.PrintMore

theorem Compare_h (kind : Int) (hk : kind = 16 ∨ kind = 64) (s t : ByteArray) (hs : s.size < 2305843009213693952) (ht : t.size < 2305843009213693952) : Ev (fun k => numeral_Compare.f k kind s t) (ordS (huS kind s) (huS kind t)) := by
  have key : Ev (fun k => numeral_Compare.j0 k kind s t kind true) (ordS (huS kind s) (huS kind t)) := by
    refine Ev.succ ?_
    simp only [numeral_Compare.j0]
    refine Ev.pos trivial (Ev.bind (human_ev kind s hs) (Ev.bind (human_ev kind t ht) (Ev.bind (order_ev (huS kind s) (huS kind t) ?_) (Ev.pure _))))
    unfold huS
    exact szS_sign _ _ _ _
  unfold numeral_Compare.f
  rcases hk with rfl | rfl
  · exact Ev.pos rfl key
  · exact Ev.neg (by decide) key
theorem Compare_m (s t : ByteArray) (hs : s.size < big) (ht : t.size < big) : Ev (fun k => numeral_Compare.f k 128 s t) (cmpI (monS (L s)) (monS (L t))) := by
  unfold numeral_Compare.f
  refine Ev.neg (by decide) (Ev.succ ?_)
  simp only [numeral_Compare.j0, Compare_int_f, Option.bind_some]
  refine Ev.neg (by decide) (Ev.pos trivial (Ev.bind (Month_ev s hs) (Ev.bind (Month_ev t ht) (Ev.pure _))))
theorem Compare_v (s t : ByteArray) (hs : s.size < big) (ht : t.size < big) : Ev (fun k => numeral_Compare.f k 256 s t) (vrS (L s) (L t)) := by
  unfold numeral_Compare.f
  refine Ev.neg (by decide) (Ev.succ ?_)
  simp only [numeral_Compare.j0]
  refine Ev.neg (by decide) (Ev.neg (by decide) (Ev.pos trivial (Ev.bind (versions_ev s t hs ht) (Ev.pure _))))
theorem alive_dec : decS [45, 49, 50, 46, 53, 120] = (true, [49, 50], [53], 5) := by decide +kernel
theorem alive_n : ordS (huS 16 ⟨#[57]⟩) (huS 16 ⟨#[49, 48]⟩) = -1 := by decide +kernel
theorem alive_v : vrS [98] [97] = 1 := by
  have h1 : wdS [98] [97] = 1 := by simp only [wdS]; decide +kernel
  have e1 : pr1 [98] = [98] := by decide +kernel
  have e2 : pr1 [97] = [97] := by decide +kernel
  unfold vrS
  simp only [List.length_cons, List.length_nil, vrF, e1, e2, h1, orS]
  decide
theorem alive_ev : Ev (fun k => milllaw3_alive.f k) true := by
  unfold milllaw3_alive.f
  refine Ev.bind (Decimal_ev ⟨#[45, 49, 50, 46, 53, 120]⟩ (by decide)) ?_
  have e : decV (L ⟨#[45, 49, 50, 46, 53, 120]⟩) = (true, mkB [49, 50], mkB [53], 5) := by
    unfold decV
    rw [show L ⟨#[45, 49, 50, 46, 53, 120]⟩ = [45, 49, 50, 46, 53, 120] from rfl, alive_dec]
    rfl
  rw [e]
  simp only [toList_mk]
  refine Ev.pos trivial (Ev.pos trivial (Ev.pos trivial (Ev.pos trivial ?_)))
  refine Ev.bind (Compare_h 16 (Or.inl rfl) _ _ (by decide) (by decide)) ?_
  rw [alive_n]
  refine Ev.pos rfl (Ev.bind (Compare_v _ _ (by decide) (by decide)) ?_)
  rw [show L ⟨#[98]⟩ = [98] from rfl, show L ⟨#[97]⟩ = [97] from rfl, alive_v]
  exact Ev.done rfl
end Go.Proofs.YtcdajedmlfhmeaaDoor.XN
end

namespace Go.Proofs.YtcdajedmlfhmeaaDoor.XN
open Go.RowKit Go.Proofs.YtcdajedmlfhmeaaDoorW.PrintWords Go.Proofs.YtcdajedmlfhmeaaDoorW.PrintLast Go.Proofs.YtcdajedmlfhmeaaDoorW.PrintMore
attribute [local go_sem] max2_int min2_int max_two min_two max_three min_three max_four min_four
set_option linter.unusedVariables false
set_option linter.unusedSimpArgs false

/-! ### millref3_exponent: function 47 -/
def millref3_exponent.l0 : Nat → Bool → Int → ByteArray → Int → Int → Option (Int × Int)
 | 0, _, _, _, _, _ => none
 | k + 1, x7, x8, x9, x10, x11 => if x11 < (x9.size : Int) then (if x11 < 14 then (if 0 ≤ x11 then (millref3_exponent.l0 k x7 x8 x9 (wrap64 ((wrap64 (10 * x10)) + (((bt x9 x11) - 48) % 256))) (wrap64 (x11 + 1))) else (none)) else (if x10 > 1099511627776 then (if x7 = true then (some (-1099511627776, x8)) else (some (1099511627776, x8))) else (if (x9.size : Int) > 14 then (if x7 = true then (some (-1099511627776, x8)) else (some (1099511627776, x8))) else (if x7 = true then (some (wrap64 (-x10), x8)) else (some (x10, x8)))))) else (if x10 > 1099511627776 then (if x7 = true then (some (-1099511627776, x8)) else (some (1099511627776, x8))) else (if (x9.size : Int) > 14 then (if x7 = true then (some (-1099511627776, x8)) else (some (1099511627776, x8))) else (if x7 = true then (some (wrap64 (-x10), x8)) else (some (x10, x8)))))
def millref3_exponent.f (k : Nat) (a0 : ByteArray) (a1 : Int) : Option (Int × Int) := if a1 ≥ (a0.size : Int) then (some (0, a1)) else (if 0 ≤ a1 then (if a1 < (a0.size : Int) then ((millref3_low.f (bt a0 a1)).bind fun t360 => (if t360 = 101 then (if (wrap64 (a1 + 1)) < (a0.size : Int) then (if 0 ≤ (wrap64 (a1 + 1)) then (if (bt a0 (wrap64 (a1 + 1))) = 45 then ((millref3_run.f k a0 (wrap64 ((wrap64 (a1 + 1)) + 1))).bind fun t361 => (if t361 = (wrap64 ((wrap64 (a1 + 1)) + 1)) then (some (0, a1)) else (if 0 ≤ (wrap64 ((wrap64 (a1 + 1)) + 1)) then (if (wrap64 ((wrap64 (a1 + 1)) + 1)) ≤ t361 then (if t361 ≤ (a0.size : Int) then ((millref3_zeros.f k (a0.extract ((wrap64 ((wrap64 (a1 + 1)) + 1)) : Int).toNat (t361 : Int).toNat)).bind fun t362 => (if 0 ≤ t362 then (if t362 ≤ ((t361.toNat - ((wrap64 ((wrap64 (a1 + 1)) + 1)) : Int).toNat : Nat) : Int) then (millref3_exponent.l0 k ((bt a0 (wrap64 (a1 + 1))) == 45) t361 ((a0.extract ((wrap64 ((wrap64 (a1 + 1)) + 1)) : Int).toNat (t361 : Int).toNat).extract (t362 : Int).toNat (t361.toNat - ((wrap64 ((wrap64 (a1 + 1)) + 1)) : Int).toNat)) 0 0) else (none)) else (none))) else (none)) else (none)) else (none)))) else (if (bt a0 (wrap64 (a1 + 1))) = 43 then ((millref3_run.f k a0 (wrap64 ((wrap64 (a1 + 1)) + 1))).bind fun t363 => (if t363 = (wrap64 ((wrap64 (a1 + 1)) + 1)) then (some (0, a1)) else (if 0 ≤ (wrap64 ((wrap64 (a1 + 1)) + 1)) then (if (wrap64 ((wrap64 (a1 + 1)) + 1)) ≤ t363 then (if t363 ≤ (a0.size : Int) then ((millref3_zeros.f k (a0.extract ((wrap64 ((wrap64 (a1 + 1)) + 1)) : Int).toNat (t363 : Int).toNat)).bind fun t364 => (if 0 ≤ t364 then (if t364 ≤ ((t363.toNat - ((wrap64 ((wrap64 (a1 + 1)) + 1)) : Int).toNat : Nat) : Int) then (millref3_exponent.l0 k ((bt a0 (wrap64 (a1 + 1))) == 45) t363 ((a0.extract ((wrap64 ((wrap64 (a1 + 1)) + 1)) : Int).toNat (t363 : Int).toNat).extract (t364 : Int).toNat (t363.toNat - ((wrap64 ((wrap64 (a1 + 1)) + 1)) : Int).toNat)) 0 0) else (none)) else (none))) else (none)) else (none)) else (none)))) else ((millref3_run.f k a0 (wrap64 (a1 + 1))).bind fun t365 => (if t365 = (wrap64 (a1 + 1)) then (some (0, a1)) else (if (wrap64 (a1 + 1)) ≤ t365 then (if t365 ≤ (a0.size : Int) then ((millref3_zeros.f k (a0.extract ((wrap64 (a1 + 1)) : Int).toNat (t365 : Int).toNat)).bind fun t366 => (if 0 ≤ t366 then (if t366 ≤ ((t365.toNat - ((wrap64 (a1 + 1)) : Int).toNat : Nat) : Int) then (millref3_exponent.l0 k false t365 ((a0.extract ((wrap64 (a1 + 1)) : Int).toNat (t365 : Int).toNat).extract (t366 : Int).toNat (t365.toNat - ((wrap64 (a1 + 1)) : Int).toNat)) 0 0) else (none)) else (none))) else (none)) else (none)))))) else (none)) else ((millref3_run.f k a0 (wrap64 (a1 + 1))).bind fun t367 => (if t367 = (wrap64 (a1 + 1)) then (some (0, a1)) else (if 0 ≤ (wrap64 (a1 + 1)) then (if (wrap64 (a1 + 1)) ≤ t367 then (if t367 ≤ (a0.size : Int) then ((millref3_zeros.f k (a0.extract ((wrap64 (a1 + 1)) : Int).toNat (t367 : Int).toNat)).bind fun t368 => (if 0 ≤ t368 then (if t368 ≤ ((t367.toNat - ((wrap64 (a1 + 1)) : Int).toNat : Nat) : Int) then (millref3_exponent.l0 k false t367 ((a0.extract ((wrap64 (a1 + 1)) : Int).toNat (t367 : Int).toNat).extract (t368 : Int).toNat (t367.toNat - ((wrap64 (a1 + 1)) : Int).toNat)) 0 0) else (none)) else (none))) else (none)) else (none)) else (none))))) else (some (0, a1)))) else (none)) else (none))

/-! ### millref3_Norm: function 48 -/
def millref3_Norm.f (k : Nat) (a0_0 : Bool) (a0_1 : ByteArray) (a0_2 : Int) (a0_3 : Int) : Option (Bool × ByteArray × Int × Int) := (millref3_zeros.f k a0_1).bind fun t371 => (if 0 ≤ t371 then (if t371 ≤ (a0_1.size : Int) then ((millref3_trimmed.f k (a0_1.extract (t371 : Int).toNat a0_1.size)).bind fun t372 => (if t372.toList = ([] : List UInt8) then (some (false, (⟨#[]⟩ : ByteArray), 0, 0)) else (some (a0_0, t372, wrap64 (a0_2 - t371), a0_3)))) else (none)) else (none))

/-! ### millref3_General: function 26 -/
mutual
def millref3_General.j0 : Nat → ByteArray → Int → Bool → Bool → Option (Int × Bool × ByteArray × Int × Int)
 | 0, _, _, _, _ => none
 | k + 1, x0, x3, x4, x29 => if x29 = true then (if 0 ≤ x3 then (if x3 < (x0.size : Int) then (millref3_General.j1 k x0 (wrap64 (x3 + 1)) ((bt x0 x3) == 45)) else (none)) else (none)) else (millref3_General.j1 k x0 x3 x4)
def millref3_General.j1 : Nat → ByteArray → Int → Bool → Option (Int × Bool × ByteArray × Int × Int)
 | 0, _, _, _ => none
 | k + 1, x0, x3, x4 => (millref3_at.f k x0 x3 (⟨#[110, 97, 110]⟩ : ByteArray)).bind fun t375 => (if t375 = true then (some (1, false, (⟨#[]⟩ : ByteArray), 0, wrap64 (x3 + 3))) else ((millref3_at.f k x0 x3 (⟨#[105, 110, 102]⟩ : ByteArray)).bind fun t376 => (if t376 = true then (if x4 = true then (millref3_General.j2 k x0 x3 2 false (⟨#[]⟩ : ByteArray) 0 (wrap64 (x3 + 3))) else (millref3_General.j2 k x0 x3 4 false (⟨#[]⟩ : ByteArray) 0 (wrap64 (x3 + 3)))) else ((millref3_Plain.f k x0 x3).bind fun bt379 => (if bt379.2.2 < 0 then (some (0, false, (⟨#[]⟩ : ByteArray), 0, 0)) else ((millref3_exponent.f k x0 bt379.2.2).bind fun bt382 => ((millref3_Norm.f k x4 bt379.1 (wrap64 (bt379.2.1 + bt382.1)) 0).bind fun bt384 => (some (3, bt384.1, bt384.2.1, bt384.2.2.1, bt382.2)))))))))
def millref3_General.j2 : Nat → ByteArray → Int → Int → Bool → ByteArray → Int → Int → Option (Int × Bool × ByteArray × Int × Int)
 | 0, _, _, _, _, _, _, _ => none
 | k + 1, x0, x3, x378000, x378001, x378002, x378003, x378004 => (millref3_at.f k x0 x3 (⟨#[105, 110, 102, 105, 110, 105, 116, 121]⟩ : ByteArray)).bind fun t378 => (if t378 = true then (some (x378000, x378001, x378002, x378003, wrap64 (x3 + 8))) else (some (x378000, x378001, x378002, x378003, x378004)))
end
def millref3_General.f (k : Nat) (a0 : ByteArray) : Option (Int × Bool × ByteArray × Int × Int) := (millref3_start.f k a0).bind fun t374 => (if t374 < (a0.size : Int) then (if 0 ≤ t374 then (if (bt a0 t374) = 45 then (millref3_General.j0 k a0 t374 false true) else (millref3_General.j0 k a0 t374 false ((bt a0 t374) == 43))) else (none)) else (millref3_General.j0 k a0 t374 false false))
end Go.Proofs.YtcdajedmlfhmeaaDoor.XN

section
/- General: what numeral and millref3 compute. (by this session) -/
-- NEEDS numeral_exponent millref3_exponent numeral_General millref3_General millref3_Norm
set_option linter.unusedVariables false
set_option linter.unusedSimpArgs false
namespace Go.Proofs.YtcdajedmlfhmeaaDoor.XN
open Go.RowKit Go.Proofs.YtcdajedmlfhmeaaDoorW.PrintWords Go.Proofs.YtcdajedmlfhmeaaDoorW.PrintMore

/-! ### an exponent -/
def most : Nat := 1099511627776
theorem most_eq : most = 1099511627776 := rfl
/-- Digits read on from n. -/
def dvf (n : Nat) (l : List UInt8) : Nat := l.foldl (fun n c => 10 * n + (c.toNat - 48)) n
def dval (l : List UInt8) : Nat := dvf 0 l
theorem dvf_cons (n : Nat) (c : UInt8) (l : List UInt8) : dvf n (c :: l) = dvf (10 * n + (c.toNat - 48)) l := by unfold dvf; rw [List.foldl_cons]
theorem isDg_iff (c : UInt8) : isDg c = true ↔ 48 ≤ (c.toNat : Int) ∧ (c.toNat : Int) ≤ 57 := by unfold isDg plainDig; simp
theorem run_dg (l : List UInt8) : ∀ c ∈ l.takeWhile isDg, isDg c = true := by
  induction l with
  | nil => intro c h; cases h
  | cons d l ih =>
    intro c h
    rw [List.takeWhile_cons] at h
    split at h
    · rename_i hd
      rcases List.mem_cons.1 h with rfl | h
      · exact hd
      · exact ih c h
    · cases h
/-- The program's reckoning: no more than most. -/
def satF (n : Nat) : List UInt8 → Nat
  | [] => n
  | c :: r => if isDg c = true then satF (min (n * 10 + (c.toNat - 48)) most) r else n
theorem satF_run : ∀ (l : List UInt8) (a : Nat), satF (min a most) l = min (dvf a (l.takeWhile isDg)) most
  | [], a => rfl
  | c :: r, a => by
    rw [List.takeWhile_cons]
    unfold satF
    by_cases hc : isDg c = true
    · rw [if_pos hc, if_pos hc, dvf_cons, ← satF_run r]
      congr 1
      rw [most_eq]
      omega
    · rw [if_neg hc, if_neg hc]; rfl
theorem satF_0 (l : List UInt8) : satF 0 l = min (dval (l.takeWhile isDg)) most := by
  have := satF_run l 0
  rw [show min 0 most = 0 by rw [most_eq]; rfl] at this
  exact this
theorem expo_l0 (s : ByteArray) (hs : s.size < big) (sg : Int) (hsg : sg = 1 ∨ sg = -1) : ∀ (l : List UInt8) (i en n : Nat), (L s).drop i = l → i ≤ s.size → n ≤ most →
    Ev (fun k => numeral_exponent.l0 k s (i : Int) (en : Int) sg (n : Int)) (sg * (satF n l : Int), ((if l.takeWhile isDg = [] then en else i + (l.takeWhile isDg).length : Nat) : Int))
  | [], i, en, n, hl, hi, hn => by
    have := drop_nil hl
    rw [most_eq] at hn
    refine Ev.succ ?_
    simp only [numeral_exponent.l0]
    refine Ev.neg (by omega) (Ev.done ?_)
    rw [w64 (x := sg * (n : Int)) (by rcases hsg with rfl | rfl <;> omega)]
    rfl
  | c :: r, i, en, n, hl, hi, hn => by
    obtain ⟨h1, h2, h3⟩ := drop_cons hl
    refine Ev.succ ?_
    simp only [numeral_exponent.l0, h2, digit_f, Option.bind_some]
    refine Ev.pos (by omega) (Ev.pos (by omega) ?_)
    rw [List.takeWhile_cons]
    unfold satF
    have hb := hs
    rw [big_eq] at hb
    by_cases hc : isDg c = true
    · refine Ev.pos hc ?_
      rw [if_pos hc, if_pos hc]
      have hcc := (isDg_iff c).1 hc
      have hm := hn
      rw [most_eq] at hm
      have e1 : mn (wrap64 (wrap64 ((n : Int) * 10) + ((c.toNat : Int) - 48) % 256)) 1099511627776 = ((min (n * 10 + (c.toNat - 48)) most : Nat) : Int) := by
        rw [w64 (x := (n : Int) * 10) (by omega), w64 (by omega), most_eq]
        unfold mn
        omega
      simp only [w64_succ (i := i) (by omega), e1]
      refine Ev.val (expo_l0 s hs sg hsg r (i + 1) (i + 1) _ h3 (by omega) (Nat.min_le_right _ _)) ?_
      congr 2
      simp only [List.length_cons, reduceCtorEq, if_false]
      split
      · rename_i h; rw [h]; rfl
      · omega
    · refine Ev.neg hc (Ev.done ?_)
      rw [most_eq] at hn
      rw [if_neg hc, if_neg hc, w64 (x := sg * (n : Int)) (by rcases hsg with rfl | rfl <;> omega)]
      rfl
/-- A sign at the head: is it -, how many bytes. -/
def sgE : List UInt8 → Bool × Nat
  | [] => (false, 0)
  | c :: _ => if (c.toNat : Int) = 45 then (true, 1) else if (c.toNat : Int) = 43 then (false, 1) else (false, 0)
theorem sgE_cons (c : UInt8) (r : List UInt8) : sgE (c :: r) = if (c.toNat : Int) = 45 then (true, 1) else if (c.toNat : Int) = 43 then (false, 1) else (false, 0) := rfl
def isE (c : UInt8) : Bool := decide (c = 101) || decide (c = 69)
/-- An exponent at the head: its value, how many bytes. -/
def expS : List UInt8 → Int × Nat
  | [] => (0, 0)
  | c :: r =>
    if isE c = true then
      let d := (r.drop (sgE r).2).takeWhile isDg
      if d = [] then (0, 0) else ((if (sgE r).1 = true then -1 else 1) * (min (dval d) most : Nat), 1 + (sgE r).2 + d.length)
    else (0, 0)
theorem expS_range (l : List UInt8) : -1099511627776 ≤ (expS l).1 ∧ (expS l).1 ≤ 1099511627776 := by
  unfold expS
  split
  · simp
  · split
    · simp only []
      split
      · simp
      · simp only [most_eq]
        split <;> omega
    · simp
theorem orE (c : UInt8) : (Go.bits .or .u8 (c.toNat : Int) 32 = 101) ↔ isE c = true := by
  have : ∀ c : UInt8, (Go.bits .or .u8 (c.toNat : Int) 32 = 101) ↔ isE c = true := all8 (by decide +kernel)
  exact this c
theorem expo_tail (s : ByteArray) (hs : s.size < big) (sg : Int) (hsg : sg = 1 ∨ sg = -1) (i j : Nat) (hj : j ≤ s.size) :
    Ev (fun k => numeral_exponent.l0 k s (j : Int) (i : Int) sg 0)
      (if ((L s).drop j).takeWhile isDg = [] then (0, (i : Int)) else (sg * ((min (dval (((L s).drop j).takeWhile isDg)) most : Nat) : Int), ((j + (((L s).drop j).takeWhile isDg).length : Nat) : Int))) := by
  refine Ev.val (expo_l0 s hs sg hsg _ j i 0 rfl hj (Nat.zero_le _)) ?_
  rw [satF_0]
  split
  · rename_i h
    rw [h, show dval [] = 0 from rfl]
    simp [most_eq]
  · rfl
theorem exponent_ev (s : ByteArray) (hs : s.size < big) (i : Nat) (hi : i ≤ s.size) : Ev (fun k => numeral_exponent.f k s (i : Int)) ((expS ((L s).drop i)).1, ((i + (expS ((L s).drop i)).2 : Nat) : Int)) := by
  unfold numeral_exponent.f
  have hb := hs
  rw [big_eq] at hb
  by_cases he : i = s.size
  · refine Ev.pos (by omega) (Ev.done ?_)
    rw [List.drop_eq_nil_iff.2 (by rw [L_len]; omega)]
    rfl
  obtain ⟨c, hc, hbc⟩ := drop_some (s := s) (i := i) (by omega)
  refine Ev.neg (by omega) (Ev.pos (by omega) (Ev.pos (by omega) ?_))
  rw [hc, hbc]
  unfold expS
  by_cases hE : isE c = true
  · refine Ev.pos ((orE c).2 hE) ?_
    simp only [if_pos hE, w64_succ (i := i) (by omega)]
    by_cases h1 : i + 1 < s.size
    · obtain ⟨d, hd, hbd⟩ := drop_some (s := s) (i := i + 1) h1
      refine Ev.pos (by omega) (Ev.pos (by omega) ?_)
      rw [hbd, hd]
      simp only [sgE_cons]
      by_cases h45 : (d.toNat : Int) = 45
      · refine Ev.pos h45 ?_
        simp only [if_pos h45, w64_succ (i := i + 1) (by omega), List.drop_succ_cons, List.drop_zero]
        refine Ev.val (expo_tail s hs (-1) (Or.inr rfl) i (i + 1 + 1) (by omega)) ?_
        split
        · rfl
        · simp only [if_true]
          congr 2
          omega
      · refine Ev.neg h45 ?_
        simp only [if_neg h45]
        by_cases h43 : (d.toNat : Int) = 43
        · refine Ev.pos h43 ?_
          simp only [if_pos h43, w64_succ (i := i + 1) (by omega), List.drop_succ_cons, List.drop_zero]
          refine Ev.val (expo_tail s hs 1 (Or.inl rfl) i (i + 1 + 1) (by omega)) ?_
          split
          · rfl
          · simp only [Bool.false_eq_true, if_false]
            congr 2
            omega
        · refine Ev.neg h43 ?_
          simp only [if_neg h43, List.drop_zero]
          refine Ev.val (expo_tail s hs 1 (Or.inl rfl) i (i + 1) (by omega)) ?_
          rw [hd]
          split
          · rfl
          · simp only [Bool.false_eq_true, if_false]
            congr 2
            omega
    · refine Ev.neg (by omega) ?_
      have hn : (L s).drop (i + 1) = [] := List.drop_eq_nil_iff.2 (by rw [L_len]; omega)
      refine Ev.val (expo_tail s hs 1 (Or.inl rfl) i (i + 1) (by omega)) ?_
      rw [hn]
      rfl
  · refine Ev.neg (fun h => hE ((orE c).1 h)) (Ev.done ?_)
    simp only [if_neg hE]
    rfl
end Go.Proofs.YtcdajedmlfhmeaaDoor.XN
end

section
/- General: the whole, both sides; Compare at g and at any other kind. (by this session) -/
-- NEEDS numeral_General millref3_General millref3_Norm
set_option linter.unusedVariables false
set_option linter.unusedSimpArgs false
namespace Go.Proofs.YtcdajedmlfhmeaaDoor.XN
open Go.RowKit Go.Proofs.YtcdajedmlfhmeaaDoorW.PrintWords Go.Proofs.YtcdajedmlfhmeaaDoorW.PrintMore

def wInfinity : List UInt8 := [105, 110, 102, 105, 110, 105, 116, 121]
def wInf : List UInt8 := [105, 110, 102]
def wNan : List UInt8 := [110, 97, 110]
abbrev Gn := Int × Bool × List UInt8 × Int × Nat
/-- What General takes, behind blanks and sign: n stands at i. -/
def genB (neg : Bool) (n : List UInt8) (i : Nat) : Gn :=
  if bgN n wInfinity = true then ((if neg = true then 2 else 4), false, [], 0, i + 8)
  else if bgN n wInf = true then ((if neg = true then 2 else 4), false, [], 0, i + 3)
  else if bgN n wNan = true then (1, false, [], 0, i + 3)
  else if noneAt n = true then (0, false, [], 0, 0)
  else
    let d := digS (plS n).1 (plS n).2.1 (expS (n.drop (plS n).2.2)).1
    (3, neg && !d.1.isEmpty, d.1, d.2, i + (plS n).2.2 + (expS (n.drop (plS n).2.2)).2)
def genN (l : List UInt8) : Nat := blkN l + (sgE (l.drop (blkN l))).2
def genS (l : List UInt8) : Gn := genB (sgE (l.drop (blkN l))).1 (l.drop (genN l)) (genN l)
def gnV (g : Gn) : Int × Bool × ByteArray × Int × Int := (g.1, g.2.1, mkB g.2.2.1, g.2.2.2.1, (g.2.2.2.2 : Int))
theorem gen_l0 (s : ByteArray) (hs : s.size < 2305843009213693952) (neg : Bool) (i : Nat) (hi : i ≤ s.size) : Ev (fun k => numeral_General.l0 k s (i : Int) neg 0) (gnV (genB neg ((L s).drop i) i)) := by
  have hb : s.size < big := by rw [big_eq]; omega
  have hstop : ¬ bgN ((L s).drop i) wInfinity = true → ¬ bgN ((L s).drop i) wInf = true → ¬ bgN ((L s).drop i) wNan = true →
      Ev (fun k => numeral_General.l0 k s (i : Int) neg 3) (gnV (genB neg ((L s).drop i) i)) := by
    intro h1 h2 h3
    refine Ev.succ ?_
    simp only [numeral_General.l0]
    refine Ev.neg (by decide) ?_
    have hpl := plS_len ((L s).drop i)
    rw [List.length_drop, L_len] at hpl
    have hp1 := pl1_len ((L s).drop i)
    have hp2 := pl2_len ((L s).drop i)
    have hdl := size_drop s i
    rw [plain_f s hb i hi]
    simp only [Option.bind_some]
    unfold genB
    rw [if_neg h1, if_neg h2, if_neg h3]
    by_cases h0 : noneAt ((L s).drop i) = true
    · rw [if_pos h0, if_pos h0]
      exact Ev.pos rfl (Ev.done rfl)
    · rw [if_neg h0, if_neg h0]
      have hpos := pl_pos h0
      refine Ev.neg (by simp only; omega) ?_
      refine Ev.bind (exponent_ev s hb (i + (plS ((L s).drop i)).2.2) (by omega)) ?_
      rw [← List.drop_drop]
      have hr := expS_range (((L s).drop i).drop (plS ((L s).drop i)).2.2)
      refine Ev.bind (digits_ev _ _ _ (by omega) (by omega) (by omega)) ?_
      simp only [toList_mk]
      refine Ev.ite (fun hn => ?_) (fun hn => ?_)
      · rw [hn]; exact Ev.done (by simp [gnV])
      · rw [Bool.not_eq_true] at hn; rw [hn]; exact Ev.done (by simp [gnV])
  have hb' := hb
  rw [big_eq] at hb'
  refine Ev.succ ?_
  simp only [numeral_General.l0]
  refine Ev.pos (by decide) (Ev.pos trivial (Ev.bind (begins_ev s hb i hi wInfinity (by decide) (by decide)) ?_))
  by_cases h1 : bgN ((L s).drop i) wInfinity = true
  · refine Ev.pos h1 ?_
    have hl : i + 8 ≤ s.size := by
      rcases Nat.lt_or_ge ((L s).drop i).length 8 with h | h
      · rw [bgN_short _ wInfinity h] at h1; cases h1
      · rw [List.length_drop, L_len] at h; omega
    have e8 : wrap64 ((i : Int) + 8) = ((i + 8 : Nat) : Int) := w64_nat (by omega) (by omega)
    unfold genB
    rw [if_pos h1]
    simp only [e8]
    refine Ev.ite (fun hn => ?_) (fun hn => ?_)
    · refine Ev.succ ?_
      simp only [numeral_General.j4]
      exact Ev.neg (by decide +kernel) (Ev.done (by rw [hn]; rfl))
    · refine Ev.succ ?_
      simp only [numeral_General.j4]
      exact Ev.neg (by decide +kernel) (Ev.done (by rw [if_neg hn]; rfl))
  refine Ev.neg h1 (Ev.succ ?_)
  rw [show wrap64 (0 + 1) = 1 by rw [w64 (by omega)]; rfl]
  simp only [numeral_General.l0]
  refine Ev.pos (by decide) (Ev.neg (by decide) (Ev.pos trivial (Ev.bind (begins_ev s hb i hi wInf (by decide) (by decide)) ?_)))
  by_cases h2 : bgN ((L s).drop i) wInf = true
  · refine Ev.pos h2 ?_
    have hl : i + 3 ≤ s.size := by
      rcases Nat.lt_or_ge ((L s).drop i).length 3 with h | h
      · rw [bgN_short _ wInf h] at h2; cases h2
      · rw [List.length_drop, L_len] at h; omega
    have e8 : wrap64 ((i : Int) + 3) = ((i + 3 : Nat) : Int) := w64_nat (by omega) (by omega)
    unfold genB
    rw [if_neg h1, if_pos h2]
    simp only [e8]
    refine Ev.ite (fun hn => ?_) (fun hn => ?_)
    · refine Ev.succ ?_
      simp only [numeral_General.j5]
      exact Ev.neg (by decide +kernel) (Ev.done (by rw [hn]; rfl))
    · refine Ev.succ ?_
      simp only [numeral_General.j5]
      exact Ev.neg (by decide +kernel) (Ev.done (by rw [if_neg hn]; rfl))
  refine Ev.neg h2 (Ev.succ ?_)
  rw [show wrap64 (1 + 1) = 2 by rw [w64 (by omega)]; rfl]
  simp only [numeral_General.l0]
  refine Ev.pos (by decide) (Ev.neg (by decide) (Ev.neg (by decide) (Ev.pos trivial (Ev.bind (begins_ev s hb i hi wNan (by decide) (by decide)) ?_))))
  by_cases h3 : bgN ((L s).drop i) wNan = true
  · refine Ev.pos h3 ?_
    have hl : i + 3 ≤ s.size := by
      rcases Nat.lt_or_ge ((L s).drop i).length 3 with h | h
      · rw [bgN_short _ wNan h] at h3; cases h3
      · rw [List.length_drop, L_len] at h; omega
    have e8 : wrap64 ((i : Int) + 3) = ((i + 3 : Nat) : Int) := w64_nat (by omega) (by omega)
    unfold genB
    rw [if_neg h1, if_neg h2, if_pos h3]
    simp only [e8]
    refine Ev.ite (fun hn => ?_) (fun hn => ?_)
    · refine Ev.succ ?_
      simp only [numeral_General.j6]
      exact Ev.pos (by decide +kernel) (Ev.done (by rfl))
    · refine Ev.succ ?_
      simp only [numeral_General.j6]
      exact Ev.pos (by decide +kernel) (Ev.done (by rfl))
  refine Ev.neg h3 ?_
  rw [show wrap64 (2 + 1) = 3 by rw [w64 (by omega)]; rfl]
  exact hstop h1 h2 h3
theorem General_ev (s : ByteArray) (hs : s.size < 2305843009213693952) : Ev (fun k => numeral_General.f k s) (gnV (genS (L s))) := by
  have hb : s.size < big := by rw [big_eq]; omega
  have hb' := hb
  rw [big_eq] at hb'
  have hbl := blkN_le s
  unfold numeral_General.f genS genN
  refine Ev.bind (blanks_ev s hb) ?_
  generalize blkN (L s) = i at *
  by_cases h : i < s.size
  · obtain ⟨c, hc, hbc⟩ := drop_some (s := s) (i := i) h
    refine Ev.pos (by omega) (Ev.pos (by omega) (Ev.succ ?_))
    rw [hbc, hc]
    simp only [numeral_General.j0]
    unfold sgE
    by_cases h45 : (c.toNat : Int) = 45
    · refine Ev.pos (by simp [h45]) (Ev.succ ?_)
      simp only [numeral_General.j1, if_pos h45]
      refine Ev.pos trivial (Ev.succ ?_)
      simp only [numeral_General.j2, w64_succ (i := i) (by omega)]
      refine Ev.val (gen_l0 s hs _ (i + 1) (by omega)) ?_
      rw [show ((c.toNat : Int) == 45) = true by simp [h45]]
    · refine Ev.neg (by simp [h45]) (Ev.pos (by omega) (Ev.pos (by omega) (Ev.succ ?_)))
      simp only [numeral_General.j1, if_neg h45, hbc]
      by_cases h43 : (c.toNat : Int) = 43
      · refine Ev.pos (by simp [h43]) (Ev.succ ?_)
        simp only [numeral_General.j2, w64_succ (i := i) (by omega), if_pos h43]
        refine Ev.val (gen_l0 s hs _ (i + 1) (by omega)) ?_
        rw [show ((c.toNat : Int) == 45) = false by simp [h45]]
      · refine Ev.neg (by simp [h43]) (Ev.succ ?_)
        simp only [numeral_General.j2, if_neg h43]
        refine Ev.val (gen_l0 s hs _ i (by omega)) ?_
        rw [show ((c.toNat : Int) == 45) = false by simp [h45]]
        rfl
  · have hn : (L s).drop i = [] := List.drop_eq_nil_iff.2 (by rw [L_len]; omega)
    refine Ev.neg (by omega) (Ev.succ ?_)
    simp only [numeral_General.j0]
    refine Ev.neg (by decide) (Ev.neg (by omega) (Ev.succ ?_))
    simp only [numeral_General.j1]
    refine Ev.neg (by decide) (Ev.succ ?_)
    simp only [numeral_General.j2]
    refine Ev.val (gen_l0 s hs _ i (by omega)) ?_
    rw [hn, show sgE [] = (false, 0) from rfl, Nat.add_zero, hn]

end Go.Proofs.YtcdajedmlfhmeaaDoor.XN
end
