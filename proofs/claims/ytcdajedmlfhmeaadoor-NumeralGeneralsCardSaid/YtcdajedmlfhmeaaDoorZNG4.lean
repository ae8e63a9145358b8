/- The card of NumeralGenerals: the law answers true at every input. Conditions: none beyond the row's own. -/
import Derived.Test.YtcdajedmlfhmeaaDoorZNG3
import Derived.Test.YtcdajedmlfhmeaaDoorZNG0
import Derived.Test.YtcdajedmlfhmeaaDoorZNG1
import Derived.Test.YtcdajedmlfhmeaaDoorZNG2
import Derived.Test.YtcdajedmlfhmeaaDoorCards
import Derived.Test.YtcdajedmlfhmeaaDoorTie
import Derived.WalkKit
import Derived.ProofKit
import Derived.OpenShut
import Derived.ShutString
import Derived.ChangeOld
import Derived.Below
import Derived.SizedLaws
import Derived.Deep.DeepHandedRow
import Derived.Lib.LaidTab
import Derived.Lay
import Derived.MakeChecks
import Derived.LaidSub
section
/- What numeral and millref3 compute at the head of a text: blanks, digits, the parts of a number. (by this session) -/
-- NEEDS numeral_blanks numeral_plain millref3_start millref3_isDigit millref3_run millref3_Plain
set_option linter.unusedVariables false
set_option linter.unusedSimpArgs false
namespace Go.Proofs.YtcdajedmlfhmeaaDoor.XN
open Go.RowKit Go.Proofs.YtcdajedmlfhmeaaDoorW.PrintWords Go.Proofs.YtcdajedmlfhmeaaDoorW.PrintMore

theorem stop_at {s : ByteArray} {p : UInt8 → Bool} {i : Nat} (hi : i ≤ s.size) :
    (i + (((L s).drop i).takeWhile p).length = s.size ∧ ((L s).drop i).dropWhile p = []) ∨
    (∃ c r, i + (((L s).drop i).takeWhile p).length < s.size ∧ bt s ((i + (((L s).drop i).takeWhile p).length : Nat) : Int) = (c.toNat : Int) ∧ p c = false ∧ ((L s).drop i).dropWhile p = c :: r ∧ (L s).drop (i + (((L s).drop i).takeWhile p).length + 1) = r) := by
  obtain ⟨h1, h2⟩ := behind (p := p) hi
  cases h : ((L s).drop i).dropWhile p with
  | nil =>
    left
    rw [h] at h2
    have := drop_nil h2
    exact ⟨by omega, rfl⟩
  | cons c r =>
    right
    rw [h] at h2
    obtain ⟨a, b, d⟩ := drop_cons h2
    exact ⟨c, r, a, b, dropWhile_head h, rfl, d⟩

def isBl (c : UInt8) : Bool := decide ((c.toNat : Int) = 32) || decide ((c.toNat : Int) = 9)
def isDg (c : UInt8) : Bool := plainDig (c.toNat : Int)
def is0 (c : UInt8) : Bool := decide ((c.toNat : Int) = 48)
def blkN (l : List UInt8) : Nat := (l.takeWhile isBl).length

theorem blanks_ev (s : ByteArray) (hs : s.size < big) : Ev (fun k => numeral_blanks.f k s) (blkN (L s) : Int) := by
  unfold numeral_blanks.f
  refine scan (p := isBl) (F := fun k i => numeral_blanks.l0 k s i) hs (fun k i c h1 h2 hp => ?_) (L s) 0 rfl ?_
  · simp only [numeral_blanks.l0, h2, w64_succ (i := i) (by rw [big_eq] at hs; omega)]
    rw [if_pos (by omega), if_pos (by omega)]
    simp only [isBl, Bool.or_eq_true, decide_eq_true_eq] at hp
    split
    · rfl
    · rw [if_pos (by omega)]
  · simp only [Nat.zero_add]
    have hst := stop_at (s := s) (p := isBl) (i := 0) (Nat.zero_le _)
    simp only [Nat.zero_add, List.drop_zero] at hst
    refine Ev.succ ?_
    rcases hst with ⟨h, _⟩ | ⟨c, r, h1, h2, h3, _⟩
    · simp only [numeral_blanks.l0]
      exact Ev.neg (by rw [h]; omega) (Ev.pure _)
    · simp only [numeral_blanks.l0, h2]
      simp only [isBl, Bool.or_eq_false_iff, decide_eq_false_iff_not] at h3
      exact Ev.pos (by omega) (Ev.pos (by omega) (Ev.neg h3.1 (Ev.neg h3.2 (Ev.pure _))))
theorem start_ev (s : ByteArray) (hs : s.size < big) : Ev (fun k => millref3_start.f k s) (blkN (L s) : Int) := by
  unfold millref3_start.f
  refine scan (p := isBl) (F := fun k i => millref3_start.l0 k s i) hs (fun k i c h1 h2 hp => ?_) (L s) 0 rfl ?_
  · simp only [millref3_start.l0, h2, w64_succ (i := i) (by rw [big_eq] at hs; omega)]
    rw [if_pos (by omega), if_pos (by omega)]
    simp only [isBl, Bool.or_eq_true, decide_eq_true_eq] at hp
    split
    · rfl
    · rw [if_pos (by omega)]
  · simp only [Nat.zero_add]
    have hst := stop_at (s := s) (p := isBl) (i := 0) (Nat.zero_le _)
    simp only [Nat.zero_add, List.drop_zero] at hst
    refine Ev.succ ?_
    rcases hst with ⟨h, _⟩ | ⟨c, r, h1, h2, h3, _⟩
    · simp only [millref3_start.l0]
      exact Ev.neg (by rw [h]; omega) (Ev.pure _)
    · simp only [millref3_start.l0, h2]
      simp only [isBl, Bool.or_eq_false_iff, decide_eq_false_iff_not] at h3
      exact Ev.pos (by omega) (Ev.pos (by omega) (Ev.neg h3.1 (Ev.neg h3.2 (Ev.pure _))))
theorem blkN_le (s : ByteArray) : blkN (L s) ≤ s.size := by
  have := take_len (p := isBl) (L s)
  rw [L_len] at this
  exact this
theorem isDigit_f (x : Int) : millref3_isDigit.f x = some (plainDig x) := by
  unfold millref3_isDigit.f plainDig
  by_cases h : 48 ≤ x <;> simp [h]
theorem run_ev (s : ByteArray) (hs : s.size < big) (i : Nat) (hi : i ≤ s.size) : Ev (fun k => millref3_run.f k s i) ((i + (((L s).drop i).takeWhile isDg).length : Nat) : Int) := by
  unfold millref3_run.f
  refine scan (p := isDg) (F := fun k i => millref3_run.l0 k s i) hs (fun k i c h1 h2 hp => ?_) _ i rfl ?_
  · simp only [millref3_run.l0, h2, w64_succ (i := i) (by rw [big_eq] at hs; omega), isDigit_f, Option.bind_some]
    rw [if_pos (by omega), if_pos (by omega), if_pos (show plainDig (c.toNat : Int) = true from hp)]
  · refine Ev.succ ?_
    rcases stop_at (s := s) (p := isDg) hi with ⟨h, _⟩ | ⟨c, r, h1, h2, h3, _⟩
    · simp only [millref3_run.l0]
      exact Ev.neg (by rw [h]; omega) (Ev.pure _)
    · simp only [millref3_run.l0, h2, isDigit_f, Option.bind_some]
      exact Ev.pos (by omega) (Ev.pos (by omega) (Ev.neg (by rw [show plainDig (c.toNat : Int) = isDg c from rfl, h3]; decide) (Ev.pure _)))
theorem plainEnd_L (s : ByteArray) (i : Nat) (hi : i ≤ s.size) : plainEnd s i = i + (((L s).drop i).takeWhile isDg).length := by
  generalize hl : (L s).drop i = l
  induction l generalizing i with
  | nil =>
    have := drop_nil hl
    rw [plainEnd_no (by omega)]
    simp
  | cons c r ih =>
    obtain ⟨h1, h2, h3⟩ := drop_cons hl
    by_cases hp : isDg c = true
    · rw [plainEnd_yes h1 (by rw [h2]; exact hp), ih (i + 1) (by omega) h3, List.takeWhile_cons, if_pos hp]
      simp
      omega
    · rw [plainEnd_no (fun h => hp (by have := h.2; rw [h2] at this; exact this)), List.takeWhile_cons, if_neg hp]
      simp

/-- A number's parts at the head of l: the digits ahead of the point, those behind it, how many bytes in all. -/
def plS (l : List UInt8) : List UInt8 × List UInt8 × Nat :=
  match l.dropWhile isDg with
  | [] => (l.takeWhile isDg, [], (l.takeWhile isDg).length)
  | c :: r => if (c.toNat : Int) = 46 then (l.takeWhile isDg, r.takeWhile isDg, (l.takeWhile isDg).length + 1 + (r.takeWhile isDg).length) else (l.takeWhile isDg, [], (l.takeWhile isDg).length)
theorem plS_len (l : List UInt8) : (plS l).2.2 ≤ l.length := by
  unfold plS
  have h1 := List.takeWhile_append_dropWhile (p := isDg) (l := l)
  have h2 := congrArg List.length h1
  rw [List.length_append] at h2
  split
  · simp only; omega
  · rename_i c r h
    rw [h] at h2
    have := take_len (p := isDg) r
    simp at h2
    split <;> simp only <;> omega
def noneAt (l : List UInt8) : Bool := (plS l).1.isEmpty && (plS l).2.1.isEmpty
theorem nil_iff (l : List UInt8) : l = [] ↔ l.isEmpty = true := by cases l <;> simp
theorem plainF_S (s : ByteArray) (i : Nat) (hi : i ≤ s.size) : plainF s i = if noneAt ((L s).drop i) = true then (false, ⟨#[]⟩, ⟨#[]⟩, 0) else (false, mkB (plS ((L s).drop i)).1, mkB (plS ((L s).drop i)).2.1, ((i + (plS ((L s).drop i)).2.2 : Nat) : Int)) := by
  have he := plainEnd_L s i hi
  have hst := stop_at (s := s) (p := isDg) hi
  generalize hl : (L s).drop i = l at *
  have hx : s.extract i (plainEnd s i) = mkB (l.takeWhile isDg) := by
    rw [extract_mk', he, hl, Nat.add_sub_cancel_left, take_run]
  unfold plainF
  rw [hx]
  rw [he]
  unfold noneAt plS
  rcases hst with ⟨h, h'⟩ | ⟨c, r, h1, h2, h3, h4, h5⟩
  · rw [if_neg (by omega)]
    rw [h']
    simp only [toList_mk, nil_iff, List.isEmpty_nil, Bool.and_true]
    rfl
  · rw [h2, h4]
    simp only []
    by_cases h46 : (c.toNat : Int) = 46
    · rw [if_pos ⟨h1, h46⟩, if_pos h46]
      have hj : i + (l.takeWhile isDg).length + 1 ≤ s.size := by omega
      have he2 := plainEnd_L s _ hj
      rw [h5] at he2
      have hx2 : s.extract (i + (l.takeWhile isDg).length + 1) (plainEnd s (i + (l.takeWhile isDg).length + 1)) = mkB (r.takeWhile isDg) := by
        rw [extract_mk', he2, h5, Nat.add_sub_cancel_left, take_run]
      rw [hx2, he2]
      simp only [toList_mk, nil_iff, Bool.and_eq_true]
      rw [show i + (l.takeWhile isDg).length + 1 + (r.takeWhile isDg).length = i + ((l.takeWhile isDg).length + 1 + (r.takeWhile isDg).length) by omega]
    · rw [if_neg (fun h => h46 h.2), if_neg h46]
      simp only [toList_mk, nil_iff, List.isEmpty_nil, Bool.and_true]
      rfl
theorem plain_f (s : ByteArray) (hs : s.size < big) (i : Nat) (hi : i ≤ s.size) : numeral_plain.f s (i : Int) = some (if noneAt ((L s).drop i) = true then (false, ⟨#[]⟩, ⟨#[]⟩, 0) else (false, mkB (plS ((L s).drop i)).1, mkB (plS ((L s).drop i)).2.1, ((i + (plS ((L s).drop i)).2.2 : Nat) : Int))) := by
  unfold numeral_plain.f
  rw [if_pos ⟨by omega, by omega, by rw [big_eq] at hs; omega⟩, Int.toNat_natCast, plainF_S s i hi]
/-- The document's: the digits, the place of the point, the place behind; -1: none. -/
theorem Plain_ev (s : ByteArray) (hs : s.size < big) (i : Nat) (hi : i ≤ s.size) : Ev (fun k => millref3_Plain.f k s (i : Int))
    (if noneAt ((L s).drop i) = true then (⟨#[]⟩, 0, -1) else (mkB ((plS ((L s).drop i)).1 ++ (plS ((L s).drop i)).2.1), ((plS ((L s).drop i)).1.length : Int), ((i + (plS ((L s).drop i)).2.2 : Nat) : Int))) := by
  have hst := stop_at (s := s) (p := isDg) hi
  have hr := run_ev s hs i hi
  generalize hl : (L s).drop i = l at *
  have hle : i + (l.takeWhile isDg).length ≤ s.size := by rcases hst with ⟨h, _⟩ | ⟨c, r, h, _⟩ <;> omega
  unfold millref3_Plain.f
  refine Ev.bind hr ?_
  have hx : s.extract i (i + (l.takeWhile isDg).length) = mkB (l.takeWhile isDg) := by
    rw [extract_mk', hl, Nat.add_sub_cancel_left, take_run]
  rw [big_eq] at hs
  refine Ev.pos (by omega) (Ev.pos (by omega) (Ev.pos (by omega) ?_))
  simp only [Int.toNat_natCast, hx]
  unfold noneAt plS
  have hw : i + (l.takeWhile isDg).length - i = (l.takeWhile isDg).length := by omega
  rcases hst with ⟨h, h'⟩ | ⟨c, r, h1, h2, h3, h4, h5⟩
  · refine Ev.neg (by omega) ?_
    rw [h']
    simp only [toList_mk, nil_iff, List.isEmpty_nil, Bool.and_true, hw, List.append_nil]
    refine Ev.ite (fun h => ?_) (fun h => ?_)
    · rw [if_pos h]; exact Ev.pure _
    · rw [if_neg h]; exact Ev.pure _
  · refine Ev.pos (by omega) (Ev.pos (by omega) ?_)
    rw [h4]
    simp only [h2]
    by_cases h46 : (c.toNat : Int) = 46
    · refine Ev.pos h46 ?_
      have hj : i + (l.takeWhile isDg).length + 1 ≤ s.size := by omega
      have hr2 := run_ev s (by rw [big_eq]; omega) _ hj
      rw [h5] at hr2
      have hw2 : wrap64 (((i + (l.takeWhile isDg).length : Nat) : Int) + 1) = ((i + (l.takeWhile isDg).length + 1 : Nat) : Int) := w64_nat (by omega) (by omega)
      simp only [hw2]
      refine Ev.bind hr2 ?_
      have hle2 : i + (l.takeWhile isDg).length + 1 + (r.takeWhile isDg).length ≤ s.size := by
        have := take_len (p := isDg) r
        have h6 := congrArg List.length h5
        rw [List.length_drop, L_len] at h6
        omega
      have hx2 : s.extract (i + (l.takeWhile isDg).length + 1) (i + (l.takeWhile isDg).length + 1 + (r.takeWhile isDg).length) = mkB (r.takeWhile isDg) := by
        rw [extract_mk', h5, Nat.add_sub_cancel_left, take_run]
      refine Ev.pos (by omega) (Ev.pos (by omega) (Ev.pos (by omega) ?_))
      simp only [Int.toNat_natCast, hx2, mk_append, toList_mk, nil_iff]
      refine Ev.pos (by omega) ?_
      rw [if_pos h46]
      simp only [Bool.and_eq_true, hw]
      have hap : (l.takeWhile isDg ++ r.takeWhile isDg).isEmpty = true ↔ (l.takeWhile isDg).isEmpty = true ∧ (r.takeWhile isDg).isEmpty = true := by
        simp [List.isEmpty_iff]
      refine Ev.ite (fun h => ?_) (fun h => ?_)
      · rw [if_pos (hap.1 h)]; exact Ev.pure _
      · rw [if_neg (fun h' => h (hap.2 h'))]
        refine Ev.done ?_
        rw [show i + (l.takeWhile isDg).length + 1 + (r.takeWhile isDg).length = i + ((l.takeWhile isDg).length + 1 + (r.takeWhile isDg).length) by omega]
    · refine Ev.neg h46 ?_
      rw [if_neg h46]
      simp only [toList_mk, nil_iff, List.isEmpty_nil, Bool.and_true, hw, List.append_nil]
      refine Ev.ite (fun h => ?_) (fun h => ?_)
      · rw [if_pos h]; exact Ev.pure _
      · rw [if_neg h]; exact Ev.pure _
end Go.Proofs.YtcdajedmlfhmeaaDoor.XN
end

namespace Go.Proofs.YtcdajedmlfhmeaaDoor.XN
open Go.RowKit Go.Proofs.YtcdajedmlfhmeaaDoorW.PrintWords Go.Proofs.YtcdajedmlfhmeaaDoorW.PrintLast Go.Proofs.YtcdajedmlfhmeaaDoorW.PrintMore
attribute [local go_sem] max2_int min2_int max_two min_two max_three min_three max_four min_four
set_option linter.unusedVariables false
set_option linter.unusedSimpArgs false

/-! ### millref3_signed: function 41 -/
def millref3_signed.j0 : Nat → ByteArray → Int → Bool → Bool → Option (Bool × ByteArray × Int × Int × Int)
 | 0, _, _, _, _ => none
 | k + 1, x0, x4, x5, x20 => if x20 = true then ((millref3_Plain.f k x0 (wrap64 (x4 + 1))).bind fun bt199 => (if bt199.2.2 < 0 then (some (false, (⟨#[]⟩ : ByteArray), 0, 0, 0)) else (some (true, bt199.1, bt199.2.1, 0, bt199.2.2)))) else ((millref3_Plain.f k x0 x4).bind fun bt202 => (if bt202.2.2 < 0 then (some (false, (⟨#[]⟩ : ByteArray), 0, 0, 0)) else (some (x5, bt202.1, bt202.2.1, 0, bt202.2.2))))
def millref3_signed.f (k : Nat) (a0 : ByteArray) : Option (Bool × ByteArray × Int × Int × Int) := (millref3_start.f k a0).bind fun t198 => (if t198 < (a0.size : Int) then (if 0 ≤ t198 then (millref3_signed.j0 k a0 t198 false ((bt a0 t198) == 45)) else (none)) else (millref3_signed.j0 k a0 t198 false false))
set_option maxHeartbeats 8000000 in
set_option maxRecDepth 100000 in
theorem millref3_signed.calls (k : Nat) (a0 : ByteArray) (r1 : Bool) (r2 : ByteArray) (r3 : Int) (r4 : Int) (r5 : Int) (w : World) (h : millref3_signed.f k a0 = some (r1, r2, r3, r4, r5)) :
  Calls Tryd.prog 41 #[.string a0] w fun e w' => e = .returned (.tuple #[.agg #[.bool r1, .string r2, .int .i64 r3, .int .i64 r4], .int .i64 r5]) ∧ Below w.heap.size w w' := by
 have hu67 := Tryd.underlying67
 have HB := Aside0.mk (Below.refl w.heap.size w)
 have H : ((millref3_start.f k a0).bind fun t198 => (if t198 < (a0.size : Int) then (if 0 ≤ t198 then (millref3_signed.j0 k a0 t198 false ((bt a0 t198) == 45)) else (none)) else (millref3_signed.j0 k a0 t198 false false))) = some (r1, r2, r3, r4, r5) := h
 clear h
 replace H := Option.bind_eq_some_iff.mp H
 obtain ⟨t198, A20, H⟩ := H
 replace H : (if t198 < (a0.size : Int) then (if 0 ≤ t198 then (millref3_signed.j0 k a0 t198 false ((bt a0 t198) == 45)) else (none)) else (millref3_signed.j0 k a0 t198 false false)) = some (r1, r2, r3, r4, r5) := H
 have A2 := Aside0.mk A20
 clear A20
 have HC3 := Aside0.mk H
 clear H
 go_enter Tryd.func41, Tryd.ntmps41
 have tk5 : True := trivial; have tk6 : True := trivial
 go_upto_region 3 with (first | (have ztk5 := tk5; clear tk5 ztk5; (with_reducible refine gate_dst (N := 2) rfl ?_); refine box_event ?hg (N := 2) ?hd (cs := #[.bool false, .string (⟨#[]⟩ : ByteArray), .int .i64 0, .int .i64 0]) (t := 67) ?hr ?_; (case hd => rfl); (case hg => rfl); (case hr => first | (go_simp; done) | (go_simp; rfl)); intro gb197 hg w4 hbox hb; have n0_ := Aside0.mk (below_step qng1_ hb); have n1_ := Aside0.mk (hbox); have n2_ := Aside0.mk ((by rw [hg]; exact (below_size qng1_) : w.heap.size ≤ gb197)); have n3_ := Aside0.mk ((by rw [hg]; exact (below_size qng1_) : w.heap.size ≤ gb197)); clear HB; have HB := n0_; have BK197 := n1_; have GW197 := n2_; have GE197 := n3_; clear n0_ n1_ n2_ n3_; clear hb hbox hg) | (have ztk6 := tk6; clear tk6 ztk6; (with_reducible refine gate_callee (f := 44) rfl ?_); refine goesL_ (some 10) rfl rfl Tryd.func44 (by kernel_rfl) rfl #[.string a0] rfl qng0_ ?_; (with_reducible refine (millref3_start.calls k a0 t198 _ A2.out).mono ?_); rintro e w' ⟨rfl, ⟨nd, rfl⟩⟩; refine ⟨_, rfl, ?_⟩))
 (try simp only [Act.put, List.setIfInBounds_toArray, List.set_cons_zero, List.set_cons_succ])
 go_cut [20] (fun v20 wc => ∃ (kq : Nat) (x20_2 : Bool), v20 = .bool x20_2 ∧ Aside0 (millref3_signed.j0 kq a0 t198 false x20_2 = some (r1, r2, r3, r4, r5)) ∧ Aside0 (kq ≤ k) ∧ Aside0 (wc.heap[gb197]? = some (.cells #[.bool false, .string (⟨#[]⟩ : ByteArray), .int .i64 0, .int .i64 0] 67 (0, 0))) ∧ Aside0 (Below w.heap.size w wc))
 case first =>
  have H := HC3.out
  clear HC3
  by_cases c7 : t198 < (a0.size : Int)
  ·
   rw [if_pos c7] at H
   have c7b0 : decide (t198 < (a0.size : Int)) = true := decide_eq_true c7
   clear c7
   (first | rw [c7b0] | (simp only [i64_w, i32_w]; rw [c7b0]) | skip)
   by_cases c8 : 0 ≤ t198
   ·
    rw [if_pos c8] at H
    have c8b0 : decide (0 ≤ t198) = true := decide_eq_true c8
    clear c8
    have H' := Aside0.mk H
    clear H
    have p9 : 0 ≤ (t198 : Int) := of_decide_eq_true qng3_
    have q9 : t198 < (a0.size : Int) := of_decide_eq_true qng3_
    have hx9 := bt_at a0 t198
    replace p9 := eq_true p9
    replace q9 := eq_true q9
    go_wp2
    go_meet
    case rel => exact ⟨_, (((bt a0 t198) == 45)), qng2_, H', ⟨by first | omega | exact Nat.le_refl _⟩, ⟨qng57_⟩, ⟨qng30_⟩⟩
   ·
    rw [if_neg c8] at H
    exact absurd H (by simp)
  ·
   rw [if_neg c7] at H
   have c7b0 : decide (t198 < (a0.size : Int)) = false := decide_eq_false c7
   clear c7
   (first | rw [c7b0] | (simp only [i64_w, i32_w]; rw [c7b0]) | skip)
   have H' := Aside0.mk H
   clear H
   go_wp2
   go_meet
   case rel => exact ⟨_, (false), qng2_, H', ⟨by first | omega | exact Nat.le_refl _⟩, ⟨qng57_⟩, ⟨qng30_⟩⟩
 case rest =>
  clear HC3
  (try clear p2); (try clear c4); (try clear c7); (try clear c7b0); (try clear c8); (try clear c8b0); (try clear p9); (try clear q9); (try clear hx9); (try clear p9); (try clear q9)
  obtain ⟨kq, x20_2, rfl, HA, HJ2, BK197, HB⟩ := hcut
  cases kq with
  | zero => exact absurd HA.out (by simp [millref3_signed.j0])
  | succ kj2 =>
   have H := HA.out
   clear HA
   simp only [millref3_signed.j0] at H
   by_cases c10 : x20_2 = true
   ·
    subst c10
    have H1 : ((millref3_Plain.f kj2 a0 (wrap64 (t198 + 1))).bind fun bt199 => (if bt199.2.2 < 0 then (some (false, (⟨#[]⟩ : ByteArray), 0, 0, 0)) else (some (true, bt199.1, bt199.2.1, 0, bt199.2.2)))) = some (r1, r2, r3, r4, r5) := by rw [if_pos rfl] at H; exact H
    clear H
    have H := H1
    clear H1
    replace H := Option.bind_eq_some_iff.mp H
    obtain ⟨⟨t199, t200, t201⟩, A110, H⟩ := H
    replace H : (if t201 < 0 then (some (false, (⟨#[]⟩ : ByteArray), 0, 0, 0)) else (some (true, t199, t200, 0, t201))) = some (r1, r2, r3, r4, r5) := H
    have A11 := Aside0.mk A110
    clear A110
    by_cases c12 : t201 < 0
    ·
     rw [if_pos c12] at H
     have c12b0 : decide (t201 < 0) = true := decide_eq_true c12
     clear c12
     simp only [Option.some.injEq, Prod.mk.injEq] at H
     obtain ⟨rfl, rfl, rfl, rfl, rfl⟩ := H
     go_wp2_with (first | ((with_reducible refine gate_callee (f := 46) rfl ?_); refine goesL_ (some 26) rfl rfl Tryd.func46 (by kernel_rfl) rfl #[.string a0, .int .i64 (wrap64 (t198 + 1))] rfl qng0_ ?_; (with_reducible refine (millref3_Plain.calls kj2 a0 (wrap64 (t198 + 1)) t199 t200 t201 _ A11.out).mono ?_); rintro e w' ⟨rfl, ⟨nd, rfl⟩⟩; refine ⟨_, rfl, ?_⟩; (try (rw [drewN_self wc]; generalize hq_ : World.drewN wc _ = wc; have n0_ : Aside0 (wc.heap[gb197]? = some (.cells #[.bool false, .string (⟨#[]⟩ : ByteArray), .int .i64 0, .int .i64 0] 67 (0, 0))) := ⟨by rw [← hq_]; exact qng57_⟩; have n1_ : Aside0 (Below w.heap.size w wc) := ⟨by rw [← hq_]; exact qng30_⟩; clear BK197 HB hq_; have BK197 := n0_; have HB := n1_; clear n0_ n1_)); (try (have hcu13_0 : wc.cell? ⟨gb197, 0, none⟩ = some (.bool false) := (blk_cell BK197.out 0).trans rfl; have hfu13_0 := blk_frozen BK197.out 0; have hcu13_1 : wc.cell? ⟨gb197, 1, none⟩ = some (.string (⟨#[]⟩ : ByteArray)) := (blk_cell BK197.out 1).trans rfl; have hfu13_1 := blk_frozen BK197.out 1; have hcu13_2 : wc.cell? ⟨gb197, 2, none⟩ = some (.int .i64 0) := (blk_cell BK197.out 2).trans rfl; have hfu13_2 := blk_frozen BK197.out 2; have hcu13_3 : wc.cell? ⟨gb197, 3, none⟩ = some (.int .i64 0) := (blk_cell BK197.out 3).trans rfl; have hfu13_3 := blk_frozen BK197.out 3)); have hcz14_0 : wc.cell? ⟨gb197, 0, none⟩ = some (.bool false) := (blk_cell BK197.out 0).trans rfl; have hcz14_1 : wc.cell? ⟨gb197, 1, none⟩ = some (.string (⟨#[]⟩ : ByteArray)) := (blk_cell BK197.out 1).trans rfl; have hcz14_2 : wc.cell? ⟨gb197, 2, none⟩ = some (.int .i64 0) := (blk_cell BK197.out 2).trans rfl; have hcz14_3 : wc.cell? ⟨gb197, 3, none⟩ = some (.int .i64 0) := (blk_cell BK197.out 3).trans rfl; have hfz14_0 := blk_frozen BK197.out 0; have hfz14_1 := blk_frozen BK197.out 1; have hfz14_2 := blk_frozen BK197.out 2; have hfz14_3 := blk_frozen BK197.out 3))
     refine bodyPost_ret (results_ct rfl _ _ gb197 67 #[.bool false, .string (⟨#[]⟩ : ByteArray), .int .i64 0, .int .i64 0] (0, 0) _ rfl (by (with_reducible repeat (first | refine blk_drewN ?_ _ | refine blk_drew ?_ | refine blk_alloc ?_ _)); refine blk_put (cs := #[.bool false, .string (⟨#[]⟩ : ByteArray), .int .i64 0, .int .i64 0]) ?_ 3 _ rfl; (with_reducible repeat (first | refine blk_drewN ?_ _ | refine blk_drew ?_ | refine blk_alloc ?_ _)); refine blk_put (cs := #[.bool false, .string (⟨#[]⟩ : ByteArray), .int .i64 0, .int .i64 0]) ?_ 2 _ rfl; (with_reducible repeat (first | refine blk_drewN ?_ _ | refine blk_drew ?_ | refine blk_alloc ?_ _)); refine blk_put (cs := #[.bool false, .string (⟨#[]⟩ : ByteArray), .int .i64 0, .int .i64 0]) ?_ 1 _ rfl; (with_reducible repeat (first | refine blk_drewN ?_ _ | refine blk_drew ?_ | refine blk_alloc ?_ _)); refine blk_put (cs := #[.bool false, .string (⟨#[]⟩ : ByteArray), .int .i64 0, .int .i64 0]) ?_ 0 _ rfl; (with_reducible repeat (first | refine blk_drewN ?_ _ | refine blk_drew ?_ | refine blk_alloc ?_ _)); exact BK197.out) Tryd.underlying67 rfl (by kernel_rfl)) rfl ?_
     exact ⟨qng6_, qng30_⟩
    ·
     rw [if_neg c12] at H
     have c12b0 : decide (t201 < 0) = false := decide_eq_false c12
     clear c12
     simp only [Option.some.injEq, Prod.mk.injEq] at H
     obtain ⟨rfl, rfl, rfl, rfl, rfl⟩ := H
     go_wp2_with (first | ((with_reducible refine gate_callee (f := 46) rfl ?_); refine goesL_ (some 26) rfl rfl Tryd.func46 (by kernel_rfl) rfl #[.string a0, .int .i64 (wrap64 (t198 + 1))] rfl qng0_ ?_; (with_reducible refine (millref3_Plain.calls kj2 a0 (wrap64 (t198 + 1)) t199 t200 t201 _ A11.out).mono ?_); rintro e w' ⟨rfl, ⟨nd, rfl⟩⟩; refine ⟨_, rfl, ?_⟩; (try (rw [drewN_self wc]; generalize hq_ : World.drewN wc _ = wc; have n0_ : Aside0 (wc.heap[gb197]? = some (.cells #[.bool false, .string (⟨#[]⟩ : ByteArray), .int .i64 0, .int .i64 0] 67 (0, 0))) := ⟨by rw [← hq_]; exact qng57_⟩; have n1_ : Aside0 (Below w.heap.size w wc) := ⟨by rw [← hq_]; exact qng30_⟩; clear BK197 HB hq_; have BK197 := n0_; have HB := n1_; clear n0_ n1_)); (try (have hcu15_0 : wc.cell? ⟨gb197, 0, none⟩ = some (.bool false) := (blk_cell BK197.out 0).trans rfl; have hfu15_0 := blk_frozen BK197.out 0; have hcu15_1 : wc.cell? ⟨gb197, 1, none⟩ = some (.string (⟨#[]⟩ : ByteArray)) := (blk_cell BK197.out 1).trans rfl; have hfu15_1 := blk_frozen BK197.out 1; have hcu15_2 : wc.cell? ⟨gb197, 2, none⟩ = some (.int .i64 0) := (blk_cell BK197.out 2).trans rfl; have hfu15_2 := blk_frozen BK197.out 2; have hcu15_3 : wc.cell? ⟨gb197, 3, none⟩ = some (.int .i64 0) := (blk_cell BK197.out 3).trans rfl; have hfu15_3 := blk_frozen BK197.out 3)); have hcz16_0 : wc.cell? ⟨gb197, 0, none⟩ = some (.bool false) := (blk_cell BK197.out 0).trans rfl; have hcz16_1 : wc.cell? ⟨gb197, 1, none⟩ = some (.string (⟨#[]⟩ : ByteArray)) := (blk_cell BK197.out 1).trans rfl; have hcz16_2 : wc.cell? ⟨gb197, 2, none⟩ = some (.int .i64 0) := (blk_cell BK197.out 2).trans rfl; have hcz16_3 : wc.cell? ⟨gb197, 3, none⟩ = some (.int .i64 0) := (blk_cell BK197.out 3).trans rfl; have hfz16_0 := blk_frozen BK197.out 0; have hfz16_1 := blk_frozen BK197.out 1; have hfz16_2 := blk_frozen BK197.out 2; have hfz16_3 := blk_frozen BK197.out 3))
     refine bodyPost_ret (results_ct rfl _ _ gb197 67 #[.bool true, .string t199, .int .i64 t200, .int .i64 0] (0, 0) _ rfl (by (with_reducible repeat (first | refine blk_drewN ?_ _ | refine blk_drew ?_ | refine blk_alloc ?_ _)); refine blk_put (cs := #[.bool true, .string t199, .int .i64 t200, .int .i64 0]) ?_ 3 _ rfl; (with_reducible repeat (first | refine blk_drewN ?_ _ | refine blk_drew ?_ | refine blk_alloc ?_ _)); refine blk_put (cs := #[.bool true, .string t199, .int .i64 0, .int .i64 0]) ?_ 2 _ rfl; (with_reducible repeat (first | refine blk_drewN ?_ _ | refine blk_drew ?_ | refine blk_alloc ?_ _)); refine blk_put (cs := #[.bool true, .string (⟨#[]⟩ : ByteArray), .int .i64 0, .int .i64 0]) ?_ 1 _ rfl; (with_reducible repeat (first | refine blk_drewN ?_ _ | refine blk_drew ?_ | refine blk_alloc ?_ _)); refine blk_put (cs := #[.bool false, .string (⟨#[]⟩ : ByteArray), .int .i64 0, .int .i64 0]) ?_ 0 _ rfl; (with_reducible repeat (first | refine blk_drewN ?_ _ | refine blk_drew ?_ | refine blk_alloc ?_ _)); exact BK197.out) Tryd.underlying67 rfl (by kernel_rfl)) rfl ?_
     exact ⟨qng6_, qng30_⟩
   ·
    replace c10 := Bool.eq_false_iff.mpr c10
    subst c10
    have H1 : ((millref3_Plain.f kj2 a0 t198).bind fun bt202 => (if bt202.2.2 < 0 then (some (false, (⟨#[]⟩ : ByteArray), 0, 0, 0)) else (some (false, bt202.1, bt202.2.1, 0, bt202.2.2)))) = some (r1, r2, r3, r4, r5) := by rw [if_neg (show ¬ (false = true) by decide)] at H; exact H
    clear H
    have H := H1
    clear H1
    replace H := Option.bind_eq_some_iff.mp H
    obtain ⟨⟨t202, t203, t204⟩, A170, H⟩ := H
    replace H : (if t204 < 0 then (some (false, (⟨#[]⟩ : ByteArray), 0, 0, 0)) else (some (false, t202, t203, 0, t204))) = some (r1, r2, r3, r4, r5) := H
    have A17 := Aside0.mk A170
    clear A170
    by_cases c18 : t204 < 0
    ·
     rw [if_pos c18] at H
     have c18b0 : decide (t204 < 0) = true := decide_eq_true c18
     clear c18
     simp only [Option.some.injEq, Prod.mk.injEq] at H
     obtain ⟨rfl, rfl, rfl, rfl, rfl⟩ := H
     go_wp2_with (first | ((with_reducible refine gate_callee (f := 46) rfl ?_); refine goesL_ (some 26) rfl rfl Tryd.func46 (by kernel_rfl) rfl #[.string a0, .int .i64 t198] rfl qng0_ ?_; (with_reducible refine (millref3_Plain.calls kj2 a0 t198 t202 t203 t204 _ A17.out).mono ?_); rintro e w' ⟨rfl, ⟨nd, rfl⟩⟩; refine ⟨_, rfl, ?_⟩; (try (rw [drewN_self wc]; generalize hq_ : World.drewN wc _ = wc; have n0_ : Aside0 (wc.heap[gb197]? = some (.cells #[.bool false, .string (⟨#[]⟩ : ByteArray), .int .i64 0, .int .i64 0] 67 (0, 0))) := ⟨by rw [← hq_]; exact qng57_⟩; have n1_ : Aside0 (Below w.heap.size w wc) := ⟨by rw [← hq_]; exact qng30_⟩; clear BK197 HB hq_; have BK197 := n0_; have HB := n1_; clear n0_ n1_)); (try (have hcu19_0 : wc.cell? ⟨gb197, 0, none⟩ = some (.bool false) := (blk_cell BK197.out 0).trans rfl; have hfu19_0 := blk_frozen BK197.out 0; have hcu19_1 : wc.cell? ⟨gb197, 1, none⟩ = some (.string (⟨#[]⟩ : ByteArray)) := (blk_cell BK197.out 1).trans rfl; have hfu19_1 := blk_frozen BK197.out 1; have hcu19_2 : wc.cell? ⟨gb197, 2, none⟩ = some (.int .i64 0) := (blk_cell BK197.out 2).trans rfl; have hfu19_2 := blk_frozen BK197.out 2; have hcu19_3 : wc.cell? ⟨gb197, 3, none⟩ = some (.int .i64 0) := (blk_cell BK197.out 3).trans rfl; have hfu19_3 := blk_frozen BK197.out 3)); have hcz20_0 : wc.cell? ⟨gb197, 0, none⟩ = some (.bool false) := (blk_cell BK197.out 0).trans rfl; have hcz20_1 : wc.cell? ⟨gb197, 1, none⟩ = some (.string (⟨#[]⟩ : ByteArray)) := (blk_cell BK197.out 1).trans rfl; have hcz20_2 : wc.cell? ⟨gb197, 2, none⟩ = some (.int .i64 0) := (blk_cell BK197.out 2).trans rfl; have hcz20_3 : wc.cell? ⟨gb197, 3, none⟩ = some (.int .i64 0) := (blk_cell BK197.out 3).trans rfl; have hfz20_0 := blk_frozen BK197.out 0; have hfz20_1 := blk_frozen BK197.out 1; have hfz20_2 := blk_frozen BK197.out 2; have hfz20_3 := blk_frozen BK197.out 3))
     refine bodyPost_ret (results_ct rfl _ _ gb197 67 #[.bool false, .string (⟨#[]⟩ : ByteArray), .int .i64 0, .int .i64 0] (0, 0) _ rfl (by (with_reducible repeat (first | refine blk_drewN ?_ _ | refine blk_drew ?_ | refine blk_alloc ?_ _)); refine blk_put (cs := #[.bool false, .string (⟨#[]⟩ : ByteArray), .int .i64 0, .int .i64 0]) ?_ 3 _ rfl; (with_reducible repeat (first | refine blk_drewN ?_ _ | refine blk_drew ?_ | refine blk_alloc ?_ _)); refine blk_put (cs := #[.bool false, .string (⟨#[]⟩ : ByteArray), .int .i64 0, .int .i64 0]) ?_ 2 _ rfl; (with_reducible repeat (first | refine blk_drewN ?_ _ | refine blk_drew ?_ | refine blk_alloc ?_ _)); refine blk_put (cs := #[.bool false, .string (⟨#[]⟩ : ByteArray), .int .i64 0, .int .i64 0]) ?_ 1 _ rfl; (with_reducible repeat (first | refine blk_drewN ?_ _ | refine blk_drew ?_ | refine blk_alloc ?_ _)); refine blk_put (cs := #[.bool false, .string (⟨#[]⟩ : ByteArray), .int .i64 0, .int .i64 0]) ?_ 0 _ rfl; (with_reducible repeat (first | refine blk_drewN ?_ _ | refine blk_drew ?_ | refine blk_alloc ?_ _)); exact BK197.out) Tryd.underlying67 rfl (by kernel_rfl)) rfl ?_
     exact ⟨qng6_, qng30_⟩
    ·
     rw [if_neg c18] at H
     have c18b0 : decide (t204 < 0) = false := decide_eq_false c18
     clear c18
     simp only [Option.some.injEq, Prod.mk.injEq] at H
     obtain ⟨rfl, rfl, rfl, rfl, rfl⟩ := H
     go_wp2_with (first | ((with_reducible refine gate_callee (f := 46) rfl ?_); refine goesL_ (some 26) rfl rfl Tryd.func46 (by kernel_rfl) rfl #[.string a0, .int .i64 t198] rfl qng0_ ?_; (with_reducible refine (millref3_Plain.calls kj2 a0 t198 t202 t203 t204 _ A17.out).mono ?_); rintro e w' ⟨rfl, ⟨nd, rfl⟩⟩; refine ⟨_, rfl, ?_⟩; (try (rw [drewN_self wc]; generalize hq_ : World.drewN wc _ = wc; have n0_ : Aside0 (wc.heap[gb197]? = some (.cells #[.bool false, .string (⟨#[]⟩ : ByteArray), .int .i64 0, .int .i64 0] 67 (0, 0))) := ⟨by rw [← hq_]; exact qng57_⟩; have n1_ : Aside0 (Below w.heap.size w wc) := ⟨by rw [← hq_]; exact qng30_⟩; clear BK197 HB hq_; have BK197 := n0_; have HB := n1_; clear n0_ n1_)); (try (have hcu21_0 : wc.cell? ⟨gb197, 0, none⟩ = some (.bool false) := (blk_cell BK197.out 0).trans rfl; have hfu21_0 := blk_frozen BK197.out 0; have hcu21_1 : wc.cell? ⟨gb197, 1, none⟩ = some (.string (⟨#[]⟩ : ByteArray)) := (blk_cell BK197.out 1).trans rfl; have hfu21_1 := blk_frozen BK197.out 1; have hcu21_2 : wc.cell? ⟨gb197, 2, none⟩ = some (.int .i64 0) := (blk_cell BK197.out 2).trans rfl; have hfu21_2 := blk_frozen BK197.out 2; have hcu21_3 : wc.cell? ⟨gb197, 3, none⟩ = some (.int .i64 0) := (blk_cell BK197.out 3).trans rfl; have hfu21_3 := blk_frozen BK197.out 3)); have hcz22_0 : wc.cell? ⟨gb197, 0, none⟩ = some (.bool false) := (blk_cell BK197.out 0).trans rfl; have hcz22_1 : wc.cell? ⟨gb197, 1, none⟩ = some (.string (⟨#[]⟩ : ByteArray)) := (blk_cell BK197.out 1).trans rfl; have hcz22_2 : wc.cell? ⟨gb197, 2, none⟩ = some (.int .i64 0) := (blk_cell BK197.out 2).trans rfl; have hcz22_3 : wc.cell? ⟨gb197, 3, none⟩ = some (.int .i64 0) := (blk_cell BK197.out 3).trans rfl; have hfz22_0 := blk_frozen BK197.out 0; have hfz22_1 := blk_frozen BK197.out 1; have hfz22_2 := blk_frozen BK197.out 2; have hfz22_3 := blk_frozen BK197.out 3))
     refine bodyPost_ret (results_ct rfl _ _ gb197 67 #[.bool false, .string t202, .int .i64 t203, .int .i64 0] (0, 0) _ rfl (by (with_reducible repeat (first | refine blk_drewN ?_ _ | refine blk_drew ?_ | refine blk_alloc ?_ _)); refine blk_put (cs := #[.bool false, .string t202, .int .i64 t203, .int .i64 0]) ?_ 3 _ rfl; (with_reducible repeat (first | refine blk_drewN ?_ _ | refine blk_drew ?_ | refine blk_alloc ?_ _)); refine blk_put (cs := #[.bool false, .string t202, .int .i64 0, .int .i64 0]) ?_ 2 _ rfl; (with_reducible repeat (first | refine blk_drewN ?_ _ | refine blk_drew ?_ | refine blk_alloc ?_ _)); refine blk_put (cs := #[.bool false, .string (⟨#[]⟩ : ByteArray), .int .i64 0, .int .i64 0]) ?_ 1 _ rfl; (with_reducible repeat (first | refine blk_drewN ?_ _ | refine blk_drew ?_ | refine blk_alloc ?_ _)); refine blk_put (cs := #[.bool false, .string (⟨#[]⟩ : ByteArray), .int .i64 0, .int .i64 0]) ?_ 0 _ rfl; (with_reducible repeat (first | refine blk_drewN ?_ _ | refine blk_drew ?_ | refine blk_alloc ?_ _)); exact BK197.out) Tryd.underlying67 rfl (by kernel_rfl)) rfl ?_
     exact ⟨qng6_, qng30_⟩


/-! ### millref3_Decimal: function 22 -/
def millref3_Decimal.f (k : Nat) (a0 : ByteArray) : Option (Bool × ByteArray × ByteArray × Int) := (millref3_signed.f k a0).bind fun bt206 => (if bt206.2.2.2.2 = 0 then (some (false, (⟨#[]⟩ : ByteArray), (⟨#[]⟩ : ByteArray), 0)) else (if 0 ≤ bt206.2.2.1 then (if bt206.2.2.1 ≤ (bt206.2.1.size : Int) then ((millref3_zeros.f k (bt206.2.1.extract 0 (bt206.2.2.1 : Int).toNat)).bind fun t212 => (if 0 ≤ t212 then (if t212 ≤ ((bt206.2.2.1.toNat : Nat) : Int) then ((millref3_trimmed.f k (bt206.2.1.extract (bt206.2.2.1 : Int).toNat bt206.2.1.size)).bind fun t213 => (if bt206.1 = true then (if (bt206.2.2.1.toNat - t212.toNat) + t213.size ≤ 9223372036854775807 then (some ((!((((bt206.2.1.extract 0 (bt206.2.2.1 : Int).toNat).extract (t212 : Int).toNat bt206.2.2.1.toNat) ++ t213).toList).isEmpty), (bt206.2.1.extract 0 (bt206.2.2.1 : Int).toNat).extract (t212 : Int).toNat bt206.2.2.1.toNat, t213, bt206.2.2.2.2)) else (none)) else (some (false, (bt206.2.1.extract 0 (bt206.2.2.1 : Int).toNat).extract (t212 : Int).toNat bt206.2.2.1.toNat, t213, bt206.2.2.2.2)))) else (none)) else (none))) else (none)) else (none)))
def millref3_Decimal.T5 : Bool × List (List Nat × List Nat) := (true, [([], []), ([], []), ([1], [1]), ([0, 2], [0, 2]), ([], []), ([4], [4]), ([], []), ([6], [6]), ([5, 7], [5, 7]), ([8, 2], [8]), ([], []), ([3, 9, 10], [3, 9, 10]), ([], []), ([12, 11, 9, 0, 1, 2, 3, 4, 5, 6, 7, 8, 9, 10, 11, 12], [11, 12])])
def millref3_Decimal.B5 : List Nat := [0, 0, 2, 7, 0, 16, 0, 64, 240, 502, 0, 2047, 0, 8191]
theorem millref3_Decimal.tab5 : rtab .any (opsOf Tryd.f22 5) = millref3_Decimal.T5 := by kernel_rfl
theorem millref3_Decimal.bits5 : waitsOk millref3_Decimal.T5.2 millref3_Decimal.B5 = true := by kernel_rfl
set_option maxHeartbeats 8000000 in
set_option maxRecDepth 100000 in
theorem millref3_Decimal.calls (k : Nat) (a0 : ByteArray) (r1 : Bool) (r2 : ByteArray) (r3 : ByteArray) (r4 : Int) (w : World) (h : millref3_Decimal.f k a0 = some (r1, r2, r3, r4)) :
  Calls Tryd.prog 22 #[.string a0] w fun e w' => e = .returned (.agg #[.bool r1, .string r2, .string r3, .int .i64 r4]) ∧ Below w.heap.size w w' := by
 have hu25 := Tryd.underlying25
 have hu67 := Tryd.underlying67
 have HB := Aside0.mk (Below.refl w.heap.size w)
 have H : ((millref3_signed.f k a0).bind fun bt206 => (if bt206.2.2.2.2 = 0 then (some (false, (⟨#[]⟩ : ByteArray), (⟨#[]⟩ : ByteArray), 0)) else (if 0 ≤ bt206.2.2.1 then (if bt206.2.2.1 ≤ (bt206.2.1.size : Int) then ((millref3_zeros.f k (bt206.2.1.extract 0 (bt206.2.2.1 : Int).toNat)).bind fun t212 => (if 0 ≤ t212 then (if t212 ≤ ((bt206.2.2.1.toNat : Nat) : Int) then ((millref3_trimmed.f k (bt206.2.1.extract (bt206.2.2.1 : Int).toNat bt206.2.1.size)).bind fun t213 => (if bt206.1 = true then (if (bt206.2.2.1.toNat - t212.toNat) + t213.size ≤ 9223372036854775807 then (some ((!((((bt206.2.1.extract 0 (bt206.2.2.1 : Int).toNat).extract (t212 : Int).toNat bt206.2.2.1.toNat) ++ t213).toList).isEmpty), (bt206.2.1.extract 0 (bt206.2.2.1 : Int).toNat).extract (t212 : Int).toNat bt206.2.2.1.toNat, t213, bt206.2.2.2.2)) else (none)) else (some (false, (bt206.2.1.extract 0 (bt206.2.2.1 : Int).toNat).extract (t212 : Int).toNat bt206.2.2.1.toNat, t213, bt206.2.2.2.2)))) else (none)) else (none))) else (none)) else (none)))) = some (r1, r2, r3, r4) := h
 clear h
 replace H := Option.bind_eq_some_iff.mp H
 obtain ⟨⟨t206, t207, t208, t209, t210⟩, A20, H⟩ := H
 replace H : (if t210 = 0 then (some (false, (⟨#[]⟩ : ByteArray), (⟨#[]⟩ : ByteArray), 0)) else (if 0 ≤ t208 then (if t208 ≤ (t207.size : Int) then ((millref3_zeros.f k (t207.extract 0 (t208 : Int).toNat)).bind fun t212 => (if 0 ≤ t212 then (if t212 ≤ ((t208.toNat : Nat) : Int) then ((millref3_trimmed.f k (t207.extract (t208 : Int).toNat t207.size)).bind fun t213 => (if t206 = true then (if (t208.toNat - t212.toNat) + t213.size ≤ 9223372036854775807 then (some ((!((((t207.extract 0 (t208 : Int).toNat).extract (t212 : Int).toNat t208.toNat) ++ t213).toList).isEmpty), (t207.extract 0 (t208 : Int).toNat).extract (t212 : Int).toNat t208.toNat, t213, t210)) else (none)) else (some (false, (t207.extract 0 (t208 : Int).toNat).extract (t212 : Int).toNat t208.toNat, t213, t210)))) else (none)) else (none))) else (none)) else (none))) = some (r1, r2, r3, r4) := H
 have A2 := Aside0.mk A20
 clear A20
 by_cases c3 : t210 = 0
 ·
  rw [if_pos c3] at H
  have c3b0 : (t210 == 0) = true := beq_iff_eq.mpr c3
  have c3b1 : (t210 != 0) = false := bne_eq_false_iff_eq.mpr c3
  clear c3
  simp only [Option.some.injEq, Prod.mk.injEq] at H
  obtain ⟨rfl, rfl, rfl, rfl⟩ := H
  go_enter Tryd.func22, Tryd.ntmps22
  have tk10 : True := trivial; have tk11 : True := trivial; have tk12 : True := trivial
  go_wp2_with (first | (have ztk10 := tk10; clear tk10 ztk10; (with_reducible refine gate_dst (N := 2) rfl ?_); refine box_event ?hg (N := 2) ?hd (cs := #[.bool false, .string (⟨#[]⟩ : ByteArray), .string (⟨#[]⟩ : ByteArray), .int .i64 0]) (t := 25) ?hr ?_; (case hd => rfl); (case hg => rfl); (case hr => first | (go_simp; done) | (go_simp; rfl)); intro gb205 hg w4 hbox hb; have n0_ := Aside0.mk (below_step qng1_ hb); have n1_ := Aside0.mk (hbox); have n2_ := Aside0.mk ((by rw [hg]; exact (below_size qng1_) : w.heap.size ≤ gb205)); have n3_ := Aside0.mk ((by rw [hg]; exact (below_size qng1_) : w.heap.size ≤ gb205)); clear HB; have HB := n0_; have BK205 := n1_; have GW205 := n2_; have GE205 := n3_; clear n0_ n1_ n2_ n3_; clear hb hbox hg) | (have ztk11 := tk11; clear tk11 ztk11; (with_reducible refine gate_callee (f := 41) rfl ?_); refine goesL_ (some 9) rfl rfl Tryd.func41 (by kernel_rfl) rfl #[.string a0] rfl qng0_ ?_; (with_reducible refine (millref3_signed.calls k a0 t206 t207 t208 t209 t210 _ A2.out).mono ?_); rintro e w5 ⟨rfl, hb⟩; refine ⟨_, rfl, ?_⟩; have n0_ := Aside0.mk (blk_below (g := gb205) (o := .cells #[.bool false, .string (⟨#[]⟩ : ByteArray), .string (⟨#[]⟩ : ByteArray), .int .i64 0] 25 (0, 0)) qng12_ hb); have n1_ := Aside0.mk (below_step qng25_ hb); clear BK205; clear HB; have BK205 := n0_; have HB := n1_; clear n0_ n1_; (try clear hb); (try clear hb2); (try clear hk); (try clear hi)) | (have ztk12 := tk12; clear tk12 ztk12; (with_reducible refine gate_dst (N := 3) rfl ?_); refine box_event ?hg (N := 3) ?hd (cs := #[.bool false, .string (⟨#[]⟩ : ByteArray), .int .i64 0, .int .i64 0]) (t := 67) ?hr ?_; (case hd => rfl); (case hg => rfl); (case hr => first | (go_simp; done) | (go_simp; rfl)); intro gb211 hg w6 hbox hb; have n0_ := Aside0.mk (blk_below (g := gb205) (o := .cells #[.bool false, .string (⟨#[]⟩ : ByteArray), .string (⟨#[]⟩ : ByteArray), .int .i64 0] 25 (0, 0)) qng12_ hb); have n1_ := Aside0.mk (below_step qng25_ hb); have n2_ := Aside0.mk (hbox); have n3_ := Aside0.mk ((by rw [hg]; exact (below_size qng25_) : w.heap.size ≤ gb211)); have n4_ := Aside0.mk ((by rw [hg]; exact (below_size qng25_) : w.heap.size ≤ gb211)); have n5_ := Aside0.mk ((by rw [hg]; exact Nat.ne_of_lt (blk_lt (g := gb205) (o := .cells #[.bool false, .string (⟨#[]⟩ : ByteArray), .string (⟨#[]⟩ : ByteArray), .int .i64 0] 25 (0, 0)) qng12_) : gb205 ≠ gb211)); have n6_ := Aside0.mk ((by rw [hg]; exact Nat.ne_of_gt (blk_lt (g := gb205) (o := .cells #[.bool false, .string (⟨#[]⟩ : ByteArray), .string (⟨#[]⟩ : ByteArray), .int .i64 0] 25 (0, 0)) qng12_) : gb211 ≠ gb205)); clear BK205; clear HB; have BK205 := n0_; have HB := n1_; have BK211 := n2_; have GW211 := n3_; have GE211 := n4_; have NB205_211 := n5_; have NB211_205 := n6_; clear n0_ n1_ n2_ n3_ n4_ n5_ n6_; clear hb hbox hg; have hnb7 := NB211_205.out; have hnc7 := NB205_211.out; have hcz8_0 : w6.cell? ⟨gb211, 0, none⟩ = some (.bool false) := (blk_cell BK211.out 0).trans rfl; have hcz8_1 : w6.cell? ⟨gb211, 1, none⟩ = some (.string (⟨#[]⟩ : ByteArray)) := (blk_cell BK211.out 1).trans rfl; have hcz8_2 : w6.cell? ⟨gb211, 2, none⟩ = some (.int .i64 0) := (blk_cell BK211.out 2).trans rfl; have hcz8_3 : w6.cell? ⟨gb211, 3, none⟩ = some (.int .i64 0) := (blk_cell BK211.out 3).trans rfl; have hfz8_0 := blk_frozen BK211.out 0; have hfz8_1 := blk_frozen BK211.out 1; have hfz8_2 := blk_frozen BK211.out 2; have hfz8_3 := blk_frozen BK211.out 3; have hcz9_0 : w6.cell? ⟨gb205, 0, none⟩ = some (.bool false) := (blk_cell BK205.out 0).trans rfl; have hcz9_1 : w6.cell? ⟨gb205, 1, none⟩ = some (.string (⟨#[]⟩ : ByteArray)) := (blk_cell BK205.out 1).trans rfl; have hcz9_2 : w6.cell? ⟨gb205, 2, none⟩ = some (.string (⟨#[]⟩ : ByteArray)) := (blk_cell BK205.out 2).trans rfl; have hcz9_3 : w6.cell? ⟨gb205, 3, none⟩ = some (.int .i64 0) := (blk_cell BK205.out 3).trans rfl; have hfz9_0 := blk_frozen BK205.out 0; have hfz9_1 := blk_frozen BK205.out 1; have hfz9_2 := blk_frozen BK205.out 2; have hfz9_3 := blk_frozen BK205.out 3))
  refine bodyPost_ret (results_cell_row rfl _ _ gb205 25 #[.bool false, .string (⟨#[]⟩ : ByteArray), .string (⟨#[]⟩ : ByteArray), .int .i64 0] (0, 0) _ rfl (by (with_reducible repeat (first | refine blk_drewN ?_ _ | refine blk_drew ?_ | refine blk_alloc ?_ _)); refine blk_put (cs := #[.bool false, .string (⟨#[]⟩ : ByteArray), .string (⟨#[]⟩ : ByteArray), .int .i64 0]) ?_ 3 _ rfl; (with_reducible repeat (first | refine blk_drewN ?_ _ | refine blk_drew ?_ | refine blk_alloc ?_ _)); refine blk_put (cs := #[.bool false, .string (⟨#[]⟩ : ByteArray), .string (⟨#[]⟩ : ByteArray), .int .i64 0]) ?_ 2 _ rfl; (with_reducible repeat (first | refine blk_drewN ?_ _ | refine blk_drew ?_ | refine blk_alloc ?_ _)); refine blk_put (cs := #[.bool false, .string (⟨#[]⟩ : ByteArray), .string (⟨#[]⟩ : ByteArray), .int .i64 0]) ?_ 1 _ rfl; (with_reducible repeat (first | refine blk_drewN ?_ _ | refine blk_drew ?_ | refine blk_alloc ?_ _)); refine blk_put (cs := #[.bool false, .string (⟨#[]⟩ : ByteArray), .string (⟨#[]⟩ : ByteArray), .int .i64 0]) ?_ 0 _ rfl; (with_reducible repeat (first | refine blk_drewN ?_ _ | refine blk_drew ?_ | refine blk_alloc ?_ _)); refine blk_far ?_ NB205_211.out _; (with_reducible repeat (first | refine blk_drewN ?_ _ | refine blk_drew ?_ | refine blk_alloc ?_ _)); refine blk_far ?_ NB205_211.out _; (with_reducible repeat (first | refine blk_drewN ?_ _ | refine blk_drew ?_ | refine blk_alloc ?_ _)); refine blk_far ?_ NB205_211.out _; (with_reducible repeat (first | refine blk_drewN ?_ _ | refine blk_drew ?_ | refine blk_alloc ?_ _)); refine blk_far ?_ NB205_211.out _; (with_reducible repeat (first | refine blk_drewN ?_ _ | refine blk_drew ?_ | refine blk_alloc ?_ _)); exact BK205.out) Tryd.underlying25 rfl (by kernel_rfl)) rfl ?_
  exact ⟨qng6_, qng13_⟩
 ·
  rw [if_neg c3] at H
  have c3b0 : (t210 == 0) = false := beq_eq_false_iff_ne.mpr c3
  have c3b1 : (t210 != 0) = true := bne_iff_ne.mpr c3
  by_cases c13 : 0 ≤ t208
  ·
   rw [if_pos c13] at H
   have c13b0 := eq_true c13
   have c13b1 : decide (0 ≤ t208) = true := decide_eq_true c13
   clear c13
   by_cases c14 : t208 ≤ (t207.size : Int)
   ·
    rw [if_pos c14] at H
    have c14b0 := eq_true c14
    have c14b1 : decide (t208 ≤ (t207.size : Int)) = true := decide_eq_true c14
    clear c14
    replace H := Option.bind_eq_some_iff.mp H
    obtain ⟨t212, A150, H⟩ := H
    replace H : (if 0 ≤ t212 then (if t212 ≤ ((t208.toNat : Nat) : Int) then ((millref3_trimmed.f k (t207.extract (t208 : Int).toNat t207.size)).bind fun t213 => (if t206 = true then (if (t208.toNat - t212.toNat) + t213.size ≤ 9223372036854775807 then (some ((!((((t207.extract 0 (t208 : Int).toNat).extract (t212 : Int).toNat t208.toNat) ++ t213).toList).isEmpty), (t207.extract 0 (t208 : Int).toNat).extract (t212 : Int).toNat t208.toNat, t213, t210)) else (none)) else (some (false, (t207.extract 0 (t208 : Int).toNat).extract (t212 : Int).toNat t208.toNat, t213, t210)))) else (none)) else (none)) = some (r1, r2, r3, r4) := H
    have A15 := Aside0.mk A150
    clear A150
    by_cases c16 : 0 ≤ t212
    ·
     rw [if_pos c16] at H
     have c16b0 := eq_true c16
     have c16b1 : decide (0 ≤ t212) = true := decide_eq_true c16
     clear c16
     by_cases c17 : t212 ≤ ((t208.toNat : Nat) : Int)
     ·
      rw [if_pos c17] at H
      have c17x := c17
      (try simp [*, -c17, -H] at c17x)
      have c17b0 := eq_true c17
      have c17b1 : decide (t212 ≤ ((t208.toNat : Nat) : Int)) = true := decide_eq_true c17
      clear c17
      have c18b0 := eq_true (of_decide_eq_true qng3_ : 0 ≤ t208)
      have c19b0 := eq_true (of_decide_eq_true qng3_ : t208 ≤ (t207.size : Int))
      replace H := Option.bind_eq_some_iff.mp H
      obtain ⟨t213, A200, H⟩ := H
      replace H : (if t206 = true then (if (t208.toNat - t212.toNat) + t213.size ≤ 9223372036854775807 then (some ((!((((t207.extract 0 (t208 : Int).toNat).extract (t212 : Int).toNat t208.toNat) ++ t213).toList).isEmpty), (t207.extract 0 (t208 : Int).toNat).extract (t212 : Int).toNat t208.toNat, t213, t210)) else (none)) else (some (false, (t207.extract 0 (t208 : Int).toNat).extract (t212 : Int).toNat t208.toNat, t213, t210))) = some (r1, r2, r3, r4) := H
      have A20 := Aside0.mk A200
      clear A200
      by_cases c21 : t206 = true
      ·
       subst c21
       have H1 : (if (t208.toNat - t212.toNat) + t213.size ≤ 9223372036854775807 then (some ((!((((t207.extract 0 (t208 : Int).toNat).extract (t212 : Int).toNat t208.toNat) ++ t213).toList).isEmpty), (t207.extract 0 (t208 : Int).toNat).extract (t212 : Int).toNat t208.toNat, t213, t210)) else (none)) = some (r1, r2, r3, r4) := by rw [if_pos rfl] at H; exact H
       clear H
       have H := H1
       clear H1
       by_cases c22 : (t208.toNat - t212.toNat) + t213.size ≤ 9223372036854775807
       ·
        rw [if_pos c22] at H
        have c22b0 := eq_true c22
        have c22b1 : decide ((t208.toNat - t212.toNat) + t213.size ≤ 9223372036854775807) = true := decide_eq_true c22
        try have c22b2 : (9223372036854775807 < (t208.toNat - t212.toNat) + t213.size) = False := eq_false (Nat.not_lt.2 c22)
        simp only [Option.some.injEq, Prod.mk.injEq] at H
        obtain ⟨rfl, rfl, rfl, rfl⟩ := H
        go_enter Tryd.func22, Tryd.ntmps22
        have tk41 : True := trivial; have tk42 : True := trivial; have tk43 : True := trivial
        try go_wp2_with (first | (have ztk41 := tk41; clear tk41 ztk41; (with_reducible refine gate_dst (N := 2) rfl ?_); refine box_event ?hg (N := 2) ?hd (cs := #[.bool false, .string (⟨#[]⟩ : ByteArray), .string (⟨#[]⟩ : ByteArray), .int .i64 0]) (t := 25) ?hr ?_; (case hd => rfl); (case hg => rfl); (case hr => first | (go_simp; done) | (go_simp; rfl)); intro gb205 hg w23 hbox hb; have n0_ := Aside0.mk (below_step qng1_ hb); have n1_ := Aside0.mk (hbox); have n2_ := Aside0.mk ((by rw [hg]; exact (below_size qng1_) : w.heap.size ≤ gb205)); have n3_ := Aside0.mk ((by rw [hg]; exact (below_size qng1_) : w.heap.size ≤ gb205)); clear HB; have HB := n0_; have BK205 := n1_; have GW205 := n2_; have GE205 := n3_; clear n0_ n1_ n2_ n3_; clear hb hbox hg) | (have ztk42 := tk42; clear tk42 ztk42; (with_reducible refine gate_callee (f := 41) rfl ?_); refine goesL_ (some 9) rfl rfl Tryd.func41 (by kernel_rfl) rfl #[.string a0] rfl qng0_ ?_; (with_reducible refine (millref3_signed.calls k a0 true t207 t208 t209 t210 _ A2.out).mono ?_); rintro e w24 ⟨rfl, hb⟩; refine ⟨_, rfl, ?_⟩; have n0_ := Aside0.mk (blk_below (g := gb205) (o := .cells #[.bool false, .string (⟨#[]⟩ : ByteArray), .string (⟨#[]⟩ : ByteArray), .int .i64 0] 25 (0, 0)) qng12_ hb); have n1_ := Aside0.mk (below_step qng25_ hb); clear BK205; clear HB; have BK205 := n0_; have HB := n1_; clear n0_ n1_; (try clear hb); (try clear hb2); (try clear hk); (try clear hi)) | (have ztk43 := tk43; clear tk43 ztk43; (with_reducible refine gate_dst (N := 3) rfl ?_); refine box_event ?hg (N := 3) ?hd (cs := #[.bool false, .string (⟨#[]⟩ : ByteArray), .int .i64 0, .int .i64 0]) (t := 67) ?hr ?_; (case hd => rfl); (case hg => rfl); (case hr => first | (go_simp; done) | (go_simp; rfl)); intro gb211 hg w25 hbox hb; have n0_ := Aside0.mk (blk_below (g := gb205) (o := .cells #[.bool false, .string (⟨#[]⟩ : ByteArray), .string (⟨#[]⟩ : ByteArray), .int .i64 0] 25 (0, 0)) qng12_ hb); have n1_ := Aside0.mk (below_step qng25_ hb); have n2_ := Aside0.mk (hbox); have n3_ := Aside0.mk ((by rw [hg]; exact (below_size qng25_) : w.heap.size ≤ gb211)); have n4_ := Aside0.mk ((by rw [hg]; exact (below_size qng25_) : w.heap.size ≤ gb211)); have n5_ := Aside0.mk ((by rw [hg]; exact Nat.ne_of_lt (blk_lt (g := gb205) (o := .cells #[.bool false, .string (⟨#[]⟩ : ByteArray), .string (⟨#[]⟩ : ByteArray), .int .i64 0] 25 (0, 0)) qng12_) : gb205 ≠ gb211)); have n6_ := Aside0.mk ((by rw [hg]; exact Nat.ne_of_gt (blk_lt (g := gb205) (o := .cells #[.bool false, .string (⟨#[]⟩ : ByteArray), .string (⟨#[]⟩ : ByteArray), .int .i64 0] 25 (0, 0)) qng12_) : gb211 ≠ gb205)); clear BK205; clear HB; have BK205 := n0_; have HB := n1_; have BK211 := n2_; have GW211 := n3_; have GE211 := n4_; have NB205_211 := n5_; have NB211_205 := n6_; clear n0_ n1_ n2_ n3_ n4_ n5_ n6_; clear hb hbox hg; have hnb26 := NB211_205.out; have hnc26 := NB205_211.out; have hcz27_0 : w25.cell? ⟨gb211, 0, none⟩ = some (.bool false) := (blk_cell BK211.out 0).trans rfl; have hcz27_1 : w25.cell? ⟨gb211, 1, none⟩ = some (.string (⟨#[]⟩ : ByteArray)) := (blk_cell BK211.out 1).trans rfl; have hcz27_2 : w25.cell? ⟨gb211, 2, none⟩ = some (.int .i64 0) := (blk_cell BK211.out 2).trans rfl; have hcz27_3 : w25.cell? ⟨gb211, 3, none⟩ = some (.int .i64 0) := (blk_cell BK211.out 3).trans rfl; have hfz27_0 := blk_frozen BK211.out 0; have hfz27_1 := blk_frozen BK211.out 1; have hfz27_2 := blk_frozen BK211.out 2; have hfz27_3 := blk_frozen BK211.out 3))
        have n0_ : Aside0 (((((w25.setCell ⟨gb211, 0, none⟩ (.bool true)).setCell ⟨gb211, 1, none⟩ (.string t207)).setCell ⟨gb211, 2, none⟩ (.int .i64 t208)).setCell ⟨gb211, 3, none⟩ (.int .i64 t209)).heap[gb205]? = some (.cells #[.bool false, .string (⟨#[]⟩ : ByteArray), .string (⟨#[]⟩ : ByteArray), .int .i64 0] 25 (0, 0))) := ⟨by (with_reducible repeat (first | refine blk_drewN ?_ _ | refine blk_drew ?_ | refine blk_alloc ?_ _)); refine blk_far ?_ NB205_211.out _; (with_reducible repeat (first | refine blk_drewN ?_ _ | refine blk_drew ?_ | refine blk_alloc ?_ _)); refine blk_far ?_ NB205_211.out _; (with_reducible repeat (first | refine blk_drewN ?_ _ | refine blk_drew ?_ | refine blk_alloc ?_ _)); refine blk_far ?_ NB205_211.out _; (with_reducible repeat (first | refine blk_drewN ?_ _ | refine blk_drew ?_ | refine blk_alloc ?_ _)); refine blk_far ?_ NB205_211.out _; (with_reducible repeat (first | refine blk_drewN ?_ _ | refine blk_drew ?_ | refine blk_alloc ?_ _)); exact BK205.out⟩
        have n1_ : Aside0 (((((w25.setCell ⟨gb211, 0, none⟩ (.bool true)).setCell ⟨gb211, 1, none⟩ (.string t207)).setCell ⟨gb211, 2, none⟩ (.int .i64 t208)).setCell ⟨gb211, 3, none⟩ (.int .i64 t209)).heap[gb211]? = some (.cells #[.bool true, .string t207, .int .i64 t208, .int .i64 t209] 67 (0, 0))) := ⟨by (with_reducible repeat (first | refine blk_drewN ?_ _ | refine blk_drew ?_ | refine blk_alloc ?_ _)); refine blk_put (cs := #[.bool true, .string t207, .int .i64 t208, .int .i64 0]) ?_ 3 _ rfl; (with_reducible repeat (first | refine blk_drewN ?_ _ | refine blk_drew ?_ | refine blk_alloc ?_ _)); refine blk_put (cs := #[.bool true, .string t207, .int .i64 0, .int .i64 0]) ?_ 2 _ rfl; (with_reducible repeat (first | refine blk_drewN ?_ _ | refine blk_drew ?_ | refine blk_alloc ?_ _)); refine blk_put (cs := #[.bool true, .string (⟨#[]⟩ : ByteArray), .int .i64 0, .int .i64 0]) ?_ 1 _ rfl; (with_reducible repeat (first | refine blk_drewN ?_ _ | refine blk_drew ?_ | refine blk_alloc ?_ _)); refine blk_put (cs := #[.bool false, .string (⟨#[]⟩ : ByteArray), .int .i64 0, .int .i64 0]) ?_ 0 _ rfl; (with_reducible repeat (first | refine blk_drewN ?_ _ | refine blk_drew ?_ | refine blk_alloc ?_ _)); exact BK211.out⟩
        have n2_ : Aside0 (Below w.heap.size w ((((w25.setCell ⟨gb211, 0, none⟩ (.bool true)).setCell ⟨gb211, 1, none⟩ (.string t207)).setCell ⟨gb211, 2, none⟩ (.int .i64 t208)).setCell ⟨gb211, 3, none⟩ (.int .i64 t209))) := ⟨qng13_⟩
        (try clear BK205); (try clear BK211); (try clear HB)
        generalize ((((w25.setCell ⟨gb211, 0, none⟩ (.bool true)).setCell ⟨gb211, 1, none⟩ (.string t207)).setCell ⟨gb211, 2, none⟩ (.int .i64 t208)).setCell ⟨gb211, 3, none⟩ (.int .i64 t209)) = w28 at n0_ n1_ n2_ ⊢
        have BK205 := n0_
        have BK211 := n1_
        have HB := n2_
        clear n0_ n1_ n2_
        have n0_ := Aside0.mk (blk_drew BK205.out)
        have n1_ := Aside0.mk (blk_drew BK211.out)
        have n2_ := Aside0.mk (below_drew1 HB.out)
        clear BK205
        clear BK211
        clear HB
        have BK205 := n0_
        have BK211 := n1_
        have HB := n2_
        clear n0_ n1_ n2_
        refine start_ (n := 14) (S := fun w' => w'.cell? ⟨gb211, 0, none⟩ = some (.bool true) ∧ w'.cell? ⟨gb211, 1, none⟩ = some (.string t207) ∧ w'.cell? ⟨gb211, 2, none⟩ = some (.int .i64 t208) ∧ w'.cell? ⟨gb211, 3, none⟩ = some (.int .i64 t209)) (ds := []) #[false, false, false, false, false, false, false, false, false, false, false, false, false, false] (by kernel_rfl) rfl rfl ⟨(blk_cell BK211.out 0).trans rfl, (blk_cell BK211.out 1).trans rfl, (blk_cell BK211.out 2).trans rfl, (blk_cell BK211.out 3).trans rfl⟩ (fun hHeld => ?_); refine with_tabW millref3_Decimal.tab5 millref3_Decimal.bits5 (fun HT_ HW_ => ?_)
        generalize w28.drew = w29 at BK205 BK211 HB hHeld ⊢
        refine pure_ (i := 0) (N := some 20) (v := ?_) (a' := ?_) #[true, false, false, false, false, false, false, false, false, false, false, false, false, false] rfl rfl (any_of HT_.out (by kernel_rfl)) (fun _ _ _ h => h) (Or.inl ⟨by rfl, ?_⟩) ?_ ?_
        rotate_left
        ·
         intro w'
         go_simp
         with_reducible rfl
        rotate_left
        ·
         simp only [Act.put, List.setIfInBounds_toArray, List.set_cons_zero, List.set_cons_succ, i64_w, i32_w]
         rfl
        refine pure_ (i := 1) (N := some 21) (v := ?_) (a' := ?_) #[true, true, false, false, false, false, false, false, false, false, false, false, false, false] rfl rfl (any_of HT_.out (by kernel_rfl)) (fun _ _ _ h => h) (Or.inl ⟨by rfl, ?_⟩) ?_ ?_
        rotate_left
        ·
         intro w'
         go_simp
         with_reducible rfl
        rotate_left
        ·
         simp only [Act.put, List.setIfInBounds_toArray, List.set_cons_zero, List.set_cons_succ, i64_w, i32_w]
         rfl
        refine pure_ (i := 4) (N := some 24) (v := ?_) (a' := ?_) #[true, true, false, false, true, false, false, false, false, false, false, false, false, false] rfl rfl (any_of HT_.out (by kernel_rfl)) (fun _ _ _ h => h) (Or.inl ⟨by rfl, ?_⟩) ?_ ?_
        rotate_left
        ·
         intro w'
         go_simp
         with_reducible rfl
        rotate_left
        ·
         simp only [Act.put, List.setIfInBounds_toArray, List.set_cons_zero, List.set_cons_succ, i64_w, i32_w]
         rfl
        refine pure_ (i := 6) (N := some 26) (v := ?_) (a' := ?_) #[true, true, false, false, true, false, true, false, false, false, false, false, false, false] rfl rfl (any_of HT_.out (by kernel_rfl)) (fun _ _ _ h => h) (Or.inl ⟨by rfl, ?_⟩) ?_ ?_
        rotate_left
        ·
         intro w'
         go_simp
         with_reducible rfl
        rotate_left
        ·
         simp only [Act.put, List.setIfInBounds_toArray, List.set_cons_zero, List.set_cons_succ, i64_w, i32_w]
         rfl
        refine pure_ (i := 10) (N := some 30) (v := ?_) (a' := ?_) #[true, true, false, false, true, false, true, false, false, false, true, false, false, false] rfl rfl (any_of HT_.out (by kernel_rfl)) (fun _ _ _ h => h) (Or.inl ⟨by rfl, ?_⟩) ?_ ?_
        rotate_left
        ·
         intro w'
         go_simp
         with_reducible rfl
        rotate_left
        ·
         simp only [Act.put, List.setIfInBounds_toArray, List.set_cons_zero, List.set_cons_succ, i64_w, i32_w]
         rfl
        refine take_ (i := 5) (N := some 25) (v := ?_) (a' := ?_) #[true, true, false, false, true, true, true, false, false, false, true, false, false, false] rfl rfl (take_ofW HT_.out HW_.out (by kernel_rfl)) (fun _ _ _ h => h) (Or.inl ⟨by rfl, ?_⟩) hHeld ?_ ?_
        rotate_left
        ·
         rintro w' ⟨s0, s1, s2, s3⟩
         go_simp
         with_reducible rfl
        rotate_left
        ·
         simp only [Act.put, List.setIfInBounds_toArray, List.set_cons_zero, List.set_cons_succ, i64_w, i32_w]
         rfl
        refine take_ (i := 7) (N := some 27) (v := ?_) (a' := ?_) #[true, true, false, false, true, true, true, true, false, false, true, false, false, false] rfl rfl (take_ofW HT_.out HW_.out (by kernel_rfl)) (fun _ _ _ h => h) (Or.inl ⟨by rfl, ?_⟩) hHeld ?_ ?_
        rotate_left
        ·
         rintro w' ⟨s0, s1, s2, s3⟩
         go_simp
         with_reducible rfl
        rotate_left
        ·
         simp only [Act.put, List.setIfInBounds_toArray, List.set_cons_zero, List.set_cons_succ, i64_w, i32_w]
         rfl
        refine pure_ (i := 8) (N := some 28) (v := ?_) (a' := ?_) #[true, true, false, false, true, true, true, true, true, false, true, false, false, false] rfl rfl (any_of HT_.out (by kernel_rfl)) (fun _ _ _ h => h) (Or.inl ⟨by rfl, ?_⟩) ?_ ?_
        rotate_left
        ·
         intro w'
         go_simp
         with_reducible rfl
        rotate_left
        ·
         simp only [Act.put, List.setIfInBounds_toArray, List.set_cons_zero, List.set_cons_succ, i64_w, i32_w]
         rfl
        refine join_ (σ := Nat) 1 #[true, true, true, true, true, true, true, true, true, true, true, true, true, false] (fun s_ => [(22, .int .i64 t212), (29, .string t213), (6, .pointer (some ⟨s_, 0, none⟩)), (23, .string ((t207.extract 0 (t208 : Int).toNat).extract (t212 : Int).toNat t208.toNat)), (31, .agg #[.bool false, .string ((t207.extract 0 (t208 : Int).toNat).extract (t212 : Int).toNat t208.toNat), .string t213, .int .i64 t210])]) (fun s_ w' => (w'.cell? ⟨gb211, 0, none⟩ = some (.bool true) ∧ w'.cell? ⟨gb211, 1, none⟩ = some (.string t207) ∧ w'.cell? ⟨gb211, 2, none⟩ = some (.int .i64 t208) ∧ w'.cell? ⟨gb211, 3, none⟩ = some (.int .i64 t209)) ∧ (w'.heap[gb205]? = some (.cells #[.bool false, .string (⟨#[]⟩ : ByteArray), .string (⟨#[]⟩ : ByteArray), .int .i64 0] 25 (0, 0))) ∧ (w'.heap[gb211]? = some (.cells #[.bool true, .string t207, .int .i64 t208, .int .i64 t209] 67 (0, 0))) ∧ (w'.heap[s_]? = some (.cells #[.bool false, .string (⟨#[]⟩ : ByteArray), .string (⟨#[]⟩ : ByteArray), .int .i64 0] 25 (0, 0))) ∧ (w.heap.size ≤ s_) ∧ (w.heap.size ≤ s_) ∧ (gb205 ≠ s_) ∧ (s_ ≠ gb205) ∧ (gb211 ≠ s_) ∧ (s_ ≠ gb211) ∧ (Below w.heap.size w w')) ?_ ?_
        rotate_left
        ·
         intro hCont
         refine two_ (i := 2) (j := 12) (Ni := some 22) (Nj := some 6) #[true, true, true, false, true, true, true, true, true, false, true, false, false, false] #[true, true, false, false, true, true, true, true, true, false, true, false, true, false] rfl rfl rfl rfl (two_of HT_.out (by kernel_rfl)) (by decide) (by decide) (fun K hK => ?_) (fun K hK => ?_)
         ·
          skip
          refine goes_ Tryd.func42 (by kernel_rfl) rfl #[.string (t207.extract 0 (t208 : Int).toNat)] (by rfl) rfl rfl qng0_ ?_
          with_reducible refine (millref3_zeros.calls k (t207.extract 0 (t208 : Int).toNat) t212 _ A15.out).mono ?_
          rintro e w' ⟨rfl, ⟨nd, rfl⟩⟩
          refine ⟨_, rfl, ?_⟩
          refine hK.out _ _ ⟨(blk_cell BK211.out 0).trans rfl, (blk_cell BK211.out 1).trans rfl, (blk_cell BK211.out 2).trans rfl, (blk_cell BK211.out 3).trans rfl⟩ (fun hHeld => ?_)
          clear hK K
          refine norm_ (a' := ?_) ?_ ?_
          rotate_left
          ·
           show Act.put _ (some 22) _ = _
           simp only [Act.put, List.setIfInBounds_toArray, List.set_cons_zero, List.set_cons_succ, i64_w, i32_w]
           rfl
          refine pure_ (i := 3) (N := some 23) (v := ?_) (a' := ?_) #[true, true, true, true, true, true, true, true, true, false, true, false, false, false] rfl rfl (any_of HT_.out (by kernel_rfl)) (fun _ _ _ h => h) (Or.inl ⟨by rfl, ?_⟩) ?_ ?_
          rotate_left
          ·
           intro w'
           go_simp
           with_reducible rfl
          rotate_left
          ·
           simp only [Act.put, List.setIfInBounds_toArray, List.set_cons_zero, List.set_cons_succ, i64_w, i32_w]
           rfl
          refine two_ (i := 9) (j := 12) (Ni := some 29) (Nj := some 6) #[true, true, true, true, true, true, true, true, true, true, true, false, false, false] #[true, true, true, true, true, true, true, true, true, false, true, false, true, false] rfl rfl rfl rfl (two_of HT_.out (by kernel_rfl)) (by decide) (by decide) (fun K hK => ?_) (fun K hK => ?_)
          ·
           skip
           refine goes_ Tryd.func43 (by kernel_rfl) rfl #[.string (t207.extract (t208 : Int).toNat t207.size)] (by rfl) rfl rfl qng0_ ?_
           with_reducible refine (millref3_trimmed.calls k (t207.extract (t208 : Int).toNat t207.size) t213 _ A20.out).mono ?_
           rintro e w' ⟨rfl, ⟨nd, rfl⟩⟩
           refine ⟨_, rfl, ?_⟩
           refine hK.out _ _ ⟨(blk_cell BK211.out 0).trans rfl, (blk_cell BK211.out 1).trans rfl, (blk_cell BK211.out 2).trans rfl, (blk_cell BK211.out 3).trans rfl⟩ (fun hHeld => ?_)
           clear hK K
           refine norm_ (a' := ?_) ?_ ?_
           rotate_left
           ·
            show Act.put _ (some 29) _ = _
            simp only [Act.put, List.setIfInBounds_toArray, List.set_cons_zero, List.set_cons_succ, i64_w, i32_w]
            rfl
           refine pure_ (i := 11) (N := some 31) (v := ?_) (a' := ?_) #[true, true, true, true, true, true, true, true, true, true, true, true, false, false] rfl rfl (any_of HT_.out (by kernel_rfl)) (fun _ _ _ h => h) (Or.inl ⟨by rfl, ?_⟩) ?_ ?_
           rotate_left
           ·
            intro w'
            go_simp
            with_reducible rfl
           rotate_left
           ·
            simp only [Act.put, List.setIfInBounds_toArray, List.set_cons_zero, List.set_cons_succ, i64_w, i32_w]
            rfl
           refine one_ (i := 12) (N := some 6) #[true, true, true, true, true, true, true, true, true, true, true, true, true, false] rfl rfl (one_of HT_.out (by kernel_rfl)) (by decide) (fun K hK => ?_)
           refine box_step ?hg (N := 6) ?hd (cs := #[.bool false, .string (⟨#[]⟩ : ByteArray), .string (⟨#[]⟩ : ByteArray), .int .i64 0]) (t := 25) ?hr ?_; (case hd => rfl); (case hg => rfl); (case hr => first | (go_simp; done) | (go_simp; rfl))
           intro gb214 hg w30 hbox hb
           have n0_ := Aside0.mk (blk_below (g := gb205) (o := .cells #[.bool false, .string (⟨#[]⟩ : ByteArray), .string (⟨#[]⟩ : ByteArray), .int .i64 0] 25 (0, 0)) qng12_ hb)
           have n1_ := Aside0.mk (blk_below (g := gb211) (o := .cells #[.bool true, .string t207, .int .i64 t208, .int .i64 t209] 67 (0, 0)) qng18_ hb)
           have n2_ := Aside0.mk (below_step qng13_ hb)
           have n3_ := Aside0.mk (hbox)
           have n4_ := Aside0.mk ((by rw [hg]; exact (below_size qng13_) : w.heap.size ≤ gb214))
           have n5_ := Aside0.mk ((by rw [hg]; exact (below_size qng13_) : w.heap.size ≤ gb214))
           have n6_ := Aside0.mk ((by rw [hg]; exact Nat.ne_of_lt (blk_lt (g := gb205) (o := .cells #[.bool false, .string (⟨#[]⟩ : ByteArray), .string (⟨#[]⟩ : ByteArray), .int .i64 0] 25 (0, 0)) qng12_) : gb205 ≠ gb214))
           have n7_ := Aside0.mk ((by rw [hg]; exact Nat.ne_of_gt (blk_lt (g := gb205) (o := .cells #[.bool false, .string (⟨#[]⟩ : ByteArray), .string (⟨#[]⟩ : ByteArray), .int .i64 0] 25 (0, 0)) qng12_) : gb214 ≠ gb205))
           have n8_ := Aside0.mk ((by rw [hg]; exact Nat.ne_of_lt (blk_lt (g := gb211) (o := .cells #[.bool true, .string t207, .int .i64 t208, .int .i64 t209] 67 (0, 0)) qng18_) : gb211 ≠ gb214))
           have n9_ := Aside0.mk ((by rw [hg]; exact Nat.ne_of_gt (blk_lt (g := gb211) (o := .cells #[.bool true, .string t207, .int .i64 t208, .int .i64 t209] 67 (0, 0)) qng18_) : gb214 ≠ gb211))
           clear BK205
           clear BK211
           clear HB
           have BK205 := n0_
           have BK211 := n1_
           have HB := n2_
           have BK214 := n3_
           have GW214 := n4_
           have GE214 := n5_
           have NB205_214 := n6_
           have NB214_205 := n7_
           have NB211_214 := n8_
           have NB214_211 := n9_
           clear n0_ n1_ n2_ n3_ n4_ n5_ n6_ n7_ n8_ n9_
           clear hb hbox hg
           refine hK.out _ _ ⟨(blk_cell BK211.out 0).trans rfl, (blk_cell BK211.out 1).trans rfl, (blk_cell BK211.out 2).trans rfl, (blk_cell BK211.out 3).trans rfl⟩ (fun hHeld => ?_)
           clear hK K
           refine norm_ (a' := ?_) ?_ ?_
           rotate_left
           ·
            show Act.put _ (some 6) _ = _
            simp only [Act.put, List.setIfInBounds_toArray, List.set_cons_zero, List.set_cons_succ, i64_w, i32_w]
            rfl
           exact norm_ qng32_ (hCont (gb214) _ ⟨hHeld, qng12_, qng18_, qng56_, GW214.out, GE214.out, NB205_214.out, NB214_205.out, NB211_214.out, NB214_211.out, qng28_⟩)
          ·
           skip
           refine box_step ?hg (N := 6) ?hd (cs := #[.bool false, .string (⟨#[]⟩ : ByteArray), .string (⟨#[]⟩ : ByteArray), .int .i64 0]) (t := 25) ?hr ?_; (case hd => rfl); (case hg => rfl); (case hr => first | (go_simp; done) | (go_simp; rfl))
           intro gb214 hg w30 hbox hb
           have n0_ := Aside0.mk (blk_below (g := gb205) (o := .cells #[.bool false, .string (⟨#[]⟩ : ByteArray), .string (⟨#[]⟩ : ByteArray), .int .i64 0] 25 (0, 0)) qng12_ hb)
           have n1_ := Aside0.mk (blk_below (g := gb211) (o := .cells #[.bool true, .string t207, .int .i64 t208, .int .i64 t209] 67 (0, 0)) qng18_ hb)
           have n2_ := Aside0.mk (below_step qng13_ hb)
           have n3_ := Aside0.mk (hbox)
           have n4_ := Aside0.mk ((by rw [hg]; exact (below_size qng13_) : w.heap.size ≤ gb214))
           have n5_ := Aside0.mk ((by rw [hg]; exact (below_size qng13_) : w.heap.size ≤ gb214))
           have n6_ := Aside0.mk ((by rw [hg]; exact Nat.ne_of_lt (blk_lt (g := gb205) (o := .cells #[.bool false, .string (⟨#[]⟩ : ByteArray), .string (⟨#[]⟩ : ByteArray), .int .i64 0] 25 (0, 0)) qng12_) : gb205 ≠ gb214))
           have n7_ := Aside0.mk ((by rw [hg]; exact Nat.ne_of_gt (blk_lt (g := gb205) (o := .cells #[.bool false, .string (⟨#[]⟩ : ByteArray), .string (⟨#[]⟩ : ByteArray), .int .i64 0] 25 (0, 0)) qng12_) : gb214 ≠ gb205))
           have n8_ := Aside0.mk ((by rw [hg]; exact Nat.ne_of_lt (blk_lt (g := gb211) (o := .cells #[.bool true, .string t207, .int .i64 t208, .int .i64 t209] 67 (0, 0)) qng18_) : gb211 ≠ gb214))
           have n9_ := Aside0.mk ((by rw [hg]; exact Nat.ne_of_gt (blk_lt (g := gb211) (o := .cells #[.bool true, .string t207, .int .i64 t208, .int .i64 t209] 67 (0, 0)) qng18_) : gb214 ≠ gb211))
           clear BK205
           clear BK211
           clear HB
           have BK205 := n0_
           have BK211 := n1_
           have HB := n2_
           have BK214 := n3_
           have GW214 := n4_
           have GE214 := n5_
           have NB205_214 := n6_
           have NB214_205 := n7_
           have NB211_214 := n8_
           have NB214_211 := n9_
           clear n0_ n1_ n2_ n3_ n4_ n5_ n6_ n7_ n8_ n9_
           clear hb hbox hg
           refine hK.out _ _ ⟨(blk_cell BK211.out 0).trans rfl, (blk_cell BK211.out 1).trans rfl, (blk_cell BK211.out 2).trans rfl, (blk_cell BK211.out 3).trans rfl⟩ (fun hHeld => ?_)
           clear hK K
           refine norm_ (a' := ?_) ?_ ?_
           rotate_left
           ·
            show Act.put _ (some 6) _ = _
            simp only [Act.put, List.setIfInBounds_toArray, List.set_cons_zero, List.set_cons_succ, i64_w, i32_w]
            rfl
           refine one_ (i := 9) (N := some 29) #[true, true, true, true, true, true, true, true, true, true, true, false, true, false] rfl rfl (one_of HT_.out (by kernel_rfl)) (by decide) (fun K hK => ?_)
           refine goes_ Tryd.func43 (by kernel_rfl) rfl #[.string (t207.extract (t208 : Int).toNat t207.size)] (by rfl) rfl rfl qng0_ ?_
           with_reducible refine (millref3_trimmed.calls k (t207.extract (t208 : Int).toNat t207.size) t213 _ A20.out).mono ?_
           rintro e w' ⟨rfl, ⟨nd, rfl⟩⟩
           refine ⟨_, rfl, ?_⟩
           refine hK.out _ _ ⟨(blk_cell BK211.out 0).trans rfl, (blk_cell BK211.out 1).trans rfl, (blk_cell BK211.out 2).trans rfl, (blk_cell BK211.out 3).trans rfl⟩ (fun hHeld => ?_)
           clear hK K
           refine norm_ (a' := ?_) ?_ ?_
           rotate_left
           ·
            show Act.put _ (some 29) _ = _
            simp only [Act.put, List.setIfInBounds_toArray, List.set_cons_zero, List.set_cons_succ, i64_w, i32_w]
            rfl
           refine pure_ (i := 11) (N := some 31) (v := ?_) (a' := ?_) #[true, true, true, true, true, true, true, true, true, true, true, true, true, false] rfl rfl (any_of HT_.out (by kernel_rfl)) (fun _ _ _ h => h) (Or.inl ⟨by rfl, ?_⟩) ?_ ?_
           rotate_left
           ·
            intro w'
            go_simp
            with_reducible rfl
           rotate_left
           ·
            simp only [Act.put, List.setIfInBounds_toArray, List.set_cons_zero, List.set_cons_succ, i64_w, i32_w]
            rfl
           exact norm_ qng32_ (hCont (gb214) _ ⟨hHeld, qng12_, qng18_, qng56_, GW214.out, GE214.out, NB205_214.out, NB214_205.out, NB211_214.out, NB214_211.out, qng28_⟩)
         ·
          skip
          refine box_step ?hg (N := 6) ?hd (cs := #[.bool false, .string (⟨#[]⟩ : ByteArray), .string (⟨#[]⟩ : ByteArray), .int .i64 0]) (t := 25) ?hr ?_; (case hd => rfl); (case hg => rfl); (case hr => first | (go_simp; done) | (go_simp; rfl))
          intro gb214 hg w30 hbox hb
          have n0_ := Aside0.mk (blk_below (g := gb205) (o := .cells #[.bool false, .string (⟨#[]⟩ : ByteArray), .string (⟨#[]⟩ : ByteArray), .int .i64 0] 25 (0, 0)) qng12_ hb)
          have n1_ := Aside0.mk (blk_below (g := gb211) (o := .cells #[.bool true, .string t207, .int .i64 t208, .int .i64 t209] 67 (0, 0)) qng18_ hb)
          have n2_ := Aside0.mk (below_step qng13_ hb)
          have n3_ := Aside0.mk (hbox)
          have n4_ := Aside0.mk ((by rw [hg]; exact (below_size qng13_) : w.heap.size ≤ gb214))
          have n5_ := Aside0.mk ((by rw [hg]; exact (below_size qng13_) : w.heap.size ≤ gb214))
          have n6_ := Aside0.mk ((by rw [hg]; exact Nat.ne_of_lt (blk_lt (g := gb205) (o := .cells #[.bool false, .string (⟨#[]⟩ : ByteArray), .string (⟨#[]⟩ : ByteArray), .int .i64 0] 25 (0, 0)) qng12_) : gb205 ≠ gb214))
          have n7_ := Aside0.mk ((by rw [hg]; exact Nat.ne_of_gt (blk_lt (g := gb205) (o := .cells #[.bool false, .string (⟨#[]⟩ : ByteArray), .string (⟨#[]⟩ : ByteArray), .int .i64 0] 25 (0, 0)) qng12_) : gb214 ≠ gb205))
          have n8_ := Aside0.mk ((by rw [hg]; exact Nat.ne_of_lt (blk_lt (g := gb211) (o := .cells #[.bool true, .string t207, .int .i64 t208, .int .i64 t209] 67 (0, 0)) qng18_) : gb211 ≠ gb214))
          have n9_ := Aside0.mk ((by rw [hg]; exact Nat.ne_of_gt (blk_lt (g := gb211) (o := .cells #[.bool true, .string t207, .int .i64 t208, .int .i64 t209] 67 (0, 0)) qng18_) : gb214 ≠ gb211))
          clear BK205
          clear BK211
          clear HB
          have BK205 := n0_
          have BK211 := n1_
          have HB := n2_
          have BK214 := n3_
          have GW214 := n4_
          have GE214 := n5_
          have NB205_214 := n6_
          have NB214_205 := n7_
          have NB211_214 := n8_
          have NB214_211 := n9_
          clear n0_ n1_ n2_ n3_ n4_ n5_ n6_ n7_ n8_ n9_
          clear hb hbox hg
          refine hK.out _ _ ⟨(blk_cell BK211.out 0).trans rfl, (blk_cell BK211.out 1).trans rfl, (blk_cell BK211.out 2).trans rfl, (blk_cell BK211.out 3).trans rfl⟩ (fun hHeld => ?_)
          clear hK K
          refine norm_ (a' := ?_) ?_ ?_
          rotate_left
          ·
           show Act.put _ (some 6) _ = _
           simp only [Act.put, List.setIfInBounds_toArray, List.set_cons_zero, List.set_cons_succ, i64_w, i32_w]
           rfl
          refine one_ (i := 2) (N := some 22) #[true, true, true, false, true, true, true, true, true, false, true, false, true, false] rfl rfl (one_of HT_.out (by kernel_rfl)) (by decide) (fun K hK => ?_)
          refine goes_ Tryd.func42 (by kernel_rfl) rfl #[.string (t207.extract 0 (t208 : Int).toNat)] (by rfl) rfl rfl qng0_ ?_
          with_reducible refine (millref3_zeros.calls k (t207.extract 0 (t208 : Int).toNat) t212 _ A15.out).mono ?_
          rintro e w' ⟨rfl, ⟨nd, rfl⟩⟩
          refine ⟨_, rfl, ?_⟩
          refine hK.out _ _ ⟨(blk_cell BK211.out 0).trans rfl, (blk_cell BK211.out 1).trans rfl, (blk_cell BK211.out 2).trans rfl, (blk_cell BK211.out 3).trans rfl⟩ (fun hHeld => ?_)
          clear hK K
          refine norm_ (a' := ?_) ?_ ?_
          rotate_left
          ·
           show Act.put _ (some 22) _ = _
           simp only [Act.put, List.setIfInBounds_toArray, List.set_cons_zero, List.set_cons_succ, i64_w, i32_w]
           rfl
          refine pure_ (i := 3) (N := some 23) (v := ?_) (a' := ?_) #[true, true, true, true, true, true, true, true, true, false, true, false, true, false] rfl rfl (any_of HT_.out (by kernel_rfl)) (fun _ _ _ h => h) (Or.inl ⟨by rfl, ?_⟩) ?_ ?_
          rotate_left
          ·
           intro w'
           go_simp
           with_reducible rfl
          rotate_left
          ·
           simp only [Act.put, List.setIfInBounds_toArray, List.set_cons_zero, List.set_cons_succ, i64_w, i32_w]
           rfl
          refine one_ (i := 9) (N := some 29) #[true, true, true, true, true, true, true, true, true, true, true, false, true, false] rfl rfl (one_of HT_.out (by kernel_rfl)) (by decide) (fun K hK => ?_)
          refine goes_ Tryd.func43 (by kernel_rfl) rfl #[.string (t207.extract (t208 : Int).toNat t207.size)] (by rfl) rfl rfl qng0_ ?_
          with_reducible refine (millref3_trimmed.calls k (t207.extract (t208 : Int).toNat t207.size) t213 _ A20.out).mono ?_
          rintro e w' ⟨rfl, ⟨nd, rfl⟩⟩
          refine ⟨_, rfl, ?_⟩
          refine hK.out _ _ ⟨(blk_cell BK211.out 0).trans rfl, (blk_cell BK211.out 1).trans rfl, (blk_cell BK211.out 2).trans rfl, (blk_cell BK211.out 3).trans rfl⟩ (fun hHeld => ?_)
          clear hK K
          refine norm_ (a' := ?_) ?_ ?_
          rotate_left
          ·
           show Act.put _ (some 29) _ = _
           simp only [Act.put, List.setIfInBounds_toArray, List.set_cons_zero, List.set_cons_succ, i64_w, i32_w]
           rfl
          refine pure_ (i := 11) (N := some 31) (v := ?_) (a' := ?_) #[true, true, true, true, true, true, true, true, true, true, true, true, true, false] rfl rfl (any_of HT_.out (by kernel_rfl)) (fun _ _ _ h => h) (Or.inl ⟨by rfl, ?_⟩) ?_ ?_
          rotate_left
          ·
           intro w'
           go_simp
           with_reducible rfl
          rotate_left
          ·
           simp only [Act.put, List.setIfInBounds_toArray, List.set_cons_zero, List.set_cons_succ, i64_w, i32_w]
           rfl
          exact norm_ qng32_ (hCont (gb214) _ ⟨hHeld, qng12_, qng18_, qng56_, GW214.out, GE214.out, NB205_214.out, NB214_205.out, NB211_214.out, NB214_211.out, qng28_⟩)
        rintro gb214 w31 ⟨hS_, h0_, h1_, h2_, h3_, h4_, h5_, h6_, h7_, h8_, h9_⟩
        have n0_ : Aside0 (w31.heap[gb205]? = some (.cells #[.bool false, .string (⟨#[]⟩ : ByteArray), .string (⟨#[]⟩ : ByteArray), .int .i64 0] 25 (0, 0))) := ⟨h0_⟩
        have n1_ : Aside0 (w31.heap[gb211]? = some (.cells #[.bool true, .string t207, .int .i64 t208, .int .i64 t209] 67 (0, 0))) := ⟨h1_⟩
        have n2_ : Aside0 (w31.heap[gb214]? = some (.cells #[.bool false, .string (⟨#[]⟩ : ByteArray), .string (⟨#[]⟩ : ByteArray), .int .i64 0] 25 (0, 0))) := ⟨h2_⟩
        have n3_ : Aside0 (w.heap.size ≤ gb214) := ⟨h3_⟩
        have n4_ : Aside0 (w.heap.size ≤ gb214) := ⟨h4_⟩
        have n5_ : Aside0 (gb205 ≠ gb214) := ⟨h5_⟩
        have n6_ : Aside0 (gb214 ≠ gb205) := ⟨h6_⟩
        have n7_ : Aside0 (gb211 ≠ gb214) := ⟨h7_⟩
        have n8_ : Aside0 (gb214 ≠ gb211) := ⟨h8_⟩
        have n9_ : Aside0 (Below w.heap.size w w31) := ⟨h9_⟩
        clear BK205
        clear BK211
        clear HB
        clear h0_ h1_ h2_ h3_ h4_ h5_ h6_ h7_ h8_ h9_
        have BK205 := n0_
        have BK211 := n1_
        have BK214 := n2_
        have GW214 := n3_
        have GE214 := n4_
        have NB205_214 := n5_
        have NB214_205 := n6_
        have NB211_214 := n7_
        have NB214_211 := n8_
        have HB := n9_
        clear n0_ n1_ n2_ n3_ n4_ n5_ n6_ n7_ n8_ n9_
        have hHeld : w31.cell? ⟨gb211, 0, none⟩ = some (.bool true) ∧ w31.cell? ⟨gb211, 1, none⟩ = some (.string t207) ∧ w31.cell? ⟨gb211, 2, none⟩ = some (.int .i64 t208) ∧ w31.cell? ⟨gb211, 3, none⟩ = some (.int .i64 t209) := hS_
        refine norm_ (a' := ?_) ?_ ?_
        rotate_left
        ·
         simp only [putAll, Act.put, List.setIfInBounds_toArray, List.set_cons_zero, List.set_cons_succ]
         rfl
        refine one_ (i := 13) (N := none) #[true, true, true, true, true, true, true, true, true, true, true, true, true, true] rfl rfl (one_of HT_.out (by kernel_rfl)) (by decide) (fun K hK => ?_)
        have hs32 : w31.cell? ⟨gb214, 0, none⟩ = some (.bool false) := (blk_cell BK214.out 0).trans rfl
        have hfs32 := blk_frozen BK214.out 0
        have hns32_0 := NB205_214.out
        have hns32_1 := NB211_214.out
        have hms32_0 := NB214_205.out
        have hms32_1 := NB214_211.out
        have hs33 : w31.cell? ⟨gb214, 1, none⟩ = some (.string (⟨#[]⟩ : ByteArray)) := (blk_cell BK214.out 1).trans rfl
        have hfs33 := blk_frozen BK214.out 1
        have hns33_0 := NB205_214.out
        have hns33_1 := NB211_214.out
        have hms33_0 := NB214_205.out
        have hms33_1 := NB214_211.out
        have hs34 : w31.cell? ⟨gb214, 2, none⟩ = some (.string (⟨#[]⟩ : ByteArray)) := (blk_cell BK214.out 2).trans rfl
        have hfs34 := blk_frozen BK214.out 2
        have hns34_0 := NB205_214.out
        have hns34_1 := NB211_214.out
        have hms34_0 := NB214_205.out
        have hms34_1 := NB214_211.out
        have hs35 : w31.cell? ⟨gb214, 3, none⟩ = some (.int .i64 0) := (blk_cell BK214.out 3).trans rfl
        have hfs35 := blk_frozen BK214.out 3
        have hns35_0 := NB205_214.out
        have hns35_1 := NB211_214.out
        have hms35_0 := NB214_205.out
        have hms35_1 := NB214_211.out
        refine skip_ (w1 := ?_) (by rfl) rfl ?_ ?_
        rotate_left
        ·
         go_simp
         rfl
        refine hK.out _ _ ⟨((cell_far (p := ⟨gb214, _, none⟩) NB211_214.out _).trans (((cell_far (p := ⟨gb214, _, none⟩) NB211_214.out _).trans (((cell_far (p := ⟨gb214, _, none⟩) NB211_214.out _).trans (((cell_far (p := ⟨gb214, _, none⟩) NB211_214.out _).trans (hHeld.1)))))))), ((cell_far (p := ⟨gb214, _, none⟩) NB211_214.out _).trans (((cell_far (p := ⟨gb214, _, none⟩) NB211_214.out _).trans (((cell_far (p := ⟨gb214, _, none⟩) NB211_214.out _).trans (((cell_far (p := ⟨gb214, _, none⟩) NB211_214.out _).trans (hHeld.2.1)))))))), ((cell_far (p := ⟨gb214, _, none⟩) NB211_214.out _).trans (((cell_far (p := ⟨gb214, _, none⟩) NB211_214.out _).trans (((cell_far (p := ⟨gb214, _, none⟩) NB211_214.out _).trans (((cell_far (p := ⟨gb214, _, none⟩) NB211_214.out _).trans (hHeld.2.2.1)))))))), ((cell_far (p := ⟨gb214, _, none⟩) NB211_214.out _).trans (((cell_far (p := ⟨gb214, _, none⟩) NB211_214.out _).trans (((cell_far (p := ⟨gb214, _, none⟩) NB211_214.out _).trans (((cell_far (p := ⟨gb214, _, none⟩) NB211_214.out _).trans (hHeld.2.2.2))))))))⟩ (fun hHeld => ?_)
        clear hK K
        refine done_ (done_of HT_.out (by kernel_rfl)) ?_
        have hnb36 := NB211_214.out
        have hnc36 := NB214_211.out
        have hcz37_0 : w31.cell? ⟨gb211, 0, none⟩ = some (.bool true) := (blk_cell BK211.out 0).trans rfl
        have hcz37_1 : w31.cell? ⟨gb211, 1, none⟩ = some (.string t207) := (blk_cell BK211.out 1).trans rfl
        have hcz37_2 : w31.cell? ⟨gb211, 2, none⟩ = some (.int .i64 t208) := (blk_cell BK211.out 2).trans rfl
        have hcz37_3 : w31.cell? ⟨gb211, 3, none⟩ = some (.int .i64 t209) := (blk_cell BK211.out 3).trans rfl
        have hfz37_0 := blk_frozen BK211.out 0
        have hfz37_1 := blk_frozen BK211.out 1
        have hfz37_2 := blk_frozen BK211.out 2
        have hfz37_3 := blk_frozen BK211.out 3
        have hnb38 := NB214_205.out
        have hnc38 := NB205_214.out
        have hcz39_0 : w31.cell? ⟨gb214, 0, none⟩ = some (.bool false) := (blk_cell BK214.out 0).trans rfl
        have hcz39_1 : w31.cell? ⟨gb214, 1, none⟩ = some (.string (⟨#[]⟩ : ByteArray)) := (blk_cell BK214.out 1).trans rfl
        have hcz39_2 : w31.cell? ⟨gb214, 2, none⟩ = some (.string (⟨#[]⟩ : ByteArray)) := (blk_cell BK214.out 2).trans rfl
        have hcz39_3 : w31.cell? ⟨gb214, 3, none⟩ = some (.int .i64 0) := (blk_cell BK214.out 3).trans rfl
        have hfz39_0 := blk_frozen BK214.out 0
        have hfz39_1 := blk_frozen BK214.out 1
        have hfz39_2 := blk_frozen BK214.out 2
        have hfz39_3 := blk_frozen BK214.out 3
        have hcz40_0 : w31.cell? ⟨gb205, 0, none⟩ = some (.bool false) := (blk_cell BK205.out 0).trans rfl
        have hcz40_1 : w31.cell? ⟨gb205, 1, none⟩ = some (.string (⟨#[]⟩ : ByteArray)) := (blk_cell BK205.out 1).trans rfl
        have hcz40_2 : w31.cell? ⟨gb205, 2, none⟩ = some (.string (⟨#[]⟩ : ByteArray)) := (blk_cell BK205.out 2).trans rfl
        have hcz40_3 : w31.cell? ⟨gb205, 3, none⟩ = some (.int .i64 0) := (blk_cell BK205.out 3).trans rfl
        have hfz40_0 := blk_frozen BK205.out 0
        have hfz40_1 := blk_frozen BK205.out 1
        have hfz40_2 := blk_frozen BK205.out 2
        have hfz40_3 := blk_frozen BK205.out 3
        try go_wp2
        refine bodyPost_ret (results_cell_row rfl _ _ gb205 25 #[.bool (!((((t207.extract 0 (t208 : Int).toNat).extract (t212 : Int).toNat t208.toNat) ++ t213).toList).isEmpty), .string ((t207.extract 0 (t208 : Int).toNat).extract (t212 : Int).toNat t208.toNat), .string t213, .int .i64 t210] (0, 0) _ rfl (by (with_reducible repeat (first | refine blk_drewN ?_ _ | refine blk_drew ?_ | refine blk_alloc ?_ _)); refine blk_put (cs := #[.bool (!((((t207.extract 0 (t208 : Int).toNat).extract (t212 : Int).toNat t208.toNat) ++ t213).toList).isEmpty), .string ((t207.extract 0 (t208 : Int).toNat).extract (t212 : Int).toNat t208.toNat), .string t213, .int .i64 0]) ?_ 3 _ rfl; (with_reducible repeat (first | refine blk_drewN ?_ _ | refine blk_drew ?_ | refine blk_alloc ?_ _)); refine blk_put (cs := #[.bool (!((((t207.extract 0 (t208 : Int).toNat).extract (t212 : Int).toNat t208.toNat) ++ t213).toList).isEmpty), .string ((t207.extract 0 (t208 : Int).toNat).extract (t212 : Int).toNat t208.toNat), .string (⟨#[]⟩ : ByteArray), .int .i64 0]) ?_ 2 _ rfl; (with_reducible repeat (first | refine blk_drewN ?_ _ | refine blk_drew ?_ | refine blk_alloc ?_ _)); refine blk_put (cs := #[.bool (!((((t207.extract 0 (t208 : Int).toNat).extract (t212 : Int).toNat t208.toNat) ++ t213).toList).isEmpty), .string (⟨#[]⟩ : ByteArray), .string (⟨#[]⟩ : ByteArray), .int .i64 0]) ?_ 1 _ rfl; (with_reducible repeat (first | refine blk_drewN ?_ _ | refine blk_drew ?_ | refine blk_alloc ?_ _)); refine blk_put (cs := #[.bool false, .string (⟨#[]⟩ : ByteArray), .string (⟨#[]⟩ : ByteArray), .int .i64 0]) ?_ 0 _ rfl; (with_reducible repeat (first | refine blk_drewN ?_ _ | refine blk_drew ?_ | refine blk_alloc ?_ _)); refine blk_far ?_ NB205_214.out _; (with_reducible repeat (first | refine blk_drewN ?_ _ | refine blk_drew ?_ | refine blk_alloc ?_ _)); refine blk_far ?_ NB205_214.out _; (with_reducible repeat (first | refine blk_drewN ?_ _ | refine blk_drew ?_ | refine blk_alloc ?_ _)); refine blk_far ?_ NB205_214.out _; (with_reducible repeat (first | refine blk_drewN ?_ _ | refine blk_drew ?_ | refine blk_alloc ?_ _)); refine blk_far ?_ NB205_214.out _; (with_reducible repeat (first | refine blk_drewN ?_ _ | refine blk_drew ?_ | refine blk_alloc ?_ _)); refine blk_far ?_ NB205_214.out _; (with_reducible repeat (first | refine blk_drewN ?_ _ | refine blk_drew ?_ | refine blk_alloc ?_ _)); exact BK205.out) Tryd.underlying25 rfl (by kernel_rfl)) rfl ?_
        exact ⟨qng6_, qng28_⟩
       ·
        rw [if_neg c22] at H
        exact absurd H (by simp)
      ·
       replace c21 := Bool.eq_false_iff.mpr c21
       subst c21
       have H1 : (some (false, (t207.extract 0 (t208 : Int).toNat).extract (t212 : Int).toNat t208.toNat, t213, t210)) = some (r1, r2, r3, r4) := by rw [if_neg (show ¬ (false = true) by decide)] at H; exact H
       clear H
       have H := H1
       clear H1
       simp only [Option.some.injEq, Prod.mk.injEq] at H
       obtain ⟨rfl, rfl, rfl, rfl⟩ := H
       go_enter Tryd.func22, Tryd.ntmps22
       have tk62 : True := trivial; have tk63 : True := trivial; have tk64 : True := trivial
       try go_wp2_with (first | (have ztk62 := tk62; clear tk62 ztk62; (with_reducible refine gate_dst (N := 2) rfl ?_); refine box_event ?hg (N := 2) ?hd (cs := #[.bool false, .string (⟨#[]⟩ : ByteArray), .string (⟨#[]⟩ : ByteArray), .int .i64 0]) (t := 25) ?hr ?_; (case hd => rfl); (case hg => rfl); (case hr => first | (go_simp; done) | (go_simp; rfl)); intro gb205 hg w44 hbox hb; have n0_ := Aside0.mk (below_step qng1_ hb); have n1_ := Aside0.mk (hbox); have n2_ := Aside0.mk ((by rw [hg]; exact (below_size qng1_) : w.heap.size ≤ gb205)); have n3_ := Aside0.mk ((by rw [hg]; exact (below_size qng1_) : w.heap.size ≤ gb205)); clear HB; have HB := n0_; have BK205 := n1_; have GW205 := n2_; have GE205 := n3_; clear n0_ n1_ n2_ n3_; clear hb hbox hg) | (have ztk63 := tk63; clear tk63 ztk63; (with_reducible refine gate_callee (f := 41) rfl ?_); refine goesL_ (some 9) rfl rfl Tryd.func41 (by kernel_rfl) rfl #[.string a0] rfl qng0_ ?_; (with_reducible refine (millref3_signed.calls k a0 false t207 t208 t209 t210 _ A2.out).mono ?_); rintro e w45 ⟨rfl, hb⟩; refine ⟨_, rfl, ?_⟩; have n0_ := Aside0.mk (blk_below (g := gb205) (o := .cells #[.bool false, .string (⟨#[]⟩ : ByteArray), .string (⟨#[]⟩ : ByteArray), .int .i64 0] 25 (0, 0)) qng12_ hb); have n1_ := Aside0.mk (below_step qng25_ hb); clear BK205; clear HB; have BK205 := n0_; have HB := n1_; clear n0_ n1_; (try clear hb); (try clear hb2); (try clear hk); (try clear hi)) | (have ztk64 := tk64; clear tk64 ztk64; (with_reducible refine gate_dst (N := 3) rfl ?_); refine box_event ?hg (N := 3) ?hd (cs := #[.bool false, .string (⟨#[]⟩ : ByteArray), .int .i64 0, .int .i64 0]) (t := 67) ?hr ?_; (case hd => rfl); (case hg => rfl); (case hr => first | (go_simp; done) | (go_simp; rfl)); intro gb211 hg w46 hbox hb; have n0_ := Aside0.mk (blk_below (g := gb205) (o := .cells #[.bool false, .string (⟨#[]⟩ : ByteArray), .string (⟨#[]⟩ : ByteArray), .int .i64 0] 25 (0, 0)) qng12_ hb); have n1_ := Aside0.mk (below_step qng25_ hb); have n2_ := Aside0.mk (hbox); have n3_ := Aside0.mk ((by rw [hg]; exact (below_size qng25_) : w.heap.size ≤ gb211)); have n4_ := Aside0.mk ((by rw [hg]; exact (below_size qng25_) : w.heap.size ≤ gb211)); have n5_ := Aside0.mk ((by rw [hg]; exact Nat.ne_of_lt (blk_lt (g := gb205) (o := .cells #[.bool false, .string (⟨#[]⟩ : ByteArray), .string (⟨#[]⟩ : ByteArray), .int .i64 0] 25 (0, 0)) qng12_) : gb205 ≠ gb211)); have n6_ := Aside0.mk ((by rw [hg]; exact Nat.ne_of_gt (blk_lt (g := gb205) (o := .cells #[.bool false, .string (⟨#[]⟩ : ByteArray), .string (⟨#[]⟩ : ByteArray), .int .i64 0] 25 (0, 0)) qng12_) : gb211 ≠ gb205)); clear BK205; clear HB; have BK205 := n0_; have HB := n1_; have BK211 := n2_; have GW211 := n3_; have GE211 := n4_; have NB205_211 := n5_; have NB211_205 := n6_; clear n0_ n1_ n2_ n3_ n4_ n5_ n6_; clear hb hbox hg; have hnb47 := NB211_205.out; have hnc47 := NB205_211.out; have hcz48_0 : w46.cell? ⟨gb211, 0, none⟩ = some (.bool false) := (blk_cell BK211.out 0).trans rfl; have hcz48_1 : w46.cell? ⟨gb211, 1, none⟩ = some (.string (⟨#[]⟩ : ByteArray)) := (blk_cell BK211.out 1).trans rfl; have hcz48_2 : w46.cell? ⟨gb211, 2, none⟩ = some (.int .i64 0) := (blk_cell BK211.out 2).trans rfl; have hcz48_3 : w46.cell? ⟨gb211, 3, none⟩ = some (.int .i64 0) := (blk_cell BK211.out 3).trans rfl; have hfz48_0 := blk_frozen BK211.out 0; have hfz48_1 := blk_frozen BK211.out 1; have hfz48_2 := blk_frozen BK211.out 2; have hfz48_3 := blk_frozen BK211.out 3))
       have n0_ : Aside0 (((((w46.setCell ⟨gb211, 0, none⟩ (.bool false)).setCell ⟨gb211, 1, none⟩ (.string t207)).setCell ⟨gb211, 2, none⟩ (.int .i64 t208)).setCell ⟨gb211, 3, none⟩ (.int .i64 t209)).heap[gb205]? = some (.cells #[.bool false, .string (⟨#[]⟩ : ByteArray), .string (⟨#[]⟩ : ByteArray), .int .i64 0] 25 (0, 0))) := ⟨by (with_reducible repeat (first | refine blk_drewN ?_ _ | refine blk_drew ?_ | refine blk_alloc ?_ _)); refine blk_far ?_ NB205_211.out _; (with_reducible repeat (first | refine blk_drewN ?_ _ | refine blk_drew ?_ | refine blk_alloc ?_ _)); refine blk_far ?_ NB205_211.out _; (with_reducible repeat (first | refine blk_drewN ?_ _ | refine blk_drew ?_ | refine blk_alloc ?_ _)); refine blk_far ?_ NB205_211.out _; (with_reducible repeat (first | refine blk_drewN ?_ _ | refine blk_drew ?_ | refine blk_alloc ?_ _)); refine blk_far ?_ NB205_211.out _; (with_reducible repeat (first | refine blk_drewN ?_ _ | refine blk_drew ?_ | refine blk_alloc ?_ _)); exact BK205.out⟩
       have n1_ : Aside0 (((((w46.setCell ⟨gb211, 0, none⟩ (.bool false)).setCell ⟨gb211, 1, none⟩ (.string t207)).setCell ⟨gb211, 2, none⟩ (.int .i64 t208)).setCell ⟨gb211, 3, none⟩ (.int .i64 t209)).heap[gb211]? = some (.cells #[.bool false, .string t207, .int .i64 t208, .int .i64 t209] 67 (0, 0))) := ⟨by (with_reducible repeat (first | refine blk_drewN ?_ _ | refine blk_drew ?_ | refine blk_alloc ?_ _)); refine blk_put (cs := #[.bool false, .string t207, .int .i64 t208, .int .i64 0]) ?_ 3 _ rfl; (with_reducible repeat (first | refine blk_drewN ?_ _ | refine blk_drew ?_ | refine blk_alloc ?_ _)); refine blk_put (cs := #[.bool false, .string t207, .int .i64 0, .int .i64 0]) ?_ 2 _ rfl; (with_reducible repeat (first | refine blk_drewN ?_ _ | refine blk_drew ?_ | refine blk_alloc ?_ _)); refine blk_put (cs := #[.bool false, .string (⟨#[]⟩ : ByteArray), .int .i64 0, .int .i64 0]) ?_ 1 _ rfl; (with_reducible repeat (first | refine blk_drewN ?_ _ | refine blk_drew ?_ | refine blk_alloc ?_ _)); refine blk_put (cs := #[.bool false, .string (⟨#[]⟩ : ByteArray), .int .i64 0, .int .i64 0]) ?_ 0 _ rfl; (with_reducible repeat (first | refine blk_drewN ?_ _ | refine blk_drew ?_ | refine blk_alloc ?_ _)); exact BK211.out⟩
       have n2_ : Aside0 (Below w.heap.size w ((((w46.setCell ⟨gb211, 0, none⟩ (.bool false)).setCell ⟨gb211, 1, none⟩ (.string t207)).setCell ⟨gb211, 2, none⟩ (.int .i64 t208)).setCell ⟨gb211, 3, none⟩ (.int .i64 t209))) := ⟨qng13_⟩
       (try clear BK205); (try clear BK211); (try clear HB)
       generalize ((((w46.setCell ⟨gb211, 0, none⟩ (.bool false)).setCell ⟨gb211, 1, none⟩ (.string t207)).setCell ⟨gb211, 2, none⟩ (.int .i64 t208)).setCell ⟨gb211, 3, none⟩ (.int .i64 t209)) = w49 at n0_ n1_ n2_ ⊢
       have BK205 := n0_
       have BK211 := n1_
       have HB := n2_
       clear n0_ n1_ n2_
       have n0_ := Aside0.mk (blk_drew BK205.out)
       have n1_ := Aside0.mk (blk_drew BK211.out)
       have n2_ := Aside0.mk (below_drew1 HB.out)
       clear BK205
       clear BK211
       clear HB
       have BK205 := n0_
       have BK211 := n1_
       have HB := n2_
       clear n0_ n1_ n2_
       refine start_ (n := 14) (S := fun w' => w'.cell? ⟨gb211, 0, none⟩ = some (.bool false) ∧ w'.cell? ⟨gb211, 1, none⟩ = some (.string t207) ∧ w'.cell? ⟨gb211, 2, none⟩ = some (.int .i64 t208) ∧ w'.cell? ⟨gb211, 3, none⟩ = some (.int .i64 t209)) (ds := []) #[false, false, false, false, false, false, false, false, false, false, false, false, false, false] (by kernel_rfl) rfl rfl ⟨(blk_cell BK211.out 0).trans rfl, (blk_cell BK211.out 1).trans rfl, (blk_cell BK211.out 2).trans rfl, (blk_cell BK211.out 3).trans rfl⟩ (fun hHeld => ?_); refine with_tabW millref3_Decimal.tab5 millref3_Decimal.bits5 (fun HT_ HW_ => ?_)
       generalize w49.drew = w50 at BK205 BK211 HB hHeld ⊢
       refine pure_ (i := 0) (N := some 20) (v := ?_) (a' := ?_) #[true, false, false, false, false, false, false, false, false, false, false, false, false, false] rfl rfl (any_of HT_.out (by kernel_rfl)) (fun _ _ _ h => h) (Or.inl ⟨by rfl, ?_⟩) ?_ ?_
       rotate_left
       ·
        intro w'
        go_simp
        with_reducible rfl
       rotate_left
       ·
        simp only [Act.put, List.setIfInBounds_toArray, List.set_cons_zero, List.set_cons_succ, i64_w, i32_w]
        rfl
       refine pure_ (i := 1) (N := some 21) (v := ?_) (a' := ?_) #[true, true, false, false, false, false, false, false, false, false, false, false, false, false] rfl rfl (any_of HT_.out (by kernel_rfl)) (fun _ _ _ h => h) (Or.inl ⟨by rfl, ?_⟩) ?_ ?_
       rotate_left
       ·
        intro w'
        go_simp
        with_reducible rfl
       rotate_left
       ·
        simp only [Act.put, List.setIfInBounds_toArray, List.set_cons_zero, List.set_cons_succ, i64_w, i32_w]
        rfl
       refine pure_ (i := 4) (N := some 24) (v := ?_) (a' := ?_) #[true, true, false, false, true, false, false, false, false, false, false, false, false, false] rfl rfl (any_of HT_.out (by kernel_rfl)) (fun _ _ _ h => h) (Or.inl ⟨by rfl, ?_⟩) ?_ ?_
       rotate_left
       ·
        intro w'
        go_simp
        with_reducible rfl
       rotate_left
       ·
        simp only [Act.put, List.setIfInBounds_toArray, List.set_cons_zero, List.set_cons_succ, i64_w, i32_w]
        rfl
       refine pure_ (i := 6) (N := some 26) (v := ?_) (a' := ?_) #[true, true, false, false, true, false, true, false, false, false, false, false, false, false] rfl rfl (any_of HT_.out (by kernel_rfl)) (fun _ _ _ h => h) (Or.inl ⟨by rfl, ?_⟩) ?_ ?_
       rotate_left
       ·
        intro w'
        go_simp
        with_reducible rfl
       rotate_left
       ·
        simp only [Act.put, List.setIfInBounds_toArray, List.set_cons_zero, List.set_cons_succ, i64_w, i32_w]
        rfl
       refine pure_ (i := 10) (N := some 30) (v := ?_) (a' := ?_) #[true, true, false, false, true, false, true, false, false, false, true, false, false, false] rfl rfl (any_of HT_.out (by kernel_rfl)) (fun _ _ _ h => h) (Or.inl ⟨by rfl, ?_⟩) ?_ ?_
       rotate_left
       ·
        intro w'
        go_simp
        with_reducible rfl
       rotate_left
       ·
        simp only [Act.put, List.setIfInBounds_toArray, List.set_cons_zero, List.set_cons_succ, i64_w, i32_w]
        rfl
       refine take_ (i := 5) (N := some 25) (v := ?_) (a' := ?_) #[true, true, false, false, true, true, true, false, false, false, true, false, false, false] rfl rfl (take_ofW HT_.out HW_.out (by kernel_rfl)) (fun _ _ _ h => h) (Or.inl ⟨by rfl, ?_⟩) hHeld ?_ ?_
       rotate_left
       ·
        rintro w' ⟨s0, s1, s2, s3⟩
        go_simp
        with_reducible rfl
       rotate_left
       ·
        simp only [Act.put, List.setIfInBounds_toArray, List.set_cons_zero, List.set_cons_succ, i64_w, i32_w]
        rfl
       refine take_ (i := 7) (N := some 27) (v := ?_) (a' := ?_) #[true, true, false, false, true, true, true, true, false, false, true, false, false, false] rfl rfl (take_ofW HT_.out HW_.out (by kernel_rfl)) (fun _ _ _ h => h) (Or.inl ⟨by rfl, ?_⟩) hHeld ?_ ?_
       rotate_left
       ·
        rintro w' ⟨s0, s1, s2, s3⟩
        go_simp
        with_reducible rfl
       rotate_left
       ·
        simp only [Act.put, List.setIfInBounds_toArray, List.set_cons_zero, List.set_cons_succ, i64_w, i32_w]
        rfl
       refine pure_ (i := 8) (N := some 28) (v := ?_) (a' := ?_) #[true, true, false, false, true, true, true, true, true, false, true, false, false, false] rfl rfl (any_of HT_.out (by kernel_rfl)) (fun _ _ _ h => h) (Or.inl ⟨by rfl, ?_⟩) ?_ ?_
       rotate_left
       ·
        intro w'
        go_simp
        with_reducible rfl
       rotate_left
       ·
        simp only [Act.put, List.setIfInBounds_toArray, List.set_cons_zero, List.set_cons_succ, i64_w, i32_w]
        rfl
       refine join_ (σ := Nat) 1 #[true, true, true, true, true, true, true, true, true, true, true, true, true, false] (fun s_ => [(22, .int .i64 t212), (29, .string t213), (6, .pointer (some ⟨s_, 0, none⟩)), (23, .string ((t207.extract 0 (t208 : Int).toNat).extract (t212 : Int).toNat t208.toNat)), (31, .agg #[.bool false, .string ((t207.extract 0 (t208 : Int).toNat).extract (t212 : Int).toNat t208.toNat), .string t213, .int .i64 t210])]) (fun s_ w' => (w'.cell? ⟨gb211, 0, none⟩ = some (.bool false) ∧ w'.cell? ⟨gb211, 1, none⟩ = some (.string t207) ∧ w'.cell? ⟨gb211, 2, none⟩ = some (.int .i64 t208) ∧ w'.cell? ⟨gb211, 3, none⟩ = some (.int .i64 t209)) ∧ (w'.heap[gb205]? = some (.cells #[.bool false, .string (⟨#[]⟩ : ByteArray), .string (⟨#[]⟩ : ByteArray), .int .i64 0] 25 (0, 0))) ∧ (w'.heap[gb211]? = some (.cells #[.bool false, .string t207, .int .i64 t208, .int .i64 t209] 67 (0, 0))) ∧ (w'.heap[s_]? = some (.cells #[.bool false, .string (⟨#[]⟩ : ByteArray), .string (⟨#[]⟩ : ByteArray), .int .i64 0] 25 (0, 0))) ∧ (w.heap.size ≤ s_) ∧ (w.heap.size ≤ s_) ∧ (gb205 ≠ s_) ∧ (s_ ≠ gb205) ∧ (gb211 ≠ s_) ∧ (s_ ≠ gb211) ∧ (Below w.heap.size w w')) ?_ ?_
       rotate_left
       ·
        intro hCont
        refine two_ (i := 2) (j := 12) (Ni := some 22) (Nj := some 6) #[true, true, true, false, true, true, true, true, true, false, true, false, false, false] #[true, true, false, false, true, true, true, true, true, false, true, false, true, false] rfl rfl rfl rfl (two_of HT_.out (by kernel_rfl)) (by decide) (by decide) (fun K hK => ?_) (fun K hK => ?_)
        ·
         skip
         refine goes_ Tryd.func42 (by kernel_rfl) rfl #[.string (t207.extract 0 (t208 : Int).toNat)] (by rfl) rfl rfl qng0_ ?_
         with_reducible refine (millref3_zeros.calls k (t207.extract 0 (t208 : Int).toNat) t212 _ A15.out).mono ?_
         rintro e w' ⟨rfl, ⟨nd, rfl⟩⟩
         refine ⟨_, rfl, ?_⟩
         refine hK.out _ _ ⟨(blk_cell BK211.out 0).trans rfl, (blk_cell BK211.out 1).trans rfl, (blk_cell BK211.out 2).trans rfl, (blk_cell BK211.out 3).trans rfl⟩ (fun hHeld => ?_)
         clear hK K
         refine norm_ (a' := ?_) ?_ ?_
         rotate_left
         ·
          show Act.put _ (some 22) _ = _
          simp only [Act.put, List.setIfInBounds_toArray, List.set_cons_zero, List.set_cons_succ, i64_w, i32_w]
          rfl
         refine pure_ (i := 3) (N := some 23) (v := ?_) (a' := ?_) #[true, true, true, true, true, true, true, true, true, false, true, false, false, false] rfl rfl (any_of HT_.out (by kernel_rfl)) (fun _ _ _ h => h) (Or.inl ⟨by rfl, ?_⟩) ?_ ?_
         rotate_left
         ·
          intro w'
          go_simp
          with_reducible rfl
         rotate_left
         ·
          simp only [Act.put, List.setIfInBounds_toArray, List.set_cons_zero, List.set_cons_succ, i64_w, i32_w]
          rfl
         refine two_ (i := 9) (j := 12) (Ni := some 29) (Nj := some 6) #[true, true, true, true, true, true, true, true, true, true, true, false, false, false] #[true, true, true, true, true, true, true, true, true, false, true, false, true, false] rfl rfl rfl rfl (two_of HT_.out (by kernel_rfl)) (by decide) (by decide) (fun K hK => ?_) (fun K hK => ?_)
         ·
          skip
          refine goes_ Tryd.func43 (by kernel_rfl) rfl #[.string (t207.extract (t208 : Int).toNat t207.size)] (by rfl) rfl rfl qng0_ ?_
          with_reducible refine (millref3_trimmed.calls k (t207.extract (t208 : Int).toNat t207.size) t213 _ A20.out).mono ?_
          rintro e w' ⟨rfl, ⟨nd, rfl⟩⟩
          refine ⟨_, rfl, ?_⟩
          refine hK.out _ _ ⟨(blk_cell BK211.out 0).trans rfl, (blk_cell BK211.out 1).trans rfl, (blk_cell BK211.out 2).trans rfl, (blk_cell BK211.out 3).trans rfl⟩ (fun hHeld => ?_)
          clear hK K
          refine norm_ (a' := ?_) ?_ ?_
          rotate_left
          ·
           show Act.put _ (some 29) _ = _
           simp only [Act.put, List.setIfInBounds_toArray, List.set_cons_zero, List.set_cons_succ, i64_w, i32_w]
           rfl
          refine pure_ (i := 11) (N := some 31) (v := ?_) (a' := ?_) #[true, true, true, true, true, true, true, true, true, true, true, true, false, false] rfl rfl (any_of HT_.out (by kernel_rfl)) (fun _ _ _ h => h) (Or.inl ⟨by rfl, ?_⟩) ?_ ?_
          rotate_left
          ·
           intro w'
           go_simp
           with_reducible rfl
          rotate_left
          ·
           simp only [Act.put, List.setIfInBounds_toArray, List.set_cons_zero, List.set_cons_succ, i64_w, i32_w]
           rfl
          refine one_ (i := 12) (N := some 6) #[true, true, true, true, true, true, true, true, true, true, true, true, true, false] rfl rfl (one_of HT_.out (by kernel_rfl)) (by decide) (fun K hK => ?_)
          refine box_step ?hg (N := 6) ?hd (cs := #[.bool false, .string (⟨#[]⟩ : ByteArray), .string (⟨#[]⟩ : ByteArray), .int .i64 0]) (t := 25) ?hr ?_; (case hd => rfl); (case hg => rfl); (case hr => first | (go_simp; done) | (go_simp; rfl))
          intro gb214 hg w51 hbox hb
          have n0_ := Aside0.mk (blk_below (g := gb205) (o := .cells #[.bool false, .string (⟨#[]⟩ : ByteArray), .string (⟨#[]⟩ : ByteArray), .int .i64 0] 25 (0, 0)) qng12_ hb)
          have n1_ := Aside0.mk (blk_below (g := gb211) (o := .cells #[.bool false, .string t207, .int .i64 t208, .int .i64 t209] 67 (0, 0)) qng18_ hb)
          have n2_ := Aside0.mk (below_step qng13_ hb)
          have n3_ := Aside0.mk (hbox)
          have n4_ := Aside0.mk ((by rw [hg]; exact (below_size qng13_) : w.heap.size ≤ gb214))
          have n5_ := Aside0.mk ((by rw [hg]; exact (below_size qng13_) : w.heap.size ≤ gb214))
          have n6_ := Aside0.mk ((by rw [hg]; exact Nat.ne_of_lt (blk_lt (g := gb205) (o := .cells #[.bool false, .string (⟨#[]⟩ : ByteArray), .string (⟨#[]⟩ : ByteArray), .int .i64 0] 25 (0, 0)) qng12_) : gb205 ≠ gb214))
          have n7_ := Aside0.mk ((by rw [hg]; exact Nat.ne_of_gt (blk_lt (g := gb205) (o := .cells #[.bool false, .string (⟨#[]⟩ : ByteArray), .string (⟨#[]⟩ : ByteArray), .int .i64 0] 25 (0, 0)) qng12_) : gb214 ≠ gb205))
          have n8_ := Aside0.mk ((by rw [hg]; exact Nat.ne_of_lt (blk_lt (g := gb211) (o := .cells #[.bool false, .string t207, .int .i64 t208, .int .i64 t209] 67 (0, 0)) qng18_) : gb211 ≠ gb214))
          have n9_ := Aside0.mk ((by rw [hg]; exact Nat.ne_of_gt (blk_lt (g := gb211) (o := .cells #[.bool false, .string t207, .int .i64 t208, .int .i64 t209] 67 (0, 0)) qng18_) : gb214 ≠ gb211))
          clear BK205
          clear BK211
          clear HB
          have BK205 := n0_
          have BK211 := n1_
          have HB := n2_
          have BK214 := n3_
          have GW214 := n4_
          have GE214 := n5_
          have NB205_214 := n6_
          have NB214_205 := n7_
          have NB211_214 := n8_
          have NB214_211 := n9_
          clear n0_ n1_ n2_ n3_ n4_ n5_ n6_ n7_ n8_ n9_
          clear hb hbox hg
          refine hK.out _ _ ⟨(blk_cell BK211.out 0).trans rfl, (blk_cell BK211.out 1).trans rfl, (blk_cell BK211.out 2).trans rfl, (blk_cell BK211.out 3).trans rfl⟩ (fun hHeld => ?_)
          clear hK K
          refine norm_ (a' := ?_) ?_ ?_
          rotate_left
          ·
           show Act.put _ (some 6) _ = _
           simp only [Act.put, List.setIfInBounds_toArray, List.set_cons_zero, List.set_cons_succ, i64_w, i32_w]
           rfl
          exact norm_ qng32_ (hCont (gb214) _ ⟨hHeld, qng12_, qng18_, qng56_, GW214.out, GE214.out, NB205_214.out, NB214_205.out, NB211_214.out, NB214_211.out, qng28_⟩)
         ·
          skip
          refine box_step ?hg (N := 6) ?hd (cs := #[.bool false, .string (⟨#[]⟩ : ByteArray), .string (⟨#[]⟩ : ByteArray), .int .i64 0]) (t := 25) ?hr ?_; (case hd => rfl); (case hg => rfl); (case hr => first | (go_simp; done) | (go_simp; rfl))
          intro gb214 hg w51 hbox hb
          have n0_ := Aside0.mk (blk_below (g := gb205) (o := .cells #[.bool false, .string (⟨#[]⟩ : ByteArray), .string (⟨#[]⟩ : ByteArray), .int .i64 0] 25 (0, 0)) qng12_ hb)
          have n1_ := Aside0.mk (blk_below (g := gb211) (o := .cells #[.bool false, .string t207, .int .i64 t208, .int .i64 t209] 67 (0, 0)) qng18_ hb)
          have n2_ := Aside0.mk (below_step qng13_ hb)
          have n3_ := Aside0.mk (hbox)
          have n4_ := Aside0.mk ((by rw [hg]; exact (below_size qng13_) : w.heap.size ≤ gb214))
          have n5_ := Aside0.mk ((by rw [hg]; exact (below_size qng13_) : w.heap.size ≤ gb214))
          have n6_ := Aside0.mk ((by rw [hg]; exact Nat.ne_of_lt (blk_lt (g := gb205) (o := .cells #[.bool false, .string (⟨#[]⟩ : ByteArray), .string (⟨#[]⟩ : ByteArray), .int .i64 0] 25 (0, 0)) qng12_) : gb205 ≠ gb214))
          have n7_ := Aside0.mk ((by rw [hg]; exact Nat.ne_of_gt (blk_lt (g := gb205) (o := .cells #[.bool false, .string (⟨#[]⟩ : ByteArray), .string (⟨#[]⟩ : ByteArray), .int .i64 0] 25 (0, 0)) qng12_) : gb214 ≠ gb205))
          have n8_ := Aside0.mk ((by rw [hg]; exact Nat.ne_of_lt (blk_lt (g := gb211) (o := .cells #[.bool false, .string t207, .int .i64 t208, .int .i64 t209] 67 (0, 0)) qng18_) : gb211 ≠ gb214))
          have n9_ := Aside0.mk ((by rw [hg]; exact Nat.ne_of_gt (blk_lt (g := gb211) (o := .cells #[.bool false, .string t207, .int .i64 t208, .int .i64 t209] 67 (0, 0)) qng18_) : gb214 ≠ gb211))
          clear BK205
          clear BK211
          clear HB
          have BK205 := n0_
          have BK211 := n1_
          have HB := n2_
          have BK214 := n3_
          have GW214 := n4_
          have GE214 := n5_
          have NB205_214 := n6_
          have NB214_205 := n7_
          have NB211_214 := n8_
          have NB214_211 := n9_
          clear n0_ n1_ n2_ n3_ n4_ n5_ n6_ n7_ n8_ n9_
          clear hb hbox hg
          refine hK.out _ _ ⟨(blk_cell BK211.out 0).trans rfl, (blk_cell BK211.out 1).trans rfl, (blk_cell BK211.out 2).trans rfl, (blk_cell BK211.out 3).trans rfl⟩ (fun hHeld => ?_)
          clear hK K
          refine norm_ (a' := ?_) ?_ ?_
          rotate_left
          ·
           show Act.put _ (some 6) _ = _
           simp only [Act.put, List.setIfInBounds_toArray, List.set_cons_zero, List.set_cons_succ, i64_w, i32_w]
           rfl
          refine one_ (i := 9) (N := some 29) #[true, true, true, true, true, true, true, true, true, true, true, false, true, false] rfl rfl (one_of HT_.out (by kernel_rfl)) (by decide) (fun K hK => ?_)
          refine goes_ Tryd.func43 (by kernel_rfl) rfl #[.string (t207.extract (t208 : Int).toNat t207.size)] (by rfl) rfl rfl qng0_ ?_
          with_reducible refine (millref3_trimmed.calls k (t207.extract (t208 : Int).toNat t207.size) t213 _ A20.out).mono ?_
          rintro e w' ⟨rfl, ⟨nd, rfl⟩⟩
          refine ⟨_, rfl, ?_⟩
          refine hK.out _ _ ⟨(blk_cell BK211.out 0).trans rfl, (blk_cell BK211.out 1).trans rfl, (blk_cell BK211.out 2).trans rfl, (blk_cell BK211.out 3).trans rfl⟩ (fun hHeld => ?_)
          clear hK K
          refine norm_ (a' := ?_) ?_ ?_
          rotate_left
          ·
           show Act.put _ (some 29) _ = _
           simp only [Act.put, List.setIfInBounds_toArray, List.set_cons_zero, List.set_cons_succ, i64_w, i32_w]
           rfl
          refine pure_ (i := 11) (N := some 31) (v := ?_) (a' := ?_) #[true, true, true, true, true, true, true, true, true, true, true, true, true, false] rfl rfl (any_of HT_.out (by kernel_rfl)) (fun _ _ _ h => h) (Or.inl ⟨by rfl, ?_⟩) ?_ ?_
          rotate_left
          ·
           intro w'
           go_simp
           with_reducible rfl
          rotate_left
          ·
           simp only [Act.put, List.setIfInBounds_toArray, List.set_cons_zero, List.set_cons_succ, i64_w, i32_w]
           rfl
          exact norm_ qng32_ (hCont (gb214) _ ⟨hHeld, qng12_, qng18_, qng56_, GW214.out, GE214.out, NB205_214.out, NB214_205.out, NB211_214.out, NB214_211.out, qng28_⟩)
        ·
         skip
         refine box_step ?hg (N := 6) ?hd (cs := #[.bool false, .string (⟨#[]⟩ : ByteArray), .string (⟨#[]⟩ : ByteArray), .int .i64 0]) (t := 25) ?hr ?_; (case hd => rfl); (case hg => rfl); (case hr => first | (go_simp; done) | (go_simp; rfl))
         intro gb214 hg w51 hbox hb
         have n0_ := Aside0.mk (blk_below (g := gb205) (o := .cells #[.bool false, .string (⟨#[]⟩ : ByteArray), .string (⟨#[]⟩ : ByteArray), .int .i64 0] 25 (0, 0)) qng12_ hb)
         have n1_ := Aside0.mk (blk_below (g := gb211) (o := .cells #[.bool false, .string t207, .int .i64 t208, .int .i64 t209] 67 (0, 0)) qng18_ hb)
         have n2_ := Aside0.mk (below_step qng13_ hb)
         have n3_ := Aside0.mk (hbox)
         have n4_ := Aside0.mk ((by rw [hg]; exact (below_size qng13_) : w.heap.size ≤ gb214))
         have n5_ := Aside0.mk ((by rw [hg]; exact (below_size qng13_) : w.heap.size ≤ gb214))
         have n6_ := Aside0.mk ((by rw [hg]; exact Nat.ne_of_lt (blk_lt (g := gb205) (o := .cells #[.bool false, .string (⟨#[]⟩ : ByteArray), .string (⟨#[]⟩ : ByteArray), .int .i64 0] 25 (0, 0)) qng12_) : gb205 ≠ gb214))
         have n7_ := Aside0.mk ((by rw [hg]; exact Nat.ne_of_gt (blk_lt (g := gb205) (o := .cells #[.bool false, .string (⟨#[]⟩ : ByteArray), .string (⟨#[]⟩ : ByteArray), .int .i64 0] 25 (0, 0)) qng12_) : gb214 ≠ gb205))
         have n8_ := Aside0.mk ((by rw [hg]; exact Nat.ne_of_lt (blk_lt (g := gb211) (o := .cells #[.bool false, .string t207, .int .i64 t208, .int .i64 t209] 67 (0, 0)) qng18_) : gb211 ≠ gb214))
         have n9_ := Aside0.mk ((by rw [hg]; exact Nat.ne_of_gt (blk_lt (g := gb211) (o := .cells #[.bool false, .string t207, .int .i64 t208, .int .i64 t209] 67 (0, 0)) qng18_) : gb214 ≠ gb211))
         clear BK205
         clear BK211
         clear HB
         have BK205 := n0_
         have BK211 := n1_
         have HB := n2_
         have BK214 := n3_
         have GW214 := n4_
         have GE214 := n5_
         have NB205_214 := n6_
         have NB214_205 := n7_
         have NB211_214 := n8_
         have NB214_211 := n9_
         clear n0_ n1_ n2_ n3_ n4_ n5_ n6_ n7_ n8_ n9_
         clear hb hbox hg
         refine hK.out _ _ ⟨(blk_cell BK211.out 0).trans rfl, (blk_cell BK211.out 1).trans rfl, (blk_cell BK211.out 2).trans rfl, (blk_cell BK211.out 3).trans rfl⟩ (fun hHeld => ?_)
         clear hK K
         refine norm_ (a' := ?_) ?_ ?_
         rotate_left
         ·
          show Act.put _ (some 6) _ = _
          simp only [Act.put, List.setIfInBounds_toArray, List.set_cons_zero, List.set_cons_succ, i64_w, i32_w]
          rfl
         refine one_ (i := 2) (N := some 22) #[true, true, true, false, true, true, true, true, true, false, true, false, true, false] rfl rfl (one_of HT_.out (by kernel_rfl)) (by decide) (fun K hK => ?_)
         refine goes_ Tryd.func42 (by kernel_rfl) rfl #[.string (t207.extract 0 (t208 : Int).toNat)] (by rfl) rfl rfl qng0_ ?_
         with_reducible refine (millref3_zeros.calls k (t207.extract 0 (t208 : Int).toNat) t212 _ A15.out).mono ?_
         rintro e w' ⟨rfl, ⟨nd, rfl⟩⟩
         refine ⟨_, rfl, ?_⟩
         refine hK.out _ _ ⟨(blk_cell BK211.out 0).trans rfl, (blk_cell BK211.out 1).trans rfl, (blk_cell BK211.out 2).trans rfl, (blk_cell BK211.out 3).trans rfl⟩ (fun hHeld => ?_)
         clear hK K
         refine norm_ (a' := ?_) ?_ ?_
         rotate_left
         ·
          show Act.put _ (some 22) _ = _
          simp only [Act.put, List.setIfInBounds_toArray, List.set_cons_zero, List.set_cons_succ, i64_w, i32_w]
          rfl
         refine pure_ (i := 3) (N := some 23) (v := ?_) (a' := ?_) #[true, true, true, true, true, true, true, true, true, false, true, false, true, false] rfl rfl (any_of HT_.out (by kernel_rfl)) (fun _ _ _ h => h) (Or.inl ⟨by rfl, ?_⟩) ?_ ?_
         rotate_left
         ·
          intro w'
          go_simp
          with_reducible rfl
         rotate_left
         ·
          simp only [Act.put, List.setIfInBounds_toArray, List.set_cons_zero, List.set_cons_succ, i64_w, i32_w]
          rfl
         refine one_ (i := 9) (N := some 29) #[true, true, true, true, true, true, true, true, true, true, true, false, true, false] rfl rfl (one_of HT_.out (by kernel_rfl)) (by decide) (fun K hK => ?_)
         refine goes_ Tryd.func43 (by kernel_rfl) rfl #[.string (t207.extract (t208 : Int).toNat t207.size)] (by rfl) rfl rfl qng0_ ?_
         with_reducible refine (millref3_trimmed.calls k (t207.extract (t208 : Int).toNat t207.size) t213 _ A20.out).mono ?_
         rintro e w' ⟨rfl, ⟨nd, rfl⟩⟩
         refine ⟨_, rfl, ?_⟩
         refine hK.out _ _ ⟨(blk_cell BK211.out 0).trans rfl, (blk_cell BK211.out 1).trans rfl, (blk_cell BK211.out 2).trans rfl, (blk_cell BK211.out 3).trans rfl⟩ (fun hHeld => ?_)
         clear hK K
         refine norm_ (a' := ?_) ?_ ?_
         rotate_left
         ·
          show Act.put _ (some 29) _ = _
          simp only [Act.put, List.setIfInBounds_toArray, List.set_cons_zero, List.set_cons_succ, i64_w, i32_w]
          rfl
         refine pure_ (i := 11) (N := some 31) (v := ?_) (a' := ?_) #[true, true, true, true, true, true, true, true, true, true, true, true, true, false] rfl rfl (any_of HT_.out (by kernel_rfl)) (fun _ _ _ h => h) (Or.inl ⟨by rfl, ?_⟩) ?_ ?_
         rotate_left
         ·
          intro w'
          go_simp
          with_reducible rfl
         rotate_left
         ·
          simp only [Act.put, List.setIfInBounds_toArray, List.set_cons_zero, List.set_cons_succ, i64_w, i32_w]
          rfl
         exact norm_ qng32_ (hCont (gb214) _ ⟨hHeld, qng12_, qng18_, qng56_, GW214.out, GE214.out, NB205_214.out, NB214_205.out, NB211_214.out, NB214_211.out, qng28_⟩)
       rintro gb214 w52 ⟨hS_, h0_, h1_, h2_, h3_, h4_, h5_, h6_, h7_, h8_, h9_⟩
       have n0_ : Aside0 (w52.heap[gb205]? = some (.cells #[.bool false, .string (⟨#[]⟩ : ByteArray), .string (⟨#[]⟩ : ByteArray), .int .i64 0] 25 (0, 0))) := ⟨h0_⟩
       have n1_ : Aside0 (w52.heap[gb211]? = some (.cells #[.bool false, .string t207, .int .i64 t208, .int .i64 t209] 67 (0, 0))) := ⟨h1_⟩
       have n2_ : Aside0 (w52.heap[gb214]? = some (.cells #[.bool false, .string (⟨#[]⟩ : ByteArray), .string (⟨#[]⟩ : ByteArray), .int .i64 0] 25 (0, 0))) := ⟨h2_⟩
       have n3_ : Aside0 (w.heap.size ≤ gb214) := ⟨h3_⟩
       have n4_ : Aside0 (w.heap.size ≤ gb214) := ⟨h4_⟩
       have n5_ : Aside0 (gb205 ≠ gb214) := ⟨h5_⟩
       have n6_ : Aside0 (gb214 ≠ gb205) := ⟨h6_⟩
       have n7_ : Aside0 (gb211 ≠ gb214) := ⟨h7_⟩
       have n8_ : Aside0 (gb214 ≠ gb211) := ⟨h8_⟩
       have n9_ : Aside0 (Below w.heap.size w w52) := ⟨h9_⟩
       clear BK205
       clear BK211
       clear HB
       clear h0_ h1_ h2_ h3_ h4_ h5_ h6_ h7_ h8_ h9_
       have BK205 := n0_
       have BK211 := n1_
       have BK214 := n2_
       have GW214 := n3_
       have GE214 := n4_
       have NB205_214 := n5_
       have NB214_205 := n6_
       have NB211_214 := n7_
       have NB214_211 := n8_
       have HB := n9_
       clear n0_ n1_ n2_ n3_ n4_ n5_ n6_ n7_ n8_ n9_
       have hHeld : w52.cell? ⟨gb211, 0, none⟩ = some (.bool false) ∧ w52.cell? ⟨gb211, 1, none⟩ = some (.string t207) ∧ w52.cell? ⟨gb211, 2, none⟩ = some (.int .i64 t208) ∧ w52.cell? ⟨gb211, 3, none⟩ = some (.int .i64 t209) := hS_
       refine norm_ (a' := ?_) ?_ ?_
       rotate_left
       ·
        simp only [putAll, Act.put, List.setIfInBounds_toArray, List.set_cons_zero, List.set_cons_succ]
        rfl
       refine one_ (i := 13) (N := none) #[true, true, true, true, true, true, true, true, true, true, true, true, true, true] rfl rfl (one_of HT_.out (by kernel_rfl)) (by decide) (fun K hK => ?_)
       have hs53 : w52.cell? ⟨gb214, 0, none⟩ = some (.bool false) := (blk_cell BK214.out 0).trans rfl
       have hfs53 := blk_frozen BK214.out 0
       have hns53_0 := NB205_214.out
       have hns53_1 := NB211_214.out
       have hms53_0 := NB214_205.out
       have hms53_1 := NB214_211.out
       have hs54 : w52.cell? ⟨gb214, 1, none⟩ = some (.string (⟨#[]⟩ : ByteArray)) := (blk_cell BK214.out 1).trans rfl
       have hfs54 := blk_frozen BK214.out 1
       have hns54_0 := NB205_214.out
       have hns54_1 := NB211_214.out
       have hms54_0 := NB214_205.out
       have hms54_1 := NB214_211.out
       have hs55 : w52.cell? ⟨gb214, 2, none⟩ = some (.string (⟨#[]⟩ : ByteArray)) := (blk_cell BK214.out 2).trans rfl
       have hfs55 := blk_frozen BK214.out 2
       have hns55_0 := NB205_214.out
       have hns55_1 := NB211_214.out
       have hms55_0 := NB214_205.out
       have hms55_1 := NB214_211.out
       have hs56 : w52.cell? ⟨gb214, 3, none⟩ = some (.int .i64 0) := (blk_cell BK214.out 3).trans rfl
       have hfs56 := blk_frozen BK214.out 3
       have hns56_0 := NB205_214.out
       have hns56_1 := NB211_214.out
       have hms56_0 := NB214_205.out
       have hms56_1 := NB214_211.out
       refine skip_ (w1 := ?_) (by rfl) rfl ?_ ?_
       rotate_left
       ·
        go_simp
        rfl
       refine hK.out _ _ ⟨((cell_far (p := ⟨gb214, _, none⟩) NB211_214.out _).trans (((cell_far (p := ⟨gb214, _, none⟩) NB211_214.out _).trans (((cell_far (p := ⟨gb214, _, none⟩) NB211_214.out _).trans (((cell_far (p := ⟨gb214, _, none⟩) NB211_214.out _).trans (hHeld.1)))))))), ((cell_far (p := ⟨gb214, _, none⟩) NB211_214.out _).trans (((cell_far (p := ⟨gb214, _, none⟩) NB211_214.out _).trans (((cell_far (p := ⟨gb214, _, none⟩) NB211_214.out _).trans (((cell_far (p := ⟨gb214, _, none⟩) NB211_214.out _).trans (hHeld.2.1)))))))), ((cell_far (p := ⟨gb214, _, none⟩) NB211_214.out _).trans (((cell_far (p := ⟨gb214, _, none⟩) NB211_214.out _).trans (((cell_far (p := ⟨gb214, _, none⟩) NB211_214.out _).trans (((cell_far (p := ⟨gb214, _, none⟩) NB211_214.out _).trans (hHeld.2.2.1)))))))), ((cell_far (p := ⟨gb214, _, none⟩) NB211_214.out _).trans (((cell_far (p := ⟨gb214, _, none⟩) NB211_214.out _).trans (((cell_far (p := ⟨gb214, _, none⟩) NB211_214.out _).trans (((cell_far (p := ⟨gb214, _, none⟩) NB211_214.out _).trans (hHeld.2.2.2))))))))⟩ (fun hHeld => ?_)
       clear hK K
       refine done_ (done_of HT_.out (by kernel_rfl)) ?_
       have hnb57 := NB211_214.out
       have hnc57 := NB214_211.out
       have hcz58_0 : w52.cell? ⟨gb211, 0, none⟩ = some (.bool false) := (blk_cell BK211.out 0).trans rfl
       have hcz58_1 : w52.cell? ⟨gb211, 1, none⟩ = some (.string t207) := (blk_cell BK211.out 1).trans rfl
       have hcz58_2 : w52.cell? ⟨gb211, 2, none⟩ = some (.int .i64 t208) := (blk_cell BK211.out 2).trans rfl
       have hcz58_3 : w52.cell? ⟨gb211, 3, none⟩ = some (.int .i64 t209) := (blk_cell BK211.out 3).trans rfl
       have hfz58_0 := blk_frozen BK211.out 0
       have hfz58_1 := blk_frozen BK211.out 1
       have hfz58_2 := blk_frozen BK211.out 2
       have hfz58_3 := blk_frozen BK211.out 3
       have hnb59 := NB214_205.out
       have hnc59 := NB205_214.out
       have hcz60_0 : w52.cell? ⟨gb214, 0, none⟩ = some (.bool false) := (blk_cell BK214.out 0).trans rfl
       have hcz60_1 : w52.cell? ⟨gb214, 1, none⟩ = some (.string (⟨#[]⟩ : ByteArray)) := (blk_cell BK214.out 1).trans rfl
       have hcz60_2 : w52.cell? ⟨gb214, 2, none⟩ = some (.string (⟨#[]⟩ : ByteArray)) := (blk_cell BK214.out 2).trans rfl
       have hcz60_3 : w52.cell? ⟨gb214, 3, none⟩ = some (.int .i64 0) := (blk_cell BK214.out 3).trans rfl
       have hfz60_0 := blk_frozen BK214.out 0
       have hfz60_1 := blk_frozen BK214.out 1
       have hfz60_2 := blk_frozen BK214.out 2
       have hfz60_3 := blk_frozen BK214.out 3
       have hcz61_0 : w52.cell? ⟨gb205, 0, none⟩ = some (.bool false) := (blk_cell BK205.out 0).trans rfl
       have hcz61_1 : w52.cell? ⟨gb205, 1, none⟩ = some (.string (⟨#[]⟩ : ByteArray)) := (blk_cell BK205.out 1).trans rfl
       have hcz61_2 : w52.cell? ⟨gb205, 2, none⟩ = some (.string (⟨#[]⟩ : ByteArray)) := (blk_cell BK205.out 2).trans rfl
       have hcz61_3 : w52.cell? ⟨gb205, 3, none⟩ = some (.int .i64 0) := (blk_cell BK205.out 3).trans rfl
       have hfz61_0 := blk_frozen BK205.out 0
       have hfz61_1 := blk_frozen BK205.out 1
       have hfz61_2 := blk_frozen BK205.out 2
       have hfz61_3 := blk_frozen BK205.out 3
       try go_wp2
       refine bodyPost_ret (results_cell_row rfl _ _ gb205 25 #[.bool false, .string ((t207.extract 0 (t208 : Int).toNat).extract (t212 : Int).toNat t208.toNat), .string t213, .int .i64 t210] (0, 0) _ rfl (by (with_reducible repeat (first | refine blk_drewN ?_ _ | refine blk_drew ?_ | refine blk_alloc ?_ _)); refine blk_put (cs := #[.bool false, .string ((t207.extract 0 (t208 : Int).toNat).extract (t212 : Int).toNat t208.toNat), .string t213, .int .i64 0]) ?_ 3 _ rfl; (with_reducible repeat (first | refine blk_drewN ?_ _ | refine blk_drew ?_ | refine blk_alloc ?_ _)); refine blk_put (cs := #[.bool false, .string ((t207.extract 0 (t208 : Int).toNat).extract (t212 : Int).toNat t208.toNat), .string (⟨#[]⟩ : ByteArray), .int .i64 0]) ?_ 2 _ rfl; (with_reducible repeat (first | refine blk_drewN ?_ _ | refine blk_drew ?_ | refine blk_alloc ?_ _)); refine blk_put (cs := #[.bool false, .string (⟨#[]⟩ : ByteArray), .string (⟨#[]⟩ : ByteArray), .int .i64 0]) ?_ 1 _ rfl; (with_reducible repeat (first | refine blk_drewN ?_ _ | refine blk_drew ?_ | refine blk_alloc ?_ _)); refine blk_put (cs := #[.bool false, .string (⟨#[]⟩ : ByteArray), .string (⟨#[]⟩ : ByteArray), .int .i64 0]) ?_ 0 _ rfl; (with_reducible repeat (first | refine blk_drewN ?_ _ | refine blk_drew ?_ | refine blk_alloc ?_ _)); refine blk_far ?_ NB205_214.out _; (with_reducible repeat (first | refine blk_drewN ?_ _ | refine blk_drew ?_ | refine blk_alloc ?_ _)); refine blk_far ?_ NB205_214.out _; (with_reducible repeat (first | refine blk_drewN ?_ _ | refine blk_drew ?_ | refine blk_alloc ?_ _)); refine blk_far ?_ NB205_214.out _; (with_reducible repeat (first | refine blk_drewN ?_ _ | refine blk_drew ?_ | refine blk_alloc ?_ _)); refine blk_far ?_ NB205_214.out _; (with_reducible repeat (first | refine blk_drewN ?_ _ | refine blk_drew ?_ | refine blk_alloc ?_ _)); refine blk_far ?_ NB205_214.out _; (with_reducible repeat (first | refine blk_drewN ?_ _ | refine blk_drew ?_ | refine blk_alloc ?_ _)); exact BK205.out) Tryd.underlying25 rfl (by kernel_rfl)) rfl ?_
       exact ⟨qng6_, qng28_⟩
     ·
      rw [if_neg c17] at H
      exact absurd H (by simp)
    ·
     rw [if_neg c16] at H
     exact absurd H (by simp)
   ·
    rw [if_neg c14] at H
    exact absurd H (by simp)
  ·
   rw [if_neg c13] at H
   exact absurd H (by simp)


/-! ### millref3_letter: function 40 -/
def millref3_letter.l0 : Nat → Int → Int → Option (Int)
 | 0, _, _ => none
 | k + 1, x0, x3 => if x3 < 10 then (if 0 ≤ x3 then (if (bt (⟨#[75, 77, 71, 84, 80, 69, 90, 89, 82, 81]⟩ : ByteArray) x3) = x0 then (some (wrap64 (x3 + 1))) else (millref3_letter.l0 k x0 (wrap64 (x3 + 1)))) else (none)) else (some 0)
def millref3_letter.f (k : Nat) (a0 : Int) : Option (Int) := if a0 = 107 then (some 1) else (millref3_letter.l0 k a0 0)
set_option maxHeartbeats 8000000 in
set_option maxRecDepth 100000 in
theorem millref3_letter.calls (k : Nat) (a0 : Int) (r : Int) (w : World) (h : millref3_letter.f k a0 = some r) :
  Calls Tryd.prog 40 #[.int .u8 a0] w fun e w' => e = .returned (.int .i64 r) ∧ Drawn0 w w' := by
 have H : (if a0 = 107 then (some 1) else (millref3_letter.l0 k a0 0)) = some r := h
 clear h
 by_cases c2 : a0 = 107
 ·
  rw [if_pos c2] at H
  have c2b0 : (a0 == 107) = true := beq_iff_eq.mpr c2
  have c2b1 : (a0 != 107) = false := bne_eq_false_iff_eq.mpr c2
  clear c2
  obtain rfl := Option.some.inj H
  go_enter Tryd.func40, Tryd.ntmps40
  go_wp2
  go_ret
  exact ⟨qng2_, qng4_⟩
 ·
  rw [if_neg c2] at H
  have c2b0 : (a0 == 107) = false := beq_eq_false_iff_ne.mpr c2
  have c2b1 : (a0 != 107) = true := bne_iff_ne.mpr c2
  have H' := Aside0.mk H
  clear H
  go_enter Tryd.func40, Tryd.ntmps40
  go_wp2
  go_loopg [3] k (fun kq v3 w' => ∃ (x3_1 : Int), v3 = .int .i64 x3_1 ∧ Aside0 (millref3_letter.l0 kq a0 x3_1 = some r) ∧ Aside0 (kq ≤ k) ∧ Drawn0 w w')
  case atStart => exact ⟨(0), qng2_, H', ⟨Nat.le_refl _⟩, qng4_⟩
  case round =>
   clear H'
   (try clear c2); (try clear c2b0); (try clear c2b1); (try clear p2)
   obtain ⟨x3_1, rfl, HA, HK1, ⟨m1, rfl⟩⟩ := hrel
   cases gk with
   | zero => exact absurd HA.out (by simp [millref3_letter.l0])
   | succ k1 =>
    have H := HA.out
    clear HA
    simp only [millref3_letter.l0] at H
    by_cases c3 : x3_1 < 10
    ·
     rw [if_pos c3] at H
     have c3b0 : decide (x3_1 < 10) = true := decide_eq_true c3
     clear c3
     by_cases c4 : 0 ≤ x3_1
     ·
      rw [if_pos c4] at H
      have c4b0 : decide (0 ≤ x3_1) = true := decide_eq_true c4
      clear c4
      by_cases c6 : (bt (⟨#[75, 77, 71, 84, 80, 69, 90, 89, 82, 81]⟩ : ByteArray) x3_1) = a0
      ·
       rw [if_pos c6] at H
       have c6b0 : ((bt (⟨#[75, 77, 71, 84, 80, 69, 90, 89, 82, 81]⟩ : ByteArray) x3_1) == a0) = true := beq_iff_eq.mpr c6
       have c6b1 : ((bt (⟨#[75, 77, 71, 84, 80, 69, 90, 89, 82, 81]⟩ : ByteArray) x3_1) != a0) = false := bne_eq_false_iff_eq.mpr c6
       clear c6
       obtain rfl := Option.some.inj H
       have p5 : 0 ≤ (x3_1 : Int) := of_decide_eq_true qng3_
       have q5 : x3_1 < (10 : Int) := of_decide_eq_true qng3_
       have hx5 := bt_at (⟨#[75, 77, 71, 84, 80, 69, 90, 89, 82, 81]⟩ : ByteArray) x3_1
       replace p5 := eq_true p5
       replace q5 := eq_true q5
       go_wp2
       go_ret
       exact ⟨qng2_, qng4_⟩
      ·
       rw [if_neg c6] at H
       have c6b0 : ((bt (⟨#[75, 77, 71, 84, 80, 69, 90, 89, 82, 81]⟩ : ByteArray) x3_1) == a0) = false := beq_eq_false_iff_ne.mpr c6
       have c6b1 : ((bt (⟨#[75, 77, 71, 84, 80, 69, 90, 89, 82, 81]⟩ : ByteArray) x3_1) != a0) = true := bne_iff_ne.mpr c6
       have H' := Aside0.mk H
       clear H
       have p5 : 0 ≤ (x3_1 : Int) := of_decide_eq_true qng3_
       have q5 : x3_1 < (10 : Int) := of_decide_eq_true qng3_
       have hx5 := bt_at (⟨#[75, 77, 71, 84, 80, 69, 90, 89, 82, 81]⟩ : ByteArray) x3_1
       replace p5 := eq_true p5
       replace q5 := eq_true q5
       go_wp2
       go_roundg k1
       case measure => have := HK1.out; omega
       case rel => exact ⟨(wrap64 (x3_1 + 1)), qng2_, H', ⟨by have := HK1.out; omega⟩, qng4_⟩
     ·
      rw [if_neg c4] at H
      exact absurd H (by simp)
    ·
     rw [if_neg c3] at H
     have c3b0 : decide (x3_1 < 10) = false := decide_eq_false c3
     clear c3
     obtain rfl := Option.some.inj H
     go_wp2
     go_ret
     exact ⟨qng2_, qng4_⟩


/-! ### millref3_Human: function 21 -/
mutual
def millref3_Human.j0 : Nat → ByteArray → Int → Bool → Bool → ByteArray → ByteArray → Int → Option (Bool × ByteArray × ByteArray × Int × Int)
 | 0, _, _, _, _, _, _, _ => none
 | k + 1, x0, x5, x17, x221000, x221001, x221002, x221003 => if x17 = true then (if 0 ≤ x221003 then (if x221003 < (x0.size : Int) then ((millref3_letter.f k (bt x0 x221003)).bind fun t221 => (millref3_Human.j1 k t221 x221000 x221001 x221002 x221003)) else (none)) else (none)) else (millref3_Human.j1 k x5 x221000 x221001 x221002 x221003)
def millref3_Human.j1 : Nat → Int → Bool → ByteArray → ByteArray → Int → Option (Bool × ByteArray × ByteArray × Int × Int)
 | 0, _, _, _, _, _ => none
 | k + 1, x5, x221000, x221001, x221002, x221003 => if x5 > 0 then (if x221001.size + x221002.size ≤ 9223372036854775807 then (if (x221001 ++ x221002).toList = ([] : List UInt8) then (some (x221000, x221001, x221002, wrap64 (x221003 + 1), 0)) else (some (x221000, x221001, x221002, wrap64 (x221003 + 1), x5))) else (none)) else (if x221001.size + x221002.size ≤ 9223372036854775807 then (if (x221001 ++ x221002).toList = ([] : List UInt8) then (some (x221000, x221001, x221002, x221003, 0)) else (some (x221000, x221001, x221002, x221003, x5))) else (none))
end
def millref3_Human.f (k : Nat) (a0 : ByteArray) : Option (Bool × ByteArray × ByteArray × Int × Int) := (millref3_Decimal.f k a0).bind fun bt216 => (if bt216.2.2.2 > 0 then (millref3_Human.j0 k a0 0 (decide (bt216.2.2.2 < (a0.size : Int))) bt216.1 bt216.2.1 bt216.2.2.1 bt216.2.2.2) else (millref3_Human.j0 k a0 0 false bt216.1 bt216.2.1 bt216.2.2.1 bt216.2.2.2))
set_option maxHeartbeats 8000000 in
set_option maxRecDepth 100000 in
theorem millref3_Human.calls (k : Nat) (a0 : ByteArray) (r1 : Bool) (r2 : ByteArray) (r3 : ByteArray) (r4 : Int) (r5 : Int) (w : World) (h : millref3_Human.f k a0 = some (r1, r2, r3, r4, r5)) :
  Calls Tryd.prog 21 #[.string a0] w fun e w' => e = .returned (.tuple #[.agg #[.bool r1, .string r2, .string r3, .int .i64 r4], .int .i64 r5]) ∧ Below w.heap.size w w' := by
 have hu25 := Tryd.underlying25
 have HB := Aside0.mk (Below.refl w.heap.size w)
 have H : ((millref3_Decimal.f k a0).bind fun bt216 => (if bt216.2.2.2 > 0 then (millref3_Human.j0 k a0 0 (decide (bt216.2.2.2 < (a0.size : Int))) bt216.1 bt216.2.1 bt216.2.2.1 bt216.2.2.2) else (millref3_Human.j0 k a0 0 false bt216.1 bt216.2.1 bt216.2.2.1 bt216.2.2.2))) = some (r1, r2, r3, r4, r5) := h
 clear h
 replace H := Option.bind_eq_some_iff.mp H
 obtain ⟨⟨t216, t217, t218, t219⟩, A20, H⟩ := H
 replace H : (if t219 > 0 then (millref3_Human.j0 k a0 0 (decide (t219 < (a0.size : Int))) t216 t217 t218 t219) else (millref3_Human.j0 k a0 0 false t216 t217 t218 t219)) = some (r1, r2, r3, r4, r5) := H
 have A2 := Aside0.mk A20
 clear A20
 have HC3 := Aside0.mk H
 clear H
 go_enter Tryd.func21, Tryd.ntmps21
 have tk9 : True := trivial; have tk10 : True := trivial; have tk11 : True := trivial
 go_upto_region 3 with (first | (have ztk9 := tk9; clear tk9 ztk9; (with_reducible refine gate_dst (N := 2) rfl ?_); (try (refine gate_guard (by rfl) ?_; dsimp only)); refine box_event ?hg (N := 2) ?hd (cs := #[.bool false, .string (⟨#[]⟩ : ByteArray), .string (⟨#[]⟩ : ByteArray), .int .i64 0]) (t := 25) ?hr ?_; (case hd => rfl); (case hg => rfl); (case hr => first | (go_simp; done) | (go_simp; rfl)); intro gb215 hg w4 hbox hb; have n0_ := Aside0.mk (below_step qng1_ hb); have n1_ := Aside0.mk (hbox); have n2_ := Aside0.mk ((by rw [hg]; exact (below_size qng1_) : w.heap.size ≤ gb215)); have n3_ := Aside0.mk ((by rw [hg]; exact (below_size qng1_) : w.heap.size ≤ gb215)); clear HB; have HB := n0_; have BK215 := n1_; have GW215 := n2_; have GE215 := n3_; clear n0_ n1_ n2_ n3_; clear hb hbox hg) | (have ztk10 := tk10; clear tk10 ztk10; (with_reducible refine gate_callee (f := 22) rfl ?_); refine goesL_ (some 7) rfl rfl Tryd.func22 (by kernel_rfl) rfl #[.string a0] rfl qng0_ ?_; (with_reducible refine (millref3_Decimal.calls k a0 t216 t217 t218 t219 _ A2.out).mono ?_); rintro e w5 ⟨rfl, hb⟩; refine ⟨_, rfl, ?_⟩; have n0_ := Aside0.mk (blk_below (g := gb215) (o := .cells #[.bool false, .string (⟨#[]⟩ : ByteArray), .string (⟨#[]⟩ : ByteArray), .int .i64 0] 25 (0, 0)) qng55_ hb); have n1_ := Aside0.mk (below_step qng59_ hb); clear BK215; clear HB; have BK215 := n0_; have HB := n1_; clear n0_ n1_; (try clear hb); (try clear hb2); (try clear hk); (try clear hi)) | (have ztk11 := tk11; clear tk11 ztk11; (with_reducible refine gate_dst (N := 4) rfl ?_); (try (refine gate_guard (by rfl) ?_; dsimp only)); refine box_event ?hg (N := 4) ?hd (cs := #[.bool false, .string (⟨#[]⟩ : ByteArray), .string (⟨#[]⟩ : ByteArray), .int .i64 0]) (t := 25) ?hr ?_; (case hd => rfl); (case hg => rfl); (case hr => first | (go_simp; done) | (go_simp; rfl)); intro gb220 hg w6 hbox hb; have n0_ := Aside0.mk (blk_below (g := gb215) (o := .cells #[.bool false, .string (⟨#[]⟩ : ByteArray), .string (⟨#[]⟩ : ByteArray), .int .i64 0] 25 (0, 0)) qng55_ hb); have n1_ := Aside0.mk (below_step qng59_ hb); have n2_ := Aside0.mk (hbox); have n3_ := Aside0.mk ((by rw [hg]; exact (below_size qng59_) : w.heap.size ≤ gb220)); have n4_ := Aside0.mk ((by rw [hg]; exact (below_size qng59_) : w.heap.size ≤ gb220)); have n5_ := Aside0.mk ((by rw [hg]; exact Nat.ne_of_lt (blk_lt (g := gb215) (o := .cells #[.bool false, .string (⟨#[]⟩ : ByteArray), .string (⟨#[]⟩ : ByteArray), .int .i64 0] 25 (0, 0)) qng55_) : gb215 ≠ gb220)); have n6_ := Aside0.mk ((by rw [hg]; exact Nat.ne_of_gt (blk_lt (g := gb215) (o := .cells #[.bool false, .string (⟨#[]⟩ : ByteArray), .string (⟨#[]⟩ : ByteArray), .int .i64 0] 25 (0, 0)) qng55_) : gb220 ≠ gb215)); clear BK215; clear HB; have BK215 := n0_; have HB := n1_; have BK220 := n2_; have GW220 := n3_; have GE220 := n4_; have NB215_220 := n5_; have NB220_215 := n6_; clear n0_ n1_ n2_ n3_ n4_ n5_ n6_; clear hb hbox hg; have hnb7 := NB220_215.out; have hnc7 := NB215_220.out; have hcz8_0 : w6.cell? ⟨gb220, 0, none⟩ = some (.bool false) := (blk_cell BK220.out 0).trans rfl; have hcz8_1 : w6.cell? ⟨gb220, 1, none⟩ = some (.string (⟨#[]⟩ : ByteArray)) := (blk_cell BK220.out 1).trans rfl; have hcz8_2 : w6.cell? ⟨gb220, 2, none⟩ = some (.string (⟨#[]⟩ : ByteArray)) := (blk_cell BK220.out 2).trans rfl; have hcz8_3 : w6.cell? ⟨gb220, 3, none⟩ = some (.int .i64 0) := (blk_cell BK220.out 3).trans rfl; have hfz8_0 := blk_frozen BK220.out 0; have hfz8_1 := blk_frozen BK220.out 1; have hfz8_2 := blk_frozen BK220.out 2; have hfz8_3 := blk_frozen BK220.out 3))
 (try simp only [Act.put, List.setIfInBounds_toArray, List.set_cons_zero, List.set_cons_succ])
 go_cut [17] (fun v17 wc => ∃ (kq : Nat) (x17_2 : Bool), v17 = .bool x17_2 ∧ Aside0 (millref3_Human.j0 kq a0 0 x17_2 t216 t217 t218 t219 = some (r1, r2, r3, r4, r5)) ∧ Aside0 (kq ≤ k) ∧ Aside0 (wc.heap[gb215]? = some (.cells #[.bool false, .string (⟨#[]⟩ : ByteArray), .string (⟨#[]⟩ : ByteArray), .int .i64 0] 25 (0, 0))) ∧ Aside0 (wc.heap[gb220]? = some (.cells #[.bool t216, .string t217, .string t218, .int .i64 t219] 25 (0, 0))) ∧ Aside0 (Below w.heap.size w wc))
 case first =>
  have H := HC3.out
  clear HC3
  by_cases c12 : t219 > 0
  ·
   rw [if_pos c12] at H
   have c12b0 : decide (0 < t219) = true := decide_eq_true c12
   clear c12
   (first | rw [c12b0] | (simp only [i64_w, i32_w]; rw [c12b0]) | skip)
   have H' := Aside0.mk H
   clear H
   have hnb13 := NB220_215.out
   have hnc13 := NB215_220.out
   have hcz14_0 : w6.cell? ⟨gb220, 0, none⟩ = some (.bool false) := (blk_cell BK220.out 0).trans rfl
   have hcz14_1 : w6.cell? ⟨gb220, 1, none⟩ = some (.string (⟨#[]⟩ : ByteArray)) := (blk_cell BK220.out 1).trans rfl
   have hcz14_2 : w6.cell? ⟨gb220, 2, none⟩ = some (.string (⟨#[]⟩ : ByteArray)) := (blk_cell BK220.out 2).trans rfl
   have hcz14_3 : w6.cell? ⟨gb220, 3, none⟩ = some (.int .i64 0) := (blk_cell BK220.out 3).trans rfl
   have hfz14_0 := blk_frozen BK220.out 0
   have hfz14_1 := blk_frozen BK220.out 1
   have hfz14_2 := blk_frozen BK220.out 2
   have hfz14_3 := blk_frozen BK220.out 3
   go_wp2
   go_meet
   case rel => exact ⟨_, (decide (t219 < (a0.size : Int))), qng2_, H', ⟨by first | omega | exact Nat.le_refl _⟩, ⟨by (with_reducible repeat (first | refine blk_drewN ?_ _ | refine blk_drew ?_ | refine blk_alloc ?_ _)); refine blk_far ?_ NB215_220.out _; (with_reducible repeat (first | refine blk_drewN ?_ _ | refine blk_drew ?_ | refine blk_alloc ?_ _)); refine blk_far ?_ NB215_220.out _; (with_reducible repeat (first | refine blk_drewN ?_ _ | refine blk_drew ?_ | refine blk_alloc ?_ _)); refine blk_far ?_ NB215_220.out _; (with_reducible repeat (first | refine blk_drewN ?_ _ | refine blk_drew ?_ | refine blk_alloc ?_ _)); refine blk_far ?_ NB215_220.out _; (with_reducible repeat (first | refine blk_drewN ?_ _ | refine blk_drew ?_ | refine blk_alloc ?_ _)); exact BK215.out⟩, ⟨by (with_reducible repeat (first | refine blk_drewN ?_ _ | refine blk_drew ?_ | refine blk_alloc ?_ _)); refine blk_put (cs := #[.bool t216, .string t217, .string t218, .int .i64 0]) ?_ 3 _ rfl; (with_reducible repeat (first | refine blk_drewN ?_ _ | refine blk_drew ?_ | refine blk_alloc ?_ _)); refine blk_put (cs := #[.bool t216, .string t217, .string (⟨#[]⟩ : ByteArray), .int .i64 0]) ?_ 2 _ rfl; (with_reducible repeat (first | refine blk_drewN ?_ _ | refine blk_drew ?_ | refine blk_alloc ?_ _)); refine blk_put (cs := #[.bool t216, .string (⟨#[]⟩ : ByteArray), .string (⟨#[]⟩ : ByteArray), .int .i64 0]) ?_ 1 _ rfl; (with_reducible repeat (first | refine blk_drewN ?_ _ | refine blk_drew ?_ | refine blk_alloc ?_ _)); refine blk_put (cs := #[.bool false, .string (⟨#[]⟩ : ByteArray), .string (⟨#[]⟩ : ByteArray), .int .i64 0]) ?_ 0 _ rfl; (with_reducible repeat (first | refine blk_drewN ?_ _ | refine blk_drew ?_ | refine blk_alloc ?_ _)); exact BK220.out⟩, ⟨qng31_⟩⟩
  ·
   rw [if_neg c12] at H
   have c12b0 : decide (0 < t219) = false := decide_eq_false c12
   clear c12
   (first | rw [c12b0] | (simp only [i64_w, i32_w]; rw [c12b0]) | skip)
   have H' := Aside0.mk H
   clear H
   have hnb15 := NB220_215.out
   have hnc15 := NB215_220.out
   have hcz16_0 : w6.cell? ⟨gb220, 0, none⟩ = some (.bool false) := (blk_cell BK220.out 0).trans rfl
   have hcz16_1 : w6.cell? ⟨gb220, 1, none⟩ = some (.string (⟨#[]⟩ : ByteArray)) := (blk_cell BK220.out 1).trans rfl
   have hcz16_2 : w6.cell? ⟨gb220, 2, none⟩ = some (.string (⟨#[]⟩ : ByteArray)) := (blk_cell BK220.out 2).trans rfl
   have hcz16_3 : w6.cell? ⟨gb220, 3, none⟩ = some (.int .i64 0) := (blk_cell BK220.out 3).trans rfl
   have hfz16_0 := blk_frozen BK220.out 0
   have hfz16_1 := blk_frozen BK220.out 1
   have hfz16_2 := blk_frozen BK220.out 2
   have hfz16_3 := blk_frozen BK220.out 3
   go_wp2
   go_meet
   case rel => exact ⟨_, (false), qng2_, H', ⟨by first | omega | exact Nat.le_refl _⟩, ⟨by (with_reducible repeat (first | refine blk_drewN ?_ _ | refine blk_drew ?_ | refine blk_alloc ?_ _)); refine blk_far ?_ NB215_220.out _; (with_reducible repeat (first | refine blk_drewN ?_ _ | refine blk_drew ?_ | refine blk_alloc ?_ _)); refine blk_far ?_ NB215_220.out _; (with_reducible repeat (first | refine blk_drewN ?_ _ | refine blk_drew ?_ | refine blk_alloc ?_ _)); refine blk_far ?_ NB215_220.out _; (with_reducible repeat (first | refine blk_drewN ?_ _ | refine blk_drew ?_ | refine blk_alloc ?_ _)); refine blk_far ?_ NB215_220.out _; (with_reducible repeat (first | refine blk_drewN ?_ _ | refine blk_drew ?_ | refine blk_alloc ?_ _)); exact BK215.out⟩, ⟨by (with_reducible repeat (first | refine blk_drewN ?_ _ | refine blk_drew ?_ | refine blk_alloc ?_ _)); refine blk_put (cs := #[.bool t216, .string t217, .string t218, .int .i64 0]) ?_ 3 _ rfl; (with_reducible repeat (first | refine blk_drewN ?_ _ | refine blk_drew ?_ | refine blk_alloc ?_ _)); refine blk_put (cs := #[.bool t216, .string t217, .string (⟨#[]⟩ : ByteArray), .int .i64 0]) ?_ 2 _ rfl; (with_reducible repeat (first | refine blk_drewN ?_ _ | refine blk_drew ?_ | refine blk_alloc ?_ _)); refine blk_put (cs := #[.bool t216, .string (⟨#[]⟩ : ByteArray), .string (⟨#[]⟩ : ByteArray), .int .i64 0]) ?_ 1 _ rfl; (with_reducible repeat (first | refine blk_drewN ?_ _ | refine blk_drew ?_ | refine blk_alloc ?_ _)); refine blk_put (cs := #[.bool false, .string (⟨#[]⟩ : ByteArray), .string (⟨#[]⟩ : ByteArray), .int .i64 0]) ?_ 0 _ rfl; (with_reducible repeat (first | refine blk_drewN ?_ _ | refine blk_drew ?_ | refine blk_alloc ?_ _)); exact BK220.out⟩, ⟨qng31_⟩⟩
 case rest =>
  clear HC3
  (try clear c1); (try clear c2); (try clear p2); (try clear c7); (try clear c12); (try clear c12b0); (try clear c13); (try clear c15); (try clear hcz14_0); (try clear hcz14_1); (try clear hcz14_2); (try clear hcz14_3); (try clear hcz16_0); (try clear hcz16_1); (try clear hcz16_2); (try clear hcz16_3); (try clear hcz8_0); (try clear hcz8_1); (try clear hcz8_2); (try clear hcz8_3); (try clear hfz14_0)
  (try clear hfz14_1); (try clear hfz14_2); (try clear hfz14_3); (try clear hfz16_0); (try clear hfz16_1); (try clear hfz16_2); (try clear hfz16_3); (try clear hfz8_0); (try clear hfz8_1); (try clear hfz8_2); (try clear hfz8_3)
  obtain ⟨kq, x17_2, rfl, HA, HJ2, BK215, BK220, HB⟩ := hcut
  cases kq with
  | zero => exact absurd HA.out (by simp [millref3_Human.j0])
  | succ kj2 =>
   have H := HA.out
   clear HA
   simp only [millref3_Human.j0] at H
   have HC17 := Aside0.mk H
   clear H
   go_upto_if 17 with (fail)
   go_cut [5] (fun v5 wc => ∃ (kq : Nat) (x5_16 : Int), v5 = .int .i64 x5_16 ∧ Aside0 (millref3_Human.j1 kq x5_16 t216 t217 t218 t219 = some (r1, r2, r3, r4, r5)) ∧ Aside0 (kq ≤ kj2) ∧ Aside0 (wc.heap[gb215]? = some (.cells #[.bool false, .string (⟨#[]⟩ : ByteArray), .string (⟨#[]⟩ : ByteArray), .int .i64 0] 25 (0, 0))) ∧ Aside0 (wc.heap[gb220]? = some (.cells #[.bool t216, .string t217, .string t218, .int .i64 t219] 25 (0, 0))) ∧ Aside0 (Below w.heap.size w wc))
   case first =>
    have H := HC17.out
    clear HC17
    by_cases c18 : x17_2 = true
    ·
     subst c18
     have H1 : (if 0 ≤ t219 then (if t219 < (a0.size : Int) then ((millref3_letter.f kj2 (bt a0 t219)).bind fun t221 => (millref3_Human.j1 kj2 t221 t216 t217 t218 t219)) else (none)) else (none)) = some (r1, r2, r3, r4, r5) := by rw [if_pos rfl] at H; exact H
     clear H
     have H := H1
     clear H1
     by_cases c19 : 0 ≤ t219
     ·
      rw [if_pos c19] at H
      have c19b0 : decide (0 ≤ t219) = true := decide_eq_true c19
      clear c19
      (first | rw [c19b0] | (simp only [i64_w, i32_w]; rw [c19b0]) | skip)
      by_cases c20 : t219 < (a0.size : Int)
      ·
       rw [if_pos c20] at H
       have c20b0 : decide (t219 < (a0.size : Int)) = true := decide_eq_true c20
       clear c20
       replace H := Option.bind_eq_some_iff.mp H
       obtain ⟨t221, A220, H⟩ := H
       replace H : (millref3_Human.j1 kj2 t221 t216 t217 t218 t219) = some (r1, r2, r3, r4, r5) := H
       have A22 := Aside0.mk A220
       clear A220
       have H' := Aside0.mk H
       clear H
       have hnb23 := NB220_215.out
       have hnc23 := NB215_220.out
       have hcz24_0 : wc.cell? ⟨gb220, 0, none⟩ = some (.bool t216) := (blk_cell BK220.out 0).trans rfl
       have hcz24_1 : wc.cell? ⟨gb220, 1, none⟩ = some (.string t217) := (blk_cell BK220.out 1).trans rfl
       have hcz24_2 : wc.cell? ⟨gb220, 2, none⟩ = some (.string t218) := (blk_cell BK220.out 2).trans rfl
       have hcz24_3 : wc.cell? ⟨gb220, 3, none⟩ = some (.int .i64 t219) := (blk_cell BK220.out 3).trans rfl
       have hfz24_0 := blk_frozen BK220.out 0
       have hfz24_1 := blk_frozen BK220.out 1
       have hfz24_2 := blk_frozen BK220.out 2
       have hfz24_3 := blk_frozen BK220.out 3
       have p21 : 0 ≤ (t219 : Int) := of_decide_eq_true qng3_
       have q21 : t219 < (a0.size : Int) := of_decide_eq_true qng3_
       have hx21 := bt_at a0 t219
       replace p21 := eq_true p21
       replace q21 := eq_true q21
       go_wp2_with (first | ((with_reducible refine gate_callee (f := 40) rfl ?_); refine goesL_ (some 22) rfl rfl Tryd.func40 (by kernel_rfl) rfl #[.int .u8 (bt a0 t219)] rfl qng0_ ?_; (with_reducible refine (millref3_letter.calls kj2 (bt a0 t219) t221 _ A22.out).mono ?_); rintro e w' ⟨rfl, ⟨nd, rfl⟩⟩; refine ⟨_, rfl, ?_⟩))
       go_meet
       case rel => exact ⟨_, (t221), qng2_, H', ⟨by have := HJ2.out; first | omega | exact Nat.le_refl _⟩, ⟨qng55_⟩, ⟨by (with_reducible repeat (first | refine blk_drewN ?_ _ | refine blk_drew ?_ | refine blk_alloc ?_ _)); exact BK220.out⟩, ⟨qng31_⟩⟩
      ·
       rw [if_neg c20] at H
       exact absurd H (by simp)
     ·
      rw [if_neg c19] at H
      exact absurd H (by simp)
    ·
     replace c18 := Bool.eq_false_iff.mpr c18
     subst c18
     have H1 : (millref3_Human.j1 kj2 0 t216 t217 t218 t219) = some (r1, r2, r3, r4, r5) := by rw [if_neg (show ¬ (false = true) by decide)] at H; exact H
     clear H
     have H := H1
     clear H1
     have H' := Aside0.mk H
     clear H
     go_wp2
     go_meet
     case rel => exact ⟨_, (0), qng2_, H', ⟨by have := HJ2.out; first | omega | exact Nat.le_refl _⟩, ⟨qng55_⟩, ⟨by (with_reducible repeat (first | refine blk_drewN ?_ _ | refine blk_drew ?_ | refine blk_alloc ?_ _)); exact BK220.out⟩, ⟨qng31_⟩⟩
   case rest =>
    clear HC17
    (try clear c1); (try clear c2); (try clear p2); (try clear q2); (try clear hx2); (try clear c4); (try clear c7); (try clear c12); (try clear c12b0); (try clear c13); (try clear c15); (try clear c18); (try clear c19); (try clear c19b0); (try clear c20); (try clear c20b0); (try clear c21); (try clear p21); (try clear q21); (try clear hx21); (try clear c22); (try clear c23); (try clear hcz14_0); (try clear hcz14_1)
    (try clear hcz14_2); (try clear hcz14_3); (try clear hcz16_0); (try clear hcz16_1); (try clear hcz16_2); (try clear hcz16_3); (try clear hcz24_0); (try clear hcz24_1); (try clear hcz24_2); (try clear hcz24_3); (try clear hcz8_0); (try clear hcz8_1); (try clear hcz8_2); (try clear hcz8_3); (try clear hfz14_0); (try clear hfz14_1); (try clear hfz14_2); (try clear hfz14_3); (try clear hfz16_0); (try clear hfz16_1)
    (try clear hfz16_2); (try clear hfz16_3); (try clear hfz24_0); (try clear hfz24_1); (try clear hfz24_2); (try clear hfz24_3); (try clear hfz8_0); (try clear hfz8_1); (try clear hfz8_2); (try clear hfz8_3); (try clear p2); (try clear p21); (try clear q21)
    obtain ⟨kq, x5_16, rfl, HA, HJ16, BK215, BK220, HB⟩ := hcut
    cases kq with
    | zero => exact absurd HA.out (by simp [millref3_Human.j1])
    | succ kj16 =>
     have H := HA.out
     clear HA
     simp only [millref3_Human.j1] at H
     by_cases c25 : x5_16 > 0
     ·
      rw [if_pos c25] at H
      have c25b0 : decide (0 < x5_16) = true := decide_eq_true c25
      clear c25
      by_cases c26 : t217.size + t218.size ≤ 9223372036854775807
      ·
       rw [if_pos c26] at H
       have c26b0 := eq_true c26
       have c26b1 : decide (t217.size + t218.size ≤ 9223372036854775807) = true := decide_eq_true c26
       try have c26b2 : (9223372036854775807 < t217.size + t218.size) = False := eq_false (Nat.not_lt.2 c26)
       by_cases c27 : (t217 ++ t218).toList = ([] : List UInt8)
       ·
        rw [if_pos c27] at H
        have c27b0 : ((t217 ++ t218).toList == ([] : List UInt8)) = true := beq_iff_eq.mpr c27
        have c27b1 : ((t217 ++ t218).toList != ([] : List UInt8)) = false := bne_eq_false_iff_eq.mpr c27
        clear c27
        simp only [Option.some.injEq, Prod.mk.injEq] at H
        obtain ⟨rfl, rfl, rfl, rfl, rfl⟩ := H
        have hnb28 := NB220_215.out
        have hnc28 := NB215_220.out
        have hcz29_0 : wc.cell? ⟨gb220, 0, none⟩ = some (.bool t216) := (blk_cell BK220.out 0).trans rfl
        have hcz29_1 : wc.cell? ⟨gb220, 1, none⟩ = some (.string t217) := (blk_cell BK220.out 1).trans rfl
        have hcz29_2 : wc.cell? ⟨gb220, 2, none⟩ = some (.string t218) := (blk_cell BK220.out 2).trans rfl
        have hcz29_3 : wc.cell? ⟨gb220, 3, none⟩ = some (.int .i64 t219) := (blk_cell BK220.out 3).trans rfl
        have hfz29_0 := blk_frozen BK220.out 0
        have hfz29_1 := blk_frozen BK220.out 1
        have hfz29_2 := blk_frozen BK220.out 2
        have hfz29_3 := blk_frozen BK220.out 3
        have hcz30_0 : wc.cell? ⟨gb215, 0, none⟩ = some (.bool false) := (blk_cell BK215.out 0).trans rfl
        have hcz30_1 : wc.cell? ⟨gb215, 1, none⟩ = some (.string (⟨#[]⟩ : ByteArray)) := (blk_cell BK215.out 1).trans rfl
        have hcz30_2 : wc.cell? ⟨gb215, 2, none⟩ = some (.string (⟨#[]⟩ : ByteArray)) := (blk_cell BK215.out 2).trans rfl
        have hcz30_3 : wc.cell? ⟨gb215, 3, none⟩ = some (.int .i64 0) := (blk_cell BK215.out 3).trans rfl
        have hfz30_0 := blk_frozen BK215.out 0
        have hfz30_1 := blk_frozen BK215.out 1
        have hfz30_2 := blk_frozen BK215.out 2
        have hfz30_3 := blk_frozen BK215.out 3
        go_wp2
        refine bodyPost_ret (results_ct rfl _ _ gb215 25 #[.bool t216, .string t217, .string t218, .int .i64 (wrap64 (t219 + 1))] (0, 0) _ rfl (by (with_reducible repeat (first | refine blk_drewN ?_ _ | refine blk_drew ?_ | refine blk_alloc ?_ _)); refine blk_put (cs := #[.bool t216, .string t217, .string t218, .int .i64 0]) ?_ 3 _ rfl; (with_reducible repeat (first | refine blk_drewN ?_ _ | refine blk_drew ?_ | refine blk_alloc ?_ _)); refine blk_put (cs := #[.bool t216, .string t217, .string (⟨#[]⟩ : ByteArray), .int .i64 0]) ?_ 2 _ rfl; (with_reducible repeat (first | refine blk_drewN ?_ _ | refine blk_drew ?_ | refine blk_alloc ?_ _)); refine blk_put (cs := #[.bool t216, .string (⟨#[]⟩ : ByteArray), .string (⟨#[]⟩ : ByteArray), .int .i64 0]) ?_ 1 _ rfl; (with_reducible repeat (first | refine blk_drewN ?_ _ | refine blk_drew ?_ | refine blk_alloc ?_ _)); refine blk_put (cs := #[.bool false, .string (⟨#[]⟩ : ByteArray), .string (⟨#[]⟩ : ByteArray), .int .i64 0]) ?_ 0 _ rfl; (with_reducible repeat (first | refine blk_drewN ?_ _ | refine blk_drew ?_ | refine blk_alloc ?_ _)); refine blk_far ?_ NB215_220.out _; (with_reducible repeat (first | refine blk_drewN ?_ _ | refine blk_drew ?_ | refine blk_alloc ?_ _)); exact BK215.out) Tryd.underlying25 rfl (by kernel_rfl)) rfl ?_
        exact ⟨qng6_, qng31_⟩
       ·
        rw [if_neg c27] at H
        have c27b0 : ((t217 ++ t218).toList == ([] : List UInt8)) = false := beq_eq_false_iff_ne.mpr c27
        have c27b1 : ((t217 ++ t218).toList != ([] : List UInt8)) = true := bne_iff_ne.mpr c27
        simp only [Option.some.injEq, Prod.mk.injEq] at H
        obtain ⟨rfl, rfl, rfl, rfl, rfl⟩ := H
        have hnb31 := NB220_215.out
        have hnc31 := NB215_220.out
        have hcz32_0 : wc.cell? ⟨gb220, 0, none⟩ = some (.bool t216) := (blk_cell BK220.out 0).trans rfl
        have hcz32_1 : wc.cell? ⟨gb220, 1, none⟩ = some (.string t217) := (blk_cell BK220.out 1).trans rfl
        have hcz32_2 : wc.cell? ⟨gb220, 2, none⟩ = some (.string t218) := (blk_cell BK220.out 2).trans rfl
        have hcz32_3 : wc.cell? ⟨gb220, 3, none⟩ = some (.int .i64 t219) := (blk_cell BK220.out 3).trans rfl
        have hfz32_0 := blk_frozen BK220.out 0
        have hfz32_1 := blk_frozen BK220.out 1
        have hfz32_2 := blk_frozen BK220.out 2
        have hfz32_3 := blk_frozen BK220.out 3
        have hcz33_0 : wc.cell? ⟨gb215, 0, none⟩ = some (.bool false) := (blk_cell BK215.out 0).trans rfl
        have hcz33_1 : wc.cell? ⟨gb215, 1, none⟩ = some (.string (⟨#[]⟩ : ByteArray)) := (blk_cell BK215.out 1).trans rfl
        have hcz33_2 : wc.cell? ⟨gb215, 2, none⟩ = some (.string (⟨#[]⟩ : ByteArray)) := (blk_cell BK215.out 2).trans rfl
        have hcz33_3 : wc.cell? ⟨gb215, 3, none⟩ = some (.int .i64 0) := (blk_cell BK215.out 3).trans rfl
        have hfz33_0 := blk_frozen BK215.out 0
        have hfz33_1 := blk_frozen BK215.out 1
        have hfz33_2 := blk_frozen BK215.out 2
        have hfz33_3 := blk_frozen BK215.out 3
        go_wp2
        refine bodyPost_ret (results_ct rfl _ _ gb215 25 #[.bool t216, .string t217, .string t218, .int .i64 (wrap64 (t219 + 1))] (0, 0) _ rfl (by (with_reducible repeat (first | refine blk_drewN ?_ _ | refine blk_drew ?_ | refine blk_alloc ?_ _)); refine blk_put (cs := #[.bool t216, .string t217, .string t218, .int .i64 0]) ?_ 3 _ rfl; (with_reducible repeat (first | refine blk_drewN ?_ _ | refine blk_drew ?_ | refine blk_alloc ?_ _)); refine blk_put (cs := #[.bool t216, .string t217, .string (⟨#[]⟩ : ByteArray), .int .i64 0]) ?_ 2 _ rfl; (with_reducible repeat (first | refine blk_drewN ?_ _ | refine blk_drew ?_ | refine blk_alloc ?_ _)); refine blk_put (cs := #[.bool t216, .string (⟨#[]⟩ : ByteArray), .string (⟨#[]⟩ : ByteArray), .int .i64 0]) ?_ 1 _ rfl; (with_reducible repeat (first | refine blk_drewN ?_ _ | refine blk_drew ?_ | refine blk_alloc ?_ _)); refine blk_put (cs := #[.bool false, .string (⟨#[]⟩ : ByteArray), .string (⟨#[]⟩ : ByteArray), .int .i64 0]) ?_ 0 _ rfl; (with_reducible repeat (first | refine blk_drewN ?_ _ | refine blk_drew ?_ | refine blk_alloc ?_ _)); refine blk_far ?_ NB215_220.out _; (with_reducible repeat (first | refine blk_drewN ?_ _ | refine blk_drew ?_ | refine blk_alloc ?_ _)); exact BK215.out) Tryd.underlying25 rfl (by kernel_rfl)) rfl ?_
        exact ⟨qng6_, qng31_⟩
      ·
       rw [if_neg c26] at H
       exact absurd H (by simp)
     ·
      rw [if_neg c25] at H
      have c25b0 : decide (0 < x5_16) = false := decide_eq_false c25
      clear c25
      by_cases c34 : t217.size + t218.size ≤ 9223372036854775807
      ·
       rw [if_pos c34] at H
       have c34b0 := eq_true c34
       have c34b1 : decide (t217.size + t218.size ≤ 9223372036854775807) = true := decide_eq_true c34
       try have c34b2 : (9223372036854775807 < t217.size + t218.size) = False := eq_false (Nat.not_lt.2 c34)
       by_cases c35 : (t217 ++ t218).toList = ([] : List UInt8)
       ·
        rw [if_pos c35] at H
        have c35b0 : ((t217 ++ t218).toList == ([] : List UInt8)) = true := beq_iff_eq.mpr c35
        have c35b1 : ((t217 ++ t218).toList != ([] : List UInt8)) = false := bne_eq_false_iff_eq.mpr c35
        clear c35
        simp only [Option.some.injEq, Prod.mk.injEq] at H
        obtain ⟨rfl, rfl, rfl, rfl, rfl⟩ := H
        have hnb36 := NB220_215.out
        have hnc36 := NB215_220.out
        have hcz37_0 : wc.cell? ⟨gb220, 0, none⟩ = some (.bool t216) := (blk_cell BK220.out 0).trans rfl
        have hcz37_1 : wc.cell? ⟨gb220, 1, none⟩ = some (.string t217) := (blk_cell BK220.out 1).trans rfl
        have hcz37_2 : wc.cell? ⟨gb220, 2, none⟩ = some (.string t218) := (blk_cell BK220.out 2).trans rfl
        have hcz37_3 : wc.cell? ⟨gb220, 3, none⟩ = some (.int .i64 t219) := (blk_cell BK220.out 3).trans rfl
        have hfz37_0 := blk_frozen BK220.out 0
        have hfz37_1 := blk_frozen BK220.out 1
        have hfz37_2 := blk_frozen BK220.out 2
        have hfz37_3 := blk_frozen BK220.out 3
        have hcz38_0 : wc.cell? ⟨gb215, 0, none⟩ = some (.bool false) := (blk_cell BK215.out 0).trans rfl
        have hcz38_1 : wc.cell? ⟨gb215, 1, none⟩ = some (.string (⟨#[]⟩ : ByteArray)) := (blk_cell BK215.out 1).trans rfl
        have hcz38_2 : wc.cell? ⟨gb215, 2, none⟩ = some (.string (⟨#[]⟩ : ByteArray)) := (blk_cell BK215.out 2).trans rfl
        have hcz38_3 : wc.cell? ⟨gb215, 3, none⟩ = some (.int .i64 0) := (blk_cell BK215.out 3).trans rfl
        have hfz38_0 := blk_frozen BK215.out 0
        have hfz38_1 := blk_frozen BK215.out 1
        have hfz38_2 := blk_frozen BK215.out 2
        have hfz38_3 := blk_frozen BK215.out 3
        go_wp2
        refine bodyPost_ret (results_ct rfl _ _ gb215 25 #[.bool t216, .string t217, .string t218, .int .i64 t219] (0, 0) _ rfl (by (with_reducible repeat (first | refine blk_drewN ?_ _ | refine blk_drew ?_ | refine blk_alloc ?_ _)); refine blk_put (cs := #[.bool t216, .string t217, .string t218, .int .i64 0]) ?_ 3 _ rfl; (with_reducible repeat (first | refine blk_drewN ?_ _ | refine blk_drew ?_ | refine blk_alloc ?_ _)); refine blk_put (cs := #[.bool t216, .string t217, .string (⟨#[]⟩ : ByteArray), .int .i64 0]) ?_ 2 _ rfl; (with_reducible repeat (first | refine blk_drewN ?_ _ | refine blk_drew ?_ | refine blk_alloc ?_ _)); refine blk_put (cs := #[.bool t216, .string (⟨#[]⟩ : ByteArray), .string (⟨#[]⟩ : ByteArray), .int .i64 0]) ?_ 1 _ rfl; (with_reducible repeat (first | refine blk_drewN ?_ _ | refine blk_drew ?_ | refine blk_alloc ?_ _)); refine blk_put (cs := #[.bool false, .string (⟨#[]⟩ : ByteArray), .string (⟨#[]⟩ : ByteArray), .int .i64 0]) ?_ 0 _ rfl; (with_reducible repeat (first | refine blk_drewN ?_ _ | refine blk_drew ?_ | refine blk_alloc ?_ _)); exact BK215.out) Tryd.underlying25 rfl (by kernel_rfl)) rfl ?_
        exact ⟨qng6_, qng31_⟩
       ·
        rw [if_neg c35] at H
        have c35b0 : ((t217 ++ t218).toList == ([] : List UInt8)) = false := beq_eq_false_iff_ne.mpr c35
        have c35b1 : ((t217 ++ t218).toList != ([] : List UInt8)) = true := bne_iff_ne.mpr c35
        simp only [Option.some.injEq, Prod.mk.injEq] at H
        obtain ⟨rfl, rfl, rfl, rfl, rfl⟩ := H
        have hnb39 := NB220_215.out
        have hnc39 := NB215_220.out
        have hcz40_0 : wc.cell? ⟨gb220, 0, none⟩ = some (.bool t216) := (blk_cell BK220.out 0).trans rfl
        have hcz40_1 : wc.cell? ⟨gb220, 1, none⟩ = some (.string t217) := (blk_cell BK220.out 1).trans rfl
        have hcz40_2 : wc.cell? ⟨gb220, 2, none⟩ = some (.string t218) := (blk_cell BK220.out 2).trans rfl
        have hcz40_3 : wc.cell? ⟨gb220, 3, none⟩ = some (.int .i64 t219) := (blk_cell BK220.out 3).trans rfl
        have hfz40_0 := blk_frozen BK220.out 0
        have hfz40_1 := blk_frozen BK220.out 1
        have hfz40_2 := blk_frozen BK220.out 2
        have hfz40_3 := blk_frozen BK220.out 3
        have hcz41_0 : wc.cell? ⟨gb215, 0, none⟩ = some (.bool false) := (blk_cell BK215.out 0).trans rfl
        have hcz41_1 : wc.cell? ⟨gb215, 1, none⟩ = some (.string (⟨#[]⟩ : ByteArray)) := (blk_cell BK215.out 1).trans rfl
        have hcz41_2 : wc.cell? ⟨gb215, 2, none⟩ = some (.string (⟨#[]⟩ : ByteArray)) := (blk_cell BK215.out 2).trans rfl
        have hcz41_3 : wc.cell? ⟨gb215, 3, none⟩ = some (.int .i64 0) := (blk_cell BK215.out 3).trans rfl
        have hfz41_0 := blk_frozen BK215.out 0
        have hfz41_1 := blk_frozen BK215.out 1
        have hfz41_2 := blk_frozen BK215.out 2
        have hfz41_3 := blk_frozen BK215.out 3
        go_wp2
        refine bodyPost_ret (results_ct rfl _ _ gb215 25 #[.bool t216, .string t217, .string t218, .int .i64 t219] (0, 0) _ rfl (by (with_reducible repeat (first | refine blk_drewN ?_ _ | refine blk_drew ?_ | refine blk_alloc ?_ _)); refine blk_put (cs := #[.bool t216, .string t217, .string t218, .int .i64 0]) ?_ 3 _ rfl; (with_reducible repeat (first | refine blk_drewN ?_ _ | refine blk_drew ?_ | refine blk_alloc ?_ _)); refine blk_put (cs := #[.bool t216, .string t217, .string (⟨#[]⟩ : ByteArray), .int .i64 0]) ?_ 2 _ rfl; (with_reducible repeat (first | refine blk_drewN ?_ _ | refine blk_drew ?_ | refine blk_alloc ?_ _)); refine blk_put (cs := #[.bool t216, .string (⟨#[]⟩ : ByteArray), .string (⟨#[]⟩ : ByteArray), .int .i64 0]) ?_ 1 _ rfl; (with_reducible repeat (first | refine blk_drewN ?_ _ | refine blk_drew ?_ | refine blk_alloc ?_ _)); refine blk_put (cs := #[.bool false, .string (⟨#[]⟩ : ByteArray), .string (⟨#[]⟩ : ByteArray), .int .i64 0]) ?_ 0 _ rfl; (with_reducible repeat (first | refine blk_drewN ?_ _ | refine blk_drew ?_ | refine blk_alloc ?_ _)); exact BK215.out) Tryd.underlying25 rfl (by kernel_rfl)) rfl ?_
        exact ⟨qng6_, qng31_⟩
      ·
       rw [if_neg c34] at H
       exact absurd H (by simp)

end Go.Proofs.YtcdajedmlfhmeaaDoor.XN

section
/- Decimal and Human: both sides compute the same. (by this session) -/
-- NEEDS strings_TrimLeft strings_TrimRight numeral_decimal numeral_signed numeral_Decimal strings_IndexByte numeral_Human millref3_zeros millref3_trimmed millref3_signed millref3_Decimal millref3_letter millref3_Human
set_option linter.unusedVariables false
set_option linter.unusedSimpArgs false
namespace Go.Proofs.YtcdajedmlfhmeaaDoor.XN
open Go.RowKit Go.Proofs.YtcdajedmlfhmeaaDoorW.PrintWords Go.Proofs.YtcdajedmlfhmeaaDoorW.PrintMore

def tl (l : List UInt8) : List UInt8 := l.dropWhile is0
def tr (l : List UInt8) : List UInt8 := (l.reverse.dropWhile is0).reverse
theorem bt_mk0 (c : UInt8) (r : List UInt8) : bt (mkB (c :: r)) 0 = (c.toNat : Int) := rfl
theorem is0_iff (c : UInt8) : is0 c = true ↔ (c.toNat : Int) = 48 := by simp [is0]
theorem is0_false {c : UInt8} (h : is0 c = false) : ¬ (c.toNat : Int) = 48 := by simpa [is0] using h
theorem tl_len (l : List UInt8) : (tl l).length ≤ l.length := by
  unfold tl
  have h1 := List.takeWhile_append_dropWhile (p := is0) (l := l)
  have h2 := congrArg List.length h1
  rw [List.length_append] at h2
  omega
theorem tr_len (l : List UInt8) : (tr l).length ≤ l.length := by
  have := tl_len l.reverse
  unfold tl at this
  unfold tr
  rw [List.length_reverse] at *
  exact this

theorem trimLeftByte_ev : ∀ (l : List UInt8), l.length < big → Ev (fun k => strings_trimLeftByte.l0 k (mkB l) 48) (mkB (tl l))
  | [], _ => by
    refine Ev.succ ?_
    simp only [strings_trimLeftByte.l0, size_mk]
    exact Ev.neg (by simp) (Ev.pure _)
  | c :: r, h => by
    simp only [List.length_cons] at h
    rw [big_eq] at h
    refine Ev.succ ?_
    simp only [strings_trimLeftByte.l0, size_mk, bt_mk0, List.length_cons]
    refine Ev.pos (by omega) (Ev.pos (by omega) ?_)
    have hx : (mkB (c :: r)).extract 1 (r.length + 1) = mkB r := by rw [extract_mk', L_mk]; simp
    unfold tl
    by_cases hc : is0 c = true
    · rw [List.dropWhile_cons, if_pos hc]
      refine Ev.pos ((is0_iff c).1 hc) (Ev.pos (by omega) ?_)
      simp only [hx]
      exact trimLeftByte_ev r (by rw [big_eq]; omega)
    · rw [List.dropWhile_cons, if_neg hc]
      exact Ev.neg (fun h => hc ((is0_iff c).2 h)) (Ev.pure _)
theorem last_rev (c : UInt8) (r : List UInt8) (n : Int) (hn : n = (r.length : Int)) : bt (mkB (c :: r).reverse) n = (c.toNat : Int) := by
  subst hn
  rw [bt_nat _ _ (by rw [L_mk]; simp)]
  simp [L_mk, List.getElem_append_right]
theorem trimRightByte_ev : ∀ (r : List UInt8), r.length < big → Ev (fun k => strings_trimRightByte.l0 k (mkB r.reverse) 48) (mkB (r.dropWhile is0).reverse)
  | [], _ => by
    refine Ev.succ ?_
    simp only [strings_trimRightByte.l0, size_mk]
    exact Ev.neg (by simp) (Ev.pure _)
  | c :: r, h => by
    simp only [List.length_cons] at h
    rw [big_eq] at h
    have hw : wrap64 ((((c :: r).reverse.length : Nat) : Int) - 1) = (r.length : Int) := w64_nat (by simp) (by omega)
    refine Ev.succ ?_
    simp only [strings_trimRightByte.l0, size_mk, hw, last_rev c r _ rfl]
    have hl : (c :: r).reverse.length = r.length + 1 := by simp
    rw [hl]
    refine Ev.pos (by omega) (Ev.pos (by omega) (Ev.pos (by omega) ?_))
    have hx : (mkB (c :: r).reverse).extract 0 ((r.length : Int)).toNat = mkB r.reverse := by
      rw [extract_front, L_mk, Int.toNat_natCast]
      congr 1
      rw [List.reverse_cons, List.take_append_of_le_length (by simp), List.take_of_length_le (by simp)]
    by_cases hc : is0 c = true
    · rw [List.dropWhile_cons, if_pos hc]
      refine Ev.pos ((is0_iff c).1 hc) (Ev.pos (by omega) ?_)
      simp only [hx]
      exact trimRightByte_ev r (by rw [big_eq]; omega)
    · rw [List.dropWhile_cons, if_neg hc]
      exact Ev.neg (fun h => hc ((is0_iff c).2 h)) (Ev.pure _)
theorem TrimLeft_ev (l : List UInt8) (h : l.length < big) : Ev (fun k => strings_TrimLeft.f k (mkB l) (⟨#[48]⟩ : ByteArray)) (mkB (tl l)) := by
  unfold strings_TrimLeft.f
  simp only [toList_mk]
  refine Ev.ite (fun h0 => ?_) (fun h0 => ?_)
  · subst h0
    refine Ev.succ ?_
    simp only [strings_TrimLeft.j0]
    exact Ev.pos trivial (Ev.pure _)
  · refine Ev.succ ?_
    simp only [strings_TrimLeft.j0]
    refine Ev.neg (by rw [toList_L]; decide) (Ev.pos (by rfl) (Ev.pos (by decide) ?_))
    refine Ev.succ ?_
    simp only [strings_TrimLeft.j1]
    refine Ev.pos (by decide) (Ev.pos (by decide) ?_)
    exact Ev.bind (trimLeftByte_ev l h) (Ev.pure _)
theorem TrimRight_ev (l : List UInt8) (h : l.length < big) : Ev (fun k => strings_TrimRight.f k (mkB l) (⟨#[48]⟩ : ByteArray)) (mkB (tr l)) := by
  unfold strings_TrimRight.f
  simp only [toList_mk]
  have key := trimRightByte_ev l.reverse (by simpa using h)
  rw [List.reverse_reverse] at key
  refine Ev.ite (fun h0 => ?_) (fun h0 => ?_)
  · subst h0
    refine Ev.succ ?_
    simp only [strings_TrimRight.j0]
    exact Ev.pos trivial (Ev.pure _)
  · refine Ev.succ ?_
    simp only [strings_TrimRight.j0]
    refine Ev.neg (by rw [toList_L]; decide) (Ev.pos (by rfl) (Ev.pos (by decide) ?_))
    refine Ev.succ ?_
    simp only [strings_TrimRight.j1]
    refine Ev.pos (by decide) (Ev.pos (by decide) ?_)
    exact Ev.bind key (Ev.pure _)

theorem zeros_ev (s : ByteArray) (hs : s.size < big) : Ev (fun k => millref3_zeros.f k s) ((((L s).takeWhile is0).length : Nat) : Int) := by
  unfold millref3_zeros.f
  refine scan (p := is0) (F := fun k i => millref3_zeros.l0 k s i) hs (fun k i c h1 h2 hp => ?_) (L s) 0 rfl ?_
  · simp only [millref3_zeros.l0, h2, w64_succ (i := i) (by rw [big_eq] at hs; omega)]
    rw [if_pos (by omega), if_pos (by omega), if_pos ((is0_iff c).1 hp)]
  · simp only [Nat.zero_add]
    have hst := stop_at (s := s) (p := is0) (i := 0) (Nat.zero_le _)
    simp only [Nat.zero_add, List.drop_zero] at hst
    refine Ev.succ ?_
    rcases hst with ⟨h, _⟩ | ⟨c, r, h1, h2, h3, _⟩
    · simp only [millref3_zeros.l0]
      exact Ev.neg (by rw [h]; omega) (Ev.pure _)
    · simp only [millref3_zeros.l0, h2]
      exact Ev.pos (by omega) (Ev.pos (by omega) (Ev.neg (is0_false h3) (Ev.pure _)))
theorem trimmed_l0 (s : ByteArray) (hs : s.size < big) : ∀ n : Nat, n ≤ s.size → Ev (fun k => millref3_trimmed.l0 k s (n : Int)) (mkB (tr ((L s).take n)))
  | 0, _ => by
    refine Ev.succ ?_
    simp only [millref3_trimmed.l0]
    refine Ev.neg (by decide) (Ev.pos (by decide) (Ev.pos (by omega) (Ev.done ?_)))
    simp [extract_front, tr]
    rfl
  | n + 1, h => by
    rw [big_eq] at hs
    have hw : wrap64 (((n + 1 : Nat) : Int) - 1) = (n : Int) := w64_nat (by omega) (by omega)
    refine Ev.succ ?_
    simp only [millref3_trimmed.l0, hw]
    refine Ev.pos (by omega) (Ev.pos (by omega) (Ev.pos (by omega) ?_))
    have hl : n < (L s).length := by rw [L_len]; omega
    rw [bt_nat s n hl]
    have ht : (L s).take (n + 1) = (L s).take n ++ [(L s)[n]] := List.take_succ_eq_append_getElem hl
    by_cases hc : is0 (L s)[n] = true
    · refine Ev.pos ((is0_iff _).1 hc) ?_
      have ih := trimmed_l0 s (by rw [big_eq]; omega) n (by omega)
      have e : tr ((L s).take (n + 1)) = tr ((L s).take n) := by
        unfold tr
        rw [ht, List.reverse_append, List.reverse_singleton, List.singleton_append, List.dropWhile_cons, if_pos hc]
      rw [e]
      exact ih
    · refine Ev.neg (fun h => hc ((is0_iff _).2 h)) (Ev.pos (by omega) (Ev.pos (by omega) (Ev.done ?_)))
      rw [extract_front, Int.toNat_natCast]
      congr 1
      unfold tr
      rw [ht, List.reverse_append, List.reverse_singleton, List.singleton_append, List.dropWhile_cons, if_neg hc]
      simp
theorem trimmed_ev (l : List UInt8) (h : l.length < big) : Ev (fun k => millref3_trimmed.f k (mkB l)) (mkB (tr l)) := by
  unfold millref3_trimmed.f
  have := trimmed_l0 (mkB l) (by rw [size_mk]; exact h) _ (Nat.le_refl _)
  rw [size_mk] at *
  rw [L_mk, List.take_length] at this
  exact this

def negAt : List UInt8 → Bool
  | [] => false
  | c :: _ => decide ((c.toNat : Int) = 45)
/-- The place behind the blanks and the sign. -/
def sgN (l : List UInt8) : Nat := blkN l + if negAt (l.drop (blkN l)) = true then 1 else 0
theorem sgN_le (s : ByteArray) : sgN (L s) ≤ s.size := by
  unfold sgN
  have := blkN_le s
  split
  · rename_i h
    cases hd : (L s).drop (blkN (L s)) with
    | nil => rw [hd] at h; cases h
    | cons c r => have := (drop_cons hd).1; omega
  · omega
def sgNeg (l : List UInt8) : Bool := negAt (l.drop (blkN l))
def sgS (l : List UInt8) : Bool × ByteArray × ByteArray × Int :=
  if noneAt (l.drop (sgN l)) = true then (false, mkB [], mkB [], 0) else (sgNeg l, mkB (plS (l.drop (sgN l))).1, mkB (plS (l.drop (sgN l))).2.1, ((sgN l + (plS (l.drop (sgN l))).2.2 : Nat) : Int))
theorem pl_pos {l : List UInt8} (h : ¬ noneAt l = true) : 0 < (plS l).2.2 := by
  unfold noneAt plS at *
  revert h
  cases l.dropWhile isDg with
  | nil => cases l.takeWhile isDg <;> simp
  | cons c r =>
    simp only
    split
    · intro _; simp only; omega
    · cases l.takeWhile isDg <;> simp
theorem signed_ev (s : ByteArray) (hs : s.size < big) : Ev (fun k => numeral_signed.f k s) (sgS (L s)) := by
  unfold numeral_signed.f
  refine Ev.bind (blanks_ev s hs) ?_
  have hb := blkN_le s
  have hsg := sgN_le s
  have hs' := hs
  rw [big_eq] at hs'
  unfold sgS sgNeg
  cases hd : (L s).drop (blkN (L s)) with
  | nil =>
    have h1 := drop_nil hd
    have e : sgN (L s) = blkN (L s) := by unfold sgN; rw [hd]; rfl
    refine Ev.neg (by omega) ?_
    rw [plain_f s hs _ hb, Option.bind_some, e, hd]
    exact Ev.done rfl
  | cons c r =>
    obtain ⟨h1, h2, h3⟩ := drop_cons hd
    refine Ev.pos (by omega) (Ev.pos (by omega) ?_)
    rw [h2]
    by_cases hc : (c.toNat : Int) = 45
    · have e : sgN (L s) = blkN (L s) + 1 := by unfold sgN; rw [hd]; simp [negAt, hc]
      refine Ev.pos hc ?_
      rw [w64_succ (by omega), plain_f s hs _ (by omega), Option.bind_some, e]
      simp only [negAt, hc, decide_true]
      by_cases hn : noneAt ((L s).drop (blkN (L s) + 1)) = true
      · simp only [if_pos hn]
        exact Ev.done rfl
      · simp only [if_neg hn]
        refine Ev.done ?_
        have : ((blkN (L s) + 1 + (plS ((L s).drop (blkN (L s) + 1))).2.2 : Nat) : Int) > 0 := by omega
        rw [decide_eq_true this]
    · have e : sgN (L s) = blkN (L s) := by unfold sgN; rw [hd]; simp [negAt, hc]
      refine Ev.neg hc ?_
      rw [plain_f s hs _ hb, Option.bind_some, e, hd]
      by_cases hn : noneAt (c :: r) = true
      · simp only [if_pos hn]
        exact Ev.done rfl
      · simp only [if_neg hn, negAt, hc, decide_false]
        exact Ev.done rfl

/-- P3.1's number: is it below 0, the whole digits, the digits behind the point, the place behind. -/
def decS (l : List UInt8) : Bool × List UInt8 × List UInt8 × Nat :=
  if noneAt (l.drop (sgN l)) = true then (false, [], [], 0) else
    (sgNeg l && !((tl (plS (l.drop (sgN l))).1).isEmpty && (tr (plS (l.drop (sgN l))).2.1).isEmpty), tl (plS (l.drop (sgN l))).1, tr (plS (l.drop (sgN l))).2.1, sgN l + (plS (l.drop (sgN l))).2.2)
def decV (l : List UInt8) : Bool × ByteArray × ByteArray × Int := ((decS l).1, mkB (decS l).2.1, mkB (decS l).2.2.1, ((decS l).2.2.2 : Int))
theorem pl1_len (l : List UInt8) : (plS l).1.length ≤ l.length := by
  unfold plS
  have := take_len (p := isDg) l
  split
  · exact this
  · split <;> exact this
theorem pl2_len (l : List UInt8) : (plS l).2.1.length ≤ l.length := by
  have h := plS_len l
  have : (plS l).2.1.length ≤ (plS l).2.2 := by
    unfold plS
    split
    · simp
    · split <;> simp <;> omega
  omega
theorem size_drop (s : ByteArray) (n : Nat) : ((L s).drop n).length ≤ s.size := by rw [List.length_drop, L_len]; omega
theorem decimal_ev (n : Bool) (w f : List UInt8) (e : Int) (hw : w.length < big) (hf : f.length < big) : Ev (fun k => numeral_decimal.f k n (mkB w) (mkB f) e) (n && !((tl w).isEmpty && (tr f).isEmpty), mkB (tl w), mkB (tr f), e) := by
  unfold numeral_decimal.f
  refine Ev.bind (TrimLeft_ev w hw) (Ev.bind (TrimRight_ev f hf) ?_)
  simp only [toList_mk, nil_iff]
  cases n with
  | false => exact Ev.neg (by decide) (Ev.done (by simp))
  | true =>
    refine Ev.pos rfl (Ev.ite (fun h => ?_) (fun h => ?_))
    · exact Ev.done (by simp [h])
    · exact Ev.done (by simp [h])
theorem Decimal_ev (s : ByteArray) (hs : s.size < big) : Ev (fun k => numeral_Decimal.f k s) (decV (L s)) := by
  unfold numeral_Decimal.f
  refine Ev.bind (signed_ev s hs) ?_
  unfold sgS decV decS
  have hd := size_drop s (sgN (L s))
  have h1 := pl1_len ((L s).drop (sgN (L s)))
  have h2 := pl2_len ((L s).drop (sgN (L s)))
  by_cases hn : noneAt ((L s).drop (sgN (L s))) = true
  · simp only [if_pos hn]
    refine Ev.bind (decimal_ev false [] [] 0 (by decide) (by decide)) (Ev.done ?_)
    simp [tl, tr]
  · simp only [if_neg hn]
    exact Ev.bind (decimal_ev _ _ _ _ (by omega) (by omega)) (Ev.pure _)

end Go.Proofs.YtcdajedmlfhmeaaDoor.XN
end

namespace Go.Proofs.YtcdajedmlfhmeaaDoor.XN
open Go.RowKit Go.Proofs.YtcdajedmlfhmeaaDoorW.PrintWords Go.Proofs.YtcdajedmlfhmeaaDoorW.PrintLast Go.Proofs.YtcdajedmlfhmeaaDoorW.PrintMore
attribute [local go_sem] max2_int min2_int max_two min_two max_three min_three max_four min_four
set_option linter.unusedVariables false
set_option linter.unusedSimpArgs false

/-! ### millref3_Month: function 24 -/
def millref3_Month.l0 : Nat → ByteArray → Int → Int → Option (Int)
 | 0, _, _, _ => none
 | k + 1, x0, x3, x4 => if x4 < 12 then (if 0 ≤ (wrap64 (3 * x4)) then (if (wrap64 (3 * x4)) ≤ (wrap64 ((wrap64 (3 * x4)) + 3)) then (if (wrap64 ((wrap64 (3 * x4)) + 3)) ≤ 36 then ((millref3_at.f k x0 x3 ((⟨#[106, 97, 110, 102, 101, 98, 109, 97, 114, 97, 112, 114, 109, 97, 121, 106, 117, 110, 106, 117, 108, 97, 117, 103, 115, 101, 112, 111, 99, 116, 110, 111, 118, 100, 101, 99]⟩ : ByteArray).extract ((wrap64 (3 * x4)) : Int).toNat ((wrap64 ((wrap64 (3 * x4)) + 3)) : Int).toNat)).bind fun t227 => (if t227 = true then (some (wrap64 (x4 + 1))) else (millref3_Month.l0 k x0 x3 (wrap64 (x4 + 1))))) else (none)) else (none)) else (none)) else (some 0)
def millref3_Month.f (k : Nat) (a0 : ByteArray) : Option (Int) := (millref3_start.f k a0).bind fun t226 => (millref3_Month.l0 k a0 t226 0)
set_option maxHeartbeats 8000000 in
set_option maxRecDepth 100000 in
theorem millref3_Month.calls (k : Nat) (a0 : ByteArray) (r : Int) (w : World) (h : millref3_Month.f k a0 = some r) :
  Calls Tryd.prog 24 #[.string a0] w fun e w' => e = .returned (.int .i64 r) ∧ Drawn0 w w' := by
 have H : ((millref3_start.f k a0).bind fun t226 => (millref3_Month.l0 k a0 t226 0)) = some r := h
 clear h
 replace H := Option.bind_eq_some_iff.mp H
 obtain ⟨t226, A20, H⟩ := H
 replace H : (millref3_Month.l0 k a0 t226 0) = some r := H
 have A2 := Aside0.mk A20
 clear A20
 have H' := Aside0.mk H
 clear H
 go_enter Tryd.func24, Tryd.ntmps24
 go_wp2_with (first | ((with_reducible refine gate_callee (f := 44) rfl ?_); refine goesL_ (some 6) rfl rfl Tryd.func44 (by kernel_rfl) rfl #[.string a0] rfl qng0_ ?_; (with_reducible refine (millref3_start.calls k a0 t226 _ A2.out).mono ?_); rintro e w' ⟨rfl, ⟨nd, rfl⟩⟩; refine ⟨_, rfl, ?_⟩))
 go_loopg [4] k (fun kq v4 w' => ∃ (x4_1 : Int), v4 = .int .i64 x4_1 ∧ Aside0 (millref3_Month.l0 kq a0 t226 x4_1 = some r) ∧ Aside0 (kq ≤ k) ∧ Drawn0 w w')
 case atStart => exact ⟨(0), qng2_, H', ⟨Nat.le_refl _⟩, qng4_⟩
 case round =>
  clear H'
  (try clear c2); (try clear p2)
  obtain ⟨x4_1, rfl, HA, HK1, ⟨m1, rfl⟩⟩ := hrel
  cases gk with
  | zero => exact absurd HA.out (by simp [millref3_Month.l0])
  | succ k1 =>
   have H := HA.out
   clear HA
   simp only [millref3_Month.l0] at H
   by_cases c3 : x4_1 < 12
   ·
    rw [if_pos c3] at H
    have c3b0 : decide (x4_1 < 12) = true := decide_eq_true c3
    clear c3
    obtain ⟨ji4, hji4⟩ : ∃ j_ : Int, (wrap64 (3 * x4_1)) = j_ := ⟨_, rfl⟩
    replace H : (if 0 ≤ (ji4) then (if (ji4) ≤ (wrap64 ((ji4) + 3)) then (if (wrap64 ((ji4) + 3)) ≤ 36 then ((millref3_at.f k1 a0 t226 ((⟨#[106, 97, 110, 102, 101, 98, 109, 97, 114, 97, 112, 114, 109, 97, 121, 106, 117, 110, 106, 117, 108, 97, 117, 103, 115, 101, 112, 111, 99, 116, 110, 111, 118, 100, 101, 99]⟩ : ByteArray).extract ((ji4) : Int).toNat ((wrap64 ((ji4) + 3)) : Int).toNat)).bind fun t227 => (if t227 = true then (some (wrap64 (x4_1 + 1))) else (millref3_Month.l0 k1 a0 t226 (wrap64 (x4_1 + 1))))) else (none)) else (none)) else (none)) = some r := by first | (rw [hji4] at H; exact H) | (simp only [hji4] at H ⊢; exact H)
    have hji4w : (IntKind.i64.wrap (3 * x4_1)) = ji4 := (i64_w _).trans hji4
    by_cases c5 : 0 ≤ (ji4)
    ·
     rw [if_pos c5] at H
     have c5b0 := eq_true c5
     have c5b1 : decide (0 ≤ (ji4)) = true := decide_eq_true c5
     clear c5
     by_cases c6 : (ji4) ≤ (wrap64 ((ji4) + 3))
     ·
      rw [if_pos c6] at H
      have c6b0 := eq_true c6
      have c6b1 : decide ((ji4) ≤ (wrap64 ((ji4) + 3))) = true := decide_eq_true c6
      by_cases c7 : (wrap64 ((ji4) + 3)) ≤ 36
      ·
       rw [if_pos c7] at H
       have c7b0 := eq_true c7
       have c7b1 : decide ((wrap64 ((ji4) + 3)) ≤ 36) = true := decide_eq_true c7
       replace H := Option.bind_eq_some_iff.mp H
       obtain ⟨t227, A80, H⟩ := H
       replace H : (if t227 = true then (some (wrap64 (x4_1 + 1))) else (millref3_Month.l0 k1 a0 t226 (wrap64 (x4_1 + 1)))) = some r := H
       have A8 := Aside0.mk A80
       clear A80
       by_cases c9 : t227 = true
       ·
        subst c9
        have H1 : (some (wrap64 (x4_1 + 1))) = some r := by rw [if_pos rfl] at H; exact H
        clear H
        have H := H1
        clear H1
        obtain rfl := Option.some.inj H
        go_wp2_with (first | ((with_reducible refine gate_callee (f := 45) rfl ?_); refine goesL_ (some 19) rfl rfl Tryd.func45 (by kernel_rfl) rfl #[.string a0, .int .i64 t226, .string ((⟨#[106, 97, 110, 102, 101, 98, 109, 97, 114, 97, 112, 114, 109, 97, 121, 106, 117, 110, 106, 117, 108, 97, 117, 103, 115, 101, 112, 111, 99, 116, 110, 111, 118, 100, 101, 99]⟩ : ByteArray).extract ((ji4) : Int).toNat ((wrap64 ((ji4) + 3)) : Int).toNat)] rfl (by (try simp only [List.map_toArray, List.map_cons, List.map_nil]); first | done | (simp only [hji4]; rfl) | rfl | (simp only [List.length_drop, List.length_take]; rfl) | (simp; done) | (simp; omega)) ?_; (with_reducible refine (millref3_at.calls k1 a0 t226 ((⟨#[106, 97, 110, 102, 101, 98, 109, 97, 114, 97, 112, 114, 109, 97, 121, 106, 117, 110, 106, 117, 108, 97, 117, 103, 115, 101, 112, 111, 99, 116, 110, 111, 118, 100, 101, 99]⟩ : ByteArray).extract ((ji4) : Int).toNat ((wrap64 ((ji4) + 3)) : Int).toNat) true _ A8.out).mono ?_); rintro e w' ⟨rfl, ⟨nd, rfl⟩⟩; refine ⟨_, rfl, ?_⟩))
        go_ret
        exact ⟨qng67_, qng4_⟩
       ·
        replace c9 := Bool.eq_false_iff.mpr c9
        subst c9
        have H1 : (millref3_Month.l0 k1 a0 t226 (wrap64 (x4_1 + 1))) = some r := by rw [if_neg (show ¬ (false = true) by decide)] at H; exact H
        clear H
        have H := H1
        clear H1
        have H' := Aside0.mk H
        clear H
        go_wp2_with (first | ((with_reducible refine gate_callee (f := 45) rfl ?_); refine goesL_ (some 19) rfl rfl Tryd.func45 (by kernel_rfl) rfl #[.string a0, .int .i64 t226, .string ((⟨#[106, 97, 110, 102, 101, 98, 109, 97, 114, 97, 112, 114, 109, 97, 121, 106, 117, 110, 106, 117, 108, 97, 117, 103, 115, 101, 112, 111, 99, 116, 110, 111, 118, 100, 101, 99]⟩ : ByteArray).extract ((ji4) : Int).toNat ((wrap64 ((ji4) + 3)) : Int).toNat)] rfl (by (try simp only [List.map_toArray, List.map_cons, List.map_nil]); first | done | (simp only [hji4]; rfl) | rfl | (simp only [List.length_drop, List.length_take]; rfl) | (simp; done) | (simp; omega)) ?_; (with_reducible refine (millref3_at.calls k1 a0 t226 ((⟨#[106, 97, 110, 102, 101, 98, 109, 97, 114, 97, 112, 114, 109, 97, 121, 106, 117, 110, 106, 117, 108, 97, 117, 103, 115, 101, 112, 111, 99, 116, 110, 111, 118, 100, 101, 99]⟩ : ByteArray).extract ((ji4) : Int).toNat ((wrap64 ((ji4) + 3)) : Int).toNat) false _ A8.out).mono ?_); rintro e w' ⟨rfl, ⟨nd, rfl⟩⟩; refine ⟨_, rfl, ?_⟩))
        go_roundg k1
        case measure => have := HK1.out; omega
        case rel => exact ⟨(wrap64 (x4_1 + 1)), qng2_, H', ⟨by have := HK1.out; omega⟩, qng4_⟩
      ·
       rw [if_neg c7] at H
       exact absurd H (by simp)
     ·
      rw [if_neg c6] at H
      exact absurd H (by simp)
    ·
     rw [if_neg c5] at H
     exact absurd H (by simp)
   ·
    rw [if_neg c3] at H
    have c3b0 : decide (x4_1 < 12) = false := decide_eq_false c3
    clear c3
    obtain rfl := Option.some.inj H
    go_wp2
    go_ret
    exact ⟨qng2_, qng4_⟩

end Go.Proofs.YtcdajedmlfhmeaaDoor.XN

section
/- Human and Month: both sides compute the same. (by this session) -/
-- NEEDS strings_IndexByte numeral_Human millref3_letter millref3_Human numeral_begins numeral_Month millref3_low millref3_at millref3_Month
set_option linter.unusedVariables false
set_option linter.unusedSimpArgs false
namespace Go.Proofs.YtcdajedmlfhmeaaDoor.XN
open Go.RowKit Go.Proofs.YtcdajedmlfhmeaaDoorW.PrintWords Go.Proofs.YtcdajedmlfhmeaaDoorW.PrintMore

/-- What is so of 0 to 255 is so of every byte. -/
theorem all8 {P : UInt8 → Prop} (h : ∀ n : Fin 256, P (UInt8.ofNat n.val)) (c : UInt8) : P c := by
  have := h ⟨c.toNat, c.toNat_lt⟩
  simpa using this
def unitL : List UInt8 := [75, 77, 71, 84, 80, 69, 90, 89, 82, 81]
/-- The rank of a byte; 0: it is no letter of h. -/
def letN (c : UInt8) : Nat := if c = 107 then 1 else if c ∈ unitL then unitL.idxOf c + 1 else 0
theorem letN_le (c : UInt8) : letN c ≤ 10 := by
  unfold letN
  split
  · omega
  · split
    · rename_i h
      have := List.idxOf_lt_length_iff.2 h
      have e : unitL.length = 10 := rfl
      omega
    · omega
theorem idx_units : ∀ c : UInt8, Lib.indexByte unitL (if c = 107 then 75 else c) + 1 = (letN c : Int) := all8 (by decide +kernel)
/-- P3.3: the number of h, and its rank. -/
def humS (s : ByteArray) : (Bool × List UInt8 × List UInt8 × Nat) × Nat :=
  let d := decS (L s)
  if d.2.2.2 = 0 ∨ d.2.2.2 = s.size then (d, 0) else
    match (L s).drop d.2.2.2 with
    | [] => (d, 0)
    | c :: _ => ((d.1, d.2.1, d.2.2.1, if 0 < letN c then d.2.2.2 + 1 else d.2.2.2), if d.2.1 = [] ∧ d.2.2.1 = [] then 0 else letN c)
def humV (s : ByteArray) : Bool × ByteArray × ByteArray × Int × Int := ((humS s).1.1, mkB (humS s).1.2.1, mkB (humS s).1.2.2.1, ((humS s).1.2.2.2 : Int), ((humS s).2 : Int))
theorem dec_end (s : ByteArray) : (decS (L s)).2.2.2 ≤ s.size := by
  unfold decS
  split
  · simp
  · have h1 := plS_len ((L s).drop (sgN (L s)))
    have h2 := sgN_le s
    rw [List.length_drop, L_len] at h1
    simp only
    omega
theorem IndexByte_f (c : Int) : strings_IndexByte.f (⟨#[75, 77, 71, 84, 80, 69, 90, 89, 82, 81]⟩ : ByteArray) c = some (Lib.indexByte unitL c.toNat.toUInt8) := rfl
theorem Human_j1 (c : UInt8) (hc : c ≠ 107) (n : Bool) (w f : List UInt8) (e : Nat) (he : e < big) : Ev (fun k => numeral_Human.j1 k (c.toNat : Int) n (mkB w) (mkB f) (e : Int))
    (n, mkB w, mkB f, ((if 0 < letN c then e + 1 else e : Nat) : Int), ((if w = [] ∧ f = [] then 0 else letN c : Nat) : Int)) := by
  have h1 := idx_units c
  have hl := letN_le c
  rw [if_neg hc] at h1
  rw [big_eq] at he
  have hw : wrap64 (Lib.indexByte unitL c + 1) = (letN c : Int) := by rw [h1]; exact w64 (by omega)
  have hcc : ((c.toNat : Int)).toNat.toUInt8 = c := by rw [Int.toNat_natCast]; simp
  refine Ev.succ ?_
  simp only [numeral_Human.j1, IndexByte_f, Option.bind_some, hcc, hw, toList_mk]
  by_cases hp : 0 < letN c
  · have hw2 : wrap64 ((e : Int) + 1) = ((e + 1 : Nat) : Int) := w64_nat (by omega) (by omega)
    simp only [hw2, if_pos hp]
    refine Ev.pos (by omega) (Ev.ite (fun h => Ev.ite (fun h' => ?_) (fun h' => ?_)) (fun h => ?_))
    · exact Ev.done (by simp [h, h'])
    · exact Ev.done (by simp [h'])
    · exact Ev.done (by simp [h])
  · simp only [if_neg hp]
    refine Ev.neg (by omega) (Ev.ite (fun h => Ev.ite (fun h' => ?_) (fun h' => ?_)) (fun h => ?_))
    · exact Ev.done (by simp [h, h'])
    · exact Ev.done (by simp [h'])
    · exact Ev.done (by simp [h])
theorem Human_ev (s : ByteArray) (hs : s.size < big) : Ev (fun k => numeral_Human.f k s) (humV s) := by
  unfold numeral_Human.f
  refine Ev.bind (Decimal_ev s hs) ?_
  have he := dec_end s
  have hs' := hs
  rw [big_eq] at hs'
  unfold humV humS decV
  generalize hd : decS (L s) = d at *
  obtain ⟨n, w, f, e⟩ := d
  simp only at *
  by_cases h0 : e = 0
  · subst h0
    refine Ev.pos (by rfl) (Ev.succ ?_)
    simp only [numeral_Human.j0]
    exact Ev.pos trivial (Ev.done (by simp))
  · refine Ev.neg (by omega) (Ev.succ ?_)
    simp only [numeral_Human.j0]
    by_cases h1 : e = s.size
    · refine Ev.pos (by simp [h1]) (Ev.done ?_)
      simp [h1]
    · obtain ⟨c, hc, hb⟩ := drop_some (s := s) (i := e) (by omega)
      rw [if_neg (by omega), hc]
      refine Ev.neg (by simp; omega) (Ev.pos (by omega) (Ev.pos (by omega) ?_))
      rw [hb]
      by_cases hk : c = 107
      · refine Ev.pos (by rw [hk]; decide) ?_
        have hx := Human_j1 75 (by decide) n w f e (by omega)
        have hl : letN 75 = letN c := by rw [hk]; decide
        rw [hl] at hx
        exact hx
      · refine Ev.neg (fun h => hk (u8_eq (d := 107) h)) ?_
        exact Human_j1 c hk n w f e (by omega)
/-! ### words in small or great letters -/
/-- A letter as a small one. -/
def lowB (c : UInt8) : UInt8 := if 65 ≤ c ∧ c ≤ 90 then c + 32 else c
def isWord (w : List UInt8) : Bool := w.all fun c => decide (97 ≤ c) && decide (c ≤ 122)
/-- Does l begin with the word w (small letters)? -/
def bgN : List UInt8 → List UInt8 → Bool
  | _, [] => true
  | [], _ :: _ => false
  | c :: l, d :: w => lowB c == d && bgN l w
theorem low_f (c : UInt8) : millref3_low.f (c.toNat : Int) = some ((lowB c).toNat : Int) := by
  have : ∀ c : UInt8, millref3_low.f (c.toNat : Int) = some ((lowB c).toNat : Int) := all8 (by decide +kernel)
  exact this c
theorem or_low (c d : UInt8) (hd : (decide (97 ≤ d) && decide (d ≤ 122)) = true) : (Go.bits .or .u8 (c.toNat : Int) 32 = (d.toNat : Int) ∧ ¬ (c.toNat : Int) < 65) ↔ lowB c = d := by
  have hb : ∀ c : UInt8, Go.bits .or .u8 (c.toNat : Int) 32 = ((c ||| 32).toNat : Int) := all8 (by decide +kernel)
  have h2 : ∀ d : UInt8, ∀ c : UInt8, (decide (97 ≤ d) && decide (d ≤ 122)) = true → (((c ||| 32) = d ∧ ¬ (c.toNat : Int) < 65) ↔ lowB c = d) := by
    have h3 : ∀ n : Fin 26, ∀ m : Fin 256, (((UInt8.ofNat m.val ||| 32) = UInt8.ofNat (97 + n.val) ∧ ¬ ((UInt8.ofNat m.val).toNat : Int) < 65) ↔ lowB (UInt8.ofNat m.val) = UInt8.ofNat (97 + n.val)) := by decide +kernel
    intro d c hd
    simp only [Bool.and_eq_true, decide_eq_true_eq, UInt8.le_iff_toNat_le] at hd
    have e1 : (97 : UInt8).toNat = 97 := rfl
    have e2 : (122 : UInt8).toNat = 122 := rfl
    have h4 := h3 ⟨d.toNat - 97, by omega⟩ ⟨c.toNat, c.toNat_lt⟩
    have e3 : 97 + (d.toNat - 97) = d.toNat := by omega
    simp only [e3, UInt8.ofNat_toNat] at h4
    exact h4
  rw [hb c, ← h2 d c hd]
  constructor
  · rintro ⟨a, b⟩; exact ⟨u8_eq a, b⟩
  · rintro ⟨a, b⟩; exact ⟨by rw [a], b⟩
theorem begins_l0 (s : ByteArray) (hs : s.size < big) (i : Nat) (w : List UInt8) (hwd : isWord w = true) : ∀ (v : List UInt8) (j : Nat), w.drop j = v → j ≤ w.length → i + w.length ≤ s.size →
    Ev (fun k => numeral_begins.l0 k s (i : Int) (mkB w) (w.length : Int) (j : Int)) (bgN ((L s).drop (i + j)) v)
  | [], j, h, hj, hl => by
    have : w.length ≤ j := List.drop_eq_nil_iff.1 h
    refine Ev.succ ?_
    simp only [numeral_begins.l0]
    exact Ev.neg (by omega) (Ev.done (by simp [bgN]))
  | d :: v, j, h, hj, hl => by
    have hjl : j < w.length := by
      rcases Nat.lt_or_ge j w.length with h' | h'
      · exact h'
      · rw [List.drop_eq_nil_iff.2 h'] at h; cases h
    have hb : bt (mkB w) (j : Int) = (d.toNat : Int) ∧ (L (mkB w)).drop (j + 1) = v := (drop_cons (s := mkB w) (i := j) (by rw [L_mk]; exact h)).2
    have hwj := w64_nat (x := (i : Int) + (j : Int)) (n := i + j) (by omega) (by rw [big_eq] at hs; omega)
    have hwj2 := w64_succ (i := j) (by rw [big_eq] at hs; omega)
    obtain ⟨c, hc, hbt⟩ := drop_some (s := s) (i := i + j) (by omega)
    have hd : (decide (97 ≤ d) && decide (d ≤ 122)) = true := by
      have hm : d ∈ w := List.mem_of_mem_drop (by rw [h]; simp)
      have := List.all_eq_true.1 hwd d hm
      exact this
    refine Ev.succ ?_
    simp only [numeral_begins.l0, hwj, hwj2, hbt, hb.1, size_mk]
    refine Ev.pos (by omega) (Ev.pos (by omega) (Ev.pos (by omega) (Ev.pos (by omega) (Ev.pos (by omega) ?_))))
    rw [hc]
    simp only [bgN]
    have hor := or_low c d hd
    have ih := begins_l0 s hs i w hwd v (j + 1) (by simpa [L_mk] using hb.2) (by omega) hl
    rw [← Nat.add_assoc] at ih
    refine Ev.ite (fun h1 => Ev.ite (fun h2 => ?_) (fun h2 => ?_)) (fun h1 => ?_)
    · refine Ev.done ?_
      have : ¬ lowB c = d := fun hh => (hor.2 hh).2 h2
      simp [this]
    · have : lowB c = d := hor.1 ⟨h1, h2⟩
      simp only [this, beq_self_eq_true, Bool.true_and]
      exact ih
    · refine Ev.done ?_
      have : ¬ lowB c = d := fun hh => h1 (hor.2 hh).1
      simp [this]
theorem bgN_short : ∀ (l w : List UInt8), l.length < w.length → bgN l w = false
  | _, [], h => by simp at h
  | [], _ :: _, _ => rfl
  | c :: l, d :: w, h => by
    simp only [bgN, bgN_short l w (by simpa using h), Bool.and_false]
theorem begins_ev (s : ByteArray) (hs : s.size < big) (i : Nat) (hi : i ≤ s.size) (w : List UInt8) (hwd : isWord w = true) (hwl : w.length < 100) : Ev (fun k => numeral_begins.f k s (i : Int) (mkB w)) (bgN ((L s).drop i) w) := by
  unfold numeral_begins.f
  have hw := w64_nat (x := (s.size : Int) - (i : Int)) (n := s.size - i) (by omega) (by rw [big_eq] at hs; omega)
  simp only [hw, size_mk]
  refine Ev.ite (fun h => ?_) (fun h => ?_)
  · exact Ev.done (by rw [bgN_short _ _ (by rw [List.length_drop, L_len]; omega)])
  · exact begins_l0 s hs i w hwd w 0 rfl (Nat.zero_le _) (by omega)
theorem at_l0 (s : ByteArray) (hs : s.size < big) (i : Nat) (w : List UInt8) : ∀ (v : List UInt8) (j : Nat), w.drop j = v → j ≤ w.length → i + w.length ≤ s.size →
    Ev (fun k => millref3_at.l0 k s (i : Int) (mkB w) (j : Int)) (bgN ((L s).drop (i + j)) v)
  | [], j, h, hj, hl => by
    have : w.length ≤ j := List.drop_eq_nil_iff.1 h
    refine Ev.succ ?_
    simp only [millref3_at.l0, size_mk]
    exact Ev.neg (by omega) (Ev.done (by simp [bgN]))
  | d :: v, j, h, hj, hl => by
    have hjl : j < w.length := by
      rcases Nat.lt_or_ge j w.length with h' | h'
      · exact h'
      · rw [List.drop_eq_nil_iff.2 h'] at h; cases h
    have hb : bt (mkB w) (j : Int) = (d.toNat : Int) ∧ (L (mkB w)).drop (j + 1) = v := (drop_cons (s := mkB w) (i := j) (by rw [L_mk]; exact h)).2
    have hwj := w64_nat (x := (i : Int) + (j : Int)) (n := i + j) (by omega) (by rw [big_eq] at hs; omega)
    have hwj2 := w64_succ (i := j) (by rw [big_eq] at hs; omega)
    obtain ⟨c, hc, hbt⟩ := drop_some (s := s) (i := i + j) (by omega)
    refine Ev.succ ?_
    simp only [millref3_at.l0, hwj, hwj2, hbt, hb.1, size_mk, low_f, Option.bind_some]
    refine Ev.pos (by omega) (Ev.pos (by omega) (Ev.pos (by omega) (Ev.pos (by omega) ?_)))
    rw [hc]
    simp only [bgN]
    have ih := at_l0 s hs i w v (j + 1) (by simpa [L_mk] using hb.2) (by omega) hl
    rw [← Nat.add_assoc] at ih
    refine Ev.ite (fun h1 => ?_) (fun h1 => ?_)
    · have := u8_eq h1
      simp only [this, beq_self_eq_true, Bool.true_and]
      exact ih
    · refine Ev.done ?_
      have : ¬ lowB c = d := fun hh => h1 (by rw [hh])
      simp [this]
theorem at_ev (s : ByteArray) (hs : s.size < big) (i : Nat) (w : List UInt8) (hi : i ≤ s.size) (hwl : w.length < 100) : Ev (fun k => millref3_at.f k s (i : Int) (mkB w)) (bgN ((L s).drop i) w) := by
  unfold millref3_at.f
  have hw := w64_nat (x := (i : Int) + (w.length : Int)) (n := i + w.length) (by omega) (by rw [big_eq] at hs; omega)
  simp only [size_mk, hw]
  refine Ev.ite (fun h => ?_) (fun h => ?_)
  · exact Ev.done (by rw [bgN_short _ _ (by rw [List.length_drop, L_len]; omega)])
  · exact at_l0 s hs i w w 0 rfl (Nat.zero_le _) (by omega)

def monthL : List (List UInt8) := [[106, 97, 110], [102, 101, 98], [109, 97, 114], [97, 112, 114], [109, 97, 121], [106, 117, 110], [106, 117, 108], [97, 117, 103], [115, 101, 112], [111, 99, 116], [110, 111, 118], [100, 101, 99]]
/-- The first of the months from number m on that l begins with; 0: none. -/
def monF (l : List UInt8) : Nat → List (List UInt8) → Nat
  | _, [] => 0
  | m, w :: ws => if bgN l w = true then m + 1 else monF l (m + 1) ws
def monS (l : List UInt8) : Nat := monF (l.drop (blkN l)) 0 monthL
end Go.Proofs.YtcdajedmlfhmeaaDoor.XN
end

section
/- Compare: what numeral computes. (by this session) -/
-- NEEDS numeral_digits cmp_isNaN_int cmp_Compare_int bytealg_CompareString strings_Compare cmp_Or_int numeral_order numeral_sizeOf numeral_human numeral_pair numeral_rank cmp_Compare_byte numeral_words numeral_runs numeral_versions
set_option linter.unusedVariables false
set_option linter.unusedSimpArgs false
namespace Go.Proofs.YtcdajedmlfhmeaaDoor.XN
open Go.RowKit Go.Proofs.YtcdajedmlfhmeaaDoorW.PrintWords Go.Proofs.YtcdajedmlfhmeaaDoorW.PrintMore

/-- A number as 0.DIGITS times ten to the Exp. -/
def digS (w f : List UInt8) (e : Int) : List UInt8 × Int :=
  if tl w = [] then if tr (tl f) = [] then ([], 0) else (tr (tl f), ((tl f).length : Int) - (f.length : Int) + e)
  else if tr (tl w ++ f) = [] then ([], 0) else (tr (tl w ++ f), ((tl w).length : Int) + e)
theorem digits_ev (w f : List UInt8) (e : Int) (hw : w.length < 2305843009213693952) (hf : f.length < 2305843009213693952) (he : -1125899906842624 ≤ e ∧ e ≤ 1125899906842624) :
    Ev (fun k => numeral_digits.f k (mkB w) (mkB f) e) (mkB (digS w f e).1, (digS w f e).2) := by
  unfold numeral_digits.f
  have h1 := tl_len w
  have h2 := tl_len f
  refine Ev.bind (TrimLeft_ev w (by rw [big_eq]; omega)) ?_
  unfold digS
  simp only [toList_mk]
  refine Ev.ite (fun h => ?_) (fun h => ?_)
  · rw [if_pos h]
    refine Ev.bind (TrimLeft_ev f (by rw [big_eq]; omega)) (Ev.bind (TrimRight_ev (tl f) (by rw [big_eq]; omega)) ?_)
    simp only [toList_mk]
    refine Ev.ite (fun h' => ?_) (fun h' => ?_)
    · rw [if_pos h']; exact Ev.pure _
    · rw [if_neg h']
      refine Ev.done ?_
      rw [size_mk, size_mk, w64 (x := ((tl f).length : Int) - (f.length : Int)) (by omega), w64 (by omega)]
  · rw [if_neg h]
    simp only [size_mk, mk_append]
    refine Ev.pos (by omega) (Ev.bind (TrimRight_ev (tl w ++ f) (by rw [big_eq, List.length_append]; omega)) ?_)
    simp only [toList_mk]
    refine Ev.ite (fun h' => ?_) (fun h' => ?_)
    · rw [if_pos h']; exact Ev.pure _
    · rw [if_neg h']
      refine Ev.done ?_
      rw [w64 (by omega)]

def cmpI (a b : Int) : Int := if a < b then -1 else if a > b then 1 else 0
theorem cmpI_range (a b : Int) : cmpI a b = -1 ∨ cmpI a b = 0 ∨ cmpI a b = 1 := by unfold cmpI; split; · simp
                                                                                   · split <;> simp
theorem Compare_int_f (a b : Int) : cmp_Compare_int.f a b = some (cmpI a b) := by
  unfold cmp_Compare_int.f cmp_isNaN_int.f cmpI
  simp only [Option.bind_some, bne_self_eq_false, Bool.false_eq_true, if_false]
  split
  · rfl
  · split <;> rfl
theorem Compare_byte_f (a b : Int) : cmp_Compare_byte.f a b = some (cmpI a b) := by
  unfold cmp_Compare_byte.f cmp_isNaN_byte.f cmpI
  simp only [Option.bind_some, bne_self_eq_false, Bool.false_eq_true, if_false]
  split
  · rfl
  · split <;> rfl
def bcmp (l m : List UInt8) : Int := Lib.compareBytes l m
theorem bcmp_range : ∀ (l m : List UInt8), bcmp l m = -1 ∨ bcmp l m = 0 ∨ bcmp l m = 1
  | [], [] => by simp [bcmp, Lib.compareBytes]
  | [], _ :: _ => by simp [bcmp, Lib.compareBytes]
  | _ :: _, [] => by simp [bcmp, Lib.compareBytes]
  | a :: l, b :: m => by
    have := bcmp_range l m
    unfold bcmp Lib.compareBytes
    split
    · simp
    · split
      · simp
      · exact this
theorem Compare_str_f (s t : ByteArray) : strings_Compare.f s t = some (bcmp (L s) (L t)) := rfl
/-- The first that is no 0. -/
def orS : List Int → Int
  | [] => 0
  | x :: xs => if x = 0 then orS xs else x
theorem Or_l0 (l : List Int) (hl : l.length < 100) : ∀ (m : List Int) (i : Nat), l.drop i = m → i ≤ l.length → Ev (fun k => cmp_Or_int.l0 k 0 l (l.length : Int) (i : Int)) (orS m)
  | [], i, h, hi => by
    have : l.length ≤ i := List.drop_eq_nil_iff.1 h
    refine Ev.succ ?_
    simp only [cmp_Or_int.l0]
    exact Ev.neg (by omega) (Ev.done rfl)
  | x :: m, i, h, hi => by
    have hil : i < l.length := by
      rcases Nat.lt_or_ge i l.length with h' | h'
      · exact h'
      · rw [List.drop_eq_nil_iff.2 h'] at h; cases h
    have e := List.drop_eq_getElem_cons hil
    rw [h] at e
    injection e with e1 e2
    have hr : rd l (i : Int) = x := by unfold rd; rw [Int.toNat_natCast, e1]; simp [List.getD, hil]
    refine Ev.succ ?_
    simp only [cmp_Or_int.l0, hr, w64_succ (i := i) (by omega)]
    refine Ev.pos (by omega) (Ev.pos (by omega) (Ev.pos (by omega) ?_))
    simp only [orS]
    refine Ev.ite (fun h1 => ?_) (fun h1 => ?_)
    · rw [if_pos h1]; exact Or_l0 l hl m (i + 1) e2.symm (by omega)
    · rw [if_neg h1]; exact Ev.pure _
theorem Or_ev (l : List Int) (hl : l.length < 100) : Ev (fun k => cmp_Or_int.f k l) (orS l) := by
  unfold cmp_Or_int.f
  exact Or_l0 l hl l 0 rfl (Nat.zero_le _)

/-- A number as it is compared: sign, rank, exponent, digits. -/
abbrev Sz := Int × Int × Int × List UInt8
def szS (n : Bool) (d : List UInt8) (x r : Int) : Sz := if d = [] then (0, 0, 0, []) else ((if n = true then -1 else 1), r, x, d)
theorem szS_sign (n : Bool) (d : List UInt8) (x r : Int) : (szS n d x r).1 = -1 ∨ (szS n d x r).1 = 0 ∨ (szS n d x r).1 = 1 := by
  unfold szS
  split
  · simp
  · split <;> simp
theorem sizeOf_f (n : Bool) (d : List UInt8) (x r : Int) : numeral_sizeOf.f n (mkB d) x r = some ((szS n d x r).1, (szS n d x r).2.1, (szS n d x r).2.2.1, mkB (szS n d x r).2.2.2) := by
  unfold numeral_sizeOf.f szS
  simp only [toList_mk]
  split
  · rfl
  · split <;> rfl
def ordS (a b : Sz) : Int := if a.1 = b.1 ∧ ¬ a.1 = 0 then a.1 * orS [cmpI a.2.1 b.2.1, cmpI a.2.2.1 b.2.2.1, bcmp a.2.2.2 b.2.2.2] else cmpI a.1 b.1
theorem orS_range {l : List Int} (h : ∀ x ∈ l, x = -1 ∨ x = 0 ∨ x = 1) : orS l = -1 ∨ orS l = 0 ∨ orS l = 1 := by
  induction l with
  | nil => simp [orS]
  | cons x l ih =>
    simp only [orS]
    split
    · exact ih (fun y hy => h y (List.mem_cons_of_mem _ hy))
    · exact h x (List.mem_cons_self)
theorem or3_range (a b : Sz) : orS [cmpI a.2.1 b.2.1, cmpI a.2.2.1 b.2.2.1, bcmp a.2.2.2 b.2.2.2] = -1 ∨ orS [cmpI a.2.1 b.2.1, cmpI a.2.2.1 b.2.2.1, bcmp a.2.2.2 b.2.2.2] = 0 ∨ orS [cmpI a.2.1 b.2.1, cmpI a.2.2.1 b.2.2.1, bcmp a.2.2.2 b.2.2.2] = 1 := by
  refine orS_range (fun x hx => ?_)
  simp only [List.mem_cons, List.not_mem_nil, or_false] at hx
  rcases hx with rfl | rfl | rfl
  · exact cmpI_range _ _
  · exact cmpI_range _ _
  · exact bcmp_range _ _
theorem order_ev (a b : Sz) (ha : a.1 = -1 ∨ a.1 = 0 ∨ a.1 = 1) : Ev (fun k => numeral_order.f k a.1 a.2.1 a.2.2.1 (mkB a.2.2.2) b.1 b.2.1 b.2.2.1 (mkB b.2.2.2)) (ordS a b) := by
  unfold numeral_order.f
  unfold ordS
  have h3 := or3_range a b
  refine Ev.ite (fun h => ?_) (fun h => ?_)
  · refine Ev.succ ?_
    simp only [numeral_order.j0, Compare_int_f, Compare_str_f, Option.bind_some, L_mk]
    refine Ev.ite (fun h' => ?_) (fun h' => ?_)
    · rw [if_neg (fun hh => hh.2 (by simpa using h'))]
      exact Ev.pure _
    · rw [if_pos ⟨h, by simpa using h'⟩]
      refine Ev.bind (Or_ev _ (by simp)) (Ev.done ?_)
      refine w64 ?_
      rcases ha with ha | ha | ha <;> rw [ha] <;> omega
  · refine Ev.succ ?_
    simp only [numeral_order.j0, Compare_int_f, Option.bind_some]
    rw [if_neg (fun hh => h hh.1)]
    exact Ev.pos trivial (Ev.pure _)
/-- n's and h's number of a text. -/
def huS (kind : Int) (s : ByteArray) : Sz :=
  szS (humS s).1.1 (digS (humS s).1.2.1 (humS s).1.2.2.1 0).1 (digS (humS s).1.2.1 (humS s).1.2.2.1 0).2 (if kind = 16 then 0 else ((humS s).2 : Int))
theorem dec_len (s : ByteArray) : (decS (L s)).2.1.length ≤ s.size ∧ (decS (L s)).2.2.1.length ≤ s.size := by
  unfold decS
  split
  · simp
  · have h1 := tl_len (plS ((L s).drop (sgN (L s)))).1
    have h2 := tr_len (plS ((L s).drop (sgN (L s)))).2.1
    have h3 := pl1_len ((L s).drop (sgN (L s)))
    have h4 := pl2_len ((L s).drop (sgN (L s)))
    have h5 := size_drop s (sgN (L s))
    simp only
    omega
theorem humS_fields (s : ByteArray) : (humS s).1.1 = (decS (L s)).1 ∧ (humS s).1.2.1 = (decS (L s)).2.1 ∧ (humS s).1.2.2.1 = (decS (L s)).2.2.1 := by
  unfold humS
  simp only
  split
  · exact ⟨rfl, rfl, rfl⟩
  · split <;> exact ⟨rfl, rfl, rfl⟩
theorem human_ev (kind : Int) (s : ByteArray) (hs : s.size < 2305843009213693952) : Ev (fun k => numeral_human.f k kind s) ((huS kind s).1, (huS kind s).2.1, (huS kind s).2.2.1, mkB (huS kind s).2.2.2) := by
  unfold numeral_human.f
  refine Ev.bind (Human_ev s (by rw [big_eq]; omega)) ?_
  obtain ⟨f1, f2, f3⟩ := humS_fields s
  have hl := dec_len s
  unfold huS humV
  simp only
  rw [f2, f3]
  refine Ev.ite (fun h => ?_) (fun h => ?_)
  · rw [if_pos h]
    refine Ev.bind (digits_ev _ _ 0 (by omega) (by omega) (by omega)) ?_
    simp only [sizeOf_f, Option.bind_some]
    exact Ev.pure _
  · rw [if_neg h]
    refine Ev.bind (digits_ev _ _ 0 (by omega) (by omega) (by omega)) ?_
    simp only [sizeOf_f, Option.bind_some]
    exact Ev.pure _

/-! ### versions -/
def noDg (c : UInt8) : Bool := !isDg c
def pr1 (l : List UInt8) : List UInt8 := l.takeWhile noDg
def pr2 (l : List UInt8) : List UInt8 := (l.dropWhile noDg).takeWhile isDg
def pr3 (l : List UInt8) : List UInt8 := (l.dropWhile noDg).dropWhile isDg
theorem pr_all (l : List UInt8) : pr1 l ++ (pr2 l ++ pr3 l) = l := by
  unfold pr1 pr2 pr3
  rw [List.takeWhile_append_dropWhile, List.takeWhile_append_dropWhile]
theorem pr_len (l : List UInt8) : (pr1 l).length + (pr2 l).length + (pr3 l).length = l.length := by
  have := congrArg List.length (pr_all l)
  rw [List.length_append, List.length_append] at this
  omega
theorem pr_short {l : List UInt8} (h : l ≠ []) : (pr3 l).length < l.length := by
  have hl := pr_len l
  cases l with
  | nil => exact absurd rfl h
  | cons c r =>
    by_cases hc : isDg c = true
    · have : 0 < (pr2 (c :: r)).length := by
        unfold pr2
        rw [List.dropWhile_cons, if_neg (by simp [noDg, hc]), List.takeWhile_cons, if_pos hc]
        simp
      omega
    · have : 0 < (pr1 (c :: r)).length := by
        unfold pr1
        rw [List.takeWhile_cons, if_pos (by simp [noDg, hc])]
        simp
      omega
theorem digit_f (c : UInt8) : numeral_digit.f (c.toNat : Int) = some (isDg c) := plainDig_f _
theorem pair_l1 (s : ByteArray) (hs : s.size < big) (i : Nat) (hi : i ≤ s.size) (hx : (L s).take i = pr1 (L s)) (hy : (L s).drop i = (L s).dropWhile noDg) :
    Ev (fun k => numeral_pair.l1 k s (i : Int) (i : Int)) (mkB (pr1 (L s)), mkB (pr2 (L s)), mkB (pr3 (L s))) := by
  refine scan (p := isDg) (F := fun k j => numeral_pair.l1 k s (i : Int) j) hs (fun k j c h1 h2 hp => ?_) ((L s).drop i) i rfl ?_
  · simp only [numeral_pair.l1, h2, digit_f, Option.bind_some, w64_succ (i := j) (by rw [big_eq] at hs; omega)]
    rw [if_pos (by omega), if_pos (by omega), if_pos hp]
  · have e1 : s.extract 0 ((i : Int)).toNat = mkB (pr1 (L s)) := by rw [extract_front, Int.toNat_natCast, hx]
    have e2 : s.extract ((i : Int)).toNat (((i + (((L s).drop i).takeWhile isDg).length : Nat) : Int)).toNat = mkB (pr2 (L s)) := by
      rw [extract_mk', Int.toNat_natCast, Int.toNat_natCast, Nat.add_sub_cancel_left, take_run, hy]; rfl
    have e3 : s.extract (((i + (((L s).drop i).takeWhile isDg).length : Nat) : Int)).toNat s.size = mkB (pr3 (L s)) := by
      rw [extract_end, Int.toNat_natCast, (behind (p := isDg) hi).2, hy]; rfl
    have hb := (behind (p := isDg) hi).1
    refine Ev.succ ?_
    rcases stop_at (s := s) (p := isDg) hi with ⟨h, _⟩ | ⟨c, r, h1, h2, h3, _⟩
    · simp only [numeral_pair.l1, e1, e2, e3]
      exact Ev.neg (by omega) (Ev.pos (by omega) (Ev.pos (by omega) (Ev.pos (by omega) (Ev.pos (by omega) (Ev.pos (by omega) (Ev.pure _))))))
    · simp only [numeral_pair.l1, h2, digit_f, Option.bind_some, e1, e2, e3]
      exact Ev.pos (by omega) (Ev.pos (by omega) (Ev.neg (by rw [h3]; decide) (Ev.pos (by omega) (Ev.pos (by omega) (Ev.pos (by omega) (Ev.pos (by omega) (Ev.pure _)))))))
theorem pair_ev (s : ByteArray) (hs : s.size < big) : Ev (fun k => numeral_pair.f k s) (mkB (pr1 (L s)), mkB (pr2 (L s)), mkB (pr3 (L s))) := by
  unfold numeral_pair.f
  refine scan (p := noDg) (F := fun k j => numeral_pair.l0 k s j) hs (fun k j c h1 h2 hp => ?_) (L s) 0 rfl ?_
  · have hp' : isDg c = false := by simpa [noDg] using hp
    simp only [numeral_pair.l0, h2, digit_f, Option.bind_some, w64_succ (i := j) (by rw [big_eq] at hs; omega)]
    rw [if_pos (by omega), if_pos (by omega), if_neg (by rw [hp']; decide)]
  · have hst := stop_at (s := s) (p := noDg) (i := 0) (Nat.zero_le _)
    have hb := behind (s := s) (p := noDg) (i := 0) (Nat.zero_le _)
    simp only [Nat.zero_add, List.drop_zero] at *
    have key := pair_l1 s hs _ hb.1 (by rw [take_run]; rfl) hb.2
    refine Ev.succ ?_
    rcases hst with ⟨h, _⟩ | ⟨c, r, h1, h2, h3, _⟩
    · simp only [numeral_pair.l0]
      refine Ev.neg (by omega) (Ev.succ ?_)
      simp only [numeral_pair.j1]
      exact key
    · have hp' : isDg c = true := by simpa [noDg] using h3
      simp only [numeral_pair.l0, h2, digit_f, Option.bind_some]
      refine Ev.pos (by omega) (Ev.pos (by omega) (Ev.pos hp' (Ev.succ ?_)))
      simp only [numeral_pair.j1]
      exact key

def rkB (c : UInt8) : Int := rankF (c.toNat : Int)
theorem rank_f (c : UInt8) : numeral_rank.f (c.toNat : Int) = some (rkB c) := by
  unfold numeral_rank.f
  have := u8_lt c
  rw [if_pos (by omega)]
  rfl
/-- The order of two runs without digits. -/
def wdS : List UInt8 → List UInt8 → Int
  | [], [] => 0
  | a :: l, [] => if rkB a = 2 then wdS l [] else cmpI (rkB a) 2
  | [], b :: m => if 2 = rkB b then wdS [] m else cmpI 2 (rkB b)
  | a :: l, b :: m => if rkB a = rkB b then wdS l m else cmpI (rkB a) (rkB b)
theorem words_l0 (s t : ByteArray) (hs : s.size < big) (ht : t.size < big) (n : Nat) (hn : n = max s.size t.size) : ∀ (d i : Nat), n - i = d → i ≤ n →
    Ev (fun k => numeral_words.l0 k s t (n : Int) (i : Int)) (wdS ((L s).drop i) ((L t).drop i))
  | 0, i, h, hi => by
    refine Ev.succ ?_
    simp only [numeral_words.l0]
    rw [List.drop_eq_nil_iff.2 (by rw [L_len]; omega), List.drop_eq_nil_iff.2 (by rw [L_len]; omega)]
    exact Ev.neg (by omega) (Ev.done (by simp [wdS]))
  | d + 1, i, h, hi => by
    have hsu := w64_succ (i := i) (by rw [big_eq] at *; omega)
    have ih := words_l0 s t hs ht n hn d (i + 1) (by omega) (by omega)
    refine Ev.succ ?_
    simp only [numeral_words.l0]
    refine Ev.pos (by omega) ?_
    by_cases h1 : i < s.size
    · obtain ⟨a, ha, hb⟩ := drop_some h1
      rw [hb, rank_f]
      simp only [Option.bind_some]
      refine Ev.pos (by omega) (Ev.pos (by omega) (Ev.succ ?_))
      simp only [numeral_words.j1, hsu]
      by_cases h2 : i < t.size
      · obtain ⟨b, hc, hd⟩ := drop_some h2
        rw [hd, rank_f]
        simp only [Option.bind_some, Compare_byte_f]
        rw [ha, hc]
        simp only [wdS]
        refine Ev.pos (by omega) (Ev.pos (by omega) (Ev.ite (fun h3 => ?_) (fun h3 => ?_)))
        · rw [if_pos h3]; exact ih
        · rw [if_neg h3]; exact Ev.pure _
      · have hz : (L t).drop i = [] := List.drop_eq_nil_iff.2 (by rw [L_len]; omega)
        have hz1 : (L t).drop (i + 1) = [] := List.drop_eq_nil_iff.2 (by rw [L_len]; omega)
        rw [hz1] at ih
        rw [ha, hz]
        simp only [wdS, Compare_byte_f, Option.bind_some]
        refine Ev.neg (by omega) (Ev.ite (fun h3 => ?_) (fun h3 => ?_))
        · rw [if_pos h3]; exact ih
        · rw [if_neg h3]; exact Ev.pure _
    · have h2 : i < t.size := by omega
      obtain ⟨b, hc, hd⟩ := drop_some h2
      have hz : (L s).drop i = [] := List.drop_eq_nil_iff.2 (by rw [L_len]; omega)
      have hz1 : (L s).drop (i + 1) = [] := List.drop_eq_nil_iff.2 (by rw [L_len]; omega)
      rw [hz1] at ih
      refine Ev.neg (by omega) (Ev.succ ?_)
      simp only [numeral_words.j1, hsu]
      rw [hd, rank_f]
      simp only [Option.bind_some, Compare_byte_f]
      rw [hz, hc]
      simp only [wdS]
      refine Ev.pos (by omega) (Ev.pos (by omega) (Ev.ite (fun h3 => ?_) (fun h3 => ?_)))
      · rw [if_pos h3]; exact ih
      · rw [if_neg h3]; exact Ev.pure _
theorem words_ev (l m : List UInt8) (hl : l.length < big) (hm : m.length < big) : Ev (fun k => numeral_words.f k (mkB l) (mkB m)) (wdS l m) := by
  unfold numeral_words.f
  have e : mx ((mkB l).size : Int) ((mkB m).size : Int) = ((max (mkB l).size (mkB m).size : Nat) : Int) := by
    unfold mx
    split <;> omega
  rw [e]
  exact words_l0 (mkB l) (mkB m) (by rwa [size_mk]) (by rwa [size_mk]) _ rfl _ 0 rfl (Nat.zero_le _)
/-- The order of two runs of digits. -/
def rnS (l m : List UInt8) : Int :=
  if l = [] ∨ m = [] then cmpI (if l = [] then 0 else 1) (if m = [] then 0 else 1) else orS [cmpI ((tl l).length : Int) ((tl m).length : Int), bcmp (tl l) (tl m)]
theorem mn_len (l : List UInt8) : mn ((mkB l).size : Int) 1 = if l = [] then 0 else 1 := by
  unfold mn
  rw [size_mk]
  cases l with
  | nil => rfl
  | cons c r => simp only [List.length_cons, reduceCtorEq, if_false]; split <;> omega
theorem runs_ev (l m : List UInt8) (hl : l.length < big) (hm : m.length < big) : Ev (fun k => numeral_runs.f k (mkB l) (mkB m)) (rnS l m) := by
  unfold numeral_runs.f rnS
  simp only [toList_mk]
  refine Ev.ite (fun h => ?_) (fun h => ?_)
  · refine Ev.succ ?_
    simp only [numeral_runs.j0, mn_len, Compare_int_f, Option.bind_some]
    rw [if_pos (Or.inl h)]
    exact Ev.pos trivial (Ev.pure _)
  · refine Ev.succ ?_
    simp only [numeral_runs.j0, mn_len, Compare_int_f, Option.bind_some]
    refine Ev.ite (fun h' => ?_) (fun h' => ?_)
    · rw [if_pos (Or.inr (List.isEmpty_iff.1 h'))]
      exact Ev.pure _
    · rw [if_neg (by rintro (h1 | h1); exact h h1; exact h' (by rw [h1]; rfl))]
      refine Ev.bind (TrimLeft_ev l hl) (Ev.bind (TrimLeft_ev m hm) ?_)
      simp only [Compare_str_f, Option.bind_some, L_mk, size_mk]
      exact Ev.bind (Or_ev _ (by simp)) (Ev.pure _)
def vrF : Nat → List UInt8 → List UInt8 → Int
  | 0, _, _ => 0
  | n + 1, l, m => if l = [] ∧ m = [] then 0 else if orS [wdS (pr1 l) (pr1 m), rnS (pr2 l) (pr2 m)] = 0 then vrF n (pr3 l) (pr3 m) else orS [wdS (pr1 l) (pr1 m), rnS (pr2 l) (pr2 m)]
def vrS (l m : List UInt8) : Int := vrF (l.length + m.length + 1) l m
theorem pr3_nil : pr3 [] = [] := rfl
theorem versions_l0 : ∀ (n : Nat) (l m : List UInt8), l.length + m.length < n → l.length < big → m.length < big → Ev (fun k => numeral_versions.l0 k (mkB l) (mkB m)) (vrF n l m)
  | 0, l, m, h, _, _ => by omega
  | n + 1, l, m, h, hl, hm => by
    have step : ¬ (l = [] ∧ m = []) → Ev (fun k => numeral_versions.j1 k (mkB l) (mkB m) true) (vrF (n + 1) l m) := by
      intro hne
      have h1 := pr_len l
      have h2 := pr_len m
      have hsh : (pr3 l).length + (pr3 m).length < l.length + m.length := by
        by_cases hl0 : l = []
        · subst hl0
          have := pr_short (l := m) (fun hm0 => hne ⟨rfl, hm0⟩)
          rw [pr3_nil]; omega
        · have := pr_short hl0
          omega
      refine Ev.succ ?_
      simp only [numeral_versions.j1]
      refine Ev.pos trivial (Ev.bind (pair_ev (mkB l) (by rwa [size_mk])) (Ev.bind (pair_ev (mkB m) (by rwa [size_mk])) ?_))
      simp only [L_mk]
      refine Ev.bind (words_ev _ _ (by omega) (by omega)) (Ev.bind (runs_ev _ _ (by omega) (by omega)) (Ev.bind (Or_ev _ (by simp)) ?_))
      simp only [vrF]
      rw [if_neg hne]
      refine Ev.ite (fun h3 => ?_) (fun h3 => ?_)
      · rw [if_pos h3]
        exact versions_l0 n _ _ (by omega) (by omega) (by omega)
      · rw [if_neg h3]; exact Ev.pure _
    refine Ev.succ ?_
    simp only [numeral_versions.l0, toList_mk]
    refine Ev.ite (fun h1 => ?_) (fun h1 => ?_)
    · by_cases h2 : m = []
      · subst h1 h2
        refine Ev.succ ?_
        simp only [numeral_versions.j1]
        exact Ev.neg (by decide) (Ev.done rfl)
      · have : (!m.isEmpty) = true := by cases m <;> simp_all
        rw [this]
        exact step (fun hh => h2 hh.2)
    · exact step (fun hh => h1 hh.1)
theorem versions_ev (s t : ByteArray) (hs : s.size < big) (ht : t.size < big) : Ev (fun k => numeral_versions.f k s t) (vrS (L s) (L t)) := by
  unfold numeral_versions.f
  have := versions_l0 ((L s).length + (L t).length + 1) (L s) (L t) (by omega) (by rwa [L_len]) (by rwa [L_len])
  simp only [mk_L] at this
  exact this
end Go.Proofs.YtcdajedmlfhmeaaDoor.XN
end

section
/- The laws' head: what must come. (by this session) -/
-- NEEDS numeral_Compare milllaw3_alive
set_option linter.unusedVariables false
set_option linter.unusedSimpArgs false
namespace Go.Proofs.YtcdajedmlfhmeaaDoor.XN
open Go.RowKit Go.Proofs.YtcdajedmlfhmeaaDoorW.PrintWords Go.Proofs.YtcdajedmlfhmeaaDoorW.PrintMore

theorem Compare_h (kind : Int) (hk : kind = 16 ∨ kind = 64) (s t : ByteArray) (hs : s.size < 2305843009213693952) (ht : t.size < 2305843009213693952) : Ev (fun k => numeral_Compare.f k kind s t) (ordS (huS kind s) (huS kind t)) := by
  have key : Ev (fun k => numeral_Compare.j0 k kind s t kind true) (ordS (huS kind s) (huS kind t)) := by
    refine Ev.succ ?_
    simp only [numeral_Compare.j0]
    refine Ev.pos trivial (Ev.bind (human_ev kind s hs) (Ev.bind (human_ev kind t ht) (Ev.bind (order_ev (huS kind s) (huS kind t) ?_) (Ev.pure _))))
    unfold huS
    exact szS_sign _ _ _ _
  unfold numeral_Compare.f
  rcases hk with rfl | rfl
  · exact Ev.pos rfl key
  · exact Ev.neg (by decide) key
theorem Compare_v (s t : ByteArray) (hs : s.size < big) (ht : t.size < big) : Ev (fun k => numeral_Compare.f k 256 s t) (vrS (L s) (L t)) := by
  unfold numeral_Compare.f
  refine Ev.neg (by decide) (Ev.succ ?_)
  simp only [numeral_Compare.j0]
  refine Ev.neg (by decide) (Ev.neg (by decide) (Ev.pos trivial (Ev.bind (versions_ev s t hs ht) (Ev.pure _))))
theorem alive_dec : decS [45, 49, 50, 46, 53, 120] = (true, [49, 50], [53], 5) := by decide +kernel
theorem alive_n : ordS (huS 16 ⟨#[57]⟩) (huS 16 ⟨#[49, 48]⟩) = -1 := by decide +kernel
theorem alive_v : vrS [98] [97] = 1 := by
  have h1 : wdS [98] [97] = 1 := by simp only [wdS]; decide +kernel
  have e1 : pr1 [98] = [98] := by decide +kernel
  have e2 : pr1 [97] = [97] := by decide +kernel
  unfold vrS
  simp only [List.length_cons, List.length_nil, vrF, e1, e2, h1, orS]
  decide
theorem alive_ev : Ev (fun k => milllaw3_alive.f k) true := by
  unfold milllaw3_alive.f
  refine Ev.bind (Decimal_ev ⟨#[45, 49, 50, 46, 53, 120]⟩ (by decide)) ?_
  have e : decV (L ⟨#[45, 49, 50, 46, 53, 120]⟩) = (true, mkB [49, 50], mkB [53], 5) := by
    unfold decV
    rw [show L ⟨#[45, 49, 50, 46, 53, 120]⟩ = [45, 49, 50, 46, 53, 120] from rfl, alive_dec]
    rfl
  rw [e]
  simp only [toList_mk]
  refine Ev.pos trivial (Ev.pos trivial (Ev.pos trivial (Ev.pos trivial ?_)))
  refine Ev.bind (Compare_h 16 (Or.inl rfl) _ _ (by decide) (by decide)) ?_
  rw [alive_n]
  refine Ev.pos rfl (Ev.bind (Compare_v _ _ (by decide) (by decide)) ?_)
  rw [show L ⟨#[98]⟩ = [98] from rfl, show L ⟨#[97]⟩ = [97] from rfl, alive_v]
  exact Ev.done rfl
end Go.Proofs.YtcdajedmlfhmeaaDoor.XN
end

section
/- General: what numeral and millref3 compute. (by this session) -/
-- NEEDS numeral_exponent millref3_exponent numeral_General millref3_General millref3_Norm
set_option linter.unusedVariables false
set_option linter.unusedSimpArgs false
namespace Go.Proofs.YtcdajedmlfhmeaaDoor.XN
open Go.RowKit Go.Proofs.YtcdajedmlfhmeaaDoorW.PrintWords Go.Proofs.YtcdajedmlfhmeaaDoorW.PrintMore

/-! ### an exponent -/
def most : Nat := 1099511627776
theorem most_eq : most = 1099511627776 := rfl
/-- Digits read on from n. -/
def dvf (n : Nat) (l : List UInt8) : Nat := l.foldl (fun n c => 10 * n + (c.toNat - 48)) n
def dval (l : List UInt8) : Nat := dvf 0 l
theorem dvf_cons (n : Nat) (c : UInt8) (l : List UInt8) : dvf n (c :: l) = dvf (10 * n + (c.toNat - 48)) l := by unfold dvf; rw [List.foldl_cons]
theorem dvf_app (n : Nat) (l m : List UInt8) : dvf n (l ++ m) = dvf (dvf n l) m := by unfold dvf; rw [List.foldl_append]
theorem dvf_ge : ∀ (l : List UInt8) (n : Nat), n * 10 ^ l.length ≤ dvf n l
  | [], n => by simp [dvf]
  | c :: l, n => by
    rw [dvf_cons]
    refine Nat.le_trans ?_ (dvf_ge l _)
    rw [List.length_cons, Nat.pow_succ, Nat.mul_comm (10 ^ l.length) 10, ← Nat.mul_assoc]
    exact Nat.mul_le_mul_right _ (by omega)
theorem dvf_lt : ∀ (l : List UInt8) (n : Nat), (∀ c ∈ l, isDg c = true) → dvf n l < (n + 1) * 10 ^ l.length
  | [], n, _ => by simp [dvf]
  | c :: l, n, h => by
    rw [dvf_cons]
    have hc : isDg c = true := h c (by simp)
    have hd : c.toNat - 48 ≤ 9 := by
      unfold isDg plainDig at hc
      simp at hc
      omega
    refine Nat.lt_of_lt_of_le (dvf_lt l _ fun d hd => h d (by simp [hd])) ?_
    rw [List.length_cons, Nat.pow_succ, Nat.mul_comm (10 ^ l.length) 10, ← Nat.mul_assoc]
    exact Nat.mul_le_mul_right _ (by omega)
theorem isDg_iff (c : UInt8) : isDg c = true ↔ 48 ≤ (c.toNat : Int) ∧ (c.toNat : Int) ≤ 57 := by unfold isDg plainDig; simp
theorem run_dg (l : List UInt8) : ∀ c ∈ l.takeWhile isDg, isDg c = true := by
  induction l with
  | nil => intro c h; cases h
  | cons d l ih =>
    intro c h
    rw [List.takeWhile_cons] at h
    split at h
    · rename_i hd
      rcases List.mem_cons.1 h with rfl | h
      · exact hd
      · exact ih c h
    · cases h
/-- The program's reckoning: no more than most. -/
def satF (n : Nat) : List UInt8 → Nat
  | [] => n
  | c :: r => if isDg c = true then satF (min (n * 10 + (c.toNat - 48)) most) r else n
theorem satF_run : ∀ (l : List UInt8) (a : Nat), satF (min a most) l = min (dvf a (l.takeWhile isDg)) most
  | [], a => rfl
  | c :: r, a => by
    rw [List.takeWhile_cons]
    unfold satF
    by_cases hc : isDg c = true
    · rw [if_pos hc, if_pos hc, dvf_cons, ← satF_run r]
      congr 1
      rw [most_eq]
      omega
    · rw [if_neg hc, if_neg hc]; rfl
theorem satF_0 (l : List UInt8) : satF 0 l = min (dval (l.takeWhile isDg)) most := by
  have := satF_run l 0
  rw [show min 0 most = 0 by rw [most_eq]; rfl] at this
  exact this
theorem expo_l0 (s : ByteArray) (hs : s.size < big) (sg : Int) (hsg : sg = 1 ∨ sg = -1) : ∀ (l : List UInt8) (i en n : Nat), (L s).drop i = l → i ≤ s.size → n ≤ most →
    Ev (fun k => numeral_exponent.l0 k s (i : Int) (en : Int) sg (n : Int)) (sg * (satF n l : Int), ((if l.takeWhile isDg = [] then en else i + (l.takeWhile isDg).length : Nat) : Int))
  | [], i, en, n, hl, hi, hn => by
    have := drop_nil hl
    rw [most_eq] at hn
    refine Ev.succ ?_
    simp only [numeral_exponent.l0]
    refine Ev.neg (by omega) (Ev.done ?_)
    rw [w64 (x := sg * (n : Int)) (by rcases hsg with rfl | rfl <;> omega)]
    rfl
  | c :: r, i, en, n, hl, hi, hn => by
    obtain ⟨h1, h2, h3⟩ := drop_cons hl
    refine Ev.succ ?_
    simp only [numeral_exponent.l0, h2, digit_f, Option.bind_some]
    refine Ev.pos (by omega) (Ev.pos (by omega) ?_)
    rw [List.takeWhile_cons]
    unfold satF
    have hb := hs
    rw [big_eq] at hb
    by_cases hc : isDg c = true
    · refine Ev.pos hc ?_
      rw [if_pos hc, if_pos hc]
      have hcc := (isDg_iff c).1 hc
      have hm := hn
      rw [most_eq] at hm
      have e1 : mn (wrap64 (wrap64 ((n : Int) * 10) + ((c.toNat : Int) - 48) % 256)) 1099511627776 = ((min (n * 10 + (c.toNat - 48)) most : Nat) : Int) := by
        rw [w64 (x := (n : Int) * 10) (by omega), w64 (by omega), most_eq]
        unfold mn
        omega
      simp only [w64_succ (i := i) (by omega), e1]
      refine Ev.val (expo_l0 s hs sg hsg r (i + 1) (i + 1) _ h3 (by omega) (Nat.min_le_right _ _)) ?_
      congr 2
      simp only [List.length_cons, reduceCtorEq, if_false]
      split
      · rename_i h; rw [h]; rfl
      · omega
    · refine Ev.neg hc (Ev.done ?_)
      rw [most_eq] at hn
      rw [if_neg hc, if_neg hc, w64 (x := sg * (n : Int)) (by rcases hsg with rfl | rfl <;> omega)]
      rfl
/-- A sign at the head: is it -, how many bytes. -/
def sgE : List UInt8 → Bool × Nat
  | [] => (false, 0)
  | c :: _ => if (c.toNat : Int) = 45 then (true, 1) else if (c.toNat : Int) = 43 then (false, 1) else (false, 0)
theorem sgE_cons (c : UInt8) (r : List UInt8) : sgE (c :: r) = if (c.toNat : Int) = 45 then (true, 1) else if (c.toNat : Int) = 43 then (false, 1) else (false, 0) := rfl
def isE (c : UInt8) : Bool := decide (c = 101) || decide (c = 69)
/-- An exponent at the head: its value, how many bytes. -/
def expS : List UInt8 → Int × Nat
  | [] => (0, 0)
  | c :: r =>
    if isE c = true then
      let d := (r.drop (sgE r).2).takeWhile isDg
      if d = [] then (0, 0) else ((if (sgE r).1 = true then -1 else 1) * (min (dval d) most : Nat), 1 + (sgE r).2 + d.length)
    else (0, 0)
theorem expS_range (l : List UInt8) : -1099511627776 ≤ (expS l).1 ∧ (expS l).1 ≤ 1099511627776 := by
  unfold expS
  split
  · simp
  · split
    · simp only []
      split
      · simp
      · simp only [most_eq]
        split <;> omega
    · simp
theorem orE (c : UInt8) : (Go.bits .or .u8 (c.toNat : Int) 32 = 101) ↔ isE c = true := by
  have : ∀ c : UInt8, (Go.bits .or .u8 (c.toNat : Int) 32 = 101) ↔ isE c = true := all8 (by decide +kernel)
  exact this c
theorem lowE (c : UInt8) : (((lowB c).toNat : Int) = 101) ↔ isE c = true := by
  have : ∀ c : UInt8, (((lowB c).toNat : Int) = 101) ↔ isE c = true := all8 (by decide +kernel)
  exact this c
theorem expo_tail (s : ByteArray) (hs : s.size < big) (sg : Int) (hsg : sg = 1 ∨ sg = -1) (i j : Nat) (hj : j ≤ s.size) :
    Ev (fun k => numeral_exponent.l0 k s (j : Int) (i : Int) sg 0)
      (if ((L s).drop j).takeWhile isDg = [] then (0, (i : Int)) else (sg * ((min (dval (((L s).drop j).takeWhile isDg)) most : Nat) : Int), ((j + (((L s).drop j).takeWhile isDg).length : Nat) : Int))) := by
  refine Ev.val (expo_l0 s hs sg hsg _ j i 0 rfl hj (Nat.zero_le _)) ?_
  rw [satF_0]
  split
  · rename_i h
    rw [h, show dval [] = 0 from rfl]
    simp [most_eq]
  · rfl
theorem exponent_ev (s : ByteArray) (hs : s.size < big) (i : Nat) (hi : i ≤ s.size) : Ev (fun k => numeral_exponent.f k s (i : Int)) ((expS ((L s).drop i)).1, ((i + (expS ((L s).drop i)).2 : Nat) : Int)) := by
  unfold numeral_exponent.f
  have hb := hs
  rw [big_eq] at hb
  by_cases he : i = s.size
  · refine Ev.pos (by omega) (Ev.done ?_)
    rw [List.drop_eq_nil_iff.2 (by rw [L_len]; omega)]
    rfl
  obtain ⟨c, hc, hbc⟩ := drop_some (s := s) (i := i) (by omega)
  refine Ev.neg (by omega) (Ev.pos (by omega) (Ev.pos (by omega) ?_))
  rw [hc, hbc]
  unfold expS
  by_cases hE : isE c = true
  · refine Ev.pos ((orE c).2 hE) ?_
    simp only [if_pos hE, w64_succ (i := i) (by omega)]
    by_cases h1 : i + 1 < s.size
    · obtain ⟨d, hd, hbd⟩ := drop_some (s := s) (i := i + 1) h1
      refine Ev.pos (by omega) (Ev.pos (by omega) ?_)
      rw [hbd, hd]
      simp only [sgE_cons]
      by_cases h45 : (d.toNat : Int) = 45
      · refine Ev.pos h45 ?_
        simp only [if_pos h45, w64_succ (i := i + 1) (by omega), List.drop_succ_cons, List.drop_zero]
        refine Ev.val (expo_tail s hs (-1) (Or.inr rfl) i (i + 1 + 1) (by omega)) ?_
        split
        · rfl
        · simp only [if_true]
          congr 2
          omega
      · refine Ev.neg h45 ?_
        simp only [if_neg h45]
        by_cases h43 : (d.toNat : Int) = 43
        · refine Ev.pos h43 ?_
          simp only [if_pos h43, w64_succ (i := i + 1) (by omega), List.drop_succ_cons, List.drop_zero]
          refine Ev.val (expo_tail s hs 1 (Or.inl rfl) i (i + 1 + 1) (by omega)) ?_
          split
          · rfl
          · simp only [Bool.false_eq_true, if_false]
            congr 2
            omega
        · refine Ev.neg h43 ?_
          simp only [if_neg h43, List.drop_zero]
          refine Ev.val (expo_tail s hs 1 (Or.inl rfl) i (i + 1) (by omega)) ?_
          rw [hd]
          split
          · rfl
          · simp only [Bool.false_eq_true, if_false]
            congr 2
            omega
    · refine Ev.neg (by omega) ?_
      have hn : (L s).drop (i + 1) = [] := List.drop_eq_nil_iff.2 (by rw [L_len]; omega)
      refine Ev.val (expo_tail s hs 1 (Or.inl rfl) i (i + 1) (by omega)) ?_
      rw [hn]
      rfl
  · refine Ev.neg (fun h => hE ((orE c).1 h)) (Ev.done ?_)
    simp only [if_neg hE]
    rfl
/-! the document's exponent -/
theorem dval_tl : ∀ (l : List UInt8), dval (tl l) = dval l
  | [] => rfl
  | c :: r => by
    unfold tl
    rw [List.dropWhile_cons]
    split
    · rename_i h
      have hc := (is0_iff c).1 h
      show dval (tl r) = _
      rw [dval_tl r]
      unfold dval
      rw [dvf_cons, show 10 * 0 + (c.toNat - 48) = 0 by omega]
    · rfl
theorem tl_dg {l : List UInt8} (h : ∀ c ∈ l, isDg c = true) : ∀ c ∈ tl l, isDg c = true := by
  intro c hc
  exact h c ((List.dropWhile_sublist is0).subset hc)
theorem rexpo_l0 (d : List UInt8) (hd : ∀ c ∈ d, isDg c = true) (neg : Bool) (x8 : Int) (hl : d.length < big) : ∀ (m q : Nat), 14 - q = m → q ≤ d.length → q ≤ 14 →
    Ev (fun k => millref3_exponent.l0 k neg x8 (mkB d) ((dvf 0 (d.take q) : Nat) : Int) (q : Int))
      ((if neg = true then -1 else 1) * (if dval (d.take 14) > most then (most : Int) else if d.length > 14 then (most : Int) else ((dval (d.take 14) : Nat) : Int)), x8) := by
  have htop : ∀ q, d.take q = d.take 14 → dvf 0 (d.take q) < 10 ^ 14 → Ev (fun k => (if ((dvf 0 (d.take q) : Nat) : Int) > 1099511627776 then (if neg = true then (some (-1099511627776, x8)) else (some (1099511627776, x8))) else (if ((mkB d).size : Int) > 14 then (if neg = true then (some (-1099511627776, x8)) else (some (1099511627776, x8))) else (if neg = true then (some (wrap64 (-((dvf 0 (d.take q) : Nat) : Int)), x8)) else (some (((dvf 0 (d.take q) : Nat) : Int), x8)))) : Option (Int × Int)))
      ((if neg = true then -1 else 1) * (if dval (d.take 14) > most then (most : Int) else if d.length > 14 then (most : Int) else ((dval (d.take 14) : Nat) : Int)), x8) := by
    intro q hq hlt
    rw [hq] at hlt ⊢
    rw [size_mk]
    unfold dval
    generalize dvf 0 (d.take 14) = v at *
    rw [most_eq]
    have hv : v < 100000000000000 := hlt
    refine Ev.ite (fun h => ?_) (fun h => ?_)
    · rw [if_pos (show v > 1099511627776 by omega)]
      cases neg <;> exact Ev.done rfl
    · rw [if_neg (show ¬ v > 1099511627776 by omega)]
      refine Ev.ite (fun h2 => ?_) (fun h2 => ?_)
      · rw [if_pos (show d.length > 14 by omega)]
        cases neg <;> exact Ev.done rfl
      · rw [if_neg (show ¬ d.length > 14 by omega)]
        rw [w64 (by omega)]
        cases neg
        · exact Ev.done (by simp)
        · exact Ev.done (by simp)
  have hbnd : ∀ q, q ≤ 14 → dvf 0 (d.take q) < 10 ^ 14 := by
    intro q hq
    have := dvf_lt (d.take q) 0 (fun c hc => hd c (List.mem_of_mem_take hc))
    refine Nat.lt_of_lt_of_le this ?_
    rw [Nat.zero_add, Nat.one_mul]
    exact Nat.pow_le_pow_right (by decide) (by rw [List.length_take]; omega)
  intro m
  induction m with
  | zero =>
    intro q hm hq h14
    have hq14 : q = 14 := by omega
    subst hq14
    refine Ev.succ ?_
    simp only [millref3_exponent.l0]
    by_cases h : (14 : Nat) < d.length
    · refine Ev.pos (by rw [size_mk]; omega) (Ev.neg (by omega) ?_)
      exact htop 14 rfl (hbnd 14 (by omega))
    · refine Ev.neg (by rw [size_mk]; omega) ?_
      exact htop 14 rfl (hbnd 14 (by omega))
  | succ m ih =>
    intro q hm hq h14
    refine Ev.succ ?_
    simp only [millref3_exponent.l0]
    by_cases h : q < d.length
    · refine Ev.pos (by rw [size_mk]; omega) (Ev.pos (by omega) (Ev.pos (by omega) ?_))
      have hc : isDg d[q] = true := hd _ (List.getElem_mem h)
      have hcc := (isDg_iff _).1 hc
      have hbt : bt (mkB d) (q : Int) = (d[q].toNat : Int) := bt_nat (mkB d) q h
      have hlt := hbnd q h14
      have hlt' : dvf 0 (d.take q) < 100000000000000 := hlt
      rw [hbt]
      have e1 : wrap64 (wrap64 (10 * ((dvf 0 (d.take q) : Nat) : Int)) + ((d[q].toNat : Int) - 48) % 256) = ((dvf 0 (d.take (q + 1)) : Nat) : Int) := by
        rw [w64 (x := 10 * ((dvf 0 (d.take q) : Nat) : Int)) (by omega), w64 (by omega)]
        rw [List.take_succ_eq_append_getElem h, dvf_app]
        show _ = ((10 * dvf 0 (d.take q) + (d[q].toNat - 48) : Nat) : Int)
        omega
      rw [e1, w64_succ (i := q) (by omega)]
      exact ih (q + 1) (by omega) (by omega) (by omega)
    · refine Ev.neg (by rw [size_mk]; omega) ?_
      have hqe : q = d.length := by omega
      exact htop q (by rw [List.take_of_length_le (by omega), List.take_of_length_le (by omega)]) (hbnd q h14)
/-- The document's value of digits without zeros ahead is the program's. -/
theorem rval (d : List UInt8) (hd : ∀ c ∈ d, isDg c = true) : (if dval ((tl d).take 14) > most then (most : Int) else if (tl d).length > 14 then (most : Int) else ((dval ((tl d).take 14) : Nat) : Int)) = ((min (dval d) most : Nat) : Int) := by
  rw [← dval_tl d]
  have hd' := tl_dg hd
  have hh : ∀ c r, tl d = c :: r → is0 c = false := fun c r h => dropWhile_head h
  generalize tl d = t at *
  by_cases h : t.length > 14
  · have hge : most ≤ dval t := by
      cases t with
      | nil => simp at h
      | cons c r =>
        have hc := (isDg_iff c).1 (hd' c (by simp))
        have h0 := is0_false (hh c r rfl)
        unfold dval
        rw [dvf_cons]
        refine Nat.le_trans ?_ (dvf_ge r _)
        have : 10 ^ 14 ≤ 10 ^ r.length := Nat.pow_le_pow_right (by decide) (by simp at h; omega)
        have h2 : 10 * 0 + (c.toNat - 48) ≥ 1 := by omega
        have h3 : 1 * 10 ^ r.length ≤ (10 * 0 + (c.toNat - 48)) * 10 ^ r.length := Nat.mul_le_mul_right _ h2
        have h4 : most ≤ 10 ^ 14 := by rw [most_eq]; decide
        omega
    rw [if_pos h]
    rw [Nat.min_eq_right hge]
    split <;> rfl
  · rw [if_neg h, List.take_of_length_le (by omega)]
    split <;> omega
theorem rexpo_tail (s : ByteArray) (hs : s.size < big) (neg : Bool) (i j : Nat) (hj : j ≤ s.size) (b : Bool) (hb : b = neg) :
    Ev (fun k => (millref3_run.f k s (j : Int)).bind fun t363 => (if t363 = (j : Int) then (some (0, (i : Int))) else (if (j : Int) ≤ t363 then (if t363 ≤ (s.size : Int) then ((millref3_zeros.f k (s.extract ((j : Int)).toNat (t363 : Int).toNat)).bind fun t364 => (if 0 ≤ t364 then (if t364 ≤ ((t363.toNat - ((j : Int)).toNat : Nat) : Int) then (millref3_exponent.l0 k b t363 ((s.extract ((j : Int)).toNat (t363 : Int).toNat).extract (t364 : Int).toNat (t363.toNat - ((j : Int)).toNat)) 0 0) else (none)) else (none))) else (none)) else (none))))
      (if ((L s).drop j).takeWhile isDg = [] then (0, (i : Int)) else ((if neg = true then -1 else 1) * ((min (dval (((L s).drop j).takeWhile isDg)) most : Nat) : Int), ((j + (((L s).drop j).takeWhile isDg).length : Nat) : Int))) := by
  subst hb
  have hst := (behind (p := isDg) hj).1
  have hdg := run_dg ((L s).drop j)
  refine Ev.bind (run_ev s hs j hj) ?_
  have hx : s.extract j (j + (((L s).drop j).takeWhile isDg).length) = mkB (((L s).drop j).takeWhile isDg) := by
    rw [extract_mk', Nat.add_sub_cancel_left, take_run]
  generalize hd : ((L s).drop j).takeWhile isDg = d at *
  rw [big_eq] at hs
  by_cases h0 : d = []
  · rw [if_pos h0]
    refine Ev.pos (by rw [h0]; simp) (Ev.pure _)
  · rw [if_neg h0]
    have hpos : 0 < d.length := List.length_pos_iff.2 h0
    refine Ev.neg (by omega) (Ev.pos (by omega) (Ev.pos (by omega) ?_))
    simp only [Int.toNat_natCast, hx, Nat.add_sub_cancel_left]
    have hz := zeros_ev (mkB d) (by rw [size_mk, big_eq]; omega)
    rw [L_mk] at hz
    refine Ev.bind hz ?_
    have hzl := take_len (p := is0) d
    refine Ev.pos (by omega) (Ev.pos (by omega) ?_)
    have hy : (mkB d).extract (d.takeWhile is0).length d.length = mkB (tl d) := by
      have := extract_end (mkB d) (d.takeWhile is0).length
      rw [size_mk, L_mk, drop_run] at this
      exact this
    simp only [Int.toNat_natCast, hy]
    have := rexpo_l0 (tl d) (tl_dg hdg) b (((j + d.length : Nat) : Int)) (by have := tl_len d; rw [big_eq]; omega) 14 0 rfl (Nat.zero_le _) (by omega)
    rw [rval d hdg] at this
    exact this
theorem rexponent_ev (s : ByteArray) (hs : s.size < big) (i : Nat) (hi : i ≤ s.size) : Ev (fun k => millref3_exponent.f k s (i : Int)) ((expS ((L s).drop i)).1, ((i + (expS ((L s).drop i)).2 : Nat) : Int)) := by
  unfold millref3_exponent.f
  have hb := hs
  rw [big_eq] at hb
  by_cases he : i = s.size
  · refine Ev.pos (by omega) (Ev.done ?_)
    rw [List.drop_eq_nil_iff.2 (by rw [L_len]; omega)]
    rfl
  obtain ⟨c, hc, hbc⟩ := drop_some (s := s) (i := i) (by omega)
  refine Ev.neg (by omega) (Ev.pos (by omega) (Ev.pos (by omega) ?_))
  rw [hc, hbc]
  simp only [low_f, Option.bind_some]
  unfold expS
  by_cases hE : isE c = true
  · refine Ev.pos ((lowE c).2 hE) ?_
    simp only [if_pos hE, w64_succ (i := i) (by omega)]
    by_cases h1 : i + 1 < s.size
    · obtain ⟨d, hd, hbd⟩ := drop_some (s := s) (i := i + 1) h1
      refine Ev.pos (by omega) (Ev.pos (by omega) ?_)
      rw [hbd, hd]
      simp only [sgE_cons]
      by_cases h45 : (d.toNat : Int) = 45
      · refine Ev.pos h45 ?_
        simp only [if_pos h45, w64_succ (i := i + 1) (by omega), List.drop_succ_cons, List.drop_zero]
        simp only [if_pos (show (0 : Int) ≤ ((i + 1 + 1 : Nat) : Int) by omega)]
        refine Ev.val (rexpo_tail s hs true i (i + 1 + 1) (by omega) _ (by simp [h45])) ?_
        split
        · rfl
        · simp only [if_true]
          congr 2
          omega
      · refine Ev.neg h45 ?_
        simp only [if_neg h45]
        by_cases h43 : (d.toNat : Int) = 43
        · refine Ev.pos h43 ?_
          simp only [if_pos h43, w64_succ (i := i + 1) (by omega), List.drop_succ_cons, List.drop_zero]
          simp only [if_pos (show (0 : Int) ≤ ((i + 1 + 1 : Nat) : Int) by omega)]
          refine Ev.val (rexpo_tail s hs false i (i + 1 + 1) (by omega) _ (by simp [h43])) ?_
          split
          · rfl
          · simp only [Bool.false_eq_true, if_false]
            congr 2
            omega
        · refine Ev.neg h43 ?_
          simp only [if_neg h43, List.drop_zero]
          refine Ev.val (rexpo_tail s hs false i (i + 1) (by omega) _ rfl) ?_
          rw [hd]
          split
          · rfl
          · simp only [Bool.false_eq_true, if_false]
            congr 2
            omega
    · refine Ev.neg (by omega) ?_
      have hn : (L s).drop (i + 1) = [] := List.drop_eq_nil_iff.2 (by rw [L_len]; omega)
      simp only [if_pos (show (0 : Int) ≤ ((i + 1 : Nat) : Int) by omega)]
      refine Ev.val (rexpo_tail s hs false i (i + 1) (by omega) _ rfl) ?_
      rw [hn]
      rfl
  · refine Ev.neg (fun h => hE ((lowE c).1 h)) (Ev.done ?_)
    simp only [if_neg hE]
    rfl
end Go.Proofs.YtcdajedmlfhmeaaDoor.XN
end

section
/- General: the whole, both sides; Compare at g and at any other kind. (by this session) -/
-- NEEDS numeral_General millref3_General millref3_Norm
set_option linter.unusedVariables false
set_option linter.unusedSimpArgs false
namespace Go.Proofs.YtcdajedmlfhmeaaDoor.XN
open Go.RowKit Go.Proofs.YtcdajedmlfhmeaaDoorW.PrintWords Go.Proofs.YtcdajedmlfhmeaaDoorW.PrintMore

def wInfinity : List UInt8 := [105, 110, 102, 105, 110, 105, 116, 121]
def wInf : List UInt8 := [105, 110, 102]
def wNan : List UInt8 := [110, 97, 110]
abbrev Gn := Int × Bool × List UInt8 × Int × Nat
/-- What General takes, behind blanks and sign: n stands at i. -/
def genB (neg : Bool) (n : List UInt8) (i : Nat) : Gn :=
  if bgN n wInfinity = true then ((if neg = true then 2 else 4), false, [], 0, i + 8)
  else if bgN n wInf = true then ((if neg = true then 2 else 4), false, [], 0, i + 3)
  else if bgN n wNan = true then (1, false, [], 0, i + 3)
  else if noneAt n = true then (0, false, [], 0, 0)
  else
    let d := digS (plS n).1 (plS n).2.1 (expS (n.drop (plS n).2.2)).1
    (3, neg && !d.1.isEmpty, d.1, d.2, i + (plS n).2.2 + (expS (n.drop (plS n).2.2)).2)
def genN (l : List UInt8) : Nat := blkN l + (sgE (l.drop (blkN l))).2
def genS (l : List UInt8) : Gn := genB (sgE (l.drop (blkN l))).1 (l.drop (genN l)) (genN l)
def gnV (g : Gn) : Int × Bool × ByteArray × Int × Int := (g.1, g.2.1, mkB g.2.2.1, g.2.2.2.1, (g.2.2.2.2 : Int))
theorem gen_l0 (s : ByteArray) (hs : s.size < 2305843009213693952) (neg : Bool) (i : Nat) (hi : i ≤ s.size) : Ev (fun k => numeral_General.l0 k s (i : Int) neg 0) (gnV (genB neg ((L s).drop i) i)) := by
  have hb : s.size < big := by rw [big_eq]; omega
  have hstop : ¬ bgN ((L s).drop i) wInfinity = true → ¬ bgN ((L s).drop i) wInf = true → ¬ bgN ((L s).drop i) wNan = true →
      Ev (fun k => numeral_General.l0 k s (i : Int) neg 3) (gnV (genB neg ((L s).drop i) i)) := by
    intro h1 h2 h3
    refine Ev.succ ?_
    simp only [numeral_General.l0]
    refine Ev.neg (by decide) ?_
    have hpl := plS_len ((L s).drop i)
    rw [List.length_drop, L_len] at hpl
    have hp1 := pl1_len ((L s).drop i)
    have hp2 := pl2_len ((L s).drop i)
    have hdl := size_drop s i
    rw [plain_f s hb i hi]
    simp only [Option.bind_some]
    unfold genB
    rw [if_neg h1, if_neg h2, if_neg h3]
    by_cases h0 : noneAt ((L s).drop i) = true
    · rw [if_pos h0, if_pos h0]
      exact Ev.pos rfl (Ev.done rfl)
    · rw [if_neg h0, if_neg h0]
      have hpos := pl_pos h0
      refine Ev.neg (by simp only; omega) ?_
      refine Ev.bind (exponent_ev s hb (i + (plS ((L s).drop i)).2.2) (by omega)) ?_
      rw [← List.drop_drop]
      have hr := expS_range (((L s).drop i).drop (plS ((L s).drop i)).2.2)
      refine Ev.bind (digits_ev _ _ _ (by omega) (by omega) (by omega)) ?_
      simp only [toList_mk]
      refine Ev.ite (fun hn => ?_) (fun hn => ?_)
      · rw [hn]; exact Ev.done (by simp [gnV])
      · rw [Bool.not_eq_true] at hn; rw [hn]; exact Ev.done (by simp [gnV])
  have hb' := hb
  rw [big_eq] at hb'
  refine Ev.succ ?_
  simp only [numeral_General.l0]
  refine Ev.pos (by decide) (Ev.pos trivial (Ev.bind (begins_ev s hb i hi wInfinity (by decide) (by decide)) ?_))
  by_cases h1 : bgN ((L s).drop i) wInfinity = true
  · refine Ev.pos h1 ?_
    have hl : i + 8 ≤ s.size := by
      rcases Nat.lt_or_ge ((L s).drop i).length 8 with h | h
      · rw [bgN_short _ wInfinity h] at h1; cases h1
      · rw [List.length_drop, L_len] at h; omega
    have e8 : wrap64 ((i : Int) + 8) = ((i + 8 : Nat) : Int) := w64_nat (by omega) (by omega)
    unfold genB
    rw [if_pos h1]
    simp only [e8]
    refine Ev.ite (fun hn => ?_) (fun hn => ?_)
    · refine Ev.succ ?_
      simp only [numeral_General.j4]
      exact Ev.neg (by decide +kernel) (Ev.done (by rw [hn]; rfl))
    · refine Ev.succ ?_
      simp only [numeral_General.j4]
      exact Ev.neg (by decide +kernel) (Ev.done (by rw [if_neg hn]; rfl))
  refine Ev.neg h1 (Ev.succ ?_)
  rw [show wrap64 (0 + 1) = 1 by rw [w64 (by omega)]; rfl]
  simp only [numeral_General.l0]
  refine Ev.pos (by decide) (Ev.neg (by decide) (Ev.pos trivial (Ev.bind (begins_ev s hb i hi wInf (by decide) (by decide)) ?_)))
  by_cases h2 : bgN ((L s).drop i) wInf = true
  · refine Ev.pos h2 ?_
    have hl : i + 3 ≤ s.size := by
      rcases Nat.lt_or_ge ((L s).drop i).length 3 with h | h
      · rw [bgN_short _ wInf h] at h2; cases h2
      · rw [List.length_drop, L_len] at h; omega
    have e8 : wrap64 ((i : Int) + 3) = ((i + 3 : Nat) : Int) := w64_nat (by omega) (by omega)
    unfold genB
    rw [if_neg h1, if_pos h2]
    simp only [e8]
    refine Ev.ite (fun hn => ?_) (fun hn => ?_)
    · refine Ev.succ ?_
      simp only [numeral_General.j5]
      exact Ev.neg (by decide +kernel) (Ev.done (by rw [hn]; rfl))
    · refine Ev.succ ?_
      simp only [numeral_General.j5]
      exact Ev.neg (by decide +kernel) (Ev.done (by rw [if_neg hn]; rfl))
  refine Ev.neg h2 (Ev.succ ?_)
  rw [show wrap64 (1 + 1) = 2 by rw [w64 (by omega)]; rfl]
  simp only [numeral_General.l0]
  refine Ev.pos (by decide) (Ev.neg (by decide) (Ev.neg (by decide) (Ev.pos trivial (Ev.bind (begins_ev s hb i hi wNan (by decide) (by decide)) ?_))))
  by_cases h3 : bgN ((L s).drop i) wNan = true
  · refine Ev.pos h3 ?_
    have hl : i + 3 ≤ s.size := by
      rcases Nat.lt_or_ge ((L s).drop i).length 3 with h | h
      · rw [bgN_short _ wNan h] at h3; cases h3
      · rw [List.length_drop, L_len] at h; omega
    have e8 : wrap64 ((i : Int) + 3) = ((i + 3 : Nat) : Int) := w64_nat (by omega) (by omega)
    unfold genB
    rw [if_neg h1, if_neg h2, if_pos h3]
    simp only [e8]
    refine Ev.ite (fun hn => ?_) (fun hn => ?_)
    · refine Ev.succ ?_
      simp only [numeral_General.j6]
      exact Ev.pos (by decide +kernel) (Ev.done (by rfl))
    · refine Ev.succ ?_
      simp only [numeral_General.j6]
      exact Ev.pos (by decide +kernel) (Ev.done (by rfl))
  refine Ev.neg h3 ?_
  rw [show wrap64 (2 + 1) = 3 by rw [w64 (by omega)]; rfl]
  exact hstop h1 h2 h3
theorem General_ev (s : ByteArray) (hs : s.size < 2305843009213693952) : Ev (fun k => numeral_General.f k s) (gnV (genS (L s))) := by
  have hb : s.size < big := by rw [big_eq]; omega
  have hb' := hb
  rw [big_eq] at hb'
  have hbl := blkN_le s
  unfold numeral_General.f genS genN
  refine Ev.bind (blanks_ev s hb) ?_
  generalize blkN (L s) = i at *
  by_cases h : i < s.size
  · obtain ⟨c, hc, hbc⟩ := drop_some (s := s) (i := i) h
    refine Ev.pos (by omega) (Ev.pos (by omega) (Ev.succ ?_))
    rw [hbc, hc]
    simp only [numeral_General.j0]
    unfold sgE
    by_cases h45 : (c.toNat : Int) = 45
    · refine Ev.pos (by simp [h45]) (Ev.succ ?_)
      simp only [numeral_General.j1, if_pos h45]
      refine Ev.pos trivial (Ev.succ ?_)
      simp only [numeral_General.j2, w64_succ (i := i) (by omega)]
      refine Ev.val (gen_l0 s hs _ (i + 1) (by omega)) ?_
      rw [show ((c.toNat : Int) == 45) = true by simp [h45]]
    · refine Ev.neg (by simp [h45]) (Ev.pos (by omega) (Ev.pos (by omega) (Ev.succ ?_)))
      simp only [numeral_General.j1, if_neg h45, hbc]
      by_cases h43 : (c.toNat : Int) = 43
      · refine Ev.pos (by simp [h43]) (Ev.succ ?_)
        simp only [numeral_General.j2, w64_succ (i := i) (by omega), if_pos h43]
        refine Ev.val (gen_l0 s hs _ (i + 1) (by omega)) ?_
        rw [show ((c.toNat : Int) == 45) = false by simp [h45]]
      · refine Ev.neg (by simp [h43]) (Ev.succ ?_)
        simp only [numeral_General.j2, if_neg h43]
        refine Ev.val (gen_l0 s hs _ i (by omega)) ?_
        rw [show ((c.toNat : Int) == 45) = false by simp [h45]]
        rfl
  · have hn : (L s).drop i = [] := List.drop_eq_nil_iff.2 (by rw [L_len]; omega)
    refine Ev.neg (by omega) (Ev.succ ?_)
    simp only [numeral_General.j0]
    refine Ev.neg (by decide) (Ev.neg (by omega) (Ev.succ ?_))
    simp only [numeral_General.j1]
    refine Ev.neg (by decide) (Ev.succ ?_)
    simp only [numeral_General.j2]
    refine Ev.val (gen_l0 s hs _ i (by omega)) ?_
    rw [hn, show sgE [] = (false, 0) from rfl, Nat.add_zero, hn]

/-! the document's -/
theorem bg_infinity : ∀ n : List UInt8, bgN n wInfinity = true → bgN n wInf = true := by
  intro n h
  unfold wInfinity at h
  unfold wInf
  match n, h with
  | a :: b :: c :: r, h =>
    simp only [bgN, Bool.and_eq_true, beq_iff_eq] at h ⊢
    exact ⟨h.1, h.2.1, h.2.2.1, trivial⟩
  | [], h => simp [bgN] at h
  | [a], h => simp [bgN] at h
  | [a, b], h => simp [bgN] at h
theorem bg_nan : ∀ n : List UInt8, bgN n wNan = true → bgN n wInf = false := by
  intro n h
  unfold wNan at h
  unfold wInf
  cases n with
  | nil => simp [bgN] at h
  | cons a r =>
    simp only [bgN, Bool.and_eq_true, beq_iff_eq] at h ⊢
    rw [h.1]
    rfl
theorem zeros_tl (l : List UInt8) : (l.takeWhile is0).length + (tl l).length = l.length := by
  have := congrArg List.length (List.takeWhile_append_dropWhile (p := is0) (l := l))
  rw [List.length_append] at this
  exact this
theorem tl_app (w f : List UInt8) : tl (w ++ f) = if tl w = [] then tl f else tl w ++ f := by
  unfold tl
  induction w with
  | nil => rfl
  | cons c w ih =>
    rw [List.cons_append, List.dropWhile_cons, List.dropWhile_cons]
    split
    · exact ih
    · rw [if_neg (by simp)]; rfl
theorem Norm_ev (neg : Bool) (w f : List UInt8) (e : Int) (hl : w.length + f.length < 2305843009213693952) (he : -1125899906842624 ≤ e ∧ e ≤ 1125899906842624) :
    Ev (fun k => millref3_Norm.f k neg (mkB (w ++ f)) ((w.length : Int) + e) 0) (neg && !(digS w f e).1.isEmpty, mkB (digS w f e).1, (digS w f e).2, 0) := by
  unfold millref3_Norm.f
  have hwf : (w ++ f).length = w.length + f.length := List.length_append
  have hz := zeros_ev (mkB (w ++ f)) (by rw [size_mk, big_eq, hwf]; omega)
  rw [L_mk] at hz
  refine Ev.bind hz ?_
  have hzl := zeros_tl (w ++ f)
  rw [size_mk]
  refine Ev.pos (by omega) (Ev.pos (by omega) ?_)
  have hy : (mkB (w ++ f)).extract ((w ++ f).takeWhile is0).length (w ++ f).length = mkB (tl (w ++ f)) := by
    have := extract_end (mkB (w ++ f)) ((w ++ f).takeWhile is0).length
    rw [size_mk, L_mk, drop_run] at this
    exact this
  simp only [Int.toNat_natCast, hy]
  refine Ev.bind (trimmed_ev (tl (w ++ f)) (by rw [big_eq]; omega)) ?_
  simp only [toList_mk]
  rw [tl_app] at hzl ⊢
  unfold digS
  have hzw := zeros_tl w
  have hzf := zeros_tl f
  by_cases h0 : tl w = []
  · rw [if_pos h0] at hzl
    simp only [if_pos h0]
    refine Ev.ite (fun h => ?_) (fun h => ?_)
    · rw [if_pos h]
      exact Ev.done (by simp; rfl)
    · rw [if_neg h]
      have : (tr (tl f)).isEmpty = false := by cases hh : tr (tl f) with | nil => exact absurd hh h | cons => rfl
      refine Ev.done ?_
      rw [this, w64 (by omega)]
      simp only [Bool.not_false, Bool.and_true, Prod.mk.injEq, true_and, and_true]
      omega
  · rw [if_neg h0] at hzl
    simp only [if_neg h0]
    rw [List.length_append] at hzl
    refine Ev.ite (fun h => ?_) (fun h => ?_)
    · rw [if_pos h]
      exact Ev.done (by simp; rfl)
    · rw [if_neg h]
      have : (tr (tl w ++ f)).isEmpty = false := by cases hh : tr (tl w ++ f) with | nil => exact absurd hh h | cons => rfl
      refine Ev.done ?_
      rw [this, w64 (by omega)]
      simp only [Bool.not_false, Bool.and_true, Prod.mk.injEq, true_and, and_true]
      omega
theorem pl12_len (l : List UInt8) : (plS l).1.length + (plS l).2.1.length ≤ l.length := by
  have h2 := congrArg List.length (List.takeWhile_append_dropWhile (p := isDg) (l := l))
  rw [List.length_append] at h2
  unfold plS
  cases hr : l.dropWhile isDg with
  | nil => simp only [List.length_nil]; omega
  | cons c r =>
    rw [hr, List.length_cons] at h2
    have := take_len (p := isDg) r
    by_cases hc : (c.toNat : Int) = 46
    · simp only [if_pos hc]; omega
    · simp only [if_neg hc, List.length_nil]; omega
theorem rgen_j1 (s : ByteArray) (hs : s.size < 2305843009213693952) (neg : Bool) (i : Nat) (hi : i ≤ s.size) : Ev (fun k => millref3_General.j1 k s (i : Int) neg) (gnV (genB neg ((L s).drop i) i)) := by
  have hb : s.size < big := by rw [big_eq]; omega
  have hb' := hb
  rw [big_eq] at hb'
  refine Ev.succ ?_
  simp only [millref3_General.j1]
  have hinf := bg_infinity ((L s).drop i)
  have hnan := bg_nan ((L s).drop i)
  refine Ev.bind (at_ev s hb i wNan hi (by decide)) ?_
  unfold genB
  by_cases h3 : bgN ((L s).drop i) wNan = true
  · have h2 := hnan h3
    have h1 : ¬ bgN ((L s).drop i) wInfinity = true := fun h => by rw [hinf h] at h2; cases h2
    have hl : i + 3 ≤ s.size := by
      rcases Nat.lt_or_ge ((L s).drop i).length 3 with h | h
      · rw [bgN_short _ wNan h] at h3; cases h3
      · rw [List.length_drop, L_len] at h; omega
    have e8 : wrap64 ((i : Int) + 3) = ((i + 3 : Nat) : Int) := w64_nat (by omega) (by omega)
    rw [if_neg h1, if_neg (by rw [h2]; decide), if_pos h3, e8]
    exact Ev.pos h3 (Ev.done rfl)
  refine Ev.neg h3 (Ev.bind (at_ev s hb i wInf hi (by decide)) ?_)
  by_cases h2 : bgN ((L s).drop i) wInf = true
  · have hl : i + 3 ≤ s.size := by
      rcases Nat.lt_or_ge ((L s).drop i).length 3 with h | h
      · rw [bgN_short _ wInf h] at h2; cases h2
      · rw [List.length_drop, L_len] at h; omega
    have e3 : wrap64 ((i : Int) + 3) = ((i + 3 : Nat) : Int) := w64_nat (by omega) (by omega)
    refine Ev.pos h2 ?_
    simp only [e3]
    have hl8 : bgN ((L s).drop i) wInfinity = true → i + 8 ≤ s.size := by
      intro h1
      rcases Nat.lt_or_ge ((L s).drop i).length 8 with h | h
      · rw [bgN_short _ wInfinity h] at h1; cases h1
      · rw [List.length_drop, L_len] at h; omega
    refine Ev.ite (fun hn => ?_) (fun hn => ?_)
    · refine Ev.succ ?_
      simp only [millref3_General.j2]
      refine Ev.bind (at_ev s hb i wInfinity hi (by decide)) ?_
      refine Ev.ite (fun h1 => ?_) (fun h1 => ?_)
      · have h8 := hl8 h1
        rw [if_pos h1, w64_nat (x := (i : Int) + 8) (n := i + 8) (by omega) (by omega)]
        exact Ev.done (by rw [hn]; rfl)
      · rw [if_neg h1, if_pos h2]
        exact Ev.done (by rw [hn]; rfl)
    · refine Ev.succ ?_
      simp only [millref3_General.j2]
      refine Ev.bind (at_ev s hb i wInfinity hi (by decide)) ?_
      refine Ev.ite (fun h1 => ?_) (fun h1 => ?_)
      · have h8 := hl8 h1
        rw [if_pos h1, w64_nat (x := (i : Int) + 8) (n := i + 8) (by omega) (by omega)]
        exact Ev.done (by rw [if_neg hn]; rfl)
      · rw [if_neg h1, if_pos h2]
        exact Ev.done (by rw [if_neg hn]; rfl)
  have h1 : ¬ bgN ((L s).drop i) wInfinity = true := fun h => h2 (hinf h)
  rw [if_neg h1, if_neg h2, if_neg h3]
  have hpl := plS_len ((L s).drop i)
  rw [List.length_drop, L_len] at hpl
  have hp1 := pl1_len ((L s).drop i)
  have hp2 := pl2_len ((L s).drop i)
  have hdl := size_drop s i
  refine Ev.neg h2 (Ev.bind (Plain_ev s hb i hi) ?_)
  by_cases h0 : noneAt ((L s).drop i) = true
  · rw [if_pos h0, if_pos h0]
    exact Ev.pos (by decide) (Ev.done rfl)
  · rw [if_neg h0, if_neg h0]
    refine Ev.neg (by simp only; omega) ?_
    refine Ev.bind (rexponent_ev s hb (i + (plS ((L s).drop i)).2.2) (by omega)) ?_
    rw [← List.drop_drop]
    have hr := expS_range (((L s).drop i).drop (plS ((L s).drop i)).2.2)
    have hp12 : (plS ((L s).drop i)).1.length + (plS ((L s).drop i)).2.1.length ≤ ((L s).drop i).length := pl12_len _
    simp only []
    rw [w64 (by omega)]
    refine Ev.bind (Norm_ev neg _ _ _ (by omega) (by omega)) ?_
    exact Ev.done rfl
theorem rGeneral_ev (s : ByteArray) (hs : s.size < 2305843009213693952) : Ev (fun k => millref3_General.f k s) (gnV (genS (L s))) := by
  have hb : s.size < big := by rw [big_eq]; omega
  have hb' := hb
  rw [big_eq] at hb'
  have hbl := blkN_le s
  unfold millref3_General.f genS genN
  refine Ev.bind (start_ev s hb) ?_
  generalize blkN (L s) = i at *
  by_cases h : i < s.size
  · obtain ⟨c, hc, hbc⟩ := drop_some (s := s) (i := i) h
    refine Ev.pos (by omega) (Ev.pos (by omega) ?_)
    rw [hbc, hc]
    unfold sgE
    by_cases h45 : (c.toNat : Int) = 45
    · refine Ev.pos h45 (Ev.succ ?_)
      simp only [millref3_General.j0, if_pos h45, hbc]
      refine Ev.pos trivial (Ev.pos (by omega) (Ev.pos (by omega) ?_))
      simp only [w64_succ (i := i) (by omega)]
      refine Ev.val (rgen_j1 s hs _ (i + 1) (by omega)) ?_
      rw [show ((c.toNat : Int) == 45) = true by simp [h45]]
    · refine Ev.neg h45 (Ev.succ ?_)
      simp only [millref3_General.j0, if_neg h45, hbc]
      by_cases h43 : (c.toNat : Int) = 43
      · refine Ev.pos (by simp [h43]) (Ev.pos (by omega) (Ev.pos (by omega) ?_))
        simp only [w64_succ (i := i) (by omega), if_pos h43]
        refine Ev.val (rgen_j1 s hs _ (i + 1) (by omega)) ?_
        rw [show ((c.toNat : Int) == 45) = false by simp [h45]]
      · refine Ev.neg (by simp [h43]) ?_
        simp only [if_neg h43]
        exact rgen_j1 s hs false i (by omega)
  · have hn : (L s).drop i = [] := List.drop_eq_nil_iff.2 (by rw [L_len]; omega)
    refine Ev.neg (by omega) (Ev.succ ?_)
    simp only [millref3_General.j0]
    refine Ev.neg (by decide) ?_
    refine Ev.val (rgen_j1 s hs false i (by omega)) ?_
    rw [hn, show sgE [] = (false, 0) from rfl, Nat.add_zero, hn]
end Go.Proofs.YtcdajedmlfhmeaaDoor.XN
end

section
/- NumeralGenerals, the plain law: at every text both sides compute the same number of g. (by this session) -/
-- NEEDS milllaw3_NumeralGenerals
set_option linter.unusedVariables false
namespace Go.Proofs.YtcdajedmlfhmeaaDoor.XN
open Go.RowKit Go.Proofs.YtcdajedmlfhmeaaDoorW.PrintWords Go.Proofs.YtcdajedmlfhmeaaDoorW.PrintMore
theorem NumeralGenerals_ev (s : ByteArray) (hs : s.size < 2305843009213693952) : Ev (fun k => milllaw3_NumeralGenerals.f k s) true := by
  unfold milllaw3_NumeralGenerals.f
  refine Ev.bind (General_ev s hs) (Ev.bind (rGeneral_ev s hs) (Ev.pos (by simp) (Ev.bind alive_ev (Ev.pure _))))
end Go.Proofs.YtcdajedmlfhmeaaDoor.XN
namespace Go.Proofs.YtcdajedmlfhmeaaDoor.Pure
theorem NumeralGenerals : XN.milllaw3_NumeralGenerals.Pure := fun s h => (XN.NumeralGenerals_ev s (by omega)).ex
end Go.Proofs.YtcdajedmlfhmeaaDoor.Pure
end

section
/- The card of NumeralGenerals: the law answers true at every input. Conditions: none beyond the row's own. -/
set_option linter.unusedVariables false
namespace Go.Proofs.YtcdajedmlfhmeaaDoor.numeralGenerals
open Go.ChangeShapes Go.WideShapes Go.ChangeAt Go.RowKit
open Go.ChangeMaps (open_string shut_string)
theorem own : ownKnob Tryd.prog.godebug = none := by kernel_rfl
set_option maxRecDepth 100000 in
/-- What the walk gives, at every argument and every world that holds the listed variables. -/
theorem contract (H : Type) (enc : TypeId × Value → H) (W : World) (args : Array Value) (ds gs : List (DataW H)) (before : List MemPlace) (base : Nat)
    (hval0 : ∀ (j : Nat) t v, Tryd.f5.params[j]? = some t → args[j]? = some v → Value.okWide Tryd.prog W .any base t v)
    (hW : DataW.Whole enc Tryd.prog Tryd.f5.params.toList Rows.numeralGeneralsSpec.vars false W args.toList ds gs before)
    (hsz0 : (DataW.weightsEach Tryd.prog (Tryd.f5.params.toList ++ Rows.numeralGeneralsSpec.plain.varTypes Tryd.prog) (ds ++ gs)).all (· ≤ reachBytes) = true)
    (hL : laidMetH Tryd.prog Rows.numeralGeneralsRow.laid W) (hS : W.ShapedOpen Tryd.prog) :
    Calls Tryd.prog 5 args W fun e W' => ∃ v, e = .returned v ∧ Rows.numeralGeneralsSpec.post enc Tryd.prog Tryd.f5 false true false false W args v W' := by
  have hGL : XN.GOK W := XN.gok_of hL (by kernel_rfl) hS 1 2 rfl rfl
  have hsz : (DataW.weightsEach Tryd.prog (Tryd.f5.params.toList ++ Rows.numeralGeneralsSpec.plain.varTypes Tryd.prog) (ds ++ gs)).all (· ≤ reachBytes) = true := hsz0
  have hval : ∀ (j : Nat) t v, Tryd.f5.params[j]? = some t → args[j]? = some v → Value.okWide Tryd.prog W .any base t v := hval0
  have hW' := hW
  obtain ⟨p, q, hA0, hV, rfl, hfz, hnd⟩ := hW
  have hA : DataW.TrodAll enc Tryd.prog W 0 (fun _ => true) true Tryd.f5.params.toList args.toList ds p := hA0
  rw [Tryd.params5] at hA hval hsz
  obtain ⟨v0, vs0, d0, ds0, p0, q0, hargs, rfl, rfl, h0, r0⟩ := trodAll_cons hA
  obtain ⟨rfl, rfl, rfl⟩ := trodAll_nil r0
  obtain rfl : args = #[v0] := by cases args; simp_all
  obtain ⟨rfl, rfl⟩ := trodVars_none hV
  obtain ⟨a0, rfl, rfl, rfl, y0⟩ := open_string Tryd.underlying9 (hval 0 9 v0 rfl rfl) h0
  have w0 : a0.size ≤ 140737488351232 := by
    have z := sized_string hsz (j := 0) (t := 9) rfl rfl
    rw [Array.length_toList] at z
    exact z
  clear hA0 hval0 hsz0 hsz
  refine (XN.milllaw3_NumeralGenerals.walk Pure.NumeralGenerals a0 W hGL w0).mono fun e W' ⟨he, bel⟩ => ?_
  subst he
  exact ⟨_, rfl, _, _, _, [], _, [], hW', trodAll_mk1 (shut_bool Tryd.underlying4 _), (trodAll_cons_mk (shut_string Tryd.underlying9 y0) trodAll_mk0), rfl, bel.frame _, fun h => by cases h⟩
set_option maxRecDepth 100000 in
theorem lifted (os : Os) (started : os.Started) (H : Type) (enc : TypeId × Value → H) (F : Stop.Interp) :
    ReturnsInHanded {} Tryd.checked os 5 .any ((OpenSpec.ofChange Rows.numeralGeneralsSpec).preRow enc Tryd.prog Tryd.f5 Rows.numeralGeneralsRow.domain false Rows.numeralGeneralsRow.laid) (((OpenSpec.ofChange Rows.numeralGeneralsSpec).at F).post enc Tryd.prog Tryd.f5 false true false false) := by
  have hx : ∃ places, DataW.whole enc Tryd.prog ((World.laidAll Tryd.prog os Rows.numeralGeneralsRow.laid).forCall (fun _ _ => 0) ⟨#[], #[.string ⟨#[]⟩], []⟩).memory Tryd.f5.params.toList Rows.numeralGeneralsSpec.vars false (#[.string ⟨#[]⟩] : Array Value).toList 8 = some ([.lit (.string [])], [], places) :=
    ⟨[], by kernel_rfl⟩
  obtain ⟨places, hx⟩ := hx
  refine returnsInHanded_of_row (C := Tryd.checked) (s := (OpenSpec.ofChange Rows.numeralGeneralsSpec)) own started (by kernel_rfl) Tryd.func5
    (witness_row_at (enc := enc) (C := Tryd.checked) false (World.laidAll Tryd.prog os Rows.numeralGeneralsRow.laid) #[.string ⟨#[]⟩] (World.laidAll_os _ _ _) (by kernel_rfl) (by kernel_rfl) (by kernel_rfl)
      (OpenSpec.preRow_of_cond 8 hx (by kernel_rfl) (fun k hk => by cases hk) (by kernel_rfl) (laidMet_laidAll _ (by kernel_rfl) (by kernel_rfl)))) ?_
  intro W base args ds gs before hval hW _ _ hsz hL hS _
  exact contract H enc W args ds gs before base hval hW hsz hL hS
theorem said : Rows.NumeralGeneralsSaid :=
  OpenClaim.holds_of_cond 5 Tryd.f5 rfl rfl rfl rfl rfl rfl rfl ⟨rfl, rfl, rfl, rfl, rfl⟩ rfl rfl rfl rfl rfl (by kernel_rfl) Tryd.func5 (by kernel_rfl)
    (of_decide_eq_true (by kernel_rfl)) (by unfold Func.isWrapper; first | (rw [if_pos (by decide +kernel)]; kernel_rfl) | (rw [if_neg (by decide +kernel)]; exact ⟨rfl, rfl⟩))
    (fun os started H enc _ F => by rw [OpenClaim.pre_eq_preRow]; exact lifted os started H enc F)
theorem plain (f : FuncId) (fn : Func) (hf : Tryd.pinned.checked.prog.funcNamed "mill/milllaw3.NumeralGenerals" = some f) (hfn : Tryd.pinned.checked.prog.funcs[f]? = some fn) :
    false = Tryd.pinned.checked.prog.looks [] ∧ ∀ (j : Nat) t, fn.params[j]? = some t → Tryd.pinned.checked.prog.wantsStandIn t = false := by
  obtain rfl : f = 5 := Option.some.inj ((show Tryd.prog.funcNamed "mill/milllaw3.NumeralGenerals" = some 5 by kernel_rfl).symm.trans hf) |>.symm
  obtain rfl : fn = Tryd.f5 := (Option.some.inj (Tryd.func5.symm.trans hfn)).symm
  refine ⟨by kernel_rfl, fun j t ht => ?_⟩
  rw [Tryd.params5] at ht
  have hm := Array.mem_of_getElem? ht
  simp only [List.mem_toArray, List.mem_cons, List.not_mem_nil, or_false] at hm
  rcases hm with rfl
  · exact (show Tryd.prog.wantsStandIn 9 = false by kernel_rfl)
theorem card : Rows.NumeralGeneralsCardSaid :=
  Claim7.holds_tied_plain_at .later [] _ _ _ _ said (fun _ h => by cases h) (by kernel_rfl) (fun _ h => by cases h) numeralGenerals_row_tie rfl ⟨rfl, rfl⟩ (by kernel_rfl) rfl plain (by kernel_rfl)
#print axioms card
end Go.Proofs.YtcdajedmlfhmeaaDoor.numeralGenerals
namespace Go.Proofs.YtcdajedmlfhmeaaDoor
/-- The card, under a short name, for the claim. -/
theorem numeralGenerals_card : Rows.NumeralGeneralsCardSaid := numeralGenerals.card
end Go.Proofs.YtcdajedmlfhmeaaDoor
end
