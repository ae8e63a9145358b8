/- The card of NumeralScale: the law answers true at every input. Conditions: none beyond the row's own. -/
import Derived.Test.YtcdajedmlfhmeaaDoorZNS0
import Derived.Test.YtcdajedmlfhmeaaDoorZNS10
import Derived.Test.YtcdajedmlfhmeaaDoorZNS1
import Derived.Test.YtcdajedmlfhmeaaDoorZNS9
import Derived.Test.YtcdajedmlfhmeaaDoorCards
import Derived.Test.YtcdajedmlfhmeaaDoorTie
import Derived.WalkKit
import Derived.ProofKit
import Derived.OpenShut
import Derived.ShutString
import Derived.ChangeOld
import Derived.Below
import Derived.SizedLaws
import Derived.Deep.DeepHandedRow
import Derived.Lib.LaidTab
import Derived.Lay
import Derived.MakeChecks
import Derived.LaidSub
section
/- Whole numbers as text, and how their digits compare: the plain theory. (by this session) -/
-- NEEDS milllaw3_written
set_option linter.unusedVariables false
set_option linter.unusedSimpArgs false
namespace Go.Proofs.YtcdajedmlfhmeaaDoor.XN
open Go.RowKit Go.Proofs.YtcdajedmlfhmeaaDoorW.PrintWords Go.Proofs.YtcdajedmlfhmeaaDoorW.PrintMore

/-- The decimal digits of a number. -/
def decF : Nat → Nat → List UInt8
  | 0, m => [UInt8.ofNat (48 + m % 10)]
  | k + 1, m => if m < 10 then [UInt8.ofNat (48 + m % 10)] else decF k (m / 10) ++ [UInt8.ofNat (48 + m % 10)]
def dec (m : Nat) : List UInt8 := decF m m
theorem decF_fuel : ∀ (m k k' : Nat), m ≤ k → m ≤ k' → decF k m = decF k' m := by
  intro m
  induction m using Nat.strongRecOn with
  | _ m ih =>
    intro k k' h h'
    by_cases hm : m < 10
    · cases k <;> cases k' <;> simp [decF, hm]
    · obtain ⟨k, rfl⟩ : ∃ j, k = j + 1 := ⟨k - 1, by omega⟩
      obtain ⟨k', rfl⟩ : ∃ j, k' = j + 1 := ⟨k' - 1, by omega⟩
      unfold decF
      rw [if_neg hm, if_neg hm, ih (m / 10) (by omega) k k' (by omega) (by omega)]
theorem dec_lt {m : Nat} (h : m < 10) : dec m = [UInt8.ofNat (48 + m % 10)] := by
  unfold dec
  cases m <;> simp [decF, h]
theorem dec_ge {m : Nat} (h : ¬ m < 10) : dec m = dec (m / 10) ++ [UInt8.ofNat (48 + m % 10)] := by
  unfold dec
  obtain ⟨k, rfl⟩ : ∃ j, m = j + 1 := ⟨m - 1, by omega⟩
  have : decF (k + 1) (k + 1) = decF k ((k + 1) / 10) ++ [UInt8.ofNat (48 + (k + 1) % 10)] := by
    show (if k + 1 < 10 then _ else _) = _
    rw [if_neg h]
  rw [this, decF_fuel ((k + 1) / 10) k ((k + 1) / 10) (by omega) (Nat.le_refl _)]
theorem dig_nat (m : Nat) : (UInt8.ofNat (48 + m % 10)).toNat = 48 + m % 10 := by
  rw [UInt8.toNat_ofNat']
  omega
theorem dig_dg (m : Nat) : isDg (UInt8.ofNat (48 + m % 10)) = true := by
  rw [isDg_iff, dig_nat]
  omega
theorem dec_dgs : ∀ (m : Nat), ∀ c ∈ dec m, isDg c = true := by
  intro m
  induction m using Nat.strongRecOn with
  | _ m ih =>
    intro c hc
    by_cases h : m < 10
    · rw [dec_lt h] at hc
      rw [List.mem_singleton.1 hc]
      exact dig_dg m
    · rw [dec_ge h] at hc
      rcases List.mem_append.1 hc with hc | hc
      · exact ih (m / 10) (by omega) c hc
      · rw [List.mem_singleton.1 hc]
        exact dig_dg m
theorem dec_val : ∀ (m : Nat), dval (dec m) = m := by
  intro m
  induction m using Nat.strongRecOn with
  | _ m ih =>
    by_cases h : m < 10
    · rw [dec_lt h]
      unfold dval
      rw [dvf_cons, dvf_nil, dig_nat]
      omega
    · rw [dec_ge h]
      unfold dval
      rw [dvf_app, dvf_cons, dvf_nil, dig_nat]
      have := ih (m / 10) (by omega)
      unfold dval at this
      rw [this]
      omega
theorem dec_ne (m : Nat) : dec m ≠ [] := by
  by_cases h : m < 10
  · rw [dec_lt h]; simp
  · rw [dec_ge h]; simp
theorem dec_head : ∀ (m : Nat), 0 < m → ∃ c r, dec m = c :: r ∧ is0 c = false := by
  intro m
  induction m using Nat.strongRecOn with
  | _ m ih =>
    intro hm
    by_cases h : m < 10
    · refine ⟨_, [], dec_lt h, ?_⟩
      have := dig_nat m
      rw [Bool.eq_false_iff]
      intro h0
      have := (is0_iff _).1 h0
      omega
    · obtain ⟨c, r, h1, h2⟩ := ih (m / 10) (by omega) (by omega)
      exact ⟨c, r ++ [UInt8.ofNat (48 + m % 10)], by rw [dec_ge h, h1]; rfl, h2⟩
theorem dec_tl {m : Nat} (h : 0 < m) : tl (dec m) = dec m := by
  obtain ⟨c, r, h1, h2⟩ := dec_head m h
  rw [h1]
  unfold tl
  rw [List.dropWhile_cons, if_neg (by rw [h2]; decide)]
theorem dec_lenK : ∀ (k m : Nat), m < 10 ^ (k + 1) → (dec m).length ≤ k + 1
  | 0, m, h => by rw [dec_lt (by simpa using h)]; simp
  | k + 1, m, h => by
    by_cases h' : m < 10
    · rw [dec_lt h']; simp
    · rw [dec_ge h', List.length_append]
      have := dec_lenK k (m / 10) (by rw [Nat.div_lt_iff_lt_mul (by decide), ← Nat.pow_succ]; exact h)
      simp
      omega
theorem dec_len62 {m : Nat} (h : m < 4611686018427387904) : (dec m).length ≤ 19 := by
  have h2 : 10 ^ (18 + 1) = 10000000000000000000 := by decide
  exact dec_lenK 18 m (by omega)
theorem tl_zeros (k : Nat) (l : List UInt8) : tl (List.replicate k 48 ++ l) = tl l := by
  induction k with
  | zero => rfl
  | succ k ih =>
    rw [List.replicate_succ, List.cons_append]
    unfold tl
    rw [List.dropWhile_cons, if_pos (by decide)]
    exact ih
theorem zero_tl : tl (dec 0) = [] := by decide +kernel

/-! ### digits compared -/
/-- Digit by digit; behind the end: 0. -/
def dcmp : List UInt8 → List UInt8 → Int
  | [], [] => 0
  | a :: l, [] => if a = 48 then dcmp l [] else 1
  | [], b :: m => if b = 48 then dcmp [] m else -1
  | a :: l, b :: m => if a < b then -1 else if b < a then 1 else dcmp l m
/-- What tr takes off are zeros. -/
theorem tr_zeros (l : List UInt8) : ∃ k, l = tr l ++ List.replicate k 48 := by
  unfold tr
  have h : ∀ r : List UInt8, ∃ k, r = List.replicate k 48 ++ r.dropWhile is0 := by
    intro r
    induction r with
    | nil => exact ⟨0, rfl⟩
    | cons c r ih =>
      rw [List.dropWhile_cons]
      split
      · rename_i hc
        obtain ⟨k, hk⟩ := ih
        refine ⟨k + 1, ?_⟩
        have : c = 48 := u8_eq (d := 48) ((is0_iff c).1 hc)
        rw [List.replicate_succ, List.cons_append, ← hk, this]
      · exact ⟨0, rfl⟩
  obtain ⟨k, hk⟩ := h l.reverse
  refine ⟨k, ?_⟩
  have := congrArg List.reverse hk
  rw [List.reverse_reverse, List.reverse_append, List.reverse_replicate] at this
  exact this
/-- No 0 at the end. -/
def Trm (l : List UInt8) : Prop := ∀ c r, l.reverse = c :: r → is0 c = false
theorem tr_ne {m : Nat} (h : 0 < m) : tr (dec m) ≠ [] := by
  intro h0
  obtain ⟨k, hk⟩ := tr_zeros (dec m)
  rw [h0, List.nil_append] at hk
  obtain ⟨c, r, h1, h2⟩ := dec_head m h
  rw [hk] at h1
  cases k with
  | zero => cases h1
  | succ k =>
    rw [List.replicate_succ] at h1
    injection h1 with h3 h4
    rw [← h3] at h2
    exact absurd h2 (by decide)

/-! ### written -/
def wrS (n : Int) (z : Nat) : List UInt8 := (if n < 0 then [45] else []) ++ (List.replicate z 48 ++ dec n.natAbs)
theorem one_str (m : Nat) (h : m < 9223372036854775807) : strOfNums ([(wrap64 (48 + Int.tmod (m : Int) 10)) % 256] : List Int) = mkB [UInt8.ofNat (48 + m % 10)] := by
  have e : (wrap64 (48 + Int.tmod (m : Int) 10)) % 256 = ((48 + m % 10 : Nat) : Int) := by
    rw [Int.tmod_eq_emod_of_nonneg (by omega), w64 (by omega)]
    omega
  rw [e]
  have hx : 48 + m % 10 < 256 := by omega
  generalize 48 + m % 10 = x at *
  have : ∀ n : Fin 256, strOfNums [((n.val : Nat) : Int)] = mkB [UInt8.ofNat n.val] := by decide +kernel
  exact this ⟨x, hx⟩
theorem written_l1 (x0 : Int) (z : Nat) (hz : z ≤ 1000) : ∀ (d i : Nat) (l : List UInt8), z - i = d → i ≤ z → l.length ≤ 1000 + i →
    Ev (fun k => milllaw3_written.l1 k x0 (z : Int) (mkB l) (i : Int)) (mkB ((if x0 < 0 then [45] else []) ++ (List.replicate d 48 ++ l)))
  | 0, i, l, h, hi, hl => by
    refine Ev.succ ?_
    simp only [milllaw3_written.l1]
    refine Ev.neg (by omega) (Ev.ite (fun h0 => ?_) (fun h0 => ?_))
    · refine Ev.pos (by rw [size_mk]; omega) (Ev.done ?_)
      rw [if_pos h0, lit_mk, mk_append]
      rfl
    · exact Ev.done (by rw [if_neg h0]; rfl)
  | d + 1, i, l, h, hi, hl => by
    refine Ev.succ ?_
    simp only [milllaw3_written.l1, w64_succ (i := i) (by omega), lit_mk, mk_append]
    refine Ev.pos (by omega) (Ev.pos (by rw [size_mk]; omega) ?_)
    refine Ev.val (written_l1 x0 z hz d (i + 1) ([48] ++ l) (by omega) (by omega) (by simp; omega)) ?_
    rw [List.replicate_succ']
    simp
theorem written_l0 (x0 : Int) (z : Nat) (hz : z ≤ 1000) : ∀ (d m : Nat) (l : List UInt8), m < 10 ^ d → m < 9223372036854775807 → l.length + d ≤ 20 → (m = 0 → l ≠ []) →
    Ev (fun k => milllaw3_written.l0 k x0 (z : Int) (mkB l) (m : Int)) (mkB ((if x0 < 0 then [45] else []) ++ (List.replicate z 48 ++ ((if m = 0 then [] else dec m) ++ l))))
  | d, 0, l, h, hd, hl, h0 => by
    refine Ev.succ ?_
    simp only [milllaw3_written.l0, toList_mk]
    refine Ev.neg (by omega) (Ev.neg (h0 rfl) ?_)
    simp only [if_true, List.nil_append]
    exact written_l1 x0 z hz z 0 l (by omega) (by omega) (by omega)
  | 0, m + 1, l, h, hd, hl, h0 => by simp at h
  | d + 1, m + 1, l, h, hbig, hl, h0 => by
    refine Ev.succ ?_
    simp only [milllaw3_written.l0, one_str (m + 1) hbig, Option.bind_some, mk_append, size_mk]
    refine Ev.pos (by omega) (Ev.pos (by simp; omega) ?_)
    have e : wrap64 (Int.tdiv ((m + 1 : Nat) : Int) 10) = (((m + 1) / 10 : Nat) : Int) := by
      rw [Int.tdiv_eq_ediv_of_nonneg (by omega)]
      exact w64_nat (by omega) (by omega)
    rw [e]
    refine Ev.val (written_l0 x0 z hz d ((m + 1) / 10) _ (by rw [Nat.div_lt_iff_lt_mul (by decide), ← Nat.pow_succ]; exact h) (by omega) (by simp; omega) (by simp)) ?_
    rw [if_neg (show ¬ m + 1 = 0 by omega)]
    by_cases h10 : m + 1 < 10
    · rw [if_pos (show (m + 1) / 10 = 0 by omega), dec_lt h10]
      rfl
    · rw [if_neg (show ¬ (m + 1) / 10 = 0 by omega), dec_ge h10]
      simp only [List.append_assoc]
theorem written_start (x0 : Int) (z m : Nat) (hz : z ≤ 1000) (hm : m < 4611686018427387904) :
    Ev (fun k => milllaw3_written.j0 k x0 (z : Int) (⟨#[]⟩ : ByteArray) (m : Int)) (mkB ((if x0 < 0 then [45] else []) ++ (List.replicate z 48 ++ dec m))) := by
  refine Ev.succ ?_
  simp only [milllaw3_written.j0]
  have hp : (10 : Nat) ^ 19 = 10000000000000000000 := by decide
  cases m with
  | succ m =>
    refine Ev.val (written_l0 x0 z hz 19 (m + 1) [] (by omega) (by omega) (by simp) (by omega)) ?_
    rw [if_neg (show ¬ m + 1 = 0 by omega), List.append_nil]
  | zero =>
    refine Ev.succ ?_
    have h0 := one_str 0 (by omega)
    simp only [milllaw3_written.l0]
    refine Ev.neg (by omega) (Ev.pos (by decide +kernel) ?_)
    simp only [h0, Option.bind_some]
    refine Ev.pos (by decide +kernel) ?_
    rw [show wrap64 (Int.tdiv ((0 : Nat) : Int) 10) = ((0 : Nat) : Int) by decide +kernel]
    refine Ev.val (written_l0 x0 z hz 0 0 _ (by decide) (by omega) (by decide +kernel) (by decide +kernel)) ?_
    rfl
theorem written_ev (n : Int) (z : Nat) (hn : -4611686018427387904 < n ∧ n < 4611686018427387904) (hz : z ≤ 1000) : Ev (fun k => milllaw3_written.f k n (z : Int)) (mkB (wrS n z)) := by
  unfold milllaw3_written.f wrS
  refine Ev.ite (fun h => ?_) (fun h => ?_)
  · rw [w64 (by omega), show -n = (n.natAbs : Int) by omega]
    exact written_start n z n.natAbs hz (by omega)
  · have := written_start n z n.natAbs hz (by omega)
    rw [show ((n.natAbs : Nat) : Int) = n by omega] at this
    exact this
end Go.Proofs.YtcdajedmlfhmeaaDoor.XN
end

section
/- What n, h and g read of a whole number as text: the plain theory. (by this session) -/
set_option linter.unusedVariables false
set_option linter.unusedSimpArgs false
namespace Go.Proofs.YtcdajedmlfhmeaaDoor.XN
open Go.RowKit Go.Proofs.YtcdajedmlfhmeaaDoorW.PrintWords Go.Proofs.YtcdajedmlfhmeaaDoorW.PrintMore

theorem tw_app {p : UInt8 → Bool} : ∀ {x y : List UInt8}, (∀ c ∈ x, p c = true) → (∀ c t, y = c :: t → p c = false) → (x ++ y).takeWhile p = x ∧ (x ++ y).dropWhile p = y
  | [], [], _, _ => ⟨rfl, rfl⟩
  | [], c :: t, _, h => by
    have := h c t rfl
    simp only [List.nil_append]
    rw [List.takeWhile_cons, List.dropWhile_cons, if_neg (by rw [this]; decide), if_neg (by rw [this]; decide)]
    exact ⟨rfl, rfl⟩
  | a :: x, y, hx, hy => by
    have ih := tw_app (x := x) (y := y) (fun c hc => hx c (by simp [hc])) hy
    have ha := hx a (by simp)
    rw [List.cons_append, List.takeWhile_cons, List.dropWhile_cons, if_pos ha, if_pos ha, ih.1, ih.2]
    exact ⟨rfl, rfl⟩
def sgl (neg : Bool) : List UInt8 := if neg = true then [45] else []
theorem dg_bl {c : UInt8} (h : isDg c = true) : isBl c = false := by
  have := (isDg_iff c).1 h
  unfold isBl
  simp
  omega
/-- Blanks, a sign, then what begins with a digit. -/
theorem blk_of {bl q : List UInt8} (neg : Bool) (hb : ∀ c ∈ bl, isBl c = true) (hq : ∃ c t, q = c :: t ∧ isDg c = true) : blkN (bl ++ (sgl neg ++ q)) = bl.length := by
  unfold blkN
  rw [(tw_app hb ?_).1]
  intro c t h
  obtain ⟨d, u, h1, h2⟩ := hq
  unfold sgl at h
  cases neg with
  | true =>
    simp at h
    rw [← h.1]
    decide
  | false =>
    simp [h1] at h
    rw [← h.1]
    exact dg_bl h2
theorem drop_app {x y : List UInt8} : (x ++ y).drop x.length = y := by simp
theorem neg_of {q : List UInt8} (neg : Bool) (hq : ∃ c t, q = c :: t ∧ isDg c = true) : negAt (sgl neg ++ q) = neg ∧ sgE (sgl neg ++ q) = (neg, (sgl neg).length) := by
  obtain ⟨d, u, h1, h2⟩ := hq
  have := (isDg_iff d).1 h2
  cases neg with
  | true => exact ⟨rfl, rfl⟩
  | false =>
    rw [h1]
    unfold sgl
    simp only [Bool.false_eq_true, if_false, List.nil_append, negAt]
    rw [sgE_cons, if_neg (by omega), if_neg (by omega)]
    exact ⟨by simp; omega, rfl⟩
theorem genS_of {bl q : List UInt8} (neg : Bool) (hb : ∀ c ∈ bl, isBl c = true) (hq : ∃ c t, q = c :: t ∧ isDg c = true) :
    genS (bl ++ (sgl neg ++ q)) = genB neg q (bl.length + (sgl neg).length) := by
  have h1 := blk_of neg hb hq
  have h2 := neg_of neg hq
  have hd : (bl ++ (sgl neg ++ q)).drop (bl.length + (sgl neg).length) = q := by
    rw [← List.drop_drop, drop_app, drop_app]
  unfold genS genN
  rw [h1, drop_app, h2.2, hd]
theorem bg_dg {c d : UInt8} {t w : List UInt8} (hc : isDg c = true) (hd : ¬ isDg d = true) : bgN (c :: t) (d :: w) = false := by
  have hl : lowB c = c := by
    have : ∀ c : UInt8, isDg c = true → lowB c = c := all8 (by decide +kernel)
    exact this c hc
  simp only [bgN]
  rw [hl, Bool.and_eq_false_iff]
  left
  rw [beq_eq_false_iff_ne]
  rintro rfl
  exact hd hc
theorem genB_dg {q : List UInt8} (neg : Bool) (i : Nat) (hq : ∃ c t, q = c :: t ∧ isDg c = true) (h0 : ¬ noneAt q = true) :
    genB neg q i = (3, neg && !(digS (plS q).1 (plS q).2.1 (expS (q.drop (plS q).2.2)).1).1.isEmpty, (digS (plS q).1 (plS q).2.1 (expS (q.drop (plS q).2.2)).1).1, (digS (plS q).1 (plS q).2.1 (expS (q.drop (plS q).2.2)).1).2, i + (plS q).2.2 + (expS (q.drop (plS q).2.2)).2) := by
  obtain ⟨c, t, h1, h2⟩ := hq
  unfold genB
  rw [if_neg, if_neg, if_neg, if_neg h0]
  · rw [h1]; unfold wNan; rw [bg_dg h2 (by decide)]; decide
  · rw [h1]; unfold wInf; rw [bg_dg h2 (by decide)]; decide
  · rw [h1]; unfold wInfinity; rw [bg_dg h2 (by decide)]; decide
/-- What stands behind a whole number: no digit, no point. -/
def NoNum (r : List UInt8) : Prop := ∀ c t, r = c :: t → isDg c = false ∧ ¬ (c.toNat : Int) = 46
theorem pl_whole {D r : List UInt8} (hD : ∀ c ∈ D, isDg c = true) (hr : NoNum r) : plS (D ++ r) = (D, [], D.length) := by
  have h := tw_app (p := isDg) hD (fun c t e => (hr c t e).1)
  unfold plS
  rw [h.1, h.2]
  cases r with
  | nil => rfl
  | cons c t => simp only [if_neg (hr c t rfl).2]
def dz (z m : Nat) : List UInt8 := List.replicate z 48 ++ dec m
theorem dz_dg (z m : Nat) : ∀ c ∈ dz z m, isDg c = true := by
  intro c hc
  rcases List.mem_append.1 hc with h | h
  · rw [(List.mem_replicate.1 h).2]; decide
  · exact dec_dgs m c h
theorem dz_head (z m : Nat) (r : List UInt8) : ∃ c t, dz z m ++ r = c :: t ∧ isDg c = true := by
  cases h : dz z m with
  | nil => exact absurd (List.append_eq_nil_iff.1 h).2 (dec_ne m)
  | cons c t => exact ⟨c, t ++ r, rfl, dz_dg z m c (by rw [h]; simp)⟩
theorem dz_tl (z m : Nat) : tl (dz z m) = if m = 0 then [] else dec m := by
  unfold dz
  rw [tl_zeros]
  split
  · rename_i h; rw [h, zero_tl]
  · exact dec_tl (by omega)
theorem wr_dz (n : Int) (z : Nat) : wrS n z = sgl (decide (n < 0)) ++ dz z n.natAbs := by
  unfold wrS sgl dz
  by_cases h : n < 0
  · rw [if_pos h, if_pos (by simp [h])]
  · rw [if_neg h, if_neg (by simp [h])]
theorem none_dz (z m : Nat) {r : List UInt8} (hr : NoNum r) : ¬ noneAt (dz z m ++ r) = true := by
  unfold noneAt
  rw [pl_whole (dz_dg z m) hr]
  cases h : dz z m with
  | nil => exact absurd (List.append_eq_nil_iff.1 h).2 (dec_ne m)
  | cons c t => simp
/-- A whole number, as it is compared: its letter's rank, an exponent. -/
def numX (n rk x : Int) : Sz := if n = 0 then (0, 0, 0, []) else ((if n < 0 then -1 else 1), rk, (dec n.natAbs).length + x, tr (dec n.natAbs))
theorem digS_dz (z m : Nat) (e : Int) : digS (dz z m) [] e = if m = 0 then ([], 0) else (tr (dec m), ((dec m).length : Int) + e) := by
  unfold digS
  rw [dz_tl]
  by_cases h : m = 0
  · rw [if_pos h, if_pos h, if_pos rfl]
    rfl
  · rw [if_neg h, if_neg h, if_neg (dec_ne m), List.append_nil, if_neg (tr_ne (by omega))]
theorem szS_num (n rk x : Int) (b : Bool) (hb : n ≠ 0 → b = decide (n < 0)) : szS b (if n.natAbs = 0 then ([], 0) else (tr (dec n.natAbs), ((dec n.natAbs).length : Int) + x)).1 (if n.natAbs = 0 then ([], 0) else (tr (dec n.natAbs), ((dec n.natAbs).length : Int) + x)).2 rk = numX n rk x := by
  unfold szS numX
  by_cases h : n = 0
  · rw [if_pos h, if_pos (show n.natAbs = 0 by omega), if_pos rfl]
  · rw [if_neg h, if_neg (show ¬ n.natAbs = 0 by omega), if_neg (tr_ne (by omega)), hb h]
    by_cases h' : n < 0
    · simp [h']
    · simp [h']
def rkAt : List UInt8 → Nat
  | [] => 0
  | c :: _ => letN c
theorem genS_num {bl r : List UInt8} (n : Int) (z : Nat) (hb : ∀ c ∈ bl, isBl c = true) (hr : NoNum r) :
    genS (bl ++ (wrS n z ++ r)) = (3, decide (n < 0), (if n.natAbs = 0 then ([], 0) else (tr (dec n.natAbs), ((dec n.natAbs).length : Int) + (expS r).1)).1, (if n.natAbs = 0 then ([], 0) else (tr (dec n.natAbs), ((dec n.natAbs).length : Int) + (expS r).1)).2, bl.length + (wrS n z).length + (expS r).2) := by
  rw [wr_dz, List.append_assoc, genS_of _ hb (dz_head z _ r), genB_dg _ _ (dz_head z _ r) (none_dz z _ hr), pl_whole (dz_dg z _) hr]
  simp only [drop_app, digS_dz]
  refine Prod.ext rfl (Prod.ext ?_ (Prod.ext rfl (Prod.ext rfl ?_)))
  · simp only
    by_cases h : n.natAbs = 0
    · rw [if_pos h]
      simp
      omega
    · rw [if_neg h]
      have : (tr (dec n.natAbs)).isEmpty = false := by cases hh : tr (dec n.natAbs) with | nil => exact absurd hh (tr_ne (by omega)) | cons => rfl
      rw [this]
      simp
  · simp only [List.length_append]
    omega
theorem ordG_num {bl r bl' r' : List UInt8} (n n' : Int) (z z' : Nat) (hb : ∀ c ∈ bl, isBl c = true) (hr : NoNum r) (hb' : ∀ c ∈ bl', isBl c = true) (hr' : NoNum r') :
    ordG (genS (bl ++ (wrS n z ++ r))) (genS (bl' ++ (wrS n' z' ++ r'))) = ordS (numX n 0 (expS r).1) (numX n' 0 (expS r').1) := by
  rw [genS_num n z hb hr, genS_num n' z' hb' hr']
  unfold ordG
  rw [if_pos rfl]
  simp only
  rw [szS_num n 0 _ _ (fun _ => rfl), szS_num n' 0 _ _ (fun _ => rfl)]

/-! ### the order of such numbers -/
theorem numX_pos {n : Int} (rk x : Int) (h : 0 < n) : numX n rk x = (1, rk, (dec n.natAbs).length + x, tr (dec n.natAbs)) := by
  unfold numX; rw [if_neg (by omega), if_neg (by omega)]
theorem numX_neg {n : Int} (rk x : Int) (h : n < 0) : numX n rk x = (-1, rk, (dec n.natAbs).length + x, tr (dec n.natAbs)) := by
  unfold numX; rw [if_neg (by omega), if_pos (by omega)]
theorem ordS_pp {a b : Int} (i j x y : Int) (ha : 0 < a) (hb : 0 < b) : ordS (numX a i x) (numX b j y) = thn (cmpI i j) (thn (cmpI ((dec a.natAbs).length + x) ((dec b.natAbs).length + y)) (bcmp (tr (dec a.natAbs)) (tr (dec b.natAbs)))) := by
  rw [numX_pos i x ha, numX_pos j y hb]
  unfold ordS
  rw [if_pos ⟨rfl, by simp⟩, orS3]
  simp only
  omega
theorem ordS_nn {a b : Int} (i j x y : Int) (ha : a < 0) (hb : b < 0) : ordS (numX a i x) (numX b j y) = -thn (cmpI i j) (thn (cmpI ((dec a.natAbs).length + x) ((dec b.natAbs).length + y)) (bcmp (tr (dec a.natAbs)) (tr (dec b.natAbs)))) := by
  rw [numX_neg i x ha, numX_neg j y hb]
  unfold ordS
  rw [if_pos ⟨rfl, by simp⟩, orS3]
  simp only
  omega
/-- Of two above 0 the exponents decide, where the digits are one. -/
theorem ordS_exp {a : Int} (x y : Int) (ha : 0 < a) : ordS (numX a 0 x) (numX a 0 y) = cmpI x y := by
  rw [ordS_pp 0 0 x y ha ha, cmpI_self, thn0, bcmp_self, Int.add_comm _ x, Int.add_comm _ y, cmpI_add]
  unfold thn
  split
  · rename_i h; rw [h]
  · rfl
theorem ordS_expn {a : Int} (x y : Int) (ha : a < 0) : ordS (numX a 0 x) (numX a 0 y) = -cmpI x y := by
  rw [ordS_nn 0 0 x y ha ha, cmpI_self, thn0, bcmp_self, Int.add_comm _ x, Int.add_comm _ y, cmpI_add]
  unfold thn
  split
  · rename_i h; rw [h]
  · rfl
/-! sizes -/
theorem wr_len (n : Int) (z : Nat) (hn : -4611686018427387904 < n ∧ n < 4611686018427387904) : (wrS n z).length ≤ z + 20 := by
  have := dec_len62 (m := n.natAbs) (by omega)
  unfold wrS
  rw [List.length_append, List.length_append, List.length_replicate]
  split <;> simp <;> omega
theorem dz_ne (z m : Nat) : dz z m ≠ [] := fun h => dec_ne m (List.append_eq_nil_iff.1 h).2
end Go.Proofs.YtcdajedmlfhmeaaDoor.XN
end

section
/- Small lemmas for the laws on whole numbers. (by this session) -/
set_option linter.unusedVariables false
set_option linter.unusedSimpArgs false
namespace Go.Proofs.YtcdajedmlfhmeaaDoor.XN
open Go.RowKit Go.Proofs.YtcdajedmlfhmeaaDoorW.PrintWords Go.Proofs.YtcdajedmlfhmeaaDoorW.PrintMore
theorem nonum_of {c : UInt8} {t : List UInt8} (h1 : isDg c = false) (h2 : ¬ (c.toNat : Int) = 46) : NoNum (c :: t) := by
  intro d u e
  injection e with e1 e2
  subst e1
  exact ⟨h1, h2⟩
theorem nonum_nil : NoNum [] := fun c t e => by cases e
theorem bl_nil : ∀ c ∈ ([] : List UInt8), isBl c = true := fun c h => by cases h
theorem Compare_at {kind : Int} {s t : ByteArray} {v : Int} (hs : s.size < 576460752303423488) (ht : t.size < 576460752303423488) (e : cmpS kind s t = v) : Ev (fun k => numeral_Compare.f k kind s t) v := Ev.val (Compare_ev kind s t hs ht) e
theorem cmpS_g (s t : ByteArray) : cmpS 32 s t = ordG (genS (L s)) (genS (L t)) := by unfold cmpS; rw [if_neg (by decide), if_pos rfl]
end Go.Proofs.YtcdajedmlfhmeaaDoor.XN
end

section
/- NumeralScale, the plain law: exponents are powers of ten. (by this session) -/
-- NEEDS milllaw3_NumeralScale
set_option linter.unusedVariables false
set_option linter.unusedSimpArgs false
namespace Go.Proofs.YtcdajedmlfhmeaaDoor.XN
open Go.RowKit Go.Proofs.YtcdajedmlfhmeaaDoorW.PrintWords Go.Proofs.YtcdajedmlfhmeaaDoorW.PrintMore
/-- What an exponent's text says. -/
theorem expS_wr (c : UInt8) (hc : isE c = true) (e : Int) (z : Nat) (he : -1000 ≤ e ∧ e ≤ 1000) : (expS ([c] ++ wrS e z)).1 = e := by
  have h1 := neg_of (decide (e < 0)) (dz_head z e.natAbs [])
  rw [List.append_nil] at h1
  have hd : (wrS e z).drop (sgE (wrS e z)).2 = dz z e.natAbs := by
    rw [wr_dz, h1.2, drop_app]
  have hn : (sgE (wrS e z)).1 = decide (e < 0) := by rw [wr_dz, h1.2]
  have ht := (tw_app (p := isDg) (x := dz z e.natAbs) (y := []) (dz_dg z _) (fun c t h => by cases h)).1
  rw [List.append_nil] at ht
  have hv : dval (dz z e.natAbs) = e.natAbs := by
    rw [← dval_tl, dz_tl]
    split
    · rename_i h; rw [h]; rfl
    · exact dec_val _
  show (expS (c :: wrS e z)).1 = e
  unfold expS
  simp only [if_pos hc, hd, ht, hv, hn]
  rw [if_neg (dz_ne _ _)]
  simp only [most_eq, decide_eq_true_eq]
  split <;> omega
theorem nonum_e (c : UInt8) (t : List UInt8) (h : isE c = true) : NoNum (c :: t) := by
  have : ∀ c : UInt8, isE c = true → isDg c = false ∧ ¬ (c.toNat : Int) = 46 := all8 (by decide +kernel)
  exact nonum_of (this c h).1 (this c h).2
theorem isE_e : isE 101 = true := by decide
theorem isE_E : isE 69 = true := by decide
theorem expS_nil : (expS []).1 = 0 := rfl
theorem wr_neg' {a : Int} (h : 0 < a) : [45] ++ wrS a 0 = wrS (-a) 0 := by
  unfold wrS
  rw [if_neg (by omega), if_pos (by omega), Int.natAbs_neg]
  rfl
/-- g of digits with an exponent. -/
theorem genS_e (n e : Int) (z : Nat) (c : UInt8) (hc : isE c = true) (hn : 0 < n) (he : -1000 ≤ e ∧ e ≤ 1000) :
    (genS (wrS n 0 ++ ([c] ++ wrS e z))).1 = 3 ∧ (genS (wrS n 0 ++ ([c] ++ wrS e z))).2.2.1 = tr (dec n.natAbs) ∧ (genS (wrS n 0 ++ ([c] ++ wrS e z))).2.2.2.1 = ((dec n.natAbs).length : Int) + e := by
  have := genS_num (bl := []) (r := [c] ++ wrS e z) n 0 bl_nil (nonum_e c _ hc)
  rw [expS_wr c hc e z he, if_neg (show ¬ n.natAbs = 0 by omega)] at this
  rw [List.nil_append] at this
  rw [this]
  exact ⟨rfl, rfl, rfl⟩
/-- The tail: the two comparisons with exponents. -/
theorem scale_tail (n e m want : Int) (hn : 0 < n ∧ n < 4611686018427387904) (he : -500 ≤ e ∧ e ≤ 500) (hm : 0 ≤ m ∧ m ≤ 500) (hw : want = if m > 0 then -1 else 0) (nw : Int) (hnw : nw = -want) :
    Ev (fun k => (if (mkB (wrS n 0)).size + 1 ≤ 9223372036854775807 then ((milllaw3_written.f k e 0).bind fun t580 => (if ((mkB (wrS n 0)).size + 1) + t580.size ≤ 9223372036854775807 then ((milllaw3_written.f k (wrap64 (e + m)) 0).bind fun t581 => (if ((mkB (wrS n 0)).size + 1) + t581.size ≤ 9223372036854775807 then ((numeral_Compare.f k 32 (((mkB (wrS n 0)) ++ (⟨#[101]⟩ : ByteArray)) ++ t580) (((mkB (wrS n 0)) ++ (⟨#[101]⟩ : ByteArray)) ++ t581)).bind fun t582 => (if t582 = want then (if 1 + (mkB (wrS n 0)).size ≤ 9223372036854775807 then (if (1 + (mkB (wrS n 0)).size) + 1 ≤ 9223372036854775807 then ((milllaw3_written.f k e 0).bind fun t583 => (if (1 + (mkB (wrS n 0)).size + 1) + t583.size ≤ 9223372036854775807 then ((milllaw3_written.f k (wrap64 (e + m)) 0).bind fun t584 => (if (1 + (mkB (wrS n 0)).size + 1) + t584.size ≤ 9223372036854775807 then ((numeral_Compare.f k 32 ((((⟨#[45]⟩ : ByteArray) ++ (mkB (wrS n 0))) ++ (⟨#[101]⟩ : ByteArray)) ++ t583) ((((⟨#[45]⟩ : ByteArray) ++ (mkB (wrS n 0))) ++ (⟨#[101]⟩ : ByteArray)) ++ t584)).bind fun t585 => (some (t585 == nw))) else (none))) else (none))) else (none)) else (none)) else (some false))) else (none))) else (none))) else (none))) true := by
  have l1 := wr_len n 0 (by omega)
  have l2 := wr_len e 0 (by omega)
  have l3 := wr_len (e + m) 0 (by omega)
  rw [w64 (x := e + m) (by omega)]
  have hc : cmpI e (e + m) = want := by
    rw [hw]
    split
    · exact cmpI_lt (by omega)
    · rw [show e + m = e by omega, cmpI_self]
  have hx : (⟨#[101]⟩ : ByteArray) = mkB [101] := rfl
  have hy : (⟨#[45]⟩ : ByteArray) = mkB [45] := rfl
  simp only [hx, hy, mk_append, size_mk]
  have g1 := ordG_num (bl := []) (bl' := []) (r := [101] ++ wrS e 0) (r' := [101] ++ wrS (e + m) 0) n n 0 0 bl_nil (nonum_e 101 _ isE_e) bl_nil (nonum_e 101 _ isE_e)
  have g2 := ordG_num (bl := []) (bl' := []) (r := [101] ++ wrS e 0) (r' := [101] ++ wrS (e + m) 0) (-n) (-n) 0 0 bl_nil (nonum_e 101 _ isE_e) bl_nil (nonum_e 101 _ isE_e)
  rw [expS_wr 101 isE_e e 0 (by omega), expS_wr 101 isE_e (e + m) 0 (by omega), ordS_exp _ _ hn.1, hc] at g1
  rw [expS_wr 101 isE_e e 0 (by omega), expS_wr 101 isE_e (e + m) 0 (by omega), ordS_expn _ _ (by omega), hc] at g2
  refine Ev.pos (by omega) (Ev.bind (written_ev e 0 (by omega) (by omega)) ?_)
  simp only [mk_append, size_mk]
  refine Ev.pos (by omega) (Ev.bind (written_ev (e + m) 0 (by omega) (by omega)) ?_)
  simp only [mk_append, size_mk]
  refine Ev.pos (by omega) (Ev.bind (Compare_at (v := want) (by rw [size_mk]; simp; omega) (by rw [size_mk]; simp; omega) ?_) ?_)
  · rw [cmpS_g, L_mk, L_mk]
    simp only [List.nil_append, List.append_assoc] at g1 ⊢
    exact g1
  refine Ev.pos rfl (Ev.pos (by omega) (Ev.pos (by omega) (Ev.bind (written_ev e 0 (by omega) (by omega)) ?_)))
  simp only [mk_append, size_mk]
  refine Ev.pos (by omega) (Ev.bind (written_ev (e + m) 0 (by omega) (by omega)) ?_)
  simp only [mk_append, size_mk]
  refine Ev.pos (by omega) (Ev.bind (Compare_at (v := nw) (by rw [size_mk]; simp; omega) (by rw [size_mk]; simp; omega) ?_) (Ev.done (by simp)))
  rw [cmpS_g, L_mk, L_mk, hnw]
  rw [← wr_neg' hn.1] at g2
  simp only [List.nil_append, List.append_assoc] at g2 ⊢
  exact g2
theorem dz_app0 (n : Nat) (k : Nat) (hn : 0 < n) : ∃ m, 0 < m ∧ dec n ++ List.replicate k 48 = dec m := by
  induction k with
  | zero => exact ⟨n, hn, by simp⟩
  | succ k ih =>
    obtain ⟨m, hm, h⟩ := ih
    refine ⟨10 * m, by omega, ?_⟩
    rw [List.replicate_succ', ← List.append_assoc, h, dec_ge (show ¬ 10 * m < 10 by omega), show 10 * m / 10 = m by omega, show 10 * m % 10 = 0 by omega]
    rfl
theorem tr_pad (l : List UInt8) (k : Nat) : tr (l ++ List.replicate k 48) = tr l := by
  unfold tr
  rw [List.reverse_append, List.reverse_replicate]
  have := tl_zeros k l.reverse
  unfold tl at this
  rw [this]
/-- g of a whole number with zeros behind. -/
theorem zeros_cmp (n : Int) (k : Nat) (hn : 0 < n) (hk : k ≤ 500) : ordG (genS (wrS n 0 ++ ([69, 43] ++ wrS (k : Int) 0))) (genS (wrS n 0 ++ List.replicate k 48)) = 0 := by
  obtain ⟨m, hm, h⟩ := dz_app0 n.natAbs k (by omega)
  have e1 : wrS n 0 ++ List.replicate k 48 = [] ++ (wrS (m : Int) 0 ++ []) := by
    unfold wrS
    rw [if_neg (by omega), if_neg (by omega), show ((m : Nat) : Int).natAbs = m by omega, ← h]
    simp
  have e3 := expS_wr 69 isE_E (k : Int) 0 (by omega)
  have e2 : (expS ([69, 43] ++ wrS (k : Int) 0)).1 = (k : Int) := by
    have hw : wrS (k : Int) 0 = dz 0 k := by rw [wr_dz]; simp [sgl]
    have ht := (tw_app (p := isDg) (x := dz 0 k) (y := []) (dz_dg 0 _) (fun c t h => by cases h)).1
    rw [List.append_nil] at ht
    have hv : dval (dz 0 k) = k := by
      rw [← dval_tl, dz_tl]
      split
      · rename_i h; rw [h]; rfl
      · exact dec_val _
    rw [hw]
    show (expS (69 :: (43 :: dz 0 k))).1 = _
    have hs : sgE (43 :: dz 0 k) = (false, 1) := by rw [sgE_cons, if_neg (by decide), if_pos (by decide)]
    unfold expS
    simp only [if_pos isE_E, hs, List.drop_succ_cons, List.drop_zero, ht, hv]
    rw [if_neg (dz_ne _ _)]
    simp only [most_eq, Bool.false_eq_true, if_false]
    omega
  have g := ordG_num (bl := []) (bl' := []) (r := [69, 43] ++ wrS (k : Int) 0) (r' := []) n (m : Int) 0 0 bl_nil (nonum_e 69 _ isE_E) bl_nil nonum_nil
  rw [e1]
  rw [List.nil_append] at g
  rw [g, e2, expS_nil]
  rw [numX_pos _ _ hn, numX_pos _ _ (by omega), show ((m : Nat) : Int).natAbs = m by omega, ← h, tr_pad, List.length_append, List.length_replicate]
  have : ((dec n.natAbs).length + (k : Int)) = (((dec n.natAbs).length + k : Nat) : Int) + 0 := by omega
  rw [this]
  unfold ordS
  rw [if_pos ⟨rfl, by simp⟩, orS3]
  simp only [cmpI_self, thn0, bcmp_self]
  decide
theorem scale_l0 (n e m : Int) (hn : 0 < n ∧ n < 4611686018427387904) (he : -500 ≤ e ∧ e ≤ 500) (hm : 0 ≤ m ∧ m ≤ 500) : ∀ (d i : Nat), e.toNat - i = d → i ≤ e.toNat →
    Ev (fun k => milllaw3_NumeralScale.l0 k e m (mkB (wrS n 0)) (mkB (wrS n 0 ++ List.replicate i 48)) (i : Int)) true
  | d + 1, i, h, hi => by
    have l1 := wr_len n 0 (by omega)
    have hx : (⟨#[48]⟩ : ByteArray) = mkB [48] := rfl
    refine Ev.succ ?_
    simp only [milllaw3_NumeralScale.l0, w64_succ (i := i) (by omega), hx, mk_append]
    refine Ev.pos (by omega) (Ev.pos (by rw [size_mk]; simp; omega) ?_)
    rw [List.append_assoc, ← List.replicate_succ']
    exact scale_l0 n e m hn he hm d (i + 1) (by omega) (by omega)
  | 0, i, h, hi => by
    have l1 := wr_len n 0 (by omega)
    have l2 := wr_len e 0 (by omega)
    refine Ev.succ ?_
    simp only [milllaw3_NumeralScale.l0]
    refine Ev.neg (by omega) ?_
    have hx : (⟨#[69, 43]⟩ : ByteArray) = mkB [69, 43] := rfl
    by_cases h0 : e ≥ 0
    · refine Ev.pos h0 (Ev.pos (by rw [size_mk]; omega) (Ev.bind (written_ev e 0 (by omega) (by omega)) ?_))
      rw [hx]
      simp only [mk_append]
      refine Ev.pos (by rw [size_mk, size_mk]; omega) (Ev.bind (Compare_at (v := 0) (by rw [size_mk]; simp; omega) (by rw [size_mk]; simp; omega) ?_) ?_)
      · rw [cmpS_g, L_mk, L_mk]
        have := zeros_cmp n i hn.1 (by omega)
        rw [show (i : Int) = e by omega] at this
        simp only [List.append_assoc] at this ⊢
        exact this
      refine Ev.pos rfl (Ev.ite (fun hp => ?_) (fun hp => ?_))
      · exact scale_tail n e m (-1) hn he hm (by rw [if_pos hp]) _ rfl
      · exact scale_tail n e m 0 hn he hm (by rw [if_neg hp]) _ rfl
    · refine Ev.neg h0 (Ev.ite (fun hp => ?_) (fun hp => ?_))
      · exact scale_tail n e m (-1) hn he hm (by rw [if_pos hp]) _ rfl
      · exact scale_tail n e m 0 hn he hm (by rw [if_neg hp]) _ rfl
theorem NumeralScale_ev (n e m : Int) : Ev (fun k => milllaw3_NumeralScale.f k n e m) true := by
  unfold milllaw3_NumeralScale.f
  refine Ev.ite (fun _ => Ev.pure _) (fun h1 => Ev.ite (fun _ => Ev.pure _) (fun h2 => Ev.ite (fun _ => Ev.pure _) (fun h3 => Ev.ite (fun _ => Ev.pure _) (fun h4 => Ev.ite (fun _ => Ev.pure _) (fun h5 => Ev.ite (fun _ => Ev.pure _) (fun h6 => ?_))))))
  have l1 := wr_len n 0 (by omega)
  have l2 := wr_len e 3 (by omega)
  have hx : (⟨#[101]⟩ : ByteArray) = mkB [101] := rfl
  refine Ev.bind (written_ev n 0 (by omega) (by omega)) (Ev.pos (by rw [size_mk]; omega) (Ev.bind (written_ev e 3 (by omega) (by omega)) ?_))
  rw [hx]
  simp only [mk_append]
  refine Ev.pos (by rw [size_mk, size_mk]; omega) (Ev.bind (General_ev _ (by rw [size_mk]; simp; omega)) (Ev.bind (General_ev _ (by rw [size_mk]; omega)) ?_))
  have g1 := genS_e n e 3 101 isE_e (by omega) (by omega)
  have g2 := genS_num (bl := []) (r := []) n 0 bl_nil nonum_nil
  rw [if_neg (show ¬ n.natAbs = 0 by omega), expS_nil, List.nil_append, List.append_nil] at g2
  unfold gnV
  rw [L_mk, L_mk, g2]
  rw [List.append_assoc]
  simp only [g1.1, g1.2.1, g1.2.2, toList_mk]
  have hl := dec_len62 (m := n.natAbs) (by omega)
  refine Ev.pos trivial (Ev.pos trivial (Ev.pos trivial (Ev.pos ?_ ?_)))
  · rw [w64 (by omega)]
    omega
  have := scale_l0 n e m (by omega) (by omega) (by omega) e.toNat 0 rfl (by omega)
  rw [List.replicate_zero, List.append_nil] at this
  exact this
end Go.Proofs.YtcdajedmlfhmeaaDoor.XN
namespace Go.Proofs.YtcdajedmlfhmeaaDoor.Pure
theorem NumeralScale : XN.milllaw3_NumeralScale.Pure := fun n e m _ _ _ => (XN.NumeralScale_ev n e m).ex
end Go.Proofs.YtcdajedmlfhmeaaDoor.Pure
end

section
/- The card of NumeralScale: the law answers true at every input. Conditions: none beyond the row's own. -/
set_option linter.unusedVariables false
set_option linter.unusedSimpArgs false
namespace Go.Proofs.YtcdajedmlfhmeaaDoor.numeralScale
open Go.ChangeShapes Go.WideShapes Go.ChangeAt Go.RowKit
open Go.ChangeMaps (open_string shut_string)
theorem own : ownKnob Tryd.prog.godebug = none := by kernel_rfl
set_option maxRecDepth 100000 in
/-- What the walk gives, at every argument and every world that holds the listed variables. -/
theorem contract (H : Type) (enc : TypeId × Value → H) (W : World) (args : Array Value) (ds gs : List (DataW H)) (before : List MemPlace) (base : Nat)
    (hval0 : ∀ (j : Nat) t v, Tryd.f9.params[j]? = some t → args[j]? = some v → Value.okWide Tryd.prog W .any base t v)
    (hW : DataW.Whole enc Tryd.prog Tryd.f9.params.toList Rows.numeralScaleSpec.vars false W args.toList ds gs before)
    (hsz0 : (DataW.weightsEach Tryd.prog (Tryd.f9.params.toList ++ Rows.numeralScaleSpec.plain.varTypes Tryd.prog) (ds ++ gs)).all (· ≤ reachBytes) = true)
    (hL : laidMetH Tryd.prog Rows.numeralScaleRow.laid W) (hS : W.ShapedOpen Tryd.prog) :
    Calls Tryd.prog 9 args W fun e W' => ∃ v, e = .returned v ∧ Rows.numeralScaleSpec.post enc Tryd.prog Tryd.f9 false true false false W args v W' := by
  have hGL : XN.GOK W := XN.gok_of hL (by kernel_rfl) hS 1 2 rfl rfl
  have hsz : (DataW.weightsEach Tryd.prog (Tryd.f9.params.toList ++ Rows.numeralScaleSpec.plain.varTypes Tryd.prog) (ds ++ gs)).all (· ≤ reachBytes) = true := hsz0
  have hval : ∀ (j : Nat) t v, Tryd.f9.params[j]? = some t → args[j]? = some v → Value.okWide Tryd.prog W .any base t v := hval0
  have hW' := hW
  obtain ⟨p, q, hA0, hV, rfl, hfz, hnd⟩ := hW
  have hA : DataW.TrodAll enc Tryd.prog W 0 (fun _ => true) true Tryd.f9.params.toList args.toList ds p := hA0
  rw [Tryd.params9] at hA hval hsz
  obtain ⟨v0, vs0, d0, ds0, p0, q0, hargs, rfl, rfl, h0, r0⟩ := trodAll_cons hA
  obtain ⟨v1, vs1, d1, ds1, p1, q1, rfl, rfl, rfl, h1, r1⟩ := trodAll_cons r0
  obtain ⟨v2, vs2, d2, ds2, p2, q2, rfl, rfl, rfl, h2, r2⟩ := trodAll_cons r1
  obtain ⟨rfl, rfl, rfl⟩ := trodAll_nil r2
  obtain rfl : args = #[v0, v1, v2] := by cases args; simp_all
  obtain ⟨rfl, rfl⟩ := trodVars_none hV
  obtain ⟨a0, rfl, rfl, rfl, w0⟩ := open_int Tryd.underlying3 (hval 0 3 v0 rfl rfl) h0
  obtain ⟨a1, rfl, rfl, rfl, w1⟩ := open_int Tryd.underlying3 (hval 1 3 v1 rfl rfl) h1
  obtain ⟨a2, rfl, rfl, rfl, w2⟩ := open_int Tryd.underlying3 (hval 2 3 v2 rfl rfl) h2
  clear hA0 hval0 hsz0 hsz
  refine (XN.milllaw3_NumeralScale.walk Pure.NumeralScale a0 a1 a2 W hGL w0 w1 w2).mono fun e W' ⟨he, bel⟩ => ?_
  subst he
  exact ⟨_, rfl, _, _, _, [], _, [], hW', trodAll_mk1 (shut_bool Tryd.underlying4 _), (trodAll_cons_mk (shut_int Tryd.underlying3 w0) (trodAll_cons_mk (shut_int Tryd.underlying3 w1) (trodAll_cons_mk (shut_int Tryd.underlying3 w2) trodAll_mk0))), rfl, bel.frame _, fun h => by cases h⟩
set_option maxRecDepth 100000 in
theorem lifted (os : Os) (started : os.Started) (H : Type) (enc : TypeId × Value → H) (F : Stop.Interp) :
    ReturnsInHanded {} Tryd.checked os 9 .any ((OpenSpec.ofChange Rows.numeralScaleSpec).preRow enc Tryd.prog Tryd.f9 Rows.numeralScaleRow.domain false Rows.numeralScaleRow.laid) (((OpenSpec.ofChange Rows.numeralScaleSpec).at F).post enc Tryd.prog Tryd.f9 false true false false) := by
  have hx : ∃ places, DataW.whole enc Tryd.prog ((World.laidAll Tryd.prog os Rows.numeralScaleRow.laid).forCall (fun _ _ => 0) ⟨#[], #[.int .i64 0, .int .i64 0, .int .i64 0], []⟩).memory Tryd.f9.params.toList Rows.numeralScaleSpec.vars false (#[.int .i64 0, .int .i64 0, .int .i64 0] : Array Value).toList 8 = some ([.lit (.int .i64 0), .lit (.int .i64 0), .lit (.int .i64 0)], [], places) :=
    ⟨[], by kernel_rfl⟩
  obtain ⟨places, hx⟩ := hx
  refine returnsInHanded_of_row (C := Tryd.checked) (s := (OpenSpec.ofChange Rows.numeralScaleSpec)) own started (by kernel_rfl) Tryd.func9
    (witness_row_at (enc := enc) (C := Tryd.checked) false (World.laidAll Tryd.prog os Rows.numeralScaleRow.laid) #[.int .i64 0, .int .i64 0, .int .i64 0] (World.laidAll_os _ _ _) (by kernel_rfl) (by kernel_rfl) (by kernel_rfl)
      (OpenSpec.preRow_of_cond 8 hx (by kernel_rfl) (fun k hk => by cases hk) (by kernel_rfl) (laidMet_laidAll _ (by kernel_rfl) (by kernel_rfl)))) ?_
  intro W base args ds gs before hval hW _ _ hsz hL hS _
  exact contract H enc W args ds gs before base hval hW hsz hL hS
theorem said : Rows.NumeralScaleSaid :=
  OpenClaim.holds_of_cond 9 Tryd.f9 rfl rfl rfl rfl rfl rfl rfl ⟨rfl, rfl, rfl, rfl, rfl⟩ rfl rfl rfl rfl rfl (by kernel_rfl) Tryd.func9 (by kernel_rfl)
    (of_decide_eq_true (by kernel_rfl)) (by unfold Func.isWrapper; first | (rw [if_pos (by decide +kernel)]; kernel_rfl) | (rw [if_neg (by decide +kernel)]; exact ⟨rfl, rfl⟩))
    (fun os started H enc _ F => by rw [OpenClaim.pre_eq_preRow]; exact lifted os started H enc F)
theorem plain (f : FuncId) (fn : Func) (hf : Tryd.pinned.checked.prog.funcNamed "mill/milllaw3.NumeralScale" = some f) (hfn : Tryd.pinned.checked.prog.funcs[f]? = some fn) :
    false = Tryd.pinned.checked.prog.looks [] ∧ ∀ (j : Nat) t, fn.params[j]? = some t → Tryd.pinned.checked.prog.wantsStandIn t = false := by
  obtain rfl : f = 9 := Option.some.inj ((show Tryd.prog.funcNamed "mill/milllaw3.NumeralScale" = some 9 by kernel_rfl).symm.trans hf) |>.symm
  obtain rfl : fn = Tryd.f9 := (Option.some.inj (Tryd.func9.symm.trans hfn)).symm
  refine ⟨by kernel_rfl, fun j t ht => ?_⟩
  rw [Tryd.params9] at ht
  have hm := Array.mem_of_getElem? ht
  simp only [List.mem_toArray, List.mem_cons, List.not_mem_nil, or_false] at hm
  rcases hm with rfl | rfl | rfl
  · exact (show Tryd.prog.wantsStandIn 3 = false by kernel_rfl)
  · exact (show Tryd.prog.wantsStandIn 3 = false by kernel_rfl)
  · exact (show Tryd.prog.wantsStandIn 3 = false by kernel_rfl)
theorem card : Rows.NumeralScaleCardSaid :=
  Claim7.holds_tied_plain_at .later [] _ _ _ _ said (fun _ h => by cases h) (by kernel_rfl) (fun _ h => by cases h) numeralScale_row_tie rfl ⟨rfl, rfl⟩ (by kernel_rfl) rfl plain (by kernel_rfl)
#print axioms card
end Go.Proofs.YtcdajedmlfhmeaaDoor.numeralScale
namespace Go.Proofs.YtcdajedmlfhmeaaDoor
/-- The card, under a short name, for the claim. -/
theorem numeralScale_card : Rows.NumeralScaleCardSaid := numeralScale.card
end Go.Proofs.YtcdajedmlfhmeaaDoor
end
