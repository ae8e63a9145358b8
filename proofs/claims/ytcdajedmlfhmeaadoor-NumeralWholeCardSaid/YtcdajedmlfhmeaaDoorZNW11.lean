/- The card of NumeralWhole: the law answers true at every input. Conditions: none beyond the row's own. -/
import Derived.Test.YtcdajedmlfhmeaaDoorZNW0
import Derived.Test.YtcdajedmlfhmeaaDoorZNW10
import Derived.Test.YtcdajedmlfhmeaaDoorZNW1
import Derived.Test.YtcdajedmlfhmeaaDoorZNW9
import Derived.Test.YtcdajedmlfhmeaaDoorCards
import Derived.Test.YtcdajedmlfhmeaaDoorTie
import Derived.WalkKit
import Derived.ProofKit
import Derived.OpenShut
import Derived.ShutString
import Derived.ChangeOld
import Derived.Below
import Derived.SizedLaws
import Derived.Deep.DeepHandedRow
import Derived.Lib.LaidTab
import Derived.Lay
import Derived.MakeChecks
import Derived.LaidSub
section
/- Whole numbers as text, and how their digits compare: the plain theory. (by this session) -/
-- NEEDS milllaw3_written
set_option linter.unusedVariables false
set_option linter.unusedSimpArgs false
namespace Go.Proofs.YtcdajedmlfhmeaaDoor.XN
open Go.RowKit Go.Proofs.YtcdajedmlfhmeaaDoorW.PrintWords Go.Proofs.YtcdajedmlfhmeaaDoorW.PrintMore

/-- The decimal digits of a number. -/
def decF : Nat → Nat → List UInt8
  | 0, m => [UInt8.ofNat (48 + m % 10)]
  | k + 1, m => if m < 10 then [UInt8.ofNat (48 + m % 10)] else decF k (m / 10) ++ [UInt8.ofNat (48 + m % 10)]
def dec (m : Nat) : List UInt8 := decF m m
theorem decF_fuel : ∀ (m k k' : Nat), m ≤ k → m ≤ k' → decF k m = decF k' m := by
  intro m
  induction m using Nat.strongRecOn with
  | _ m ih =>
    intro k k' h h'
    by_cases hm : m < 10
    · cases k <;> cases k' <;> simp [decF, hm]
    · obtain ⟨k, rfl⟩ : ∃ j, k = j + 1 := ⟨k - 1, by omega⟩
      obtain ⟨k', rfl⟩ : ∃ j, k' = j + 1 := ⟨k' - 1, by omega⟩
      unfold decF
      rw [if_neg hm, if_neg hm, ih (m / 10) (by omega) k k' (by omega) (by omega)]
theorem dec_lt {m : Nat} (h : m < 10) : dec m = [UInt8.ofNat (48 + m % 10)] := by
  unfold dec
  cases m <;> simp [decF, h]
theorem dec_ge {m : Nat} (h : ¬ m < 10) : dec m = dec (m / 10) ++ [UInt8.ofNat (48 + m % 10)] := by
  unfold dec
  obtain ⟨k, rfl⟩ : ∃ j, m = j + 1 := ⟨m - 1, by omega⟩
  have : decF (k + 1) (k + 1) = decF k ((k + 1) / 10) ++ [UInt8.ofNat (48 + (k + 1) % 10)] := by
    show (if k + 1 < 10 then _ else _) = _
    rw [if_neg h]
  rw [this, decF_fuel ((k + 1) / 10) k ((k + 1) / 10) (by omega) (Nat.le_refl _)]
theorem dig_nat (m : Nat) : (UInt8.ofNat (48 + m % 10)).toNat = 48 + m % 10 := by
  rw [UInt8.toNat_ofNat']
  omega
theorem dig_dg (m : Nat) : isDg (UInt8.ofNat (48 + m % 10)) = true := by
  rw [isDg_iff, dig_nat]
  omega
theorem dec_dgs : ∀ (m : Nat), ∀ c ∈ dec m, isDg c = true := by
  intro m
  induction m using Nat.strongRecOn with
  | _ m ih =>
    intro c hc
    by_cases h : m < 10
    · rw [dec_lt h] at hc
      rw [List.mem_singleton.1 hc]
      exact dig_dg m
    · rw [dec_ge h] at hc
      rcases List.mem_append.1 hc with hc | hc
      · exact ih (m / 10) (by omega) c hc
      · rw [List.mem_singleton.1 hc]
        exact dig_dg m
theorem dec_val : ∀ (m : Nat), dval (dec m) = m := by
  intro m
  induction m using Nat.strongRecOn with
  | _ m ih =>
    by_cases h : m < 10
    · rw [dec_lt h]
      unfold dval
      rw [dvf_cons, dvf_nil, dig_nat]
      omega
    · rw [dec_ge h]
      unfold dval
      rw [dvf_app, dvf_cons, dvf_nil, dig_nat]
      have := ih (m / 10) (by omega)
      unfold dval at this
      rw [this]
      omega
theorem dec_ne (m : Nat) : dec m ≠ [] := by
  by_cases h : m < 10
  · rw [dec_lt h]; simp
  · rw [dec_ge h]; simp
theorem dec_head : ∀ (m : Nat), 0 < m → ∃ c r, dec m = c :: r ∧ is0 c = false := by
  intro m
  induction m using Nat.strongRecOn with
  | _ m ih =>
    intro hm
    by_cases h : m < 10
    · refine ⟨_, [], dec_lt h, ?_⟩
      have := dig_nat m
      rw [Bool.eq_false_iff]
      intro h0
      have := (is0_iff _).1 h0
      omega
    · obtain ⟨c, r, h1, h2⟩ := ih (m / 10) (by omega) (by omega)
      exact ⟨c, r ++ [UInt8.ofNat (48 + m % 10)], by rw [dec_ge h, h1]; rfl, h2⟩
theorem dec_tl {m : Nat} (h : 0 < m) : tl (dec m) = dec m := by
  obtain ⟨c, r, h1, h2⟩ := dec_head m h
  rw [h1]
  unfold tl
  rw [List.dropWhile_cons, if_neg (by rw [h2]; decide)]
theorem dec_lenK : ∀ (k m : Nat), m < 10 ^ (k + 1) → (dec m).length ≤ k + 1
  | 0, m, h => by rw [dec_lt (by simpa using h)]; simp
  | k + 1, m, h => by
    by_cases h' : m < 10
    · rw [dec_lt h']; simp
    · rw [dec_ge h', List.length_append]
      have := dec_lenK k (m / 10) (by rw [Nat.div_lt_iff_lt_mul (by decide), ← Nat.pow_succ]; exact h)
      simp
      omega
theorem dec_len62 {m : Nat} (h : m < 4611686018427387904) : (dec m).length ≤ 19 := by
  have h2 : 10 ^ (18 + 1) = 10000000000000000000 := by decide
  exact dec_lenK 18 m (by omega)
theorem tl_zeros (k : Nat) (l : List UInt8) : tl (List.replicate k 48 ++ l) = tl l := by
  induction k with
  | zero => rfl
  | succ k ih =>
    rw [List.replicate_succ, List.cons_append]
    unfold tl
    rw [List.dropWhile_cons, if_pos (by decide)]
    exact ih
theorem zero_tl : tl (dec 0) = [] := by decide +kernel

/-! ### digits compared -/
/-- Digit by digit; behind the end: 0. -/
def dcmp : List UInt8 → List UInt8 → Int
  | [], [] => 0
  | a :: l, [] => if a = 48 then dcmp l [] else 1
  | [], b :: m => if b = 48 then dcmp [] m else -1
  | a :: l, b :: m => if a < b then -1 else if b < a then 1 else dcmp l m
theorem dcmp_nn : dcmp [] [] = 0 := by simp only [dcmp]
theorem dcmp_cn (a : UInt8) (l : List UInt8) : dcmp (a :: l) [] = if a = 48 then dcmp l [] else 1 := by simp only [dcmp]
theorem dcmp_nc (b : UInt8) (m : List UInt8) : dcmp [] (b :: m) = if b = 48 then dcmp [] m else -1 := by simp only [dcmp]
theorem dcmp_cc (a b : UInt8) (l m : List UInt8) : dcmp (a :: l) (b :: m) = if a < b then -1 else if b < a then 1 else dcmp l m := by simp only [dcmp]
theorem dg_min {b : UInt8} (h : isDg b = true) (h0 : b ≠ 48) : (48 : UInt8) < b := by
  have := (isDg_iff b).1 h
  rw [UInt8.lt_iff_toNat_lt]
  have h1 : b.toNat ≠ 48 := fun e => h0 (UInt8.toNat_inj.1 e)
  show 48 < b.toNat
  omega
theorem dcmp_z : ∀ (k : Nat) (y : List UInt8), (∀ c ∈ y, isDg c = true) → dcmp (List.replicate k 48) y = dcmp [] y
  | 0, y, _ => rfl
  | k + 1, [], h => by rw [List.replicate_succ, dcmp_cn, if_pos rfl]; exact dcmp_z k [] h
  | k + 1, b :: m, h => by
    rw [List.replicate_succ, dcmp_cc, dcmp_nc]
    by_cases hb : b = 48
    · subst hb
      rw [if_neg (u8_irr _), if_neg (u8_irr _), if_pos rfl]
      exact dcmp_z k m fun c hc => h c (by simp [hc])
    · rw [if_pos (dg_min (h b (by simp)) hb), if_neg hb]
theorem dcmp_pad : ∀ (x : List UInt8) (k : Nat) (y : List UInt8), (∀ c ∈ y, isDg c = true) → dcmp (x ++ List.replicate k 48) y = dcmp x y
  | [], k, y, h => dcmp_z k y h
  | a :: l, k, [], h => by
    rw [List.cons_append, dcmp_cn, dcmp_cn, dcmp_pad l k [] h]
  | a :: l, k, b :: m, h => by
    rw [List.cons_append, dcmp_cc, dcmp_cc, dcmp_pad l k m fun c hc => h c (by simp [hc])]
theorem dcmp_flip : ∀ (x y : List UInt8), dcmp y x = -dcmp x y
  | [], [] => by rw [dcmp_nn]; rfl
  | a :: l, [] => by
    rw [dcmp_cn, dcmp_nc]
    split
    · exact dcmp_flip l []
    · rfl
  | [], b :: m => by
    rw [dcmp_cn, dcmp_nc]
    split
    · exact dcmp_flip [] m
    · rfl
  | a :: l, b :: m => by
    rw [dcmp_cc, dcmp_cc, dcmp_flip l m]
    rcases u8_tri a b with h1 | h1 | h1
    · rw [if_pos h1, if_neg (u8_asym h1), if_pos h1]; rfl
    · rw [if_pos h1, if_neg (u8_asym h1), if_pos h1]
    · subst h1
      rw [if_neg (u8_irr a), if_neg (u8_irr a), if_neg (u8_irr a), if_neg (u8_irr a)]
theorem dcmp_eqlen : ∀ (x y : List UInt8), x.length = y.length → dcmp x y = bcmp x y
  | [], [], _ => by rw [dcmp_nn, bcmp_nn]
  | a :: l, [], h => by simp at h
  | [], b :: m, h => by simp at h
  | a :: l, b :: m, h => by rw [dcmp_cc, bcmp_cc, dcmp_eqlen l m (by simpa using h)]
/-- What tr takes off are zeros. -/
theorem tr_zeros (l : List UInt8) : ∃ k, l = tr l ++ List.replicate k 48 := by
  unfold tr
  have h : ∀ r : List UInt8, ∃ k, r = List.replicate k 48 ++ r.dropWhile is0 := by
    intro r
    induction r with
    | nil => exact ⟨0, rfl⟩
    | cons c r ih =>
      rw [List.dropWhile_cons]
      split
      · rename_i hc
        obtain ⟨k, hk⟩ := ih
        refine ⟨k + 1, ?_⟩
        have : c = 48 := u8_eq (d := 48) ((is0_iff c).1 hc)
        rw [List.replicate_succ, List.cons_append, ← hk, this]
      · exact ⟨0, rfl⟩
  obtain ⟨k, hk⟩ := h l.reverse
  refine ⟨k, ?_⟩
  have := congrArg List.reverse hk
  rw [List.reverse_reverse, List.reverse_append, List.reverse_replicate] at this
  exact this
/-- No 0 at the end. -/
def Trm (l : List UInt8) : Prop := ∀ c r, l.reverse = c :: r → is0 c = false
theorem tr_trm (l : List UInt8) : Trm (tr l) := by
  intro c r h
  unfold tr at h
  rw [List.reverse_reverse] at h
  exact dropWhile_head h
theorem trm_tail {a : UInt8} {l : List UInt8} (h : Trm (a :: l)) : Trm l := by
  intro c r hr
  refine h c (r ++ [a]) ?_
  rw [List.reverse_cons, hr]
  rfl
theorem trm_pos : ∀ {l : List UInt8}, l ≠ [] → Trm l → (∀ c ∈ l, isDg c = true) → dcmp l [] = 1
  | [], h, _, _ => absurd rfl h
  | [a], _, h, hd => by
    rw [dcmp_cn, dcmp_nn]
    have := h a [] rfl
    have := is0_false this
    rw [if_neg (fun e => this (by rw [e]; rfl))]
  | a :: b :: l, _, h, hd => by
    rw [dcmp_cn]
    split
    · exact trm_pos (by simp) (trm_tail h) fun c hc => hd c (List.mem_cons_of_mem _ hc)
    · rfl
theorem dcmp_trm : ∀ (x y : List UInt8), Trm x → Trm y → (∀ c ∈ x, isDg c = true) → (∀ c ∈ y, isDg c = true) → dcmp x y = bcmp x y
  | [], [], _, _, _, _ => by rw [dcmp_nn, bcmp_nn]
  | a :: l, [], hx, _, dx, _ => by rw [trm_pos (by simp) hx dx, bcmp_cn]
  | [], b :: m, _, hy, _, dy => by rw [dcmp_flip, trm_pos (by simp) hy dy, bcmp_nc]
  | a :: l, b :: m, hx, hy, dx, dy => by
    rw [dcmp_cc, bcmp_cc, dcmp_trm l m (trm_tail hx) (trm_tail hy) (fun c hc => dx c (by simp [hc])) (fun c hc => dy c (by simp [hc]))]
theorem tr_dg {l : List UInt8} (h : ∀ c ∈ l, isDg c = true) : ∀ c ∈ tr l, isDg c = true := fun c hc => h c (tr_sub l c hc)
theorem dcmp_tr {x y : List UInt8} (dx : ∀ c ∈ x, isDg c = true) (dy : ∀ c ∈ y, isDg c = true) : bcmp (tr x) (tr y) = dcmp x y := by
  obtain ⟨k, hk⟩ := tr_zeros x
  obtain ⟨j, hj⟩ := tr_zeros y
  rw [← dcmp_trm _ _ (tr_trm x) (tr_trm y) (tr_dg dx) (tr_dg dy)]
  have h1 : dcmp x y = dcmp (tr x) y := by
    have := dcmp_pad (tr x) k y dy
    rw [← hk] at this
    exact this
  have h2 : dcmp y (tr x) = dcmp (tr y) (tr x) := by
    have := dcmp_pad (tr y) j (tr x) (tr_dg dx)
    rw [← hj] at this
    exact this
  rw [h1, dcmp_flip y (tr x), h2, dcmp_flip (tr y) (tr x)]
/-- Digits of one length compare as their values do. -/
theorem bcmp_val : ∀ (x y : List UInt8) (a b : Nat), x.length = y.length → (∀ c ∈ x, isDg c = true) → (∀ c ∈ y, isDg c = true) → thn (cmpI (a : Int) (b : Int)) (bcmp x y) = cmpI (dvf a x : Int) (dvf b y : Int)
  | [], [], a, b, _, _, _ => by
    rw [dvf_nil, dvf_nil, bcmp_nn]
    unfold thn
    split
    · omega
    · rfl
  | c :: x, [], _, _, h, _, _ => by simp at h
  | [], d :: y, _, _, h, _, _ => by simp at h
  | c :: x, d :: y, a, b, h, hx, hy => by
    rw [dvf_cons, dvf_cons, ← bcmp_val x y _ _ (by simpa using h) (fun e he => hx e (by simp [he])) (fun e he => hy e (by simp [he])), bcmp_thn, bcmp_1]
    have hc := (isDg_iff c).1 (hx c (by simp))
    have hd := (isDg_iff d).1 (hy d (by simp))
    generalize bcmp x y = t
    rcases Nat.lt_trichotomy a b with h1 | h1 | h1
    · rw [cmpI_lt (a := (a : Int)) (by omega), thn_ne (by decide), cmpI_lt (by omega), thn_ne (by decide)]
    · subst h1
      rw [cmpI_self, thn0]
      have e : cmpI ((c.toNat : Int)) (d.toNat : Int) = cmpI ((10 * a + (c.toNat - 48) : Nat) : Int) ((10 * a + (d.toNat - 48) : Nat) : Int) := by
        rcases Nat.lt_trichotomy c.toNat d.toNat with h2 | h2 | h2
        · exact cmpI_of_lt (Or.inl ⟨by omega, by omega⟩)
        · rw [h2, cmpI_self, cmpI_self]
        · exact cmpI_of_lt (Or.inr ⟨by omega, by omega⟩)
      rw [e]
    · rw [cmpI_gt (a := (a : Int)) (by omega), thn_ne (by decide), cmpI_gt (by omega), thn_ne (by decide)]
/-- Digits without a 0 ahead: the longer ones are the greater ones, of one length the bytes decide. -/
theorem len_val {x y : List UInt8} (hx : ∀ c ∈ x, isDg c = true) (hy : ∀ c ∈ y, isDg c = true) (h0 : tl x = x) (h1 : tl y = y) : thn (cmpI (x.length : Int) (y.length : Int)) (bcmp x y) = cmpI (dval x : Int) (dval y : Int) := by
  have key : ∀ {x y : List UInt8}, (∀ c ∈ x, isDg c = true) → (∀ c ∈ y, isDg c = true) → tl y = y → x.length < y.length → dval x < dval y := by
    intro x y hx hy h1 hl
    cases y with
    | nil => simp at hl
    | cons d y =>
      have hlt := dvf_lt x 0 hx
      have hd := (isDg_iff d).1 (hy d (by simp))
      have hne : ¬ (d.toNat : Int) = 48 := by
        have : (d :: y).dropWhile is0 = d :: y := h1
        exact is0_false (dropWhile_head this)
      have hge := dvf_ge y (d.toNat - 48)
      have : dval (d :: y) = dvf (d.toNat - 48) y := by unfold dval; rw [dvf_cons]; congr 1; omega
      rw [this]
      have hp : 10 ^ x.length ≤ 10 ^ y.length := Nat.pow_le_pow_right (by decide) (by simp at hl; omega)
      have h2 : 1 * 10 ^ y.length ≤ (d.toNat - 48) * 10 ^ y.length := Nat.mul_le_mul_right _ (by omega)
      unfold dval
      omega
  rcases Nat.lt_trichotomy x.length y.length with h | h | h
  · rw [cmpI_lt (by omega), thn_ne (by decide), cmpI_lt (by have := key hx hy h1 h; omega)]
  · rw [h, cmpI_self, thn0]
    have := bcmp_val x y 0 0 h hx hy
    rw [cmpI_self, thn0] at this
    exact this
  · rw [cmpI_gt (by omega), thn_ne (by decide), cmpI_gt (by have := key hy hx h0 h; omega)]
theorem dec_cmp (a b : Nat) (ha : 0 < a) (hb : 0 < b) : thn (cmpI ((dec a).length : Int) ((dec b).length : Int)) (bcmp (tr (dec a)) (tr (dec b))) = cmpI (a : Int) (b : Int) := by
  have h := len_val (dec_dgs a) (dec_dgs b) (dec_tl ha) (dec_tl hb)
  rw [dec_val, dec_val] at h
  rw [← h, dcmp_tr (dec_dgs a) (dec_dgs b)]
  by_cases e : (dec a).length = (dec b).length
  · rw [e, cmpI_self, thn0, thn0, dcmp_eqlen _ _ e]
  · have : cmpI ((dec a).length : Int) ((dec b).length : Int) ≠ 0 := fun h => e (by have := cmpI_zero h; omega)
    rw [thn_ne this, thn_ne this]
theorem dec_run {a b : Nat} (ha : 0 < a) (hb : 0 < b) : thn (cmpI ((dec a).length : Int) ((dec b).length : Int)) (bcmp (dec a) (dec b)) = cmpI (a : Int) (b : Int) := by
  have h := len_val (dec_dgs a) (dec_dgs b) (dec_tl ha) (dec_tl hb)
  rw [dec_val, dec_val] at h
  exact h
theorem tr_ne {m : Nat} (h : 0 < m) : tr (dec m) ≠ [] := by
  intro h0
  obtain ⟨k, hk⟩ := tr_zeros (dec m)
  rw [h0, List.nil_append] at hk
  obtain ⟨c, r, h1, h2⟩ := dec_head m h
  rw [hk] at h1
  cases k with
  | zero => cases h1
  | succ k =>
    rw [List.replicate_succ] at h1
    injection h1 with h3 h4
    rw [← h3] at h2
    exact absurd h2 (by decide)

/-! ### written -/
def wrS (n : Int) (z : Nat) : List UInt8 := (if n < 0 then [45] else []) ++ (List.replicate z 48 ++ dec n.natAbs)
theorem one_str (m : Nat) (h : m < 9223372036854775807) : strOfNums ([(wrap64 (48 + Int.tmod (m : Int) 10)) % 256] : List Int) = mkB [UInt8.ofNat (48 + m % 10)] := by
  have e : (wrap64 (48 + Int.tmod (m : Int) 10)) % 256 = ((48 + m % 10 : Nat) : Int) := by
    rw [Int.tmod_eq_emod_of_nonneg (by omega), w64 (by omega)]
    omega
  rw [e]
  have hx : 48 + m % 10 < 256 := by omega
  generalize 48 + m % 10 = x at *
  have : ∀ n : Fin 256, strOfNums [((n.val : Nat) : Int)] = mkB [UInt8.ofNat n.val] := by decide +kernel
  exact this ⟨x, hx⟩
theorem written_l1 (x0 : Int) (z : Nat) (hz : z ≤ 1000) : ∀ (d i : Nat) (l : List UInt8), z - i = d → i ≤ z → l.length ≤ 1000 + i →
    Ev (fun k => milllaw3_written.l1 k x0 (z : Int) (mkB l) (i : Int)) (mkB ((if x0 < 0 then [45] else []) ++ (List.replicate d 48 ++ l)))
  | 0, i, l, h, hi, hl => by
    refine Ev.succ ?_
    simp only [milllaw3_written.l1]
    refine Ev.neg (by omega) (Ev.ite (fun h0 => ?_) (fun h0 => ?_))
    · refine Ev.pos (by rw [size_mk]; omega) (Ev.done ?_)
      rw [if_pos h0, lit_mk, mk_append]
      rfl
    · exact Ev.done (by rw [if_neg h0]; rfl)
  | d + 1, i, l, h, hi, hl => by
    refine Ev.succ ?_
    simp only [milllaw3_written.l1, w64_succ (i := i) (by omega), lit_mk, mk_append]
    refine Ev.pos (by omega) (Ev.pos (by rw [size_mk]; omega) ?_)
    refine Ev.val (written_l1 x0 z hz d (i + 1) ([48] ++ l) (by omega) (by omega) (by simp; omega)) ?_
    rw [List.replicate_succ']
    simp
theorem written_l0 (x0 : Int) (z : Nat) (hz : z ≤ 1000) : ∀ (d m : Nat) (l : List UInt8), m < 10 ^ d → m < 9223372036854775807 → l.length + d ≤ 20 → (m = 0 → l ≠ []) →
    Ev (fun k => milllaw3_written.l0 k x0 (z : Int) (mkB l) (m : Int)) (mkB ((if x0 < 0 then [45] else []) ++ (List.replicate z 48 ++ ((if m = 0 then [] else dec m) ++ l))))
  | d, 0, l, h, hd, hl, h0 => by
    refine Ev.succ ?_
    simp only [milllaw3_written.l0, toList_mk]
    refine Ev.neg (by omega) (Ev.neg (h0 rfl) ?_)
    simp only [if_true, List.nil_append]
    exact written_l1 x0 z hz z 0 l (by omega) (by omega) (by omega)
  | 0, m + 1, l, h, hd, hl, h0 => by simp at h
  | d + 1, m + 1, l, h, hbig, hl, h0 => by
    refine Ev.succ ?_
    simp only [milllaw3_written.l0, one_str (m + 1) hbig, Option.bind_some, mk_append, size_mk]
    refine Ev.pos (by omega) (Ev.pos (by simp; omega) ?_)
    have e : wrap64 (Int.tdiv ((m + 1 : Nat) : Int) 10) = (((m + 1) / 10 : Nat) : Int) := by
      rw [Int.tdiv_eq_ediv_of_nonneg (by omega)]
      exact w64_nat (by omega) (by omega)
    rw [e]
    refine Ev.val (written_l0 x0 z hz d ((m + 1) / 10) _ (by rw [Nat.div_lt_iff_lt_mul (by decide), ← Nat.pow_succ]; exact h) (by omega) (by simp; omega) (by simp)) ?_
    rw [if_neg (show ¬ m + 1 = 0 by omega)]
    by_cases h10 : m + 1 < 10
    · rw [if_pos (show (m + 1) / 10 = 0 by omega), dec_lt h10]
      rfl
    · rw [if_neg (show ¬ (m + 1) / 10 = 0 by omega), dec_ge h10]
      simp only [List.append_assoc]
theorem written_start (x0 : Int) (z m : Nat) (hz : z ≤ 1000) (hm : m < 4611686018427387904) :
    Ev (fun k => milllaw3_written.j0 k x0 (z : Int) (⟨#[]⟩ : ByteArray) (m : Int)) (mkB ((if x0 < 0 then [45] else []) ++ (List.replicate z 48 ++ dec m))) := by
  refine Ev.succ ?_
  simp only [milllaw3_written.j0]
  have hp : (10 : Nat) ^ 19 = 10000000000000000000 := by decide
  cases m with
  | succ m =>
    refine Ev.val (written_l0 x0 z hz 19 (m + 1) [] (by omega) (by omega) (by simp) (by omega)) ?_
    rw [if_neg (show ¬ m + 1 = 0 by omega), List.append_nil]
  | zero =>
    refine Ev.succ ?_
    have h0 := one_str 0 (by omega)
    simp only [milllaw3_written.l0]
    refine Ev.neg (by omega) (Ev.pos (by decide +kernel) ?_)
    simp only [h0, Option.bind_some]
    refine Ev.pos (by decide +kernel) ?_
    rw [show wrap64 (Int.tdiv ((0 : Nat) : Int) 10) = ((0 : Nat) : Int) by decide +kernel]
    refine Ev.val (written_l0 x0 z hz 0 0 _ (by decide) (by omega) (by decide +kernel) (by decide +kernel)) ?_
    rfl
theorem written_ev (n : Int) (z : Nat) (hn : -4611686018427387904 < n ∧ n < 4611686018427387904) (hz : z ≤ 1000) : Ev (fun k => milllaw3_written.f k n (z : Int)) (mkB (wrS n z)) := by
  unfold milllaw3_written.f wrS
  refine Ev.ite (fun h => ?_) (fun h => ?_)
  · rw [w64 (by omega), show -n = (n.natAbs : Int) by omega]
    exact written_start n z n.natAbs hz (by omega)
  · have := written_start n z n.natAbs hz (by omega)
    rw [show ((n.natAbs : Nat) : Int) = n by omega] at this
    exact this
end Go.Proofs.YtcdajedmlfhmeaaDoor.XN
end

section
/- What n, h and g read of a whole number as text: the plain theory. (by this session) -/
set_option linter.unusedVariables false
set_option linter.unusedSimpArgs false
namespace Go.Proofs.YtcdajedmlfhmeaaDoor.XN
open Go.RowKit Go.Proofs.YtcdajedmlfhmeaaDoorW.PrintWords Go.Proofs.YtcdajedmlfhmeaaDoorW.PrintMore

theorem tw_app {p : UInt8 → Bool} : ∀ {x y : List UInt8}, (∀ c ∈ x, p c = true) → (∀ c t, y = c :: t → p c = false) → (x ++ y).takeWhile p = x ∧ (x ++ y).dropWhile p = y
  | [], [], _, _ => ⟨rfl, rfl⟩
  | [], c :: t, _, h => by
    have := h c t rfl
    simp only [List.nil_append]
    rw [List.takeWhile_cons, List.dropWhile_cons, if_neg (by rw [this]; decide), if_neg (by rw [this]; decide)]
    exact ⟨rfl, rfl⟩
  | a :: x, y, hx, hy => by
    have ih := tw_app (x := x) (y := y) (fun c hc => hx c (by simp [hc])) hy
    have ha := hx a (by simp)
    rw [List.cons_append, List.takeWhile_cons, List.dropWhile_cons, if_pos ha, if_pos ha, ih.1, ih.2]
    exact ⟨rfl, rfl⟩
def sgl (neg : Bool) : List UInt8 := if neg = true then [45] else []
theorem dg_bl {c : UInt8} (h : isDg c = true) : isBl c = false := by
  have := (isDg_iff c).1 h
  unfold isBl
  simp
  omega
/-- Blanks, a sign, then what begins with a digit. -/
theorem blk_of {bl q : List UInt8} (neg : Bool) (hb : ∀ c ∈ bl, isBl c = true) (hq : ∃ c t, q = c :: t ∧ isDg c = true) : blkN (bl ++ (sgl neg ++ q)) = bl.length := by
  unfold blkN
  rw [(tw_app hb ?_).1]
  intro c t h
  obtain ⟨d, u, h1, h2⟩ := hq
  unfold sgl at h
  cases neg with
  | true =>
    simp at h
    rw [← h.1]
    decide
  | false =>
    simp [h1] at h
    rw [← h.1]
    exact dg_bl h2
theorem drop_app {x y : List UInt8} : (x ++ y).drop x.length = y := by simp
theorem neg_of {q : List UInt8} (neg : Bool) (hq : ∃ c t, q = c :: t ∧ isDg c = true) : negAt (sgl neg ++ q) = neg ∧ sgE (sgl neg ++ q) = (neg, (sgl neg).length) := by
  obtain ⟨d, u, h1, h2⟩ := hq
  have := (isDg_iff d).1 h2
  cases neg with
  | true => exact ⟨rfl, rfl⟩
  | false =>
    rw [h1]
    unfold sgl
    simp only [Bool.false_eq_true, if_false, List.nil_append, negAt]
    rw [sgE_cons, if_neg (by omega), if_neg (by omega)]
    exact ⟨by simp; omega, rfl⟩
theorem decS_of {bl q : List UInt8} (neg : Bool) (hb : ∀ c ∈ bl, isBl c = true) (hq : ∃ c t, q = c :: t ∧ isDg c = true) (h0 : ¬ noneAt q = true) :
    decS (bl ++ (sgl neg ++ q)) = (neg && !((tl (plS q).1).isEmpty && (tr (plS q).2.1).isEmpty), tl (plS q).1, tr (plS q).2.1, bl.length + (sgl neg).length + (plS q).2.2) := by
  have h1 := blk_of neg hb hq
  have h2 := neg_of neg hq
  have hs : sgN (bl ++ (sgl neg ++ q)) = bl.length + (sgl neg).length := by
    unfold sgN
    rw [h1, drop_app, h2.1]
    cases neg <;> rfl
  have hd : (bl ++ (sgl neg ++ q)).drop (bl.length + (sgl neg).length) = q := by
    rw [← List.drop_drop, drop_app, drop_app]
  have hn : sgNeg (bl ++ (sgl neg ++ q)) = neg := by
    unfold sgNeg
    rw [h1, drop_app]
    exact h2.1
  unfold decS
  rw [hs, hd, hn, if_neg h0]
theorem genS_of {bl q : List UInt8} (neg : Bool) (hb : ∀ c ∈ bl, isBl c = true) (hq : ∃ c t, q = c :: t ∧ isDg c = true) :
    genS (bl ++ (sgl neg ++ q)) = genB neg q (bl.length + (sgl neg).length) := by
  have h1 := blk_of neg hb hq
  have h2 := neg_of neg hq
  have hd : (bl ++ (sgl neg ++ q)).drop (bl.length + (sgl neg).length) = q := by
    rw [← List.drop_drop, drop_app, drop_app]
  unfold genS genN
  rw [h1, drop_app, h2.2, hd]
theorem bg_dg {c d : UInt8} {t w : List UInt8} (hc : isDg c = true) (hd : ¬ isDg d = true) : bgN (c :: t) (d :: w) = false := by
  have hl : lowB c = c := by
    have : ∀ c : UInt8, isDg c = true → lowB c = c := all8 (by decide +kernel)
    exact this c hc
  simp only [bgN]
  rw [hl, Bool.and_eq_false_iff]
  left
  rw [beq_eq_false_iff_ne]
  rintro rfl
  exact hd hc
theorem genB_dg {q : List UInt8} (neg : Bool) (i : Nat) (hq : ∃ c t, q = c :: t ∧ isDg c = true) (h0 : ¬ noneAt q = true) :
    genB neg q i = (3, neg && !(digS (plS q).1 (plS q).2.1 (expS (q.drop (plS q).2.2)).1).1.isEmpty, (digS (plS q).1 (plS q).2.1 (expS (q.drop (plS q).2.2)).1).1, (digS (plS q).1 (plS q).2.1 (expS (q.drop (plS q).2.2)).1).2, i + (plS q).2.2 + (expS (q.drop (plS q).2.2)).2) := by
  obtain ⟨c, t, h1, h2⟩ := hq
  unfold genB
  rw [if_neg, if_neg, if_neg, if_neg h0]
  · rw [h1]; unfold wNan; rw [bg_dg h2 (by decide)]; decide
  · rw [h1]; unfold wInf; rw [bg_dg h2 (by decide)]; decide
  · rw [h1]; unfold wInfinity; rw [bg_dg h2 (by decide)]; decide
/-- What stands behind a whole number: no digit, no point. -/
def NoNum (r : List UInt8) : Prop := ∀ c t, r = c :: t → isDg c = false ∧ ¬ (c.toNat : Int) = 46
theorem pl_whole {D r : List UInt8} (hD : ∀ c ∈ D, isDg c = true) (hr : NoNum r) : plS (D ++ r) = (D, [], D.length) := by
  have h := tw_app (p := isDg) hD (fun c t e => (hr c t e).1)
  unfold plS
  rw [h.1, h.2]
  cases r with
  | nil => rfl
  | cons c t => simp only [if_neg (hr c t rfl).2]
def dz (z m : Nat) : List UInt8 := List.replicate z 48 ++ dec m
theorem dz_dg (z m : Nat) : ∀ c ∈ dz z m, isDg c = true := by
  intro c hc
  rcases List.mem_append.1 hc with h | h
  · rw [(List.mem_replicate.1 h).2]; decide
  · exact dec_dgs m c h
theorem dz_head (z m : Nat) (r : List UInt8) : ∃ c t, dz z m ++ r = c :: t ∧ isDg c = true := by
  cases h : dz z m with
  | nil => exact absurd (List.append_eq_nil_iff.1 h).2 (dec_ne m)
  | cons c t => exact ⟨c, t ++ r, rfl, dz_dg z m c (by rw [h]; simp)⟩
theorem dz_tl (z m : Nat) : tl (dz z m) = if m = 0 then [] else dec m := by
  unfold dz
  rw [tl_zeros]
  split
  · rename_i h; rw [h, zero_tl]
  · exact dec_tl (by omega)
theorem wr_dz (n : Int) (z : Nat) : wrS n z = sgl (decide (n < 0)) ++ dz z n.natAbs := by
  unfold wrS sgl dz
  by_cases h : n < 0
  · rw [if_pos h, if_pos (by simp [h])]
  · rw [if_neg h, if_neg (by simp [h])]
theorem none_dz (z m : Nat) {r : List UInt8} (hr : NoNum r) : ¬ noneAt (dz z m ++ r) = true := by
  unfold noneAt
  rw [pl_whole (dz_dg z m) hr]
  cases h : dz z m with
  | nil => exact absurd (List.append_eq_nil_iff.1 h).2 (dec_ne m)
  | cons c t => simp
/-- A whole number, as it is compared: its letter's rank, an exponent. -/
def numX (n rk x : Int) : Sz := if n = 0 then (0, 0, 0, []) else ((if n < 0 then -1 else 1), rk, (dec n.natAbs).length + x, tr (dec n.natAbs))
theorem digS_dz (z m : Nat) (e : Int) : digS (dz z m) [] e = if m = 0 then ([], 0) else (tr (dec m), ((dec m).length : Int) + e) := by
  unfold digS
  rw [dz_tl]
  by_cases h : m = 0
  · rw [if_pos h, if_pos h, if_pos rfl]
    rfl
  · rw [if_neg h, if_neg h, if_neg (dec_ne m), List.append_nil, if_neg (tr_ne (by omega))]
theorem szS_num (n rk x : Int) (b : Bool) (hb : n ≠ 0 → b = decide (n < 0)) : szS b (if n.natAbs = 0 then ([], 0) else (tr (dec n.natAbs), ((dec n.natAbs).length : Int) + x)).1 (if n.natAbs = 0 then ([], 0) else (tr (dec n.natAbs), ((dec n.natAbs).length : Int) + x)).2 rk = numX n rk x := by
  unfold szS numX
  by_cases h : n = 0
  · rw [if_pos h, if_pos (show n.natAbs = 0 by omega), if_pos rfl]
  · rw [if_neg h, if_neg (show ¬ n.natAbs = 0 by omega), if_neg (tr_ne (by omega)), hb h]
    by_cases h' : n < 0
    · simp [h']
    · simp [h']
def rkAt : List UInt8 → Nat
  | [] => 0
  | c :: _ => letN c
theorem tr_nil : tr [] = [] := rfl
theorem decS_num {bl r : List UInt8} (n : Int) (z : Nat) (hb : ∀ c ∈ bl, isBl c = true) (hr : NoNum r) :
    decS (bl ++ (wrS n z ++ r)) = (decide (n < 0), if n.natAbs = 0 then [] else dec n.natAbs, [], bl.length + (wrS n z).length) := by
  rw [wr_dz, List.append_assoc, decS_of _ hb (dz_head z _ r) (none_dz z _ hr), pl_whole (dz_dg z _) hr]
  simp only [dz_tl, tr_nil, List.length_append, Nat.add_assoc, List.isEmpty_nil, Bool.and_true]
  by_cases h : n.natAbs = 0
  · rw [if_pos h]
    simp
    omega
  · rw [if_neg h]
    have : (dec n.natAbs).isEmpty = false := by cases hh : dec n.natAbs with | nil => exact absurd hh (dec_ne _) | cons => rfl
    rw [this]
    simp
theorem huS_num {bl r : List UInt8} (kind : Int) (s : ByteArray) (n : Int) (z : Nat) (hL : L s = bl ++ (wrS n z ++ r)) (hb : ∀ c ∈ bl, isBl c = true) (hr : NoNum r) :
    huS kind s = numX n (if kind = 16 then 0 else (rkAt r : Int)) 0 ∧ ((humS s).2 : Int) = if n = 0 then 0 else (rkAt r : Int) := by
  have hd := decS_num n z hb hr
  rw [← hL] at hd
  obtain ⟨f1, f2, f3⟩ := humS_fields s
  have hwl : 0 < (wrS n z).length := by
    rw [wr_dz, List.length_append]
    obtain ⟨c, t, h1, _⟩ := dz_head z n.natAbs []
    rw [List.append_nil] at h1
    rw [h1]
    simp
    omega
  have hrk : (humS s).2 = if n = 0 then 0 else rkAt r := by
    unfold humS
    rw [hd]
    simp only
    have hsz : s.size = bl.length + (wrS n z).length + r.length := by
      rw [← L_len, hL, List.length_append, List.length_append]
      omega
    have hdr : (L s).drop (bl.length + (wrS n z).length) = r := by
      rw [hL, ← List.drop_drop, drop_app, drop_app]
    rw [hdr]
    cases r with
    | nil =>
      rw [if_pos (Or.inr (by simpa using hsz.symm))]
      simp [rkAt]
    | cons c t =>
      rw [if_neg (by simp at hsz; omega)]
      simp only [rkAt]
      by_cases h : n = 0
      · rw [if_pos h, if_pos (show n.natAbs = 0 by omega), if_pos ⟨rfl, trivial⟩]
      · rw [if_neg h, if_neg (show ¬ n.natAbs = 0 by omega), if_neg (fun h' => dec_ne _ h'.1)]
  refine ⟨?_, by rw [hrk]; split <;> rfl⟩
  unfold huS
  rw [f1, f2, f3, hd, hrk]
  simp only
  have hdig : digS (if n.natAbs = 0 then [] else dec n.natAbs) [] 0 = if n.natAbs = 0 then ([], 0) else (tr (dec n.natAbs), ((dec n.natAbs).length : Int) + 0) := by
    by_cases h : n.natAbs = 0
    · rw [if_pos h, if_pos h]; rfl
    · rw [if_neg h, if_neg h]
      have := digS_dz 0 n.natAbs 0
      rw [if_neg h] at this
      exact this
  rw [hdig]
  have := szS_num n (if kind = 16 then 0 else ((if n = 0 then 0 else rkAt r : Nat) : Int)) 0 (decide (n < 0)) (fun _ => rfl)
  rw [this]
  unfold numX
  by_cases h : n = 0
  · rw [if_pos h, if_pos h]
  · rw [if_neg h, if_neg h, if_neg h]
theorem genS_num {bl r : List UInt8} (n : Int) (z : Nat) (hb : ∀ c ∈ bl, isBl c = true) (hr : NoNum r) :
    genS (bl ++ (wrS n z ++ r)) = (3, decide (n < 0), (if n.natAbs = 0 then ([], 0) else (tr (dec n.natAbs), ((dec n.natAbs).length : Int) + (expS r).1)).1, (if n.natAbs = 0 then ([], 0) else (tr (dec n.natAbs), ((dec n.natAbs).length : Int) + (expS r).1)).2, bl.length + (wrS n z).length + (expS r).2) := by
  rw [wr_dz, List.append_assoc, genS_of _ hb (dz_head z _ r), genB_dg _ _ (dz_head z _ r) (none_dz z _ hr), pl_whole (dz_dg z _) hr]
  simp only [drop_app, digS_dz]
  refine Prod.ext rfl (Prod.ext ?_ (Prod.ext rfl (Prod.ext rfl ?_)))
  · simp only
    by_cases h : n.natAbs = 0
    · rw [if_pos h]
      simp
      omega
    · rw [if_neg h]
      have : (tr (dec n.natAbs)).isEmpty = false := by cases hh : tr (dec n.natAbs) with | nil => exact absurd hh (tr_ne (by omega)) | cons => rfl
      rw [this]
      simp
  · simp only [List.length_append]
    omega
theorem ordG_num {bl r bl' r' : List UInt8} (n n' : Int) (z z' : Nat) (hb : ∀ c ∈ bl, isBl c = true) (hr : NoNum r) (hb' : ∀ c ∈ bl', isBl c = true) (hr' : NoNum r') :
    ordG (genS (bl ++ (wrS n z ++ r))) (genS (bl' ++ (wrS n' z' ++ r'))) = ordS (numX n 0 (expS r).1) (numX n' 0 (expS r').1) := by
  rw [genS_num n z hb hr, genS_num n' z' hb' hr']
  unfold ordG
  rw [if_pos rfl]
  simp only
  rw [szS_num n 0 _ _ (fun _ => rfl), szS_num n' 0 _ _ (fun _ => rfl)]

/-! ### the order of such numbers -/
theorem numX_pos {n : Int} (rk x : Int) (h : 0 < n) : numX n rk x = (1, rk, (dec n.natAbs).length + x, tr (dec n.natAbs)) := by
  unfold numX; rw [if_neg (by omega), if_neg (by omega)]
theorem numX_neg {n : Int} (rk x : Int) (h : n < 0) : numX n rk x = (-1, rk, (dec n.natAbs).length + x, tr (dec n.natAbs)) := by
  unfold numX; rw [if_neg (by omega), if_pos (by omega)]
theorem numX_0 (rk x : Int) : numX 0 rk x = (0, 0, 0, []) := by unfold numX; rw [if_pos rfl]
theorem ordS_pp {a b : Int} (i j x y : Int) (ha : 0 < a) (hb : 0 < b) : ordS (numX a i x) (numX b j y) = thn (cmpI i j) (thn (cmpI ((dec a.natAbs).length + x) ((dec b.natAbs).length + y)) (bcmp (tr (dec a.natAbs)) (tr (dec b.natAbs)))) := by
  rw [numX_pos i x ha, numX_pos j y hb]
  unfold ordS
  rw [if_pos ⟨rfl, by simp⟩, orS3]
  simp only
  omega
theorem ordS_nn {a b : Int} (i j x y : Int) (ha : a < 0) (hb : b < 0) : ordS (numX a i x) (numX b j y) = -thn (cmpI i j) (thn (cmpI ((dec a.natAbs).length + x) ((dec b.natAbs).length + y)) (bcmp (tr (dec a.natAbs)) (tr (dec b.natAbs)))) := by
  rw [numX_neg i x ha, numX_neg j y hb]
  unfold ordS
  rw [if_pos ⟨rfl, by simp⟩, orS3]
  simp only
  omega
theorem ordS_num (a b rk x : Int) : ordS (numX a rk x) (numX b rk x) = cmpI a b := by
  rcases Int.lt_trichotomy a 0 with ha | ha | ha <;> rcases Int.lt_trichotomy b 0 with hb | hb | hb
  · rw [ordS_nn rk rk x x ha hb, cmpI_self, thn0, cmpI_add, dec_cmp _ _ (by omega) (by omega), ← cmpI_flip]
    rcases Int.lt_trichotomy a b with h | h | h
    · exact cmpI_of_lt (Or.inl ⟨by omega, h⟩)
    · rw [h, cmpI_self, cmpI_self]
    · exact cmpI_of_lt (Or.inr ⟨by omega, h⟩)
  · subst hb
    rw [numX_neg rk x ha, numX_0, ordS_ne (by simp), cmpI_lt (by simp), cmpI_lt ha]
  · rw [numX_neg rk x ha, numX_pos rk x hb, ordS_ne (by simp), cmpI_lt (by simp), cmpI_lt (by omega)]
  · subst ha
    rw [numX_neg rk x hb, numX_0, ordS_ne (by simp), cmpI_gt (by simp), cmpI_gt hb]
  · subst ha hb
    rw [numX_0, cmpI_self]
    decide
  · subst ha
    rw [numX_pos rk x hb, numX_0, ordS_ne (by simp), cmpI_lt (by simp), cmpI_lt hb]
  · rw [numX_pos rk x ha, numX_neg rk x hb, ordS_ne (by simp), cmpI_gt (by simp), cmpI_gt (by omega)]
  · subst hb
    rw [numX_pos rk x ha, numX_0, ordS_ne (by simp), cmpI_gt (by simp), cmpI_gt ha]
  · rw [ordS_pp rk rk x x ha hb, cmpI_self, thn0, cmpI_add, dec_cmp _ _ (by omega) (by omega)]
    rcases Int.lt_trichotomy a b with h | h | h
    · exact cmpI_of_lt (Or.inl ⟨by omega, h⟩)
    · rw [h, cmpI_self, cmpI_self]
    · exact cmpI_of_lt (Or.inr ⟨by omega, h⟩)
/-! sizes -/
theorem wr_len (n : Int) (z : Nat) (hn : -4611686018427387904 < n ∧ n < 4611686018427387904) : (wrS n z).length ≤ z + 20 := by
  have := dec_len62 (m := n.natAbs) (by omega)
  unfold wrS
  rw [List.length_append, List.length_append, List.length_replicate]
  split <;> simp <;> omega
/-! versions -/
theorem dz_pr (z m : Nat) {r : List UInt8} (hr : ∀ c t, r = c :: t → isDg c = false) : pr1 (dz z m ++ r) = [] ∧ pr2 (dz z m ++ r) = dz z m ∧ pr3 (dz z m ++ r) = r := by
  obtain ⟨c, t, h1, h2⟩ := dz_head z m r
  have h3 : (dz z m ++ r).takeWhile noDg = [] ∧ (dz z m ++ r).dropWhile noDg = dz z m ++ r := by
    rw [h1, List.takeWhile_cons, List.dropWhile_cons, if_neg (by simp [noDg, h2]), if_neg (by simp [noDg, h2])]
    exact ⟨rfl, rfl⟩
  have h4 := tw_app (p := isDg) (dz_dg z m) hr
  unfold pr1 pr2 pr3
  rw [h3.1, h3.2, h4.1, h4.2]
  exact ⟨rfl, rfl, rfl⟩
theorem dz_ne (z m : Nat) : dz z m ≠ [] := fun h => dec_ne m (List.append_eq_nil_iff.1 h).2
theorem rn_dz (z z' m m' : Nat) : rnS (dz z m) (dz z' m') = cmpI (m : Int) (m' : Int) := by
  unfold rnS
  rw [if_neg (by rintro (h | h); exact dz_ne _ _ h; exact dz_ne _ _ h), orS2, dz_tl, dz_tl]
  by_cases h : m = 0
  · subst h
    rw [if_pos rfl]
    by_cases h' : m' = 0
    · subst h'
      rw [if_pos rfl, cmpI_self, thn0, cmpI_self]
      rfl
    · rw [if_neg h']
      have : 0 < (dec m').length := List.length_pos_iff.2 (dec_ne m')
      rw [cmpI_lt (by simp; omega), thn_ne (by decide), cmpI_lt (by omega)]
  · rw [if_neg h]
    have hp : 0 < (dec m).length := List.length_pos_iff.2 (dec_ne m)
    by_cases h' : m' = 0
    · subst h'
      rw [if_pos rfl, cmpI_gt (by simp; omega), thn_ne (by decide), cmpI_gt (by omega)]
    · rw [if_neg h', dec_run (by omega) (by omega)]
end Go.Proofs.YtcdajedmlfhmeaaDoor.XN
end

section
/- Small lemmas for the laws on whole numbers. (by this session) -/
set_option linter.unusedVariables false
set_option linter.unusedSimpArgs false
namespace Go.Proofs.YtcdajedmlfhmeaaDoor.XN
open Go.RowKit Go.Proofs.YtcdajedmlfhmeaaDoorW.PrintWords Go.Proofs.YtcdajedmlfhmeaaDoorW.PrintMore
theorem nonum_of {c : UInt8} {t : List UInt8} (h1 : isDg c = false) (h2 : ¬ (c.toNat : Int) = 46) : NoNum (c :: t) := by
  intro d u e
  injection e with e1 e2
  subst e1
  exact ⟨h1, h2⟩
theorem bl_nil : ∀ c ∈ ([] : List UInt8), isBl c = true := fun c h => by cases h
theorem bl_lit (l : List UInt8) (h : l.all isBl = true) : ∀ c ∈ l, isBl c = true := List.all_eq_true.1 h
theorem Compare_at {kind : Int} {s t : ByteArray} {v : Int} (hs : s.size < 576460752303423488) (ht : t.size < 576460752303423488) (e : cmpS kind s t = v) : Ev (fun k => numeral_Compare.f k kind s t) v := Ev.val (Compare_ev kind s t hs ht) e
theorem cmpS_n (s t : ByteArray) : cmpS 16 s t = ordS (huS 16 s) (huS 16 t) := by unfold cmpS; rw [if_pos (Or.inl rfl)]
theorem cmpS_h (s t : ByteArray) : cmpS 64 s t = ordS (huS 64 s) (huS 64 t) := by unfold cmpS; rw [if_pos (Or.inr rfl)]
theorem cmpS_g (s t : ByteArray) : cmpS 32 s t = ordG (genS (L s)) (genS (L t)) := by unfold cmpS; rw [if_neg (by decide), if_pos rfl]
theorem cmpS_v (s t : ByteArray) : cmpS 256 s t = vrS (L s) (L t) := by unfold cmpS; rw [if_neg (by decide), if_neg (by decide), if_neg (by decide), if_pos rfl]
theorem hu_at {bl r l : List UInt8} (kind : Int) (n : Int) (z : Nat) (e : l = bl ++ (wrS n z ++ r)) (hb : ∀ c ∈ bl, isBl c = true) (hr : NoNum r) : huS kind (mkB l) = numX n (if kind = 16 then 0 else (rkAt r : Int)) 0 :=
  (huS_num kind (mkB l) n z (by rw [L_mk, e]) hb hr).1
theorem vr_num (n m : Nat) (z z' : Nat) : vrS (dz z n) (dz z' m) = cmpI (n : Int) (m : Int) := by
  have h1 := dz_pr z n (r := []) (fun c t e => by cases e)
  have h2 := dz_pr z' m (r := []) (fun c t e => by cases e)
  rw [List.append_nil] at h1 h2
  unfold vrS
  have hl : ∃ j, (dz z n).length + (dz z' m).length + 1 = j + 1 + 1 := by
    have : 0 < (dz z n).length := List.length_pos_iff.2 (dz_ne _ _)
    exact ⟨(dz z n).length + (dz z' m).length - 1, by omega⟩
  obtain ⟨j, hj⟩ := hl
  rw [hj]
  rw [vrF, if_neg (fun h => dz_ne _ _ h.1), h1.1, h2.1, h1.2.1, h2.2.1, h1.2.2, h2.2.2, orS2, rn_dz]
  have e : wdS [] [] = 0 := by simp only [wdS]
  rw [e, thn0]
  split
  · rename_i h
    rw [h, vrF, if_pos ⟨rfl, rfl⟩]
  · rfl
end Go.Proofs.YtcdajedmlfhmeaaDoor.XN
end

section
/- NumeralWhole, the plain law: whole numbers as text compare as numbers do. (by this session) -/
-- NEEDS milllaw3_NumeralWhole
set_option linter.unusedVariables false
set_option linter.unusedSimpArgs false
namespace Go.Proofs.YtcdajedmlfhmeaaDoor.XN
open Go.RowKit Go.Proofs.YtcdajedmlfhmeaaDoorW.PrintWords Go.Proofs.YtcdajedmlfhmeaaDoorW.PrintMore
theorem whole_tail (a b want : Int) (i j : Nat) (ha : -4611686018427387904 < a ∧ a < 4611686018427387904) (hb : -4611686018427387904 < b ∧ b < 4611686018427387904) (hi : i ≤ 40) (hj : j ≤ 40) (hw : cmpI a b = want) :
    Ev (fun k => ((milllaw3_written.f k a (i : Int)).bind fun t528 => ((milllaw3_written.f k b (j : Int)).bind fun t529 => (if t528.size + 1 ≤ 9223372036854775807 then (if 2 + t529.size ≤ 9223372036854775807 then (if (2 + t529.size) + 1 ≤ 9223372036854775807 then ((numeral_Compare.f k 16 (t528 ++ (⟨#[120]⟩ : ByteArray)) (((⟨#[32, 32]⟩ : ByteArray) ++ t529) ++ (⟨#[47]⟩ : ByteArray))).bind fun t530 => (if t530 = want then (if 1 + t528.size ≤ 9223372036854775807 then (if (1 + t528.size) + 1 ≤ 9223372036854775807 then (if t529.size + 1 ≤ 9223372036854775807 then ((numeral_Compare.f k 32 (((⟨#[9]⟩ : ByteArray) ++ t528) ++ (⟨#[120]⟩ : ByteArray)) (t529 ++ (⟨#[47]⟩ : ByteArray))).bind fun t531 => (if t531 = want then (if 1 + t529.size ≤ 9223372036854775807 then (if (1 + t529.size) + 1 ≤ 9223372036854775807 then ((numeral_Compare.f k 64 (t528 ++ (⟨#[120]⟩ : ByteArray)) (((⟨#[32]⟩ : ByteArray) ++ t529) ++ (⟨#[47]⟩ : ByteArray))).bind fun t532 => (if t532 = want then (if a < 0 then (some true) else (if b < 0 then (some true) else ((numeral_Compare.f k 256 t528 t529).bind fun t533 => (some (t533 == want))))) else (some false))) else (none)) else (none)) else (some false))) else (none)) else (none)) else (none)) else (some false))) else (none)) else (none)) else (none))))) true := by
  have la := wr_len a i ha
  have lb := wr_len b j hb
  refine Ev.bind (written_ev a i ha (by omega)) (Ev.bind (written_ev b j hb (by omega)) ?_)
  simp only [lit_mk, mk_append, size_mk]
  have nx : NoNum [120] := nonum_of (by decide) (by decide)
  have ns : NoNum [47] := nonum_of (by decide) (by decide)
  refine Ev.pos (by omega) (Ev.pos (by omega) (Ev.pos (by omega) (Ev.bind (v := true) (Compare_at (v := want) (by rw [size_mk]; simp; omega) (by rw [size_mk]; simp; omega) ?_) ?_)))
  · have e1 := hu_at (bl := []) (r := [120]) (l := wrS a i ++ [120]) 16 a i rfl bl_nil nx
    have e2 := hu_at (bl := [32, 32]) (r := [47]) (l := [32, 32] ++ wrS b j ++ [47]) 16 b j (by simp) (bl_lit _ (by decide)) ns
    rw [cmpS_n, e1, e2, if_pos rfl, if_pos rfl, ordS_num]
    exact hw
  refine Ev.pos rfl (Ev.pos (by omega) (Ev.pos (by omega) (Ev.pos (by omega) (Ev.bind (v := true) (Compare_at (v := want) (by rw [size_mk]; simp; omega) (by rw [size_mk]; simp; omega) ?_) ?_))))
  · rw [cmpS_g, L_mk, L_mk]
    have := ordG_num (bl := [9]) (r := [120]) (bl' := []) (r' := [47]) a b i j (bl_lit _ (by decide)) nx bl_nil ns
    rw [show (expS [120]).1 = 0 by decide +kernel, show (expS [47]).1 = 0 by decide +kernel, ordS_num] at this
    simp only [List.nil_append, List.append_assoc] at this ⊢
    rw [this]
    exact hw
  refine Ev.pos rfl (Ev.pos (by omega) (Ev.pos (by omega) (Ev.bind (v := true) (Compare_at (v := want) (by rw [size_mk]; simp; omega) (by rw [size_mk]; simp; omega) ?_) ?_)))
  · have e1 := hu_at (bl := []) (r := [120]) (l := wrS a i ++ [120]) 64 a i rfl bl_nil nx
    have e2 := hu_at (bl := [32]) (r := [47]) (l := [32] ++ wrS b j ++ [47]) 64 b j (by simp) (bl_lit _ (by decide)) ns
    rw [cmpS_h, e1, e2, show rkAt [120] = 0 by decide, show rkAt [47] = 0 by decide, ordS_num]
    exact hw
  refine Ev.pos rfl (Ev.ite (fun h => Ev.pure _) (fun h => Ev.ite (fun h' => Ev.pure _) (fun h' => ?_)))
  refine Ev.bind (Compare_at (v := want) (by rw [size_mk]; omega) (by rw [size_mk]; omega) ?_) (Ev.done (by simp))
  rw [cmpS_v, L_mk, L_mk, wr_dz, wr_dz]
  have e1 : sgl (decide (a < 0)) = [] := by simp [sgl]; omega
  have e2 : sgl (decide (b < 0)) = [] := by simp [sgl]; omega
  rw [e1, e2, List.nil_append, List.nil_append, vr_num, ← hw]
  rw [show ((a.natAbs : Nat) : Int) = a by omega, show ((b.natAbs : Nat) : Int) = b by omega]
theorem NumeralWhole_ev (a b i j : Int) : Ev (fun k => milllaw3_NumeralWhole.f k a b i j) true := by
  unfold milllaw3_NumeralWhole.f
  refine Ev.ite (fun _ => Ev.pure _) (fun h1 => Ev.ite (fun _ => Ev.pure _) (fun h2 => Ev.ite (fun _ => Ev.pure _) (fun h3 => Ev.ite (fun _ => Ev.pure _) (fun h4 => Ev.ite (fun _ => Ev.pure _) (fun h5 => Ev.ite (fun _ => Ev.pure _) (fun h6 => Ev.ite (fun _ => Ev.pure _) (fun h7 => Ev.ite (fun _ => Ev.pure _) (fun h8 => ?_))))))))
  obtain ⟨i, rfl⟩ := Int.eq_ofNat_of_zero_le (show 0 ≤ i by omega)
  obtain ⟨j, rfl⟩ := Int.eq_ofNat_of_zero_le (show 0 ≤ j by omega)
  refine Ev.ite (fun h9 => Ev.neg (by omega) ?_) (fun h9 => Ev.ite (fun h10 => ?_) (fun h10 => ?_))
  · exact whole_tail a b (-1) i j (by omega) (by omega) (by omega) (by omega) (cmpI_lt h9)
  · exact whole_tail a b 1 i j (by omega) (by omega) (by omega) (by omega) (cmpI_gt (by omega))
  · exact whole_tail a b 0 i j (by omega) (by omega) (by omega) (by omega) (by rw [show a = b by omega, cmpI_self])
end Go.Proofs.YtcdajedmlfhmeaaDoor.XN
namespace Go.Proofs.YtcdajedmlfhmeaaDoor.Pure
theorem NumeralWhole : XN.milllaw3_NumeralWhole.Pure := fun a b i j _ _ _ _ => (XN.NumeralWhole_ev a b i j).ex
end Go.Proofs.YtcdajedmlfhmeaaDoor.Pure
end

section
/- The card of NumeralWhole: the law answers true at every input. Conditions: none beyond the row's own. -/
set_option linter.unusedVariables false
set_option linter.unusedSimpArgs false
namespace Go.Proofs.YtcdajedmlfhmeaaDoor.numeralWhole
open Go.ChangeShapes Go.WideShapes Go.ChangeAt Go.RowKit
open Go.ChangeMaps (open_string shut_string)
theorem own : ownKnob Tryd.prog.godebug = none := by kernel_rfl
set_option maxRecDepth 100000 in
/-- What the walk gives, at every argument and every world that holds the listed variables. -/
theorem contract (H : Type) (enc : TypeId × Value → H) (W : World) (args : Array Value) (ds gs : List (DataW H)) (before : List MemPlace) (base : Nat)
    (hval0 : ∀ (j : Nat) t v, Tryd.f8.params[j]? = some t → args[j]? = some v → Value.okWide Tryd.prog W .any base t v)
    (hW : DataW.Whole enc Tryd.prog Tryd.f8.params.toList Rows.numeralWholeSpec.vars false W args.toList ds gs before)
    (hsz0 : (DataW.weightsEach Tryd.prog (Tryd.f8.params.toList ++ Rows.numeralWholeSpec.plain.varTypes Tryd.prog) (ds ++ gs)).all (· ≤ reachBytes) = true)
    (hL : laidMetH Tryd.prog Rows.numeralWholeRow.laid W) (hS : W.ShapedOpen Tryd.prog) :
    Calls Tryd.prog 8 args W fun e W' => ∃ v, e = .returned v ∧ Rows.numeralWholeSpec.post enc Tryd.prog Tryd.f8 false true false false W args v W' := by
  have hGL : XN.GOK W := XN.gok_of hL (by kernel_rfl) hS 1 2 rfl rfl
  have hsz : (DataW.weightsEach Tryd.prog (Tryd.f8.params.toList ++ Rows.numeralWholeSpec.plain.varTypes Tryd.prog) (ds ++ gs)).all (· ≤ reachBytes) = true := hsz0
  have hval : ∀ (j : Nat) t v, Tryd.f8.params[j]? = some t → args[j]? = some v → Value.okWide Tryd.prog W .any base t v := hval0
  have hW' := hW
  obtain ⟨p, q, hA0, hV, rfl, hfz, hnd⟩ := hW
  have hA : DataW.TrodAll enc Tryd.prog W 0 (fun _ => true) true Tryd.f8.params.toList args.toList ds p := hA0
  rw [Tryd.params8] at hA hval hsz
  obtain ⟨v0, vs0, d0, ds0, p0, q0, hargs, rfl, rfl, h0, r0⟩ := trodAll_cons hA
  obtain ⟨v1, vs1, d1, ds1, p1, q1, rfl, rfl, rfl, h1, r1⟩ := trodAll_cons r0
  obtain ⟨v2, vs2, d2, ds2, p2, q2, rfl, rfl, rfl, h2, r2⟩ := trodAll_cons r1
  obtain ⟨v3, vs3, d3, ds3, p3, q3, rfl, rfl, rfl, h3, r3⟩ := trodAll_cons r2
  obtain ⟨rfl, rfl, rfl⟩ := trodAll_nil r3
  obtain rfl : args = #[v0, v1, v2, v3] := by cases args; simp_all
  obtain ⟨rfl, rfl⟩ := trodVars_none hV
  obtain ⟨a0, rfl, rfl, rfl, w0⟩ := open_int Tryd.underlying3 (hval 0 3 v0 rfl rfl) h0
  obtain ⟨a1, rfl, rfl, rfl, w1⟩ := open_int Tryd.underlying3 (hval 1 3 v1 rfl rfl) h1
  obtain ⟨a2, rfl, rfl, rfl, w2⟩ := open_int Tryd.underlying3 (hval 2 3 v2 rfl rfl) h2
  obtain ⟨a3, rfl, rfl, rfl, w3⟩ := open_int Tryd.underlying3 (hval 3 3 v3 rfl rfl) h3
  clear hA0 hval0 hsz0 hsz
  refine (XN.milllaw3_NumeralWhole.walk Pure.NumeralWhole a0 a1 a2 a3 W hGL w0 w1 w2 w3).mono fun e W' ⟨he, bel⟩ => ?_
  subst he
  exact ⟨_, rfl, _, _, _, [], _, [], hW', trodAll_mk1 (shut_bool Tryd.underlying4 _), (trodAll_cons_mk (shut_int Tryd.underlying3 w0) (trodAll_cons_mk (shut_int Tryd.underlying3 w1) (trodAll_cons_mk (shut_int Tryd.underlying3 w2) (trodAll_cons_mk (shut_int Tryd.underlying3 w3) trodAll_mk0)))), rfl, bel.frame _, fun h => by cases h⟩
set_option maxRecDepth 100000 in
theorem lifted (os : Os) (started : os.Started) (H : Type) (enc : TypeId × Value → H) (F : Stop.Interp) :
    ReturnsInHanded {} Tryd.checked os 8 .any ((OpenSpec.ofChange Rows.numeralWholeSpec).preRow enc Tryd.prog Tryd.f8 Rows.numeralWholeRow.domain false Rows.numeralWholeRow.laid) (((OpenSpec.ofChange Rows.numeralWholeSpec).at F).post enc Tryd.prog Tryd.f8 false true false false) := by
  have hx : ∃ places, DataW.whole enc Tryd.prog ((World.laidAll Tryd.prog os Rows.numeralWholeRow.laid).forCall (fun _ _ => 0) ⟨#[], #[.int .i64 0, .int .i64 0, .int .i64 0, .int .i64 0], []⟩).memory Tryd.f8.params.toList Rows.numeralWholeSpec.vars false (#[.int .i64 0, .int .i64 0, .int .i64 0, .int .i64 0] : Array Value).toList 8 = some ([.lit (.int .i64 0), .lit (.int .i64 0), .lit (.int .i64 0), .lit (.int .i64 0)], [], places) :=
    ⟨[], by kernel_rfl⟩
  obtain ⟨places, hx⟩ := hx
  refine returnsInHanded_of_row (C := Tryd.checked) (s := (OpenSpec.ofChange Rows.numeralWholeSpec)) own started (by kernel_rfl) Tryd.func8
    (witness_row_at (enc := enc) (C := Tryd.checked) false (World.laidAll Tryd.prog os Rows.numeralWholeRow.laid) #[.int .i64 0, .int .i64 0, .int .i64 0, .int .i64 0] (World.laidAll_os _ _ _) (by kernel_rfl) (by kernel_rfl) (by kernel_rfl)
      (OpenSpec.preRow_of_cond 8 hx (by kernel_rfl) (fun k hk => by cases hk) (by kernel_rfl) (laidMet_laidAll _ (by kernel_rfl) (by kernel_rfl)))) ?_
  intro W base args ds gs before hval hW _ _ hsz hL hS _
  exact contract H enc W args ds gs before base hval hW hsz hL hS
theorem said : Rows.NumeralWholeSaid :=
  OpenClaim.holds_of_cond 8 Tryd.f8 rfl rfl rfl rfl rfl rfl rfl ⟨rfl, rfl, rfl, rfl, rfl⟩ rfl rfl rfl rfl rfl (by kernel_rfl) Tryd.func8 (by kernel_rfl)
    (of_decide_eq_true (by kernel_rfl)) (by unfold Func.isWrapper; first | (rw [if_pos (by decide +kernel)]; kernel_rfl) | (rw [if_neg (by decide +kernel)]; exact ⟨rfl, rfl⟩))
    (fun os started H enc _ F => by rw [OpenClaim.pre_eq_preRow]; exact lifted os started H enc F)
theorem plain (f : FuncId) (fn : Func) (hf : Tryd.pinned.checked.prog.funcNamed "mill/milllaw3.NumeralWhole" = some f) (hfn : Tryd.pinned.checked.prog.funcs[f]? = some fn) :
    false = Tryd.pinned.checked.prog.looks [] ∧ ∀ (j : Nat) t, fn.params[j]? = some t → Tryd.pinned.checked.prog.wantsStandIn t = false := by
  obtain rfl : f = 8 := Option.some.inj ((show Tryd.prog.funcNamed "mill/milllaw3.NumeralWhole" = some 8 by kernel_rfl).symm.trans hf) |>.symm
  obtain rfl : fn = Tryd.f8 := (Option.some.inj (Tryd.func8.symm.trans hfn)).symm
  refine ⟨by kernel_rfl, fun j t ht => ?_⟩
  rw [Tryd.params8] at ht
  have hm := Array.mem_of_getElem? ht
  simp only [List.mem_toArray, List.mem_cons, List.not_mem_nil, or_false] at hm
  rcases hm with rfl | rfl | rfl | rfl
  · exact (show Tryd.prog.wantsStandIn 3 = false by kernel_rfl)
  · exact (show Tryd.prog.wantsStandIn 3 = false by kernel_rfl)
  · exact (show Tryd.prog.wantsStandIn 3 = false by kernel_rfl)
  · exact (show Tryd.prog.wantsStandIn 3 = false by kernel_rfl)
theorem card : Rows.NumeralWholeCardSaid :=
  Claim7.holds_tied_plain_at .later [] _ _ _ _ said (fun _ h => by cases h) (by kernel_rfl) (fun _ h => by cases h) numeralWhole_row_tie rfl ⟨rfl, rfl⟩ (by kernel_rfl) rfl plain (by kernel_rfl)
#print axioms card
end Go.Proofs.YtcdajedmlfhmeaaDoor.numeralWhole
namespace Go.Proofs.YtcdajedmlfhmeaaDoor
/-- The card, under a short name, for the claim. -/
theorem numeralWhole_card : Rows.NumeralWholeCardSaid := numeralWhole.card
end Go.Proofs.YtcdajedmlfhmeaaDoor
end
