/- The card of NumeralEmbedding (second form): the law answers true at every input up to the given bulk. Conditions: none beyond the row's own. -/
import Derived.Test.YtcdajedmlfhmeaaDoorZNE0
import Derived.Test.YtcdajedmlfhmeaaDoorZNE10
import Derived.Test.YtcdajedmlfhmeaaDoorZNE7
import Derived.Test.YtcdajedmlfhmeaaDoorZNE8
import Derived.Test.YtcdajedmlfhmeaaDoorZNE9
import Derived.Test.YtcdajedmlfhmeaaDoorZNE1
import Derived.Test.YtcdajedmlfhmeaaDoorCards
import Derived.Test.YtcdajedmlfhmeaaDoorTie
import Derived.WalkKit
import Derived.ProofKit
import Derived.OpenShut
import Derived.ShutString
import Derived.ChangeOld
import Derived.Below
import Derived.SizedLaws
import Derived.Deep.DeepHandedRow
import Derived.Lib.LaidTab
import Derived.Lay
import Derived.MakeChecks
import Derived.LaidSub
section
/- Byte strings whose bytewise order is a given order: the plain theory. (by this session) -/
set_option linter.unusedVariables false
set_option linter.unusedSimpArgs false
namespace Go.Proofs.YtcdajedmlfhmeaaDoor.XN
open Go.RowKit Go.Proofs.YtcdajedmlfhmeaaDoorW.PrintWords Go.Proofs.YtcdajedmlfhmeaaDoorW.PrintMore

theorem bcmp_nn : bcmp [] [] = 0 := rfl
theorem bcmp_nc (b : UInt8) (m : List UInt8) : bcmp [] (b :: m) = -1 := rfl
theorem bcmp_cn (a : UInt8) (l : List UInt8) : bcmp (a :: l) [] = 1 := rfl
theorem bcmp_cc (a b : UInt8) (l m : List UInt8) : bcmp (a :: l) (b :: m) = if a < b then -1 else if b < a then 1 else bcmp l m := rfl
theorem u8_tri (a b : UInt8) : a < b ∨ b < a ∨ a = b := by
  rcases Nat.lt_trichotomy a.toNat b.toNat with h | h | h
  · exact Or.inl (UInt8.lt_iff_toNat_lt.2 h)
  · exact Or.inr (Or.inr (UInt8.toNat_inj.1 h))
  · exact Or.inr (Or.inl (UInt8.lt_iff_toNat_lt.2 h))
theorem u8_asym {a b : UInt8} (h : a < b) : ¬ b < a := by rw [UInt8.lt_iff_toNat_lt] at *; omega
theorem u8_irr (a : UInt8) : ¬ a < a := UInt8.lt_irrefl a
theorem u8_ne {a b : UInt8} (h : a < b) : a ≠ b := fun e => u8_irr b (e ▸ h)
theorem bcmp_self : ∀ l, bcmp l l = 0
  | [] => rfl
  | a :: l => by rw [bcmp_cc, if_neg (u8_irr a), if_neg (u8_irr a), bcmp_self l]
theorem bcmp_zero : ∀ {l m}, bcmp l m = 0 → l = m
  | [], [], _ => rfl
  | [], b :: m, h => by rw [bcmp_nc] at h; omega
  | a :: l, [], h => by rw [bcmp_cn] at h; omega
  | a :: l, b :: m, h => by
    rw [bcmp_cc] at h
    rcases u8_tri a b with h1 | h1 | h1
    · rw [if_pos h1] at h; omega
    · rw [if_neg (u8_asym h1), if_pos h1] at h; omega
    · subst h1
      rw [if_neg (u8_irr a), if_neg (u8_irr a)] at h
      rw [bcmp_zero h]
/-- They part at a place that both have. -/
def dv : List UInt8 → List UInt8 → Bool
  | a :: l, b :: m => if a = b then dv l m else true
  | _, _ => false
theorem dv_cc (a b : UInt8) (l m : List UInt8) : dv (a :: l) (b :: m) = if a = b then dv l m else true := rfl
theorem dv_app : ∀ {l m} (x y : List UInt8), dv l m = true → dv (l ++ x) (m ++ y) = true ∧ bcmp (l ++ x) (m ++ y) = bcmp l m
  | [], _, x, y, h => by simp [dv] at h
  | a :: l, [], x, y, h => by simp [dv] at h
  | a :: l, b :: m, x, y, h => by
    simp only [List.cons_append]
    rw [bcmp_cc, bcmp_cc]
    unfold dv at h ⊢
    by_cases e : a = b
    · subst e
      rw [if_pos rfl] at h ⊢
      have := dv_app (l := l) (m := m) x y h
      refine ⟨this.1, ?_⟩
      rw [this.2]
    · rw [if_neg e]
      refine ⟨rfl, ?_⟩
      rcases u8_tri a b with h1 | h1 | h1
      · rw [if_pos h1, if_pos h1]
      · rw [if_neg (u8_asym h1), if_pos h1, if_neg (u8_asym h1), if_pos h1]
      · exact absurd h1 e
theorem dv_pre : ∀ (p : List UInt8) (x y : List UInt8), dv (p ++ x) (p ++ y) = dv x y ∧ bcmp (p ++ x) (p ++ y) = bcmp x y
  | [], x, y => ⟨rfl, rfl⟩
  | a :: p, x, y => by
    simp only [List.cons_append]
    rw [bcmp_cc, if_neg (u8_irr a), if_neg (u8_irr a), dv_cc, if_pos rfl]
    exact dv_pre p x y
theorem dv_no : ∀ {l m : List UInt8}, dv l m = true → ¬ l <+: m ∧ ¬ m <+: l
  | [], _, h => by simp [dv] at h
  | a :: l, [], h => by simp [dv] at h
  | a :: l, b :: m, h => by
    unfold dv at h
    constructor
    · rintro ⟨t, ht⟩
      simp only [List.cons_append, List.cons.injEq] at ht
      rw [if_pos ht.1] at h
      exact (dv_no h).1 ⟨t, ht.2⟩
    · rintro ⟨t, ht⟩
      simp only [List.cons_append, List.cons.injEq] at ht
      rw [if_pos ht.1.symm] at h
      exact (dv_no h).2 ⟨t, ht.2⟩
theorem dv_ne : ∀ {l m : List UInt8}, l.length = m.length → l ≠ m → dv l m = true
  | [], [], _, h => absurd rfl h
  | [], b :: m, h, _ => by simp at h
  | a :: l, [], h, _ => by simp at h
  | a :: l, b :: m, h, hne => by
    unfold dv
    by_cases e : a = b
    · rw [if_pos e]
      exact dv_ne (by simpa using h) (fun h' => hne (by rw [e, h']))
    · rw [if_neg e]
/-- c is how l and m compare, and neither is a proper beginning of the other. -/
def Cp (c : Int) (l m : List UInt8) : Prop := (c = 0 ∧ l = m) ∨ (c ≠ 0 ∧ dv l m = true ∧ bcmp l m = c)
theorem Cp.out {c : Int} {l m : List UInt8} (h : Cp c l m) : bcmp l m = c := by
  rcases h with ⟨h1, h2⟩ | ⟨_, _, h⟩
  · rw [h1, h2, bcmp_self]
  · exact h
theorem Cp.free {c : Int} {l m : List UInt8} (h : Cp c l m) (hne : l ≠ m) : ¬ l <+: m ∧ ¬ m <+: l := by
  rcases h with ⟨h1, h2⟩ | ⟨_, h, _⟩
  · exact absurd h2 hne
  · exact dv_no h
theorem Cp.val {c d : Int} {l m : List UInt8} (h : Cp c l m) (e : c = d) : Cp d l m := e ▸ h
theorem Cp.refl (l : List UInt8) : Cp 0 l l := Or.inl ⟨rfl, rfl⟩
/-- The first that isn't 0. -/
def thn (c d : Int) : Int := if c = 0 then d else c
theorem Cp.app {c d : Int} {l m x y : List UInt8} (h : Cp c l m) (k : Cp d x y) : Cp (thn c d) (l ++ x) (m ++ y) := by
  unfold thn
  rcases h with ⟨h1, h2⟩ | ⟨h1, h2, h3⟩
  · subst h2
    rw [if_pos h1]
    rcases k with ⟨k1, k2⟩ | ⟨k1, k2, k3⟩
    · exact Or.inl ⟨k1, by rw [k2]⟩
    · exact Or.inr ⟨k1, by rw [(dv_pre l x y).1]; exact k2, by rw [(dv_pre l x y).2]; exact k3⟩
  · rw [if_neg h1]
    have := dv_app x y h2
    exact Or.inr ⟨h1, this.1, by rw [this.2]; exact h3⟩
/-- Where they part, what follows is of no weight. -/
theorem Cp.app0 {c : Int} {l m : List UInt8} (h : Cp c l m) (h0 : c ≠ 0) (x y : List UInt8) : Cp c (l ++ x) (m ++ y) := by
  rcases h with ⟨h1, h2⟩ | ⟨h1, h2, h3⟩
  · exact absurd h1 h0
  · have := dv_app x y h2
    exact Or.inr ⟨h1, this.1, by rw [this.2]; exact h3⟩
theorem Cp.eqlen {l m : List UInt8} (h : l.length = m.length) : Cp (bcmp l m) l m := by
  by_cases e : l = m
  · subst e; rw [bcmp_self]; exact Cp.refl l
  · exact Or.inr ⟨fun h0 => e (bcmp_zero h0), dv_ne h e, rfl⟩
def toB (x : Int) : UInt8 := UInt8.ofNat x.toNat
theorem toB_nat {x : Int} (h : 0 ≤ x ∧ x < 256) : ((toB x).toNat : Int) = x := by
  unfold toB
  rw [UInt8.toNat_ofNat']
  omega
theorem cmpI_lt {a b : Int} (h : a < b) : cmpI a b = -1 := by unfold cmpI; rw [if_pos h]
theorem cmpI_gt {a b : Int} (h : b < a) : cmpI a b = 1 := by unfold cmpI; rw [if_neg (by omega), if_pos h]
theorem cmpI_add (a b c : Int) : cmpI (a + c) (b + c) = cmpI a b := by
  rcases Int.lt_trichotomy a b with h | h | h
  · rw [cmpI_lt h, cmpI_lt (by omega)]
  · rw [h]; unfold cmpI; rw [if_neg (by omega), if_neg (by omega), if_neg (by omega), if_neg (by omega)]
  · rw [cmpI_gt h, cmpI_gt (by omega)]
theorem bcmp_1 (a b : UInt8) : bcmp [a] [b] = cmpI (a.toNat : Int) (b.toNat : Int) := by
  rw [bcmp_cc, bcmp_nn]
  rcases u8_tri a b with h | h | h
  · rw [if_pos h]
    rw [UInt8.lt_iff_toNat_lt] at h
    rw [cmpI_lt (by omega)]
  · rw [if_neg (u8_asym h), if_pos h]
    rw [UInt8.lt_iff_toNat_lt] at h
    rw [cmpI_gt (by omega)]
  · subst h
    rw [if_neg (u8_irr a), if_neg (u8_irr a)]
    unfold cmpI
    rw [if_neg (by omega), if_neg (by omega)]
theorem Cp.byte {x y : Int} (hx : 0 ≤ x ∧ x < 256) (hy : 0 ≤ y ∧ y < 256) : Cp (cmpI x y) [toB x] [toB y] := by
  have := Cp.eqlen (l := [toB x]) (m := [toB y]) rfl
  rw [bcmp_1, toB_nat hx, toB_nat hy] at this
  exact this
theorem cmpI_self (a : Int) : cmpI a a = 0 := by unfold cmpI; rw [if_neg (by omega), if_neg (by omega)]
theorem cmpI_zero {a b : Int} (h : cmpI a b = 0) : a = b := by
  unfold cmpI at h
  split at h
  · omega
  · split at h
    · omega
    · omega
/-- The k bytes of a number, the highest first. -/
def bee : Nat → Nat → List UInt8
  | 0, _ => []
  | k + 1, n => UInt8.ofNat (n / 256 ^ k % 256) :: bee k n
theorem bee_len : ∀ k n, (bee k n).length = k
  | 0, _ => rfl
  | k + 1, n => by unfold bee; rw [List.length_cons, bee_len k]
theorem bee_cmp : ∀ (k a b : Nat), bcmp (bee k a) (bee k b) = cmpI ((a % 256 ^ k : Nat) : Int) ((b % 256 ^ k : Nat) : Int)
  | 0, a, b => by simp [bee, Nat.mod_one, bcmp_nn, cmpI_self]
  | k + 1, a, b => by
    have ih := bee_cmp k a b
    unfold bee
    rw [bcmp_cc, ih]
    have ha : a % 256 ^ (k + 1) = a % 256 ^ k + 256 ^ k * (a / 256 ^ k % 256) := Nat.mod_pow_succ
    have hb : b % 256 ^ (k + 1) = b % 256 ^ k + 256 ^ k * (b / 256 ^ k % 256) := Nat.mod_pow_succ
    have hp : 0 < 256 ^ k := Nat.pow_pos (by decide)
    have la := Nat.mod_lt a hp
    have lb := Nat.mod_lt b hp
    rw [ha, hb]
    have l256a : a / 256 ^ k % 256 < 256 := Nat.mod_lt _ (by decide)
    have l256b : b / 256 ^ k % 256 < 256 := Nat.mod_lt _ (by decide)
    simp only [UInt8.lt_iff_toNat_lt, UInt8.toNat_ofNat']
    generalize a / 256 ^ k % 256 = x at *
    generalize b / 256 ^ k % 256 = y at *
    generalize 256 ^ k = P at *
    generalize a % P = u at *
    generalize b % P = v at *
    rw [Nat.mod_eq_of_lt (a := x) (by omega), Nat.mod_eq_of_lt (a := y) (by omega)]
    rcases Nat.lt_trichotomy x y with h | h | h
    · rw [if_pos h]
      have h1 : P * (x + 1) ≤ P * y := Nat.mul_le_mul_left _ h
      rw [Nat.mul_add, Nat.mul_one] at h1
      rw [cmpI_lt (by omega)]
    · subst h
      rw [if_neg (by omega), if_neg (by omega), Int.natCast_add, Int.natCast_add, cmpI_add]
    · rw [if_neg (by omega), if_pos h]
      have h1 : P * (y + 1) ≤ P * x := Nat.mul_le_mul_left _ h
      rw [Nat.mul_add, Nat.mul_one] at h1
      rw [cmpI_gt (by omega)]
def e8 (n : Nat) : List UInt8 := bee 8 n
theorem Cp.e8 {a b : Nat} (ha : a < 18446744073709551616) (hb : b < 18446744073709551616) : Cp (cmpI (a : Int) (b : Int)) (e8 a) (e8 b) := by
  have := Cp.eqlen (l := bee 8 a) (m := bee 8 b) (by rw [bee_len, bee_len])
  rw [bee_cmp, Nat.mod_eq_of_lt (a := a) (by have : 256 ^ 8 = 18446744073709551616 := by decide
                                             omega), Nat.mod_eq_of_lt (a := b) (by have : 256 ^ 8 = 18446744073709551616 := by decide
                                                                                   omega)] at this
  exact this
theorem bcmp_thn (a b : UInt8) (l m : List UInt8) : bcmp (a :: l) (b :: m) = thn (bcmp [a] [b]) (bcmp l m) := by
  rw [bcmp_cc, bcmp_cc, bcmp_nn]
  unfold thn
  rcases u8_tri a b with h | h | h
  · rw [if_pos h, if_pos h, if_neg (by decide)]
  · have h' := u8_asym h
    rw [if_neg h', if_pos h, if_neg h', if_pos h, if_neg (by decide)]
  · subst h
    have h' := u8_irr a
    rw [if_neg h', if_neg h', if_neg h', if_neg h', if_pos rfl]
/-- Bytes that are no 0, closed by a 0. -/
theorem Cp.closed : ∀ {l m : List UInt8}, (∀ c ∈ l, c ≠ 0) → (∀ c ∈ m, c ≠ 0) → Cp (bcmp l m) (l ++ [0]) (m ++ [0])
  | [], [], _, _ => Cp.refl _
  | [], b :: m, _, hb => by
    have h0 : (0 : UInt8) < b := by
      rcases u8_tri 0 b with h | h | h
      · exact h
      · rw [UInt8.lt_iff_toNat_lt] at h; simp at h
      · exact absurd h.symm (hb b (by simp))
    refine Or.inr ⟨by rw [bcmp_nc]; decide, ?_, ?_⟩
    · simp only [List.nil_append, List.cons_append, dv]
      rw [if_neg (u8_ne h0)]
    · simp only [List.nil_append, List.cons_append, bcmp_cc]
      rw [if_pos h0, bcmp_nc]
  | a :: l, [], ha, _ => by
    have h0 : (0 : UInt8) < a := by
      rcases u8_tri 0 a with h | h | h
      · exact h
      · rw [UInt8.lt_iff_toNat_lt] at h; simp at h
      · exact absurd h.symm (ha a (by simp))
    refine Or.inr ⟨by rw [bcmp_cn]; decide, ?_, ?_⟩
    · simp only [List.nil_append, List.cons_append, dv]
      rw [if_neg (fun h => u8_ne h0 h.symm)]
    · simp only [List.nil_append, List.cons_append, bcmp_cc]
      rw [if_neg (u8_asym h0), if_pos h0, bcmp_cn]
  | a :: l, b :: m, ha, hb => by
    have ih := Cp.closed (l := l) (m := m) (fun c hc => ha c (by simp [hc])) (fun c hc => hb c (by simp [hc]))
    have h1 := Cp.app (Cp.eqlen (l := [a]) (m := [b]) rfl) ih
    exact h1.val (bcmp_thn a b l m).symm
def cpl (c : UInt8) : UInt8 := 255 - c
theorem cpl_nat (c : UInt8) : (cpl c).toNat = 255 - c.toNat := by
  have : ∀ c : UInt8, (cpl c).toNat = 255 - c.toNat := all8 (by decide +kernel)
  exact this c
theorem cpl_lt (a b : UInt8) : cpl a < cpl b ↔ b < a := by
  rw [UInt8.lt_iff_toNat_lt, UInt8.lt_iff_toNat_lt, cpl_nat, cpl_nat]
  have := a.toNat_lt
  have := b.toNat_lt
  omega
theorem cpl_inj {a b : UInt8} : cpl a = cpl b ↔ a = b := by
  constructor
  · intro h
    have := congrArg UInt8.toNat h
    rw [cpl_nat, cpl_nat] at this
    have h1 := a.toNat_lt
    have h2 := b.toNat_lt
    exact UInt8.toNat_inj.1 (by omega)
  · intro h; rw [h]
theorem cpl_dv : ∀ (l m : List UInt8), dv l m = true → dv (l.map cpl) (m.map cpl) = true ∧ bcmp (l.map cpl) (m.map cpl) = -bcmp l m
  | [], _, h => by simp [dv] at h
  | a :: l, [], h => by simp [dv] at h
  | a :: l, b :: m, h => by
    simp only [List.map_cons]
    rw [bcmp_cc, bcmp_cc]
    unfold dv at h ⊢
    simp only [cpl_lt, cpl_inj]
    by_cases e : a = b
    · subst e
      rw [if_pos rfl] at h ⊢
      rw [if_neg (u8_irr a), if_neg (u8_irr a)]
      have := cpl_dv l m h
      exact ⟨this.1, by rw [if_neg (u8_irr a), if_neg (u8_irr a)]; exact this.2⟩
    · rw [if_neg e]
      refine ⟨rfl, ?_⟩
      rcases u8_tri a b with h1 | h1 | h1
      · rw [if_neg (u8_asym h1), if_pos h1, if_pos h1]; rfl
      · rw [if_pos h1, if_neg (u8_asym h1), if_pos h1]
      · exact absurd h1 e
theorem Cp.neg {c : Int} {l m : List UInt8} (h : Cp c l m) : Cp (-c) (l.map cpl) (m.map cpl) := by
  rcases h with ⟨h1, h2⟩ | ⟨h1, h2, h3⟩
  · exact Or.inl ⟨by omega, by rw [h2]⟩
  · have := cpl_dv l m h2
    exact Or.inr ⟨by omega, this.1, by rw [this.2, h3]⟩
end Go.Proofs.YtcdajedmlfhmeaaDoor.XN
end

section
/- Each kind's order is the bytewise order of its embedding: the plain theory. (by this session) -/
set_option linter.unusedVariables false
set_option linter.unusedSimpArgs false
namespace Go.Proofs.YtcdajedmlfhmeaaDoor.XN
open Go.RowKit Go.Proofs.YtcdajedmlfhmeaaDoorW.PrintWords Go.Proofs.YtcdajedmlfhmeaaDoorW.PrintMore

theorem orS2 (x y : Int) : orS [x, y] = thn x y := by
  unfold thn
  simp only [orS]
  split
  · split <;> omega
  · rfl
theorem orS3 (x y z : Int) : orS [x, y, z] = thn x (thn y z) := by
  unfold thn
  simp only [orS]
  split
  · split
    · split <;> omega
    · rfl
  · rfl
theorem thn0 (y : Int) : thn 0 y = y := by unfold thn; rw [if_pos rfl]
theorem thn_ne {x y : Int} (h : x ≠ 0) : thn x y = x := by unfold thn; rw [if_neg h]

/-! ### numbers -/
def zb (le : Bool) (z : Sz) : List UInt8 := (if le = true then [toB z.2.1] else []) ++ (e8 (z.2.2.1 + 4611686018427387904).toNat ++ (z.2.2.2 ++ [0]))
def numE (le : Bool) (z : Sz) : List UInt8 := if z.1 = 0 then [80] else if z.1 = 1 then [96] ++ zb le z else [64] ++ (zb le z).map cpl
structure SzOk (le : Bool) (z : Sz) : Prop where
  sign : z.1 = -1 ∨ z.1 = 0 ∨ z.1 = 1
  rank : 0 ≤ z.2.1 ∧ z.2.1 < 256
  rank0 : le = false → z.2.1 = 0
  exp : -2305843009213693952 ≤ z.2.2.1 ∧ z.2.2.1 ≤ 2305843009213693952
  dig : ∀ c ∈ z.2.2.2, c ≠ 0
theorem zb_cp {le : Bool} {a b : Sz} (ha : SzOk le a) (hb : SzOk le b) : Cp (orS [cmpI a.2.1 b.2.1, cmpI a.2.2.1 b.2.2.1, bcmp a.2.2.2 b.2.2.2]) (zb le a) (zb le b) := by
  rw [orS3]
  have he := Cp.e8 (a := (a.2.2.1 + 4611686018427387904).toNat) (b := (b.2.2.1 + 4611686018427387904).toNat) (by have := ha.exp; omega) (by have := hb.exp; omega)
  rw [Int.toNat_of_nonneg (by have := ha.exp; omega), Int.toNat_of_nonneg (by have := hb.exp; omega), cmpI_add] at he
  have hd := Cp.app he (Cp.closed ha.dig hb.dig)
  unfold zb
  cases le with
  | true =>
    simp only [if_true]
    exact Cp.app (Cp.byte ha.rank hb.rank) hd
  | false =>
    rw [ha.rank0 rfl, hb.rank0 rfl, cmpI_self, thn0]
    simpa using hd
theorem ordS_ne {a b : Sz} (h : ¬ a.1 = b.1) : ordS a b = cmpI a.1 b.1 := by unfold ordS; rw [if_neg (fun h' => h h'.1)]
theorem Cp.heads {x y : Int} (hx : 0 ≤ x ∧ x < 256) (hy : 0 ≤ y ∧ y < 256) (hne : x ≠ y) (l m : List UInt8) : Cp (cmpI x y) (toB x :: l) (toB y :: m) :=
  Cp.app0 (Cp.byte hx hy) (fun h => hne (cmpI_zero h)) l m
theorem numE_cp {le : Bool} {a b : Sz} (ha : SzOk le a) (hb : SzOk le b) : Cp (ordS a b) (numE le a) (numE le b) := by
  have hz := zb_cp ha hb
  rcases ha.sign with h1 | h1 | h1 <;> rcases hb.sign with h2 | h2 | h2
  · have e : ordS a b = -(orS [cmpI a.2.1 b.2.1, cmpI a.2.2.1 b.2.2.1, bcmp a.2.2.2 b.2.2.2]) := by
      unfold ordS
      rw [if_pos ⟨by omega, by omega⟩, h1]
      omega
    rw [e]
    unfold numE
    rw [if_neg (by omega), if_neg (by omega), if_neg (by omega), if_neg (by omega)]
    have := Cp.app (Cp.refl [64]) hz.neg
    rw [thn0] at this
    exact this
  · rw [ordS_ne (by omega), h1, h2]
    unfold numE
    rw [if_neg (by omega), if_neg (by omega), if_pos h2]
    exact Cp.heads (x := 64) (y := 80) (by decide) (by decide) (by decide) _ []
  · rw [ordS_ne (by omega), h1, h2]
    unfold numE
    rw [if_neg (by omega), if_neg (by omega), if_neg (by omega), if_pos h2]
    exact Cp.heads (x := 64) (y := 96) (by decide) (by decide) (by decide) _ _
  · rw [ordS_ne (by omega), h1, h2]
    unfold numE
    rw [if_pos h1, if_neg (by omega), if_neg (by omega)]
    exact Cp.heads (x := 80) (y := 64) (by decide) (by decide) (by decide) [] _
  · have e : ordS a b = 0 := by
      unfold ordS
      rw [if_neg (fun h => h.2 h1), h1, h2]
      rfl
    rw [e]
    unfold numE
    rw [if_pos h1, if_pos h2]
    exact Cp.refl _
  · rw [ordS_ne (by omega), h1, h2]
    unfold numE
    rw [if_pos h1, if_neg (by omega), if_pos h2]
    exact Cp.heads (x := 80) (y := 96) (by decide) (by decide) (by decide) [] _
  · rw [ordS_ne (by omega), h1, h2]
    unfold numE
    rw [if_neg (by omega), if_pos h1, if_neg (by omega), if_neg (by omega)]
    exact Cp.heads (x := 96) (y := 64) (by decide) (by decide) (by decide) _ _
  · rw [ordS_ne (by omega), h1, h2]
    unfold numE
    rw [if_neg (by omega), if_pos h1, if_pos h2]
    exact Cp.heads (x := 96) (y := 80) (by decide) (by decide) (by decide) _ []
  · have e : ordS a b = orS [cmpI a.2.1 b.2.1, cmpI a.2.2.1 b.2.2.1, bcmp a.2.2.2 b.2.2.2] := by
      unfold ordS
      rw [if_pos ⟨by omega, by omega⟩, h1]
      omega
    rw [e]
    unfold numE
    rw [if_neg (by omega), if_pos h1, if_neg (by omega), if_pos h2]
    have := Cp.app (Cp.refl [96]) hz
    rw [thn0] at this
    exact this

/-! ### what the numbers of texts are -/
theorem dg_ne {c : UInt8} (h : isDg c = true) : c ≠ 0 := by
  rintro rfl
  have := (isDg_iff 0).1 h
  simp at this
theorem tr_sub (l : List UInt8) : ∀ c ∈ tr l, c ∈ l := by
  intro c hc
  unfold tr at hc
  have := (List.dropWhile_sublist is0).subset (List.mem_reverse.1 hc)
  exact List.mem_reverse.1 this
theorem digS_dg {w f : List UInt8} {e : Int} (hw : ∀ c ∈ w, isDg c = true) (hf : ∀ c ∈ f, isDg c = true) : ∀ c ∈ (digS w f e).1, isDg c = true := by
  intro c hc
  unfold digS at hc
  split at hc
  · split at hc
    · cases hc
    · exact hf c ((List.dropWhile_sublist is0).subset (tr_sub _ c hc))
  · split at hc
    · cases hc
    · rcases List.mem_append.1 (tr_sub _ c hc) with h | h
      · exact hw c ((List.dropWhile_sublist is0).subset h)
      · exact hf c h
theorem digS_exp (w f : List UInt8) (e : Int) (B : Int) (hB : (w.length : Int) + f.length + 1099511627776 ≤ B) (he : -1099511627776 ≤ e ∧ e ≤ 1099511627776) : -B ≤ (digS w f e).2 ∧ (digS w f e).2 ≤ B := by
  have h1 := tl_len w
  have h2 := tl_len f
  unfold digS
  split
  · split
    · simp only; omega
    · simp only; omega
  · split
    · simp only; omega
    · simp only; omega
theorem pl_dg (l : List UInt8) : (∀ c ∈ (plS l).1, isDg c = true) ∧ (∀ c ∈ (plS l).2.1, isDg c = true) := by
  unfold plS
  split
  · exact ⟨run_dg l, (fun c h => by cases h)⟩
  · split
    · exact ⟨run_dg l, run_dg _⟩
    · exact ⟨run_dg l, (fun c h => by cases h)⟩
theorem dec_dg (l : List UInt8) : (∀ c ∈ (decS l).2.1, isDg c = true) ∧ (∀ c ∈ (decS l).2.2.1, isDg c = true) := by
  unfold decS
  split
  · exact ⟨(fun c h => by cases h), (fun c h => by cases h)⟩
  · have h := pl_dg (l.drop (sgN l))
    exact ⟨fun c hc => h.1 c ((List.dropWhile_sublist is0).subset hc), fun c hc => h.2 c (tr_sub _ c hc)⟩
theorem szS_ok {n : Bool} {d : List UInt8} {x r : Int} {le : Bool} (hd : ∀ c ∈ d, isDg c = true) (hx : -2305843009213693952 ≤ x ∧ x ≤ 2305843009213693952) (hr : 0 ≤ r ∧ r < 256) (h0 : le = false → r = 0) : SzOk le (szS n d x r) := by
  refine ⟨szS_sign _ _ _ _, ?_, ?_, ?_, ?_⟩
  · unfold szS; split <;> simp only <;> omega
  · intro h; unfold szS; split
    · rfl
    · exact h0 h
  · unfold szS; split <;> simp only <;> omega
  · unfold szS; split
    · intro c h; cases h
    · exact fun c hc => dg_ne (hd c hc)
theorem hum_rank (s : ByteArray) : (humS s).2 ≤ 10 := by
  unfold humS
  simp only
  split
  · simp
  · split
    · simp
    · simp only
      have h := letN_le
      split
      · simp
      · exact h _
theorem huS_ok (kind : Int) (hk : kind = 16 ∨ kind = 64) (s : ByteArray) (hs : s.size < 576460752303423488) : SzOk (decide (kind = 64)) (huS kind s) := by
  obtain ⟨f1, f2, f3⟩ := humS_fields s
  obtain ⟨d1, d2⟩ := dec_dg (L s)
  obtain ⟨l1, l2⟩ := dec_len s
  have hr := hum_rank s
  unfold huS
  rw [f2, f3]
  refine szS_ok (digS_dg d1 d2) (digS_exp _ _ 0 2305843009213693952 (by omega) (by omega)) ?_ ?_
  · split <;> omega
  · intro h
    rcases hk with rfl | rfl
    · rw [if_pos rfl]
    · simp at h

/-! ### g -/
def gE (g : Gn) : List UInt8 := if g.1 = 3 then numE false (szS g.2.1 g.2.2.1 g.2.2.2.1 0) else if g.1 = 0 then [16] else if g.1 = 1 then [32] else if g.1 = 2 then [48] else [112]
def ordG (x y : Gn) : Int := if x.1 = y.1 then ordS (szS x.2.1 x.2.2.1 x.2.2.2.1 0) (szS y.2.1 y.2.2.1 y.2.2.2.1 0) else cmpI x.1 y.1
structure GnOk (g : Gn) : Prop where
  cls : g.1 = 0 ∨ g.1 = 1 ∨ g.1 = 2 ∨ g.1 = 3 ∨ g.1 = 4
  none : g.1 ≠ 3 → g.2.2.1 = []
  dig : ∀ c ∈ g.2.2.1, isDg c = true
  exp : -2305843009213693952 ≤ g.2.2.2.1 ∧ g.2.2.2.1 ≤ 2305843009213693952
theorem genB_ok (neg : Bool) (n : List UInt8) (i : Nat) (hn : n.length < 576460752303423488) : GnOk (genB neg n i) := by
  have hp1 := pl1_len n
  have hp2 := pl2_len n
  unfold genB
  split
  · exact ⟨by simp only; split <;> simp, fun _ => rfl, (fun c h => by cases h), by simp⟩
  · split
    · exact ⟨by simp only; split <;> simp, fun _ => rfl, (fun c h => by cases h), by simp⟩
    · split
      · exact ⟨by simp, fun _ => rfl, (fun c h => by cases h), by simp⟩
      · split
        · exact ⟨by simp, fun _ => rfl, (fun c h => by cases h), by simp⟩
        · obtain ⟨d1, d2⟩ := pl_dg n
          exact ⟨by simp, fun h => absurd rfl h, digS_dg d1 d2, digS_exp _ _ _ 2305843009213693952 (by omega) (expS_range _)⟩
theorem genS_ok (s : ByteArray) (hs : s.size < 576460752303423488) : GnOk (genS (L s)) := by
  unfold genS
  refine genB_ok _ _ _ ?_
  rw [List.length_drop, L_len]
  omega
theorem szS_nil (n : Bool) (x r : Int) : szS n [] x r = (0, 0, 0, []) := by unfold szS; rw [if_pos rfl]
theorem numE_head {z : Sz} (h : z.1 = -1 ∨ z.1 = 0 ∨ z.1 = 1) : ∃ x t, numE false z = toB x :: t ∧ (x = 64 ∨ x = 80 ∨ x = 96) := by
  unfold numE
  rcases h with h | h | h
  · rw [if_neg (by omega), if_neg (by omega)]; exact ⟨64, _, rfl, by simp⟩
  · rw [if_pos h]; exact ⟨80, _, rfl, by simp⟩
  · rw [if_neg (by omega), if_pos h]; exact ⟨96, _, rfl, by simp⟩
theorem gE_head {g : Gn} (hg : GnOk g) : ∃ x t, gE g = toB x :: t ∧ ((g.1 = 0 ∧ x = 16) ∨ (g.1 = 1 ∧ x = 32) ∨ (g.1 = 2 ∧ x = 48) ∨ (g.1 = 3 ∧ (x = 64 ∨ x = 80 ∨ x = 96)) ∨ (g.1 = 4 ∧ x = 112)) := by
  unfold gE
  rcases hg.cls with h | h | h | h | h
  · rw [if_neg (by omega), if_pos h]; exact ⟨16, [], rfl, by simp [h]⟩
  · rw [if_neg (by omega), if_neg (by omega), if_pos h]; exact ⟨32, [], rfl, by simp [h]⟩
  · rw [if_neg (by omega), if_neg (by omega), if_neg (by omega), if_pos h]; exact ⟨48, [], rfl, by simp [h]⟩
  · rw [if_pos h]
    obtain ⟨x, t, h1, h2⟩ := numE_head (szS_sign g.2.1 g.2.2.1 g.2.2.2.1 0)
    exact ⟨x, t, h1, by simp [h, h2]⟩
  · rw [if_neg (by omega), if_neg (by omega), if_neg (by omega), if_neg (by omega)]; exact ⟨112, [], rfl, by simp [h]⟩
theorem cmpI_of_lt {a b c d : Int} (h : (a < b ∧ c < d) ∨ (b < a ∧ d < c)) : cmpI a b = cmpI c d := by
  rcases h with ⟨h, h'⟩ | ⟨h, h'⟩
  · rw [cmpI_lt h, cmpI_lt h']
  · rw [cmpI_gt h, cmpI_gt h']
theorem gE_cp {a b : Gn} (ha : GnOk a) (hb : GnOk b) : Cp (ordG a b) (gE a) (gE b) := by
  unfold ordG
  by_cases h : a.1 = b.1
  · rw [if_pos h]
    by_cases h3 : a.1 = 3
    · unfold gE
      rw [if_pos h3, if_pos (by omega)]
      exact numE_cp (szS_ok ha.dig ha.exp (by omega) (fun _ => rfl)) (szS_ok hb.dig hb.exp (by omega) (fun _ => rfl))
    · rw [ha.none h3, hb.none (by omega), szS_nil, szS_nil]
      have e : gE a = gE b := by
        unfold gE
        rw [if_neg h3, if_neg (show ¬ b.1 = 3 by omega), h]
      rw [e]
      exact Cp.refl _
  · rw [if_neg h]
    obtain ⟨x, t, h1, h2⟩ := gE_head ha
    obtain ⟨y, u, h3, h4⟩ := gE_head hb
    rw [h1, h3]
    refine (Cp.heads (x := x) (y := y) (by omega) (by omega) (by omega) t u).val ?_
    exact cmpI_of_lt (by omega)

/-! ### M -/
theorem monF_le : ∀ (l : List UInt8) (m : Nat) (ws : List (List UInt8)), monF l m ws ≤ m + ws.length
  | l, m, [] => by simp [monF]
  | l, m, w :: ws => by
    have := monF_le l (m + 1) ws
    unfold monF
    simp only [List.length_cons]
    split <;> omega
theorem monS_le (l : List UInt8) : monS l ≤ 12 := by
  unfold monS
  have := monF_le (l.drop (blkN l)) 0 monthL
  exact this

/-! ### V -/
def rkU (c : UInt8) : UInt8 := toB (rkB c)
def rnE (d : List UInt8) : List UInt8 := if d = [] then [0] else [1] ++ (e8 (tl d).length ++ tl d)
def hdE (l : List UInt8) : List UInt8 := ((pr1 l).map rkU ++ [2]) ++ rnE (pr2 l)
def vEF : Nat → List UInt8 → List UInt8
  | 0, _ => hdE []
  | n + 1, l => if l = [] then hdE [] else hdE l ++ vEF n (pr3 l)
theorem rk_ok (c : UInt8) (h : isDg c = false) : (0 ≤ rkB c ∧ rkB c < 256) ∧ rkB c ≠ 2 := by
  have : ∀ c : UInt8, isDg c = false → (0 ≤ rkB c ∧ rkB c < 256) ∧ rkB c ≠ 2 := all8 (by decide +kernel)
  exact this c h
theorem pr1_no (l : List UInt8) : ∀ c ∈ pr1 l, isDg c = false := by
  unfold pr1
  induction l with
  | nil => intro c h; cases h
  | cons d l ih =>
    intro c h
    rw [List.takeWhile_cons] at h
    split at h
    · rename_i hd
      rcases List.mem_cons.1 h with rfl | h
      · simpa [noDg] using hd
      · exact ih c h
    · cases h
theorem wd_cp : ∀ {l m : List UInt8}, (∀ c ∈ l, isDg c = false) → (∀ c ∈ m, isDg c = false) → Cp (wdS l m) (l.map rkU ++ [2]) (m.map rkU ++ [2])
  | [], [], _, _ => by simp only [wdS]; exact Cp.refl _
  | a :: l, [], ha, _ => by
    have h := rk_ok a (ha a (by simp))
    simp only [wdS]
    rw [if_neg h.2]
    exact Cp.heads (x := rkB a) (y := 2) h.1 (by decide) h.2 _ []
  | [], b :: m, _, hb => by
    have h := rk_ok b (hb b (by simp))
    simp only [wdS]
    rw [if_neg (fun e => h.2 e.symm)]
    exact Cp.heads (x := 2) (y := rkB b) (by decide) h.1 (fun e => h.2 e.symm) [] _
  | a :: l, b :: m, ha, hb => by
    have h1 := rk_ok a (ha a (by simp))
    have h2 := rk_ok b (hb b (by simp))
    have ih := wd_cp (l := l) (m := m) (fun c hc => ha c (by simp [hc])) (fun c hc => hb c (by simp [hc]))
    simp only [wdS]
    by_cases e : rkB a = rkB b
    · rw [if_pos e]
      have := Cp.app (Cp.byte h1.1 h2.1) ih
      rw [e, cmpI_self, thn0] at this
      refine (show Cp (wdS l m) (toB (rkB a) :: (l.map rkU ++ [2])) (toB (rkB b) :: (m.map rkU ++ [2])) from ?_)
      rw [e]
      exact this
    · rw [if_neg e]
      exact Cp.heads h1.1 h2.1 e _ _
theorem rn_cp {d e : List UInt8} (hd : d.length < 18446744073709551616) (he : e.length < 18446744073709551616) : Cp (rnS d e) (rnE d) (rnE e) := by
  unfold rnS rnE
  by_cases h1 : d = []
  · by_cases h2 : e = []
    · rw [if_pos (Or.inl h1), if_pos h1, if_pos h2, if_pos h1, if_pos h2]
      exact Cp.refl _
    · rw [if_pos (Or.inl h1), if_pos h1, if_neg h2, if_pos h1, if_neg h2]
      exact Cp.heads (x := 0) (y := 1) (by decide) (by decide) (by decide) [] _
  · by_cases h2 : e = []
    · rw [if_pos (Or.inr h2), if_neg h1, if_pos h2, if_neg h1, if_pos h2]
      exact Cp.heads (x := 1) (y := 0) (by decide) (by decide) (by decide) _ []
    · rw [if_neg (by rintro (h | h); exact h1 h; exact h2 h), if_neg h1, if_neg h2, orS2]
      have hl1 := tl_len d
      have hl2 := tl_len e
      have hk := Cp.e8 (a := (tl d).length) (b := (tl e).length) (by omega) (by omega)
      have key : Cp (thn (cmpI ((tl d).length : Int) ((tl e).length : Int)) (bcmp (tl d) (tl e))) (e8 (tl d).length ++ tl d) (e8 (tl e).length ++ tl e) := by
        by_cases hl : (tl d).length = (tl e).length
        · exact Cp.app hk (Cp.eqlen hl)
        · have hne : cmpI ((tl d).length : Int) ((tl e).length : Int) ≠ 0 := fun h => hl (by have := cmpI_zero h; omega)
          rw [thn_ne hne]
          exact Cp.app0 hk hne _ _
      have := Cp.app (Cp.refl [1]) key
      rw [thn0] at this
      exact this
theorem hd_cp {l m : List UInt8} (hl : l.length < 18446744073709551616) (hm : m.length < 18446744073709551616) : Cp (orS [wdS (pr1 l) (pr1 m), rnS (pr2 l) (pr2 m)]) (hdE l) (hdE m) := by
  have h1 := pr_len l
  have h2 := pr_len m
  rw [orS2]
  exact Cp.app (wd_cp (pr1_no l) (pr1_no m)) (rn_cp (by omega) (by omega))
theorem pr1_nil : pr1 [] = [] := rfl
theorem pr2_nil : pr2 [] = [] := rfl
theorem vr_nil_ne {m : List UInt8} (hm : m ≠ []) : orS [wdS (pr1 []) (pr1 m), rnS (pr2 []) (pr2 m)] ≠ 0 ∧ orS [wdS (pr1 m) (pr1 []), rnS (pr2 m) (pr2 [])] ≠ 0 := by
  rw [orS2, orS2, pr1_nil, pr2_nil]
  cases h : pr1 m with
  | cons c r =>
    have hc := (rk_ok c (pr1_no m c (by rw [h]; simp))).2
    have e1 : wdS [] (c :: r) = cmpI 2 (rkB c) := by simp only [wdS]; rw [if_neg (fun e => hc e.symm)]
    have e2 : wdS (c :: r) [] = cmpI (rkB c) 2 := by simp only [wdS]; rw [if_neg hc]
    rw [e1, e2]
    have n1 : cmpI 2 (rkB c) ≠ 0 := fun h => hc (cmpI_zero h).symm
    have n2 : cmpI (rkB c) 2 ≠ 0 := fun h => hc (cmpI_zero h)
    rw [thn_ne n1, thn_ne n2]
    exact ⟨n1, n2⟩
  | nil =>
    have e0 : wdS [] [] = 0 := by simp only [wdS]
    rw [e0, thn0, thn0]
    have h2 : pr2 m ≠ [] := by
      intro h2
      have hl := pr_len m
      have := pr_short hm
      rw [h, h2] at hl
      simp at hl
      omega
    unfold rnS
    simp [h2, cmpI]
theorem vE_cp : ∀ (n : Nat) (l m : List UInt8), l.length + m.length < n → n < 18446744073709551616 → Cp (vrF n l m) (vEF n l) (vEF n m)
  | 0, l, m, h, _ => by omega
  | n + 1, l, m, h, hb => by
    have hh := hd_cp (l := l) (m := m) (by omega) (by omega)
    unfold vrF vEF
    by_cases h1 : l = []
    · by_cases h2 : m = []
      · rw [if_pos ⟨h1, h2⟩, if_pos h1, if_pos h2]
        exact Cp.refl _
      · have hn := (vr_nil_ne h2).1
        subst h1
        rw [if_neg (fun h => h2 h.2), if_neg hn, if_pos rfl, if_neg h2]
        have := Cp.app0 hh hn [] (vEF n (pr3 m))
        rw [List.append_nil] at this
        exact this
    · by_cases h2 : m = []
      · have hn := (vr_nil_ne h1).2
        subst h2
        rw [if_neg (fun h => h1 h.1), if_neg hn, if_neg h1, if_pos rfl]
        have := Cp.app0 hh hn (vEF n (pr3 l)) []
        rw [List.append_nil] at this
        exact this
      · rw [if_neg (fun h => h1 h.1), if_neg h1, if_neg h2]
        by_cases h0 : orS [wdS (pr1 l) (pr1 m), rnS (pr2 l) (pr2 m)] = 0
        · rw [if_pos h0]
          rw [h0] at hh
          have s1 := pr_short h1
          have s2 := pr_short h2
          have := Cp.app hh (vE_cp n (pr3 l) (pr3 m) (by omega) (by omega))
          rw [thn0] at this
          exact this
        · rw [if_neg h0]
          exact Cp.app0 hh h0 _ _
theorem vEF_fuel : ∀ (n : Nat) (l : List UInt8), l.length < n → ∀ k, vEF (n + k) l = vEF n l
  | 0, l, h, _ => by omega
  | n + 1, l, h, k => by
    rw [show n + 1 + k = (n + k) + 1 by omega]
    unfold vEF
    by_cases h1 : l = []
    · rw [if_pos h1, if_pos h1]
    · rw [if_neg h1, if_neg h1, vEF_fuel n _ (by have := pr_short h1; omega) k]
def vE (l : List UInt8) : List UInt8 := vEF (l.length + 1) l

/-! ### any other kind -/
def escE : List UInt8 → List UInt8
  | [] => [0]
  | c :: r => (if c = 0 then [1, 1] else if c = 1 then [1, 2] else [c]) ++ escE r
theorem esc_cp : ∀ (l m : List UInt8), Cp (bcmp l m) (escE l) (escE m)
  | [], [] => Cp.refl _
  | [], b :: m => by
    unfold escE
    by_cases h0 : b = 0
    · rw [if_pos h0]
      exact Cp.heads (x := 0) (y := 1) (by decide) (by decide) (by decide) [] ([1] ++ escE m)
    · rw [if_neg h0]
      by_cases h1 : b = 1
      · rw [if_pos h1]
        exact Cp.heads (x := 0) (y := 1) (by decide) (by decide) (by decide) [] ([2] ++ escE m)
      · rw [if_neg h1]
        have := Cp.closed (l := []) (m := [b]) (fun c h => by cases h) (fun c h => by simp at h; rw [h]; exact h0)
        have hb : (0 : UInt8) < b := by
          rcases u8_tri 0 b with h | h | h
          · exact h
          · rw [UInt8.lt_iff_toNat_lt] at h; simp at h
          · exact absurd h.symm h0
        refine Or.inr ⟨by rw [bcmp_nc]; decide, ?_, ?_⟩
        · rw [List.cons_append, dv_cc, if_neg (u8_ne hb)]
        · rw [List.cons_append, bcmp_cc, if_pos hb, bcmp_nc]
  | a :: l, [] => by
    unfold escE
    by_cases h0 : a = 0
    · rw [if_pos h0]
      exact Cp.heads (x := 1) (y := 0) (by decide) (by decide) (by decide) ([1] ++ escE l) []
    · rw [if_neg h0]
      by_cases h1 : a = 1
      · rw [if_pos h1]
        exact Cp.heads (x := 1) (y := 0) (by decide) (by decide) (by decide) ([2] ++ escE l) []
      · rw [if_neg h1]
        have hb : (0 : UInt8) < a := by
          rcases u8_tri 0 a with h | h | h
          · exact h
          · rw [UInt8.lt_iff_toNat_lt] at h; simp at h
          · exact absurd h.symm h0
        refine Or.inr ⟨by rw [bcmp_cn]; decide, ?_, ?_⟩
        · rw [List.cons_append, dv_cc, if_neg (fun h => u8_ne hb h.symm)]
        · rw [List.cons_append, bcmp_cc, if_neg (u8_asym hb), if_pos hb, bcmp_cn]
  | a :: l, b :: m => by
    have ih := esc_cp l m
    unfold escE
    rw [bcmp_thn]
    refine Cp.app ?_ ih
    have h01 : bcmp [a] [b] = cmpI (a.toNat : Int) (b.toNat : Int) := bcmp_1 a b
    have hz : ∀ c : UInt8, c ≠ 0 → c ≠ 1 → (1 : Int) < (c.toNat : Int) := by
      have : ∀ c : UInt8, c ≠ 0 → c ≠ 1 → (1 : Int) < (c.toNat : Int) := all8 (by decide +kernel)
      exact this
    have tb : ∀ c : UInt8, toB (c.toNat : Int) = c := fun c => by unfold toB; rw [Int.toNat_natCast, UInt8.ofNat_toNat]
    have ua := u8_lt a
    have ub := u8_lt b
    by_cases a0 : a = 0
    · rw [if_pos a0]
      subst a0
      by_cases b0 : b = 0
      · rw [if_pos b0]; subst b0; exact Cp.refl _
      · rw [if_neg b0]
        by_cases b1 : b = 1
        · rw [if_pos b1]
          subst b1
          have := Cp.app (Cp.refl [1]) (Cp.byte (x := 1) (y := 2) (by decide) (by decide))
          rw [thn0] at this
          exact this
        · rw [if_neg b1, h01]
          have := Cp.heads (x := 1) (y := (b.toNat : Int)) (by decide) (by omega) (by have := hz b b0 b1; omega) [1] []
          rw [tb] at this
          refine this.val ?_
          have := hz b b0 b1
          exact cmpI_of_lt (Or.inl ⟨by omega, by simp; omega⟩)
    · rw [if_neg a0]
      by_cases a1 : a = 1
      · rw [if_pos a1]
        subst a1
        by_cases b0 : b = 0
        · rw [if_pos b0]
          subst b0
          have := Cp.app (Cp.refl [1]) (Cp.byte (x := 2) (y := 1) (by decide) (by decide))
          rw [thn0] at this
          exact this
        · rw [if_neg b0]
          by_cases b1 : b = 1
          · rw [if_pos b1]; subst b1; exact Cp.refl _
          · rw [if_neg b1, h01]
            have := Cp.heads (x := 1) (y := (b.toNat : Int)) (by decide) (by omega) (by have := hz b b0 b1; omega) [2] []
            rw [tb] at this
            refine this.val ?_
            have := hz b b0 b1
            exact cmpI_of_lt (Or.inl ⟨by omega, by simp; omega⟩)
      · rw [if_neg a1]
        have ga := hz a a0 a1
        by_cases b0 : b = 0
        · rw [if_pos b0, h01]
          subst b0
          have := Cp.heads (x := (a.toNat : Int)) (y := 1) (by omega) (by decide) (by omega) [] [1]
          rw [tb] at this
          exact this.val (cmpI_of_lt (Or.inr ⟨by omega, by simp; omega⟩))
        · rw [if_neg b0]
          by_cases b1 : b = 1
          · rw [if_pos b1, h01]
            subst b1
            have := Cp.heads (x := (a.toNat : Int)) (y := 1) (by omega) (by decide) (by omega) [] [2]
            rw [tb] at this
            exact this.val (cmpI_of_lt (Or.inr ⟨by omega, by simp; omega⟩))
          · rw [if_neg b1]
            exact Cp.eqlen rfl

/-! ### all kinds -/
def embE (kind : Int) (s : ByteArray) : List UInt8 :=
  if kind = 16 ∨ kind = 64 then numE (decide (kind = 64)) (huS kind s) else if kind = 32 then gE (genS (L s)) else if kind = 128 then [toB (monS (L s))] else if kind = 256 then vE (L s) else escE (L s)
def cmpS (kind : Int) (s t : ByteArray) : Int :=
  if kind = 16 ∨ kind = 64 then ordS (huS kind s) (huS kind t) else if kind = 32 then ordG (genS (L s)) (genS (L t)) else if kind = 128 then cmpI (monS (L s)) (monS (L t)) else if kind = 256 then vrS (L s) (L t) else bcmp (L s) (L t)
theorem emb_cp (kind : Int) (s t : ByteArray) (hs : s.size < 576460752303423488) (ht : t.size < 576460752303423488) : Cp (cmpS kind s t) (embE kind s) (embE kind t) := by
  unfold cmpS embE
  by_cases h1 : kind = 16 ∨ kind = 64
  · rw [if_pos h1, if_pos h1, if_pos h1]
    exact numE_cp (huS_ok kind h1 s hs) (huS_ok kind h1 t ht)
  rw [if_neg h1, if_neg h1, if_neg h1]
  by_cases h2 : kind = 32
  · rw [if_pos h2, if_pos h2, if_pos h2]
    exact gE_cp (genS_ok s hs) (genS_ok t ht)
  rw [if_neg h2, if_neg h2, if_neg h2]
  by_cases h3 : kind = 128
  · rw [if_pos h3, if_pos h3, if_pos h3]
    have m1 := monS_le (L s)
    have m2 := monS_le (L t)
    exact Cp.byte (by omega) (by omega)
  rw [if_neg h3, if_neg h3, if_neg h3]
  by_cases h4 : kind = 256
  · rw [if_pos h4, if_pos h4, if_pos h4]
    have l1 := L_len s
    have l2 := L_len t
    have := vE_cp ((L s).length + (L t).length + 1) (L s) (L t) (by omega) (by omega)
    rw [show (L s).length + (L t).length + 1 = (L s).length + 1 + (L t).length by omega, vEF_fuel _ (L s) (by omega)] at this
    rw [show (L s).length + 1 + (L t).length = (L t).length + 1 + (L s).length by omega, vEF_fuel _ (L t) (by omega)] at this
    unfold vrS vE
    rw [show (L s).length + (L t).length + 1 = (L t).length + 1 + (L s).length by omega]
    exact this
  rw [if_neg h4, if_neg h4, if_neg h4]
  exact esc_cp _ _
end Go.Proofs.YtcdajedmlfhmeaaDoor.XN
end

section
/- numeral.Compare at every kind is cmpS. (by this session) -/
-- NEEDS numeral_Compare api_Class_53 api_Class_77
set_option linter.unusedVariables false
set_option linter.unusedSimpArgs false
namespace Go.Proofs.YtcdajedmlfhmeaaDoor.XN
open Go.RowKit Go.Proofs.YtcdajedmlfhmeaaDoorW.PrintWords Go.Proofs.YtcdajedmlfhmeaaDoorW.PrintMore
theorem Class_f (a b : Int) : api_Class_53.f a b = some (cmpI a b) := by
  unfold api_Class_53.f api_Class_77.f cmpI
  simp only [Option.bind_some, bne_self_eq_false, Bool.false_eq_true, if_false]
  split
  · rfl
  · split <;> rfl
theorem Compare_g (s t : ByteArray) (hs : s.size < 576460752303423488) (ht : t.size < 576460752303423488) : Ev (fun k => numeral_Compare.f k 32 s t) (ordG (genS (L s)) (genS (L t))) := by
  unfold numeral_Compare.f
  refine Ev.neg (by decide) (Ev.succ ?_)
  simp only [numeral_Compare.j0]
  refine Ev.neg (by decide) (Ev.neg (by decide) (Ev.neg (by decide) (Ev.pos trivial ?_)))
  refine Ev.bind (General_ev s (by omega)) (Ev.bind (General_ev t (by omega)) ?_)
  unfold ordG gnV
  simp only [Class_f, Option.bind_some, sizeOf_f]
  refine Ev.ite (fun h => ?_) (fun h => ?_)
  · rw [if_pos h]
    exact Ev.bind (order_ev _ _ (szS_sign _ _ _ _)) (Ev.pure _)
  · rw [if_neg h]
    exact Ev.pure _
theorem Compare_b (kind : Int) (h1 : ¬ (kind = 16 ∨ kind = 64)) (h2 : ¬ kind = 32) (h3 : ¬ kind = 128) (h4 : ¬ kind = 256) (s t : ByteArray) : Ev (fun k => numeral_Compare.f k kind s t) (bcmp (L s) (L t)) := by
  unfold numeral_Compare.f
  refine Ev.neg (fun h => h1 (Or.inl h)) (Ev.succ ?_)
  simp only [numeral_Compare.j0]
  refine Ev.neg (by simp; exact fun h => h1 (Or.inr h)) (Ev.neg h3 (Ev.neg h4 (Ev.neg h2 ?_)))
  simp only [Compare_str_f, Option.bind_some]
  exact Ev.pure _
theorem Compare_ev (kind : Int) (s t : ByteArray) (hs : s.size < 576460752303423488) (ht : t.size < 576460752303423488) : Ev (fun k => numeral_Compare.f k kind s t) (cmpS kind s t) := by
  unfold cmpS
  by_cases h1 : kind = 16 ∨ kind = 64
  · rw [if_pos h1]
    exact Compare_h kind h1 s t (by omega) (by omega)
  rw [if_neg h1]
  by_cases h2 : kind = 32
  · rw [if_pos h2]
    subst h2
    exact Compare_g s t hs ht
  rw [if_neg h2]
  by_cases h3 : kind = 128
  · rw [if_pos h3]
    subst h3
    exact Compare_m s t (by rw [big_eq]; omega) (by rw [big_eq]; omega)
  rw [if_neg h3]
  by_cases h4 : kind = 256
  · rw [if_pos h4]
    subst h4
    exact Compare_v s t (by rw [big_eq]; omega) (by rw [big_eq]; omega)
  rw [if_neg h4]
  exact Compare_b kind h1 h2 h3 h4 s t
end Go.Proofs.YtcdajedmlfhmeaaDoor.XN
end

section
/- numeral.Embed is embE, up to a bulk. (by this session) -/
-- NEEDS numeral_Embed numeral_eight numeral_size_embed numeral_number numeral_version
set_option linter.unusedVariables false
set_option linter.unusedSimpArgs false
namespace Go.Proofs.YtcdajedmlfhmeaaDoor.XN
open Go.RowKit Go.Proofs.YtcdajedmlfhmeaaDoorW.PrintWords Go.Proofs.YtcdajedmlfhmeaaDoorW.PrintMore
def nms (l : List UInt8) : List Int := l.map fun c => (c.toNat : Int)
theorem nms_len (l : List UInt8) : (nms l).length = l.length := List.length_map _
theorem nms_app (l m : List UInt8) : nms l ++ nms m = nms (l ++ m) := (List.map_append).symm
theorem str_nms (l : List UInt8) : strOfNums (nms l) = mkB l := by
  unfold strOfNums nms mkB
  rw [List.map_map]
  congr 2
  refine (List.map_congr_left fun c _ => ?_).trans (List.map_id l)
  show UInt8.ofNat ((c.toNat : Int)).toNat = id c
  rw [Int.toNat_natCast, UInt8.ofNat_toNat]
  rfl
theorem bytesOf_mk (l : List UInt8) : bytesOf (mkB l) = nms l := rfl
theorem nms_one (x : Int) (h : 0 ≤ x ∧ x < 256) : [x] = nms [toB x] := by
  unfold nms
  rw [List.map_cons, List.map_nil, toB_nat h]
theorem p256 : ∀ m, m < 8 → (2 : Int) ^ (8 * m) = ((256 ^ m : Nat) : Int) := by
  have h : ∀ m : Fin 8, (2 : Int) ^ (8 * m.val) = ((256 ^ m.val : Nat) : Int) := by decide +kernel
  exact fun m hm => h ⟨m, hm⟩
theorem bee_step (n : Nat) (j : Nat) (h : j < 8) : (shr .u64 (n : Int) ((56 - 8 * j : Nat) : Int)) % 256 = ((n / 256 ^ (7 - j) % 256 : Nat) : Int) := by
  unfold shr
  rw [Int.toNat_natCast, show min (56 - 8 * j) IntKind.u64.bits = 8 * (7 - j) by show min (56 - 8 * j) 64 = _; omega, p256 (7 - j) (by omega)]
  omega
theorem eight_l0 (n : Nat) : ∀ (d j : Nat) (l : List UInt8), 8 - j = d → j ≤ 8 → l.length + d < 1000000000 → Ev (fun k => numeral_eight.l0 k (n : Int) (nms l) (j : Int)) (nms (l ++ bee d n))
  | 0, j, l, h, hj, hl => by
    refine Ev.succ ?_
    simp only [numeral_eight.l0]
    refine Ev.neg (by omega) (Ev.done ?_)
    rw [show bee 0 n = [] from rfl, List.append_nil]
  | d + 1, j, l, h, hj, hl => by
    have e1 : wrap64 (56 - wrap64 (8 * (j : Int))) = ((56 - 8 * j : Nat) : Int) := by
      rw [w64 (x := 8 * (j : Int)) (by omega)]
      exact w64_nat (by omega) (by omega)
    refine Ev.succ ?_
    simp only [numeral_eight.l0, e1, bee_step n j (by omega), w64_succ (i := j) (by omega)]
    refine Ev.pos (by omega) (Ev.pos (by omega) (Ev.pos (by rw [nms_len]; omega) ?_))
    have e2 : 7 - j = d := by omega
    have e3 : toB ((n / 256 ^ d % 256 : Nat) : Int) = UInt8.ofNat (n / 256 ^ d % 256) := by unfold toB; rw [Int.toNat_natCast]
    rw [e2, nms_one _ (by omega), nms_app, e3]
    refine Ev.val (eight_l0 n d (j + 1) _ (by omega) (by omega) (by simp; omega)) ?_
    rw [List.append_assoc]
    rfl
theorem eight_ev (n : Nat) : Ev (fun k => numeral_eight.f k (n : Int)) (nms (e8 n)) := by
  unfold numeral_eight.f
  have := eight_l0 n 8 0 [] rfl (by omega) (by simp)
  rw [List.nil_append] at this
  exact this
theorem e8_len (n : Nat) : (e8 n).length = 8 := bee_len 8 n
theorem u64_exp (x : Int) (h : -2305843009213693952 ≤ x ∧ x ≤ 2305843009213693952) : IntKind.u64.wrap (IntKind.u64.wrap x + 4611686018427387904) = ((x + 4611686018427387904).toNat : Int) := by
  have e : ∀ y : Int, IntKind.u64.wrap y = y % 18446744073709551616 := fun y => rfl
  rw [e, e]
  omega
theorem embed_ev (le : Bool) (z : Sz) (hz : SzOk le z) (hd : z.2.2.2.length < 100000000) : Ev (fun k => numeral_size_embed.f k z.1 z.2.1 z.2.2.1 (mkB z.2.2.2) le) (nms (zb le z)) := by
  unfold numeral_size_embed.f zb
  have hl : (e8 (z.2.2.1 + 4611686018427387904).toNat).length = 8 := e8_len _
  cases le with
  | true =>
    refine Ev.pos rfl (Ev.pos (by decide) ?_)
    simp only [Option.bind_some, u64_exp _ hz.exp, if_true]
    have er : z.2.1 % 256 = z.2.1 := by have := hz.rank; omega
    rw [er, show ([] : List Int) ++ [z.2.1] = nms [toB z.2.1] from nms_one _ hz.rank]
    refine Ev.bind (eight_ev _) ?_
    simp only [nms_app, nms_len, size_mk, bytesOf_mk]
    refine Ev.pos (by simp [hl]) (Ev.pos (by simp [hl]; omega) (Ev.pos (by simp [hl]; omega) (Ev.done ?_)))
    rw [nms_one 0 (by decide), nms_app]
    simp only [List.append_assoc]
    rfl
  | false =>
    refine Ev.neg (by decide) ?_
    simp only [u64_exp _ hz.exp, Bool.false_eq_true, if_false]
    refine Ev.bind (eight_ev _) ?_
    simp only [Option.bind_some, List.nil_append, nms_len, size_mk, bytesOf_mk, nms_app, List.length_nil]
    refine Ev.pos (by simp [hl]) (Ev.pos (by simp [hl]; omega) (Ev.pos (by simp [hl]; omega) (Ev.done ?_)))
    rw [nms_one 0 (by decide), nms_app]
    simp only [List.append_assoc]
    rfl
theorem nms_set (l m : List UInt8) (c d : UInt8) : (nms (l ++ c :: m)).set l.length (d.toNat : Int) = nms (l ++ d :: m) := by
  unfold nms
  rw [List.map_append, List.map_append, List.set_append_right _ _ (by rw [List.length_map]; exact Nat.le_refl _), List.length_map, Nat.sub_self]
  rfl
theorem rd_nms (l m : List UInt8) (c : UInt8) : rd (nms (l ++ c :: m)) (l.length : Int) = (c.toNat : Int) := by
  unfold rd nms
  rw [Int.toNat_natCast, List.map_append]
  simp [List.getD, List.getElem?_append_right]
theorem number_l0 : ∀ (m l : List UInt8), l.length + m.length < 1000000000 → Ev (fun k => numeral_number.l0 k (nms (l ++ m)) (l.length : Int)) (mkB (l ++ m.map cpl))
  | [], l, h => by
    refine Ev.succ ?_
    simp only [numeral_number.l0]
    refine Ev.neg (by rw [nms_len, List.append_nil]; omega) (Ev.done ?_)
    rw [str_nms, List.map_nil]
  | c :: m, l, h => by
    have e : ((255 - (c.toNat : Int)) % 256) = ((cpl c).toNat : Int) := by
      have := cpl_nat c
      have := c.toNat_lt
      omega
    refine Ev.succ ?_
    simp only [numeral_number.l0, rd_nms, e, Int.toNat_natCast, nms_set, w64_succ (i := l.length) (by simp at h; omega)]
    refine Ev.pos (by rw [nms_len]; simp; omega) (Ev.pos (by omega) ?_)
    have ih := number_l0 m (l ++ [cpl c]) (by simp at h ⊢; omega)
    simp only [List.append_assoc, List.length_append, List.length_cons, List.length_nil, List.singleton_append] at ih
    rw [List.map_cons]
    exact ih
theorem number_ev (le : Bool) (z : Sz) (hz : SzOk le z) (hd : z.2.2.2.length < 10000000) : Ev (fun k => numeral_number.f k z.1 z.2.1 z.2.2.1 (mkB z.2.2.2) le) (mkB (numE le z)) := by
  unfold numeral_number.f numE
  have hl : (e8 (z.2.2.1 + 4611686018427387904).toNat).length = 8 := e8_len _
  have hzl : (zb le z).length ≤ z.2.2.2.length + 10 := by
    unfold zb
    simp only [List.length_append, hl, List.length_cons, List.length_nil]
    split <;> simp <;> omega
  refine Ev.ite (fun h => ?_) (fun h => ?_)
  · rw [if_pos h]
    exact Ev.done (by rw [nms_one 80 (by decide), str_nms]; rfl)
  · rw [if_neg h]
    refine Ev.ite (fun h1 => ?_) (fun h1 => ?_)
    · rw [if_pos h1]
      simp only [Option.bind_some]
      refine Ev.bind (embed_ev le z hz (by omega)) ?_
      rw [nms_one 96 (by decide), nms_app]
      refine Ev.pos (by rw [nms_len, nms_len]; simp; omega) (Ev.done ?_)
      rw [str_nms]
      rfl
    · rw [if_neg h1]
      simp only [Option.bind_some]
      refine Ev.bind (embed_ev le z hz (by omega)) ?_
      rw [nms_one 64 (by decide), nms_app]
      refine Ev.pos (by rw [nms_len, nms_len]; simp; omega) ?_
      exact number_l0 (zb le z) [toB 64] (by simp; omega)
theorem digS_len (w f : List UInt8) (e : Int) : (digS w f e).1.length ≤ w.length + f.length := by
  have a1 := tl_len w
  have a2 := tl_len f
  unfold digS
  split
  · split
    · simp
    · have := tr_len (tl f); simp only; omega
  · split
    · simp
    · have := tr_len (tl w ++ f); rw [List.length_append] at this; simp only; omega
/-! V -/
theorem vE_len : ∀ (n : Nat) (l : List UInt8), (vEF n l).length ≤ 12 * l.length + 2
  | 0, l => by
    have : (hdE []).length = 2 := by decide +kernel
    unfold vEF; omega
  | n + 1, l => by
    have h0 : (hdE []).length = 2 := by decide +kernel
    unfold vEF
    split
    · omega
    · rename_i hl
      have h1 := pr_len l
      have h2 := pr_short hl
      have h3 := vE_len n (pr3 l)
      have h4 := tl_len (pr2 l)
      have h5 : (rnE (pr2 l)).length ≤ 9 + (pr2 l).length := by
        unfold rnE
        split
        · simp only [List.length_cons, List.length_nil]; omega
        · simp only [List.length_append, e8_len, List.length_cons, List.length_nil]; omega
      unfold hdE
      simp only [List.length_append, List.length_map, List.length_cons, List.length_nil]
      omega
theorem ver_l1 (d w3 : List UInt8) (hb : d.length < 100000000) (v : ByteArray) : ∀ (r : List UInt8) (l w : List UInt8), (∀ c ∈ r, isDg c = false) → l.length + r.length < 100000000 → w.length + r.length < 100000000 →
    Ev (fun k => numeral_version.l0 k (mkB w3) (nms (l ++ (r.map rkU ++ ([2] ++ rnE d))))) v →
    Ev (fun k => numeral_version.l1 k (nms l) (mkB (w ++ r)) (mkB d) (mkB w3) ((w.length + r.length : Nat) : Int) (w.length : Int)) v
  | [], l, w, hr, hl, hw, h => by
    refine Ev.succ ?_
    simp only [numeral_version.l1, toList_mk, Option.bind_some]
    refine Ev.neg (by simp) (Ev.pos (by rw [nms_len]; omega) ?_)
    rw [nms_one 2 (by decide), nms_app, show toB 2 = 2 from rfl]
    unfold rnE at h
    by_cases h0 : d = []
    · rw [if_pos h0] at h
      refine Ev.pos h0 (Ev.pos (by rw [nms_len]; simp; omega) ?_)
      rw [nms_one 0 (by decide), nms_app, show toB 0 = 0 from rfl, List.append_assoc]
      exact h
    · rw [if_neg h0] at h
      have ht := tl_len d
      refine Ev.neg h0 (Ev.bind (TrimLeft_ev d (by rw [big_eq]; omega)) (Ev.pos (by rw [nms_len]; simp; omega) ?_))
      have hk : IntKind.u64.wrap (((mkB (tl d)).size : Int)) = (((tl d).length : Nat) : Int) := by
        have e : ∀ y : Int, IntKind.u64.wrap y = y % 18446744073709551616 := fun y => rfl
        rw [e, size_mk]
        omega
      simp only [hk]
      rw [nms_one 1 (by decide), nms_app, show toB 1 = 1 from rfl]
      refine Ev.bind (eight_ev _) ?_
      simp only [nms_app, nms_len, size_mk, bytesOf_mk]
      refine Ev.pos (by simp [e8_len]; omega) (Ev.pos (by simp [e8_len]; omega) ?_)
      simp only [List.append_assoc, List.map_nil, List.nil_append] at h ⊢
      exact h
  | c :: r, l, w, hr, hl, hw, h => by
    have hb2 : bt (mkB (w ++ c :: r)) (w.length : Int) = (c.toNat : Int) := by
      have hlt : w.length < (L (mkB (w ++ c :: r))).length := by rw [L_mk]; simp
      rw [bt_nat _ _ hlt]
      simp [L_mk]
    have hk := rk_ok c (hr c (by simp))
    refine Ev.succ ?_
    simp only [numeral_version.l1, hb2, rank_f, Option.bind_some, w64_succ (i := w.length) (by simp at hw; omega)]
    refine Ev.pos (by simp; omega) (Ev.pos (by omega) (Ev.pos (by rw [size_mk]; simp; omega) (Ev.pos (by rw [nms_len]; simp at hl; omega) ?_)))
    rw [nms_one _ hk.1, nms_app]
    have ih := ver_l1 d w3 hb v r (l ++ [toB (rkB c)]) (w ++ [c]) (fun x hx => hr x (by simp [hx])) (by simp at hl ⊢; omega) (by simp at hw ⊢; omega) (by
      rw [List.append_assoc]
      exact h)
    simp only [List.append_assoc, List.length_append, List.length_cons, List.length_nil, List.singleton_append] at ih
    rw [show w.length + (c :: r).length = w.length + (0 + 1) + r.length by simp; omega]
    exact ih
theorem ver_l0 : ∀ (n : Nat) (s l : List UInt8), s.length < n → l.length + (12 * s.length + 2) < 90000000 → Ev (fun k => numeral_version.l0 k (mkB s) (nms l)) (mkB (l ++ vEF n s))
  | 0, s, l, h, _ => by omega
  | n + 1, s, l, h, hl => by
    have h0 : hdE [] = [2, 0] := by decide +kernel
    refine Ev.succ ?_
    simp only [numeral_version.l0, toList_mk]
    unfold vEF
    by_cases hs : s = []
    · rw [if_pos hs, h0]
      refine Ev.pos hs ?_
      simp only [Option.bind_some]
      rw [show ([2, 0] : List Int) = nms [2, 0] from rfl, nms_app]
      refine Ev.pos (by rw [nms_len, nms_len]; simp; omega) (Ev.done (str_nms _))
    · rw [if_neg hs]
      have h1 := pr_len s
      have h2 := pr_short hs
      refine Ev.neg hs (Ev.bind (pair_ev (mkB s) (by rw [size_mk, big_eq]; omega)) ?_)
      rw [L_mk, size_mk]
      have ht := tl_len (pr2 s)
      have hr : (rnE (pr2 s)).length ≤ 9 + (pr2 s).length := by
        unfold rnE
        split
        · simp only [List.length_cons, List.length_nil]; omega
        · simp only [List.length_append, e8_len, List.length_cons, List.length_nil]; omega
      have ih := ver_l0 n (pr3 s) (l ++ ((pr1 s).map rkU ++ ([2] ++ rnE (pr2 s)))) (by omega) (by simp only [List.length_append, List.length_map, List.length_cons, List.length_nil]; omega)
      have := ver_l1 (pr2 s) (pr3 s) (by omega) _ (pr1 s) l [] (pr1_no s) (by omega) (by simp; omega) ih
      simp only [List.nil_append, List.length_nil, Nat.zero_add] at this
      refine Ev.val this ?_
      unfold hdE
      simp only [List.append_assoc]
theorem version_ev (s : ByteArray) (hs : s.size < 7000000) : Ev (fun k => numeral_version.f k s) (mkB (vE (L s))) := by
  unfold numeral_version.f vE
  have := ver_l0 ((L s).length + 1) (L s) [] (by omega) (by rw [L_len]; simp; omega)
  rw [mk_L, List.nil_append] at this
  exact this
/-! any other kind -/
theorem esc_len : ∀ l : List UInt8, (escE l).length ≤ 2 * l.length + 1
  | [] => by decide +kernel
  | c :: r => by
    have := esc_len r
    unfold escE
    rw [List.length_append, List.length_cons]
    split
    · simp; omega
    · split <;> simp <;> omega
theorem esc_l0 (s : ByteArray) (hs : s.size < 10000000) : ∀ (r : List UInt8) (i : Nat) (l : List UInt8), (L s).drop i = r → i ≤ s.size → l.length ≤ 2 * i → Ev (fun k => numeral_Embed.l0 k s (nms l) (s.size : Int) (i : Int)) (mkB (l ++ escE r))
  | [], i, l, h, hi, hl => by
    have := drop_nil h
    refine Ev.succ ?_
    simp only [numeral_Embed.l0]
    refine Ev.neg (by omega) (Ev.pos (by rw [nms_len]; omega) (Ev.done ?_))
    rw [nms_one 0 (by decide), nms_app, str_nms]
    rfl
  | c :: r, i, l, h, hi, hl => by
    obtain ⟨h1, h2, h3⟩ := drop_cons h
    have hc := c.toNat_lt
    have tb : ∀ c : UInt8, toB (c.toNat : Int) = c := fun c => by unfold toB; rw [Int.toNat_natCast, UInt8.ofNat_toNat]
    refine Ev.succ ?_
    simp only [numeral_Embed.l0, h2]
    refine Ev.pos (by omega) (Ev.pos (by omega) (Ev.pos (by omega) ?_))
    unfold escE
    by_cases h4 : (c.toNat : Int) < 2
    · refine Ev.pos h4 (Ev.pos (by rw [nms_len]; omega) (Ev.succ ?_))
      rw [nms_one 1 (by decide), nms_app]
      simp only [numeral_Embed.j2, h2, w64_succ (i := i) (by omega)]
      refine Ev.pos (by omega) (Ev.pos (by omega) ?_)
      by_cases h5 : (c.toNat : Int) = 0
      · have e : c = 0 := u8_eq (d := 0) h5
        refine Ev.pos h5 (Ev.pos (by rw [nms_len]; simp; omega) ?_)
        rw [nms_one 1 (by decide), nms_app, if_pos e]
        refine Ev.val (esc_l0 s hs r (i + 1) _ h3 (by omega) (by simp; omega)) ?_
        simp only [List.append_assoc]
        rfl
      · have e : c = 1 := u8_eq (d := 1) (by show (c.toNat : Int) = 1; omega)
        refine Ev.neg h5 (Ev.pos (by omega) (Ev.pos (by rw [nms_len]; simp; omega) ?_))
        rw [nms_one 2 (by decide), nms_app, if_neg (by rw [e]; decide), if_pos e]
        refine Ev.val (esc_l0 s hs r (i + 1) _ h3 (by omega) (by simp; omega)) ?_
        simp only [List.append_assoc]
        rfl
    · refine Ev.neg h4 (Ev.succ ?_)
      simp only [numeral_Embed.j2, h2, w64_succ (i := i) (by omega)]
      refine Ev.pos (by omega) (Ev.pos (by omega) (Ev.neg (by omega) (Ev.neg (by omega) (Ev.pos (by rw [nms_len]; omega) ?_))))
      rw [nms_one _ (by omega), nms_app, tb, if_neg (by rintro rfl; exact h4 (by decide)), if_neg (by rintro rfl; exact h4 (by decide))]
      refine Ev.val (esc_l0 s hs r (i + 1) _ h3 (by omega) (by simp; omega)) ?_
      simp only [List.append_assoc]
theorem Embed_ev (kind : Int) (s : ByteArray) (hs : s.size < 2000000) : Ev (fun k => numeral_Embed.f k kind s) (mkB (embE kind s)) := by
  have hb : s.size < 2305843009213693952 := by omega
  have hbb : s.size < big := by rw [big_eq]; omega
  have key : ∀ c : Bool, c = decide (kind = 16 ∨ kind = 64) → Ev (fun k => numeral_Embed.j0 k kind s kind c) (mkB (embE kind s)) := by
    intro c hc
    refine Ev.succ ?_
    simp only [numeral_Embed.j0]
    unfold embE
    by_cases h1 : kind = 16 ∨ kind = 64
    · rw [if_pos h1]
      refine Ev.pos (by rw [hc, decide_eq_true h1]) (Ev.bind (human_ev kind s hb) ?_)
      have hok := huS_ok kind h1 s (by omega)
      have hdl : (huS kind s).2.2.2.length < 10000000 := by
        obtain ⟨f1, f2, f3⟩ := humS_fields s
        obtain ⟨l1, l2⟩ := dec_len s
        have hh : (huS kind s).2.2.2.length ≤ (digS (humS s).1.2.1 (humS s).1.2.2.1 0).1.length := by
          unfold huS szS
          split <;> simp
        have := digS_len (humS s).1.2.1 (humS s).1.2.2.1 0
        rw [f2, f3] at this hh
        omega
      have := number_ev (decide (kind = 64)) (huS kind s) hok hdl
      rw [show (kind == 64) = decide (kind = 64) from rfl]
      exact Ev.bind this (Ev.pure _)
    rw [if_neg h1]
    refine Ev.neg (by rw [hc, decide_eq_false h1]; decide) ?_
    by_cases h2 : kind = 32
    · rw [if_pos h2]
      refine Ev.pos h2 (Ev.bind (General_ev s hb) ?_)
      have hok := genS_ok s (by omega)
      have hgl : (genS (L s)).2.2.1.length < 10000000 := by
        have hn : ((L s).drop (genN (L s))).length ≤ s.size := by rw [List.length_drop, L_len]; omega
        unfold genS genB
        split
        · simp
        · split
          · simp
          · split
            · simp
            · split
              · simp
              · have p1 := pl1_len ((L s).drop (genN (L s)))
                have p2 := pl2_len ((L s).drop (genN (L s)))
                generalize (plS ((L s).drop (genN (L s)))).1 = w at *
                generalize (plS ((L s).drop (genN (L s)))).2.1 = f at *
                simp only
                have := digS_len w f (expS (((L s).drop (genN (L s))).drop (plS ((L s).drop (genN (L s)))).2.2)).1
                omega
      unfold gnV gE
      generalize genS (L s) = g at *
      simp only []
      rcases hok.cls with h | h | h | h | h
      · simp only [h, Int.reduceEq, if_true, if_false]
        exact Ev.done (by rw [nms_one 16 (by decide), str_nms]; rfl)
      · simp only [h, Int.reduceEq, if_true, if_false]
        exact Ev.done (by rw [nms_one 32 (by decide), str_nms]; rfl)
      · simp only [h, Int.reduceEq, if_true, if_false]
        exact Ev.done (by rw [nms_one 48 (by decide), str_nms]; rfl)
      · simp only [if_pos h, sizeOf_f, Option.bind_some]
        have hz : SzOk false (szS g.2.1 g.2.2.1 g.2.2.2.1 0) := szS_ok hok.dig hok.exp (by omega) (fun _ => rfl)
        have hzl : (szS g.2.1 g.2.2.1 g.2.2.2.1 0).2.2.2.length < 10000000 := by
          unfold szS
          split
          · simp
          · exact hgl
        exact Ev.bind (number_ev false _ hz hzl) (Ev.pure _)
      · simp only [h, Int.reduceEq, if_true, if_false]
        exact Ev.done (by rw [nms_one 112 (by decide), str_nms]; rfl)
    rw [if_neg h2]
    refine Ev.neg h2 ?_
    by_cases h3 : kind = 128
    · rw [if_pos h3]
      refine Ev.pos h3 (Ev.bind (Month_ev s hbb) (Ev.done ?_))
      have := monS_le (L s)
      rw [show ((monS (L s) : Nat) : Int) % 256 = (monS (L s) : Int) by omega, nms_one _ (by omega), str_nms]
    rw [if_neg h3]
    refine Ev.neg h3 ?_
    by_cases h4 : kind = 256
    · rw [if_pos h4]
      exact Ev.pos h4 (Ev.bind (version_ev s (by omega)) (Ev.pure _))
    rw [if_neg h4]
    refine Ev.neg h4 ?_
    have := esc_l0 s (by omega) (L s) 0 [] rfl (Nat.zero_le _) (by simp)
    rw [List.nil_append] at this
    exact this
  unfold numeral_Embed.f
  refine Ev.ite (fun h => ?_) (fun h => ?_)
  · exact key _ (by simp [h])
  · exact key _ (by
      by_cases h' : kind = 64
      · simp [h']
      · simp [h, h'])
end Go.Proofs.YtcdajedmlfhmeaaDoor.XN
end

section
/- NumeralEmbedding, the plain law, up to a bulk: Embed turns each kind's order into the bytewise one, and none is a proper beginning of another. (by this session) -/
-- NEEDS milllaw3_NumeralEmbedding millref3_Bytes millref3_ints milllaw3_begins
set_option linter.unusedVariables false
set_option linter.unusedSimpArgs false
namespace Go.Proofs.YtcdajedmlfhmeaaDoor.XN
open Go.RowKit Go.Proofs.YtcdajedmlfhmeaaDoorW.PrintWords Go.Proofs.YtcdajedmlfhmeaaDoorW.PrintMore
theorem ints_f (a b : Int) : millref3_ints.f a b = some (cmpI a b) := by
  unfold millref3_ints.f cmpI
  split
  · rfl
  · split <;> rfl
theorem Bytes_l0 (s t : ByteArray) (hs : s.size < 1000000000) (ht : t.size < 1000000000) : ∀ (l m : List UInt8) (i : Nat), (L s).drop i = l → (L t).drop i = m → i ≤ s.size → i ≤ t.size →
    Ev (fun k => millref3_Bytes.l0 k s t (i : Int)) (bcmp l m)
  | [], m, i, h1, h2, hi, hj => by
    have a1 := drop_nil h1
    have hm : m.length = t.size - i := by rw [← h2, List.length_drop, L_len]
    refine Ev.succ ?_
    simp only [millref3_Bytes.l0]
    refine Ev.neg (by omega) (Ev.succ ?_)
    simp only [millref3_Bytes.j1, ints_f, Option.bind_some]
    refine Ev.neg (by decide) (Ev.done ?_)
    cases m with
    | nil => rw [bcmp_nn, show (s.size : Int) = (t.size : Int) by simp at hm; omega, cmpI_self]
    | cons b m => rw [bcmp_nc, cmpI_lt (by simp at hm; omega)]
  | a :: l, [], i, h1, h2, hi, hj => by
    have a1 := drop_nil h2
    obtain ⟨b1, b2, b3⟩ := drop_cons h1
    refine Ev.succ ?_
    simp only [millref3_Bytes.l0]
    refine Ev.pos (by omega) (Ev.succ ?_)
    simp only [millref3_Bytes.j1, ints_f, Option.bind_some]
    refine Ev.neg (by simp; omega) (Ev.done ?_)
    rw [bcmp_cn, cmpI_gt (by omega)]
  | a :: l, b :: m, i, h1, h2, hi, hj => by
    obtain ⟨b1, b2, b3⟩ := drop_cons h1
    obtain ⟨c1, c2, c3⟩ := drop_cons h2
    have wa : wrap64 (a.toNat : Int) = (a.toNat : Int) := w64 (by have := u8_lt a; omega)
    have wb : wrap64 (b.toNat : Int) = (b.toNat : Int) := w64 (by have := u8_lt b; omega)
    refine Ev.succ ?_
    simp only [millref3_Bytes.l0]
    refine Ev.pos (by omega) (Ev.succ ?_)
    simp only [millref3_Bytes.j1, ints_f, Option.bind_some, b2, c2, wa, wb, w64_succ (i := i) (by omega)]
    refine Ev.pos (by simp; omega) (Ev.pos (by omega) (Ev.pos (by omega) (Ev.pos (by omega) (Ev.ite (fun h => ?_) (fun h => ?_)))))
    · have e := u8_eq h
      subst e
      rw [bcmp_cc, if_neg (u8_irr a), if_neg (u8_irr a)]
      exact Bytes_l0 s t hs ht l m (i + 1) b3 c3 (by omega) (by omega)
    · refine Ev.done ?_
      rw [bcmp_cc]
      rcases u8_tri a b with h' | h' | h'
      · rw [if_pos h', cmpI_lt (by rw [UInt8.lt_iff_toNat_lt] at h'; omega)]
      · rw [if_neg (u8_asym h'), if_pos h', cmpI_gt (by rw [UInt8.lt_iff_toNat_lt] at h'; omega)]
      · exact absurd (by rw [h']) h
theorem Bytes_ev (s t : ByteArray) (hs : s.size < 1000000000) (ht : t.size < 1000000000) : Ev (fun k => millref3_Bytes.f k s t) (bcmp (L s) (L t)) := by
  unfold millref3_Bytes.f
  exact Bytes_l0 s t hs ht (L s) (L t) 0 rfl rfl (Nat.zero_le _) (Nat.zero_le _)
theorem begins_f (l m : List UInt8) (h : ¬ m <+: l) : milllaw3_begins.f (mkB l) (mkB m) = some false := by
  unfold milllaw3_begins.f
  simp only [size_mk]
  split
  · rename_i hl
    rw [if_pos (by omega), Int.toNat_natCast, extract_front, L_mk, toList_mk, toList_mk]
    congr 1
    rw [beq_eq_false_iff_ne]
    intro e
    refine h ⟨l.drop m.length, ?_⟩
    have h2 := List.take_append_drop m.length l
    rw [e] at h2
    exact h2
  · rfl
theorem emb_len (kind : Int) (s : ByteArray) (hs : s.size < 2000000) : (embE kind s).length < 1000000000 := by
  have hsz := hs
  unfold embE
  have hn : ∀ (le : Bool) (z : Sz), z.2.2.2.length < 10000000 → (numE le z).length < 1000000000 := by
    intro le z hz
    have hzl : (zb le z).length ≤ z.2.2.2.length + 10 := by
      unfold zb
      simp only [List.length_append, e8_len, List.length_cons, List.length_nil]
      split <;> simp <;> omega
    unfold numE
    split
    · simp
    · split
      · simp; omega
      · simp; omega
  split
  · refine hn _ _ ?_
    obtain ⟨f1, f2, f3⟩ := humS_fields s
    obtain ⟨l1, l2⟩ := dec_len s
    have hh : (huS kind s).2.2.2.length ≤ (digS (humS s).1.2.1 (humS s).1.2.2.1 0).1.length := by
      unfold huS szS
      split <;> simp
    have := digS_len (humS s).1.2.1 (humS s).1.2.2.1 0
    rw [f2, f3] at this hh
    omega
  · split
    · unfold gE
      split
      · refine hn _ _ ?_
        have hd : (genS (L s)).2.2.1.length ≤ 2 * s.size := by
          have hn : ((L s).drop (genN (L s))).length ≤ s.size := by rw [List.length_drop, L_len]; omega
          unfold genS genB
          split
          · simp
          · split
            · simp
            · split
              · simp
              · split
                · simp
                · have p1 := pl1_len ((L s).drop (genN (L s)))
                  have p2 := pl2_len ((L s).drop (genN (L s)))
                  simp only
                  have := digS_len (plS ((L s).drop (genN (L s)))).1 (plS ((L s).drop (genN (L s)))).2.1 (expS (((L s).drop (genN (L s))).drop (plS ((L s).drop (genN (L s)))).2.2)).1
                  omega
        unfold szS
        split
        · simp
        · simp only; omega
      · split
        · simp
        · split
          · simp
          · split <;> simp
    · split
      · simp
      · split
        · have := vE_len ((L s).length + 1) (L s)
          unfold vE
          rw [L_len] at *
          omega
        · have := esc_len (L s)
          rw [L_len] at this
          omega
theorem emb_ne (kind : Int) (s : ByteArray) : embE kind s ≠ [] := by
  have hn : ∀ (le : Bool) (z : Sz), numE le z ≠ [] := by
    intro le z
    unfold numE
    split
    · simp
    · split <;> simp
  have hv : ∀ n l, vEF n l ≠ [] := by
    intro n l
    cases n with
    | zero => unfold vEF; decide +kernel
    | succ n =>
      unfold vEF
      split
      · decide +kernel
      · unfold hdE; simp
  unfold embE
  split
  · exact hn _ _
  · split
    · unfold gE
      split
      · exact hn _ _
      · split
        · simp
        · split
          · simp
          · split <;> simp
    · split
      · simp
      · split
        · exact hv _ _
        · cases L s with
          | nil => decide +kernel
          | cons c r =>
            unfold escE
            split
            · simp
            · split <;> simp
theorem NumeralEmbedding_ev (kind : Int) (a b : ByteArray) (ha : a.size ≤ 1048576) (hb : b.size ≤ 1048576) : Ev (fun k => milllaw3_NumeralEmbedding.f k kind a b) true := by
  have cp := emb_cp kind a b (by omega) (by omega)
  have n1 := emb_ne kind a
  have n2 := emb_ne kind b
  have l1 := emb_len kind a (by omega)
  have l2 := emb_len kind b (by omega)
  have hout := cp.out
  have key : Ev (fun k => milllaw3_NumeralEmbedding.j1 k kind a b (mkB (embE kind a)) (mkB (embE kind b)) false) true := by
    refine Ev.succ ?_
    simp only [milllaw3_NumeralEmbedding.j1]
    refine Ev.neg (by decide) (Ev.bind (Bytes_ev _ _ (by rw [size_mk]; omega) (by rw [size_mk]; omega)) (Ev.bind (Compare_ev kind a b (by omega) (by omega)) (Ev.done ?_)))
    rw [L_mk, L_mk, hout]
    simp
  unfold milllaw3_NumeralEmbedding.f
  refine Ev.bind (Embed_ev kind a (by omega)) (Ev.bind (Embed_ev kind b (by omega)) ?_)
  simp only [toList_mk]
  refine Ev.neg n1 (Ev.neg n2 (Ev.bind alive_ev (Ev.succ ?_)))
  simp only [milllaw3_NumeralEmbedding.j0, toList_mk]
  refine Ev.neg (by decide) (Ev.ite (fun h => key) (fun h => ?_))
  have hf := cp.free h
  rw [begins_f _ _ hf.2, begins_f _ _ hf.1]
  simp only [Option.bind_some]
  exact Ev.neg (by decide) key
end Go.Proofs.YtcdajedmlfhmeaaDoor.XN
namespace Go.Proofs.YtcdajedmlfhmeaaDoor.Pure
theorem NumeralEmbedding (kind : Int) (a b : ByteArray) (hk : (Lit.int .u16 kind).wf = true) (ha : a.size ≤ 1048576) (hb : b.size ≤ 1048576) : ∃ k, XN.milllaw3_NumeralEmbedding.f k kind a b = some true := (XN.NumeralEmbedding_ev kind a b ha hb).ex
end Go.Proofs.YtcdajedmlfhmeaaDoor.Pure
end

section
/- The card of NumeralEmbedding (second form): the law answers true at every input up to the given bulk. Conditions: none beyond the row's own. -/
set_option linter.unusedVariables false
set_option linter.unusedSimpArgs false
namespace Go.Proofs.YtcdajedmlfhmeaaDoor.numeralEmbedding
open Go.ChangeShapes Go.WideShapes Go.ChangeAt Go.RowKit
open Go.ChangeMaps (open_string shut_string)
theorem own : ownKnob Tryd.prog.godebug = none := by kernel_rfl
set_option maxRecDepth 100000 in
/-- What the walk gives, at every argument and every world that holds the listed variables. -/
theorem contract (H : Type) (enc : TypeId × Value → H) (W : World) (args : Array Value) (ds gs : List (DataW H)) (before : List MemPlace) (base : Nat)
    (hval0 : ∀ (j : Nat) t v, Tryd.f14.params[j]? = some t → args[j]? = some v → Value.okWide Tryd.prog W .any base t v)
    (hW : DataW.Whole enc Tryd.prog Tryd.f14.params.toList Rows.numeralEmbeddingSpec.vars false W args.toList ds gs before)
    (hsz0 : (DataW.weightsEach Tryd.prog (Tryd.f14.params.toList ++ Rows.numeralEmbeddingSpec.plain.varTypes Tryd.prog) (ds ++ gs)).all (· ≤ reachBytes) = true)
    (hL : laidMetH Tryd.prog Rows.numeralEmbeddingUptoRow.laid W) (hS : W.ShapedOpen Tryd.prog) (hk0 : Rows.uptoSmall H (ds ++ gs) = true) :
    Calls Tryd.prog 14 args W fun e W' => ∃ v, e = .returned v ∧ Rows.numeralEmbeddingSpec.post enc Tryd.prog Tryd.f14 false true false false W args v W' := by
  have hGL : XN.GOK W := XN.gok_of hL (by kernel_rfl) hS 1 2 rfl rfl
  have hsz : (DataW.weightsEach Tryd.prog (Tryd.f14.params.toList ++ Rows.numeralEmbeddingSpec.plain.varTypes Tryd.prog) (ds ++ gs)).all (· ≤ reachBytes) = true := hsz0
  have hval : ∀ (j : Nat) t v, Tryd.f14.params[j]? = some t → args[j]? = some v → Value.okWide Tryd.prog W .any base t v := hval0
  have hW' := hW
  obtain ⟨p, q, hA0, hV, rfl, hfz, hnd⟩ := hW
  have hA : DataW.TrodAll enc Tryd.prog W 0 (fun _ => true) true Tryd.f14.params.toList args.toList ds p := hA0
  rw [Tryd.params14] at hA hval hsz
  obtain ⟨v0, vs0, d0, ds0, p0, q0, hargs, rfl, rfl, h0, r0⟩ := trodAll_cons hA
  obtain ⟨v1, vs1, d1, ds1, p1, q1, rfl, rfl, rfl, h1, r1⟩ := trodAll_cons r0
  obtain ⟨v2, vs2, d2, ds2, p2, q2, rfl, rfl, rfl, h2, r2⟩ := trodAll_cons r1
  obtain ⟨rfl, rfl, rfl⟩ := trodAll_nil r2
  obtain rfl : args = #[v0, v1, v2] := by cases args; simp_all
  obtain ⟨rfl, rfl⟩ := trodVars_none hV
  obtain ⟨a0, rfl, rfl, rfl, w0⟩ := open_int Tryd.underlying39 (hval 0 39 v0 rfl rfl) h0
  obtain ⟨a1, rfl, rfl, rfl, y1⟩ := open_string Tryd.underlying9 (hval 1 9 v1 rfl rfl) h1
  have w1 : a1.size ≤ 140737488351232 := by
    have z := sized_string hsz (j := 1) (t := 9) rfl rfl
    rw [Array.length_toList] at z
    exact z
  obtain ⟨a2, rfl, rfl, rfl, y2⟩ := open_string Tryd.underlying9 (hval 2 9 v2 rfl rfl) h2
  have w2 : a2.size ≤ 140737488351232 := by
    have z := sized_string hsz (j := 2) (t := 9) rfl rfl
    rw [Array.length_toList] at z
    exact z
  have hk1 : Rows.uptoBulkAll _ ≤ 1048576 := of_decide_eq_true hk0
  simp only [List.append_nil, List.cons_append, List.nil_append, Rows.uptoBulkAll, Rows.uptoBulk, Array.length_toList] at hk1
  have u1 : a1.size ≤ 1048576 := by
    have e : a1.data.size = a1.size := rfl
    omega
  have u2 : a2.size ≤ 1048576 := by
    have e : a2.data.size = a2.size := rfl
    omega
  obtain ⟨k, hkk⟩ := Pure.NumeralEmbedding a0 a1 a2 w0 u1 u2
  clear hA0 hval0 hsz0 hsz
  refine (XN.milllaw3_NumeralEmbedding.calls k a0 a1 a2 true W hGL hkk).mono fun e W' ⟨he, bel⟩ => ?_
  subst he
  exact ⟨_, rfl, _, _, _, [], _, [], hW', trodAll_mk1 (shut_bool Tryd.underlying4 _), (trodAll_cons_mk (shut_int Tryd.underlying39 w0) (trodAll_cons_mk (shut_string Tryd.underlying9 y1) (trodAll_cons_mk (shut_string Tryd.underlying9 y2) trodAll_mk0))), rfl, bel.frame _, fun h => by cases h⟩
set_option maxRecDepth 100000 in
theorem lifted (os : Os) (started : os.Started) (H : Type) (enc : TypeId × Value → H) (F : Stop.Interp) :
    ReturnsInHanded {} Tryd.checked os 14 .any ((Rows.OpenSpec.upto Rows.numeralEmbeddingSpec).preRow enc Tryd.prog Tryd.f14 Rows.numeralEmbeddingUptoRow.domain false Rows.numeralEmbeddingUptoRow.laid) (((Rows.OpenSpec.upto Rows.numeralEmbeddingSpec).at F).post enc Tryd.prog Tryd.f14 false true false false) := by
  have hx : ∃ places, DataW.whole enc Tryd.prog ((World.laidAll Tryd.prog os Rows.numeralEmbeddingUptoRow.laid).forCall (fun _ _ => 0) ⟨#[], #[.int .u16 0, .string ⟨#[]⟩, .string ⟨#[]⟩], []⟩).memory Tryd.f14.params.toList Rows.numeralEmbeddingSpec.vars false (#[.int .u16 0, .string ⟨#[]⟩, .string ⟨#[]⟩] : Array Value).toList 8 = some ([.lit (.int .u16 0), .lit (.string []), .lit (.string [])], [], places) :=
    ⟨[], by kernel_rfl⟩
  obtain ⟨places, hx⟩ := hx
  refine returnsInHanded_of_row (C := Tryd.checked) (s := (Rows.OpenSpec.upto Rows.numeralEmbeddingSpec)) own started (by kernel_rfl) Tryd.func14
    (witness_row_at (enc := enc) (C := Tryd.checked) false (World.laidAll Tryd.prog os Rows.numeralEmbeddingUptoRow.laid) #[.int .u16 0, .string ⟨#[]⟩, .string ⟨#[]⟩] (World.laidAll_os _ _ _) (by kernel_rfl) (by kernel_rfl) (by kernel_rfl)
      (OpenSpec.preRow_of_cond 8 hx (by kernel_rfl) (fun k hk => by cases hk; kernel_rfl) (by kernel_rfl) (laidMet_laidAll _ (by kernel_rfl) (by kernel_rfl)))) ?_
  intro W base args ds gs before hval hW h1 h2 hsz hL hS h3
  exact contract H enc W args ds gs before base hval hW hsz hL hS (by first | exact h1 _ rfl | exact h2 _ rfl | exact h3 _ rfl)
theorem said : Rows.NumeralEmbeddingUptoSaid :=
  OpenClaim.holds_of_cond 14 Tryd.f14 rfl rfl rfl rfl rfl rfl rfl ⟨rfl, rfl, rfl, rfl, rfl⟩ rfl rfl rfl rfl rfl (by kernel_rfl) Tryd.func14 (by kernel_rfl)
    (of_decide_eq_true (by kernel_rfl)) (by unfold Func.isWrapper; first | (rw [if_pos (by decide +kernel)]; kernel_rfl) | (rw [if_neg (by decide +kernel)]; exact ⟨rfl, rfl⟩))
    (fun os started H enc _ F => by rw [OpenClaim.pre_eq_preRow]; exact lifted os started H enc F)
theorem plain (f : FuncId) (fn : Func) (hf : Tryd.pinned.checked.prog.funcNamed "mill/milllaw3.NumeralEmbedding" = some f) (hfn : Tryd.pinned.checked.prog.funcs[f]? = some fn) :
    false = Tryd.pinned.checked.prog.looks [] ∧ ∀ (j : Nat) t, fn.params[j]? = some t → Tryd.pinned.checked.prog.wantsStandIn t = false := by
  obtain rfl : f = 14 := Option.some.inj ((show Tryd.prog.funcNamed "mill/milllaw3.NumeralEmbedding" = some 14 by kernel_rfl).symm.trans hf) |>.symm
  obtain rfl : fn = Tryd.f14 := (Option.some.inj (Tryd.func14.symm.trans hfn)).symm
  refine ⟨by kernel_rfl, fun j t ht => ?_⟩
  rw [Tryd.params14] at ht
  have hm := Array.mem_of_getElem? ht
  simp only [List.mem_toArray, List.mem_cons, List.not_mem_nil, or_false] at hm
  rcases hm with rfl | rfl | rfl
  · exact (show Tryd.prog.wantsStandIn 39 = false by kernel_rfl)
  · exact (show Tryd.prog.wantsStandIn 9 = false by kernel_rfl)
  · exact (show Tryd.prog.wantsStandIn 9 = false by kernel_rfl)
theorem card : Rows.NumeralEmbeddingUptoCardSaid :=
  Claim7.holds_tied_plain_at .later [] _ _ _ _ said (fun _ h => by cases h) (by kernel_rfl) (fun _ h => by cases h) numeralEmbeddingUpto_row_tie rfl ⟨rfl, rfl⟩ (by kernel_rfl) rfl plain (by kernel_rfl)
#print axioms card
end Go.Proofs.YtcdajedmlfhmeaaDoor.numeralEmbedding
namespace Go.Proofs.YtcdajedmlfhmeaaDoor
/-- The card, under a short name, for the claim. -/
theorem numeralEmbedding_card : Rows.NumeralEmbeddingUptoCardSaid := numeralEmbedding.card
end Go.Proofs.YtcdajedmlfhmeaaDoor
end
