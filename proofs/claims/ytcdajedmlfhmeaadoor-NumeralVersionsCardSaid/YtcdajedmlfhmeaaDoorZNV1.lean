import Derived.Test.YtcdajedmlfhmeaaDoorZNV0
import Derived.Laws.StructEq
import Derived.Test.YtcdajedmlfhmeaaDoorProg
import Derived.Below
import Derived.Deep.Draws
import Derived.Deep.AppendLies
import Derived.Maps.AppendAt
import Derived.OwnWalk
import Derived.Laws.BytesArg
import Derived.Laws.MakeOwn
import Derived.Laws.OwnMore
import Derived.Deep.OwnRows
import Derived.Tactics
import Derived.Lib.ConvBytes
import Derived.Laws.Slices
import Derived.WalkKit
import Derived.KernelRfl
import Derived.RowKit3
import Derived.Deep.LoopGhost
import Derived.Deep.QuietTactic
import Derived.BigQuiet
import Derived.WideLaws
import Derived.Deep.DeepCutAuto
import Derived.Deep.CutBlock
import Derived.Deep.RegionHeld3
import Derived.Laws.Rows
import Derived.Lib.AppendStr
import Derived.ArgAppend
import Derived.Laws.IdiomCopy
import Derived.OrdersHeld
import Derived.Laws.BitsLemmas
import Derived.RowKit
import Derived.Lib.Bytealg
import Derived.Test.YtcdajedmlfhmeaaDoorRows
import Derived.Deep.DeepHandedRow
import Derived.Lib.LaidTab
import Derived.Lay
import Derived.MakeChecks
import Derived.LaidSub
/-! ### 54. Behind orders that were drawn quietly: the same facts at the world's new name; a flat row's foot -/
namespace Go.Proofs.YtcdajedmlfhmeaaDoorW.PrintWords
open Go.RowKit
section
variable {w w' u : World} {m B g : Nat} {o : Obj} {row : Option Nat} {S : Nat → Prop} {a : Addr} {v : Value}
end
namespace Kd
section
variable {α : Type} {d : Kd α} {e base n m : Nat} {ok : Nat → Prop} {w w' : World} {v : Value} {A : Option Addr} {xs : List α}
end
end Kd
end Go.Proofs.YtcdajedmlfhmeaaDoorW.PrintWords

/-! ### 53. '==' of structs as_ one Bool -/
namespace Go.Proofs.YtcdajedmlfhmeaaDoorW.PrintWords
open Go.RowKit
section
variable {P : Program} {d : Nat} {xs ys : Array Value} {f : Field} {fs : List Field} {a b : Value} {r s : Bool} {w : World}
end
end Go.Proofs.YtcdajedmlfhmeaaDoorW.PrintWords

/-! ### 55. Reps told from the front, no append: for rows of one-cell elements and of wider ones -/
namespace Go.Proofs.YtcdajedmlfhmeaaDoorW.PrintWords
/-- One cell an element. -/
theorem Reps.one {α : Type} {R : α → List Value → Prop} {ps : List α} {cs : List Value} {p : α} {v : Value} (hp : R p [v]) (h : Reps R 1 ps cs) : Reps R 1 (p :: ps) (v :: cs) := by
  refine ⟨by simp [h.1], fun j q hq => ?_⟩
  cases j with
  | zero =>
    simp only [List.getElem?_cons_zero, Option.some.injEq] at hq
    subst hq
    simpa using hp
  | succ j =>
    simp only [List.getElem?_cons_succ] at hq
    have h1 := h.2 j q hq
    simpa [Nat.mul_one] using h1
/-- More cells an element: told apart by the cells' list. -/
theorem Reps.front {α : Type} {R : α → List Value → Prop} {size : Nat} {ps : List α} {cs c all : List Value} {p : α} (hp : R p c) (hc : c.length = size) (h : Reps R size ps cs) (ha : c ++ cs = all) : Reps R size (p :: ps) all := by
  subst ha
  refine ⟨by rw [List.length_append, hc, h.1, List.length_cons, Nat.succ_mul, Nat.add_comm], fun j q hq => ?_⟩
  cases j with
  | zero =>
    simp only [List.getElem?_cons_zero, Option.some.injEq] at hq
    subst hq
    rw [Nat.zero_mul, List.drop_zero, List.take_append_of_le_length (by omega), List.take_of_length_le (by omega)]
    exact hp
  | succ j =>
    simp only [List.getElem?_cons_succ] at hq
    have h1 := h.2 j q hq
    rw [Nat.succ_mul, List.drop_append, List.drop_of_length_le (by rw [hc]; exact Nat.le_add_left _ _), List.nil_append, hc, Nat.add_sub_cancel]
    exact h1
theorem Reps.c2 {α : Type} {R : α → List Value → Prop} {ps : List α} {cs : List Value} {p : α} {va vb : Value} (hp : R p [va, vb]) (h : Reps R 2 ps cs) : Reps R 2 (p :: ps) (va :: vb :: cs) := Reps.front hp rfl h rfl
theorem Reps.c3 {α : Type} {R : α → List Value → Prop} {ps : List α} {cs : List Value} {p : α} {va vb vc : Value} (hp : R p [va, vb, vc]) (h : Reps R 3 ps cs) : Reps R 3 (p :: ps) (va :: vb :: vc :: cs) := Reps.front hp rfl h rfl
theorem Reps.c4 {α : Type} {R : α → List Value → Prop} {ps : List α} {cs : List Value} {p : α} {va vb vc vd : Value} (hp : R p [va, vb, vc, vd]) (h : Reps R 4 ps cs) : Reps R 4 (p :: ps) (va :: vb :: vc :: vd :: cs) := Reps.front hp rfl h rfl
theorem Reps.c5 {α : Type} {R : α → List Value → Prop} {ps : List α} {cs : List Value} {p : α} {va vb vc vd ve : Value} (hp : R p [va, vb, vc, vd, ve]) (h : Reps R 5 ps cs) : Reps R 5 (p :: ps) (va :: vb :: vc :: vd :: ve :: cs) := Reps.front hp rfl h rfl
theorem Reps.c6 {α : Type} {R : α → List Value → Prop} {ps : List α} {cs : List Value} {p : α} {va vb vc vd ve vf : Value} (hp : R p [va, vb, vc, vd, ve, vf]) (h : Reps R 6 ps cs) : Reps R 6 (p :: ps) (va :: vb :: vc :: vd :: ve :: vf :: cs) := Reps.front hp rfl h rfl
theorem Reps.c7 {α : Type} {R : α → List Value → Prop} {ps : List α} {cs : List Value} {p : α} {va vb vc vd ve vf vg : Value} (hp : R p [va, vb, vc, vd, ve, vf, vg]) (h : Reps R 7 ps cs) : Reps R 7 (p :: ps) (va :: vb :: vc :: vd :: ve :: vf :: vg :: cs) := Reps.front hp rfl h rfl
theorem Reps.c8 {α : Type} {R : α → List Value → Prop} {ps : List α} {cs : List Value} {p : α} {va vb vc vd ve vf vg vh : Value} (hp : R p [va, vb, vc, vd, ve, vf, vg, vh]) (h : Reps R 8 ps cs) : Reps R 8 (p :: ps) (va :: vb :: vc :: vd :: ve :: vf :: vg :: vh :: cs) := Reps.front hp rfl h rfl
theorem Reps.c9 {α : Type} {R : α → List Value → Prop} {ps : List α} {cs : List Value} {p : α} {va vb vc vd ve vf vg vh vi : Value} (hp : R p [va, vb, vc, vd, ve, vf, vg, vh, vi]) (h : Reps R 9 ps cs) : Reps R 9 (p :: ps) (va :: vb :: vc :: vd :: ve :: vf :: vg :: vh :: vi :: cs) := Reps.front hp rfl h rfl
theorem Reps.c10 {α : Type} {R : α → List Value → Prop} {ps : List α} {cs : List Value} {p : α} {va vb vc vd ve vf vg vh vi vj : Value} (hp : R p [va, vb, vc, vd, ve, vf, vg, vh, vi, vj]) (h : Reps R 10 ps cs) : Reps R 10 (p :: ps) (va :: vb :: vc :: vd :: ve :: vf :: vg :: vh :: vi :: vj :: cs) := Reps.front hp rfl h rfl
end Go.Proofs.YtcdajedmlfhmeaaDoorW.PrintWords

/-! ### 57. A region of open order by ONE relation over what is listed so far: each operation is shown once, whatever came up before it -/
namespace Go.Proofs.YtcdajedmlfhmeaaDoorW.PrintLast
/-- Number i is listed too. -/
def up (b : Nat → Bool) (i : Nat) : Nat → Bool := fun j => if j = i then true else b j
/-- What is listed: O's operations by b, all else already. -/
def lof (n : Nat) (O : List Nat) (b : Nat → Bool) : List Bool := (List.range n).map fun j => if O.contains j then b j else true
/-- The destinations of what is listed are filled. -/
def putSel (a : Act) (b : Nat → Bool) : List (Nat × Tmp × Value) → Act
  | [] => a
  | e :: r => putSel (if b e.1 = true then a.put (some e.2.1) e.2.2 else a) b r
section
variable {P : Program} {ops : Array Oper} {Q : Exit → Act → World → Prop} {md : Region.Mode} {T : Bool × List (List Nat × List Nat)} {B : List Nat} {O : List Nat} {b : Nat → Bool} {i j n : Nat}
/-- The step of operation i: out of the relation, it not being listed, all it waits for being so, and nothing that waits for it. -/
def StepAt (P : Program) (ops : Array Oper) (Q : Exit → Act → World → Prop) (B : List Nat) (O : List Nat) (I : (Nat → Bool) → Act → World → Prop) (i : Nat) : Prop :=
  ∀ b a w, I b a w → b i = false → (∀ j, (O.contains j && (B.getD i 0).testBit j) = true → b j = true) → (∀ d, (O.contains d && (B.getD d 0).testBit i) = true → b d = false) →
    ∃ oi, ops[i]? = some oi ∧ ∀ K : Act → World → Prop, Shut (∀ a' w', I (up b i) a' w' → K a' w') → if Region.wanted oi (yielded ops a.tmps) = true then Oper.wp P oi a w K Q else K (a.put oi.dst undef) w
/-- Every edge goes to an earlier operation; what is listed already waits for nothing of O; O's numbers are the region's, each once. -/
def baseOk (T : List (List Nat × List Nat)) (O : List Nat) : Bool :=
  (List.range T.length).all (fun d => match T[d]? with
    | some r => (O.contains d || r.1.all fun n => !O.contains n) && r.1.all fun n => decide (n < d)
    | none => false) && O.all (fun i => decide (i < T.length)) && decide O.Nodup
def Closed (T : List (List Nat × List Nat)) (O : List Nat) (b : Nat → Bool) : Prop := ∀ d r, T[d]? = some r → O.contains d = true → b d = true → ∀ n ∈ r.1, O.contains n = true → b n = true
end
end Go.Proofs.YtcdajedmlfhmeaaDoorW.PrintLast

namespace Go.Proofs.YtcdajedmlfhmeaaDoorW.PrintWords
open Go.RowKit
end Go.Proofs.YtcdajedmlfhmeaaDoorW.PrintWords
namespace Go.Proofs.YtcdajedmlfhmeaaDoorW.PrintLast
section
variable {ops : Array Oper} {a : Act} {o og : Oper} {g : Nat} {t : Tmp} {u : Bool}
end
end Go.Proofs.YtcdajedmlfhmeaaDoorW.PrintLast

/-! ### 58. A guarded operation whose guard is known to want it: the same goal without the guard -/
namespace Go.Proofs.YtcdajedmlfhmeaaDoorW.PrintWords
open Go.RowKit
section
variable {P : Program} {ops : Array Oper} {rest : List Oper} {o : Oper} {a : Act} {Q : Exit → Act → World → Prop} {W : World}
/-- The gate takes the guard off (hw: 'by rfl', 'by kernel_rfl': the guard's slot holds what is wanted). -/
theorem gate_guard (hw : Region.wanted o (yielded ops a.tmps) = true) (h : wpList P ops Q ({ o with guard := none } :: rest) a W) : wpList P ops Q (o :: rest) a W := by
  have h1 : Region.wanted { o with guard := none } (yielded ops a.tmps) = true := rfl
  unfold wpList at h ⊢
  rw [if_pos h1] at h
  rw [if_pos hw]
  exact h
end
end Go.Proofs.YtcdajedmlfhmeaaDoorW.PrintWords

/-! ### 48. N's events: append, a whole row appended, zeros appended, literals, make, stores, cuts, an element taken out -/
namespace Go.Proofs.YtcdajedmlfhmeaaDoorW.PrintWords
open Go.RowKit
namespace Kd
section
variable {α : Type} {d : Kd α} {e base n cap g : Nat} {ok ok' okp : Nat → Prop} {w w1 W : World} {v v1 : Value} {xs ys : List α}
end
section
variable {P : Program} {ops : Array Oper} {rest : List Oper} {o : Oper} {a : Act} {Q : Exit → Act → World → Prop} {Kc : Act → World → Prop} {α : Type}
end
end Kd
end Go.Proofs.YtcdajedmlfhmeaaDoorW.PrintWords

-- PRINTED WORDS (module Derived/Print/More.lean): go-gate-2's additions: an AI agent of Go's test side, Tue Nov 17 2026; no person has read it. Lean checks it.
namespace Go.Proofs.YtcdajedmlfhmeaaDoorW.PrintMore
open Go.RowKit Go.Proofs.YtcdajedmlfhmeaaDoorW.PrintWords
namespace Kd
open Go.Proofs.YtcdajedmlfhmeaaDoorW.PrintWords.Kd
end Kd

namespace Kd
open Go.Proofs.YtcdajedmlfhmeaaDoorW.PrintWords.Kd
section
variable {α : Type} {d : Kd α} {e base g N : Nat} {ok : Nat → Prop} {W w1 : World} {u v : Value} {xs : List α}
end
end Kd
/-- 'max' and 'min' of two whole numbers. -/
theorem max2_int (k k' : IntKind) (x y : Int) : Builtin.max2 (.int k x) (.int k' y) = pure (.int k (if x < y then y else x)) := by simp only [Builtin.max2, gt_iff_lt]
theorem min2_int (k k' : IntKind) (x y : Int) : Builtin.min2 (.int k x) (.int k' y) = pure (.int k (if y < x then y else x)) := by simp only [Builtin.min2]
theorem max_two (ats : Array TypeId) (ty : TypeId) (a b : Value) : Builtin.max_ ats ty #[a, b] = (Builtin.max2 a b >>= fun s => pure s) := by simp only [Builtin.max_, List.foldlM_cons, List.foldlM_nil]
theorem min_two (ats : Array TypeId) (ty : TypeId) (a b : Value) : Builtin.min_ ats ty #[a, b] = (Builtin.min2 a b >>= fun s => pure s) := by simp only [Builtin.min_, List.foldlM_cons, List.foldlM_nil]
theorem max_three (ats : Array TypeId) (ty : TypeId) (a b c : Value) : Builtin.max_ ats ty #[a, b, c] = (Builtin.max2 a b >>= fun s => Builtin.max2 s c >>= fun s => pure s) := by simp only [Builtin.max_, List.foldlM_cons, List.foldlM_nil]
theorem min_three (ats : Array TypeId) (ty : TypeId) (a b c : Value) : Builtin.min_ ats ty #[a, b, c] = (Builtin.min2 a b >>= fun s => Builtin.min2 s c >>= fun s => pure s) := by simp only [Builtin.min_, List.foldlM_cons, List.foldlM_nil]
theorem max_four (ats : Array TypeId) (ty : TypeId) (a b c d : Value) : Builtin.max_ ats ty #[a, b, c, d] = (Builtin.max2 a b >>= fun s => Builtin.max2 s c >>= fun s => Builtin.max2 s d >>= fun s => pure s) := by simp only [Builtin.max_, List.foldlM_cons, List.foldlM_nil]
theorem min_four (ats : Array TypeId) (ty : TypeId) (a b c d : Value) : Builtin.min_ ats ty #[a, b, c, d] = (Builtin.min2 a b >>= fun s => Builtin.min2 s c >>= fun s => Builtin.min2 s d >>= fun s => pure s) := by simp only [Builtin.min_, List.foldlM_cons, List.foldlM_nil]
end Go.Proofs.YtcdajedmlfhmeaaDoorW.PrintMore
namespace Go.Proofs.YtcdajedmlfhmeaaDoorW.PrintWords
open Go.RowKit
section
variable {P : Program} {ops : Array Oper} {rest : List Oper} {o : Oper} {a : Act} {Q : Exit → Act → World → Prop} {W : World}
/-- The operation is a call of this function (a cheap look ahead of a dear step). -/
theorem gate_callee {f : FuncId} {as_ : Array Operand} {ts : Array TypeId} (_ho : o.op = .call { callee := .value (.func f), args := as_, argTypes := ts }) (h : wpList P ops Q (o :: rest) a W) : wpList P ops Q (o :: rest) a W := h
end
/-- The greater of two whole numbers, as_ Go's max tells it. -/
def mx (a b : Int) : Int := if a < b then b else a
/-- The smaller of two whole numbers, as_ Go's min tells it. -/
def mn (a b : Int) : Int := if b < a then b else a
/-- A shift to the left, as_ Go tells it: a count beyond the width leaves nothing. -/
def shl (k : IntKind) (x y : Int) : Int := k.wrap (x * 2 ^ min y.toNat k.bits)
/-- A shift to the right: a count beyond the width leaves the sign. -/
def shr (k : IntKind) (x y : Int) : Int := x / 2 ^ min y.toNat k.bits
/-- It says x = x, and that is its use: 'rw [drewN_self w]' fails where the world was not drawn, and the row behind it is skipped. -/
theorem drewN_self (w : World) (n : Nat) : w.drewN n = w.drewN n := rfl
namespace Kd
section
variable {α : Type} {d : Kd α} {e base : Nat} {ok : Nat → Prop} {W w1 : World} {v : Value} {xs : List α}
end
section
variable {α : Type} {d : Kd α} {e base g n cap : Nat} {ok oki okp : Nat → Prop} {W : World} {xs : List α} {i : Int} {c : List Value}
end
section
variable {α : Type} {d : Kd α} {e base b b' g N : Nat} {ok ok1 : Nat → Prop} {W W2 w1 : World} {u v : Value} {xs ys : List α} {S : Nat → Prop}
end
end Kd
end Go.Proofs.YtcdajedmlfhmeaaDoorW.PrintWords
namespace Go.Proofs.YtcdajedmlfhmeaaDoorW.PrintWords
open Go.RowKit
namespace Kd
/-- A row that is only read, told by its value: its form, its length, what it leads to (in ok). e and base say nothing; they make it as_ the others are. -/
def V {α : Type} (d : Kd α) (_e : Nat) (W : World) (_base : Nat) (ok : Nat → Prop) (v : Value) (xs : List α) : Prop := ∃ A c, v = .slice A xs.length c ∧ xs.length ≤ c ∧ F d W ok A xs.length xs
section
variable {α β : Type} {d : Kd α} {e base base' n m c g N' lo hi : Nat} {ok ok' S : Nat → Prop} {w W w1 : World} {A : Option Addr} {ad : Addr} {u v v1 : Value} {xs : List α}
end
end Kd
end Go.Proofs.YtcdajedmlfhmeaaDoorW.PrintWords

namespace Go.Proofs.YtcdajedmlfhmeaaDoor.XN
open Go.RowKit Go.Proofs.YtcdajedmlfhmeaaDoorW.PrintWords Go.Proofs.YtcdajedmlfhmeaaDoorW.PrintLast Go.Proofs.YtcdajedmlfhmeaaDoorW.PrintMore
attribute [local go_sem] max2_int min2_int max_two min_two max_three min_three max_four min_four
set_option linter.unusedVariables false
set_option linter.unusedSimpArgs false



def errW : Option Int → Value
  | none => .nilIface
  | some c => .iface 0 (.int .i64 c)
theorem errW_none : errW none = .nilIface := rfl
theorem errW_some (c : Int) : errW (some c) = .iface 0 (.int .i64 c) := rfl

/-- What the package variable mill/numeral.months holds. -/
def G_months : List ByteArray := [⟨#[106, 97, 110]⟩, ⟨#[102, 101, 98]⟩, ⟨#[109, 97, 114]⟩, ⟨#[97, 112, 114]⟩, ⟨#[109, 97, 121]⟩, ⟨#[106, 117, 110]⟩, ⟨#[106, 117, 108]⟩, ⟨#[97, 117, 103]⟩, ⟨#[115, 101, 112]⟩, ⟨#[111, 99, 116]⟩, ⟨#[110, 111, 118]⟩, ⟨#[100, 101, 99]⟩]
-- the values' own types
/-! #### struct type 55 -/
structure S55 where
  f0 : Bool
  f1 : ByteArray
  f2 : ByteArray
  f3 : Int
def z55 : S55 := ⟨false, (⟨#[]⟩ : ByteArray), (⟨#[]⟩ : ByteArray), (0 : Int)⟩
def k55 : Kd S55 := Kd.iso (Kd.pair Kd.bool (Kd.pair Kd.string (Kd.pair Kd.string (Kd.int .i64)))) (fun x : S55 => (x.f0, x.f1, x.f2, x.f3))
def rd_T55 (xs : List S55) (i : Int) : S55 := xs.getD i.toNat z55
/-! #### struct type 101 -/
structure S101 where
  f0 : ByteArray
  f1 : ByteArray
def z101 : S101 := ⟨(⟨#[]⟩ : ByteArray), (⟨#[]⟩ : ByteArray)⟩
def k101 : Kd S101 := Kd.iso (Kd.pair Kd.string Kd.string) (fun x : S101 => (x.f0, x.f1))
def rd_T101 (xs : List S101) (i : Int) : S101 := xs.getD i.toNat z101
theorem blk_below_any {w w1 : World} {g : Nat} {o : Obj} (h : w.heap[g]? = some o) (hb : Below w.heap.size w w1) : w1.heap[g]? = some o := (hb.block g (Array.getElem?_eq_some_iff.1 h).1).trans h
/-- The package variables hold what the text lays. -/
structure GOK (w : World) : Prop where
  g2 : ∃ fr : Nat × Nat, w.heap[2]? = some (.cells #[.int .u8 57, .int .i64 10, .int .u8 90, .int .i64 26, .int .u8 122, .int .i64 26, .int .u8 126, .int .i64 1] 116 fr)
  g0 : Kd.C Kd.string w (some ⟨0, 0, none⟩) 12 G_months
theorem GOK.below {w W : World} (h : GOK w) (hb : Below w.heap.size w W) : GOK W := ⟨(let ⟨fr, hh⟩ := h.g2; ⟨fr, blk_below_any hh hb⟩), Kd.C_below h.g0 hb⟩
end Go.Proofs.YtcdajedmlfhmeaaDoor.XN

section
/- The seat's package variables hold what the rows list (by this session). -/
set_option linter.unusedVariables false
set_option linter.unusedSimpArgs false
namespace Go.Proofs.YtcdajedmlfhmeaaDoor.XN
open Go.RowKit Go.Proofs.YtcdajedmlfhmeaaDoorW.PrintWords
/-! ### what a listed variable's reading says of its cells -/
section
variable {H : Type} {enc : TypeId × Value → H} {P : Program} {w : World} {base : Nat} {sp : Nat → Bool} {held : Bool}
/-- The cells of one reading that is one cell. -/
def Fl.one {H : Type} : DataW H → List Value
  | .lit (.int k n) => [.int k n]
  | .lit (.bool b) => [.bool b]
  | .lit (.string s) => [.string ⟨s.toArray⟩]
  | _ => []
/-- The cells of an aggregate of one-cell readings. -/
def Fl.row {H : Type} : DataW H → List Value
  | .agg ds => ds.flatMap Fl.one
  | _ => []
/-- The cells of an aggregate, each of its parts by F. -/
def Fl.arr {H : Type} (F : DataW H → List Value) : DataW H → List Value
  | .agg ds => ds.flatMap F
  | _ => []
def FlatAt (enc : TypeId × Value → H) (P : Program) (w : World) (base : Nat) (sp : Nat → Bool) (held : Bool) (F : DataW H → List Value) (t : TypeId) : Prop :=
  ∀ fuel cs d p, DataW.trod enc P w base sp held fuel t cs = some (d, p) → cs = F d
theorem flat_int {t : TypeId} {k : IntKind} (ht : P.underlying t = some (.int k)) : FlatAt enc P w base sp held Fl.one t := by
  intro fuel cs d p h
  cases fuel with
  | zero => simp [DataW.trod] at h
  | succ fuel =>
    obtain ⟨n, rfl, e, _⟩ := DataW.trod_int ht h
    simp only [Prod.mk.injEq] at e
    rw [e.1]; rfl
theorem flat_string {t : TypeId} (ht : P.underlying t = some .string) : FlatAt enc P w base sp held Fl.one t := by
  intro fuel cs d p h
  cases fuel with
  | zero => simp [DataW.trod] at h
  | succ fuel =>
    obtain ⟨n, rfl, e, _⟩ := DataW.trod_string ht h
    simp only [Prod.mk.injEq] at e
    rw [e.1]; simp [Fl.one]
theorem flat_chunks {F : DataW H → List Value} {ce : Nat} : ∀ (n : Nat) (cs : List Value) (ds : List (DataW H)), cs.length = n * ce → ds.length = n →
    (∀ i d, ds[i]? = some d → (cs.drop (i * ce)).take ce = F d) → cs = ds.flatMap F
  | 0, cs, ds, h1, h2, _ => by
    have : cs = [] := List.eq_nil_of_length_eq_zero (by omega)
    have : ds = [] := List.eq_nil_of_length_eq_zero h2
    simp [*]
  | n + 1, cs, [], h1, h2, _ => by cases h2
  | n + 1, cs, d :: ds, h1, h2, h3 => by
    have h0 := h3 0 d rfl
    simp only [Nat.zero_mul, List.drop_zero] at h0
    have ih := flat_chunks (F := F) (ce := ce) n (cs.drop ce) ds (by rw [List.length_drop, h1, Nat.succ_mul]; omega) (by simpa using h2) (fun i d' hd => by
      have := h3 (i + 1) d' hd
      rw [List.drop_drop]
      rw [show ce + i * ce = (i + 1) * ce by rw [Nat.succ_mul]; omega]
      exact this)
    rw [List.flatMap_cons, ← ih, ← h0, List.take_append_drop]
theorem flat_array {F : DataW H → List Value} {t e : TypeId} {n : Nat} (ht : P.underlying t = some (.array n e)) (hc : P.cellsOf t = n * P.cellsOf e) (he : FlatAt enc P w base sp held F e) :
    FlatAt enc P w base sp held (Fl.arr F) t := by
  intro fuel cs d p h
  cases fuel with
  | zero => simp [DataW.trod] at h
  | succ fuel =>
    simp only [DataW.trod, ht] at h
    split at h
    · rename_i hl
      obtain ⟨xs, hm, hx⟩ := Option.map_eq_some_iff.1 h
      simp only [Prod.mk.injEq] at hx
      rw [← hx.1]
      have hxl : xs.length = n := by simpa using Lib.mapM_length hm
      refine flat_chunks (ce := P.cellsOf e) n cs _ (by rw [hl, hc]) (by simp [hxl]) (fun i d' hd => ?_)
      have hi : i < n := by
        rcases Nat.lt_or_ge i n with h | h
        · exact h
        · rw [List.getElem?_eq_none (by simp [hxl]; omega)] at hd; cases hd
      obtain ⟨b, hb, hf⟩ := Lib.mapM_at hm i i (by simp [hi])
      rw [List.getElem?_map, hb] at hd
      simp only [Option.map_some, Option.some.injEq] at hd
      subst hd
      exact he _ _ _ _ hf
    · cases h
theorem flat_struct2 {t : TypeId} {f0 f1 : Field} (ht : P.underlying t = some (.struct #[f0, f1])) (hc : P.cellsOf t = 2) (c0 : P.cellsOf f0.type = 1) (c1 : P.cellsOf f1.type = 1) (o0 : f0.offset = 0) (o1 : f1.offset = 1)
    (h0 : FlatAt enc P w base sp held Fl.one f0.type) (h1 : FlatAt enc P w base sp held Fl.one f1.type) : FlatAt enc P w base sp held Fl.row t := by
  intro fuel cs d p h
  cases fuel with
  | zero => simp [DataW.trod] at h
  | succ fuel =>
    simp only [DataW.trod, ht] at h
    split at h
    · rename_i hl
      obtain ⟨xs, hm, hx⟩ := Option.map_eq_some_iff.1 h
      simp only [List.mapM_cons, List.mapM_nil, Option.bind_eq_bind, Option.bind_eq_some_iff, Option.pure_def, Option.some.injEq] at hm
      obtain ⟨y0, e0, _, ⟨y1, e1, _, rfl, rfl⟩, rfl⟩ := hm
      simp only [Prod.mk.injEq] at hx
      rw [← hx.1]
      rw [hc] at hl
      obtain ⟨a, b, rfl⟩ : ∃ a b, cs = [a, b] := by
        match cs, hl with
        | [a, b], _ => exact ⟨a, b, rfl⟩
      rw [o0, c0] at e0
      rw [o1, c1] at e1
      have k0 := h0 _ _ _ _ e0
      have k1 := h1 _ _ _ _ e1
      simp only [List.drop_zero, List.take_succ_cons, List.take_zero, List.drop_succ_cons] at k0 k1
      simp only [Fl.row, List.map_cons, List.map_nil, List.flatMap_cons, List.flatMap_nil, ← k0, ← k1]
      rfl
    · cases h
end
/-- The list of cells of a variable, as the world's own block. -/
theorem block_of_var {P : Program} {w : World} {name : String} {cs : Array Value} {g : Nat} (hg : P.globalNamed name = some g) (h : w.var? P name = some cs) : ∃ T fr, w.heap[g]? = some (.cells cs T fr) := by
  unfold World.var? at h
  rw [hg] at h
  simp only [Option.bind_some] at h
  split at h
  · rename_i c T fr hh
    simp only [Option.some.injEq] at h
    exact ⟨T, fr, by rw [hh, h]⟩
  · cases h
theorem laid_entry {P : Program} {w : World} : ∀ {laid : List (String × DataW Unit)} {ps : List MemPlace}, DataW.LaidVars P w laid ps → ∀ (i : Nat) {name : String} {d : DataW Unit}, laid[i]? = some (name, d) →
    ∃ g t cs fuel p, P.globalNamed name = some g ∧ (P.globals[g]?).map (·.type) = some t ∧ w.var? P name = some cs ∧ DataW.trod (fun _ => ()) P w 0 (fun _ => true) false fuel t cs.toList = some (d, p)
  | [], _, _, i, _, _, hi => by simp at hi
  | (n, d) :: r, ps, h, 0, _, _, hi => by
    simp only [List.getElem?_cons_zero, Option.some.injEq, Prod.mk.injEq] at hi
    obtain ⟨rfl, rfl⟩ := hi
    obtain ⟨g, t, cs, fuel, p, q, h1, h2, h3, h4, _⟩ := h
    exact ⟨g, t, cs, fuel, p, h1, h2, h3, h4⟩
  | (n, d) :: r, ps, h, i + 1, _, _, hi => by
    obtain ⟨_, _, _, _, _, q, _, _, _, _, h5, _⟩ := h
    exact laid_entry h5 i (by simpa using hi)
/-- A listed variable's cells, out of its reading and its type's form. -/
theorem laid_cells {P : Program} {w : World} {laid : List (String × DataW Unit)} (h : laidMet P laid w) (i : Nat) {name : String} {d : DataW Unit} (hi : laid[i]? = some (name, d)) {g : Nat} {t : TypeId} (hg : P.globalNamed name = some g) (hty : (P.globals[g]?).map (·.type) = some t)
    {F : DataW Unit → List Value} (hF : FlatAt (fun _ => ()) P w 0 (fun _ => true) false F t) : ∃ T fr, w.heap[g]? = some (.cells (F d).toArray T fr) := by
  obtain ⟨ps, hv, _⟩ := h
  obtain ⟨g', t', cs, fuel, p, h1, h2, h3, h4⟩ := laid_entry hv i hi
  obtain rfl := Option.some.inj (hg.symm.trans h1)
  obtain rfl := Option.some.inj (hty.symm.trans h2)
  have e := hF _ _ _ _ h4
  obtain ⟨T, fr, hh⟩ := block_of_var hg h3
  exact ⟨T, fr, by rw [hh, ← e]⟩
theorem cell_of_block {w : World} {g i : Nat} {cs : Array Value} {T : TypeId} {fr : Nat × Nat} {v : Value} (h : w.heap[g]? = some (.cells cs T fr)) (hv : cs[i]? = some v) : w.cell? ⟨g, i, none⟩ = some v := by
  simp [World.cell?, h, hv]

theorem groups_flat (w : World) : FlatAt (fun _ => ()) Tryd.prog w 0 (fun _ => true) false (H := Unit) (Fl.arr Fl.row) 116 :=
  flat_array Tryd.underlying116 (by kernel_rfl) (flat_struct2 Tryd.underlying115 (by kernel_rfl) (by kernel_rfl) (by kernel_rfl) rfl rfl (flat_int Tryd.underlying5) (flat_int Tryd.underlying3))
theorem months_flat (w : World) : FlatAt (fun _ => ()) Tryd.prog w 0 (fun _ => true) false (H := Unit) (Fl.arr Fl.one) 71 :=
  flat_array Tryd.underlying71 (by kernel_rfl) (flat_string Tryd.underlying9)
/-- What the rows list of numeral's two tables, wherever they stand on the list. -/
theorem gok_of {laid : List (String × DataW Unit)} {W : World} (hL : laidMetH Tryd.prog laid W) (hn : (laid.all fun x => x.2.handleName?.isNone) = true) (hS : W.ShapedOpen Tryd.prog) (i j : Nat)
    (hi : laid[i]? = some ("mill/numeral.groups", Rows.laid_mill_numeral_groups)) (hj : laid[j]? = some ("mill/numeral.months", Rows.laid_mill_numeral_months)) : GOK W := by
  rw [MakeChecks.laidMetH_plain _ _ _ hn] at hL
  refine ⟨?_, ?_⟩
  · obtain ⟨T, fr, h⟩ := laid_cells hL i hi (g := 2) (t := 116) (by kernel_rfl) (by kernel_rfl) (groups_flat W)
    obtain ⟨cs, h2, _⟩ := hS.1 2 #[.int .u8 0, .int .i64 0, .int .u8 0, .int .i64 0, .int .u8 0, .int .i64 0, .int .u8 0, .int .i64 0] 116 (of_decide_eq_true (by kernel_rfl)) (by kernel_rfl)
    rw [h] at h2
    simp only [Option.some.injEq, Obj.cells.injEq] at h2
    obtain ⟨_, rfl, _⟩ := h2
    exact ⟨fr, h⟩
  · obtain ⟨T, fr, h⟩ := laid_cells hL j hj (g := 0) (t := 71) (by kernel_rfl) (by kernel_rfl) (months_flat W)
    refine Kd.C_of_reads (enc := Value.string) (d := ByteArray.empty) (h1 := fun _ => rfl) ⟨rfl, by decide, fun _ => ⟨_, rfl, fun k hk => ?_⟩⟩
    have hk' : k < 12 := hk
    have this : (Fl.arr Fl.one (Rows.laid_mill_numeral_months (H := Unit))).toArray[k]? = some (.string (G_months.getD k ByteArray.empty)) := by
      rcases (by omega : k = 0 ∨ k = 1 ∨ k = 2 ∨ k = 3 ∨ k = 4 ∨ k = 5 ∨ k = 6 ∨ k = 7 ∨ k = 8 ∨ k = 9 ∨ k = 10 ∨ k = 11) with rfl | rfl | rfl | rfl | rfl | rfl | rfl | rfl | rfl | rfl | rfl | rfl <;> rfl
    rw [show (⟨0, 0, none⟩ : Addr).add k = ⟨0, k, none⟩ by (simp [Addr.add]; omega)]
    exact cell_of_block h this
end Go.Proofs.YtcdajedmlfhmeaaDoor.XN
end

namespace Go.Proofs.YtcdajedmlfhmeaaDoor.XN
open Go.RowKit Go.Proofs.YtcdajedmlfhmeaaDoorW.PrintWords Go.Proofs.YtcdajedmlfhmeaaDoorW.PrintLast Go.Proofs.YtcdajedmlfhmeaaDoorW.PrintMore
attribute [local go_sem] max2_int min2_int max_two min_two max_three min_three max_four min_four
set_option linter.unusedVariables false
set_option linter.unusedSimpArgs false

/-! ### milllaw3_written: function 15 -/
mutual
def milllaw3_written.j0 : Nat → Int → Int → ByteArray → Int → Option (ByteArray)
 | 0, _, _, _, _ => none
 | k + 1, x0, x1, x5, x6 => milllaw3_written.l0 k x0 x1 x5 x6
def milllaw3_written.l0 : Nat → Int → Int → ByteArray → Int → Option (ByteArray)
 | 0, _, _, _, _ => none
 | k + 1, x0, x1, x5, x6 => if x6 > 0 then ((some (([(wrap64 (48 + (Int.tmod x6 10))) % 256] : List Int) : List Int)).bind fun y101 => (if (strOfNums y101).size + x5.size ≤ 9223372036854775807 then (milllaw3_written.l0 k x0 x1 ((strOfNums y101) ++ x5) (wrap64 (Int.tdiv x6 10))) else (none))) else (if x5.toList = ([] : List UInt8) then ((some (([(wrap64 (48 + (Int.tmod x6 10))) % 256] : List Int) : List Int)).bind fun y104 => (if (strOfNums y104).size + x5.size ≤ 9223372036854775807 then (milllaw3_written.l0 k x0 x1 ((strOfNums y104) ++ x5) (wrap64 (Int.tdiv x6 10))) else (none))) else (milllaw3_written.l1 k x0 x1 x5 0))
def milllaw3_written.l1 : Nat → Int → Int → ByteArray → Int → Option (ByteArray)
 | 0, _, _, _, _ => none
 | k + 1, x0, x1, x5, x7 => if x7 < x1 then (if 1 + x5.size ≤ 9223372036854775807 then (milllaw3_written.l1 k x0 x1 ((⟨#[48]⟩ : ByteArray) ++ x5) (wrap64 (x7 + 1))) else (none)) else (if x0 < 0 then (if 1 + x5.size ≤ 9223372036854775807 then (some ((⟨#[45]⟩ : ByteArray) ++ x5)) else (none)) else (some x5))
end
def milllaw3_written.f (k : Nat) (a0 : Int) (a1 : Int) : Option (ByteArray) := if a0 < 0 then (milllaw3_written.j0 k a0 a1 (⟨#[]⟩ : ByteArray) (wrap64 (-a0))) else (milllaw3_written.j0 k a0 a1 (⟨#[]⟩ : ByteArray) a0)
set_option maxHeartbeats 8000000 in
set_option maxRecDepth 100000 in
theorem milllaw3_written.calls (k : Nat) (a0 : Int) (a1 : Int) (r : ByteArray) (w : World) (h : milllaw3_written.f k a0 a1 = some r) :
  Calls Tryd.prog 15 #[.int .i64 a0, .int .i64 a1] w fun e w' => e = .returned (.string r) ∧ Below w.heap.size w w' := by
 have HB := Aside0.mk (Below.refl w.heap.size w)
 have H : (if a0 < 0 then (milllaw3_written.j0 k a0 a1 (⟨#[]⟩ : ByteArray) (wrap64 (-a0))) else (milllaw3_written.j0 k a0 a1 (⟨#[]⟩ : ByteArray) a0)) = some r := h
 clear h
 have HC3 := Aside0.mk H
 clear H
 go_enter Tryd.func15, Tryd.ntmps15
 go_upto_if 10 with (fail)
 go_cut [6] (fun v6 wc => ∃ (kq : Nat) (x6_2 : Int), v6 = .int .i64 x6_2 ∧ Aside0 (milllaw3_written.j0 kq a0 a1 (⟨#[]⟩ : ByteArray) x6_2 = some r) ∧ Aside0 (kq ≤ k) ∧ Aside0 (Below w.heap.size w wc))
 case first =>
  have H := HC3.out
  clear HC3
  by_cases c4 : a0 < 0
  ·
   rw [if_pos c4] at H
   have c4b0 : decide (a0 < 0) = true := decide_eq_true c4
   clear c4
   (first | rw [c4b0] | (simp only [i64_w, i32_w]; rw [c4b0]) | skip)
   have H' := Aside0.mk H
   clear H
   go_wp2
   go_meet
   case rel => exact ⟨_, (wrap64 (-a0)), qnv2_, H', ⟨by first | omega | exact Nat.le_refl _⟩, ⟨qnv0_⟩⟩
  ·
   rw [if_neg c4] at H
   have c4b0 : decide (a0 < 0) = false := decide_eq_false c4
   clear c4
   (first | rw [c4b0] | (simp only [i64_w, i32_w]; rw [c4b0]) | skip)
   have H' := Aside0.mk H
   clear H
   go_wp2
   go_meet
   case rel => exact ⟨_, (a0), qnv2_, H', ⟨by first | omega | exact Nat.le_refl _⟩, ⟨qnv0_⟩⟩
 case rest =>
  clear HC3
  (try clear c1); (try clear p2); (try clear c4); (try clear c4b0)
  obtain ⟨kq, x6_2, rfl, HA, HJ2, HB⟩ := hcut
  cases kq with
  | zero => exact absurd HA.out (by simp [milllaw3_written.j0])
  | succ kj2 =>
   have H := HA.out
   clear HA
   simp only [milllaw3_written.j0] at H
   have H' := Aside0.mk H
   clear H
   go_wp2
   go_loopg [5, 6] kj2 (fun kq v5 v6 w' => ∃ (x5_2 : ByteArray) (x6_2 : Int), v5 = .string x5_2 ∧ v6 = .int .i64 x6_2 ∧ Aside0 (milllaw3_written.l0 kq a0 a1 x5_2 x6_2 = some r) ∧ Aside0 (kq ≤ kj2) ∧ Aside0 (Below w.heap.size w w'))
   case atStart => exact ⟨((⟨#[]⟩ : ByteArray)), (x6_2), qnv2_, qnv2_, H', ⟨Nat.le_refl _⟩, ⟨qnv0_⟩⟩
   case round =>
    clear H'
    (try clear c1); (try clear p2); (try clear c4); (try clear c4b0); (try clear p2)
    obtain ⟨x5_2, x6_2, rfl, rfl, HA, HK2, HB⟩ := hrel
    cases gk with
    | zero => exact absurd HA.out (by simp [milllaw3_written.l0])
    | succ k2 =>
     have H := HA.out
     clear HA
     simp only [milllaw3_written.l0] at H
     by_cases c5 : x6_2 > 0
     ·
      rw [if_pos c5] at H
      have c5b0 : decide (0 < x6_2) = true := decide_eq_true c5
      clear c5
      obtain ⟨y101, hy101⟩ : ∃ y_ : List Int, y_ = (([(wrap64 (48 + (Int.tmod x6_2 10))) % 256] : List Int)) := ⟨_, rfl⟩
      replace H : (if (strOfNums y101).size + x5_2.size ≤ 9223372036854775807 then (milllaw3_written.l0 k2 a0 a1 ((strOfNums y101) ++ x5_2) (wrap64 (Int.tdiv x6_2 10))) else (none)) = some r := by first | (rw [hy101]; with_reducible exact H) | (have H2_ := (Option.bind_some _ _).symm.trans H; rw [hy101]; with_reducible exact H2_) | (have H2_ := (Option.bind_some _ _).symm.trans H; with_reducible exact H2_) | with_reducible exact H | (rw [hy101]; exact H) | exact H
      have Ny101 := Aside0.mk hy101
      clear hy101
      by_cases c6 : (strOfNums y101).size + x5_2.size ≤ 9223372036854775807
      ·
       rw [if_pos c6] at H
       have c6b0 := eq_true c6
       have c6b1 : decide ((strOfNums y101).size + x5_2.size ≤ 9223372036854775807) = true := decide_eq_true c6
       try have c6b2 : (9223372036854775807 < (strOfNums y101).size + x5_2.size) = False := eq_false (Nat.not_lt.2 c6)
       have H' := Aside0.mk H
       clear H
       go_wp2_with (first | ((with_reducible refine gate_dst (N := 23) rfl ?_); refine Kd.R_lit (Kd.int .u8) _ 5 ?hg (N := 23) ?hd (xs := ([(wrap64 (48 + (Int.tmod x6_2 10))) % 256] : List Int)) (inner := [.int .u8 ((wrap64 (48 + (Int.tmod x6_2 10))) % 256)]) (ok := fun _ => True) (okp := fun _ => True) ?hr ?hp (fun _ hk => hk) trivial (Below.refl _ _) (Nat.le_refl _) (by simp) ?_; (case hd => rfl); (case hg => rfl); (case hr => first | (go_simp; done) | (go_simp; rfl)); (case hp => exact (Reps.one (show Kd.M (Kd.int .u8) _ _ _ ((wrap64 (48 + (Int.tmod x6_2 10))) % 256) [.int .u8 ((wrap64 (48 + (Int.tmod x6_2 10))) % 256)] from rfl) (Reps.none _ _))); intro v102 w7 ho8 hb hg_ hnew_; clear hg_ hnew_; (first | rw [← Ny101.out] at ho8 | (simp only [Int.reduceToNat] at ho8; rw [← Ny101.out] at ho8)); have n0_ := Aside0.mk (Kd.R_lower ho8 (below_size qnv0_)); have n1_ := Aside0.mk (below_step qnv0_ hb); clear HB; have HO103 := n0_; have HB := n1_; clear n0_ n1_; clear hb ho8; have hcv9 := own_string (P := Tryd.prog) Tryd.underlying23 Tryd.underlying5 Tryd.underlying9 (Kd.own_of_R HO103.out)))
       go_roundg k2
       case measure => have := HJ2.out; have := HK2.out; omega
       case rel => exact ⟨((strOfNums y101) ++ x5_2), (wrap64 (Int.tdiv x6_2 10)), qnv2_, qnv2_, H', ⟨by have := HJ2.out; have := HK2.out; omega⟩, ⟨qnv0_⟩⟩
      ·
       rw [if_neg c6] at H
       exact absurd H (by simp)
     ·
      rw [if_neg c5] at H
      have c5b0 : decide (0 < x6_2) = false := decide_eq_false c5
      clear c5
      by_cases c10 : x5_2.toList = ([] : List UInt8)
      ·
       rw [if_pos c10] at H
       have c10b0 : (x5_2.toList == ([] : List UInt8)) = true := beq_iff_eq.mpr c10
       have c10b1 : (x5_2.toList != ([] : List UInt8)) = false := bne_eq_false_iff_eq.mpr c10
       clear c10
       obtain ⟨y104, hy104⟩ : ∃ y_ : List Int, y_ = (([(wrap64 (48 + (Int.tmod x6_2 10))) % 256] : List Int)) := ⟨_, rfl⟩
       replace H : (if (strOfNums y104).size + x5_2.size ≤ 9223372036854775807 then (milllaw3_written.l0 k2 a0 a1 ((strOfNums y104) ++ x5_2) (wrap64 (Int.tdiv x6_2 10))) else (none)) = some r := by first | (rw [hy104]; with_reducible exact H) | (have H2_ := (Option.bind_some _ _).symm.trans H; rw [hy104]; with_reducible exact H2_) | (have H2_ := (Option.bind_some _ _).symm.trans H; with_reducible exact H2_) | with_reducible exact H | (rw [hy104]; exact H) | exact H
       have Ny104 := Aside0.mk hy104
       clear hy104
       by_cases c11 : (strOfNums y104).size + x5_2.size ≤ 9223372036854775807
       ·
        rw [if_pos c11] at H
        have c11b0 := eq_true c11
        have c11b1 : decide ((strOfNums y104).size + x5_2.size ≤ 9223372036854775807) = true := decide_eq_true c11
        try have c11b2 : (9223372036854775807 < (strOfNums y104).size + x5_2.size) = False := eq_false (Nat.not_lt.2 c11)
        have H' := Aside0.mk H
        clear H
        go_wp2_with (first | ((with_reducible refine gate_dst (N := 23) rfl ?_); refine Kd.R_lit (Kd.int .u8) _ 5 ?hg (N := 23) ?hd (xs := ([(wrap64 (48 + (Int.tmod x6_2 10))) % 256] : List Int)) (inner := [.int .u8 ((wrap64 (48 + (Int.tmod x6_2 10))) % 256)]) (ok := fun _ => True) (okp := fun _ => True) ?hr ?hp (fun _ hk => hk) trivial (Below.refl _ _) (Nat.le_refl _) (by simp) ?_; (case hd => rfl); (case hg => rfl); (case hr => first | (go_simp; done) | (go_simp; rfl)); (case hp => exact (Reps.one (show Kd.M (Kd.int .u8) _ _ _ ((wrap64 (48 + (Int.tmod x6_2 10))) % 256) [.int .u8 ((wrap64 (48 + (Int.tmod x6_2 10))) % 256)] from rfl) (Reps.none _ _))); intro v105 w12 ho13 hb hg_ hnew_; clear hg_ hnew_; (first | rw [← Ny104.out] at ho13 | (simp only [Int.reduceToNat] at ho13; rw [← Ny104.out] at ho13)); have n0_ := Aside0.mk (Kd.R_lower ho13 (below_size qnv0_)); have n1_ := Aside0.mk (below_step qnv0_ hb); clear HB; have HO106 := n0_; have HB := n1_; clear n0_ n1_; clear hb ho13; have hcv14 := own_string (P := Tryd.prog) Tryd.underlying23 Tryd.underlying5 Tryd.underlying9 (Kd.own_of_R HO106.out)))
        go_roundg k2
        case measure => have := HJ2.out; have := HK2.out; omega
        case rel => exact ⟨((strOfNums y104) ++ x5_2), (wrap64 (Int.tdiv x6_2 10)), qnv2_, qnv2_, H', ⟨by have := HJ2.out; have := HK2.out; omega⟩, ⟨qnv0_⟩⟩
       ·
        rw [if_neg c11] at H
        exact absurd H (by simp)
      ·
       rw [if_neg c10] at H
       have c10b0 : (x5_2.toList == ([] : List UInt8)) = false := beq_eq_false_iff_ne.mpr c10
       have c10b1 : (x5_2.toList != ([] : List UInt8)) = true := bne_iff_ne.mpr c10
       have H' := Aside0.mk H
       clear H
       go_wp2
       go_loopg [5, 7] k2 (fun kq v5 v7 w' => ∃ (x5_3 : ByteArray) (x7_3 : Int), v5 = .string x5_3 ∧ v7 = .int .i64 x7_3 ∧ Aside0 (milllaw3_written.l1 kq a0 a1 x5_3 x7_3 = some r) ∧ Aside0 (kq ≤ k2) ∧ Aside0 (Below w.heap.size w w'))
       case atStart => exact ⟨(x5_2), (0), qnv2_, qnv2_, H', ⟨Nat.le_refl _⟩, ⟨qnv0_⟩⟩
       case round =>
        clear H'
        (try clear c1); (try clear hcv1); (try clear p2); (try clear c4); (try clear c4b0); (try clear c5); (try clear c5b0); (try clear c6); (try clear c6b0); (try clear c6b1); (try clear c6b2); (try clear p6); (try clear hcv9); (try clear c10); (try clear c10b0); (try clear c10b1); (try clear c11); (try clear c11b0); (try clear c11b1); (try clear c11b2); (try clear hcv14); (try clear p2)
        obtain ⟨x5_3, x7_3, rfl, rfl, HA, HK3, HB⟩ := hrel
        cases gk with
        | zero => exact absurd HA.out (by simp [milllaw3_written.l1])
        | succ k3 =>
         have H := HA.out
         clear HA
         simp only [milllaw3_written.l1] at H
         by_cases c15 : x7_3 < a1
         ·
          rw [if_pos c15] at H
          have c15b0 : decide (x7_3 < a1) = true := decide_eq_true c15
          clear c15
          by_cases c16 : 1 + x5_3.size ≤ 9223372036854775807
          ·
           rw [if_pos c16] at H
           have c16b0 := eq_true c16
           have c16b1 : decide (1 + x5_3.size ≤ 9223372036854775807) = true := decide_eq_true c16
           try have c16b2 : (9223372036854775807 < 1 + x5_3.size) = False := eq_false (Nat.not_lt.2 c16)
           have H' := Aside0.mk H
           clear H
           go_wp2
           go_roundg k3
           case measure => have := HJ2.out; have := HK2.out; have := HK3.out; omega
           case rel => exact ⟨((⟨#[48]⟩ : ByteArray) ++ x5_3), (wrap64 (x7_3 + 1)), qnv2_, qnv2_, H', ⟨by have := HJ2.out; have := HK2.out; have := HK3.out; omega⟩, ⟨qnv0_⟩⟩
          ·
           rw [if_neg c16] at H
           exact absurd H (by simp)
         ·
          rw [if_neg c15] at H
          have c15b0 : decide (x7_3 < a1) = false := decide_eq_false c15
          clear c15
          by_cases c17 : a0 < 0
          ·
           rw [if_pos c17] at H
           have c17b0 : decide (a0 < 0) = true := decide_eq_true c17
           clear c17
           by_cases c18 : 1 + x5_3.size ≤ 9223372036854775807
           ·
            rw [if_pos c18] at H
            have c18b0 := eq_true c18
            have c18b1 : decide (1 + x5_3.size ≤ 9223372036854775807) = true := decide_eq_true c18
            try have c18b2 : (9223372036854775807 < 1 + x5_3.size) = False := eq_false (Nat.not_lt.2 c18)
            obtain rfl := Option.some.inj H
            go_wp2
            go_ret
            exact ⟨qnv8_, qnv0_⟩
           ·
            rw [if_neg c18] at H
            exact absurd H (by simp)
          ·
           rw [if_neg c17] at H
           have c17b0 : decide (a0 < 0) = false := decide_eq_false c17
           clear c17
           obtain rfl := Option.some.inj H
           go_wp2
           go_ret
           exact ⟨qnv8_, qnv0_⟩


/-! ### numeral_blanks: function 34 -/
def numeral_blanks.l0 : Nat → ByteArray → Int → Option (Int)
 | 0, _, _ => none
 | k + 1, x0, x3 => if x3 < (x0.size : Int) then (if 0 ≤ x3 then (if (bt x0 x3) = 32 then (numeral_blanks.l0 k x0 (wrap64 (x3 + 1))) else (if (bt x0 x3) = 9 then (numeral_blanks.l0 k x0 (wrap64 (x3 + 1))) else (some x3))) else (none)) else (some x3)
def numeral_blanks.f (k : Nat) (a0 : ByteArray) : Option (Int) := numeral_blanks.l0 k a0 0
set_option maxHeartbeats 8000000 in
set_option maxRecDepth 100000 in
theorem numeral_blanks.calls (k : Nat) (a0 : ByteArray) (r : Int) (w : World) (h : numeral_blanks.f k a0 = some r) :
  Calls Tryd.prog 34 #[.string a0] w fun e w' => e = .returned (.int .i64 r) ∧ Drawn0 w w' := by
 have H : (numeral_blanks.l0 k a0 0) = some r := h
 clear h
 have H' := Aside0.mk H
 clear H
 go_enter Tryd.func34, Tryd.ntmps34
 go_wp2
 go_loopg [3] k (fun kq v3 w' => ∃ (x3_1 : Int), v3 = .int .i64 x3_1 ∧ Aside0 (numeral_blanks.l0 kq a0 x3_1 = some r) ∧ Aside0 (kq ≤ k) ∧ Drawn0 w w')
 case atStart => exact ⟨(0), qnv2_, H', ⟨Nat.le_refl _⟩, qnv11_⟩
 case round =>
  clear H'
  obtain ⟨x3_1, rfl, HA, HK1, ⟨m1, rfl⟩⟩ := hrel
  cases gk with
  | zero => exact absurd HA.out (by simp [numeral_blanks.l0])
  | succ k1 =>
   have H := HA.out
   clear HA
   simp only [numeral_blanks.l0] at H
   by_cases c2 : x3_1 < (a0.size : Int)
   ·
    rw [if_pos c2] at H
    have c2b0 : decide (x3_1 < (a0.size : Int)) = true := decide_eq_true c2
    clear c2
    by_cases c3 : 0 ≤ x3_1
    ·
     rw [if_pos c3] at H
     have c3b0 : decide (0 ≤ x3_1) = true := decide_eq_true c3
     clear c3
     by_cases c5 : (bt a0 x3_1) = 32
     ·
      rw [if_pos c5] at H
      have c5b0 : ((bt a0 x3_1) == 32) = true := beq_iff_eq.mpr c5
      have c5b1 : ((bt a0 x3_1) != 32) = false := bne_eq_false_iff_eq.mpr c5
      clear c5
      have H' := Aside0.mk H
      clear H
      have p4 : 0 ≤ (x3_1 : Int) := of_decide_eq_true qnv5_
      have q4 : x3_1 < (a0.size : Int) := of_decide_eq_true qnv5_
      have hx4 := bt_at a0 x3_1
      replace p4 := eq_true p4
      replace q4 := eq_true q4
      go_wp2
      go_roundg k1
      case measure => have := HK1.out; omega
      case rel => exact ⟨(wrap64 (x3_1 + 1)), qnv2_, H', ⟨by have := HK1.out; omega⟩, qnv11_⟩
     ·
      rw [if_neg c5] at H
      have c5b0 : ((bt a0 x3_1) == 32) = false := beq_eq_false_iff_ne.mpr c5
      have c5b1 : ((bt a0 x3_1) != 32) = true := bne_iff_ne.mpr c5
      by_cases c7 : (bt a0 x3_1) = 9
      ·
       rw [if_pos c7] at H
       have c7b0 : ((bt a0 x3_1) == 9) = true := beq_iff_eq.mpr c7
       have c7b1 : ((bt a0 x3_1) != 9) = false := bne_eq_false_iff_eq.mpr c7
       clear c7
       have H' := Aside0.mk H
       clear H
       have p4 : 0 ≤ (x3_1 : Int) := of_decide_eq_true qnv5_
       have q4 : x3_1 < (a0.size : Int) := of_decide_eq_true qnv5_
       have hx4 := bt_at a0 x3_1
       replace p4 := eq_true p4
       replace q4 := eq_true q4
       have p6 : 0 ≤ (x3_1 : Int) := of_decide_eq_true qnv5_
       have q6 : x3_1 < (a0.size : Int) := of_decide_eq_true qnv5_
       have hx6 := bt_at a0 x3_1
       replace p6 := eq_true p6
       replace q6 := eq_true q6
       go_wp2
       go_roundg k1
       case measure => have := HK1.out; omega
       case rel => exact ⟨(wrap64 (x3_1 + 1)), qnv2_, H', ⟨by have := HK1.out; omega⟩, qnv11_⟩
      ·
       rw [if_neg c7] at H
       have c7b0 : ((bt a0 x3_1) == 9) = false := beq_eq_false_iff_ne.mpr c7
       have c7b1 : ((bt a0 x3_1) != 9) = true := bne_iff_ne.mpr c7
       obtain rfl := Option.some.inj H
       have p4 : 0 ≤ (x3_1 : Int) := of_decide_eq_true qnv5_
       have q4 : x3_1 < (a0.size : Int) := of_decide_eq_true qnv5_
       have hx4 := bt_at a0 x3_1
       replace p4 := eq_true p4
       replace q4 := eq_true q4
       have p6 : 0 ≤ (x3_1 : Int) := of_decide_eq_true qnv5_
       have q6 : x3_1 < (a0.size : Int) := of_decide_eq_true qnv5_
       have hx6 := bt_at a0 x3_1
       replace p6 := eq_true p6
       replace q6 := eq_true q6
       go_wp2
       go_ret
       exact ⟨qnv2_, qnv11_⟩
    ·
     rw [if_neg c3] at H
     exact absurd H (by simp)
   ·
    rw [if_neg c2] at H
    have c2b0 : decide (x3_1 < (a0.size : Int)) = false := decide_eq_false c2
    clear c2
    obtain rfl := Option.some.inj H
    go_wp2
    go_ret
    exact ⟨qnv2_, qnv11_⟩


/-! ### numeral_digit: function 68 -/
def numeral_digit.f (a0 : Int) : Option (Bool) := if a0 ≥ 48 then (some (decide (a0 ≤ 57))) else (some false)
set_option maxHeartbeats 8000000 in
set_option maxRecDepth 100000 in
theorem numeral_digit.calls (a0 : Int) (r : Bool) (w : World) (h : numeral_digit.f a0 = some r) :
  Calls Tryd.prog 68 #[.int .u8 a0] w fun e w' => e = .returned (.bool r) ∧ Drawn0 w w' := by
 have H : (if a0 ≥ 48 then (some (decide (a0 ≤ 57))) else (some false)) = some r := h
 clear h
 by_cases c2 : a0 ≥ 48
 ·
  rw [if_pos c2] at H
  have c2b0 : decide (48 ≤ a0) = true := decide_eq_true c2
  clear c2
  obtain rfl := Option.some.inj H
  go_enter Tryd.func68, Tryd.ntmps68
  go_wp2
  go_ret
  exact ⟨qnv2_, qnv11_⟩
 ·
  rw [if_neg c2] at H
  have c2b0 : decide (48 ≤ a0) = false := decide_eq_false c2
  clear c2
  obtain rfl := Option.some.inj H
  go_enter Tryd.func68, Tryd.ntmps68
  go_wp2
  go_ret
  exact ⟨qnv2_, qnv11_⟩


/-! ### numeral_plain: function 36 (by hand) -/
def plainDig (x : Int) : Bool := decide (48 ≤ x) && decide (x ≤ 57)
def plainRun (s : ByteArray) : Nat → Nat → Nat
  | 0, i => i
  | k + 1, i => if i < s.size ∧ plainDig (bt s i) = true then plainRun s k (i + 1) else i
/-- The place behind the digits from i on. -/
def plainEnd (s : ByteArray) (i : Nat) : Nat := plainRun s (s.size - i) i
theorem plainEnd_eq (s : ByteArray) (i : Nat) : plainEnd s i = if i < s.size ∧ plainDig (bt s i) = true then plainEnd s (i + 1) else i := by
  unfold plainEnd
  by_cases h : i < s.size
  · obtain ⟨k, hk⟩ : ∃ k, s.size - i = k + 1 := ⟨s.size - i - 1, by omega⟩
    have hk' : s.size - (i + 1) = k := by omega
    rw [hk, hk']
    rfl
  · rw [if_neg (fun hh => h hh.1), show s.size - i = 0 from by omega]
    rfl
theorem plainEnd_yes {s : ByteArray} {i : Nat} (h : i < s.size) (hd : plainDig (bt s i) = true) : plainEnd s i = plainEnd s (i + 1) := by
  rw [plainEnd_eq, if_pos ⟨h, hd⟩]
theorem plainEnd_no {s : ByteArray} {i : Nat} (h : ¬ (i < s.size ∧ plainDig (bt s i) = true)) : plainEnd s i = i := by
  rw [plainEnd_eq, if_neg h]
theorem plainDig_f (x : Int) : numeral_digit.f x = some (plainDig x) := by
  unfold numeral_digit.f plainDig
  by_cases h : 48 ≤ x <;> simp [h]
/-- What the text holds from b on: the digits ahead of a point, those behind it, the place behind all; 0: there are none. -/
def plainF (s : ByteArray) (b : Nat) : Bool × ByteArray × ByteArray × Int :=
  if plainEnd s b < s.size ∧ bt s (plainEnd s b) = 46 then
    if (s.extract b (plainEnd s b)).toList = [] ∧ (s.extract (plainEnd s b + 1) (plainEnd s (plainEnd s b + 1))).toList = [] then (false, ⟨#[]⟩, ⟨#[]⟩, 0)
    else (false, s.extract b (plainEnd s b), s.extract (plainEnd s b + 1) (plainEnd s (plainEnd s b + 1)), (plainEnd s (plainEnd s b + 1) : Int))
  else if (s.extract b (plainEnd s b)).toList = [] then (false, ⟨#[]⟩, ⟨#[]⟩, 0) else (false, s.extract b (plainEnd s b), ⟨#[]⟩, (plainEnd s b : Int))
def numeral_plain.f (a0 : ByteArray) (a1 : Int) : Option (Bool × ByteArray × ByteArray × Int) :=
  if 0 ≤ a1 ∧ a1 ≤ (a0.size : Int) ∧ (a0.size : Int) < 9223372036854775807 then some (plainF a0 a1.toNat) else none

/-- As Q; by a goto: J of that label. -/
def plainJumps (J : Nat → Act → World → Prop) (Q : Exit → Act → World → Prop) : Exit → Act → World → Prop
  | .goto l, a, w => J l a w
  | e, a, w => Q e a w
/-- A scope of three labels: what holds at each jump, and a measure that each pass from a label lowers. -/
theorem plain_scope {P : Program} {Q : Exit → Act → World → Prop} {a : Act} {w : World} {c r0 r1 r2 : Code} (J : Nat → Act → World → Prop) (μ : Nat → Act → World → Nat) (hJ : ∀ l a w, J l a w → l = 0 ∨ l = 1 ∨ l = 2)
    (h0 : findLabel c 0 = some r0) (h1 : findLabel c 1 = some r1) (h2 : findLabel c 2 = some r2)
    (first : c.wp P (plainJumps J Q) a w)
    (p0 : ∀ a w, J 0 a w → r0.wp P (plainJumps (fun l a' w' => J l a' w' ∧ μ l a' w' < μ 0 a w) Q) a w)
    (p1 : ∀ a w, J 1 a w → r1.wp P (plainJumps (fun l a' w' => J l a' w' ∧ μ l a' w' < μ 1 a w) Q) a w)
    (p2 : ∀ a w, J 2 a w → r2.wp P (plainJumps (fun l a' w' => J l a' w' ∧ μ l a' w' < μ 2 a w) Q) a w) : (Code.scope c).wp P Q a w := by
  intro b k cs
  have key : ∀ n l a w, μ l a w = n → J l a w → ∃ rest, findLabel c l = some rest ∧ ∃ e a' w', Q e a' w' ∧ Arrives P (lone (b.at a (.code rest :: .inScope c :: k)) cs w) b k cs e a' w' := by
    intro n
    induction n using Nat.strongRecOn with
    | _ n ih =>
      intro l a w hn hl
      obtain ⟨rest, hr, hp⟩ : ∃ rest, findLabel c l = some rest ∧ rest.wp P (plainJumps (fun l' a' w' => J l' a' w' ∧ μ l' a' w' < μ l a w) Q) a w := by
        rcases hJ l a w hl with rfl | rfl | rfl
        · exact ⟨r0, h0, p0 a w hl⟩
        · exact ⟨r1, h1, p1 a w hl⟩
        · exact ⟨r2, h2, p2 a w hl⟩
      refine ⟨rest, hr, ?_⟩
      obtain ⟨e, a₁, w₁, hq, harr⟩ := hp b (.inScope c :: k) cs
      cases e with
      | normal => exact ⟨.normal, a₁, w₁, hq, Steps.trans harr (.one step_inScope)⟩
      | exit id => exact ⟨.exit id, a₁, w₁, hq, fun k' hk => harr k' (by simp [exitTo, hk])⟩
      | goto l' =>
        obtain ⟨hJ', hlt⟩ := hq
        obtain ⟨rest', hr', e₂, a₂, w₂, hq₂, harr₂⟩ := ih _ (by omega) l' a₁ w₁ rfl hJ'
        exact ⟨e₂, a₂, w₂, hq₂, .of_steps (harr _ (by simp [gotoIn, hr'])) harr₂⟩
      | ret => exact ⟨_, a₁, w₁, hq, harr⟩
      | panic ch => exact ⟨_, a₁, w₁, hq, harr⟩
      | outgrown => exact ⟨_, a₁, w₁, hq, harr⟩
  obtain ⟨e, a₁, w₁, hq, harr⟩ := first b (.inScope c :: k) cs
  cases e with
  | normal => exact ⟨.normal, a₁, w₁, hq, .head step_scope (Steps.trans harr (.one step_inScope))⟩
  | exit id => exact ⟨.exit id, a₁, w₁, hq, fun k' hk => .head step_scope (harr k' (by simp [exitTo, hk]))⟩
  | goto l =>
    obtain ⟨rest, hr, e₂, a₂, w₂, hq₂, harr₂⟩ := key _ l a₁ w₁ rfl hq
    exact ⟨e₂, a₂, w₂, hq₂, .of_steps (.head step_scope (harr _ (by simp [gotoIn, hr]))) harr₂⟩
  | ret => exact ⟨_, a₁, w₁, hq, .of_steps (.one step_scope) harr⟩
  | panic ch => exact ⟨_, a₁, w₁, hq, .of_steps (.one step_scope) harr⟩
  | outgrown => exact ⟨_, a₁, w₁, hq, .of_steps (.one step_scope) harr⟩

/-- What holds at each label. -/
def plainJ (s : ByteArray) (b : Nat) (w : World) : Nat → Act → World → Prop
  | 0, a, w' => ∃ (g4 g5 : Nat) (x : Int), Hid ((b : Int) ≤ x ∧ x ≤ (s.size : Int) ∧ plainEnd s x.toNat = plainEnd s b) ∧ Hid (g4 ≠ g5 ∧ w.heap.size ≤ g4 ∧ w.heap.size ≤ g5 ∧ Below w.heap.size w w' ∧ w'.heap[g4]? = some (.cells #[.bool false, .string ⟨#[]⟩, .string ⟨#[]⟩, .int .i64 0] 55 (0, 0)) ∧ w'.heap[g5]? = some (.cells #[.bool false, .string ⟨#[]⟩, .string ⟨#[]⟩, .int .i64 0] 55 (0, 0))) ∧ ∃ u2 u3 u8 u9 u10 u11 u12 u13 u14 u15 u16 u17 u18 u19 u20 u21 u22 u23 u24 u25 u26 u27 u28 u29 u30 u31 u32 u33 u34 u35 u36 u37 u38 u39 u40 u41 u42 u43 u44 u45 u46 u47 u48 u49 u50 u51 u52 u53 u54 u55 u56 u57 u58 u59 u60 u61 u62 u63 u64 u65 u66 u67 u68 u69 u70 u71 : Value, a = ⟨#[.string s, .int .i64 x, u2, u3, .pointer (some ⟨g4, 0, none⟩), .pointer (some ⟨g5, 0, none⟩), .int .i64 (b : Nat), .int .i64 (b : Nat), u8, u9, u10, u11, u12, u13, u14, u15, u16, u17, u18, u19, u20, u21, u22, u23, u24, u25, u26, u27, u28, u29, u30, u31, u32, u33, u34, u35, u36, u37, u38, u39, u40, u41, u42, u43, u44, u45, u46, u47, u48, u49, u50, u51, u52, u53, u54, u55, u56, u57, u58, u59, u60, u61, u62, u63, u64, u65, u66, u67, u68, u69, u70, u71], []⟩
  | 1, a, w' => ∃ (g4 g5 p : Nat) (x : Int), Hid (p = plainEnd s b ∧ p < s.size ∧ bt s p = 46 ∧ b ≤ p ∧ (p : Int) + 1 ≤ x ∧ x ≤ (s.size : Int) ∧ plainEnd s x.toNat = plainEnd s (p + 1)) ∧ Hid (g4 ≠ g5 ∧ w.heap.size ≤ g4 ∧ w.heap.size ≤ g5 ∧ Below w.heap.size w w' ∧ w'.heap[g4]? = some (.cells #[.bool false, .string ⟨#[]⟩, .string ⟨#[]⟩, .int .i64 0] 55 (0, 0)) ∧ w'.heap[g5]? = some (.cells #[.bool false, .string (s.extract b p), .string ⟨#[]⟩, .int .i64 0] 55 (0, 0))) ∧ ∃ u2 u3 u8 u9 u10 u11 u12 u13 u14 u15 u16 u17 u18 u19 u20 u21 u22 u23 u24 u25 u26 u27 u28 u29 u30 u31 u32 u33 u34 u35 u36 u37 u38 u39 u40 u41 u42 u43 u44 u45 u46 u47 u48 u49 u50 u51 u52 u53 u54 u55 u56 u57 u58 u59 u60 u61 u62 u63 u64 u65 u66 u67 u68 u69 u70 u71 : Value, a = ⟨#[.string s, .int .i64 x, u2, u3, .pointer (some ⟨g4, 0, none⟩), .pointer (some ⟨g5, 0, none⟩), .int .i64 ((p : Int) + 1), .int .i64 (p : Nat), u8, u9, u10, u11, u12, u13, u14, u15, u16, u17, u18, u19, u20, u21, u22, u23, u24, u25, u26, u27, u28, u29, u30, u31, u32, u33, u34, u35, u36, u37, u38, u39, u40, u41, u42, u43, u44, u45, u46, u47, u48, u49, u50, u51, u52, u53, u54, u55, u56, u57, u58, u59, u60, u61, u62, u63, u64, u65, u66, u67, u68, u69, u70, u71], []⟩
  | 2, a, w' => ∃ (g4 g5 p : Nat), Hid (p = plainEnd s b ∧ ¬ (p < s.size ∧ bt s p = 46) ∧ b ≤ p ∧ p ≤ s.size) ∧ Hid (g4 ≠ g5 ∧ w.heap.size ≤ g4 ∧ w.heap.size ≤ g5 ∧ Below w.heap.size w w' ∧ w'.heap[g4]? = some (.cells #[.bool false, .string ⟨#[]⟩, .string ⟨#[]⟩, .int .i64 0] 55 (0, 0)) ∧ w'.heap[g5]? = some (.cells #[.bool false, .string (s.extract b p), .string ⟨#[]⟩, .int .i64 0] 55 (0, 0))) ∧ ∃ u2 u3 u8 u9 u10 u11 u12 u13 u14 u15 u16 u17 u18 u19 u20 u21 u22 u23 u24 u25 u26 u27 u28 u29 u30 u31 u32 u33 u34 u35 u36 u37 u38 u39 u40 u41 u42 u43 u44 u45 u46 u47 u48 u49 u50 u51 u52 u53 u54 u55 u56 u57 u58 u59 u60 u61 u62 u63 u64 u65 u66 u67 u68 u69 u70 u71 : Value, a = ⟨#[.string s, .int .i64 (p : Nat), u2, u3, .pointer (some ⟨g4, 0, none⟩), .pointer (some ⟨g5, 0, none⟩), .int .i64 (b : Nat), .int .i64 (p : Nat), u8, u9, u10, u11, u12, u13, u14, u15, u16, u17, u18, u19, u20, u21, u22, u23, u24, u25, u26, u27, u28, u29, u30, u31, u32, u33, u34, u35, u36, u37, u38, u39, u40, u41, u42, u43, u44, u45, u46, u47, u48, u49, u50, u51, u52, u53, u54, u55, u56, u57, u58, u59, u60, u61, u62, u63, u64, u65, u66, u67, u68, u69, u70, u71], []⟩
  | _, _, _ => False
theorem plainJ_label {s : ByteArray} {b : Nat} {w : World} : ∀ l a w', plainJ s b w l a w' → l = 0 ∨ l = 1 ∨ l = 2
  | 0, _, _, _ => .inl rfl
  | 1, _, _, _ => .inr (.inl rfl)
  | 2, _, _, _ => .inr (.inr rfl)
  | _ + 3, _, _, h => h.elim
/-- The measure: the labels in their order, then what is left of the text. -/
def plainM (s : ByteArray) (l : Nat) (a : Act) (_ : World) : Nat := (2 - l) * (s.size + 1) + (s.size - (intOf (a.tmps.getD 1 undef)).toNat)
noncomputable def plainBody : Code := match Tryd.f36.body with | some (.seq _ (.scope c)) => c | _ => .skip
noncomputable def plainTail (l : Nat) : Code := match findLabel plainBody l with | some (.seq _ c) => c | _ => .skip
theorem plainDig_at {s : ByteArray} {x : Int} {d : Bool} (h : plainDig (bt s x) = d) : numeral_digit.f (bt s x) = some d := by rw [plainDig_f, h]

set_option maxRecDepth 100000 in
set_option maxHeartbeats 4000000 in
/-- From the first label on. -/
theorem plain_pass0 (s : ByteArray) (b : Nat) (w : World) (K : Nat → Act → World → Prop) (Q : Exit → Act → World → Prop) (W : World) (g4 g5 : Nat) (x : Int) (hs : (s.size : Int) < 9223372036854775807)
    (hx : Hid ((b : Int) ≤ x ∧ x ≤ (s.size : Int) ∧ plainEnd s x.toNat = plainEnd s b))
    (hw : Hid (g4 ≠ g5 ∧ w.heap.size ≤ g4 ∧ w.heap.size ≤ g5 ∧ Below w.heap.size w W ∧ W.heap[g4]? = some (.cells #[.bool false, .string ⟨#[]⟩, .string ⟨#[]⟩, .int .i64 0] 55 (0, 0)) ∧ W.heap[g5]? = some (.cells #[.bool false, .string ⟨#[]⟩, .string ⟨#[]⟩, .int .i64 0] 55 (0, 0))))
    (u2 u3 u8 u9 u10 u11 u12 u13 u14 u15 u16 u17 u18 u19 u20 u21 u22 u23 u24 u25 u26 u27 u28 u29 u30 u31 u32 u33 u34 u35 u36 u37 u38 u39 u40 u41 u42 u43 u44 u45 u46 u47 u48 u49 u50 u51 u52 u53 u54 u55 u56 u57 u58 u59 u60 u61 u62 u63 u64 u65 u66 u67 u68 u69 u70 u71 : Value)
    (hK : ∀ l a' w', plainJ s b w l a' w' → plainM s l a' w' < plainM s 0 ⟨#[.string s, .int .i64 x, u2, u3, .pointer (some ⟨g4, 0, none⟩), .pointer (some ⟨g5, 0, none⟩), .int .i64 (b : Nat), .int .i64 (b : Nat), u8, u9, u10, u11, u12, u13, u14, u15, u16, u17, u18, u19, u20, u21, u22, u23, u24, u25, u26, u27, u28, u29, u30, u31, u32, u33, u34, u35, u36, u37, u38, u39, u40, u41, u42, u43, u44, u45, u46, u47, u48, u49, u50, u51, u52, u53, u54, u55, u56, u57, u58, u59, u60, u61, u62, u63, u64, u65, u66, u67, u68, u69, u70, u71], []⟩ W → K l a' w') :
    Code.wp Tryd.prog (plainTail 0) (plainJumps K Q) ⟨#[.string s, .int .i64 x, u2, u3, .pointer (some ⟨g4, 0, none⟩), .pointer (some ⟨g5, 0, none⟩), .int .i64 (b : Nat), .int .i64 (b : Nat), u8, u9, u10, u11, u12, u13, u14, u15, u16, u17, u18, u19, u20, u21, u22, u23, u24, u25, u26, u27, u28, u29, u30, u31, u32, u33, u34, u35, u36, u37, u38, u39, u40, u41, u42, u43, u44, u45, u46, u47, u48, u49, u50, u51, u52, u53, u54, u55, u56, u57, u58, u59, u60, u61, u62, u63, u64, u65, u66, u67, u68, u69, u70, u71], []⟩ W := by
  conv => arg 2; whnf
  obtain ⟨hx1, hx2, hx3⟩ := hx.out
  have hx3 := Aside0.mk hx3
  obtain ⟨hn, hg4, hg5, hb, hc4, hc5⟩ := hw.out
  have HB := Aside0.mk hb
  have H4 := Aside0.mk hc4
  have H5 := Aside0.mk hc5
  clear hb hc4 hc5 hx hw
  have HK := Aside0.mk hK
  clear hK
  have hc50 : W.cell? ⟨g5, 1, none⟩ = some (.string ⟨#[]⟩) := (blk_cell H5.out 1).trans rfl
  have hf50 := blk_frozen H5.out 1
  have hx0 : 0 ≤ x := by omega
  have hbx := bt_at s x
  by_cases hlt : x < (s.size : Int)
  · by_cases hd : plainDig (bt s x) = true
    · have A1 := Aside0.mk (plainDig_at hd)
      have HD := Aside0.mk hd
      clear hd
      have p1 := eq_true hx0
      have q1 := eq_true hlt
      go_wp2_with (go_at_call 68; (with_reducible refine (numeral_digit.calls (bt s x) true _ A1.out).mono ?_); rintro e w' ⟨rfl, ⟨nd, rfl⟩⟩)
      go_step3
      refine HK.out 0 _ _ ⟨g4, g5, x + 1, ⟨by omega, by omega, ?_⟩, ⟨hn, hg4, hg5, pw_below_drewN HB.out _, blk_drewN H4.out _, blk_drewN H5.out _⟩, _, _, _, _, _, _, _, _, _, _, _, _, _, _, _, _, _, _, _, _, _, _, _, _, _, _, _, _, _, _, _, _, _, _, _, _, _, _, _, _, _, _, _, _, _, _, _, _, _, _, _, _, _, _, _, _, _, _, _, _, _, _, _, _, _, _, rfl⟩ ?_
      · rw [show (x + 1).toNat = x.toNat + 1 from by omega, ← plainEnd_yes (by omega) (by rw [show ((x.toNat : Nat) : Int) = x from by omega]; exact HD.out)]
        exact hx3.out
      · show (2 - 0) * (s.size + 1) + (s.size - (x + 1).toNat) < (2 - 0) * (s.size + 1) + (s.size - x.toNat)
        omega
    · have A1 := Aside0.mk (plainDig_at (d := false) (by simpa using hd))
      obtain ⟨p, rfl⟩ := Int.eq_ofNat_of_zero_le hx0
      have HP := Aside0.mk (show p = plainEnd s b from by rw [← hx3.out, Int.toNat_natCast, plainEnd_no (fun hh => hd hh.2)])
      clear hd
      have p1 := eq_true hx0
      have q1 := eq_true hlt
      have hsl : b ≤ p := by omega
      have hsp : p < s.size := by omega
      have hbx2 : ∀ h : p < s.size, ((s[p]'h).toNat : Int) = bt s (p : Int) := bt_at s (p : Int)
      by_cases hdot : bt s (p : Int) = 46
      · have hdb : (bt s (p : Int) == 46) = true := by simpa using hdot
        have HDOT := Aside0.mk hdot
        clear hdot
        go_wp2_with (go_at_call 68; (with_reducible refine (numeral_digit.calls (bt s (p : Int)) false _ A1.out).mono ?_); rintro e w' ⟨rfl, ⟨nd, rfl⟩⟩)
        go_step3
        refine HK.out 1 _ _ ⟨g4, g5, p, (p : Int) + 1, ⟨HP.out, hsp, HDOT.out, hsl, Int.le_refl _, by omega, by rw [show ((p : Int) + 1).toNat = p + 1 from by omega]⟩, ⟨hn, hg4, hg5, below_set (pw_below_drewN HB.out _) hg5, blk_far (blk_drewN H4.out _) hn _, blk_put (blk_drewN H5.out _) 1 _ rfl⟩, _, _, _, _, _, _, _, _, _, _, _, _, _, _, _, _, _, _, _, _, _, _, _, _, _, _, _, _, _, _, _, _, _, _, _, _, _, _, _, _, _, _, _, _, _, _, _, _, _, _, _, _, _, _, _, _, _, _, _, _, _, _, _, _, _, _, rfl⟩ ?_
        show (2 - 1) * (s.size + 1) + (s.size - ((p : Int) + 1).toNat) < (2 - 0) * (s.size + 1) + (s.size - (p : Int).toNat)
        omega
      · have hdb : (bt s (p : Int) == 46) = false := by simpa using hdot
        have HDOT := Aside0.mk hdot
        clear hdot
        go_wp2_with (go_at_call 68; (with_reducible refine (numeral_digit.calls (bt s (p : Int)) false _ A1.out).mono ?_); rintro e w' ⟨rfl, ⟨nd, rfl⟩⟩)
        go_step3
        refine HK.out 2 _ _ ⟨g4, g5, p, ⟨HP.out, fun hh => HDOT.out hh.2, hsl, by omega⟩, ⟨hn, hg4, hg5, below_set (pw_below_drewN HB.out _) hg5, blk_far (blk_drewN H4.out _) hn _, blk_put (blk_drewN H5.out _) 1 _ rfl⟩, _, _, _, _, _, _, _, _, _, _, _, _, _, _, _, _, _, _, _, _, _, _, _, _, _, _, _, _, _, _, _, _, _, _, _, _, _, _, _, _, _, _, _, _, _, _, _, _, _, _, _, _, _, _, _, _, _, _, _, _, _, _, _, _, _, _, rfl⟩ ?_
        show (2 - 2) * (s.size + 1) + (s.size - (p : Int).toNat) < (2 - 0) * (s.size + 1) + (s.size - (p : Int).toNat)
        omega
  · obtain ⟨p, rfl⟩ := Int.eq_ofNat_of_zero_le hx0
    have HP := Aside0.mk (show p = plainEnd s b from by rw [← hx3.out, Int.toNat_natCast, plainEnd_no (fun hh => hlt (by omega))])
    have hsl : b ≤ p := by omega
    go_wp2
    go_step3
    refine HK.out 2 _ _ ⟨g4, g5, p, ⟨HP.out, fun hh => absurd hh.1 (by omega), hsl, by omega⟩, ⟨hn, hg4, hg5, below_set HB.out hg5, blk_far H4.out hn _, blk_put H5.out 1 _ rfl⟩, _, _, _, _, _, _, _, _, _, _, _, _, _, _, _, _, _, _, _, _, _, _, _, _, _, _, _, _, _, _, _, _, _, _, _, _, _, _, _, _, _, _, _, _, _, _, _, _, _, _, _, _, _, _, _, _, _, _, _, _, _, _, _, _, _, _, rfl⟩ ?_
    show (2 - 2) * (s.size + 1) + (s.size - (p : Int).toNat) < (2 - 0) * (s.size + 1) + (s.size - (p : Int).toNat)
    omega
def plainOut (A B : ByteArray) (q : Int) : Bool × ByteArray × ByteArray × Int := if A.toList = [] ∧ B.toList = [] then (false, ⟨#[]⟩, ⟨#[]⟩, 0) else (false, A, B, q)
def plainCells (r : Bool × ByteArray × ByteArray × Int) : Array Value := #[.bool r.1, .string r.2.1, .string r.2.2.1, .int .i64 r.2.2.2]
set_option maxRecDepth 100000 in
set_option maxHeartbeats 4000000 in
/-- From the last label on. -/
theorem plain_pass2 (w : World) (K : Nat → Act → World → Prop) (Q : Exit → Act → World → Prop) (W : World) (g4 g5 p q : Nat) (s A B : ByteArray) (hpq : p ≤ q) (hq : (q : Int) < 9223372036854775807)
    (hw : Hid (g4 ≠ g5 ∧ w.heap.size ≤ g4 ∧ w.heap.size ≤ g5 ∧ Below w.heap.size w W ∧ W.heap[g4]? = some (.cells #[.bool false, .string ⟨#[]⟩, .string ⟨#[]⟩, .int .i64 0] 55 (0, 0)) ∧ W.heap[g5]? = some (.cells #[.bool false, .string A, .string B, .int .i64 0] 55 (0, 0))))
    (u6 u2 u3 u8 u9 u10 u11 u12 u13 u14 u15 u16 u17 u18 u19 u20 u21 u22 u23 u24 u25 u26 u27 u28 u29 u30 u31 u32 u33 u34 u35 u36 u37 u38 u39 u40 u41 u42 u43 u44 u45 u46 u47 u48 u49 u50 u51 u52 u53 u54 u55 u56 u57 u58 u59 u60 u61 u62 u63 u64 u65 u66 u67 u68 u69 u70 u71 : Value)
    (hQ : ∀ (g : Nat) (a' : Act) (W' : World), a'.tmps.getD 4 undef = .pointer (some ⟨g, 0, none⟩) → a'.defers = [] → W'.heap[g]? = some (.cells (plainCells (plainOut A B q)) 55 (0, 0)) → Below w.heap.size w W' → Q .ret a' W') :
    Code.wp Tryd.prog (plainTail 2) (plainJumps K Q) ⟨#[.string s, .int .i64 (q : Nat), u2, u3, .pointer (some ⟨g4, 0, none⟩), .pointer (some ⟨g5, 0, none⟩), u6, .int .i64 (p : Nat), u8, u9, u10, u11, u12, u13, u14, u15, u16, u17, u18, u19, u20, u21, u22, u23, u24, u25, u26, u27, u28, u29, u30, u31, u32, u33, u34, u35, u36, u37, u38, u39, u40, u41, u42, u43, u44, u45, u46, u47, u48, u49, u50, u51, u52, u53, u54, u55, u56, u57, u58, u59, u60, u61, u62, u63, u64, u65, u66, u67, u68, u69, u70, u71], []⟩ W := by
  conv => arg 2; whnf
  obtain ⟨hn, hg4, hg5, hb, hc4, hc5⟩ := hw.out
  have hn' := hn.symm
  have HB := Aside0.mk hb
  have H4 := Aside0.mk hc4
  have H5 := Aside0.mk hc5
  clear hb hc4 hc5 hw
  have HQ := Aside0.mk hQ
  clear hQ
  have hu := Tryd.underlying55
  have hc50 : W.cell? ⟨g5, 0, none⟩ = some (.bool false) := (blk_cell H5.out 0).trans rfl
  have hc51 : W.cell? ⟨g5, 1, none⟩ = some (.string A) := (blk_cell H5.out 1).trans rfl
  have hc52 : W.cell? ⟨g5, 2, none⟩ = some (.string B) := (blk_cell H5.out 2).trans rfl
  have hc53 : W.cell? ⟨g5, 3, none⟩ = some (.int .i64 0) := (blk_cell H5.out 3).trans rfl
  have hf53 := blk_frozen H5.out 3
  have hc40 : W.cell? ⟨g4, 0, none⟩ = some (.bool false) := (blk_cell H4.out 0).trans rfl
  have hc41 : W.cell? ⟨g4, 1, none⟩ = some (.string ⟨#[]⟩) := (blk_cell H4.out 1).trans rfl
  have hc42 : W.cell? ⟨g4, 2, none⟩ = some (.string ⟨#[]⟩) := (blk_cell H4.out 2).trans rfl
  have hc43 : W.cell? ⟨g4, 3, none⟩ = some (.int .i64 0) := (blk_cell H4.out 3).trans rfl
  have hf40 := blk_frozen H4.out 0
  have hf41 := blk_frozen H4.out 1
  have hf42 := blk_frozen H4.out 2
  have hf43 := blk_frozen H4.out 3
  by_cases hA : A.toList = []
  · have hAb : (A.toList == []) = true := by simpa using hA
    have hAc : A.toList.isEmpty = true := by simp [hA]
    have HA := Aside0.mk hA
    clear hA
    by_cases hB : B.toList = []
    · have hBb : (B.toList == []) = true := by simpa using hB
      have hBc : B.toList.isEmpty = true := by simp [hB]
      have HE := Aside0.mk (show plainOut A B q = (false, ⟨#[]⟩, ⟨#[]⟩, 0) from if_pos ⟨HA.out, hB⟩)
      clear hB
      go_wp2
      show Q .ret _ _
      refine HQ.out g4 _ _ rfl rfl ?_ (below_set (below_set (below_set (below_set HB.out hg4) hg4) hg4) hg4)
      rw [HE.out]
      exact blk_put (blk_put (blk_put (blk_put H4.out 0 _ rfl) 1 _ rfl) 2 _ rfl) 3 _ rfl
    · have hBb : (B.toList == []) = false := by simpa using hB
      have hBc : B.toList.isEmpty = false := by simpa using hB
      have HE := Aside0.mk (show plainOut A B q = (false, A, B, (q : Int)) from if_neg fun hh => hB hh.2)
      clear hB
      go_wp2
      show Q .ret _ _
      refine HQ.out g4 _ _ rfl rfl ?_ (below_set (below_set (below_set (below_set (below_set HB.out hg5) hg4) hg4) hg4) hg4)
      rw [HE.out]
      exact blk_put (blk_put (blk_put (blk_put (blk_far H4.out hn _) 0 _ rfl) 1 _ rfl) 2 _ rfl) 3 _ rfl
  · have hAb : (A.toList == []) = false := by simpa using hA
    have hAc : A.toList.isEmpty = false := by simpa using hA
    have HE := Aside0.mk (show plainOut A B q = (false, A, B, (q : Int)) from if_neg fun hh => hA hh.1)
    clear hA
    go_wp2
    show Q .ret _ _
    refine HQ.out g4 _ _ rfl rfl ?_ (below_set (below_set (below_set (below_set (below_set HB.out hg5) hg4) hg4) hg4) hg4)
    rw [HE.out]
    exact blk_put (blk_put (blk_put (blk_put (blk_far H4.out hn _) 0 _ rfl) 1 _ rfl) 2 _ rfl) 3 _ rfl

set_option maxRecDepth 100000 in
set_option maxHeartbeats 4000000 in
/-- From the middle label on. -/
theorem plain_pass1 (s : ByteArray) (b : Nat) (w : World) (K : Nat → Act → World → Prop) (Q : Exit → Act → World → Prop) (W : World) (g4 g5 p : Nat) (x : Int) (hs : (s.size : Int) < 9223372036854775807)
    (hx : Hid (p = plainEnd s b ∧ p < s.size ∧ bt s p = 46 ∧ b ≤ p ∧ (p : Int) + 1 ≤ x ∧ x ≤ (s.size : Int) ∧ plainEnd s x.toNat = plainEnd s (p + 1)))
    (hw : Hid (g4 ≠ g5 ∧ w.heap.size ≤ g4 ∧ w.heap.size ≤ g5 ∧ Below w.heap.size w W ∧ W.heap[g4]? = some (.cells #[.bool false, .string ⟨#[]⟩, .string ⟨#[]⟩, .int .i64 0] 55 (0, 0)) ∧ W.heap[g5]? = some (.cells #[.bool false, .string (s.extract b p), .string ⟨#[]⟩, .int .i64 0] 55 (0, 0))))
    (u2 u3 u8 u9 u10 u11 u12 u13 u14 u15 u16 u17 u18 u19 u20 u21 u22 u23 u24 u25 u26 u27 u28 u29 u30 u31 u32 u33 u34 u35 u36 u37 u38 u39 u40 u41 u42 u43 u44 u45 u46 u47 u48 u49 u50 u51 u52 u53 u54 u55 u56 u57 u58 u59 u60 u61 u62 u63 u64 u65 u66 u67 u68 u69 u70 u71 : Value)
    (hK : ∀ l a' w', plainJ s b w l a' w' → plainM s l a' w' < plainM s 1 ⟨#[.string s, .int .i64 x, u2, u3, .pointer (some ⟨g4, 0, none⟩), .pointer (some ⟨g5, 0, none⟩), .int .i64 ((p : Int) + 1), .int .i64 (p : Nat), u8, u9, u10, u11, u12, u13, u14, u15, u16, u17, u18, u19, u20, u21, u22, u23, u24, u25, u26, u27, u28, u29, u30, u31, u32, u33, u34, u35, u36, u37, u38, u39, u40, u41, u42, u43, u44, u45, u46, u47, u48, u49, u50, u51, u52, u53, u54, u55, u56, u57, u58, u59, u60, u61, u62, u63, u64, u65, u66, u67, u68, u69, u70, u71], []⟩ W → K l a' w')
    (hQ : ∀ (g : Nat) (a' : Act) (W' : World), a'.tmps.getD 4 undef = .pointer (some ⟨g, 0, none⟩) → a'.defers = [] → W'.heap[g]? = some (.cells (plainCells (plainF s b)) 55 (0, 0)) → Below w.heap.size w W' → Q .ret a' W') :
    Code.wp Tryd.prog (plainTail 1) (plainJumps K Q) ⟨#[.string s, .int .i64 x, u2, u3, .pointer (some ⟨g4, 0, none⟩), .pointer (some ⟨g5, 0, none⟩), .int .i64 ((p : Int) + 1), .int .i64 (p : Nat), u8, u9, u10, u11, u12, u13, u14, u15, u16, u17, u18, u19, u20, u21, u22, u23, u24, u25, u26, u27, u28, u29, u30, u31, u32, u33, u34, u35, u36, u37, u38, u39, u40, u41, u42, u43, u44, u45, u46, u47, u48, u49, u50, u51, u52, u53, u54, u55, u56, u57, u58, u59, u60, u61, u62, u63, u64, u65, u66, u67, u68, u69, u70, u71], []⟩ W := by
  conv => arg 2; whnf
  obtain ⟨hx1, hx2, hx3, hx4, hx5, hx6, hx7⟩ := hx.out
  have HX1 := Aside0.mk hx1
  have HX3 := Aside0.mk hx3
  have HX7 := Aside0.mk hx7
  clear hx1 hx3 hx7
  obtain ⟨hn, hg4, hg5, hb, hc4, hc5⟩ := hw.out
  have HB := Aside0.mk hb
  have H4 := Aside0.mk hc4
  have H5 := Aside0.mk hc5
  clear hb hc4 hc5 hx hw
  have HK := Aside0.mk hK
  have HQ := Aside0.mk hQ
  clear hK hQ
  have hc50 : W.cell? ⟨g5, 2, none⟩ = some (.string ⟨#[]⟩) := (blk_cell H5.out 2).trans rfl
  have hf50 := blk_frozen H5.out 2
  have hx0 : 0 ≤ x := by omega
  have hp0 : 0 ≤ (p : Int) + 1 := by omega
  have hp1 : ((p : Int) + 1).toNat = p + 1 := by omega
  by_cases hlt : x < (s.size : Int)
  · by_cases hd : plainDig (bt s x) = true
    · have A1 := Aside0.mk (plainDig_at hd)
      have HD := Aside0.mk hd
      clear hd
      have hbx := bt_at s x
      have p1 := eq_true hx0
      have q1 := eq_true hlt
      go_wp2_with (go_at_call 68; (with_reducible refine (numeral_digit.calls (bt s x) true _ A1.out).mono ?_); rintro e w' ⟨rfl, ⟨nd, rfl⟩⟩)
      go_step3
      refine HK.out 1 _ _ ⟨g4, g5, p, x + 1, ⟨HX1.out, hx2, HX3.out, hx4, by omega, by omega, ?_⟩, ⟨hn, hg4, hg5, pw_below_drewN HB.out _, blk_drewN H4.out _, blk_drewN H5.out _⟩, _, _, _, _, _, _, _, _, _, _, _, _, _, _, _, _, _, _, _, _, _, _, _, _, _, _, _, _, _, _, _, _, _, _, _, _, _, _, _, _, _, _, _, _, _, _, _, _, _, _, _, _, _, _, _, _, _, _, _, _, _, _, _, _, _, _, rfl⟩ ?_
      · rw [show (x + 1).toNat = x.toNat + 1 from by omega, ← plainEnd_yes (by omega) (by rw [show ((x.toNat : Nat) : Int) = x from by omega]; exact HD.out)]
        exact HX7.out
      · show (2 - 1) * (s.size + 1) + (s.size - (x + 1).toNat) < (2 - 1) * (s.size + 1) + (s.size - x.toNat)
        omega
    · have A1 := Aside0.mk (plainDig_at (d := false) (by simpa using hd))
      obtain ⟨q, rfl⟩ := Int.eq_ofNat_of_zero_le hx0
      have HP := Aside0.mk (show q = plainEnd s (p + 1) from by rw [← HX7.out, Int.toNat_natCast, plainEnd_no (fun hh => hd hh.2)])
      clear hd
      have hbx2 : ∀ h : q < s.size, ((s[q]'h).toNat : Int) = bt s (q : Int) := bt_at s (q : Int)
      have p1 := eq_true hx0
      have q1 := eq_true hlt
      have hsp : q < s.size := by omega
      have hpq : (p : Int) + 1 ≤ (q : Int) := by omega
      have HF := Aside0.mk (show plainF s b = plainOut (s.extract b p) (s.extract (p + 1) q) q from by unfold plainF plainOut; rw [← HX1.out, if_pos ⟨hx2, HX3.out⟩, ← HP.out])
      go_wp2_with (go_at_call 68; (with_reducible refine (numeral_digit.calls (bt s (q : Int)) false _ A1.out).mono ?_); rintro e w' ⟨rfl, ⟨nd, rfl⟩⟩)
      go_step3
      show (_ : Act → World → Prop) _ _
      refine (by assumption : ∀ (a_ : Act) (w_ : World), Code.wp Tryd.prog _ (plainJumps K Q) a_ w_ → _) _ _ ?_
      refine plain_pass2 w K Q _ g4 g5 p q s (s.extract b p) (s.extract (p + 1) q) (by omega) (by omega) ⟨hn, hg4, hg5, below_set (pw_below_drewN HB.out _) hg5, blk_far (blk_drewN H4.out _) hn _, blk_put (blk_drewN H5.out _) 2 _ rfl⟩ _ _ _ _ _ _ _ _ _ _ _ _ _ _ _ _ _ _ _ _ _ _ _ _ _ _ _ _ _ _ _ _ _ _ _ _ _ _ _ _ _ _ _ _ _ _ _ _ _ _ _ _ _ _ _ _ _ _ _ _ _ _ _ _ _ _ _ ?_
      intro g a' W' e1 e2 e3 e4
      exact HQ.out g a' W' e1 e2 (by rw [HF.out]; exact e3) e4
  · obtain ⟨q, rfl⟩ := Int.eq_ofNat_of_zero_le hx0
    have HP := Aside0.mk (show q = plainEnd s (p + 1) from by rw [← HX7.out, Int.toNat_natCast, plainEnd_no (fun hh => hlt (by omega))])
    have hpq : (p : Int) + 1 ≤ (q : Int) := by omega
    have HF := Aside0.mk (show plainF s b = plainOut (s.extract b p) (s.extract (p + 1) q) q from by unfold plainF plainOut; rw [← HX1.out, if_pos ⟨hx2, HX3.out⟩, ← HP.out])
    go_wp2
    go_step3
    show (_ : Act → World → Prop) _ _
    refine (by assumption : ∀ (a_ : Act) (w_ : World), Code.wp Tryd.prog _ (plainJumps K Q) a_ w_ → _) _ _ ?_
    refine plain_pass2 w K Q _ g4 g5 p q s (s.extract b p) (s.extract (p + 1) q) (by omega) (by omega) ⟨hn, hg4, hg5, below_set HB.out hg5, blk_far H4.out hn _, blk_put H5.out 2 _ rfl⟩ _ _ _ _ _ _ _ _ _ _ _ _ _ _ _ _ _ _ _ _ _ _ _ _ _ _ _ _ _ _ _ _ _ _ _ _ _ _ _ _ _ _ _ _ _ _ _ _ _ _ _ _ _ _ _ _ _ _ _ _ _ _ _ _ _ _ _ ?_
    intro g a' W' e1 e2 e3 e4
    exact HQ.out g a' W' e1 e2 (by rw [HF.out]; exact e3) e4

set_option maxRecDepth 100000 in
set_option maxHeartbeats 4000000 in
theorem numeral_plain.calls (a0 : ByteArray) (a1 : Int) (r1 : Bool) (r2 : ByteArray) (r3 : ByteArray) (r4 : Int) (w : World) (h : numeral_plain.f a0 a1 = some (r1, r2, r3, r4)) :
    Calls Tryd.prog 36 #[.string a0, .int .i64 a1] w fun e w' => e = .returned (.agg #[.bool r1, .string r2, .string r3, .int .i64 r4]) ∧ Below w.heap.size w w' := by
  unfold numeral_plain.f at h
  split at h
  · rename_i hh
    obtain ⟨h0, h1, h2⟩ := hh
    obtain ⟨b, rfl⟩ := Int.eq_ofNat_of_zero_le h0
    rw [Int.toNat_natCast] at h
    have HR := Aside0.mk (Option.some.inj h)
    clear h
    have hu := Tryd.underlying55
    have hQ : ∀ (g : Nat) (a' : Act) (W' : World), a'.tmps.getD 4 undef = .pointer (some ⟨g, 0, none⟩) → a'.defers = [] → W'.heap[g]? = some (.cells (plainCells (plainF a0 b)) 55 (0, 0)) → Below w.heap.size w W' →
        bodyPost Tryd.prog Tryd.f36 (fun e w' => e = .returned (.agg #[.bool r1, .string r2, .string r3, .int .i64 r4]) ∧ Below w.heap.size w w') .ret a' W' := by
      intro g a' W' e1 e2 e3 e4
      rw [HR.out] at e3
      refine bodyPost_ret (results_cell_row rfl _ _ g 55 (plainCells (r1, r2, r3, r4)) (0, 0) _ e1 e3 hu rfl (by kernel_rfl)) e2 ⟨rfl, e4⟩
    have HQ := Aside0.mk hQ
    clear hQ
    have HB := Aside0.mk (Below.refl w.heap.size w)
    go_enter Tryd.func36, Tryd.ntmps36
    go_wp2
    refine plain_scope (plainJ a0 b w) (plainM a0) plainJ_label rfl rfl rfl ?_ ?_ ?_ ?_
    · go_wp2_with fail
      go_step3
      show (_ : Act → World → Prop) _ _
      refine (by assumption : ∀ (a_ : Act) (w_ : World), Code.wp Tryd.prog _ (plainJumps _ _) a_ w_ → _) _ _ ?_
      refine plain_pass0 a0 b w _ _ _ w.heap.size (w.heap.size + 1) (b : Int) h2 ⟨Int.le_refl _, h1, rfl⟩ ⟨by omega, Nat.le_refl _, by omega, ?_, ?_, ?_⟩ _ _ _ _ _ _ _ _ _ _ _ _ _ _ _ _ _ _ _ _ _ _ _ _ _ _ _ _ _ _ _ _ _ _ _ _ _ _ _ _ _ _ _ _ _ _ _ _ _ _ _ _ _ _ _ _ _ _ _ _ _ _ _ _ _ _ (fun l a' w' h _ => h)
      · exact ((Below.refl _ _).alloc (Nat.le_refl _) _).alloc (by simp) _
      · exact (Below.heap_alloc _ _ _ (by simp)).trans (blk_new w _)
      · have := blk_new (w.alloc (.cells #[.bool false, .string ⟨#[]⟩, .string ⟨#[]⟩, .int .i64 0] 55 (0, 0))) (.cells #[.bool false, .string ⟨#[]⟩, .string ⟨#[]⟩, .int .i64 0] 55 (0, 0))
        rwa [World.size_alloc] at this
    · rintro a W ⟨g4, g5, x, hx, hw, u2, u3, u8, u9, u10, u11, u12, u13, u14, u15, u16, u17, u18, u19, u20, u21, u22, u23, u24, u25, u26, u27, u28, u29, u30, u31, u32, u33, u34, u35, u36, u37, u38, u39, u40, u41, u42, u43, u44, u45, u46, u47, u48, u49, u50, u51, u52, u53, u54, u55, u56, u57, u58, u59, u60, u61, u62, u63, u64, u65, u66, u67, u68, u69, u70, u71, rfl⟩
      refine wp_seq (wp_skip ?_)
      exact plain_pass0 a0 b w _ _ W g4 g5 x h2 hx hw u2 u3 u8 u9 u10 u11 u12 u13 u14 u15 u16 u17 u18 u19 u20 u21 u22 u23 u24 u25 u26 u27 u28 u29 u30 u31 u32 u33 u34 u35 u36 u37 u38 u39 u40 u41 u42 u43 u44 u45 u46 u47 u48 u49 u50 u51 u52 u53 u54 u55 u56 u57 u58 u59 u60 u61 u62 u63 u64 u65 u66 u67 u68 u69 u70 u71 (fun l a' w' h1 h2 => ⟨h1, h2⟩)
    · rintro a W ⟨g4, g5, p, x, hx, hw, u2, u3, u8, u9, u10, u11, u12, u13, u14, u15, u16, u17, u18, u19, u20, u21, u22, u23, u24, u25, u26, u27, u28, u29, u30, u31, u32, u33, u34, u35, u36, u37, u38, u39, u40, u41, u42, u43, u44, u45, u46, u47, u48, u49, u50, u51, u52, u53, u54, u55, u56, u57, u58, u59, u60, u61, u62, u63, u64, u65, u66, u67, u68, u69, u70, u71, rfl⟩
      refine wp_seq (wp_skip ?_)
      exact plain_pass1 a0 b w _ _ W g4 g5 p x h2 hx hw u2 u3 u8 u9 u10 u11 u12 u13 u14 u15 u16 u17 u18 u19 u20 u21 u22 u23 u24 u25 u26 u27 u28 u29 u30 u31 u32 u33 u34 u35 u36 u37 u38 u39 u40 u41 u42 u43 u44 u45 u46 u47 u48 u49 u50 u51 u52 u53 u54 u55 u56 u57 u58 u59 u60 u61 u62 u63 u64 u65 u66 u67 u68 u69 u70 u71 (fun l a' w' h1 h2 => ⟨h1, h2⟩) HQ.out
    · rintro a W ⟨g4, g5, p, hx, hw, u2, u3, u8, u9, u10, u11, u12, u13, u14, u15, u16, u17, u18, u19, u20, u21, u22, u23, u24, u25, u26, u27, u28, u29, u30, u31, u32, u33, u34, u35, u36, u37, u38, u39, u40, u41, u42, u43, u44, u45, u46, u47, u48, u49, u50, u51, u52, u53, u54, u55, u56, u57, u58, u59, u60, u61, u62, u63, u64, u65, u66, u67, u68, u69, u70, u71, rfl⟩
      obtain ⟨x1, x2, x3, x4⟩ := hx.out
      refine wp_seq (wp_skip ?_)
      refine plain_pass2 w _ _ W g4 g5 p p a0 (a0.extract b p) ⟨#[]⟩ (Nat.le_refl _) (by omega) hw _ u2 u3 u8 u9 u10 u11 u12 u13 u14 u15 u16 u17 u18 u19 u20 u21 u22 u23 u24 u25 u26 u27 u28 u29 u30 u31 u32 u33 u34 u35 u36 u37 u38 u39 u40 u41 u42 u43 u44 u45 u46 u47 u48 u49 u50 u51 u52 u53 u54 u55 u56 u57 u58 u59 u60 u61 u62 u63 u64 u65 u66 u67 u68 u69 u70 u71 ?_
      intro g a' W' e1 e2 e3 e4
      refine HQ.out g a' W' e1 e2 ?_ e4
      rw [show plainF a0 b = plainOut (a0.extract b p) ⟨#[]⟩ p from by unfold plainF plainOut; rw [← x1, if_neg x2]; simp]
      exact e3
  · cases h


/-! ### numeral_begins: function 35 -/
def numeral_begins.l0 : Nat → ByteArray → Int → ByteArray → Int → Int → Option (Bool)
 | 0, _, _, _, _, _ => none
 | k + 1, x0, x1, x2, x16, x17 => if x17 < x16 then (if 0 ≤ (wrap64 (x1 + x17)) then (if (wrap64 (x1 + x17)) < (x0.size : Int) then (if 0 ≤ x17 then (if x17 < (x2.size : Int) then (if (Go.bits .or .u8 (bt x0 (wrap64 (x1 + x17))) 32) = (bt x2 x17) then (if (bt x0 (wrap64 (x1 + x17))) < 65 then (some false) else (numeral_begins.l0 k x0 x1 x2 x16 (wrap64 (x17 + 1)))) else (some false)) else (none)) else (none)) else (none)) else (none)) else (some true)
def numeral_begins.f (k : Nat) (a0 : ByteArray) (a1 : Int) (a2 : ByteArray) : Option (Bool) := if (wrap64 ((a0.size : Int) - a1)) < (a2.size : Int) then (some false) else (numeral_begins.l0 k a0 a1 a2 (a2.size : Int) 0)
set_option maxHeartbeats 8000000 in
set_option maxRecDepth 100000 in
theorem numeral_begins.calls (k : Nat) (a0 : ByteArray) (a1 : Int) (a2 : ByteArray) (r : Bool) (w : World) (h : numeral_begins.f k a0 a1 a2 = some r) :
  Calls Tryd.prog 35 #[.string a0, .int .i64 a1, .string a2] w fun e w' => e = .returned (.bool r) ∧ Drawn0 w w' := by
 have H : (if (wrap64 ((a0.size : Int) - a1)) < (a2.size : Int) then (some false) else (numeral_begins.l0 k a0 a1 a2 (a2.size : Int) 0)) = some r := h
 clear h
 by_cases c4 : (wrap64 ((a0.size : Int) - a1)) < (a2.size : Int)
 ·
  rw [if_pos c4] at H
  have c4b0 : decide ((wrap64 ((a0.size : Int) - a1)) < (a2.size : Int)) = true := decide_eq_true c4
  clear c4
  obtain rfl := Option.some.inj H
  go_enter Tryd.func35, Tryd.ntmps35
  go_wp2
  repeat (go_quiet (fail); try go_wp2)
  go_ret
  exact ⟨qnv2_, qnv11_⟩
 ·
  rw [if_neg c4] at H
  have c4b0 : decide ((wrap64 ((a0.size : Int) - a1)) < (a2.size : Int)) = false := decide_eq_false c4
  clear c4
  have H' := Aside0.mk H
  clear H
  go_enter Tryd.func35, Tryd.ntmps35
  go_wp2
  repeat (go_quiet (fail); try go_wp2)
  go_loopg [17] k (fun kq v17 w' => ∃ (x17_1 : Int), v17 = .int .i64 x17_1 ∧ Aside0 (numeral_begins.l0 kq a0 a1 a2 (a2.size : Int) x17_1 = some r) ∧ Aside0 (kq ≤ k) ∧ Drawn0 w w')
  case atStart => exact ⟨(0), qnv2_, H', ⟨Nat.le_refl _⟩, qnv11_⟩
  case round =>
   clear H'
   (try clear p2); (try clear c3); (try clear c4); (try clear c4b0)
   obtain ⟨x17_1, rfl, HA, HK1, ⟨m1, rfl⟩⟩ := hrel
   cases gk with
   | zero => exact absurd HA.out (by simp [numeral_begins.l0])
   | succ k1 =>
    have H := HA.out
    clear HA
    simp only [numeral_begins.l0] at H
    by_cases c5 : x17_1 < (a2.size : Int)
    ·
     rw [if_pos c5] at H
     have c5b0 : decide (x17_1 < (a2.size : Int)) = true := decide_eq_true c5
     clear c5
     obtain ⟨ji6, hji6⟩ : ∃ j_ : Int, (wrap64 (a1 + x17_1)) = j_ := ⟨_, rfl⟩
     replace H : (if 0 ≤ (ji6) then (if (ji6) < (a0.size : Int) then (if 0 ≤ x17_1 then (if x17_1 < (a2.size : Int) then (if (Go.bits .or .u8 (bt a0 (ji6)) 32) = (bt a2 x17_1) then (if (bt a0 (ji6)) < 65 then (some false) else (numeral_begins.l0 k1 a0 a1 a2 (a2.size : Int) (wrap64 (x17_1 + 1)))) else (some false)) else (none)) else (none)) else (none)) else (none)) = some r := by first | (rw [hji6] at H; exact H) | (simp only [hji6] at H ⊢; exact H)
     have hji6w : (IntKind.i64.wrap (a1 + x17_1)) = ji6 := (i64_w _).trans hji6
     by_cases c7 : 0 ≤ (ji6)
     ·
      rw [if_pos c7] at H
      have c7b0 : decide (0 ≤ (ji6)) = true := decide_eq_true c7
      clear c7
      by_cases c8 : (ji6) < (a0.size : Int)
      ·
       rw [if_pos c8] at H
       have c8b0 : decide ((ji6) < (a0.size : Int)) = true := decide_eq_true c8
       clear c8
       by_cases c10 : 0 ≤ x17_1
       ·
        rw [if_pos c10] at H
        have c10b0 : decide (0 ≤ x17_1) = true := decide_eq_true c10
        clear c10
        by_cases c11 : x17_1 < (a2.size : Int)
        ·
         rw [if_pos c11] at H
         have c11b0 : decide (x17_1 < (a2.size : Int)) = true := decide_eq_true c11
         clear c11
         by_cases c13 : (Go.bits .or .u8 (bt a0 (ji6)) 32) = (bt a2 x17_1)
         ·
          rw [if_pos c13] at H
          have c13b0 : ((Go.bits .or .u8 (bt a0 (ji6)) 32) == (bt a2 x17_1)) = true := beq_iff_eq.mpr c13
          have c13b1 : ((Go.bits .or .u8 (bt a0 (ji6)) 32) != (bt a2 x17_1)) = false := bne_eq_false_iff_eq.mpr c13
          clear c13
          by_cases c15 : (bt a0 (ji6)) < 65
          ·
           rw [if_pos c15] at H
           have c15b0 : decide ((bt a0 (ji6)) < 65) = true := decide_eq_true c15
           clear c15
           obtain rfl := Option.some.inj H
           have p9 : 0 ≤ ((ji6) : Int) := of_decide_eq_true qnv5_
           have q9 : (ji6) < (a0.size : Int) := of_decide_eq_true qnv5_
           have hx9 := bt_at a0 (ji6)
           replace p9 := eq_true p9
           replace q9 := eq_true q9
           have p12 : 0 ≤ (x17_1 : Int) := of_decide_eq_true qnv5_
           have q12 : x17_1 < (a2.size : Int) := of_decide_eq_true qnv5_
           have hx12 := bt_at a2 x17_1
           replace p12 := eq_true p12
           replace q12 := eq_true q12
           have p14 : 0 ≤ ((ji6) : Int) := of_decide_eq_true qnv5_
           have q14 : (ji6) < (a0.size : Int) := of_decide_eq_true qnv5_
           have hx14 := bt_at a0 (ji6)
           replace p14 := eq_true p14
           replace q14 := eq_true q14
           go_wp2
           repeat (go_quiet (fail); try go_wp2)
           go_ret
           exact ⟨by first | rfl | (simp; done) | (simp only [← hji6] <;> (first | rfl | simp); done) | (simp [*]; done) | (simp; simp only [eq_iff_iff, iff_true] at *; omega) | (exfalso; simp_all; done), qnv11_⟩
          ·
           rw [if_neg c15] at H
           have c15b0 : decide ((bt a0 (ji6)) < 65) = false := decide_eq_false c15
           clear c15
           have H' := Aside0.mk H
           clear H
           have p9 : 0 ≤ ((ji6) : Int) := of_decide_eq_true qnv5_
           have q9 : (ji6) < (a0.size : Int) := of_decide_eq_true qnv5_
           have hx9 := bt_at a0 (ji6)
           replace p9 := eq_true p9
           replace q9 := eq_true q9
           have p12 : 0 ≤ (x17_1 : Int) := of_decide_eq_true qnv5_
           have q12 : x17_1 < (a2.size : Int) := of_decide_eq_true qnv5_
           have hx12 := bt_at a2 x17_1
           replace p12 := eq_true p12
           replace q12 := eq_true q12
           have p14 : 0 ≤ ((ji6) : Int) := of_decide_eq_true qnv5_
           have q14 : (ji6) < (a0.size : Int) := of_decide_eq_true qnv5_
           have hx14 := bt_at a0 (ji6)
           replace p14 := eq_true p14
           replace q14 := eq_true q14
           go_wp2
           repeat (go_quiet (fail); try go_wp2)
           go_roundg k1
           case measure => have := HK1.out; omega
           case rel => exact ⟨(wrap64 (x17_1 + 1)), qnv2_, H', ⟨by have := HK1.out; omega⟩, qnv11_⟩
         ·
          rw [if_neg c13] at H
          have c13b0 : ((Go.bits .or .u8 (bt a0 (ji6)) 32) == (bt a2 x17_1)) = false := beq_eq_false_iff_ne.mpr c13
          have c13b1 : ((Go.bits .or .u8 (bt a0 (ji6)) 32) != (bt a2 x17_1)) = true := bne_iff_ne.mpr c13
          obtain rfl := Option.some.inj H
          have p9 : 0 ≤ ((ji6) : Int) := of_decide_eq_true qnv5_
          have q9 : (ji6) < (a0.size : Int) := of_decide_eq_true qnv5_
          have hx9 := bt_at a0 (ji6)
          replace p9 := eq_true p9
          replace q9 := eq_true q9
          have p12 : 0 ≤ (x17_1 : Int) := of_decide_eq_true qnv5_
          have q12 : x17_1 < (a2.size : Int) := of_decide_eq_true qnv5_
          have hx12 := bt_at a2 x17_1
          replace p12 := eq_true p12
          replace q12 := eq_true q12
          go_wp2
          repeat (go_quiet (fail); try go_wp2)
          go_ret
          exact ⟨by first | rfl | (simp; done) | (simp only [← hji6] <;> (first | rfl | simp); done) | (simp [*]; done) | (simp; simp only [eq_iff_iff, iff_true] at *; omega) | (exfalso; simp_all; done), qnv11_⟩
        ·
         rw [if_neg c11] at H
         exact absurd H (by simp)
       ·
        rw [if_neg c10] at H
        exact absurd H (by simp)
      ·
       rw [if_neg c8] at H
       exact absurd H (by simp)
     ·
      rw [if_neg c7] at H
      exact absurd H (by simp)
    ·
     rw [if_neg c5] at H
     have c5b0 : decide (x17_1 < (a2.size : Int)) = false := decide_eq_false c5
     clear c5
     obtain rfl := Option.some.inj H
     go_wp2
     repeat (go_quiet (fail); try go_wp2)
     go_ret
     exact ⟨qnv2_, qnv11_⟩

end Go.Proofs.YtcdajedmlfhmeaaDoor.XN
