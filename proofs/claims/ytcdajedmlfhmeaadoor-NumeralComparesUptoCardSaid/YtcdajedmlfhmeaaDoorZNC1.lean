import Derived.Test.YtcdajedmlfhmeaaDoorZNC0
import Derived.Laws.StructEq
import Derived.Test.YtcdajedmlfhmeaaDoorProg
import Derived.Below
import Derived.Deep.Draws
import Derived.Deep.AppendLies
import Derived.Maps.AppendAt
import Derived.OwnWalk
import Derived.Laws.BytesArg
import Derived.Laws.MakeOwn
import Derived.Laws.OwnMore
import Derived.Deep.OwnRows
import Derived.Tactics
import Derived.Lib.ConvBytes
import Derived.Laws.Slices
import Derived.WalkKit
import Derived.KernelRfl
import Derived.RowKit3
import Derived.Deep.LoopGhost
import Derived.Deep.QuietTactic
import Derived.BigQuiet
import Derived.WideLaws
import Derived.Deep.DeepCutAuto
import Derived.Deep.CutBlock
import Derived.Deep.RegionHeld3
import Derived.Laws.Rows
import Derived.Lib.AppendStr
import Derived.ArgAppend
import Derived.Laws.IdiomCopy
import Derived.OrdersHeld
import Derived.Laws.BitsLemmas
import Derived.RowKit
import Derived.Lib.Bytealg
import Derived.Test.YtcdajedmlfhmeaaDoorRows
import Derived.Deep.DeepHandedRow
import Derived.Lib.LaidTab
import Derived.Lay
import Derived.MakeChecks
import Derived.LaidSub
namespace Go.Proofs.YtcdajedmlfhmeaaDoorW.PrintWords
open Go.RowKit
namespace Kd
def tag {α : Type} (f : Nat → Nat) (d : Kd α) : Kd (α × Nat) where
  sz := d.sz
  E := d.E
  K := fun w x cs => d.K w x.1 cs
  M := fun w base ok x cs => d.M w base (fun k => ok k ∧ f k = x.2) x.1 cs
  K_len := fun h => d.K_len h
  K_one := fun h => d.K_one h
  K_below := fun hb h => d.K_below hb h
  K_of_M := fun h => d.K_of_M h
  M_mono := fun hok h => d.M_mono (fun k hk => ⟨hok k hk.1, hk.2⟩) h
  M_bound := fun h => d.M_mono (fun _ hk => ⟨⟨hk.1.1, hk.2⟩, hk.1.2⟩) (d.M_bound h)
  M_move := fun hm h => d.M_move (fun k hk => hm k hk.1) h
  M_lower := fun hb h => d.M_lower hb h
def bare {α : Type} (d : Kd α) : Kd α where
  sz := d.sz
  E := d.E
  K := d.K
  M := fun w base _ x cs => d.M w base (fun _ => False) x cs
  K_len := fun h => d.K_len h
  K_one := fun h => d.K_one h
  K_below := fun hb h => d.K_below hb h
  K_of_M := fun h => d.K_of_M h
  M_mono := fun _ h => h
  M_bound := fun h => h
  M_move := fun _ h => d.M_move (fun _ hk => hk.elim) h
  M_lower := fun hb h => d.M_lower hb h
def raw (sz : Nat) : Kd (List Value) where
  sz := sz
  E := []
  K := fun _ x cs => cs = x ∧ cs.length = sz ∧ ∀ u ∈ cs, u.oneCell' = true
  M := fun _ _ _ x cs => cs = x ∧ cs.length = sz ∧ ∀ u ∈ cs, u.oneCell' = true
  K_len := fun h => h.2.1
  K_one := fun h => h.2.2
  K_below := fun _ h => h
  K_of_M := fun h => h
  M_mono := fun _ h => h
  M_bound := fun h => h
  M_move := fun _ h => h
  M_lower := fun _ h => h
def S {α:Type} (d:Kd α) (e:Nat) (w:World) (base:Nat) (ok:Nat→Prop) (v:Value) (xs:List α):Prop:=∃ f,(tag f d).R e w base ok v xs.zipIdx
section
variable {α β : Type} {d : Kd α} {d' : Kd β} {e e' : Nat} {w w1 W : World} {base b : Nat} {ok ok' okv oku : Nat → Prop} {u v : Value} {xs : List α} {ys : List β}
end
section
variable {α β : Type} {d : Kd α} {d' : Kd β} {e e' g : Nat} {w w1 W : World} {base b : Nat} {ok ok' okv oku : Nat → Prop} {u v : Value} {xs : List α} {ys : List β}
end
section
open Classical in
variable {P : Program} {ops : Array Oper} {rest : List Oper} {o : Oper} {a : Act} {Q : Exit → Act → World → Prop} {Kc : Act → World → Prop} {α : Type}
end
def gap {α : Type} (f : Nat → Nat) (d : Kd α) (i : Nat) (c : List Value) : Kd (α × Nat) where
  sz := d.sz
  E := d.E
  K := fun w x cs => (x.2 = i → cs = c ∧ cs.length = d.sz ∧ ∀ u ∈ cs, u.oneCell' = true) ∧ (x.2 ≠ i → d.K w x.1 cs)
  M := fun w base ok x cs => (x.2 = i → cs = c ∧ cs.length = d.sz ∧ ∀ u ∈ cs, u.oneCell' = true) ∧ (x.2 ≠ i → d.M w base (fun k => ok k ∧ f k = x.2) x.1 cs)
  K_len := fun {w x cs} h => by
    by_cases hx : x.2 = i
    · exact (h.1 hx).2.1
    · exact d.K_len (h.2 hx)
  K_one := fun {w x cs} h => by
    by_cases hx : x.2 = i
    · exact (h.1 hx).2.2
    · exact d.K_one (h.2 hx)
  K_below := fun hb h => ⟨h.1, fun hx => d.K_below hb (h.2 hx)⟩
  K_of_M := fun h => ⟨h.1, fun hx => d.K_of_M (h.2 hx)⟩
  M_mono := fun hok h => ⟨h.1, fun hx => d.M_mono (fun k hk => ⟨hok k hk.1, hk.2⟩) (h.2 hx)⟩
  M_bound := fun h => ⟨h.1, fun hx => d.M_mono (fun _ hk => ⟨⟨hk.1.1, hk.2⟩, hk.1.2⟩) (d.M_bound (h.2 hx))⟩
  M_move := fun hm h => ⟨h.1, fun hx => d.M_move (fun k hk => hm k hk.1) (h.2 hx)⟩
  M_lower := fun hb h => ⟨h.1, fun hx => d.M_lower hb (h.2 hx)⟩
def H {α:Type} (d:Kd α) (e:Nat) (w:World) (base:Nat) (ok:Nat→Prop) (v:Value) (xs:List α) (i:Int) (oki:Nat→Prop) (c:List Value):Prop:=
  (∀ k, oki k → ok k) ∧ ∃ f, (gap f d i.toNat c).R e w base (fun k => ok k ∧ ¬ oki k) v xs.zipIdx
section
variable {α β : Type} {d : Kd α} {e e' g n cap : Nat} {w w1 W : World} {base : Nat} {ok ok' oki okp : Nat → Prop} {u v : Value} {xs : List α} {i : Int} {c : List Value}
open Classical in
end
section
variable {P : Program} {ops : Array Oper} {rest : List Oper} {o : Oper} {a : Act} {Q : Exit → Act → World → Prop} {α : Type}
end
end Kd
end Go.Proofs.YtcdajedmlfhmeaaDoorW.PrintWords

namespace Go.Proofs.YtcdajedmlfhmeaaDoorW.PrintWords
open Go.RowKit
namespace Kd
theorem reps_one {α : Type} {R : α → List Value → Prop} {size : Nat} {ps : List α} {cs : List Value} (h : Reps R size ps cs) (hs0 : 0 < size) (hR : ∀ p c, R p c → ∀ u ∈ c, u.oneCell' = true) : ∀ u ∈ cs, u.oneCell' = true := by
  intro u hu
  obtain ⟨q,hq,rfl⟩:=List.mem_iff_getElem.1 hu
  have hql:q / size < ps.length:=by
    rw [Nat.div_lt_iff_lt_mul hs0,← h.1]
    exact hq
  refine hR _ _ (h.2 (q / size) _ (List.getElem?_eq_getElem hql)) _ ?_
  rw [List.mem_iff_getElem?]
  refine ⟨q % size,?_⟩
  rw [List.getElem?_take,if_pos (Nat.mod_lt _ hs0),List.getElem?_drop,Nat.mul_comm,Nat.div_add_mod,List.getElem?_eq_getElem hq]
def arr {α : Type} (n : Nat) (d : Kd α) (hs : 0 < d.sz) : Kd (List α) where
  sz:=n * d.sz
  E:=d.E
  K:=fun w xs cs => xs.length=n∧Reps (d.K w) d.sz xs cs
  M:=fun w base ok xs cs => xs.length=n∧Reps (d.M w base ok) d.sz xs cs
  K_len:=fun h => by rw [← h.1];exact h.2.1
  K_one:=fun h => reps_one h.2 hs (fun _ _ hk => d.K_one hk)
  K_below:=fun hb h => ⟨h.1,h.2.imp_ (fun _ _ hk => d.K_below hb hk)⟩
  K_of_M:=fun h => ⟨h.1,h.2.imp_ (fun _ _ hk => d.K_of_M hk)⟩
  M_mono:=fun hok h => ⟨h.1,h.2.imp_ (fun _ _ hk => d.M_mono hok hk)⟩
  M_bound:=fun h => ⟨h.1,h.2.imp_ (fun _ _ hk => d.M_bound hk)⟩
  M_move:=fun hm h => ⟨h.1,h.2.imp_ (fun _ _ hk => d.M_move hm hk)⟩
  M_lower:=fun hb h => ⟨h.1,h.2.imp_ (fun _ _ hk => d.M_lower hb hk)⟩
section
variable {α : Type} {n : Nat} {d : Kd α} {hs : 0 < d.sz} {w : World} {base : Nat} {ok : Nat → Prop} {xs : List α} {cs : List Value}
end
section
variable {α : Type} {n : Nat} {enc : α → Value} {h1 : ∀ x, (enc x).oneCell' = true} {hs : 0 < (scalar enc h1).sz} {w : World} {base : Nat} {ok : Nat → Prop} {xs : List α} {cs : List Value}
end
end Kd
end Go.Proofs.YtcdajedmlfhmeaaDoorW.PrintWords

namespace Go.Proofs.YtcdajedmlfhmeaaDoorW.PrintWords
open Go.RowKit
section
variable {P : Program}
end
namespace Kd
section
variable {P : Program} {ops : Array Oper} {rest : List Oper} {o : Oper} {a : Act} {Q : Exit → Act → World → Prop} {Kc : Act → World → Prop} {α : Type}
end
section
variable {α : Type} {d : Kd α} {e : Nat} {w : World} {base : Nat} {ok : Nat → Prop} {v : Value} {xs : List α}
end
section
variable {P : Program} {ops : Array Oper} {rest : List Oper} {o : Oper} {a : Act} {Q : Exit → Act → World → Prop} {Kc : Act → World → Prop} {α : Type}
end
end Kd
end Go.Proofs.YtcdajedmlfhmeaaDoorW.PrintWords

namespace Go.Proofs.YtcdajedmlfhmeaaDoorW.PrintWords
open Go.RowKit
namespace Kd
structure Heap {α : Type} (d : Kd α) : Prop where
  K : ∀ {w w1 : World} {x : α} {cs : List Value}, (∀ k, k < w.heap.size → w1.heap[k]? = w.heap[k]?) → d.K w x cs → d.K w1 x cs
theorem cell_heap {w w1 : World} (hb : ∀ k, k < w.heap.size → w1.heap[k]? = w.heap[k]?) {a : Addr} {v : Value} (h : w.cell? a = some v) : w1.cell? a = some v := by
  have:=hb a.block (World.block_lt_of_cell? w a h)
  simpa [World.cell?,this] using h
theorem Heap.C {α : Type} {d : Kd α} (hd : Heap d) {w w1 : World} {A : Option Addr} {n : Nat} {xs : List α} (hb : ∀ k, k < w.heap.size → w1.heap[k]? = w.heap[k]?) (h : d.C w A n xs) : d.C w1 A n xs :=
  ⟨h.1,h.2.1,fun hn => by
    obtain ⟨ad,e,hc⟩:=h.2.2 hn
    refine ⟨ad,e,fun j p hj => ?_⟩
    obtain ⟨c,hs,hr,hcell⟩:=hc j p hj
    exact ⟨c,hs,hd.K hb hr,fun i u hu => cell_heap hb (hcell i u hu)⟩⟩
section
variable {α : Type} {d : Kd α} {e base g n c : Nat} {ok : Nat → Prop} {w w0 W : World} {A : Option Addr} {xs : List α}
end
end Kd
end Go.Proofs.YtcdajedmlfhmeaaDoorW.PrintWords

namespace Go.Proofs.YtcdajedmlfhmeaaDoorW.PrintWords
open Go.RowKit
def Kept (w W:World) (S:Nat→Prop):Prop:=w.heap.size≤W.heap.size∧∀ i,i < w.heap.size→¬ S i→W.heap[i]?=w.heap[i]?
section
variable {w W W2 : World} {S S2 S' : Nat → Prop}
theorem Kept.refl (w : World) (S : Nat → Prop) : Kept w w S := ⟨Nat.le_refl _, fun _ _ _ => rfl⟩
theorem Kept.of_below (h : Below w.heap.size w W) (S : Nat → Prop) : Kept w W S := ⟨h.size, fun i hi _ => h.block i hi⟩
theorem Kept.then_ (h : Kept w W S) (k : Kept W W2 S2) (hs : ∀ k, S2 k → S k ∨ w.heap.size ≤ k) : Kept w W2 S :=
  ⟨Nat.le_trans h.1 k.1,fun i hi hn => (k.2 i (Nat.lt_of_lt_of_le hi h.1) (fun h2 => (hs i h2).elim hn (fun h3 => by omega))).trans (h.2 i hi hn)⟩
theorem Kept.below (h : Kept w W S) (hb : Below W.heap.size W W2) : Kept w W2 S := h.then_ (Kept.of_below hb (fun _ => False)) (fun _ hk => hk.elim)
theorem Kept.alloc (h : Kept w W S) (o : Obj) : Kept w (W.alloc o) S := h.below (below_alloc (Below.refl _ _) o)
theorem Kept.drew (h : Kept w W S) : Kept w W.drew S := h
theorem Kept.drewN (h : Kept w W S) (m : Nat) : Kept w (W.drewN m) S := h
theorem Kept.setCell (h : Kept w W S) {p : Addr} (hp : S p.block ∨ w.heap.size ≤ p.block) (u : Value) : Kept w (W.setCell p u) S :=
  h.then_ (S2:=fun k => k=p.block) ⟨by simp [World.setCell],fun i _ hn => Below.heap_setCell W p u i hn⟩ (fun k hk => by rw [hk];exact hp)
end
namespace Kd
section
variable {α : Type} {d : Kd α} {e base n c : Nat} {ok oki S S2 : Nat → Prop} {w w0 W W1 W2 : World} {v : Value} {A : Option Addr} {xs : List α} {i : Int} {cs : List Value}
end
end Kd
end Go.Proofs.YtcdajedmlfhmeaaDoorW.PrintWords

namespace Go.Proofs.YtcdajedmlfhmeaaDoorW.PrintWords
open Go.RowKit
def Foot (P:World→Prop) (W:World) (ok:Nat→Prop):Prop:=∀ W' : World,(∀ k,ok k→k < W.heap.size→W'.heap[k]?=W.heap[k]?)→P W'
theorem heap_lt {W W1 : World} {k : Nat} (h : W1.heap[k]? = W.heap[k]?) (hlt : k < W.heap.size) : k < W1.heap.size := by
  rw [Array.getElem?_eq_getElem hlt] at h
  exact (Array.getElem?_eq_some_iff.1 h).1
namespace Foot
variable {P Q : World → Prop} {W W1 : World} {ok ok' : Nat → Prop}
theorem mono (h : Foot P W ok) (hok : ∀ k, ok k → ok' k) : Foot P W ok' := fun W' hW => h W' (fun k hk hlt => hW k (hok k hk) hlt)
theorem step (h : Foot P W ok) (hm : ∀ k, ok k → k < W.heap.size → W1.heap[k]? = W.heap[k]?) : Foot P W1 ok := fun W' hW => h W' (fun k hk hlt => (hW k hk (heap_lt (hm k hk hlt) hlt)).trans (hm k hk hlt))
end Foot
namespace Kd
def F {α:Type} (d:Kd α) (W:World) (ok:Nat→Prop) (A:Option Addr) (n:Nat) (xs:List α):Prop:=Foot (fun W => d.C W A n xs) W ok
def FK {α:Type} (d:Kd α) (W:World) (ok:Nat→Prop) (x:α) (c:List Value):Prop:=Foot (fun W => d.K W x c) W ok
section
variable {α β : Type} {d : Kd α} {e base n n' cc g N : Nat} {ok ok' okp S : Nat → Prop} {w w0 w1 W W1 : World} {A A' : Option Addr} {u v v1 : Value} {xs : List α} {xs' : List β} {d' : Kd β} {x : α} {c : List Value}
end
end Kd
end Go.Proofs.YtcdajedmlfhmeaaDoorW.PrintWords

namespace Go.Proofs.YtcdajedmlfhmeaaDoorW.PrintWords
open Go.RowKit
namespace Kd
section
variable {α : Type} {d : Kd α} {e base n cc g : Nat} {ok ok' okp S : Nat → Prop} {w w1 W W1 : World} {A : Option Addr} {u v v1 : Value} {xs : List α} {x : α} {c : List Value}
def N {α:Type} (d:Kd α) (e:Nat) (w:World) (base:Nat) (ok:Nat→Prop) (v:Value) (xs:List α):Prop:=
  (∀ k, v.ownBlock = some k → ok k) ∧ ∃ rows : List (List Value), rows.length = xs.length ∧ (raw d.sz).R e w base (fun k => some k = v.ownBlock) v rows ∧ ∀ (j : Nat) (x : α) (c : List Value), xs[j]? = some x → rows[j]? = some c → FK d w (fun k => ok k ∧ some k ≠ v.ownBlock) x c
end
end Kd
end Go.Proofs.YtcdajedmlfhmeaaDoorW.PrintWords

namespace Go.Proofs.YtcdajedmlfhmeaaDoorW.PrintWords
open Go.RowKit
namespace Kd
section
variable {α : Type} {d : Kd α} {W : World} {g n : Nat} {S ok : Nat → Prop} {A : Option Addr} {ad : Addr} {xs : List α}
end
end Kd
end Go.Proofs.YtcdajedmlfhmeaaDoorW.PrintWords

namespace Go.Proofs.YtcdajedmlfhmeaaDoorW.PrintWords
open Go.RowKit
section
variable {w w' u : World} {m B g : Nat} {o : Obj} {row : Option Nat} {S : Nat → Prop} {a : Addr} {v : Value}
end
namespace Kd
section
variable {α : Type} {d : Kd α} {e base n m : Nat} {ok : Nat → Prop} {w w' : World} {v : Value} {A : Option Addr} {xs : List α}
end
end Kd
end Go.Proofs.YtcdajedmlfhmeaaDoorW.PrintWords

namespace Go.Proofs.YtcdajedmlfhmeaaDoorW.PrintWords
open Go.RowKit
section
variable {P : Program} {d : Nat} {xs ys : Array Value} {f : Field} {fs : List Field} {a b : Value} {r s : Bool} {w : World}
end
end Go.Proofs.YtcdajedmlfhmeaaDoorW.PrintWords

namespace Go.Proofs.YtcdajedmlfhmeaaDoorW.PrintWords
theorem Reps.one {α : Type} {R : α → List Value → Prop} {ps : List α} {cs : List Value} {p : α} {v : Value} (hp : R p [v]) (h : Reps R 1 ps cs) : Reps R 1 (p :: ps) (v :: cs) := by
  refine ⟨by simp [h.1],fun j q hq => ?_⟩
  cases j with
  | zero =>
    simp only [List.getElem?_cons_zero,Option.some.injEq] at hq
    subst hq
    simpa using hp
  | succ j =>
    simp only [List.getElem?_cons_succ] at hq
    have h1:=h.2 j q hq
    simpa [Nat.mul_one] using h1
theorem Reps.front {α : Type} {R : α → List Value → Prop} {size : Nat} {ps : List α} {cs c all : List Value} {p : α} (hp : R p c) (hc : c.length = size) (h : Reps R size ps cs) (ha : c ++ cs = all) : Reps R size (p :: ps) all := by
  subst ha
  refine ⟨by rw [List.length_append,hc,h.1,List.length_cons,Nat.succ_mul,Nat.add_comm],fun j q hq => ?_⟩
  cases j with
  | zero =>
    simp only [List.getElem?_cons_zero,Option.some.injEq] at hq
    subst hq
    rw [Nat.zero_mul,List.drop_zero,List.take_append_of_le_length (by omega),List.take_of_length_le (by omega)]
    exact hp
  | succ j =>
    simp only [List.getElem?_cons_succ] at hq
    have h1:=h.2 j q hq
    rw [Nat.succ_mul,List.drop_append,List.drop_of_length_le (by rw [hc];exact Nat.le_add_left _ _),List.nil_append,hc,Nat.add_sub_cancel]
    exact h1
theorem Reps.c2 {α : Type} {R : α → List Value → Prop} {ps : List α} {cs : List Value} {p : α} {va vb : Value} (hp : R p [va, vb]) (h : Reps R 2 ps cs) : Reps R 2 (p :: ps) (va :: vb :: cs) := Reps.front hp rfl h rfl
theorem Reps.c3 {α : Type} {R : α → List Value → Prop} {ps : List α} {cs : List Value} {p : α} {va vb vc : Value} (hp : R p [va, vb, vc]) (h : Reps R 3 ps cs) : Reps R 3 (p :: ps) (va :: vb :: vc :: cs) := Reps.front hp rfl h rfl
theorem Reps.c4 {α : Type} {R : α → List Value → Prop} {ps : List α} {cs : List Value} {p : α} {va vb vc vd : Value} (hp : R p [va, vb, vc, vd]) (h : Reps R 4 ps cs) : Reps R 4 (p :: ps) (va :: vb :: vc :: vd :: cs) := Reps.front hp rfl h rfl
theorem Reps.c5 {α : Type} {R : α → List Value → Prop} {ps : List α} {cs : List Value} {p : α} {va vb vc vd ve : Value} (hp : R p [va, vb, vc, vd, ve]) (h : Reps R 5 ps cs) : Reps R 5 (p :: ps) (va :: vb :: vc :: vd :: ve :: cs) := Reps.front hp rfl h rfl
theorem Reps.c6 {α : Type} {R : α → List Value → Prop} {ps : List α} {cs : List Value} {p : α} {va vb vc vd ve vf : Value} (hp : R p [va, vb, vc, vd, ve, vf]) (h : Reps R 6 ps cs) : Reps R 6 (p :: ps) (va :: vb :: vc :: vd :: ve :: vf :: cs) := Reps.front hp rfl h rfl
theorem Reps.c7 {α : Type} {R : α → List Value → Prop} {ps : List α} {cs : List Value} {p : α} {va vb vc vd ve vf vg : Value} (hp : R p [va, vb, vc, vd, ve, vf, vg]) (h : Reps R 7 ps cs) : Reps R 7 (p :: ps) (va :: vb :: vc :: vd :: ve :: vf :: vg :: cs) := Reps.front hp rfl h rfl
theorem Reps.c8 {α : Type} {R : α → List Value → Prop} {ps : List α} {cs : List Value} {p : α} {va vb vc vd ve vf vg vh : Value} (hp : R p [va, vb, vc, vd, ve, vf, vg, vh]) (h : Reps R 8 ps cs) : Reps R 8 (p :: ps) (va :: vb :: vc :: vd :: ve :: vf :: vg :: vh :: cs) := Reps.front hp rfl h rfl
theorem Reps.c9 {α : Type} {R : α → List Value → Prop} {ps : List α} {cs : List Value} {p : α} {va vb vc vd ve vf vg vh vi : Value} (hp : R p [va, vb, vc, vd, ve, vf, vg, vh, vi]) (h : Reps R 9 ps cs) : Reps R 9 (p :: ps) (va :: vb :: vc :: vd :: ve :: vf :: vg :: vh :: vi :: cs) := Reps.front hp rfl h rfl
theorem Reps.c10 {α : Type} {R : α → List Value → Prop} {ps : List α} {cs : List Value} {p : α} {va vb vc vd ve vf vg vh vi vj : Value} (hp : R p [va, vb, vc, vd, ve, vf, vg, vh, vi, vj]) (h : Reps R 10 ps cs) : Reps R 10 (p :: ps) (va :: vb :: vc :: vd :: ve :: vf :: vg :: vh :: vi :: vj :: cs) := Reps.front hp rfl h rfl
end Go.Proofs.YtcdajedmlfhmeaaDoorW.PrintWords

namespace Go.Proofs.YtcdajedmlfhmeaaDoorW.PrintLast
section
variable {P : Program} {ops : Array Oper} {Q : Exit → Act → World → Prop} {md : Region.Mode} {T : Bool × List (List Nat × List Nat)} {B : List Nat} {O : List Nat} {b : Nat → Bool} {i j n : Nat}
end
end Go.Proofs.YtcdajedmlfhmeaaDoorW.PrintLast

namespace Go.Proofs.YtcdajedmlfhmeaaDoorW.PrintWords
open Go.RowKit
end Go.Proofs.YtcdajedmlfhmeaaDoorW.PrintWords
namespace Go.Proofs.YtcdajedmlfhmeaaDoorW.PrintLast
section
variable {ops : Array Oper} {a : Act} {o og : Oper} {g : Nat} {t : Tmp} {u : Bool}
end
end Go.Proofs.YtcdajedmlfhmeaaDoorW.PrintLast

namespace Go.Proofs.YtcdajedmlfhmeaaDoorW.PrintWords
open Go.RowKit
section
variable {P : Program} {ops : Array Oper} {rest : List Oper} {o : Oper} {a : Act} {Q : Exit → Act → World → Prop} {W : World}
theorem gate_guard (hw : Region.wanted o (yielded ops a.tmps) = true) (h : wpList P ops Q ({ o with guard := none } :: rest) a W) : wpList P ops Q (o :: rest) a W := by
  have h1:Region.wanted { o with guard:=none } (yielded ops a.tmps)=true:=rfl
  unfold wpList at h ⊢
  rw [if_pos h1] at h
  rw [if_pos hw]
  exact h
end
end Go.Proofs.YtcdajedmlfhmeaaDoorW.PrintWords

namespace Go.Proofs.YtcdajedmlfhmeaaDoorW.PrintWords
open Go.RowKit
namespace Kd
section
variable {α : Type} {d : Kd α} {e base n cap g : Nat} {ok ok' okp : Nat → Prop} {w w1 W : World} {v v1 : Value} {xs ys : List α}
end
section
variable {P : Program} {ops : Array Oper} {rest : List Oper} {o : Oper} {a : Act} {Q : Exit → Act → World → Prop} {Kc : Act → World → Prop} {α : Type}
end
end Kd
end Go.Proofs.YtcdajedmlfhmeaaDoorW.PrintWords

-- PRINTED WORDS (module Derived/Print/More.lean): go-gate-2's additions: an AI agent of Go's test side, Tue Nov 17 2026; no person has read it. Lean checks it.
namespace Go.Proofs.YtcdajedmlfhmeaaDoorW.PrintMore
open Go.RowKit Go.Proofs.YtcdajedmlfhmeaaDoorW.PrintWords
namespace Kd
open Go.Proofs.YtcdajedmlfhmeaaDoorW.PrintWords.Kd
end Kd

namespace Kd
open Go.Proofs.YtcdajedmlfhmeaaDoorW.PrintWords.Kd
section
variable {α : Type} {d : Kd α} {e base g N : Nat} {ok : Nat → Prop} {W w1 : World} {u v : Value} {xs : List α}
end
end Kd
theorem max2_int (k k' : IntKind) (x y : Int) : Builtin.max2 (.int k x) (.int k' y) = pure (.int k (if x < y then y else x)) := by simp only [Builtin.max2, gt_iff_lt]
theorem min2_int (k k' : IntKind) (x y : Int) : Builtin.min2 (.int k x) (.int k' y) = pure (.int k (if y < x then y else x)) := by simp only [Builtin.min2]
theorem max_two (ats : Array TypeId) (ty : TypeId) (a b : Value) : Builtin.max_ ats ty #[a, b] = (Builtin.max2 a b >>= fun s => pure s) := by simp only [Builtin.max_, List.foldlM_cons, List.foldlM_nil]
theorem min_two (ats : Array TypeId) (ty : TypeId) (a b : Value) : Builtin.min_ ats ty #[a, b] = (Builtin.min2 a b >>= fun s => pure s) := by simp only [Builtin.min_, List.foldlM_cons, List.foldlM_nil]
theorem max_three (ats : Array TypeId) (ty : TypeId) (a b c : Value) : Builtin.max_ ats ty #[a, b, c] = (Builtin.max2 a b >>= fun s => Builtin.max2 s c >>= fun s => pure s) := by simp only [Builtin.max_, List.foldlM_cons, List.foldlM_nil]
theorem min_three (ats : Array TypeId) (ty : TypeId) (a b c : Value) : Builtin.min_ ats ty #[a, b, c] = (Builtin.min2 a b >>= fun s => Builtin.min2 s c >>= fun s => pure s) := by simp only [Builtin.min_, List.foldlM_cons, List.foldlM_nil]
theorem max_four (ats : Array TypeId) (ty : TypeId) (a b c d : Value) : Builtin.max_ ats ty #[a, b, c, d] = (Builtin.max2 a b >>= fun s => Builtin.max2 s c >>= fun s => Builtin.max2 s d >>= fun s => pure s) := by simp only [Builtin.max_, List.foldlM_cons, List.foldlM_nil]
theorem min_four (ats : Array TypeId) (ty : TypeId) (a b c d : Value) : Builtin.min_ ats ty #[a, b, c, d] = (Builtin.min2 a b >>= fun s => Builtin.min2 s c >>= fun s => Builtin.min2 s d >>= fun s => pure s) := by simp only [Builtin.min_, List.foldlM_cons, List.foldlM_nil]
end Go.Proofs.YtcdajedmlfhmeaaDoorW.PrintMore
namespace Go.Proofs.YtcdajedmlfhmeaaDoorW.PrintWords
open Go.RowKit
section
variable {P : Program} {ops : Array Oper} {rest : List Oper} {o : Oper} {a : Act} {Q : Exit → Act → World → Prop} {W : World}
theorem gate_callee {f : FuncId} {as_ : Array Operand} {ts : Array TypeId} (_ho : o.op = .call { callee := .value (.func f), args := as_, argTypes := ts }) (h : wpList P ops Q (o :: rest) a W) : wpList P ops Q (o :: rest) a W := h
theorem gate_builtin {b : Builtin} {xs : Array Operand} {ts : Array TypeId} (_ho : o.op = .call { callee := .builtin b, args := xs, argTypes := ts }) (h : wpList P ops Q (o :: rest) a W) : wpList P ops Q (o :: rest) a W := h
end
def mx (a b:Int):Int:=if a < b then b else a
def mn (a b:Int):Int:=if b < a then b else a
theorem drewN_self (w : World) (n : Nat) : w.drewN n = w.drewN n := rfl
namespace Kd
section
variable {α : Type} {d : Kd α} {e base : Nat} {ok : Nat → Prop} {W w1 : World} {v : Value} {xs : List α}
end
section
variable {α : Type} {d : Kd α} {e base g n cap : Nat} {ok oki okp : Nat → Prop} {W : World} {xs : List α} {i : Int} {c : List Value}
end
section
variable {α : Type} {d : Kd α} {e base b b' g N : Nat} {ok ok1 : Nat → Prop} {W W2 w1 : World} {u v : Value} {xs ys : List α} {S : Nat → Prop}
end
end Kd
end Go.Proofs.YtcdajedmlfhmeaaDoorW.PrintWords
namespace Go.Proofs.YtcdajedmlfhmeaaDoorW.PrintWords
open Go.RowKit
namespace Kd
section
variable {α β : Type} {d : Kd α} {e base base' n m c g N' lo hi : Nat} {ok ok' S : Nat → Prop} {w W w1 : World} {A : Option Addr} {ad : Addr} {u v v1 : Value} {xs : List α}
end
end Kd
end Go.Proofs.YtcdajedmlfhmeaaDoorW.PrintWords

namespace Go.Proofs.YtcdajedmlfhmeaaDoor.XN
open Go.RowKit Go.Proofs.YtcdajedmlfhmeaaDoorW.PrintWords Go.Proofs.YtcdajedmlfhmeaaDoorW.PrintLast Go.Proofs.YtcdajedmlfhmeaaDoorW.PrintMore
attribute [local go_sem] max2_int min2_int max_two min_two max_three min_three max_four min_four
set_option linter.unusedVariables false
set_option linter.unusedSimpArgs false
theorem ob_ {α β : Type _} {x : Option α} {f : α → Option β} {r : β} (h : x.bind f = some r) : ∃ t, Aside0 (x = some t) ∧ f t = some r := let ⟨t, a, b⟩ := Option.bind_eq_some_iff.mp h; ⟨t, ⟨a⟩, b⟩
theorem M_ {p : Prop} (h : p) : Aside0 p := ⟨h⟩
theorem bc_ (v : Value) {w : World} {g : Nat} {t : TypeId} {cs : Array Value} (h : w.heap[g]? = some (.cells cs t (0, 0))) (i : Nat) (e : cs[i]? = some v) : w.cell? ⟨g, i, none⟩ = some v := (blk_cell h i).trans e
theorem sA_ {α : Type _} (l : List α) (i : Nat) (v : α) : l.toArray.setIfInBounds i v = (l.set i v).toArray := List.setIfInBounds_toArray ..
theorem sZ_ {α : Type _} {x : α} {xs : List α} {a : α} : (x :: xs).set 0 a = a :: xs := rfl
theorem sS_ {α : Type _} {x : α} {xs : List α} {n : Nat} {a : α} : (x :: xs).set (n + 1) a = x :: xs.set n a := rfl
theorem oD_ {p : Prop} [Decidable p] (h : decide p = true) : p := of_decide_eq_true h
theorem dT_ {p : Prop} [Decidable p] (h : p) : decide p = true := decide_eq_true h
theorem dF_ {p : Prop} [Decidable p] (h : ¬ p) : decide p = false := decide_eq_false h
theorem bF_ {α : Type _} [BEq α] [LawfulBEq α] {a b : α} (h : a ≠ b) : (a == b) = false := beq_eq_false_iff_ne.mpr h
theorem nF_ {α : Type _} [BEq α] [LawfulBEq α] {a b : α} (h : a = b) : (a != b) = false := bne_eq_false_iff_eq.mpr h
theorem bN_ {w : World} {g : Nat} {o : Obj} (h : w.heap[g]? = some o) (n : Nat) : (w.drewN n).heap[g]? = some o := blk_drewN h n
theorem bD_ {w : World} {g : Nat} {o : Obj} (h : w.heap[g]? = some o) : w.drew.heap[g]? = some o := h
theorem bA_ {w : World} {g : Nat} {o : Obj} (h : w.heap[g]? = some o) (o' : Obj) : (w.alloc o').heap[g]? = some o := blk_alloc h o'
theorem bf_ {w : World} {g : Nat} {t : TypeId} {cs : Array Value} (h : w.heap[g]? = some (.cells cs t (0, 0))) (i : Nat) : w.frozen? ⟨g, i, none⟩ = false := blk_frozen h i
set_option maxHeartbeats 8000000
set_option maxRecDepth 100000



def errW:Option Int→Value
  | none => .nilIface
  | some c => .iface 0 (.int .i64 c)
theorem errW_none : errW none = .nilIface := rfl
theorem errW_some (c : Int) : errW (some c) = .iface 0 (.int .i64 c) := rfl

def G_months:List ByteArray:=[⟨#[106,97,110]⟩,⟨#[102,101,98]⟩,⟨#[109,97,114]⟩,⟨#[97,112,114]⟩,⟨#[109,97,121]⟩,⟨#[106,117,110]⟩,⟨#[106,117,108]⟩,⟨#[97,117,103]⟩,⟨#[115,101,112]⟩,⟨#[111,99,116]⟩,⟨#[110,111,118]⟩,⟨#[100,101,99]⟩]
theorem info101 : (Tryd.prog.info? 101).map (fun i => (i.zero, i.size, i.bytes)) = some (some (.agg #[(.string ⟨#[]⟩), (.string ⟨#[]⟩)]), 2, 32) := by kernel_rfl
-- the values' own types
structure S55 where
  f0 : Bool
  f1 : ByteArray
  f2 : ByteArray
  f3 : Int
def z55:S55:=⟨false,(⟨#[]⟩:ByteArray),(⟨#[]⟩:ByteArray),(0:Int)⟩
def k55:Kd S55:=Kd.iso (Kd.pair Kd.bool (Kd.pair Kd.string (Kd.pair Kd.string (Kd.int .i64)))) (fun x:S55 => (x.f0,x.f1,x.f2,x.f3))
def rd_T55 (xs:List S55) (i:Int):S55:=xs.getD i.toNat z55
structure S101 where
  f0 : ByteArray
  f1 : ByteArray
def z101:S101:=⟨(⟨#[]⟩:ByteArray),(⟨#[]⟩:ByteArray)⟩
def k101:Kd S101:=Kd.iso (Kd.pair Kd.string Kd.string) (fun x:S101 => (x.f0,x.f1))
theorem k101_open {w : World} {x : S101} {cs : List Value} (h : k101.K w x cs) : cs = [.string x.f0, .string x.f1] := by
  obtain ⟨_, _, rfl, rfl, rfl⟩ := h
  exact rfl
theorem k101_mkM (w : World) (base : Nat) (ok : Nat → Prop) (x : S101)  : k101.M w base ok x [.string x.f0, .string x.f1] := ⟨[.string x.f0], [.string x.f1], rfl, rfl, rfl⟩
def rd_T101 (xs:List S101) (i:Int):S101:=xs.getD i.toNat z101
theorem at_T101 {w : World} {A : Option Addr} {n : Nat} {xs : List S101} (h : Kd.C k101 w A n xs) (i : Int) (h0 : 0 ≤ i) (h1 : i < n) : ∃ ad , A = some ad ∧ w.cell? (ad.add (i.toNat * 2)) = some (.string (rd_T101 xs i).f0) ∧ w.cell? ⟨(ad.add (i.toNat * 2)).block, (ad.add (i.toNat * 2)).off + 1, none⟩ = some (.string (rd_T101 xs i).f1) := by
  obtain ⟨ad, c, e, _, hK, hc0⟩ := Kd.C_get h z101 i h0 h1
  have hc : ∀ j u, c[j]? = some u → w.cell? (ad.add (i.toNat * 2 + j)) = some u := hc0
  obtain rfl := k101_open hK
  exact ⟨ad, e, hc 0 _ rfl, by rw [← add_field _ _ 1 (by omega)]; exact hc 1 _ rfl⟩

theorem blk_below_any {w w1 : World} {g : Nat} {o : Obj} (h : w.heap[g]? = some o) (hb : Below w.heap.size w w1) : w1.heap[g]? = some o := (hb.block g (Array.getElem?_eq_some_iff.1 h).1).trans h
structure GOK (w : World) : Prop where
  g2 : ∃ fr : Nat × Nat, w.heap[2]? = some (.cells #[.int .u8 57, .int .i64 10, .int .u8 90, .int .i64 26, .int .u8 122, .int .i64 26, .int .u8 126, .int .i64 1] 116 fr)
  g0 : Kd.C Kd.string w (some ⟨0, 0, none⟩) 12 G_months
theorem GOK.below {w W : World} (h : GOK w) (hb : Below w.heap.size w W) : GOK W := ⟨(let ⟨fr, hh⟩ := h.g2; ⟨fr, blk_below_any hh hb⟩), Kd.C_below h.g0 hb⟩
end Go.Proofs.YtcdajedmlfhmeaaDoor.XN

section
/- The seat's package variables hold what the rows list (by this session). -/
set_option linter.unusedVariables false
set_option linter.unusedSimpArgs false
namespace Go.Proofs.YtcdajedmlfhmeaaDoor.XN
open Go.RowKit Go.Proofs.YtcdajedmlfhmeaaDoorW.PrintWords
section
variable {H : Type} {enc : TypeId × Value → H} {P : Program} {w : World} {base : Nat} {sp : Nat → Bool} {held : Bool}
def Fl.one {H : Type} : DataW H → List Value
  | .lit (.int k n) => [.int k n]
  | .lit (.bool b) => [.bool b]
  | .lit (.string s) => [.string ⟨s.toArray⟩]
  | _ => []
def Fl.row {H : Type} : DataW H → List Value
  | .agg ds => ds.flatMap Fl.one
  | _ => []
def Fl.arr {H : Type} (F : DataW H → List Value) : DataW H → List Value
  | .agg ds => ds.flatMap F
  | _ => []
def FlatAt (enc:TypeId × Value→H) (P:Program) (w:World) (base:Nat) (sp:Nat→Bool) (held:Bool) (F:DataW H→List Value) (t:TypeId):Prop:=
  ∀ fuel cs d p, DataW.trod enc P w base sp held fuel t cs = some (d, p) → cs = F d
theorem flat_int {t : TypeId} {k : IntKind} (ht : P.underlying t = some (.int k)) : FlatAt enc P w base sp held Fl.one t := by
  intro fuel cs d p h
  cases fuel with
  | zero => simp [DataW.trod] at h
  | succ fuel =>
    obtain ⟨n,rfl,e,_⟩:=DataW.trod_int ht h
    simp only [Prod.mk.injEq] at e
    rw [e.1];rfl
theorem flat_string {t : TypeId} (ht : P.underlying t = some .string) : FlatAt enc P w base sp held Fl.one t := by
  intro fuel cs d p h
  cases fuel with
  | zero => simp [DataW.trod] at h
  | succ fuel =>
    obtain ⟨n,rfl,e,_⟩:=DataW.trod_string ht h
    simp only [Prod.mk.injEq] at e
    rw [e.1];simp [Fl.one]
theorem flat_chunks {F : DataW H → List Value} {ce : Nat} : ∀ (n : Nat) (cs : List Value) (ds : List (DataW H)), cs.length = n * ce → ds.length = n →
    (∀ i d,ds[i]?=some d→(cs.drop (i * ce)).take ce=F d)→cs=ds.flatMap F
  | 0,cs,ds,h1,h2,_ => by
    have:cs=[]:=List.eq_nil_of_length_eq_zero (by omega)
    have:ds=[]:=List.eq_nil_of_length_eq_zero h2
    simp [*]
  | n+1,cs,[],h1,h2,_ => by cases h2
  | n+1,cs,d :: ds,h1,h2,h3 => by
    have h0:=h3 0 d rfl
    simp only [Nat.zero_mul,List.drop_zero] at h0
    have ih:=flat_chunks (F:=F) (ce:=ce) n (cs.drop ce) ds (by rw [List.length_drop,h1,Nat.succ_mul];omega) (by simpa using h2) (fun i d' hd => by
      have:=h3 (i+1) d' hd
      rw [List.drop_drop]
      rw [show ce+i * ce=(i+1) * ce by rw [Nat.succ_mul];omega]
      exact this)
    rw [List.flatMap_cons,← ih,← h0,List.take_append_drop]
theorem flat_array {F : DataW H → List Value} {t e : TypeId} {n : Nat} (ht : P.underlying t = some (.array n e)) (hc : P.cellsOf t = n * P.cellsOf e) (he : FlatAt enc P w base sp held F e) :
    FlatAt enc P w base sp held (Fl.arr F) t:=by
  intro fuel cs d p h
  cases fuel with
  | zero => simp [DataW.trod] at h
  | succ fuel =>
    simp only [DataW.trod,ht] at h
    split at h
    · rename_i hl
      obtain ⟨xs,hm,hx⟩:=Option.map_eq_some_iff.1 h
      simp only [Prod.mk.injEq] at hx
      rw [← hx.1]
      have hxl:xs.length=n:=by simpa using Lib.mapM_length hm
      refine flat_chunks (ce:=P.cellsOf e) n cs _ (by rw [hl,hc]) (by simp [hxl]) (fun i d' hd => ?_)
      have hi:i < n:=by
        rcases Nat.lt_or_ge i n with h|h
        · exact h
        · rw [List.getElem?_eq_none (by simp [hxl];omega)] at hd;cases hd
      obtain ⟨b,hb,hf⟩:=Lib.mapM_at hm i i (by simp [hi])
      rw [List.getElem?_map,hb] at hd
      simp only [Option.map_some,Option.some.injEq] at hd
      subst hd
      exact he _ _ _ _ hf
    · cases h
theorem flat_struct2 {t : TypeId} {f0 f1 : Field} (ht : P.underlying t = some (.struct #[f0, f1])) (hc : P.cellsOf t = 2) (c0 : P.cellsOf f0.type = 1) (c1 : P.cellsOf f1.type = 1) (o0 : f0.offset = 0) (o1 : f1.offset = 1)
    (h0:FlatAt enc P w base sp held Fl.one f0.type) (h1:FlatAt enc P w base sp held Fl.one f1.type):FlatAt enc P w base sp held Fl.row t:=by
  intro fuel cs d p h
  cases fuel with
  | zero => simp [DataW.trod] at h
  | succ fuel =>
    simp only [DataW.trod,ht] at h
    split at h
    · rename_i hl
      obtain ⟨xs,hm,hx⟩:=Option.map_eq_some_iff.1 h
      simp only [List.mapM_cons,List.mapM_nil,Option.bind_eq_bind,Option.bind_eq_some_iff,Option.pure_def,Option.some.injEq] at hm
      obtain ⟨y0,e0,_,⟨y1,e1,_,rfl,rfl⟩,rfl⟩:=hm
      simp only [Prod.mk.injEq] at hx
      rw [← hx.1]
      rw [hc] at hl
      obtain ⟨a,b,rfl⟩ : ∃ a b,cs=[a,b]:=by
        match cs,hl with
        | [a,b],_ => exact ⟨a,b,rfl⟩
      rw [o0,c0] at e0
      rw [o1,c1] at e1
      have k0:=h0 _ _ _ _ e0
      have k1:=h1 _ _ _ _ e1
      simp only [List.drop_zero,List.take_succ_cons,List.take_zero,List.drop_succ_cons] at k0 k1
      simp only [Fl.row,List.map_cons,List.map_nil,List.flatMap_cons,List.flatMap_nil,← k0,← k1]
      rfl
    · cases h
end
theorem block_of_var {P : Program} {w : World} {name : String} {cs : Array Value} {g : Nat} (hg : P.globalNamed name = some g) (h : w.var? P name = some cs) : ∃ T fr, w.heap[g]? = some (.cells cs T fr) := by
  unfold World.var? at h
  rw [hg] at h
  simp only [Option.bind_some] at h
  split at h
  · rename_i c T fr hh
    simp only [Option.some.injEq] at h
    exact ⟨T,fr,by rw [hh,h]⟩
  · cases h
theorem laid_entry {P : Program} {w : World} : ∀ {laid : List (String × DataW Unit)} {ps : List MemPlace}, DataW.LaidVars P w laid ps → ∀ (i : Nat) {name : String} {d : DataW Unit}, laid[i]? = some (name, d) →
    ∃ g t cs fuel p,P.globalNamed name=some g∧(P.globals[g]?).map (·.type)=some t∧w.var? P name=some cs∧DataW.trod (fun _ => ()) P w 0 (fun _ => true) false fuel t cs.toList=some (d,p)
  | [],_,_,i,_,_,hi => by simp at hi
  | (n,d) :: r,ps,h,0,_,_,hi => by
    simp only [List.getElem?_cons_zero,Option.some.injEq,Prod.mk.injEq] at hi
    obtain ⟨rfl,rfl⟩:=hi
    obtain ⟨g,t,cs,fuel,p,q,h1,h2,h3,h4,_⟩:=h
    exact ⟨g,t,cs,fuel,p,h1,h2,h3,h4⟩
  | (n,d) :: r,ps,h,i+1,_,_,hi => by
    obtain ⟨_,_,_,_,_,q,_,_,_,_,h5,_⟩:=h
    exact laid_entry h5 i (by simpa using hi)
theorem laid_cells {P : Program} {w : World} {laid : List (String × DataW Unit)} (h : laidMet P laid w) (i : Nat) {name : String} {d : DataW Unit} (hi : laid[i]? = some (name, d)) {g : Nat} {t : TypeId} (hg : P.globalNamed name = some g) (hty : (P.globals[g]?).map (·.type) = some t)
    {F:DataW Unit→List Value} (hF:FlatAt (fun _ => ()) P w 0 (fun _ => true) false F t) : ∃ T fr,w.heap[g]?=some (.cells (F d).toArray T fr):=by
  obtain ⟨ps,hv,_⟩:=h
  obtain ⟨g',t',cs,fuel,p,h1,h2,h3,h4⟩:=laid_entry hv i hi
  obtain rfl:=Option.some.inj (hg.symm.trans h1)
  obtain rfl:=Option.some.inj (hty.symm.trans h2)
  have e:=hF _ _ _ _ h4
  obtain ⟨T,fr,hh⟩:=block_of_var hg h3
  exact ⟨T,fr,by rw [hh,← e]⟩
theorem cell_of_block {w : World} {g i : Nat} {cs : Array Value} {T : TypeId} {fr : Nat × Nat} {v : Value} (h : w.heap[g]? = some (.cells cs T fr)) (hv : cs[i]? = some v) : w.cell? ⟨g, i, none⟩ = some v := by
  simp [World.cell?,h,hv]

theorem groups_flat (w : World) : FlatAt (fun _ => ()) Tryd.prog w 0 (fun _ => true) false (H := Unit) (Fl.arr Fl.row) 116 :=
  flat_array Tryd.underlying116 (by kernel_rfl) (flat_struct2 Tryd.underlying115 (by kernel_rfl) (by kernel_rfl) (by kernel_rfl) rfl rfl (flat_int Tryd.underlying5) (flat_int Tryd.underlying3))
theorem months_flat (w : World) : FlatAt (fun _ => ()) Tryd.prog w 0 (fun _ => true) false (H := Unit) (Fl.arr Fl.one) 71 :=
  flat_array Tryd.underlying71 (by kernel_rfl) (flat_string Tryd.underlying9)
theorem gok_of {laid : List (String × DataW Unit)} {W : World} (hL : laidMetH Tryd.prog laid W) (hn : (laid.all fun x => x.2.handleName?.isNone) = true) (hS : W.ShapedOpen Tryd.prog) (i j : Nat)
    (hi : laid[i]? = some ("mill/numeral.groups", Rows.laid_mill_numeral_groups)) (hj : laid[j]? = some ("mill/numeral.months", Rows.laid_mill_numeral_months)) : GOK W := by
  rw [MakeChecks.laidMetH_plain _ _ _ hn] at hL
  refine ⟨?_,?_⟩
  · obtain ⟨T, fr, h⟩ := laid_cells hL i hi (g := 2) (t := 116) (by kernel_rfl) (by kernel_rfl) (groups_flat W)
    obtain ⟨cs,h2,_⟩:=hS.1 2 #[.int .u8 0,.int .i64 0,.int .u8 0,.int .i64 0,.int .u8 0,.int .i64 0,.int .u8 0,.int .i64 0] 116 (of_decide_eq_true (by kernel_rfl)) (by kernel_rfl)
    rw [h] at h2
    simp only [Option.some.injEq,Obj.cells.injEq] at h2
    obtain ⟨_,rfl,_⟩:=h2
    exact ⟨fr,h⟩
  · obtain ⟨T, fr, h⟩ := laid_cells hL j hj (g := 0) (t := 71) (by kernel_rfl) (by kernel_rfl) (months_flat W)
    refine Kd.C_of_reads (enc:=Value.string) (d:=ByteArray.empty) (h1:=fun _ => rfl) ⟨rfl,by decide,fun _ => ⟨_,rfl,fun k hk => ?_⟩⟩
    have hk' : k < 12:=hk
    have this:(Fl.arr Fl.one (Rows.laid_mill_numeral_months (H:=Unit))).toArray[k]?=some (.string (G_months.getD k ByteArray.empty)):=by
      rcases (by omega:k=0∨k=1∨k=2∨k=3∨k=4∨k=5∨k=6∨k=7∨k=8∨k=9∨k=10∨k=11) with rfl|rfl|rfl|rfl|rfl|rfl|rfl|rfl|rfl|rfl|rfl|rfl <;> rfl
    rw [show (⟨0,0,none⟩:Addr).add k=⟨0,k,none⟩ by (simp [Addr.add];omega)]
    exact cell_of_block h this
end Go.Proofs.YtcdajedmlfhmeaaDoor.XN
end

namespace Go.Proofs.YtcdajedmlfhmeaaDoor.XN
open Go.RowKit Go.Proofs.YtcdajedmlfhmeaaDoorW.PrintWords Go.Proofs.YtcdajedmlfhmeaaDoorW.PrintLast Go.Proofs.YtcdajedmlfhmeaaDoorW.PrintMore
attribute [local go_sem] max2_int min2_int max_two min_two max_three min_three max_four min_four
set_option linter.unusedVariables false
set_option linter.unusedSimpArgs false
set_option maxHeartbeats 8000000
set_option maxRecDepth 100000

def n_blanks.l0:Nat→ByteArray→Int→Option (Int)
 | 0,_,_ => none
 | k+1,x0,x3 => if x3 < (x0.size:Int) then (if 0≤x3 then (if (bt x0 x3)=32 then (n_blanks.l0 k x0 (wrap64 (x3+1))) else (if (bt x0 x3)=9 then (n_blanks.l0 k x0 (wrap64 (x3+1))) else (some x3))) else (none)) else (some x3)
def n_blanks.f (k:Nat) (a0:ByteArray):Option (Int):=n_blanks.l0 k a0 0
theorem n_blanks.calls (k : Nat) (a0 : ByteArray) (r : Int) (w : World) (h : n_blanks.f k a0 = some r) :
  Calls Tryd.prog 34 #[.string a0] w fun e w' => e=.returned (.int .i64 r)∧Drawn0 w w':=by
 have H:(n_blanks.l0 k a0 0)=some r:=h;clear h;have H':=M_ H;clear H
 go_enter Tryd.func34,Tryd.ntmps34
 go_wp2
 go_loopg [3] k (fun kq v3 w' => ∃ (x3_1:Int),v3=.int .i64 x3_1∧Aside0 (n_blanks.l0 kq a0 x3_1=some r)∧Aside0 (kq≤k)∧Drawn0 w w')
 case atStart => exact ⟨(0),qnc1_,H',⟨Nat.le_refl _⟩,qnc4_⟩
 case round =>
  clear H';obtain ⟨x3_1,rfl,HA,HK1,⟨m1,rfl⟩⟩:=hrel
  cases gk with
  | zero => exact absurd HA.out (by simp [n_blanks.l0])
  | succ k1 =>
   have H:=HA.out;clear HA;simp only [n_blanks.l0] at H
   by_cases c2:x3_1 < (a0.size:Int)
   ·rw [if_pos c2] at H;have c2b0:=dT_ c2;clear c2
    by_cases c3:0≤x3_1
    ·rw [if_pos c3] at H;have c3b0:=dT_ c3;clear c3
     by_cases c5:(bt a0 x3_1)=32
     ·rw [if_pos c5] at H;have c5b0:((bt a0 x3_1) == 32)=true:=beq_iff_eq.mpr c5;have c5b1:((bt a0 x3_1) != 32)=false:=nF_ c5;clear c5;have H':=M_ H;clear H;have p4:0≤(x3_1:Int):=oD_ qnc3_;have q4:x3_1 < (a0.size:Int):=oD_ qnc3_;have hx4:=bt_at a0 x3_1;replace p4:=eq_true p4;replace q4:=eq_true q4;go_wp2
      go_roundg k1
      case measure => have:=HK1.out;omega
      case rel => exact ⟨(wrap64 (x3_1+1)),qnc1_,H',⟨by have:=HK1.out;omega⟩,qnc4_⟩
     ·rw [if_neg c5] at H;have c5b0:((bt a0 x3_1) == 32)=false:=bF_ c5;have c5b1:((bt a0 x3_1) != 32)=true:=bne_iff_ne.mpr c5
      by_cases c7:(bt a0 x3_1)=9
      ·rw [if_pos c7] at H;have c7b0:((bt a0 x3_1) == 9)=true:=beq_iff_eq.mpr c7;have c7b1:((bt a0 x3_1) != 9)=false:=nF_ c7;clear c7;have H':=M_ H;clear H;have p4:0≤(x3_1:Int):=oD_ qnc3_;have q4:x3_1 < (a0.size:Int):=oD_ qnc3_;have hx4:=bt_at a0 x3_1;replace p4:=eq_true p4;replace q4:=eq_true q4;have p6:0≤(x3_1:Int):=oD_ qnc3_;have q6:x3_1 < (a0.size:Int):=oD_ qnc3_;have hx6:=bt_at a0 x3_1;replace p6:=eq_true p6;replace q6:=eq_true q6;go_wp2
       go_roundg k1
       case measure => have:=HK1.out;omega
       case rel => exact ⟨(wrap64 (x3_1+1)),qnc1_,H',⟨by have:=HK1.out;omega⟩,qnc4_⟩
      ·rw [if_neg c7] at H;have c7b0:((bt a0 x3_1) == 9)=false:=bF_ c7;have c7b1:((bt a0 x3_1) != 9)=true:=bne_iff_ne.mpr c7;obtain rfl:=Option.some.inj H;have p4:0≤(x3_1:Int):=oD_ qnc3_;have q4:x3_1 < (a0.size:Int):=oD_ qnc3_;have hx4:=bt_at a0 x3_1;replace p4:=eq_true p4;replace q4:=eq_true q4;have p6:0≤(x3_1:Int):=oD_ qnc3_;have q6:x3_1 < (a0.size:Int):=oD_ qnc3_;have hx6:=bt_at a0 x3_1;replace p6:=eq_true p6;replace q6:=eq_true q6;go_wp2;go_ret;exact ⟨qnc1_,qnc4_⟩
    ·rw [if_neg c3] at H;exact absurd H (by simp)
   ·rw [if_neg c2] at H;have c2b0:=dF_ c2;clear c2;obtain rfl:=Option.some.inj H;go_wp2;go_ret;exact ⟨qnc1_,qnc4_⟩

set_option maxHeartbeats 8000000
set_option maxRecDepth 100000

def n_digit.f (a0:Int):Option (Bool):=if a0 ≥ 48 then (some (decide (a0≤57))) else (some false)
theorem n_digit.calls (a0 : Int) (r : Bool) (w : World) (h : n_digit.f a0 = some r) :
  Calls Tryd.prog 68 #[.int .u8 a0] w fun e w' => e=.returned (.bool r)∧Drawn0 w w':=by
 have H:(if a0 ≥ 48 then (some (decide (a0≤57))) else (some false))=some r:=h;clear h
 by_cases c2:a0 ≥ 48
 ·rw [if_pos c2] at H;have c2b0:=dT_ c2;clear c2;obtain rfl:=Option.some.inj H
  go_enter Tryd.func68,Tryd.ntmps68
  go_wp2;go_ret;exact ⟨qnc1_,qnc4_⟩
 ·rw [if_neg c2] at H;have c2b0:=dF_ c2;clear c2;obtain rfl:=Option.some.inj H
  go_enter Tryd.func68,Tryd.ntmps68
  go_wp2;go_ret;exact ⟨qnc1_,qnc4_⟩

set_option maxHeartbeats 8000000
set_option maxRecDepth 100000

def plainDig (x:Int):Bool:=decide (48≤x) && decide (x≤57)
def plainRun (s:ByteArray):Nat→Nat→Nat
  | 0, i => i
  | k + 1, i => if i < s.size ∧ plainDig (bt s i) = true then plainRun s k (i + 1) else i
def plainEnd (s:ByteArray) (i:Nat):Nat:=plainRun s (s.size - i) i
theorem plainEnd_eq (s : ByteArray) (i : Nat) : plainEnd s i = if i < s.size ∧ plainDig (bt s i) = true then plainEnd s (i + 1) else i := by
  unfold plainEnd
  by_cases h : i < s.size
  · obtain ⟨k, hk⟩ : ∃ k, s.size - i = k + 1 := ⟨s.size - i - 1, by omega⟩
    have hk' : s.size - (i + 1) = k := by omega
    rw [hk, hk']
    rfl
  · rw [if_neg (fun hh => h hh.1), show s.size - i = 0 from by omega]
    rfl
theorem plainEnd_yes {s : ByteArray} {i : Nat} (h : i < s.size) (hd : plainDig (bt s i) = true) : plainEnd s i = plainEnd s (i + 1) := by
  rw [plainEnd_eq, if_pos ⟨h, hd⟩]
theorem plainEnd_no {s : ByteArray} {i : Nat} (h : ¬ (i < s.size ∧ plainDig (bt s i) = true)) : plainEnd s i = i := by
  rw [plainEnd_eq, if_neg h]
theorem plainDig_f (x : Int) : n_digit.f x = some (plainDig x) := by
  unfold n_digit.f plainDig
  by_cases h : 48 ≤ x <;> simp [h]
def plainF (s:ByteArray) (b:Nat):Bool × ByteArray × ByteArray × Int:=
  if plainEnd s b < s.size ∧ bt s (plainEnd s b) = 46 then
    if (s.extract b (plainEnd s b)).toList = [] ∧ (s.extract (plainEnd s b + 1) (plainEnd s (plainEnd s b + 1))).toList = [] then (false, ⟨#[]⟩, ⟨#[]⟩, 0)
    else (false, s.extract b (plainEnd s b), s.extract (plainEnd s b + 1) (plainEnd s (plainEnd s b + 1)), (plainEnd s (plainEnd s b + 1) : Int))
  else if (s.extract b (plainEnd s b)).toList = [] then (false, ⟨#[]⟩, ⟨#[]⟩, 0) else (false, s.extract b (plainEnd s b), ⟨#[]⟩, (plainEnd s b : Int))
def n_plain.f (a0:ByteArray) (a1:Int):Option (Bool × ByteArray × ByteArray × Int):=
  if 0 ≤ a1 ∧ a1 ≤ (a0.size : Int) ∧ (a0.size : Int) < 9223372036854775807 then some (plainF a0 a1.toNat) else none

def plainJumps (J:Nat→Act→World→Prop) (Q:Exit→Act→World→Prop):Exit→Act→World→Prop
  | .goto l, a, w => J l a w
  | e, a, w => Q e a w
theorem plain_scope {P : Program} {Q : Exit → Act → World → Prop} {a : Act} {w : World} {c r0 r1 r2 : Code} (J : Nat → Act → World → Prop) (μ : Nat → Act → World → Nat) (hJ : ∀ l a w, J l a w → l = 0 ∨ l = 1 ∨ l = 2)
    (h0 : findLabel c 0 = some r0) (h1 : findLabel c 1 = some r1) (h2 : findLabel c 2 = some r2)
    (first : c.wp P (plainJumps J Q) a w)
    (p0 : ∀ a w, J 0 a w → r0.wp P (plainJumps (fun l a' w' => J l a' w' ∧ μ l a' w' < μ 0 a w) Q) a w)
    (p1 : ∀ a w, J 1 a w → r1.wp P (plainJumps (fun l a' w' => J l a' w' ∧ μ l a' w' < μ 1 a w) Q) a w)
    (p2 : ∀ a w, J 2 a w → r2.wp P (plainJumps (fun l a' w' => J l a' w' ∧ μ l a' w' < μ 2 a w) Q) a w) : (Code.scope c).wp P Q a w := by
  intro b k cs
  have key : ∀ n l a w, μ l a w = n → J l a w → ∃ rest, findLabel c l = some rest ∧ ∃ e a' w', Q e a' w' ∧ Arrives P (lone (b.at a (.code rest :: .inScope c :: k)) cs w) b k cs e a' w' := by
    intro n
    induction n using Nat.strongRecOn with
    | _ n ih =>
      intro l a w hn hl
      obtain ⟨rest, hr, hp⟩ : ∃ rest, findLabel c l = some rest ∧ rest.wp P (plainJumps (fun l' a' w' => J l' a' w' ∧ μ l' a' w' < μ l a w) Q) a w := by
        rcases hJ l a w hl with rfl | rfl | rfl
        · exact ⟨r0, h0, p0 a w hl⟩
        · exact ⟨r1, h1, p1 a w hl⟩
        · exact ⟨r2, h2, p2 a w hl⟩
      refine ⟨rest, hr, ?_⟩
      obtain ⟨e, a₁, w₁, hq, harr⟩ := hp b (.inScope c :: k) cs
      cases e with
      | normal => exact ⟨.normal, a₁, w₁, hq, Steps.trans harr (.one step_inScope)⟩
      | exit id => exact ⟨.exit id, a₁, w₁, hq, fun k' hk => harr k' (by simp [exitTo, hk])⟩
      | goto l' =>
        obtain ⟨hJ', hlt⟩ := hq
        obtain ⟨rest', hr', e₂, a₂, w₂, hq₂, harr₂⟩ := ih _ (by omega) l' a₁ w₁ rfl hJ'
        exact ⟨e₂, a₂, w₂, hq₂, .of_steps (harr _ (by simp [gotoIn, hr'])) harr₂⟩
      | ret => exact ⟨_, a₁, w₁, hq, harr⟩
      | panic ch => exact ⟨_, a₁, w₁, hq, harr⟩
      | outgrown => exact ⟨_, a₁, w₁, hq, harr⟩
  obtain ⟨e, a₁, w₁, hq, harr⟩ := first b (.inScope c :: k) cs
  cases e with
  | normal => exact ⟨.normal, a₁, w₁, hq, .head step_scope (Steps.trans harr (.one step_inScope))⟩
  | exit id => exact ⟨.exit id, a₁, w₁, hq, fun k' hk => .head step_scope (harr k' (by simp [exitTo, hk]))⟩
  | goto l =>
    obtain ⟨rest, hr, e₂, a₂, w₂, hq₂, harr₂⟩ := key _ l a₁ w₁ rfl hq
    exact ⟨e₂, a₂, w₂, hq₂, .of_steps (.head step_scope (harr _ (by simp [gotoIn, hr]))) harr₂⟩
  | ret => exact ⟨_, a₁, w₁, hq, .of_steps (.one step_scope) harr⟩
  | panic ch => exact ⟨_, a₁, w₁, hq, .of_steps (.one step_scope) harr⟩
  | outgrown => exact ⟨_, a₁, w₁, hq, .of_steps (.one step_scope) harr⟩

def plainJ (s:ByteArray) (b:Nat) (w:World):Nat→Act→World→Prop
  | 0, a, w' => ∃ (g4 g5 : Nat) (x : Int), Hid ((b : Int) ≤ x ∧ x ≤ (s.size : Int) ∧ plainEnd s x.toNat = plainEnd s b) ∧ Hid (g4 ≠ g5 ∧ w.heap.size ≤ g4 ∧ w.heap.size ≤ g5 ∧ Below w.heap.size w w' ∧ w'.heap[g4]? = some (.cells #[.bool false, .string ⟨#[]⟩, .string ⟨#[]⟩, .int .i64 0] 55 (0, 0)) ∧ w'.heap[g5]? = some (.cells #[.bool false, .string ⟨#[]⟩, .string ⟨#[]⟩, .int .i64 0] 55 (0, 0))) ∧ ∃ u2 u3 u8 u9 u10 u11 u12 u13 u14 u15 u16 u17 u18 u19 u20 u21 u22 u23 u24 u25 u26 u27 u28 u29 u30 u31 u32 u33 u34 u35 u36 u37 u38 u39 u40 u41 u42 u43 u44 u45 u46 u47 u48 u49 u50 u51 u52 u53 u54 u55 u56 u57 u58 u59 u60 u61 u62 u63 u64 u65 u66 u67 u68 u69 u70 u71 : Value, a = ⟨#[.string s, .int .i64 x, u2, u3, .pointer (some ⟨g4, 0, none⟩), .pointer (some ⟨g5, 0, none⟩), .int .i64 (b : Nat), .int .i64 (b : Nat), u8, u9, u10, u11, u12, u13, u14, u15, u16, u17, u18, u19, u20, u21, u22, u23, u24, u25, u26, u27, u28, u29, u30, u31, u32, u33, u34, u35, u36, u37, u38, u39, u40, u41, u42, u43, u44, u45, u46, u47, u48, u49, u50, u51, u52, u53, u54, u55, u56, u57, u58, u59, u60, u61, u62, u63, u64, u65, u66, u67, u68, u69, u70, u71], []⟩
  | 1, a, w' => ∃ (g4 g5 p : Nat) (x : Int), Hid (p = plainEnd s b ∧ p < s.size ∧ bt s p = 46 ∧ b ≤ p ∧ (p : Int) + 1 ≤ x ∧ x ≤ (s.size : Int) ∧ plainEnd s x.toNat = plainEnd s (p + 1)) ∧ Hid (g4 ≠ g5 ∧ w.heap.size ≤ g4 ∧ w.heap.size ≤ g5 ∧ Below w.heap.size w w' ∧ w'.heap[g4]? = some (.cells #[.bool false, .string ⟨#[]⟩, .string ⟨#[]⟩, .int .i64 0] 55 (0, 0)) ∧ w'.heap[g5]? = some (.cells #[.bool false, .string (s.extract b p), .string ⟨#[]⟩, .int .i64 0] 55 (0, 0))) ∧ ∃ u2 u3 u8 u9 u10 u11 u12 u13 u14 u15 u16 u17 u18 u19 u20 u21 u22 u23 u24 u25 u26 u27 u28 u29 u30 u31 u32 u33 u34 u35 u36 u37 u38 u39 u40 u41 u42 u43 u44 u45 u46 u47 u48 u49 u50 u51 u52 u53 u54 u55 u56 u57 u58 u59 u60 u61 u62 u63 u64 u65 u66 u67 u68 u69 u70 u71 : Value, a = ⟨#[.string s, .int .i64 x, u2, u3, .pointer (some ⟨g4, 0, none⟩), .pointer (some ⟨g5, 0, none⟩), .int .i64 ((p : Int) + 1), .int .i64 (p : Nat), u8, u9, u10, u11, u12, u13, u14, u15, u16, u17, u18, u19, u20, u21, u22, u23, u24, u25, u26, u27, u28, u29, u30, u31, u32, u33, u34, u35, u36, u37, u38, u39, u40, u41, u42, u43, u44, u45, u46, u47, u48, u49, u50, u51, u52, u53, u54, u55, u56, u57, u58, u59, u60, u61, u62, u63, u64, u65, u66, u67, u68, u69, u70, u71], []⟩
  | 2, a, w' => ∃ (g4 g5 p : Nat), Hid (p = plainEnd s b ∧ ¬ (p < s.size ∧ bt s p = 46) ∧ b ≤ p ∧ p ≤ s.size) ∧ Hid (g4 ≠ g5 ∧ w.heap.size ≤ g4 ∧ w.heap.size ≤ g5 ∧ Below w.heap.size w w' ∧ w'.heap[g4]? = some (.cells #[.bool false, .string ⟨#[]⟩, .string ⟨#[]⟩, .int .i64 0] 55 (0, 0)) ∧ w'.heap[g5]? = some (.cells #[.bool false, .string (s.extract b p), .string ⟨#[]⟩, .int .i64 0] 55 (0, 0))) ∧ ∃ u2 u3 u8 u9 u10 u11 u12 u13 u14 u15 u16 u17 u18 u19 u20 u21 u22 u23 u24 u25 u26 u27 u28 u29 u30 u31 u32 u33 u34 u35 u36 u37 u38 u39 u40 u41 u42 u43 u44 u45 u46 u47 u48 u49 u50 u51 u52 u53 u54 u55 u56 u57 u58 u59 u60 u61 u62 u63 u64 u65 u66 u67 u68 u69 u70 u71 : Value, a = ⟨#[.string s, .int .i64 (p : Nat), u2, u3, .pointer (some ⟨g4, 0, none⟩), .pointer (some ⟨g5, 0, none⟩), .int .i64 (b : Nat), .int .i64 (p : Nat), u8, u9, u10, u11, u12, u13, u14, u15, u16, u17, u18, u19, u20, u21, u22, u23, u24, u25, u26, u27, u28, u29, u30, u31, u32, u33, u34, u35, u36, u37, u38, u39, u40, u41, u42, u43, u44, u45, u46, u47, u48, u49, u50, u51, u52, u53, u54, u55, u56, u57, u58, u59, u60, u61, u62, u63, u64, u65, u66, u67, u68, u69, u70, u71], []⟩
  | _, _, _ => False
theorem plainJ_label {s : ByteArray} {b : Nat} {w : World} : ∀ l a w', plainJ s b w l a w' → l = 0 ∨ l = 1 ∨ l = 2
  | 0, _, _, _ => .inl rfl
  | 1, _, _, _ => .inr (.inl rfl)
  | 2, _, _, _ => .inr (.inr rfl)
  | _ + 3, _, _, h => h.elim
def plainM (s:ByteArray) (l:Nat) (a:Act) (_:World):Nat:=(2 - l) * (s.size+1)+(s.size - (intOf (a.tmps.getD 1 undef)).toNat)
noncomputable def plainBody : Code := match Tryd.f36.body with | some (.seq _ (.scope c)) => c | _ => .skip
noncomputable def plainTail (l : Nat) : Code := match findLabel plainBody l with | some (.seq _ c) => c | _ => .skip
theorem plainDig_at {s : ByteArray} {x : Int} {d : Bool} (h : plainDig (bt s x) = d) : n_digit.f (bt s x) = some d := by rw [plainDig_f, h]

set_option maxRecDepth 100000 in
set_option maxHeartbeats 4000000 in
theorem plain_pass0 (s : ByteArray) (b : Nat) (w : World) (K : Nat → Act → World → Prop) (Q : Exit → Act → World → Prop) (W : World) (g4 g5 : Nat) (x : Int) (hs : (s.size : Int) < 9223372036854775807)
    (hx : Hid ((b : Int) ≤ x ∧ x ≤ (s.size : Int) ∧ plainEnd s x.toNat = plainEnd s b))
    (hw : Hid (g4 ≠ g5 ∧ w.heap.size ≤ g4 ∧ w.heap.size ≤ g5 ∧ Below w.heap.size w W ∧ W.heap[g4]? = some (.cells #[.bool false, .string ⟨#[]⟩, .string ⟨#[]⟩, .int .i64 0] 55 (0, 0)) ∧ W.heap[g5]? = some (.cells #[.bool false, .string ⟨#[]⟩, .string ⟨#[]⟩, .int .i64 0] 55 (0, 0))))
    (u2 u3 u8 u9 u10 u11 u12 u13 u14 u15 u16 u17 u18 u19 u20 u21 u22 u23 u24 u25 u26 u27 u28 u29 u30 u31 u32 u33 u34 u35 u36 u37 u38 u39 u40 u41 u42 u43 u44 u45 u46 u47 u48 u49 u50 u51 u52 u53 u54 u55 u56 u57 u58 u59 u60 u61 u62 u63 u64 u65 u66 u67 u68 u69 u70 u71 : Value)
    (hK : ∀ l a' w', plainJ s b w l a' w' → plainM s l a' w' < plainM s 0 ⟨#[.string s, .int .i64 x, u2, u3, .pointer (some ⟨g4, 0, none⟩), .pointer (some ⟨g5, 0, none⟩), .int .i64 (b : Nat), .int .i64 (b : Nat), u8, u9, u10, u11, u12, u13, u14, u15, u16, u17, u18, u19, u20, u21, u22, u23, u24, u25, u26, u27, u28, u29, u30, u31, u32, u33, u34, u35, u36, u37, u38, u39, u40, u41, u42, u43, u44, u45, u46, u47, u48, u49, u50, u51, u52, u53, u54, u55, u56, u57, u58, u59, u60, u61, u62, u63, u64, u65, u66, u67, u68, u69, u70, u71], []⟩ W → K l a' w') :
    Code.wp Tryd.prog (plainTail 0) (plainJumps K Q) ⟨#[.string s, .int .i64 x, u2, u3, .pointer (some ⟨g4, 0, none⟩), .pointer (some ⟨g5, 0, none⟩), .int .i64 (b : Nat), .int .i64 (b : Nat), u8, u9, u10, u11, u12, u13, u14, u15, u16, u17, u18, u19, u20, u21, u22, u23, u24, u25, u26, u27, u28, u29, u30, u31, u32, u33, u34, u35, u36, u37, u38, u39, u40, u41, u42, u43, u44, u45, u46, u47, u48, u49, u50, u51, u52, u53, u54, u55, u56, u57, u58, u59, u60, u61, u62, u63, u64, u65, u66, u67, u68, u69, u70, u71], []⟩ W := by
  conv => arg 2; whnf
  obtain ⟨hx1, hx2, hx3⟩ := hx.out
  have hx3 := M_ hx3
  obtain ⟨hn, hg4, hg5, hb, hc4, hc5⟩ := hw.out
  have HB := M_ hb
  have H4 := M_ hc4
  have H5 := M_ hc5
  clear hb hc4 hc5 hx hw
  have HK := M_ hK
  clear hK
  have hc50 : W.cell? ⟨g5, 1, none⟩ = some (.string ⟨#[]⟩) := (blk_cell H5.out 1).trans rfl
  have hf50 := blk_frozen H5.out 1
  have hx0 : 0 ≤ x := by omega
  have hbx := bt_at s x
  by_cases hlt : x < (s.size : Int)
  · by_cases hd : plainDig (bt s x) = true
    · have A1 := M_ (plainDig_at hd)
      have HD := M_ hd
      clear hd
      have p1 := eq_true hx0
      have q1 := eq_true hlt
      go_wp2_with (go_at_call 68; (with_reducible refine (n_digit.calls (bt s x) true _ A1.out).mono ?_); rintro e w' ⟨rfl, ⟨nd, rfl⟩⟩)
      go_step3
      refine HK.out 0 _ _ ⟨g4, g5, x + 1, ⟨by omega, by omega, ?_⟩, ⟨hn, hg4, hg5, pw_below_drewN HB.out _, blk_drewN H4.out _, blk_drewN H5.out _⟩, _, _, _, _, _, _, _, _, _, _, _, _, _, _, _, _, _, _, _, _, _, _, _, _, _, _, _, _, _, _, _, _, _, _, _, _, _, _, _, _, _, _, _, _, _, _, _, _, _, _, _, _, _, _, _, _, _, _, _, _, _, _, _, _, _, _, rfl⟩ ?_
      · rw [show (x + 1).toNat = x.toNat + 1 from by omega, ← plainEnd_yes (by omega) (by rw [show ((x.toNat : Nat) : Int) = x from by omega]; exact HD.out)]
        exact hx3.out
      · show (2 - 0) * (s.size + 1) + (s.size - (x + 1).toNat) < (2 - 0) * (s.size + 1) + (s.size - x.toNat)
        omega
    · have A1 := M_ (plainDig_at (d := false) (by simpa using hd))
      obtain ⟨p, rfl⟩ := Int.eq_ofNat_of_zero_le hx0
      have HP := M_ (show p = plainEnd s b from by rw [← hx3.out, Int.toNat_natCast, plainEnd_no (fun hh => hd hh.2)])
      clear hd
      have p1 := eq_true hx0
      have q1 := eq_true hlt
      have hsl : b ≤ p := by omega
      have hsp : p < s.size := by omega
      have hbx2 : ∀ h : p < s.size, ((s[p]'h).toNat : Int) = bt s (p : Int) := bt_at s (p : Int)
      by_cases hdot : bt s (p : Int) = 46
      · have hdb : (bt s (p : Int) == 46) = true := by simpa using hdot
        have HDOT := M_ hdot
        clear hdot
        go_wp2_with (go_at_call 68; (with_reducible refine (n_digit.calls (bt s (p : Int)) false _ A1.out).mono ?_); rintro e w' ⟨rfl, ⟨nd, rfl⟩⟩)
        go_step3
        refine HK.out 1 _ _ ⟨g4, g5, p, (p : Int) + 1, ⟨HP.out, hsp, HDOT.out, hsl, Int.le_refl _, by omega, by rw [show ((p : Int) + 1).toNat = p + 1 from by omega]⟩, ⟨hn, hg4, hg5, below_set (pw_below_drewN HB.out _) hg5, blk_far (blk_drewN H4.out _) hn _, blk_put (blk_drewN H5.out _) 1 _ rfl⟩, _, _, _, _, _, _, _, _, _, _, _, _, _, _, _, _, _, _, _, _, _, _, _, _, _, _, _, _, _, _, _, _, _, _, _, _, _, _, _, _, _, _, _, _, _, _, _, _, _, _, _, _, _, _, _, _, _, _, _, _, _, _, _, _, _, _, rfl⟩ ?_
        show (2 - 1) * (s.size + 1) + (s.size - ((p : Int) + 1).toNat) < (2 - 0) * (s.size + 1) + (s.size - (p : Int).toNat)
        omega
      · have hdb : (bt s (p : Int) == 46) = false := by simpa using hdot
        have HDOT := M_ hdot
        clear hdot
        go_wp2_with (go_at_call 68; (with_reducible refine (n_digit.calls (bt s (p : Int)) false _ A1.out).mono ?_); rintro e w' ⟨rfl, ⟨nd, rfl⟩⟩)
        go_step3
        refine HK.out 2 _ _ ⟨g4, g5, p, ⟨HP.out, fun hh => HDOT.out hh.2, hsl, by omega⟩, ⟨hn, hg4, hg5, below_set (pw_below_drewN HB.out _) hg5, blk_far (blk_drewN H4.out _) hn _, blk_put (blk_drewN H5.out _) 1 _ rfl⟩, _, _, _, _, _, _, _, _, _, _, _, _, _, _, _, _, _, _, _, _, _, _, _, _, _, _, _, _, _, _, _, _, _, _, _, _, _, _, _, _, _, _, _, _, _, _, _, _, _, _, _, _, _, _, _, _, _, _, _, _, _, _, _, _, _, _, rfl⟩ ?_
        show (2 - 2) * (s.size + 1) + (s.size - (p : Int).toNat) < (2 - 0) * (s.size + 1) + (s.size - (p : Int).toNat)
        omega
  · obtain ⟨p, rfl⟩ := Int.eq_ofNat_of_zero_le hx0
    have HP := M_ (show p = plainEnd s b from by rw [← hx3.out, Int.toNat_natCast, plainEnd_no (fun hh => hlt (by omega))])
    have hsl : b ≤ p := by omega
    go_wp2
    go_step3
    refine HK.out 2 _ _ ⟨g4, g5, p, ⟨HP.out, fun hh => absurd hh.1 (by omega), hsl, by omega⟩, ⟨hn, hg4, hg5, below_set HB.out hg5, blk_far H4.out hn _, blk_put H5.out 1 _ rfl⟩, _, _, _, _, _, _, _, _, _, _, _, _, _, _, _, _, _, _, _, _, _, _, _, _, _, _, _, _, _, _, _, _, _, _, _, _, _, _, _, _, _, _, _, _, _, _, _, _, _, _, _, _, _, _, _, _, _, _, _, _, _, _, _, _, _, _, rfl⟩ ?_
    show (2 - 2) * (s.size + 1) + (s.size - (p : Int).toNat) < (2 - 0) * (s.size + 1) + (s.size - (p : Int).toNat)
    omega
def plainOut (A B:ByteArray) (q:Int):Bool × ByteArray × ByteArray × Int:=if A.toList=[]∧B.toList=[] then (false,⟨#[]⟩,⟨#[]⟩,0) else (false,A,B,q)
def plainCells (r:Bool × ByteArray × ByteArray × Int):Array Value:=#[.bool r.1,.string r.2.1,.string r.2.2.1,.int .i64 r.2.2.2]
set_option maxRecDepth 100000 in
set_option maxHeartbeats 4000000 in
theorem plain_pass2 (w : World) (K : Nat → Act → World → Prop) (Q : Exit → Act → World → Prop) (W : World) (g4 g5 p q : Nat) (s A B : ByteArray) (hpq : p ≤ q) (hq : (q : Int) < 9223372036854775807)
    (hw : Hid (g4 ≠ g5 ∧ w.heap.size ≤ g4 ∧ w.heap.size ≤ g5 ∧ Below w.heap.size w W ∧ W.heap[g4]? = some (.cells #[.bool false, .string ⟨#[]⟩, .string ⟨#[]⟩, .int .i64 0] 55 (0, 0)) ∧ W.heap[g5]? = some (.cells #[.bool false, .string A, .string B, .int .i64 0] 55 (0, 0))))
    (u6 u2 u3 u8 u9 u10 u11 u12 u13 u14 u15 u16 u17 u18 u19 u20 u21 u22 u23 u24 u25 u26 u27 u28 u29 u30 u31 u32 u33 u34 u35 u36 u37 u38 u39 u40 u41 u42 u43 u44 u45 u46 u47 u48 u49 u50 u51 u52 u53 u54 u55 u56 u57 u58 u59 u60 u61 u62 u63 u64 u65 u66 u67 u68 u69 u70 u71 : Value)
    (hQ : ∀ (g : Nat) (a' : Act) (W' : World), a'.tmps.getD 4 undef = .pointer (some ⟨g, 0, none⟩) → a'.defers = [] → W'.heap[g]? = some (.cells (plainCells (plainOut A B q)) 55 (0, 0)) → Below w.heap.size w W' → Q .ret a' W') :
    Code.wp Tryd.prog (plainTail 2) (plainJumps K Q) ⟨#[.string s, .int .i64 (q : Nat), u2, u3, .pointer (some ⟨g4, 0, none⟩), .pointer (some ⟨g5, 0, none⟩), u6, .int .i64 (p : Nat), u8, u9, u10, u11, u12, u13, u14, u15, u16, u17, u18, u19, u20, u21, u22, u23, u24, u25, u26, u27, u28, u29, u30, u31, u32, u33, u34, u35, u36, u37, u38, u39, u40, u41, u42, u43, u44, u45, u46, u47, u48, u49, u50, u51, u52, u53, u54, u55, u56, u57, u58, u59, u60, u61, u62, u63, u64, u65, u66, u67, u68, u69, u70, u71], []⟩ W := by
  conv => arg 2; whnf
  obtain ⟨hn, hg4, hg5, hb, hc4, hc5⟩ := hw.out
  have hn' := hn.symm
  have HB := M_ hb
  have H4 := M_ hc4
  have H5 := M_ hc5
  clear hb hc4 hc5 hw
  have HQ := M_ hQ
  clear hQ
  have hu := Tryd.underlying55
  have hc50 : W.cell? ⟨g5, 0, none⟩ = some (.bool false) := (blk_cell H5.out 0).trans rfl
  have hc51 : W.cell? ⟨g5, 1, none⟩ = some (.string A) := (blk_cell H5.out 1).trans rfl
  have hc52 : W.cell? ⟨g5, 2, none⟩ = some (.string B) := (blk_cell H5.out 2).trans rfl
  have hc53 : W.cell? ⟨g5, 3, none⟩ = some (.int .i64 0) := (blk_cell H5.out 3).trans rfl
  have hf53 := blk_frozen H5.out 3
  have hc40 : W.cell? ⟨g4, 0, none⟩ = some (.bool false) := (blk_cell H4.out 0).trans rfl
  have hc41 : W.cell? ⟨g4, 1, none⟩ = some (.string ⟨#[]⟩) := (blk_cell H4.out 1).trans rfl
  have hc42 : W.cell? ⟨g4, 2, none⟩ = some (.string ⟨#[]⟩) := (blk_cell H4.out 2).trans rfl
  have hc43 : W.cell? ⟨g4, 3, none⟩ = some (.int .i64 0) := (blk_cell H4.out 3).trans rfl
  have hf40 := blk_frozen H4.out 0
  have hf41 := blk_frozen H4.out 1
  have hf42 := blk_frozen H4.out 2
  have hf43 := blk_frozen H4.out 3
  by_cases hA : A.toList = []
  · have hAb : (A.toList == []) = true := by simpa using hA
    have hAc : A.toList.isEmpty = true := by simp [hA]
    have HA := M_ hA
    clear hA
    by_cases hB : B.toList = []
    · have hBb : (B.toList == []) = true := by simpa using hB
      have hBc : B.toList.isEmpty = true := by simp [hB]
      have HE := M_ (show plainOut A B q = (false, ⟨#[]⟩, ⟨#[]⟩, 0) from if_pos ⟨HA.out, hB⟩)
      clear hB
      go_wp2
      show Q .ret _ _
      refine HQ.out g4 _ _ rfl rfl ?_ (below_set (below_set (below_set (below_set HB.out hg4) hg4) hg4) hg4)
      rw [HE.out]
      exact blk_put (blk_put (blk_put (blk_put H4.out 0 _ rfl) 1 _ rfl) 2 _ rfl) 3 _ rfl
    · have hBb : (B.toList == []) = false := by simpa using hB
      have hBc : B.toList.isEmpty = false := by simpa using hB
      have HE := M_ (show plainOut A B q = (false, A, B, (q : Int)) from if_neg fun hh => hB hh.2)
      clear hB
      go_wp2
      show Q .ret _ _
      refine HQ.out g4 _ _ rfl rfl ?_ (below_set (below_set (below_set (below_set (below_set HB.out hg5) hg4) hg4) hg4) hg4)
      rw [HE.out]
      exact blk_put (blk_put (blk_put (blk_put (blk_far H4.out hn _) 0 _ rfl) 1 _ rfl) 2 _ rfl) 3 _ rfl
  · have hAb : (A.toList == []) = false := by simpa using hA
    have hAc : A.toList.isEmpty = false := by simpa using hA
    have HE := M_ (show plainOut A B q = (false, A, B, (q : Int)) from if_neg fun hh => hA hh.1)
    clear hA
    go_wp2
    show Q .ret _ _
    refine HQ.out g4 _ _ rfl rfl ?_ (below_set (below_set (below_set (below_set (below_set HB.out hg5) hg4) hg4) hg4) hg4)
    rw [HE.out]
    exact blk_put (blk_put (blk_put (blk_put (blk_far H4.out hn _) 0 _ rfl) 1 _ rfl) 2 _ rfl) 3 _ rfl

set_option maxRecDepth 100000 in
set_option maxHeartbeats 4000000 in
theorem plain_pass1 (s : ByteArray) (b : Nat) (w : World) (K : Nat → Act → World → Prop) (Q : Exit → Act → World → Prop) (W : World) (g4 g5 p : Nat) (x : Int) (hs : (s.size : Int) < 9223372036854775807)
    (hx : Hid (p = plainEnd s b ∧ p < s.size ∧ bt s p = 46 ∧ b ≤ p ∧ (p : Int) + 1 ≤ x ∧ x ≤ (s.size : Int) ∧ plainEnd s x.toNat = plainEnd s (p + 1)))
    (hw : Hid (g4 ≠ g5 ∧ w.heap.size ≤ g4 ∧ w.heap.size ≤ g5 ∧ Below w.heap.size w W ∧ W.heap[g4]? = some (.cells #[.bool false, .string ⟨#[]⟩, .string ⟨#[]⟩, .int .i64 0] 55 (0, 0)) ∧ W.heap[g5]? = some (.cells #[.bool false, .string (s.extract b p), .string ⟨#[]⟩, .int .i64 0] 55 (0, 0))))
    (u2 u3 u8 u9 u10 u11 u12 u13 u14 u15 u16 u17 u18 u19 u20 u21 u22 u23 u24 u25 u26 u27 u28 u29 u30 u31 u32 u33 u34 u35 u36 u37 u38 u39 u40 u41 u42 u43 u44 u45 u46 u47 u48 u49 u50 u51 u52 u53 u54 u55 u56 u57 u58 u59 u60 u61 u62 u63 u64 u65 u66 u67 u68 u69 u70 u71 : Value)
    (hK : ∀ l a' w', plainJ s b w l a' w' → plainM s l a' w' < plainM s 1 ⟨#[.string s, .int .i64 x, u2, u3, .pointer (some ⟨g4, 0, none⟩), .pointer (some ⟨g5, 0, none⟩), .int .i64 ((p : Int) + 1), .int .i64 (p : Nat), u8, u9, u10, u11, u12, u13, u14, u15, u16, u17, u18, u19, u20, u21, u22, u23, u24, u25, u26, u27, u28, u29, u30, u31, u32, u33, u34, u35, u36, u37, u38, u39, u40, u41, u42, u43, u44, u45, u46, u47, u48, u49, u50, u51, u52, u53, u54, u55, u56, u57, u58, u59, u60, u61, u62, u63, u64, u65, u66, u67, u68, u69, u70, u71], []⟩ W → K l a' w')
    (hQ : ∀ (g : Nat) (a' : Act) (W' : World), a'.tmps.getD 4 undef = .pointer (some ⟨g, 0, none⟩) → a'.defers = [] → W'.heap[g]? = some (.cells (plainCells (plainF s b)) 55 (0, 0)) → Below w.heap.size w W' → Q .ret a' W') :
    Code.wp Tryd.prog (plainTail 1) (plainJumps K Q) ⟨#[.string s, .int .i64 x, u2, u3, .pointer (some ⟨g4, 0, none⟩), .pointer (some ⟨g5, 0, none⟩), .int .i64 ((p : Int) + 1), .int .i64 (p : Nat), u8, u9, u10, u11, u12, u13, u14, u15, u16, u17, u18, u19, u20, u21, u22, u23, u24, u25, u26, u27, u28, u29, u30, u31, u32, u33, u34, u35, u36, u37, u38, u39, u40, u41, u42, u43, u44, u45, u46, u47, u48, u49, u50, u51, u52, u53, u54, u55, u56, u57, u58, u59, u60, u61, u62, u63, u64, u65, u66, u67, u68, u69, u70, u71], []⟩ W := by
  conv => arg 2; whnf
  obtain ⟨hx1, hx2, hx3, hx4, hx5, hx6, hx7⟩ := hx.out
  have HX1 := M_ hx1
  have HX3 := M_ hx3
  have HX7 := M_ hx7
  clear hx1 hx3 hx7
  obtain ⟨hn, hg4, hg5, hb, hc4, hc5⟩ := hw.out
  have HB := M_ hb
  have H4 := M_ hc4
  have H5 := M_ hc5
  clear hb hc4 hc5 hx hw
  have HK := M_ hK
  have HQ := M_ hQ
  clear hK hQ
  have hc50 : W.cell? ⟨g5, 2, none⟩ = some (.string ⟨#[]⟩) := (blk_cell H5.out 2).trans rfl
  have hf50 := blk_frozen H5.out 2
  have hx0 : 0 ≤ x := by omega
  have hp0 : 0 ≤ (p : Int) + 1 := by omega
  have hp1 : ((p : Int) + 1).toNat = p + 1 := by omega
  by_cases hlt : x < (s.size : Int)
  · by_cases hd : plainDig (bt s x) = true
    · have A1 := M_ (plainDig_at hd)
      have HD := M_ hd
      clear hd
      have hbx := bt_at s x
      have p1 := eq_true hx0
      have q1 := eq_true hlt
      go_wp2_with (go_at_call 68; (with_reducible refine (n_digit.calls (bt s x) true _ A1.out).mono ?_); rintro e w' ⟨rfl, ⟨nd, rfl⟩⟩)
      go_step3
      refine HK.out 1 _ _ ⟨g4, g5, p, x + 1, ⟨HX1.out, hx2, HX3.out, hx4, by omega, by omega, ?_⟩, ⟨hn, hg4, hg5, pw_below_drewN HB.out _, blk_drewN H4.out _, blk_drewN H5.out _⟩, _, _, _, _, _, _, _, _, _, _, _, _, _, _, _, _, _, _, _, _, _, _, _, _, _, _, _, _, _, _, _, _, _, _, _, _, _, _, _, _, _, _, _, _, _, _, _, _, _, _, _, _, _, _, _, _, _, _, _, _, _, _, _, _, _, _, rfl⟩ ?_
      · rw [show (x + 1).toNat = x.toNat + 1 from by omega, ← plainEnd_yes (by omega) (by rw [show ((x.toNat : Nat) : Int) = x from by omega]; exact HD.out)]
        exact HX7.out
      · show (2 - 1) * (s.size + 1) + (s.size - (x + 1).toNat) < (2 - 1) * (s.size + 1) + (s.size - x.toNat)
        omega
    · have A1 := M_ (plainDig_at (d := false) (by simpa using hd))
      obtain ⟨q, rfl⟩ := Int.eq_ofNat_of_zero_le hx0
      have HP := M_ (show q = plainEnd s (p + 1) from by rw [← HX7.out, Int.toNat_natCast, plainEnd_no (fun hh => hd hh.2)])
      clear hd
      have hbx2 : ∀ h : q < s.size, ((s[q]'h).toNat : Int) = bt s (q : Int) := bt_at s (q : Int)
      have p1 := eq_true hx0
      have q1 := eq_true hlt
      have hsp : q < s.size := by omega
      have hpq : (p : Int) + 1 ≤ (q : Int) := by omega
      have HF := M_ (show plainF s b = plainOut (s.extract b p) (s.extract (p + 1) q) q from by unfold plainF plainOut; rw [← HX1.out, if_pos ⟨hx2, HX3.out⟩, ← HP.out])
      go_wp2_with (go_at_call 68; (with_reducible refine (n_digit.calls (bt s (q : Int)) false _ A1.out).mono ?_); rintro e w' ⟨rfl, ⟨nd, rfl⟩⟩)
      go_step3
      show (_ : Act → World → Prop) _ _
      refine (by assumption : ∀ (a_ : Act) (w_ : World), Code.wp Tryd.prog _ (plainJumps K Q) a_ w_ → _) _ _ ?_
      refine plain_pass2 w K Q _ g4 g5 p q s (s.extract b p) (s.extract (p + 1) q) (by omega) (by omega) ⟨hn, hg4, hg5, below_set (pw_below_drewN HB.out _) hg5, blk_far (blk_drewN H4.out _) hn _, blk_put (blk_drewN H5.out _) 2 _ rfl⟩ _ _ _ _ _ _ _ _ _ _ _ _ _ _ _ _ _ _ _ _ _ _ _ _ _ _ _ _ _ _ _ _ _ _ _ _ _ _ _ _ _ _ _ _ _ _ _ _ _ _ _ _ _ _ _ _ _ _ _ _ _ _ _ _ _ _ _ ?_
      intro g a' W' e1 e2 e3 e4
      exact HQ.out g a' W' e1 e2 (by rw [HF.out]; exact e3) e4
  · obtain ⟨q, rfl⟩ := Int.eq_ofNat_of_zero_le hx0
    have HP := M_ (show q = plainEnd s (p + 1) from by rw [← HX7.out, Int.toNat_natCast, plainEnd_no (fun hh => hlt (by omega))])
    have hpq : (p : Int) + 1 ≤ (q : Int) := by omega
    have HF := M_ (show plainF s b = plainOut (s.extract b p) (s.extract (p + 1) q) q from by unfold plainF plainOut; rw [← HX1.out, if_pos ⟨hx2, HX3.out⟩, ← HP.out])
    go_wp2
    go_step3
    show (_ : Act → World → Prop) _ _
    refine (by assumption : ∀ (a_ : Act) (w_ : World), Code.wp Tryd.prog _ (plainJumps K Q) a_ w_ → _) _ _ ?_
    refine plain_pass2 w K Q _ g4 g5 p q s (s.extract b p) (s.extract (p + 1) q) (by omega) (by omega) ⟨hn, hg4, hg5, below_set HB.out hg5, blk_far H4.out hn _, blk_put H5.out 2 _ rfl⟩ _ _ _ _ _ _ _ _ _ _ _ _ _ _ _ _ _ _ _ _ _ _ _ _ _ _ _ _ _ _ _ _ _ _ _ _ _ _ _ _ _ _ _ _ _ _ _ _ _ _ _ _ _ _ _ _ _ _ _ _ _ _ _ _ _ _ _ ?_
    intro g a' W' e1 e2 e3 e4
    exact HQ.out g a' W' e1 e2 (by rw [HF.out]; exact e3) e4

set_option maxRecDepth 100000 in
set_option maxHeartbeats 4000000 in
theorem n_plain.calls (a0 : ByteArray) (a1 : Int) (r1 : Bool) (r2 : ByteArray) (r3 : ByteArray) (r4 : Int) (w : World) (h : n_plain.f a0 a1 = some (r1, r2, r3, r4)) :
    Calls Tryd.prog 36 #[.string a0,.int .i64 a1] w fun e w' => e=.returned (.agg #[.bool r1,.string r2,.string r3,.int .i64 r4])∧Below w.heap.size w w':=by
  unfold n_plain.f at h
  split at h
  · rename_i hh
    obtain ⟨h0,h1,h2⟩:=hh;obtain ⟨b,rfl⟩:=Int.eq_ofNat_of_zero_le h0;rw [Int.toNat_natCast] at h;have HR:=M_ (Option.some.inj h);clear h;have hu:=Tryd.underlying55;have hQ : ∀ (g:Nat) (a' : Act) (W' : World),a'.tmps.getD 4 undef=.pointer (some ⟨g,0,none⟩)→a'.defers=[]→W'.heap[g]?=some (.cells (plainCells (plainF a0 b)) 55 (0,0))→Below w.heap.size w W'→
        bodyPost Tryd.prog Tryd.f36 (fun e w' => e=.returned (.agg #[.bool r1,.string r2,.string r3,.int .i64 r4])∧Below w.heap.size w w') .ret a' W':=by
      intro g a' W' e1 e2 e3 e4
      rw [HR.out] at e3;refine bodyPost_ret (results_cell_row rfl _ _ g 55 (plainCells (r1,r2,r3,r4)) (0,0) _ e1 e3 hu rfl (by kernel_rfl)) e2 ⟨rfl,e4⟩
    have HQ:=M_ hQ;clear hQ;have HB:=M_ (Below.refl w.heap.size w)
    go_enter Tryd.func36,Tryd.ntmps36
    go_wp2;refine plain_scope (plainJ a0 b w) (plainM a0) plainJ_label rfl rfl rfl ?_ ?_ ?_ ?_
    · go_wp2_with fail
      go_step3
      show (_:Act→World→Prop) _ _
      refine (by assumption : ∀ (a_:Act) (w_:World),Code.wp Tryd.prog _ (plainJumps _ _) a_ w_→_) _ _ ?_;refine plain_pass0 a0 b w _ _ _ w.heap.size (w.heap.size+1) (b:Int) h2 ⟨Int.le_refl _,h1,rfl⟩ ⟨by omega,Nat.le_refl _,by omega,?_,?_,?_⟩ _ _ _ _ _ _ _ _ _ _ _ _ _ _ _ _ _ _ _ _ _ _ _ _ _ _ _ _ _ _ _ _ _ _ _ _ _ _ _ _ _ _ _ _ _ _ _ _ _ _ _ _ _ _ _ _ _ _ _ _ _ _ _ _ _ _ (fun l a' w' h _ => h)
      · exact ((Below.refl _ _).alloc (Nat.le_refl _) _).alloc (by simp) _
      · exact (Below.heap_alloc _ _ _ (by simp)).trans (blk_new w _)
      · have:=blk_new (w.alloc (.cells #[.bool false,.string ⟨#[]⟩,.string ⟨#[]⟩,.int .i64 0] 55 (0,0))) (.cells #[.bool false,.string ⟨#[]⟩,.string ⟨#[]⟩,.int .i64 0] 55 (0,0))
        rwa [World.size_alloc] at this
    · rintro a W ⟨g4,g5,x,hx,hw,u2,u3,u8,u9,u10,u11,u12,u13,u14,u15,u16,u17,u18,u19,u20,u21,u22,u23,u24,u25,u26,u27,u28,u29,u30,u31,u32,u33,u34,u35,u36,u37,u38,u39,u40,u41,u42,u43,u44,u45,u46,u47,u48,u49,u50,u51,u52,u53,u54,u55,u56,u57,u58,u59,u60,u61,u62,u63,u64,u65,u66,u67,u68,u69,u70,u71,rfl⟩
      refine wp_seq (wp_skip ?_);exact plain_pass0 a0 b w _ _ W g4 g5 x h2 hx hw u2 u3 u8 u9 u10 u11 u12 u13 u14 u15 u16 u17 u18 u19 u20 u21 u22 u23 u24 u25 u26 u27 u28 u29 u30 u31 u32 u33 u34 u35 u36 u37 u38 u39 u40 u41 u42 u43 u44 u45 u46 u47 u48 u49 u50 u51 u52 u53 u54 u55 u56 u57 u58 u59 u60 u61 u62 u63 u64 u65 u66 u67 u68 u69 u70 u71 (fun l a' w' h1 h2 => ⟨h1,h2⟩)
    · rintro a W ⟨g4,g5,p,x,hx,hw,u2,u3,u8,u9,u10,u11,u12,u13,u14,u15,u16,u17,u18,u19,u20,u21,u22,u23,u24,u25,u26,u27,u28,u29,u30,u31,u32,u33,u34,u35,u36,u37,u38,u39,u40,u41,u42,u43,u44,u45,u46,u47,u48,u49,u50,u51,u52,u53,u54,u55,u56,u57,u58,u59,u60,u61,u62,u63,u64,u65,u66,u67,u68,u69,u70,u71,rfl⟩
      refine wp_seq (wp_skip ?_);exact plain_pass1 a0 b w _ _ W g4 g5 p x h2 hx hw u2 u3 u8 u9 u10 u11 u12 u13 u14 u15 u16 u17 u18 u19 u20 u21 u22 u23 u24 u25 u26 u27 u28 u29 u30 u31 u32 u33 u34 u35 u36 u37 u38 u39 u40 u41 u42 u43 u44 u45 u46 u47 u48 u49 u50 u51 u52 u53 u54 u55 u56 u57 u58 u59 u60 u61 u62 u63 u64 u65 u66 u67 u68 u69 u70 u71 (fun l a' w' h1 h2 => ⟨h1,h2⟩) HQ.out
    · rintro a W ⟨g4,g5,p,hx,hw,u2,u3,u8,u9,u10,u11,u12,u13,u14,u15,u16,u17,u18,u19,u20,u21,u22,u23,u24,u25,u26,u27,u28,u29,u30,u31,u32,u33,u34,u35,u36,u37,u38,u39,u40,u41,u42,u43,u44,u45,u46,u47,u48,u49,u50,u51,u52,u53,u54,u55,u56,u57,u58,u59,u60,u61,u62,u63,u64,u65,u66,u67,u68,u69,u70,u71,rfl⟩
      obtain ⟨x1,x2,x3,x4⟩:=hx.out;refine wp_seq (wp_skip ?_);refine plain_pass2 w _ _ W g4 g5 p p a0 (a0.extract b p) ⟨#[]⟩ (Nat.le_refl _) (by omega) hw _ u2 u3 u8 u9 u10 u11 u12 u13 u14 u15 u16 u17 u18 u19 u20 u21 u22 u23 u24 u25 u26 u27 u28 u29 u30 u31 u32 u33 u34 u35 u36 u37 u38 u39 u40 u41 u42 u43 u44 u45 u46 u47 u48 u49 u50 u51 u52 u53 u54 u55 u56 u57 u58 u59 u60 u61 u62 u63 u64 u65 u66 u67 u68 u69 u70 u71 ?_
      intro g a' W' e1 e2 e3 e4
      refine HQ.out g a' W' e1 e2 ?_ e4;rw [show plainF a0 b=plainOut (a0.extract b p) ⟨#[]⟩ p from by unfold plainF plainOut;rw [← x1,if_neg x2];simp];exact e3
  · cases h

set_option maxHeartbeats 8000000
set_option maxRecDepth 100000

def n_begins.l0:Nat→ByteArray→Int→ByteArray→Int→Int→Option (Bool)
 | 0,_,_,_,_,_ => none
 | k+1,x0,x1,x2,x16,x17 => if x17 < x16 then (if 0≤(wrap64 (x1+x17)) then (if (wrap64 (x1+x17)) < (x0.size:Int) then (if 0≤x17 then (if x17 < (x2.size:Int) then (if (Go.bits .or .u8 (bt x0 (wrap64 (x1+x17))) 32)=(bt x2 x17) then (if (bt x0 (wrap64 (x1+x17))) < 65 then (some false) else (n_begins.l0 k x0 x1 x2 x16 (wrap64 (x17+1)))) else (some false)) else (none)) else (none)) else (none)) else (none)) else (some true)
def n_begins.f (k:Nat) (a0:ByteArray) (a1:Int) (a2:ByteArray):Option (Bool):=if (wrap64 ((a0.size:Int) - a1)) < (a2.size:Int) then (some false) else (n_begins.l0 k a0 a1 a2 (a2.size:Int) 0)
theorem n_begins.calls (k : Nat) (a0 : ByteArray) (a1 : Int) (a2 : ByteArray) (r : Bool) (w : World) (h : n_begins.f k a0 a1 a2 = some r) :
  Calls Tryd.prog 35 #[.string a0,.int .i64 a1,.string a2] w fun e w' => e=.returned (.bool r)∧Drawn0 w w':=by
 have H:(if (wrap64 ((a0.size:Int) - a1)) < (a2.size:Int) then (some false) else (n_begins.l0 k a0 a1 a2 (a2.size:Int) 0))=some r:=h;clear h
 by_cases c4:(wrap64 ((a0.size:Int) - a1)) < (a2.size:Int)
 ·rw [if_pos c4] at H;have c4b0:=dT_ c4;clear c4;obtain rfl:=Option.some.inj H
  go_enter Tryd.func35,Tryd.ntmps35
  go_wp2
  repeat (go_quiet (fail);try go_wp2)
  go_ret;exact ⟨qnc1_,qnc4_⟩
 ·rw [if_neg c4] at H;have c4b0:=dF_ c4;clear c4;have H':=M_ H;clear H
  go_enter Tryd.func35,Tryd.ntmps35
  go_wp2
  repeat (go_quiet (fail);try go_wp2)
  go_loopg [17] k (fun kq v17 w' => ∃ (x17_1:Int),v17=.int .i64 x17_1∧Aside0 (n_begins.l0 kq a0 a1 a2 (a2.size:Int) x17_1=some r)∧Aside0 (kq≤k)∧Drawn0 w w')
  case atStart => exact ⟨(0),qnc1_,H',⟨Nat.le_refl _⟩,qnc4_⟩
  case round =>
   clear H'
   (try clear c4);(try clear c4b0)
   obtain ⟨x17_1,rfl,HA,HK1,⟨m1,rfl⟩⟩:=hrel
   cases gk with
   | zero => exact absurd HA.out (by simp [n_begins.l0])
   | succ k1 =>
    have H:=HA.out;clear HA;simp only [n_begins.l0] at H
    by_cases c5:x17_1 < (a2.size:Int)
    ·rw [if_pos c5] at H;have c5b0:=dT_ c5;clear c5;obtain ⟨ji6,hji6⟩ : ∃ j_:Int,(wrap64 (a1+x17_1))=j_:=⟨_,rfl⟩;replace H:(if 0≤(ji6) then (if (ji6) < (a0.size:Int) then (if 0≤x17_1 then (if x17_1 < (a2.size:Int) then (if (Go.bits .or .u8 (bt a0 (ji6)) 32)=(bt a2 x17_1) then (if (bt a0 (ji6)) < 65 then (some false) else (n_begins.l0 k1 a0 a1 a2 (a2.size:Int) (wrap64 (x17_1+1)))) else (some false)) else (none)) else (none)) else (none)) else (none))=some r:=by first|(rw [hji6] at H;exact H)|(simp only [hji6] at H ⊢;exact H)
     have hji6w:(IntKind.i64.wrap (a1+x17_1))=ji6:=(i64_w _).trans hji6
     by_cases c7:0≤(ji6)
     ·rw [if_pos c7] at H;have c7b0:=dT_ c7;clear c7
      by_cases c8:(ji6) < (a0.size:Int)
      ·rw [if_pos c8] at H;have c8b0:=dT_ c8;clear c8
       by_cases c10:0≤x17_1
       ·rw [if_pos c10] at H;have c10b0:=dT_ c10;clear c10
        by_cases c11:x17_1 < (a2.size:Int)
        ·rw [if_pos c11] at H;have c11b0:=dT_ c11;clear c11
         by_cases c13:(Go.bits .or .u8 (bt a0 (ji6)) 32)=(bt a2 x17_1)
         ·rw [if_pos c13] at H;have c13b0:((Go.bits .or .u8 (bt a0 (ji6)) 32) == (bt a2 x17_1))=true:=beq_iff_eq.mpr c13;have c13b1:((Go.bits .or .u8 (bt a0 (ji6)) 32) != (bt a2 x17_1))=false:=nF_ c13;clear c13
          by_cases c15:(bt a0 (ji6)) < 65
          ·rw [if_pos c15] at H;have c15b0:=dT_ c15;clear c15;obtain rfl:=Option.some.inj H;have p9:0≤((ji6):Int):=oD_ qnc3_;have q9:(ji6) < (a0.size:Int):=oD_ qnc3_;have hx9:=bt_at a0 (ji6);replace p9:=eq_true p9;replace q9:=eq_true q9;have p12:0≤(x17_1:Int):=oD_ qnc3_;have q12:x17_1 < (a2.size:Int):=oD_ qnc3_;have hx12:=bt_at a2 x17_1;replace p12:=eq_true p12;replace q12:=eq_true q12;have p14:0≤((ji6):Int):=oD_ qnc3_;have q14:(ji6) < (a0.size:Int):=oD_ qnc3_;have hx14:=bt_at a0 (ji6);replace p14:=eq_true p14;replace q14:=eq_true q14;go_wp2
           repeat (go_quiet (fail);try go_wp2)
           go_ret;exact ⟨qnc86_,qnc4_⟩
          ·rw [if_neg c15] at H;have c15b0:=dF_ c15;clear c15;have H':=M_ H;clear H;have p9:0≤((ji6):Int):=oD_ qnc3_;have q9:(ji6) < (a0.size:Int):=oD_ qnc3_;have hx9:=bt_at a0 (ji6);replace p9:=eq_true p9;replace q9:=eq_true q9;have p12:0≤(x17_1:Int):=oD_ qnc3_;have q12:x17_1 < (a2.size:Int):=oD_ qnc3_;have hx12:=bt_at a2 x17_1;replace p12:=eq_true p12;replace q12:=eq_true q12;have p14:0≤((ji6):Int):=oD_ qnc3_;have q14:(ji6) < (a0.size:Int):=oD_ qnc3_;have hx14:=bt_at a0 (ji6);replace p14:=eq_true p14;replace q14:=eq_true q14;go_wp2
           repeat (go_quiet (fail);try go_wp2)
           go_roundg k1
           case measure => have:=HK1.out;omega
           case rel => exact ⟨(wrap64 (x17_1+1)),qnc1_,H',⟨by have:=HK1.out;omega⟩,qnc4_⟩
         ·rw [if_neg c13] at H;have c13b0:((Go.bits .or .u8 (bt a0 (ji6)) 32) == (bt a2 x17_1))=false:=bF_ c13;have c13b1:((Go.bits .or .u8 (bt a0 (ji6)) 32) != (bt a2 x17_1))=true:=bne_iff_ne.mpr c13;obtain rfl:=Option.some.inj H;have p9:0≤((ji6):Int):=oD_ qnc3_;have q9:(ji6) < (a0.size:Int):=oD_ qnc3_;have hx9:=bt_at a0 (ji6);replace p9:=eq_true p9;replace q9:=eq_true q9;have p12:0≤(x17_1:Int):=oD_ qnc3_;have q12:x17_1 < (a2.size:Int):=oD_ qnc3_;have hx12:=bt_at a2 x17_1;replace p12:=eq_true p12;replace q12:=eq_true q12;go_wp2
          repeat (go_quiet (fail);try go_wp2)
          go_ret;exact ⟨qnc86_,qnc4_⟩
        ·rw [if_neg c11] at H;exact absurd H (by simp)
       ·rw [if_neg c10] at H;exact absurd H (by simp)
      ·rw [if_neg c8] at H;exact absurd H (by simp)
     ·rw [if_neg c7] at H;exact absurd H (by simp)
    ·rw [if_neg c5] at H;have c5b0:=dF_ c5;clear c5;obtain rfl:=Option.some.inj H;go_wp2
     repeat (go_quiet (fail);try go_wp2)
     go_ret;exact ⟨qnc1_,qnc4_⟩

set_option maxHeartbeats 8000000
set_option maxRecDepth 100000

def n_exponent.l0:Nat→ByteArray→Int→Int→Int→Int→Option (Int × Int)
 | 0,_,_,_,_,_ => none
 | k+1,x0,x1,x6,x7,x8 => if x1 < (x0.size:Int) then (if 0≤x1 then ((n_digit.f (bt x0 x1)).bind fun t140 => (if t140=true then (n_exponent.l0 k x0 (wrap64 (x1+1)) (wrap64 (x1+1)) x7 (mn (wrap64 ((wrap64 (x8 * 10))+(((bt x0 x1) - 48) % 256))) 1099511627776)) else (some (wrap64 (x7 * x8),x6)))) else (none)) else (some (wrap64 (x7 * x8),x6))
def n_exponent.f (k:Nat) (a0:ByteArray) (a1:Int):Option (Int × Int):=if a1=(a0.size:Int) then (some (0,a1)) else (if 0≤a1 then (if a1 < (a0.size:Int) then (if (Go.bits .or .u8 (bt a0 a1) 32)=101 then (if (wrap64 (a1+1)) < (a0.size:Int) then (if 0≤(wrap64 (a1+1)) then (if (bt a0 (wrap64 (a1+1)))=45 then (n_exponent.l0 k a0 (wrap64 ((wrap64 (a1+1))+1)) a1 (-1) 0) else (if (bt a0 (wrap64 (a1+1)))=43 then (n_exponent.l0 k a0 (wrap64 ((wrap64 (a1+1))+1)) a1 1 0) else (n_exponent.l0 k a0 (wrap64 (a1+1)) a1 1 0))) else (none)) else (n_exponent.l0 k a0 (wrap64 (a1+1)) a1 1 0)) else (some (0,a1))) else (none)) else (none))
theorem n_exponent.calls (k : Nat) (a0 : ByteArray) (a1 : Int) (r1 : Int) (r2 : Int) (w : World) (h : n_exponent.f k a0 a1 = some (r1, r2)) :
  Calls Tryd.prog 37 #[.string a0,.int .i64 a1] w fun e w' => e=.returned (.tuple #[.int .i64 r1,.int .i64 r2])∧Below w.heap.size w w':=by
 have HB:=M_ (Below.refl w.heap.size w);have H:(if a1=(a0.size:Int) then (some (0,a1)) else (if 0≤a1 then (if a1 < (a0.size:Int) then (if (Go.bits .or .u8 (bt a0 a1) 32)=101 then (if (wrap64 (a1+1)) < (a0.size:Int) then (if 0≤(wrap64 (a1+1)) then (if (bt a0 (wrap64 (a1+1)))=45 then (n_exponent.l0 k a0 (wrap64 ((wrap64 (a1+1))+1)) a1 (-1) 0) else (if (bt a0 (wrap64 (a1+1)))=43 then (n_exponent.l0 k a0 (wrap64 ((wrap64 (a1+1))+1)) a1 1 0) else (n_exponent.l0 k a0 (wrap64 (a1+1)) a1 1 0))) else (none)) else (n_exponent.l0 k a0 (wrap64 (a1+1)) a1 1 0)) else (some (0,a1))) else (none)) else (none)))=some (r1,r2):=h;clear h
 by_cases c3:a1=(a0.size:Int)
 ·rw [if_pos c3] at H;have c3b0:(a1 == (a0.size:Int))=true:=beq_iff_eq.mpr c3;have c3b1:(a1 != (a0.size:Int))=false:=nF_ c3;clear c3;simp only [Option.some.injEq,Prod.mk.injEq] at H;obtain ⟨rfl,rfl⟩:=H
  go_enter Tryd.func37,Tryd.ntmps37
  go_wp2
  go_ret2
  exact ⟨qnc5_,qnc2_⟩
 ·rw [if_neg c3] at H;have c3b0:(a1 == (a0.size:Int))=false:=bF_ c3;have c3b1:(a1 != (a0.size:Int))=true:=bne_iff_ne.mpr c3
  by_cases c4:0≤a1
  ·rw [if_pos c4] at H;have c4b0:=dT_ c4;clear c4
   by_cases c5:a1 < (a0.size:Int)
   ·rw [if_pos c5] at H;have c5b0:=dT_ c5;clear c5
    by_cases c7:(Go.bits .or .u8 (bt a0 a1) 32)=101
    ·rw [if_pos c7] at H;have c7b0:((Go.bits .or .u8 (bt a0 a1) 32) == 101)=true:=beq_iff_eq.mpr c7;have c7b1:((Go.bits .or .u8 (bt a0 a1) 32) != 101)=false:=nF_ c7;clear c7
     by_cases c8:(wrap64 (a1+1)) < (a0.size:Int)
     ·rw [if_pos c8] at H;have c8b0:=dT_ c8;clear c8;obtain ⟨ji9,hji9⟩ : ∃ j_:Int,(wrap64 (a1+1))=j_:=⟨_,rfl⟩;replace H:(if 0≤(ji9) then (if (bt a0 (ji9))=45 then (n_exponent.l0 k a0 (wrap64 ((ji9)+1)) a1 (-1) 0) else (if (bt a0 (ji9))=43 then (n_exponent.l0 k a0 (wrap64 ((ji9)+1)) a1 1 0) else (n_exponent.l0 k a0 ji9 a1 1 0))) else (none))=some (r1,r2):=by first|(rw [hji9] at H;exact H)|(simp only [hji9] at H ⊢;exact H)
      (try rw [hji9] at c8b0)
      have hji9w:(IntKind.i64.wrap (a1+1))=ji9:=(i64_w _).trans hji9
      by_cases c10:0≤(ji9)
      ·rw [if_pos c10] at H;have c10b0:=dT_ c10;clear c10
       by_cases c12:(bt a0 (ji9))=45
       ·rw [if_pos c12] at H;have c12b0:((bt a0 (ji9)) == 45)=true:=beq_iff_eq.mpr c12;have c12b1:((bt a0 (ji9)) != 45)=false:=nF_ c12;clear c12;have H':=M_ H;clear H;have p6:0≤(a1:Int):=oD_ qnc3_;have q6:a1 < (a0.size:Int):=oD_ qnc3_;have hx6:=bt_at a0 a1;replace p6:=eq_true p6;replace q6:=eq_true q6;have p11:0≤((ji9):Int):=oD_ qnc3_;have q11:(ji9) < (a0.size:Int):=oD_ qnc3_;have hx11:=bt_at a0 (ji9);replace p11:=eq_true p11;replace q11:=eq_true q11;have p13:0≤((ji9):Int):=oD_ qnc3_;have q13:(ji9) < (a0.size:Int):=oD_ qnc3_;have hx13:=bt_at a0 (ji9);replace p13:=eq_true p13;replace q13:=eq_true q13
        go_enter Tryd.func37,Tryd.ntmps37
        go_wp2
        go_loopg [1,6,8] k (fun kq v1 v6 v8 w' => ∃ (x1_1:Int) (x6_1:Int) (x8_1:Int),v1=.int .i64 x1_1∧v6=.int .i64 x6_1∧v8=.int .i64 x8_1∧Aside0 (n_exponent.l0 kq a0 x1_1 x6_1 (-1) x8_1=some (r1,r2))∧Aside0 (kq≤k)∧Aside0 (Below w.heap.size w w'))
        case atStart => exact ⟨(wrap64 ((ji9)+1)),(a1),(0),qnc85_,qnc1_,qnc1_,H',⟨Nat.le_refl _⟩,⟨qnc2_⟩⟩
        case round =>
         clear H'
         (try clear c3);(try clear c3b0);(try clear c3b1);(try clear c4);(try clear c4b0);(try clear c5);(try clear c5b0);(try clear p6);(try clear q6);(try clear hx6);(try clear c7);(try clear c7b0);(try clear c7b1);(try clear c8);(try clear c8b0);(try clear c10);(try clear c10b0);(try clear p11);(try clear q11);(try clear hx11);(try clear c12);(try clear c12b0);(try clear c12b1);(try clear p13);(try clear q13);(try clear hx13)
         obtain ⟨x1_1,x6_1,x8_1,rfl,rfl,rfl,HA,HK1,HB⟩:=hrel
         cases gk with
         | zero => exact absurd HA.out (by simp [n_exponent.l0])
         | succ k1 =>
          have H:=HA.out;clear HA;simp only [n_exponent.l0] at H
          by_cases c14:x1_1 < (a0.size:Int)
          ·rw [if_pos c14] at H;have c14b0:=dT_ c14;clear c14
           by_cases c15:0≤x1_1
           ·rw [if_pos c15] at H;have c15b0:=dT_ c15;clear c15;obtain ⟨t140,A17,H⟩:=ob_ H
            by_cases c18:t140=true
            ·subst c18;rw [if_pos rfl] at H;obtain ⟨ji20,hji20⟩ : ∃ j_:Int,(mn (wrap64 ((wrap64 (x8_1 * 10))+(((bt a0 x1_1) - 48) % 256))) 1099511627776)=j_:=⟨_,rfl⟩;replace H:(n_exponent.l0 k1 a0 (wrap64 (x1_1+1)) (wrap64 (x1_1+1)) (-1) ji20)=some (r1,r2):=by first|(rw [hji20] at H;exact H)|(simp only [hji20] at H ⊢;exact H)
             (try rw [hji20] at A17)
             have hji20_:(if 1099511627776 < (wrap64 ((wrap64 (x8_1 * 10))+(((bt a0 x1_1) - 48) % 256))) then 1099511627776 else (wrap64 ((wrap64 (x8_1 * 10))+(((bt a0 x1_1) - 48) % 256))))=ji20:=hji20;have H':=M_ H;clear H;have p16:0≤(x1_1:Int):=oD_ qnc3_;have q16:x1_1 < (a0.size:Int):=oD_ qnc3_;have hx16:=bt_at a0 x1_1;replace p16:=eq_true p16;replace q16:=eq_true q16
             go_wp2_with (first|(go_at_call 68;(with_reducible refine (n_digit.calls (bt a0 x1_1) true _ A17.out).mono ?_);rintro e w' ⟨rfl,⟨nd,rfl⟩⟩;have p19:0≤(x1_1:Int):=oD_ qnc3_;have q19:x1_1 < (a0.size:Int):=oD_ qnc3_;have hx19:=bt_at a0 x1_1;replace p19:=eq_true p19;replace q19:=eq_true q19))
             go_roundg k1
             case measure => have:=HK1.out;omega
             case rel => exact ⟨(wrap64 (x1_1+1)),(wrap64 (x1_1+1)),(ji20),qnc1_,qnc1_,(by first|rfl|(simp;done)|(simp only [← hji20] <;> (first|rfl|simp);done)|(simp [*];done)|(simp;simp only [eq_iff_iff,iff_true] at *;omega)|(exfalso;simp_all;done)),H',⟨by have:=HK1.out;omega⟩,⟨qnc2_⟩⟩
            ·replace c18:=Bool.eq_false_iff.mpr c18;subst c18;rw [if_neg (show ¬ (false=true) by decide)] at H;simp only [Option.some.injEq,Prod.mk.injEq] at H;obtain ⟨rfl,rfl⟩:=H;have p16:0≤(x1_1:Int):=oD_ qnc3_;have q16:x1_1 < (a0.size:Int):=oD_ qnc3_;have hx16:=bt_at a0 x1_1;replace p16:=eq_true p16;replace q16:=eq_true q16
             go_wp2_with (first|(go_at_call 68;(with_reducible refine (n_digit.calls (bt a0 x1_1) false _ A17.out).mono ?_);rintro e w' ⟨rfl,⟨nd,rfl⟩⟩))
             go_ret2
             exact ⟨qnc54_,qnc2_⟩
           ·rw [if_neg c15] at H;exact absurd H (by simp)
          ·rw [if_neg c14] at H;have c14b0:=dF_ c14;clear c14;simp only [Option.some.injEq,Prod.mk.injEq] at H;obtain ⟨rfl,rfl⟩:=H;go_wp2
           go_ret2
           exact ⟨qnc54_,qnc2_⟩
       ·rw [if_neg c12] at H;have c12b0:((bt a0 (ji9)) == 45)=false:=bF_ c12;have c12b1:((bt a0 (ji9)) != 45)=true:=bne_iff_ne.mpr c12
        by_cases c22:(bt a0 (ji9))=43
        ·rw [if_pos c22] at H;have c22b0:((bt a0 (ji9)) == 43)=true:=beq_iff_eq.mpr c22;have c22b1:((bt a0 (ji9)) != 43)=false:=nF_ c22;clear c22;have H':=M_ H;clear H;have p6:0≤(a1:Int):=oD_ qnc3_;have q6:a1 < (a0.size:Int):=oD_ qnc3_;have hx6:=bt_at a0 a1;replace p6:=eq_true p6;replace q6:=eq_true q6;have p11:0≤((ji9):Int):=oD_ qnc3_;have q11:(ji9) < (a0.size:Int):=oD_ qnc3_;have hx11:=bt_at a0 (ji9);replace p11:=eq_true p11;replace q11:=eq_true q11;have p21:0≤((ji9):Int):=oD_ qnc3_;have q21:(ji9) < (a0.size:Int):=oD_ qnc3_;have hx21:=bt_at a0 (ji9);replace p21:=eq_true p21;replace q21:=eq_true q21;have p23:0≤((ji9):Int):=oD_ qnc3_;have q23:(ji9) < (a0.size:Int):=oD_ qnc3_;have hx23:=bt_at a0 (ji9);replace p23:=eq_true p23;replace q23:=eq_true q23
         go_enter Tryd.func37,Tryd.ntmps37
         go_wp2
         go_loopg [1,6,8] k (fun kq v1 v6 v8 w' => ∃ (x1_1:Int) (x6_1:Int) (x8_1:Int),v1=.int .i64 x1_1∧v6=.int .i64 x6_1∧v8=.int .i64 x8_1∧Aside0 (n_exponent.l0 kq a0 x1_1 x6_1 1 x8_1=some (r1,r2))∧Aside0 (kq≤k)∧Aside0 (Below w.heap.size w w'))
         case atStart => exact ⟨(wrap64 ((ji9)+1)),(a1),(0),qnc85_,qnc1_,qnc1_,H',⟨Nat.le_refl _⟩,⟨qnc2_⟩⟩
         case round =>
          clear H'
          (try clear c3);(try clear c3b0);(try clear c3b1);(try clear c4);(try clear c4b0);(try clear c5);(try clear c5b0);(try clear p6);(try clear q6);(try clear hx6);(try clear c7);(try clear c7b0);(try clear c7b1);(try clear c8);(try clear c8b0);(try clear c10);(try clear c10b0);(try clear p11);(try clear q11);(try clear hx11);(try clear c12);(try clear c12b0);(try clear c12b1);(try clear p13);(try clear q13);(try clear hx13);(try clear c14);(try clear c14b0);(try clear c15);(try clear c15b0);(try clear p16);(try clear q16);(try clear hx16);(try clear c18);(try clear p19);(try clear q19);(try clear hx19);(try clear p21);(try clear q21);(try clear hx21);(try clear c22);(try clear c22b0);(try clear c22b1);(try clear p23);(try clear q23);(try clear hx23)
          obtain ⟨x1_1,x6_1,x8_1,rfl,rfl,rfl,HA,HK1,HB⟩:=hrel
          cases gk with
          | zero => exact absurd HA.out (by simp [n_exponent.l0])
          | succ k1 =>
           have H:=HA.out;clear HA;simp only [n_exponent.l0] at H
           by_cases c24:x1_1 < (a0.size:Int)
           ·rw [if_pos c24] at H;have c24b0:=dT_ c24;clear c24
            by_cases c25:0≤x1_1
            ·rw [if_pos c25] at H;have c25b0:=dT_ c25;clear c25;obtain ⟨t140,A27,H⟩:=ob_ H
             by_cases c28:t140=true
             ·subst c28;rw [if_pos rfl] at H;obtain ⟨ji30,hji30⟩ : ∃ j_:Int,(mn (wrap64 ((wrap64 (x8_1 * 10))+(((bt a0 x1_1) - 48) % 256))) 1099511627776)=j_:=⟨_,rfl⟩;replace H:(n_exponent.l0 k1 a0 (wrap64 (x1_1+1)) (wrap64 (x1_1+1)) 1 ji30)=some (r1,r2):=by first|(rw [hji30] at H;exact H)|(simp only [hji30] at H ⊢;exact H)
              (try rw [hji30] at A27)
              have hji30_:(if 1099511627776 < (wrap64 ((wrap64 (x8_1 * 10))+(((bt a0 x1_1) - 48) % 256))) then 1099511627776 else (wrap64 ((wrap64 (x8_1 * 10))+(((bt a0 x1_1) - 48) % 256))))=ji30:=hji30;have H':=M_ H;clear H;have p26:0≤(x1_1:Int):=oD_ qnc3_;have q26:x1_1 < (a0.size:Int):=oD_ qnc3_;have hx26:=bt_at a0 x1_1;replace p26:=eq_true p26;replace q26:=eq_true q26
              go_wp2_with (first|(go_at_call 68;(with_reducible refine (n_digit.calls (bt a0 x1_1) true _ A27.out).mono ?_);rintro e w' ⟨rfl,⟨nd,rfl⟩⟩;have p29:0≤(x1_1:Int):=oD_ qnc3_;have q29:x1_1 < (a0.size:Int):=oD_ qnc3_;have hx29:=bt_at a0 x1_1;replace p29:=eq_true p29;replace q29:=eq_true q29))
              go_roundg k1
              case measure => have:=HK1.out;omega
              case rel => exact ⟨(wrap64 (x1_1+1)),(wrap64 (x1_1+1)),(ji30),qnc1_,qnc1_,(by first|rfl|(simp;done)|(simp only [← hji30] <;> (first|rfl|simp);done)|(simp [*];done)|(simp;simp only [eq_iff_iff,iff_true] at *;omega)|(exfalso;simp_all;done)),H',⟨by have:=HK1.out;omega⟩,⟨qnc2_⟩⟩
             ·replace c28:=Bool.eq_false_iff.mpr c28;subst c28;rw [if_neg (show ¬ (false=true) by decide)] at H;simp only [Option.some.injEq,Prod.mk.injEq] at H;obtain ⟨rfl,rfl⟩:=H;have p26:0≤(x1_1:Int):=oD_ qnc3_;have q26:x1_1 < (a0.size:Int):=oD_ qnc3_;have hx26:=bt_at a0 x1_1;replace p26:=eq_true p26;replace q26:=eq_true q26
              go_wp2_with (first|(go_at_call 68;(with_reducible refine (n_digit.calls (bt a0 x1_1) false _ A27.out).mono ?_);rintro e w' ⟨rfl,⟨nd,rfl⟩⟩))
              go_ret2
              exact ⟨qnc54_,qnc2_⟩
            ·rw [if_neg c25] at H;exact absurd H (by simp)
           ·rw [if_neg c24] at H;have c24b0:=dF_ c24;clear c24;simp only [Option.some.injEq,Prod.mk.injEq] at H;obtain ⟨rfl,rfl⟩:=H;go_wp2
            go_ret2
            exact ⟨qnc54_,qnc2_⟩
        ·rw [if_neg c22] at H;have c22b0:((bt a0 (ji9)) == 43)=false:=bF_ c22;have c22b1:((bt a0 (ji9)) != 43)=true:=bne_iff_ne.mpr c22;have H':=M_ H;clear H;have p6:0≤(a1:Int):=oD_ qnc3_;have q6:a1 < (a0.size:Int):=oD_ qnc3_;have hx6:=bt_at a0 a1;replace p6:=eq_true p6;replace q6:=eq_true q6;have p11:0≤((ji9):Int):=oD_ qnc3_;have q11:(ji9) < (a0.size:Int):=oD_ qnc3_;have hx11:=bt_at a0 (ji9);replace p11:=eq_true p11;replace q11:=eq_true q11;have p21:0≤((ji9):Int):=oD_ qnc3_;have q21:(ji9) < (a0.size:Int):=oD_ qnc3_;have hx21:=bt_at a0 (ji9);replace p21:=eq_true p21;replace q21:=eq_true q21
         go_enter Tryd.func37,Tryd.ntmps37
         go_wp2
         go_loopg [1,6,8] k (fun kq v1 v6 v8 w' => ∃ (x1_1:Int) (x6_1:Int) (x8_1:Int),v1=.int .i64 x1_1∧v6=.int .i64 x6_1∧v8=.int .i64 x8_1∧Aside0 (n_exponent.l0 kq a0 x1_1 x6_1 1 x8_1=some (r1,r2))∧Aside0 (kq≤k)∧Aside0 (Below w.heap.size w w'))
         case atStart => exact ⟨(ji9),(a1),(0),qnc85_,qnc1_,qnc1_,H',⟨Nat.le_refl _⟩,⟨qnc2_⟩⟩
         case round =>
          clear H'
          (try clear c3);(try clear c3b0);(try clear c3b1);(try clear c4);(try clear c4b0);(try clear c5);(try clear c5b0);(try clear p6);(try clear q6);(try clear hx6);(try clear c7);(try clear c7b0);(try clear c7b1);(try clear c8);(try clear c8b0);(try clear c10);(try clear c10b0);(try clear p11);(try clear q11);(try clear hx11);(try clear c12);(try clear c12b0);(try clear c12b1);(try clear p13);(try clear q13);(try clear hx13);(try clear c14);(try clear c14b0);(try clear c15);(try clear c15b0);(try clear p16);(try clear q16);(try clear hx16);(try clear c18);(try clear p19);(try clear q19);(try clear hx19);(try clear p21);(try clear q21);(try clear hx21);(try clear c22);(try clear c22b0);(try clear c22b1);(try clear p23);(try clear q23);(try clear hx23);(try clear c24);(try clear c24b0);(try clear c25);(try clear c25b0);(try clear p26);(try clear q26);(try clear hx26);(try clear c28);(try clear p29);(try clear q29);(try clear hx29)
          obtain ⟨x1_1,x6_1,x8_1,rfl,rfl,rfl,HA,HK1,HB⟩:=hrel
          cases gk with
          | zero => exact absurd HA.out (by simp [n_exponent.l0])
          | succ k1 =>
           have H:=HA.out;clear HA;simp only [n_exponent.l0] at H
           by_cases c31:x1_1 < (a0.size:Int)
           ·rw [if_pos c31] at H;have c31b0:=dT_ c31;clear c31
            by_cases c32:0≤x1_1
            ·rw [if_pos c32] at H;have c32b0:=dT_ c32;clear c32;obtain ⟨t140,A34,H⟩:=ob_ H
             by_cases c35:t140=true
             ·subst c35;rw [if_pos rfl] at H;obtain ⟨ji37,hji37⟩ : ∃ j_:Int,(mn (wrap64 ((wrap64 (x8_1 * 10))+(((bt a0 x1_1) - 48) % 256))) 1099511627776)=j_:=⟨_,rfl⟩;replace H:(n_exponent.l0 k1 a0 (wrap64 (x1_1+1)) (wrap64 (x1_1+1)) 1 ji37)=some (r1,r2):=by first|(rw [hji37] at H;exact H)|(simp only [hji37] at H ⊢;exact H)
              (try rw [hji37] at A34)
              have hji37_:(if 1099511627776 < (wrap64 ((wrap64 (x8_1 * 10))+(((bt a0 x1_1) - 48) % 256))) then 1099511627776 else (wrap64 ((wrap64 (x8_1 * 10))+(((bt a0 x1_1) - 48) % 256))))=ji37:=hji37;have H':=M_ H;clear H;have p33:0≤(x1_1:Int):=oD_ qnc3_;have q33:x1_1 < (a0.size:Int):=oD_ qnc3_;have hx33:=bt_at a0 x1_1;replace p33:=eq_true p33;replace q33:=eq_true q33
              go_wp2_with (first|(go_at_call 68;(with_reducible refine (n_digit.calls (bt a0 x1_1) true _ A34.out).mono ?_);rintro e w' ⟨rfl,⟨nd,rfl⟩⟩;have p36:0≤(x1_1:Int):=oD_ qnc3_;have q36:x1_1 < (a0.size:Int):=oD_ qnc3_;have hx36:=bt_at a0 x1_1;replace p36:=eq_true p36;replace q36:=eq_true q36))
              go_roundg k1
              case measure => have:=HK1.out;omega
              case rel => exact ⟨(wrap64 (x1_1+1)),(wrap64 (x1_1+1)),(ji37),qnc1_,qnc1_,(by first|rfl|(simp;done)|(simp only [← hji37] <;> (first|rfl|simp);done)|(simp [*];done)|(simp;simp only [eq_iff_iff,iff_true] at *;omega)|(exfalso;simp_all;done)),H',⟨by have:=HK1.out;omega⟩,⟨qnc2_⟩⟩
             ·replace c35:=Bool.eq_false_iff.mpr c35;subst c35;rw [if_neg (show ¬ (false=true) by decide)] at H;simp only [Option.some.injEq,Prod.mk.injEq] at H;obtain ⟨rfl,rfl⟩:=H;have p33:0≤(x1_1:Int):=oD_ qnc3_;have q33:x1_1 < (a0.size:Int):=oD_ qnc3_;have hx33:=bt_at a0 x1_1;replace p33:=eq_true p33;replace q33:=eq_true q33
              go_wp2_with (first|(go_at_call 68;(with_reducible refine (n_digit.calls (bt a0 x1_1) false _ A34.out).mono ?_);rintro e w' ⟨rfl,⟨nd,rfl⟩⟩))
              go_ret2
              exact ⟨qnc54_,qnc2_⟩
            ·rw [if_neg c32] at H;exact absurd H (by simp)
           ·rw [if_neg c31] at H;have c31b0:=dF_ c31;clear c31;simp only [Option.some.injEq,Prod.mk.injEq] at H;obtain ⟨rfl,rfl⟩:=H;go_wp2
            go_ret2
            exact ⟨qnc54_,qnc2_⟩
      ·rw [if_neg c10] at H;exact absurd H (by simp)
     ·rw [if_neg c8] at H;have c8b0:=dF_ c8;clear c8;have H':=M_ H;clear H;have p6:0≤(a1:Int):=oD_ qnc3_;have q6:a1 < (a0.size:Int):=oD_ qnc3_;have hx6:=bt_at a0 a1;replace p6:=eq_true p6;replace q6:=eq_true q6
      go_enter Tryd.func37,Tryd.ntmps37
      go_wp2
      go_loopg [1,6,8] k (fun kq v1 v6 v8 w' => ∃ (x1_1:Int) (x6_1:Int) (x8_1:Int),v1=.int .i64 x1_1∧v6=.int .i64 x6_1∧v8=.int .i64 x8_1∧Aside0 (n_exponent.l0 kq a0 x1_1 x6_1 1 x8_1=some (r1,r2))∧Aside0 (kq≤k)∧Aside0 (Below w.heap.size w w'))
      case atStart => exact ⟨(wrap64 (a1+1)),(a1),(0),qnc1_,qnc1_,qnc1_,H',⟨Nat.le_refl _⟩,⟨qnc2_⟩⟩
      case round =>
       clear H'
       (try clear c3);(try clear c3b0);(try clear c3b1);(try clear c4);(try clear c4b0);(try clear c5);(try clear c5b0);(try clear p6);(try clear q6);(try clear hx6);(try clear c7);(try clear c7b0);(try clear c7b1);(try clear c8);(try clear c8b0);(try clear c10);(try clear c10b0);(try clear p11);(try clear q11);(try clear hx11);(try clear c12);(try clear c12b0);(try clear c12b1);(try clear p13);(try clear q13);(try clear hx13);(try clear c14);(try clear c14b0);(try clear c15);(try clear c15b0);(try clear p16);(try clear q16);(try clear hx16);(try clear c18);(try clear p19);(try clear q19);(try clear hx19);(try clear p21);(try clear q21);(try clear hx21);(try clear c22);(try clear c22b0);(try clear c22b1);(try clear p23);(try clear q23);(try clear hx23);(try clear c24);(try clear c24b0);(try clear c25);(try clear c25b0);(try clear p26);(try clear q26);(try clear hx26);(try clear c28);(try clear p29);(try clear q29);(try clear hx29);(try clear c31);(try clear c31b0);(try clear c32);(try clear c32b0);(try clear p33);(try clear q33);(try clear hx33);(try clear c35);(try clear p36);(try clear q36);(try clear hx36)
       obtain ⟨x1_1,x6_1,x8_1,rfl,rfl,rfl,HA,HK1,HB⟩:=hrel
       cases gk with
       | zero => exact absurd HA.out (by simp [n_exponent.l0])
       | succ k1 =>
        have H:=HA.out;clear HA;simp only [n_exponent.l0] at H
        by_cases c38:x1_1 < (a0.size:Int)
        ·rw [if_pos c38] at H;have c38b0:=dT_ c38;clear c38
         by_cases c39:0≤x1_1
         ·rw [if_pos c39] at H;have c39b0:=dT_ c39;clear c39;obtain ⟨t140,A41,H⟩:=ob_ H
          by_cases c42:t140=true
          ·subst c42;rw [if_pos rfl] at H;obtain ⟨ji44,hji44⟩ : ∃ j_:Int,(mn (wrap64 ((wrap64 (x8_1 * 10))+(((bt a0 x1_1) - 48) % 256))) 1099511627776)=j_:=⟨_,rfl⟩;replace H:(n_exponent.l0 k1 a0 (wrap64 (x1_1+1)) (wrap64 (x1_1+1)) 1 ji44)=some (r1,r2):=by first|(rw [hji44] at H;exact H)|(simp only [hji44] at H ⊢;exact H)
           (try rw [hji44] at A41)
           have hji44_:(if 1099511627776 < (wrap64 ((wrap64 (x8_1 * 10))+(((bt a0 x1_1) - 48) % 256))) then 1099511627776 else (wrap64 ((wrap64 (x8_1 * 10))+(((bt a0 x1_1) - 48) % 256))))=ji44:=hji44;have H':=M_ H;clear H;have p40:0≤(x1_1:Int):=oD_ qnc3_;have q40:x1_1 < (a0.size:Int):=oD_ qnc3_;have hx40:=bt_at a0 x1_1;replace p40:=eq_true p40;replace q40:=eq_true q40
           go_wp2_with (first|(go_at_call 68;(with_reducible refine (n_digit.calls (bt a0 x1_1) true _ A41.out).mono ?_);rintro e w' ⟨rfl,⟨nd,rfl⟩⟩;have p43:0≤(x1_1:Int):=oD_ qnc3_;have q43:x1_1 < (a0.size:Int):=oD_ qnc3_;have hx43:=bt_at a0 x1_1;replace p43:=eq_true p43;replace q43:=eq_true q43))
           go_roundg k1
           case measure => have:=HK1.out;omega
           case rel => exact ⟨(wrap64 (x1_1+1)),(wrap64 (x1_1+1)),(ji44),qnc1_,qnc1_,(by first|rfl|(simp;done)|(simp only [← hji44] <;> (first|rfl|simp);done)|(simp [*];done)|(simp;simp only [eq_iff_iff,iff_true] at *;omega)|(exfalso;simp_all;done)),H',⟨by have:=HK1.out;omega⟩,⟨qnc2_⟩⟩
          ·replace c42:=Bool.eq_false_iff.mpr c42;subst c42;rw [if_neg (show ¬ (false=true) by decide)] at H;simp only [Option.some.injEq,Prod.mk.injEq] at H;obtain ⟨rfl,rfl⟩:=H;have p40:0≤(x1_1:Int):=oD_ qnc3_;have q40:x1_1 < (a0.size:Int):=oD_ qnc3_;have hx40:=bt_at a0 x1_1;replace p40:=eq_true p40;replace q40:=eq_true q40
           go_wp2_with (first|(go_at_call 68;(with_reducible refine (n_digit.calls (bt a0 x1_1) false _ A41.out).mono ?_);rintro e w' ⟨rfl,⟨nd,rfl⟩⟩))
           go_ret2
           exact ⟨qnc5_,qnc2_⟩
         ·rw [if_neg c39] at H;exact absurd H (by simp)
        ·rw [if_neg c38] at H;have c38b0:=dF_ c38;clear c38;simp only [Option.some.injEq,Prod.mk.injEq] at H;obtain ⟨rfl,rfl⟩:=H;go_wp2
         go_ret2
         exact ⟨qnc5_,qnc2_⟩
    ·rw [if_neg c7] at H;have c7b0:((Go.bits .or .u8 (bt a0 a1) 32) == 101)=false:=bF_ c7;have c7b1:((Go.bits .or .u8 (bt a0 a1) 32) != 101)=true:=bne_iff_ne.mpr c7;simp only [Option.some.injEq,Prod.mk.injEq] at H;obtain ⟨rfl,rfl⟩:=H;have p6:0≤(a1:Int):=oD_ qnc3_;have q6:a1 < (a0.size:Int):=oD_ qnc3_;have hx6:=bt_at a0 a1;replace p6:=eq_true p6;replace q6:=eq_true q6
     go_enter Tryd.func37,Tryd.ntmps37
     go_wp2
     go_ret2
     exact ⟨qnc5_,qnc2_⟩
   ·rw [if_neg c5] at H;exact absurd H (by simp)
  ·rw [if_neg c4] at H;exact absurd H (by simp)

set_option maxHeartbeats 8000000
set_option maxRecDepth 100000

def strings_trimLeftByte.l0:Nat→ByteArray→Int→Option (ByteArray)
 | 0,_,_ => none
 | k+1,x0,x1 => if (x0.size:Int) > 0 then (if 0 < (x0.size:Int) then (if (bt x0 0)=x1 then (if 1≤(x0.size:Int) then (strings_trimLeftByte.l0 k (x0.extract 1 x0.size) x1) else (none)) else (some x0)) else (none)) else (some x0)
def strings_trimLeftByte.f (k:Nat) (a0:ByteArray) (a1:Int):Option (ByteArray):=strings_trimLeftByte.l0 k a0 a1
theorem strings_trimLeftByte.calls (k : Nat) (a0 : ByteArray) (a1 : Int) (r : ByteArray) (w : World) (h : strings_trimLeftByte.f k a0 a1 = some r) :
  Calls Tryd.prog 88 #[.string a0,.int .u8 a1] w fun e w' => e=.returned (.string r)∧Drawn0 w w':=by
 have H:(strings_trimLeftByte.l0 k a0 a1)=some r:=h;clear h;have H':=M_ H;clear H
 go_enter Tryd.func88,Tryd.ntmps88
 go_wp2
 go_loopg [0] k (fun kq v0 w' => ∃ (x0_1:ByteArray),v0=.string x0_1∧Aside0 (strings_trimLeftByte.l0 kq x0_1 a1=some r)∧Aside0 (kq≤k)∧Drawn0 w w')
 case atStart => exact ⟨(a0),qnc1_,H',⟨Nat.le_refl _⟩,qnc4_⟩
 case round =>
  clear H'
  skip
  obtain ⟨x0_1,rfl,HA,HK1,⟨m1,rfl⟩⟩:=hrel
  cases gk with
  | zero => exact absurd HA.out (by simp [strings_trimLeftByte.l0])
  | succ k1 =>
   have H:=HA.out;clear HA;simp only [strings_trimLeftByte.l0] at H
   by_cases c3:(x0_1.size:Int) > 0
   ·rw [if_pos c3] at H;have c3b0:=dT_ c3;have c3b1:decide (0 < x0_1.size)=true:=decide_eq_true (by omega);clear c3
    by_cases c4:0 < (x0_1.size:Int)
    ·rw [if_pos c4] at H;have c4b0:=dT_ c4;have c4b1:decide (0 < x0_1.size)=true:=decide_eq_true (by omega);clear c4
     by_cases c6:(bt x0_1 0)=a1
     ·rw [if_pos c6] at H;have c6b0:((bt x0_1 0) == a1)=true:=beq_iff_eq.mpr c6;have c6b1:((bt x0_1 0) != a1)=false:=nF_ c6;clear c6
      by_cases c7:1≤(x0_1.size:Int)
      ·rw [if_pos c7] at H;have c7b0:=eq_true c7;have c7b1:=dT_ c7;clear c7;have H':=M_ H;clear H;have p5:0≤(0:Int):=(by omega);have q5:0 < x0_1.size:=(by have:(0:Int) < (x0_1.size:Int):=oD_ qnc3_;omega);have hx5 : ∀ h:0 < x0_1.size,((x0_1[0]'h).toNat:Int)=bt x0_1 0:=bt_at x0_1 0;clear p5;have qi5:(0 < (x0_1.size:Int))=True:=eq_true (oD_ qnc3_);replace q5:=eq_true q5;go_wp2
       go_roundg k1
       case measure => have:=HK1.out;omega
       case rel => exact ⟨(x0_1.extract 1 x0_1.size),qnc1_,H',⟨by have:=HK1.out;omega⟩,qnc4_⟩
      ·rw [if_neg c7] at H;exact absurd H (by simp)
     ·rw [if_neg c6] at H;have c6b0:((bt x0_1 0) == a1)=false:=bF_ c6;have c6b1:((bt x0_1 0) != a1)=true:=bne_iff_ne.mpr c6;obtain rfl:=Option.some.inj H;have p5:0≤(0:Int):=(by omega);have q5:0 < x0_1.size:=(by have:(0:Int) < (x0_1.size:Int):=oD_ qnc3_;omega);have hx5 : ∀ h:0 < x0_1.size,((x0_1[0]'h).toNat:Int)=bt x0_1 0:=bt_at x0_1 0;clear p5;have qi5:(0 < (x0_1.size:Int))=True:=eq_true (oD_ qnc3_);replace q5:=eq_true q5;go_wp2;go_ret;exact ⟨qnc1_,qnc4_⟩
    ·rw [if_neg c4] at H;exact absurd H (by simp)
   ·rw [if_neg c3] at H;have c3b0:=dF_ c3;have c3b1:decide (0 < x0_1.size)=false:=decide_eq_false (by omega);clear c3;obtain rfl:=Option.some.inj H;go_wp2;go_ret;exact ⟨qnc1_,qnc4_⟩

set_option maxHeartbeats 8000000
set_option maxRecDepth 100000

mutual
def strings_TrimLeft.j0:Nat→ByteArray→ByteArray→Bool→Option (ByteArray)
 | 0,_,_,_ => none
 | k+1,x0,x1,x12 => if x12=true then (some x0) else (if (x1.size:Int)=1 then (if 0 < (x1.size:Int) then (strings_TrimLeft.j1 k x0 x1 (decide ((bt x1 0) < 128))) else (none)) else (strings_TrimLeft.j1 k x0 x1 false))
def strings_TrimLeft.j1:Nat→ByteArray→ByteArray→Bool→Option (ByteArray)
 | 0,_,_,_ => none
 | k+1,x0,x1,x21 => if x21=true then (if 0 < (x1.size:Int) then ((strings_trimLeftByte.f k x0 (bt x1 0)).bind fun t107 => (some t107)) else (none)) else (none)
end
def strings_TrimLeft.f (k:Nat) (a0:ByteArray) (a1:ByteArray):Option (ByteArray):=if a0.toList=([]:List UInt8) then (strings_TrimLeft.j0 k a0 a1 true) else (strings_TrimLeft.j0 k a0 a1 a1.toList.isEmpty)
theorem strings_TrimLeft.calls (k : Nat) (a0 : ByteArray) (a1 : ByteArray) (r : ByteArray) (w : World) (h : strings_TrimLeft.f k a0 a1 = some r) :
  Calls Tryd.prog 66 #[.string a0,.string a1] w fun e w' => e=.returned (.string r)∧Below w.heap.size w w':=by
 have HB:=M_ (Below.refl w.heap.size w);have H:(if a0.toList=([]:List UInt8) then (strings_TrimLeft.j0 k a0 a1 true) else (strings_TrimLeft.j0 k a0 a1 a1.toList.isEmpty))=some r:=h;clear h;have HC3:=M_ H;clear H
 go_enter Tryd.func66,Tryd.ntmps66
 go_upto_region 1 with (fail)
 go_cut [12] (fun v12 wc => ∃ (kq:Nat) (x12_2:Bool),v12=.bool x12_2∧Aside0 (strings_TrimLeft.j0 kq a0 a1 x12_2=some r)∧Aside0 (kq≤k)∧Aside0 (Below w.heap.size w wc))
 case first =>
  have H:=HC3.out;clear HC3
  by_cases c4:a0.toList=([]:List UInt8)
  ·rw [if_pos c4] at H;have c4b0:(a0.toList == ([]:List UInt8))=true:=beq_iff_eq.mpr c4;have c4b1:(a0.toList != ([]:List UInt8))=false:=nF_ c4;clear c4
   (first|rw [c4b0]|(simp only [i64_w,i32_w];rw [c4b0])|skip)
   have H':=M_ H;clear H;go_wp2;go_meet
   case rel => exact ⟨_,(true),qnc1_,H',⟨by first|omega|exact Nat.le_refl _⟩,⟨qnc2_⟩⟩
  ·rw [if_neg c4] at H;have c4b0:(a0.toList == ([]:List UInt8))=false:=bF_ c4;have c4b1:(a0.toList != ([]:List UInt8))=true:=bne_iff_ne.mpr c4
   (first|rw [c4b0]|(simp only [i64_w,i32_w];rw [c4b0])|skip)
   have H':=M_ H;clear H;go_wp2;go_meet
   case rel => exact ⟨_,(a1.toList.isEmpty),qnc1_,H',⟨by first|omega|exact Nat.le_refl _⟩,⟨qnc2_⟩⟩
 case rest =>
  clear HC3
  (try clear c4);(try clear c4b0);(try clear c4b1)
  obtain ⟨kq,x12_2,rfl,HA,HJ2,HB⟩:=hcut
  cases kq with
  | zero => exact absurd HA.out (by simp [strings_TrimLeft.j0])
  | succ kj2 =>
   have H:=HA.out;clear HA;simp only [strings_TrimLeft.j0] at H
   by_cases c5:x12_2=true
   ·subst c5;rw [if_pos rfl] at H;obtain rfl:=Option.some.inj H;go_wp2;go_ret;exact ⟨qnc5_,qnc2_⟩
   ·replace c5:=Bool.eq_false_iff.mpr c5;subst c5;rw [if_neg (show ¬ (false=true) by decide)] at H;have HC6:=M_ H;clear H
    go_upto_region 3 with (fail)
    go_cut [21] (fun v21 wc => ∃ (kq:Nat) (x21_5:Bool),v21=.bool x21_5∧Aside0 (strings_TrimLeft.j1 kq a0 a1 x21_5=some r)∧Aside0 (kq≤kj2)∧Aside0 (Below w.heap.size w wc))
    case first =>
     have H:=HC6.out;clear HC6
     by_cases c7:(a1.size:Int)=1
     ·rw [if_pos c7] at H;have c7b0:((a1.size:Int) == 1)=true:=beq_iff_eq.mpr c7;have c7b1:((a1.size:Int) != 1)=false:=nF_ c7;clear c7
      (first|rw [c7b0]|(simp only [i64_w,i32_w];rw [c7b0])|skip)
      by_cases c8:0 < (a1.size:Int)
      ·rw [if_pos c8] at H;have c8b0:=dT_ c8;have c8b1:decide (0 < a1.size)=true:=decide_eq_true (by omega);clear c8;have H':=M_ H;clear H;have p9:0≤(0:Int):=(by omega);have q9:0 < a1.size:=qnc101_;have hx9 : ∀ h:0 < a1.size,((a1[0]'h).toNat:Int)=bt a1 0:=bt_at a1 0;clear p9;have qi9:(0 < (a1.size:Int))=True:=eq_true (oD_ qnc3_);replace q9:=eq_true q9;go_wp2;go_meet
       case rel => exact ⟨_,(decide ((bt a1 0) < 128)),qnc1_,H',⟨by have:=HJ2.out;first|omega|exact Nat.le_refl _⟩,⟨qnc2_⟩⟩
      ·rw [if_neg c8] at H;exact absurd H (by simp)
     ·rw [if_neg c7] at H;have c7b0:((a1.size:Int) == 1)=false:=bF_ c7;have c7b1:((a1.size:Int) != 1)=true:=bne_iff_ne.mpr c7
      (first|rw [c7b0]|(simp only [i64_w,i32_w];rw [c7b0])|skip)
      have H':=M_ H;clear H;go_wp2;go_meet
      case rel => exact ⟨_,(false),qnc1_,H',⟨by have:=HJ2.out;first|omega|exact Nat.le_refl _⟩,⟨qnc2_⟩⟩
    case rest =>
     clear HC6
     (try clear c4);(try clear c4b0);(try clear c4b1);(try clear c5);(try clear c7);(try clear c7b0);(try clear c7b1);(try clear c8);(try clear c8b0);(try clear c8b1);(try clear p9);(try clear q9);(try clear hx9);(try clear qi9)
     obtain ⟨kq,x21_5,rfl,HA,HJ5,HB⟩:=hcut
     cases kq with
     | zero => exact absurd HA.out (by simp [strings_TrimLeft.j1])
     | succ kj5 =>
      have H:=HA.out;clear HA;simp only [strings_TrimLeft.j1] at H
      by_cases c10:x21_5=true
      ·subst c10;rw [if_pos rfl] at H
       by_cases c11:0 < (a1.size:Int)
       ·rw [if_pos c11] at H;have c11b0:=dT_ c11;have c11b1:decide (0 < a1.size)=true:=decide_eq_true (by omega);clear c11;obtain ⟨t107,A13,H⟩:=ob_ H;obtain rfl:=Option.some.inj H;have p12:0≤(0:Int):=(by omega);have q12:0 < a1.size:=qnc101_;have hx12 : ∀ h:0 < a1.size,((a1[0]'h).toNat:Int)=bt a1 0:=bt_at a1 0;clear p12;have qi12:(0 < (a1.size:Int))=True:=eq_true (oD_ qnc3_);replace q12:=eq_true q12
        go_wp2_with (first|((with_reducible refine gate_callee (f:=88) rfl ?_);refine goesL_ (some 25) rfl rfl Tryd.func88 (by kernel_rfl) rfl #[.string a0,.int .u8 (bt a1 0)] rfl qnc0_ ?_;(with_reducible refine (strings_trimLeftByte.calls kj5 a0 (bt a1 0) t107 _ A13.out).mono ?_);rintro e w' ⟨rfl,⟨nd,rfl⟩⟩;refine ⟨_,rfl,?_⟩))
        go_ret;exact ⟨qnc5_,qnc2_⟩
       ·rw [if_neg c11] at H;exact absurd H (by simp)
      ·replace c10:=Bool.eq_false_iff.mpr c10;subst c10;rw [if_neg (show ¬ (false=true) by decide)] at H;exact absurd H (by simp)

end Go.Proofs.YtcdajedmlfhmeaaDoor.XN
