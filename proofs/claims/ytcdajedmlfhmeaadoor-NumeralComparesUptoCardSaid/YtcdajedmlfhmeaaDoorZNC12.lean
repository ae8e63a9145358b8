import Derived.Test.YtcdajedmlfhmeaaDoorZNC0
import Derived.Test.YtcdajedmlfhmeaaDoorZNC11
import Derived.Test.YtcdajedmlfhmeaaDoorZNC2
import Derived.Test.YtcdajedmlfhmeaaDoorZNC3
import Derived.Test.YtcdajedmlfhmeaaDoorZNC5
import Derived.Test.YtcdajedmlfhmeaaDoorZNC6
import Derived.Test.YtcdajedmlfhmeaaDoorZNC1
import Derived.Test.YtcdajedmlfhmeaaDoorZNC7
import Derived.Test.YtcdajedmlfhmeaaDoorZNC8
import Derived.Test.YtcdajedmlfhmeaaDoorZNC10
section
/- Compare: what numeral computes. (by this session) -/
-- NEEDS n_digits cmp_isNaN_int cmp_Compare_int bytealg_CompareString strings_Compare cmp_Or_int n_order n_sizeOf n_human n_pair n_rank cmp_Compare_byte n_words n_runs n_versions
set_option linter.unusedVariables false
set_option linter.unusedSimpArgs false
namespace Go.Proofs.YtcdajedmlfhmeaaDoor.XN
open Go.RowKit Go.Proofs.YtcdajedmlfhmeaaDoorW.PrintWords Go.Proofs.YtcdajedmlfhmeaaDoorW.PrintMore

def digS (w f:List UInt8) (e:Int):List UInt8 × Int:=
  if tl w = [] then if tr (tl f) = [] then ([], 0) else (tr (tl f), ((tl f).length : Int) - (f.length : Int) + e)
  else if tr (tl w ++ f) = [] then ([], 0) else (tr (tl w ++ f), ((tl w).length : Int) + e)
theorem digits_ev (w f : List UInt8) (e : Int) (hw : w.length < 2305843009213693952) (hf : f.length < 2305843009213693952) (he : -1125899906842624 ≤ e ∧ e ≤ 1125899906842624) :
    Ev (fun k => n_digits.f k (mkB w) (mkB f) e) (mkB (digS w f e).1,(digS w f e).2):=by
  unfold n_digits.f
  have h1:=tl_len w
  have h2:=tl_len f
  refine Ev.bind (TrimLeft_ev w (by rw [big_eq];omega)) ?_
  unfold digS
  simp only [toList_mk]
  refine Ev.ite (fun h => ?_) (fun h => ?_)
  · rw [if_pos h]
    refine Ev.bind (TrimLeft_ev f (by rw [big_eq];omega)) (Ev.bind (TrimRight_ev (tl f) (by rw [big_eq];omega)) ?_)
    simp only [toList_mk]
    refine Ev.ite (fun h' => ?_) (fun h' => ?_)
    · rw [if_pos h'];exact Ev.pure _
    · rw [if_neg h']
      refine Ev.done ?_
      rw [size_mk,size_mk,w64 (x:=((tl f).length:Int) - (f.length:Int)) (by omega),w64 (by omega)]
  · rw [if_neg h]
    simp only [size_mk,mk_append]
    refine Ev.pos (by omega) (Ev.bind (TrimRight_ev (tl w++f) (by rw [big_eq,List.length_append];omega)) ?_)
    simp only [toList_mk]
    refine Ev.ite (fun h' => ?_) (fun h' => ?_)
    · rw [if_pos h'];exact Ev.pure _
    · rw [if_neg h']
      refine Ev.done ?_
      rw [w64 (by omega)]

def cmpI (a b:Int):Int:=if a < b then -1 else if a > b then 1 else 0
theorem cmpI_range (a b : Int) : cmpI a b = -1 ∨ cmpI a b = 0 ∨ cmpI a b = 1 := by unfold cmpI; split; · simp
                                                                                   · split <;> simp
theorem Compare_int_f (a b : Int) : cmp_Compare_int.f a b = some (cmpI a b) := by
  unfold cmp_Compare_int.f cmp_isNaN_int.f cmpI
  simp only [Option.bind_some,bne_self_eq_false,Bool.false_eq_true,if_false]
  split
  · rfl
  · split <;> rfl
theorem Compare_byte_f (a b : Int) : cmp_Compare_byte.f a b = some (cmpI a b) := by
  unfold cmp_Compare_byte.f cmp_isNaN_byte.f cmpI
  simp only [Option.bind_some,bne_self_eq_false,Bool.false_eq_true,if_false]
  split
  · rfl
  · split <;> rfl
def bcmp (l m:List UInt8):Int:=Lib.compareBytes l m
theorem bcmp_range : ∀ (l m : List UInt8), bcmp l m = -1 ∨ bcmp l m = 0 ∨ bcmp l m = 1
  | [],[] => by simp [bcmp,Lib.compareBytes]
  | [],_ :: _ => by simp [bcmp,Lib.compareBytes]
  | _ :: _,[] => by simp [bcmp,Lib.compareBytes]
  | a :: l,b :: m => by
    have:=bcmp_range l m
    unfold bcmp Lib.compareBytes
    split
    · simp
    · split
      · simp
      · exact this
theorem Compare_str_f (s t : ByteArray) : strings_Compare.f s t = some (bcmp (L s) (L t)) := rfl
def orS : List Int → Int
  | [] => 0
  | x :: xs => if x=0 then orS xs else x
theorem Or_l0 (l : List Int) (hl : l.length < 100) : ∀ (m : List Int) (i : Nat), l.drop i = m → i ≤ l.length → Ev (fun k => cmp_Or_int.l0 k 0 l (l.length : Int) (i : Int)) (orS m)
  | [],i,h,hi => by
    have:l.length≤i:=List.drop_eq_nil_iff.1 h
    refine Ev.succ ?_
    simp only [cmp_Or_int.l0]
    exact Ev.neg (by omega) (Ev.done rfl)
  | x :: m,i,h,hi => by
    have hil:i < l.length:=by
      rcases Nat.lt_or_ge i l.length with h' | h'
      · exact h'
      · rw [List.drop_eq_nil_iff.2 h'] at h;cases h
    have e:=List.drop_eq_getElem_cons hil
    rw [h] at e
    injection e with e1 e2
    have hr:rd l (i:Int)=x:=by unfold rd;rw [Int.toNat_natCast,e1];simp [List.getD,hil]
    refine Ev.succ ?_
    simp only [cmp_Or_int.l0,hr,w64_succ (i:=i) (by omega)]
    refine Ev.pos (by omega) (Ev.pos (by omega) (Ev.pos (by omega) ?_))
    simp only [orS]
    refine Ev.ite (fun h1 => ?_) (fun h1 => ?_)
    · rw [if_pos h1];exact Or_l0 l hl m (i+1) e2.symm (by omega)
    · rw [if_neg h1];exact Ev.pure _
theorem Or_ev (l : List Int) (hl : l.length < 100) : Ev (fun k => cmp_Or_int.f k l) (orS l) := by
  unfold cmp_Or_int.f
  exact Or_l0 l hl l 0 rfl (Nat.zero_le _)

abbrev Sz := Int × Int × Int × List UInt8
def szS (n:Bool) (d:List UInt8) (x r:Int):Sz:=if d=[] then (0,0,0,[]) else ((if n=true then -1 else 1),r,x,d)
theorem szS_sign (n : Bool) (d : List UInt8) (x r : Int) : (szS n d x r).1 = -1 ∨ (szS n d x r).1 = 0 ∨ (szS n d x r).1 = 1 := by
  unfold szS
  split
  · simp
  · split <;> simp
theorem sizeOf_f (n : Bool) (d : List UInt8) (x r : Int) : n_sizeOf.f n (mkB d) x r = some ((szS n d x r).1, (szS n d x r).2.1, (szS n d x r).2.2.1, mkB (szS n d x r).2.2.2) := by
  unfold n_sizeOf.f szS
  simp only [toList_mk]
  split
  · rfl
  · split <;> rfl
def ordS (a b:Sz):Int:=if a.1=b.1∧¬ a.1=0 then a.1 * orS [cmpI a.2.1 b.2.1,cmpI a.2.2.1 b.2.2.1,bcmp a.2.2.2 b.2.2.2] else cmpI a.1 b.1
theorem orS_range {l : List Int} (h : ∀ x ∈ l, x = -1 ∨ x = 0 ∨ x = 1) : orS l = -1 ∨ orS l = 0 ∨ orS l = 1 := by
  induction l with
  | nil => simp [orS]
  | cons x l ih =>
    simp only [orS]
    split
    · exact ih (fun y hy => h y (List.mem_cons_of_mem _ hy))
    · exact h x (List.mem_cons_self)
theorem or3_range (a b : Sz) : orS [cmpI a.2.1 b.2.1, cmpI a.2.2.1 b.2.2.1, bcmp a.2.2.2 b.2.2.2] = -1 ∨ orS [cmpI a.2.1 b.2.1, cmpI a.2.2.1 b.2.2.1, bcmp a.2.2.2 b.2.2.2] = 0 ∨ orS [cmpI a.2.1 b.2.1, cmpI a.2.2.1 b.2.2.1, bcmp a.2.2.2 b.2.2.2] = 1 := by
  refine orS_range (fun x hx => ?_)
  simp only [List.mem_cons,List.not_mem_nil,or_false] at hx
  rcases hx with rfl|rfl|rfl
  · exact cmpI_range _ _
  · exact cmpI_range _ _
  · exact bcmp_range _ _
theorem order_ev (a b : Sz) (ha : a.1 = -1 ∨ a.1 = 0 ∨ a.1 = 1) : Ev (fun k => n_order.f k a.1 a.2.1 a.2.2.1 (mkB a.2.2.2) b.1 b.2.1 b.2.2.1 (mkB b.2.2.2)) (ordS a b) := by
  unfold n_order.f
  unfold ordS
  have h3:=or3_range a b
  refine Ev.ite (fun h => ?_) (fun h => ?_)
  · refine Ev.succ ?_
    simp only [n_order.j0,Compare_int_f,Compare_str_f,Option.bind_some,L_mk]
    refine Ev.ite (fun h' => ?_) (fun h' => ?_)
    · rw [if_neg (fun hh => hh.2 (by simpa using h'))]
      exact Ev.pure _
    · rw [if_pos ⟨h, by simpa using h'⟩]
      refine Ev.bind (Or_ev _ (by simp)) (Ev.done ?_)
      refine w64 ?_
      rcases ha with ha|ha|ha <;> rw [ha] <;> omega
  · refine Ev.succ ?_
    simp only [n_order.j0,Compare_int_f,Option.bind_some]
    rw [if_neg (fun hh => h hh.1)]
    exact Ev.pos trivial (Ev.pure _)
def huS (kind:Int) (s:ByteArray):Sz:=
  szS (humS s).1.1 (digS (humS s).1.2.1 (humS s).1.2.2.1 0).1 (digS (humS s).1.2.1 (humS s).1.2.2.1 0).2 (if kind = 16 then 0 else ((humS s).2 : Int))
theorem dec_len (s : ByteArray) : (decS (L s)).2.1.length ≤ s.size ∧ (decS (L s)).2.2.1.length ≤ s.size := by
  unfold decS
  split
  · simp
  · have h1 := tl_len (plS ((L s).drop (sgN (L s)))).1
    have h2:=tr_len (plS ((L s).drop (sgN (L s)))).2.1
    have h3:=pl1_len ((L s).drop (sgN (L s)))
    have h4:=pl2_len ((L s).drop (sgN (L s)))
    have h5:=size_drop s (sgN (L s))
    simp only
    omega
theorem humS_fields (s : ByteArray) : (humS s).1.1 = (decS (L s)).1 ∧ (humS s).1.2.1 = (decS (L s)).2.1 ∧ (humS s).1.2.2.1 = (decS (L s)).2.2.1 := by
  unfold humS
  simp only
  split
  · exact ⟨rfl,rfl,rfl⟩
  · split <;> exact ⟨rfl,rfl,rfl⟩
theorem human_ev (kind : Int) (s : ByteArray) (hs : s.size < 2305843009213693952) : Ev (fun k => n_human.f k kind s) ((huS kind s).1, (huS kind s).2.1, (huS kind s).2.2.1, mkB (huS kind s).2.2.2) := by
  unfold n_human.f
  refine Ev.bind (Human_ev s (by rw [big_eq];omega)) ?_
  obtain ⟨f1,f2,f3⟩:=humS_fields s
  have hl:=dec_len s
  unfold huS humV
  simp only
  rw [f2,f3]
  refine Ev.ite (fun h => ?_) (fun h => ?_)
  · rw [if_pos h]
    refine Ev.bind (digits_ev _ _ 0 (by omega) (by omega) (by omega)) ?_
    simp only [sizeOf_f,Option.bind_some]
    exact Ev.pure _
  · rw [if_neg h]
    refine Ev.bind (digits_ev _ _ 0 (by omega) (by omega) (by omega)) ?_
    simp only [sizeOf_f,Option.bind_some]
    exact Ev.pure _

def noDg (c:UInt8):Bool:=!isDg c
def pr1 (l:List UInt8):List UInt8:=l.takeWhile noDg
def pr2 (l:List UInt8):List UInt8:=(l.dropWhile noDg).takeWhile isDg
def pr3 (l:List UInt8):List UInt8:=(l.dropWhile noDg).dropWhile isDg
theorem pr_all (l : List UInt8) : pr1 l ++ (pr2 l ++ pr3 l) = l := by
  unfold pr1 pr2 pr3
  rw [List.takeWhile_append_dropWhile,List.takeWhile_append_dropWhile]
theorem pr_len (l : List UInt8) : (pr1 l).length + (pr2 l).length + (pr3 l).length = l.length := by
  have:=congrArg List.length (pr_all l)
  rw [List.length_append,List.length_append] at this
  omega
theorem pr_short {l : List UInt8} (h : l ≠ []) : (pr3 l).length < l.length := by
  have hl:=pr_len l
  cases l with
  | nil => exact absurd rfl h
  | cons c r =>
    by_cases hc:isDg c=true
    · have:0 < (pr2 (c :: r)).length:=by
        unfold pr2
        rw [List.dropWhile_cons,if_neg (by simp [noDg,hc]),List.takeWhile_cons,if_pos hc]
        simp
      omega
    · have:0 < (pr1 (c :: r)).length:=by
        unfold pr1
        rw [List.takeWhile_cons,if_pos (by simp [noDg,hc])]
        simp
      omega
theorem digit_f (c : UInt8) : n_digit.f (c.toNat : Int) = some (isDg c) := plainDig_f _
theorem pair_l1 (s : ByteArray) (hs : s.size < big) (i : Nat) (hi : i ≤ s.size) (hx : (L s).take i = pr1 (L s)) (hy : (L s).drop i = (L s).dropWhile noDg) :
    Ev (fun k => n_pair.l1 k s (i:Int) (i:Int)) (mkB (pr1 (L s)),mkB (pr2 (L s)),mkB (pr3 (L s))):=by
  refine scan (p:=isDg) (F:=fun k j => n_pair.l1 k s (i:Int) j) hs (fun k j c h1 h2 hp => ?_) ((L s).drop i) i rfl ?_
  · simp only [n_pair.l1, h2, digit_f, Option.bind_some, w64_succ (i := j) (by rw [big_eq] at hs; omega)]
    rw [if_pos (by omega),if_pos (by omega),if_pos hp]
  · have e1 : s.extract 0 ((i : Int)).toNat = mkB (pr1 (L s)) := by rw [extract_front, Int.toNat_natCast, hx]
    have e2:s.extract ((i:Int)).toNat (((i+(((L s).drop i).takeWhile isDg).length:Nat):Int)).toNat=mkB (pr2 (L s)):=by
      rw [extract_mk',Int.toNat_natCast,Int.toNat_natCast,Nat.add_sub_cancel_left,take_run,hy];rfl
    have e3:s.extract (((i+(((L s).drop i).takeWhile isDg).length:Nat):Int)).toNat s.size=mkB (pr3 (L s)):=by
      rw [extract_end,Int.toNat_natCast,(behind (p:=isDg) hi).2,hy];rfl
    have hb:=(behind (p:=isDg) hi).1
    refine Ev.succ ?_
    rcases stop_at (s:=s) (p:=isDg) hi with ⟨h,_⟩|⟨c,r,h1,h2,h3,_⟩
    · simp only [n_pair.l1, e1, e2, e3]
      exact Ev.neg (by omega) (Ev.pos (by omega) (Ev.pos (by omega) (Ev.pos (by omega) (Ev.pos (by omega) (Ev.pos (by omega) (Ev.pure _))))))
    · simp only [n_pair.l1, h2, digit_f, Option.bind_some, e1, e2, e3]
      exact Ev.pos (by omega) (Ev.pos (by omega) (Ev.neg (by rw [h3];decide) (Ev.pos (by omega) (Ev.pos (by omega) (Ev.pos (by omega) (Ev.pos (by omega) (Ev.pure _)))))))
theorem pair_ev (s : ByteArray) (hs : s.size < big) : Ev (fun k => n_pair.f k s) (mkB (pr1 (L s)), mkB (pr2 (L s)), mkB (pr3 (L s))) := by
  unfold n_pair.f
  refine scan (p:=noDg) (F:=fun k j => n_pair.l0 k s j) hs (fun k j c h1 h2 hp => ?_) (L s) 0 rfl ?_
  · have hp' : isDg c = false := by simpa [noDg] using hp
    simp only [n_pair.l0,h2,digit_f,Option.bind_some,w64_succ (i:=j) (by rw [big_eq] at hs;omega)]
    rw [if_pos (by omega),if_pos (by omega),if_neg (by rw [hp'];decide)]
  · have hst := stop_at (s := s) (p := noDg) (i := 0) (Nat.zero_le _)
    have hb:=behind (s:=s) (p:=noDg) (i:=0) (Nat.zero_le _)
    simp only [Nat.zero_add,List.drop_zero] at *
    have key:=pair_l1 s hs _ hb.1 (by rw [take_run];rfl) hb.2
    refine Ev.succ ?_
    rcases hst with ⟨h,_⟩|⟨c,r,h1,h2,h3,_⟩
    · simp only [n_pair.l0]
      refine Ev.neg (by omega) (Ev.succ ?_)
      simp only [n_pair.j1]
      exact key
    · have hp' : isDg c = true := by simpa [noDg] using h3
      simp only [n_pair.l0,h2,digit_f,Option.bind_some]
      refine Ev.pos (by omega) (Ev.pos (by omega) (Ev.pos hp' (Ev.succ ?_)))
      simp only [n_pair.j1]
      exact key

def rkB (c:UInt8):Int:=rankF (c.toNat:Int)
theorem rank_f (c : UInt8) : n_rank.f (c.toNat : Int) = some (rkB c) := by
  unfold n_rank.f
  have:=u8_lt c
  rw [if_pos (by omega)]
  rfl
def wdS : List UInt8 → List UInt8 → Int
  | [],[] => 0
  | a :: l,[] => if rkB a=2 then wdS l [] else cmpI (rkB a) 2
  | [],b :: m => if 2=rkB b then wdS [] m else cmpI 2 (rkB b)
  | a :: l,b :: m => if rkB a=rkB b then wdS l m else cmpI (rkB a) (rkB b)
theorem words_l0 (s t : ByteArray) (hs : s.size < big) (ht : t.size < big) (n : Nat) (hn : n = max s.size t.size) : ∀ (d i : Nat), n - i = d → i ≤ n →
    Ev (fun k => n_words.l0 k s t (n:Int) (i:Int)) (wdS ((L s).drop i) ((L t).drop i))
  | 0,i,h,hi => by
    refine Ev.succ ?_
    simp only [n_words.l0]
    rw [List.drop_eq_nil_iff.2 (by rw [L_len];omega),List.drop_eq_nil_iff.2 (by rw [L_len];omega)]
    exact Ev.neg (by omega) (Ev.done (by simp [wdS]))
  | d+1,i,h,hi => by
    have hsu:=w64_succ (i:=i) (by rw [big_eq] at *;omega)
    have ih:=words_l0 s t hs ht n hn d (i+1) (by omega) (by omega)
    refine Ev.succ ?_
    simp only [n_words.l0]
    refine Ev.pos (by omega) ?_
    by_cases h1:i < s.size
    · obtain ⟨a, ha, hb⟩ := drop_some h1
      rw [hb,rank_f]
      simp only [Option.bind_some]
      refine Ev.pos (by omega) (Ev.pos (by omega) (Ev.succ ?_))
      simp only [n_words.j1,hsu]
      by_cases h2:i < t.size
      · obtain ⟨b, hc, hd⟩ := drop_some h2
        rw [hd,rank_f]
        simp only [Option.bind_some,Compare_byte_f]
        rw [ha,hc]
        simp only [wdS]
        refine Ev.pos (by omega) (Ev.pos (by omega) (Ev.ite (fun h3 => ?_) (fun h3 => ?_)))
        · rw [if_pos h3];exact ih
        · rw [if_neg h3];exact Ev.pure _
      · have hz : (L t).drop i = [] := List.drop_eq_nil_iff.2 (by rw [L_len]; omega)
        have hz1:(L t).drop (i+1)=[]:=List.drop_eq_nil_iff.2 (by rw [L_len];omega)
        rw [hz1] at ih
        rw [ha,hz]
        simp only [wdS,Compare_byte_f,Option.bind_some]
        refine Ev.neg (by omega) (Ev.ite (fun h3 => ?_) (fun h3 => ?_))
        · rw [if_pos h3];exact ih
        · rw [if_neg h3];exact Ev.pure _
    · have h2 : i < t.size := by omega
      obtain ⟨b,hc,hd⟩:=drop_some h2
      have hz:(L s).drop i=[]:=List.drop_eq_nil_iff.2 (by rw [L_len];omega)
      have hz1:(L s).drop (i+1)=[]:=List.drop_eq_nil_iff.2 (by rw [L_len];omega)
      rw [hz1] at ih
      refine Ev.neg (by omega) (Ev.succ ?_)
      simp only [n_words.j1,hsu]
      rw [hd,rank_f]
      simp only [Option.bind_some,Compare_byte_f]
      rw [hz,hc]
      simp only [wdS]
      refine Ev.pos (by omega) (Ev.pos (by omega) (Ev.ite (fun h3 => ?_) (fun h3 => ?_)))
      · rw [if_pos h3];exact ih
      · rw [if_neg h3];exact Ev.pure _
theorem words_ev (l m : List UInt8) (hl : l.length < big) (hm : m.length < big) : Ev (fun k => n_words.f k (mkB l) (mkB m)) (wdS l m) := by
  unfold n_words.f
  have e:mx ((mkB l).size:Int) ((mkB m).size:Int)=((max (mkB l).size (mkB m).size:Nat):Int):=by
    unfold mx
    split <;> omega
  rw [e]
  exact words_l0 (mkB l) (mkB m) (by rwa [size_mk]) (by rwa [size_mk]) _ rfl _ 0 rfl (Nat.zero_le _)
def rnS (l m:List UInt8):Int:=
  if l = [] ∨ m = [] then cmpI (if l = [] then 0 else 1) (if m = [] then 0 else 1) else orS [cmpI ((tl l).length : Int) ((tl m).length : Int), bcmp (tl l) (tl m)]
theorem mn_len (l : List UInt8) : mn ((mkB l).size : Int) 1 = if l = [] then 0 else 1 := by
  unfold mn
  rw [size_mk]
  cases l with
  | nil => rfl
  | cons c r => simp only [List.length_cons,reduceCtorEq,if_false];split <;> omega
theorem runs_ev (l m : List UInt8) (hl : l.length < big) (hm : m.length < big) : Ev (fun k => n_runs.f k (mkB l) (mkB m)) (rnS l m) := by
  unfold n_runs.f rnS
  simp only [toList_mk]
  refine Ev.ite (fun h => ?_) (fun h => ?_)
  · refine Ev.succ ?_
    simp only [n_runs.j0,mn_len,Compare_int_f,Option.bind_some]
    rw [if_pos (Or.inl h)]
    exact Ev.pos trivial (Ev.pure _)
  · refine Ev.succ ?_
    simp only [n_runs.j0,mn_len,Compare_int_f,Option.bind_some]
    refine Ev.ite (fun h' => ?_) (fun h' => ?_)
    · rw [if_pos (Or.inr (List.isEmpty_iff.1 h'))]
      exact Ev.pure _
    · rw [if_neg (by rintro (h1 | h1); exact h h1; exact h' (by rw [h1]; rfl))]
      refine Ev.bind (TrimLeft_ev l hl) (Ev.bind (TrimLeft_ev m hm) ?_)
      simp only [Compare_str_f,Option.bind_some,L_mk,size_mk]
      exact Ev.bind (Or_ev _ (by simp)) (Ev.pure _)
def vrF : Nat → List UInt8 → List UInt8 → Int
  | 0,_,_ => 0
  | n+1,l,m => if l=[]∧m=[] then 0 else if orS [wdS (pr1 l) (pr1 m),rnS (pr2 l) (pr2 m)]=0 then vrF n (pr3 l) (pr3 m) else orS [wdS (pr1 l) (pr1 m),rnS (pr2 l) (pr2 m)]
def vrS (l m:List UInt8):Int:=vrF (l.length+m.length+1) l m
theorem pr3_nil : pr3 [] = [] := rfl
theorem versions_l0 : ∀ (n : Nat) (l m : List UInt8), l.length + m.length < n → l.length < big → m.length < big → Ev (fun k => n_versions.l0 k (mkB l) (mkB m)) (vrF n l m)
  | 0,l,m,h,_,_ => by omega
  | n+1,l,m,h,hl,hm => by
    have step : ¬ (l=[]∧m=[])→Ev (fun k => n_versions.j1 k (mkB l) (mkB m) true) (vrF (n+1) l m):=by
      intro hne
      have h1:=pr_len l
      have h2:=pr_len m
      have hsh:(pr3 l).length+(pr3 m).length < l.length+m.length:=by
        by_cases hl0:l=[]
        · subst hl0
          have:=pr_short (l:=m) (fun hm0 => hne ⟨rfl,hm0⟩)
          rw [pr3_nil];omega
        · have := pr_short hl0
          omega
      refine Ev.succ ?_
      simp only [n_versions.j1]
      refine Ev.pos trivial (Ev.bind (pair_ev (mkB l) (by rwa [size_mk])) (Ev.bind (pair_ev (mkB m) (by rwa [size_mk])) ?_))
      simp only [L_mk]
      refine Ev.bind (words_ev _ _ (by omega) (by omega)) (Ev.bind (runs_ev _ _ (by omega) (by omega)) (Ev.bind (Or_ev _ (by simp)) ?_))
      simp only [vrF]
      rw [if_neg hne]
      refine Ev.ite (fun h3 => ?_) (fun h3 => ?_)
      · rw [if_pos h3]
        exact versions_l0 n _ _ (by omega) (by omega) (by omega)
      · rw [if_neg h3];exact Ev.pure _
    refine Ev.succ ?_
    simp only [n_versions.l0,toList_mk]
    refine Ev.ite (fun h1 => ?_) (fun h1 => ?_)
    · by_cases h2 : m = []
      · subst h1 h2
        refine Ev.succ ?_
        simp only [n_versions.j1]
        exact Ev.neg (by decide) (Ev.done rfl)
      · have : (!m.isEmpty) = true := by cases m <;> simp_all
        rw [this]
        exact step (fun hh => h2 hh.2)
    · exact step (fun hh => h1 hh.1)
theorem versions_ev (s t : ByteArray) (hs : s.size < big) (ht : t.size < big) : Ev (fun k => n_versions.f k s t) (vrS (L s) (L t)) := by
  unfold n_versions.f
  have:=versions_l0 ((L s).length+(L t).length+1) (L s) (L t) (by omega) (by rwa [L_len]) (by rwa [L_len])
  simp only [mk_L] at this
  exact this
end Go.Proofs.YtcdajedmlfhmeaaDoor.XN
end

section
/- The laws' head: what must come. (by this session) -/
-- NEEDS n_Compare w_alive
set_option linter.unusedVariables false
set_option linter.unusedSimpArgs false
namespace Go.Proofs.YtcdajedmlfhmeaaDoor.XN
open Go.RowKit Go.Proofs.YtcdajedmlfhmeaaDoorW.PrintWords Go.Proofs.YtcdajedmlfhmeaaDoorW.PrintMore

theorem Compare_h (kind : Int) (hk : kind = 16 ∨ kind = 64) (s t : ByteArray) (hs : s.size < 2305843009213693952) (ht : t.size < 2305843009213693952) : Ev (fun k => n_Compare.f k kind s t) (ordS (huS kind s) (huS kind t)) := by
  have key:Ev (fun k => n_Compare.j0 k kind s t kind true) (ordS (huS kind s) (huS kind t)):=by
    refine Ev.succ ?_
    simp only [n_Compare.j0]
    refine Ev.pos trivial (Ev.bind (human_ev kind s hs) (Ev.bind (human_ev kind t ht) (Ev.bind (order_ev (huS kind s) (huS kind t) ?_) (Ev.pure _))))
    unfold huS
    exact szS_sign _ _ _ _
  unfold n_Compare.f
  rcases hk with rfl|rfl
  · exact Ev.pos rfl key
  · exact Ev.neg (by decide) key
theorem Compare_m (s t : ByteArray) (hs : s.size < big) (ht : t.size < big) : Ev (fun k => n_Compare.f k 128 s t) (cmpI (monS (L s)) (monS (L t))) := by
  unfold n_Compare.f
  refine Ev.neg (by decide) (Ev.succ ?_)
  simp only [n_Compare.j0,Compare_int_f,Option.bind_some]
  refine Ev.neg (by decide) (Ev.pos trivial (Ev.bind (Month_ev s hs) (Ev.bind (Month_ev t ht) (Ev.pure _))))
theorem Compare_v (s t : ByteArray) (hs : s.size < big) (ht : t.size < big) : Ev (fun k => n_Compare.f k 256 s t) (vrS (L s) (L t)) := by
  unfold n_Compare.f
  refine Ev.neg (by decide) (Ev.succ ?_)
  simp only [n_Compare.j0]
  refine Ev.neg (by decide) (Ev.neg (by decide) (Ev.pos trivial (Ev.bind (versions_ev s t hs ht) (Ev.pure _))))
theorem alive_dec : decS [45, 49, 50, 46, 53, 120] = (true, [49, 50], [53], 5) := by decide +kernel
theorem alive_n : ordS (huS 16 ⟨#[57]⟩) (huS 16 ⟨#[49, 48]⟩) = -1 := by decide +kernel
theorem alive_v : vrS [98] [97] = 1 := by
  have h1:wdS [98] [97]=1:=by simp only [wdS];decide +kernel
  have e1:pr1 [98]=[98]:=by decide +kernel
  have e2:pr1 [97]=[97]:=by decide +kernel
  unfold vrS
  simp only [List.length_cons,List.length_nil,vrF,e1,e2,h1,orS]
  decide
theorem alive_ev : Ev (fun k => w_alive.f k) true := by
  unfold w_alive.f
  refine Ev.bind (Decimal_ev ⟨#[45,49,50,46,53,120]⟩ (by decide)) ?_
  have e:decV (L ⟨#[45,49,50,46,53,120]⟩)=(true,mkB [49,50],mkB [53],5):=by
    unfold decV
    rw [show L ⟨#[45,49,50,46,53,120]⟩=[45,49,50,46,53,120] from rfl,alive_dec]
    rfl
  rw [e]
  simp only [toList_mk]
  refine Ev.pos trivial (Ev.pos trivial (Ev.pos trivial (Ev.pos trivial ?_)))
  refine Ev.bind (Compare_h 16 (Or.inl rfl) _ _ (by decide) (by decide)) ?_
  rw [alive_n]
  refine Ev.pos rfl (Ev.bind (Compare_v _ _ (by decide) (by decide)) ?_)
  rw [show L ⟨#[98]⟩=[98] from rfl,show L ⟨#[97]⟩=[97] from rfl,alive_v]
  exact Ev.done rfl
end Go.Proofs.YtcdajedmlfhmeaaDoor.XN
end

section
/- General: what numeral and millref3 compute. (by this session) -/
-- NEEDS n_exponent r_exponent n_General r_General r_Norm
set_option linter.unusedVariables false
set_option linter.unusedSimpArgs false
namespace Go.Proofs.YtcdajedmlfhmeaaDoor.XN
open Go.RowKit Go.Proofs.YtcdajedmlfhmeaaDoorW.PrintWords Go.Proofs.YtcdajedmlfhmeaaDoorW.PrintMore

def most:Nat:=1099511627776
theorem most_eq : most = 1099511627776 := rfl
def dvf (n:Nat) (l:List UInt8):Nat:=l.foldl (fun n c => 10 * n+(c.toNat - 48)) n
def dval (l:List UInt8):Nat:=dvf 0 l
theorem dvf_cons (n : Nat) (c : UInt8) (l : List UInt8) : dvf n (c :: l) = dvf (10 * n + (c.toNat - 48)) l := by unfold dvf; rw [List.foldl_cons]
theorem dvf_app (n : Nat) (l m : List UInt8) : dvf n (l ++ m) = dvf (dvf n l) m := by unfold dvf; rw [List.foldl_append]
theorem dvf_ge : ∀ (l : List UInt8) (n : Nat), n * 10 ^ l.length ≤ dvf n l
  | [],n => by simp [dvf]
  | c :: l,n => by
    rw [dvf_cons]
    refine Nat.le_trans ?_ (dvf_ge l _)
    rw [List.length_cons,Nat.pow_succ,Nat.mul_comm (10 ^ l.length) 10,← Nat.mul_assoc]
    exact Nat.mul_le_mul_right _ (by omega)
theorem dvf_lt : ∀ (l : List UInt8) (n : Nat), (∀ c ∈ l, isDg c = true) → dvf n l < (n + 1) * 10 ^ l.length
  | [],n,_ => by simp [dvf]
  | c :: l,n,h => by
    rw [dvf_cons]
    have hc:isDg c=true:=h c (by simp)
    have hd:c.toNat - 48≤9:=by
      unfold isDg plainDig at hc
      simp at hc
      omega
    refine Nat.lt_of_lt_of_le (dvf_lt l _ fun d hd => h d (by simp [hd])) ?_
    rw [List.length_cons,Nat.pow_succ,Nat.mul_comm (10 ^ l.length) 10,← Nat.mul_assoc]
    exact Nat.mul_le_mul_right _ (by omega)
theorem isDg_iff (c : UInt8) : isDg c = true ↔ 48 ≤ (c.toNat : Int) ∧ (c.toNat : Int) ≤ 57 := by unfold isDg plainDig; simp
theorem run_dg (l : List UInt8) : ∀ c ∈ l.takeWhile isDg, isDg c = true := by
  induction l with
  | nil => intro c h;cases h
  | cons d l ih =>
    intro c h
    rw [List.takeWhile_cons] at h
    split at h
    · rename_i hd
      rcases List.mem_cons.1 h with rfl|h
      · exact hd
      · exact ih c h
    · cases h
def satF (n : Nat) : List UInt8 → Nat
  | [] => n
  | c :: r => if isDg c=true then satF (min (n * 10+(c.toNat - 48)) most) r else n
theorem satF_run : ∀ (l : List UInt8) (a : Nat), satF (min a most) l = min (dvf a (l.takeWhile isDg)) most
  | [],a => rfl
  | c :: r,a => by
    rw [List.takeWhile_cons]
    unfold satF
    by_cases hc:isDg c=true
    · rw [if_pos hc, if_pos hc, dvf_cons, ← satF_run r]
      congr 1
      rw [most_eq]
      omega
    · rw [if_neg hc,if_neg hc];rfl
theorem satF_0 (l : List UInt8) : satF 0 l = min (dval (l.takeWhile isDg)) most := by
  have:=satF_run l 0
  rw [show min 0 most=0 by rw [most_eq];rfl] at this
  exact this
theorem expo_l0 (s : ByteArray) (hs : s.size < big) (sg : Int) (hsg : sg = 1 ∨ sg = -1) : ∀ (l : List UInt8) (i en n : Nat), (L s).drop i = l → i ≤ s.size → n ≤ most →
    Ev (fun k => n_exponent.l0 k s (i:Int) (en:Int) sg (n:Int)) (sg * (satF n l:Int),((if l.takeWhile isDg=[] then en else i+(l.takeWhile isDg).length:Nat):Int))
  | [],i,en,n,hl,hi,hn => by
    have:=drop_nil hl
    rw [most_eq] at hn
    refine Ev.succ ?_
    simp only [n_exponent.l0]
    refine Ev.neg (by omega) (Ev.done ?_)
    rw [w64 (x:=sg * (n:Int)) (by rcases hsg with rfl|rfl <;> omega)]
    rfl
  | c :: r,i,en,n,hl,hi,hn => by
    obtain ⟨h1,h2,h3⟩:=drop_cons hl
    refine Ev.succ ?_
    simp only [n_exponent.l0,h2,digit_f,Option.bind_some]
    refine Ev.pos (by omega) (Ev.pos (by omega) ?_)
    rw [List.takeWhile_cons]
    unfold satF
    have hb:=hs
    rw [big_eq] at hb
    by_cases hc:isDg c=true
    · refine Ev.pos hc ?_
      rw [if_pos hc,if_pos hc]
      have hcc:=(isDg_iff c).1 hc
      have hm:=hn
      rw [most_eq] at hm
      have e1:mn (wrap64 (wrap64 ((n:Int) * 10)+((c.toNat:Int) - 48) % 256)) 1099511627776=((min (n * 10+(c.toNat - 48)) most:Nat):Int):=by
        rw [w64 (x:=(n:Int) * 10) (by omega),w64 (by omega),most_eq]
        unfold mn
        omega
      simp only [w64_succ (i:=i) (by omega),e1]
      refine Ev.val (expo_l0 s hs sg hsg r (i+1) (i+1) _ h3 (by omega) (Nat.min_le_right _ _)) ?_
      congr 2
      simp only [List.length_cons,reduceCtorEq,if_false]
      split
      · rename_i h;rw [h];rfl
      · omega
    · refine Ev.neg hc (Ev.done ?_)
      rw [most_eq] at hn
      rw [if_neg hc,if_neg hc,w64 (x:=sg * (n:Int)) (by rcases hsg with rfl|rfl <;> omega)]
      rfl
def sgE : List UInt8 → Bool × Nat
  | [] => (false,0)
  | c :: _ => if (c.toNat:Int)=45 then (true,1) else if (c.toNat:Int)=43 then (false,1) else (false,0)
theorem sgE_cons (c : UInt8) (r : List UInt8) : sgE (c :: r) = if (c.toNat : Int) = 45 then (true, 1) else if (c.toNat : Int) = 43 then (false, 1) else (false, 0) := rfl
def isE (c:UInt8):Bool:=decide (c=101) || decide (c=69)
def expS : List UInt8 → Int × Nat
  | [] => (0, 0)
  | c :: r =>
    if isE c = true then
      let d := (r.drop (sgE r).2).takeWhile isDg
      if d = [] then (0, 0) else ((if (sgE r).1 = true then -1 else 1) * (min (dval d) most : Nat), 1 + (sgE r).2 + d.length)
    else (0, 0)
theorem expS_range (l : List UInt8) : -1099511627776 ≤ (expS l).1 ∧ (expS l).1 ≤ 1099511627776 := by
  unfold expS
  split
  · simp
  · split
    · simp only []
      split
      · simp
      · simp only [most_eq]
        split <;> omega
    · simp
theorem orE (c : UInt8) : (Go.bits .or .u8 (c.toNat : Int) 32 = 101) ↔ isE c = true := by
  have : ∀ c:UInt8,(Go.bits .or .u8 (c.toNat:Int) 32=101)↔isE c=true:=all8 (by decide +kernel)
  exact this c
theorem lowE (c : UInt8) : (((lowB c).toNat : Int) = 101) ↔ isE c = true := by
  have : ∀ c:UInt8,(((lowB c).toNat:Int)=101)↔isE c=true:=all8 (by decide +kernel)
  exact this c
theorem expo_tail (s : ByteArray) (hs : s.size < big) (sg : Int) (hsg : sg = 1 ∨ sg = -1) (i j : Nat) (hj : j ≤ s.size) :
    Ev (fun k => n_exponent.l0 k s (j : Int) (i : Int) sg 0)
      (if ((L s).drop j).takeWhile isDg=[] then (0,(i:Int)) else (sg * ((min (dval (((L s).drop j).takeWhile isDg)) most:Nat):Int),((j+(((L s).drop j).takeWhile isDg).length:Nat):Int))):=by
  refine Ev.val (expo_l0 s hs sg hsg _ j i 0 rfl hj (Nat.zero_le _)) ?_
  rw [satF_0]
  split
  · rename_i h
    rw [h,show dval []=0 from rfl]
    simp [most_eq]
  · rfl
theorem exponent_ev (s : ByteArray) (hs : s.size < big) (i : Nat) (hi : i ≤ s.size) : Ev (fun k => n_exponent.f k s (i : Int)) ((expS ((L s).drop i)).1, ((i + (expS ((L s).drop i)).2 : Nat) : Int)) := by
  unfold n_exponent.f
  have hb:=hs
  rw [big_eq] at hb
  by_cases he:i=s.size
  · refine Ev.pos (by omega) (Ev.done ?_)
    rw [List.drop_eq_nil_iff.2 (by rw [L_len];omega)]
    rfl
  obtain ⟨c,hc,hbc⟩:=drop_some (s:=s) (i:=i) (by omega)
  refine Ev.neg (by omega) (Ev.pos (by omega) (Ev.pos (by omega) ?_))
  rw [hc,hbc]
  unfold expS
  by_cases hE:isE c=true
  · refine Ev.pos ((orE c).2 hE) ?_
    simp only [if_pos hE,w64_succ (i:=i) (by omega)]
    by_cases h1:i+1 < s.size
    · obtain ⟨d, hd, hbd⟩ := drop_some (s := s) (i := i + 1) h1
      refine Ev.pos (by omega) (Ev.pos (by omega) ?_)
      rw [hbd,hd]
      simp only [sgE_cons]
      by_cases h45:(d.toNat:Int)=45
      · refine Ev.pos h45 ?_
        simp only [if_pos h45,w64_succ (i:=i+1) (by omega),List.drop_succ_cons,List.drop_zero]
        refine Ev.val (expo_tail s hs (-1) (Or.inr rfl) i (i+1+1) (by omega)) ?_
        split
        · rfl
        · simp only [if_true]
          congr 2
          omega
      · refine Ev.neg h45 ?_
        simp only [if_neg h45]
        by_cases h43:(d.toNat:Int)=43
        · refine Ev.pos h43 ?_
          simp only [if_pos h43,w64_succ (i:=i+1) (by omega),List.drop_succ_cons,List.drop_zero]
          refine Ev.val (expo_tail s hs 1 (Or.inl rfl) i (i+1+1) (by omega)) ?_
          split
          · rfl
          · simp only [Bool.false_eq_true, if_false]
            congr 2
            omega
        · refine Ev.neg h43 ?_
          simp only [if_neg h43,List.drop_zero]
          refine Ev.val (expo_tail s hs 1 (Or.inl rfl) i (i+1) (by omega)) ?_
          rw [hd]
          split
          · rfl
          · simp only [Bool.false_eq_true, if_false]
            congr 2
            omega
    · refine Ev.neg (by omega) ?_
      have hn:(L s).drop (i+1)=[]:=List.drop_eq_nil_iff.2 (by rw [L_len];omega)
      refine Ev.val (expo_tail s hs 1 (Or.inl rfl) i (i+1) (by omega)) ?_
      rw [hn]
      rfl
  · refine Ev.neg (fun h => hE ((orE c).1 h)) (Ev.done ?_)
    simp only [if_neg hE]
    rfl
theorem dval_tl : ∀ (l : List UInt8), dval (tl l) = dval l
  | [] => rfl
  | c :: r => by
    unfold tl
    rw [List.dropWhile_cons]
    split
    · rename_i h
      have hc:=(is0_iff c).1 h
      show dval (tl r)=_
      rw [dval_tl r]
      unfold dval
      rw [dvf_cons,show 10 * 0+(c.toNat - 48)=0 by omega]
    · rfl
theorem tl_dg {l : List UInt8} (h : ∀ c ∈ l, isDg c = true) : ∀ c ∈ tl l, isDg c = true := by
  intro c hc
  exact h c ((List.dropWhile_sublist is0).subset hc)
theorem rexpo_l0 (d : List UInt8) (hd : ∀ c ∈ d, isDg c = true) (neg : Bool) (x8 : Int) (hl : d.length < big) : ∀ (m q : Nat), 14 - q = m → q ≤ d.length → q ≤ 14 →
    Ev (fun k => r_exponent.l0 k neg x8 (mkB d) ((dvf 0 (d.take q) : Nat) : Int) (q : Int))
      ((if neg=true then -1 else 1) * (if dval (d.take 14) > most then (most:Int) else if d.length > 14 then (most:Int) else ((dval (d.take 14):Nat):Int)),x8):=by
  have htop : ∀ q, d.take q = d.take 14 → dvf 0 (d.take q) < 10 ^ 14 → Ev (fun k => (if ((dvf 0 (d.take q) : Nat) : Int) > 1099511627776 then (if neg = true then (some (-1099511627776, x8)) else (some (1099511627776, x8))) else (if ((mkB d).size : Int) > 14 then (if neg = true then (some (-1099511627776, x8)) else (some (1099511627776, x8))) else (if neg = true then (some (wrap64 (-((dvf 0 (d.take q) : Nat) : Int)), x8)) else (some (((dvf 0 (d.take q) : Nat) : Int), x8)))) : Option (Int × Int)))
      ((if neg=true then -1 else 1) * (if dval (d.take 14) > most then (most:Int) else if d.length > 14 then (most:Int) else ((dval (d.take 14):Nat):Int)),x8):=by
    intro q hq hlt
    rw [hq] at hlt ⊢
    rw [size_mk]
    unfold dval
    generalize dvf 0 (d.take 14)=v at *
    rw [most_eq]
    have hv:v < 100000000000000:=hlt
    refine Ev.ite (fun h => ?_) (fun h => ?_)
    · rw [if_pos (show v > 1099511627776 by omega)]
      cases neg <;> exact Ev.done rfl
    · rw [if_neg (show ¬ v > 1099511627776 by omega)]
      refine Ev.ite (fun h2 => ?_) (fun h2 => ?_)
      · rw [if_pos (show d.length > 14 by omega)]
        cases neg <;> exact Ev.done rfl
      · rw [if_neg (show ¬ d.length > 14 by omega)]
        rw [w64 (by omega)]
        cases neg
        · exact Ev.done (by simp)
        · exact Ev.done (by simp)
  have hbnd : ∀ q,q≤14→dvf 0 (d.take q) < 10 ^ 14:=by
    intro q hq
    have:=dvf_lt (d.take q) 0 (fun c hc => hd c (List.mem_of_mem_take hc))
    refine Nat.lt_of_lt_of_le this ?_
    rw [Nat.zero_add,Nat.one_mul]
    exact Nat.pow_le_pow_right (by decide) (by rw [List.length_take];omega)
  intro m
  induction m with
  | zero =>
    intro q hm hq h14
    have hq14:q=14:=by omega
    subst hq14
    refine Ev.succ ?_
    simp only [r_exponent.l0]
    by_cases h:(14:Nat) < d.length
    · refine Ev.pos (by rw [size_mk]; omega) (Ev.neg (by omega) ?_)
      exact htop 14 rfl (hbnd 14 (by omega))
    · refine Ev.neg (by rw [size_mk]; omega) ?_
      exact htop 14 rfl (hbnd 14 (by omega))
  | succ m ih =>
    intro q hm hq h14
    refine Ev.succ ?_
    simp only [r_exponent.l0]
    by_cases h:q < d.length
    · refine Ev.pos (by rw [size_mk]; omega) (Ev.pos (by omega) (Ev.pos (by omega) ?_))
      have hc:isDg d[q]=true:=hd _ (List.getElem_mem h)
      have hcc:=(isDg_iff _).1 hc
      have hbt:bt (mkB d) (q:Int)=(d[q].toNat:Int):=bt_nat (mkB d) q h
      have hlt:=hbnd q h14
      have hlt' : dvf 0 (d.take q) < 100000000000000:=hlt
      rw [hbt]
      have e1:wrap64 (wrap64 (10 * ((dvf 0 (d.take q):Nat):Int))+((d[q].toNat:Int) - 48) % 256)=((dvf 0 (d.take (q+1)):Nat):Int):=by
        rw [w64 (x:=10 * ((dvf 0 (d.take q):Nat):Int)) (by omega),w64 (by omega)]
        rw [List.take_succ_eq_append_getElem h,dvf_app]
        show _=((10 * dvf 0 (d.take q)+(d[q].toNat - 48):Nat):Int)
        omega
      rw [e1,w64_succ (i:=q) (by omega)]
      exact ih (q+1) (by omega) (by omega) (by omega)
    · refine Ev.neg (by rw [size_mk]; omega) ?_
      have hqe:q=d.length:=by omega
      exact htop q (by rw [List.take_of_length_le (by omega),List.take_of_length_le (by omega)]) (hbnd q h14)
theorem rval (d : List UInt8) (hd : ∀ c ∈ d, isDg c = true) : (if dval ((tl d).take 14) > most then (most : Int) else if (tl d).length > 14 then (most : Int) else ((dval ((tl d).take 14) : Nat) : Int)) = ((min (dval d) most : Nat) : Int) := by
  rw [← dval_tl d]
  have hd':=tl_dg hd
  have hh : ∀ c r,tl d=c :: r→is0 c=false:=fun c r h => dropWhile_head h
  generalize tl d=t at *
  by_cases h:t.length > 14
  · have hge:most≤dval t:=by
      cases t with
      | nil => simp at h
      | cons c r =>
        have hc:=(isDg_iff c).1 (hd' c (by simp))
        have h0:=is0_false (hh c r rfl)
        unfold dval
        rw [dvf_cons]
        refine Nat.le_trans ?_ (dvf_ge r _)
        have:10 ^ 14≤10 ^ r.length:=Nat.pow_le_pow_right (by decide) (by simp at h;omega)
        have h2:10 * 0+(c.toNat - 48) ≥ 1:=by omega
        have h3:1 * 10 ^ r.length≤(10 * 0+(c.toNat - 48)) * 10 ^ r.length:=Nat.mul_le_mul_right _ h2
        have h4:most≤10 ^ 14:=by rw [most_eq];decide
        omega
    rw [if_pos h]
    rw [Nat.min_eq_right hge]
    split <;> rfl
  · rw [if_neg h, List.take_of_length_le (by omega)]
    split <;> omega
theorem rexpo_tail (s : ByteArray) (hs : s.size < big) (neg : Bool) (i j : Nat) (hj : j ≤ s.size) (b : Bool) (hb : b = neg) :
    Ev (fun k => (r_run.f k s (j : Int)).bind fun t363 => (if t363 = (j : Int) then (some (0, (i : Int))) else (if (j : Int) ≤ t363 then (if t363 ≤ (s.size : Int) then ((r_zeros.f k (s.extract ((j : Int)).toNat (t363 : Int).toNat)).bind fun t364 => (if 0 ≤ t364 then (if t364 ≤ ((t363.toNat - ((j : Int)).toNat : Nat) : Int) then (r_exponent.l0 k b t363 ((s.extract ((j : Int)).toNat (t363 : Int).toNat).extract (t364 : Int).toNat (t363.toNat - ((j : Int)).toNat)) 0 0) else (none)) else (none))) else (none)) else (none))))
      (if ((L s).drop j).takeWhile isDg=[] then (0,(i:Int)) else ((if neg=true then -1 else 1) * ((min (dval (((L s).drop j).takeWhile isDg)) most:Nat):Int),((j+(((L s).drop j).takeWhile isDg).length:Nat):Int))):=by
  subst hb
  have hst:=(behind (p:=isDg) hj).1
  have hdg:=run_dg ((L s).drop j)
  refine Ev.bind (run_ev s hs j hj) ?_
  have hx:s.extract j (j+(((L s).drop j).takeWhile isDg).length)=mkB (((L s).drop j).takeWhile isDg):=by
    rw [extract_mk',Nat.add_sub_cancel_left,take_run]
  generalize hd:((L s).drop j).takeWhile isDg=d at *
  rw [big_eq] at hs
  by_cases h0:d=[]
  · rw [if_pos h0]
    refine Ev.pos (by rw [h0];simp) (Ev.pure _)
  · rw [if_neg h0]
    have hpos:0 < d.length:=List.length_pos_iff.2 h0
    refine Ev.neg (by omega) (Ev.pos (by omega) (Ev.pos (by omega) ?_))
    simp only [Int.toNat_natCast,hx,Nat.add_sub_cancel_left]
    have hz:=zeros_ev (mkB d) (by rw [size_mk,big_eq];omega)
    rw [L_mk] at hz
    refine Ev.bind hz ?_
    have hzl:=take_len (p:=is0) d
    refine Ev.pos (by omega) (Ev.pos (by omega) ?_)
    have hy:(mkB d).extract (d.takeWhile is0).length d.length=mkB (tl d):=by
      have:=extract_end (mkB d) (d.takeWhile is0).length
      rw [size_mk,L_mk,drop_run] at this
      exact this
    simp only [Int.toNat_natCast,hy]
    have:=rexpo_l0 (tl d) (tl_dg hdg) b (((j+d.length:Nat):Int)) (by have:=tl_len d;rw [big_eq];omega) 14 0 rfl (Nat.zero_le _) (by omega)
    rw [rval d hdg] at this
    exact this
theorem rexponent_ev (s : ByteArray) (hs : s.size < big) (i : Nat) (hi : i ≤ s.size) : Ev (fun k => r_exponent.f k s (i : Int)) ((expS ((L s).drop i)).1, ((i + (expS ((L s).drop i)).2 : Nat) : Int)) := by
  unfold r_exponent.f
  have hb:=hs
  rw [big_eq] at hb
  by_cases he:i=s.size
  · refine Ev.pos (by omega) (Ev.done ?_)
    rw [List.drop_eq_nil_iff.2 (by rw [L_len];omega)]
    rfl
  obtain ⟨c,hc,hbc⟩:=drop_some (s:=s) (i:=i) (by omega)
  refine Ev.neg (by omega) (Ev.pos (by omega) (Ev.pos (by omega) ?_))
  rw [hc,hbc]
  simp only [low_f,Option.bind_some]
  unfold expS
  by_cases hE:isE c=true
  · refine Ev.pos ((lowE c).2 hE) ?_
    simp only [if_pos hE,w64_succ (i:=i) (by omega)]
    by_cases h1:i+1 < s.size
    · obtain ⟨d, hd, hbd⟩ := drop_some (s := s) (i := i + 1) h1
      refine Ev.pos (by omega) (Ev.pos (by omega) ?_)
      rw [hbd,hd]
      simp only [sgE_cons]
      by_cases h45:(d.toNat:Int)=45
      · refine Ev.pos h45 ?_
        simp only [if_pos h45,w64_succ (i:=i+1) (by omega),List.drop_succ_cons,List.drop_zero]
        simp only [if_pos (show (0:Int)≤((i+1+1:Nat):Int) by omega)]
        refine Ev.val (rexpo_tail s hs true i (i+1+1) (by omega) _ (by simp [h45])) ?_
        split
        · rfl
        · simp only [if_true]
          congr 2
          omega
      · refine Ev.neg h45 ?_
        simp only [if_neg h45]
        by_cases h43:(d.toNat:Int)=43
        · refine Ev.pos h43 ?_
          simp only [if_pos h43,w64_succ (i:=i+1) (by omega),List.drop_succ_cons,List.drop_zero]
          simp only [if_pos (show (0:Int)≤((i+1+1:Nat):Int) by omega)]
          refine Ev.val (rexpo_tail s hs false i (i+1+1) (by omega) _ (by simp [h43])) ?_
          split
          · rfl
          · simp only [Bool.false_eq_true, if_false]
            congr 2
            omega
        · refine Ev.neg h43 ?_
          simp only [if_neg h43,List.drop_zero]
          refine Ev.val (rexpo_tail s hs false i (i+1) (by omega) _ rfl) ?_
          rw [hd]
          split
          · rfl
          · simp only [Bool.false_eq_true, if_false]
            congr 2
            omega
    · refine Ev.neg (by omega) ?_
      have hn:(L s).drop (i+1)=[]:=List.drop_eq_nil_iff.2 (by rw [L_len];omega)
      simp only [if_pos (show (0:Int)≤((i+1:Nat):Int) by omega)]
      refine Ev.val (rexpo_tail s hs false i (i+1) (by omega) _ rfl) ?_
      rw [hn]
      rfl
  · refine Ev.neg (fun h => hE ((lowE c).1 h)) (Ev.done ?_)
    simp only [if_neg hE]
    rfl
end Go.Proofs.YtcdajedmlfhmeaaDoor.XN
end

section
/- General: the whole, both sides; Compare at g and at any other kind. (by this session) -/
-- NEEDS n_General r_General r_Norm
set_option linter.unusedVariables false
set_option linter.unusedSimpArgs false
namespace Go.Proofs.YtcdajedmlfhmeaaDoor.XN
open Go.RowKit Go.Proofs.YtcdajedmlfhmeaaDoorW.PrintWords Go.Proofs.YtcdajedmlfhmeaaDoorW.PrintMore

def wInfinity:List UInt8:=[105,110,102,105,110,105,116,121]
def wInf:List UInt8:=[105,110,102]
def wNan:List UInt8:=[110,97,110]
abbrev Gn := Int × Bool × List UInt8 × Int × Nat
def genB (neg:Bool) (n:List UInt8) (i:Nat):Gn:=
  if bgN n wInfinity = true then ((if neg = true then 2 else 4), false, [], 0, i + 8)
  else if bgN n wInf = true then ((if neg = true then 2 else 4), false, [], 0, i + 3)
  else if bgN n wNan = true then (1, false, [], 0, i + 3)
  else if noneAt n = true then (0, false, [], 0, 0)
  else
    let d := digS (plS n).1 (plS n).2.1 (expS (n.drop (plS n).2.2)).1
    (3, neg && !d.1.isEmpty, d.1, d.2, i + (plS n).2.2 + (expS (n.drop (plS n).2.2)).2)
def genN (l:List UInt8):Nat:=blkN l+(sgE (l.drop (blkN l))).2
def genS (l:List UInt8):Gn:=genB (sgE (l.drop (blkN l))).1 (l.drop (genN l)) (genN l)
def gnV (g:Gn):Int × Bool × ByteArray × Int × Int:=(g.1,g.2.1,mkB g.2.2.1,g.2.2.2.1,(g.2.2.2.2:Int))
theorem gen_l0 (s : ByteArray) (hs : s.size < 2305843009213693952) (neg : Bool) (i : Nat) (hi : i ≤ s.size) : Ev (fun k => n_General.l0 k s (i : Int) neg 0) (gnV (genB neg ((L s).drop i) i)) := by
  have hb:s.size < big:=by rw [big_eq];omega
  have hstop : ¬ bgN ((L s).drop i) wInfinity = true → ¬ bgN ((L s).drop i) wInf = true → ¬ bgN ((L s).drop i) wNan = true →
      Ev (fun k => n_General.l0 k s (i:Int) neg 3) (gnV (genB neg ((L s).drop i) i)):=by
    intro h1 h2 h3
    refine Ev.succ ?_
    simp only [n_General.l0]
    refine Ev.neg (by decide) ?_
    have hpl:=plS_len ((L s).drop i)
    rw [List.length_drop,L_len] at hpl
    have hp1:=pl1_len ((L s).drop i)
    have hp2:=pl2_len ((L s).drop i)
    have hdl:=size_drop s i
    rw [plain_f s hb i hi]
    simp only [Option.bind_some]
    unfold genB
    rw [if_neg h1,if_neg h2,if_neg h3]
    by_cases h0:noneAt ((L s).drop i)=true
    · rw [if_pos h0, if_pos h0]
      exact Ev.pos rfl (Ev.done rfl)
    · rw [if_neg h0, if_neg h0]
      have hpos:=pl_pos h0
      refine Ev.neg (by simp only;omega) ?_
      refine Ev.bind (exponent_ev s hb (i+(plS ((L s).drop i)).2.2) (by omega)) ?_
      rw [← List.drop_drop]
      have hr:=expS_range (((L s).drop i).drop (plS ((L s).drop i)).2.2)
      refine Ev.bind (digits_ev _ _ _ (by omega) (by omega) (by omega)) ?_
      simp only [toList_mk]
      refine Ev.ite (fun hn => ?_) (fun hn => ?_)
      · rw [hn];exact Ev.done (by simp [gnV])
      · rw [Bool.not_eq_true] at hn;rw [hn];exact Ev.done (by simp [gnV])
  have hb':=hb
  rw [big_eq] at hb'
  refine Ev.succ ?_
  simp only [n_General.l0]
  refine Ev.pos (by decide) (Ev.pos trivial (Ev.bind (begins_ev s hb i hi wInfinity (by decide) (by decide)) ?_))
  by_cases h1:bgN ((L s).drop i) wInfinity=true
  · refine Ev.pos h1 ?_
    have hl:i+8≤s.size:=by
      rcases Nat.lt_or_ge ((L s).drop i).length 8 with h|h
      · rw [bgN_short _ wInfinity h] at h1;cases h1
      · rw [List.length_drop,L_len] at h;omega
    have e8:wrap64 ((i:Int)+8)=((i+8:Nat):Int):=w64_nat (by omega) (by omega)
    unfold genB
    rw [if_pos h1]
    simp only [e8]
    refine Ev.ite (fun hn => ?_) (fun hn => ?_)
    · refine Ev.succ ?_
      simp only [n_General.j4]
      exact Ev.neg (by decide +kernel) (Ev.done (by rw [hn];rfl))
    · refine Ev.succ ?_
      simp only [n_General.j4]
      exact Ev.neg (by decide +kernel) (Ev.done (by rw [if_neg hn];rfl))
  refine Ev.neg h1 (Ev.succ ?_)
  rw [show wrap64 (0+1)=1 by rw [w64 (by omega)];rfl]
  simp only [n_General.l0]
  refine Ev.pos (by decide) (Ev.neg (by decide) (Ev.pos trivial (Ev.bind (begins_ev s hb i hi wInf (by decide) (by decide)) ?_)))
  by_cases h2:bgN ((L s).drop i) wInf=true
  · refine Ev.pos h2 ?_
    have hl:i+3≤s.size:=by
      rcases Nat.lt_or_ge ((L s).drop i).length 3 with h|h
      · rw [bgN_short _ wInf h] at h2;cases h2
      · rw [List.length_drop,L_len] at h;omega
    have e8:wrap64 ((i:Int)+3)=((i+3:Nat):Int):=w64_nat (by omega) (by omega)
    unfold genB
    rw [if_neg h1,if_pos h2]
    simp only [e8]
    refine Ev.ite (fun hn => ?_) (fun hn => ?_)
    · refine Ev.succ ?_
      simp only [n_General.j5]
      exact Ev.neg (by decide +kernel) (Ev.done (by rw [hn];rfl))
    · refine Ev.succ ?_
      simp only [n_General.j5]
      exact Ev.neg (by decide +kernel) (Ev.done (by rw [if_neg hn];rfl))
  refine Ev.neg h2 (Ev.succ ?_)
  rw [show wrap64 (1+1)=2 by rw [w64 (by omega)];rfl]
  simp only [n_General.l0]
  refine Ev.pos (by decide) (Ev.neg (by decide) (Ev.neg (by decide) (Ev.pos trivial (Ev.bind (begins_ev s hb i hi wNan (by decide) (by decide)) ?_))))
  by_cases h3:bgN ((L s).drop i) wNan=true
  · refine Ev.pos h3 ?_
    have hl:i+3≤s.size:=by
      rcases Nat.lt_or_ge ((L s).drop i).length 3 with h|h
      · rw [bgN_short _ wNan h] at h3;cases h3
      · rw [List.length_drop,L_len] at h;omega
    have e8:wrap64 ((i:Int)+3)=((i+3:Nat):Int):=w64_nat (by omega) (by omega)
    unfold genB
    rw [if_neg h1,if_neg h2,if_pos h3]
    simp only [e8]
    refine Ev.ite (fun hn => ?_) (fun hn => ?_)
    · refine Ev.succ ?_
      simp only [n_General.j6]
      exact Ev.pos (by decide +kernel) (Ev.done (by rfl))
    · refine Ev.succ ?_
      simp only [n_General.j6]
      exact Ev.pos (by decide +kernel) (Ev.done (by rfl))
  refine Ev.neg h3 ?_
  rw [show wrap64 (2+1)=3 by rw [w64 (by omega)];rfl]
  exact hstop h1 h2 h3
theorem General_ev (s : ByteArray) (hs : s.size < 2305843009213693952) : Ev (fun k => n_General.f k s) (gnV (genS (L s))) := by
  have hb:s.size < big:=by rw [big_eq];omega
  have hb':=hb
  rw [big_eq] at hb'
  have hbl:=blkN_le s
  unfold n_General.f genS genN
  refine Ev.bind (blanks_ev s hb) ?_
  generalize blkN (L s)=i at *
  by_cases h:i < s.size
  · obtain ⟨c, hc, hbc⟩ := drop_some (s := s) (i := i) h
    refine Ev.pos (by omega) (Ev.pos (by omega) (Ev.succ ?_))
    rw [hbc,hc]
    simp only [n_General.j0]
    unfold sgE
    by_cases h45:(c.toNat:Int)=45
    · refine Ev.pos (by simp [h45]) (Ev.succ ?_)
      simp only [n_General.j1,if_pos h45]
      refine Ev.pos trivial (Ev.succ ?_)
      simp only [n_General.j2,w64_succ (i:=i) (by omega)]
      refine Ev.val (gen_l0 s hs _ (i+1) (by omega)) ?_
      rw [show ((c.toNat:Int) == 45)=true by simp [h45]]
    · refine Ev.neg (by simp [h45]) (Ev.pos (by omega) (Ev.pos (by omega) (Ev.succ ?_)))
      simp only [n_General.j1,if_neg h45,hbc]
      by_cases h43:(c.toNat:Int)=43
      · refine Ev.pos (by simp [h43]) (Ev.succ ?_)
        simp only [n_General.j2,w64_succ (i:=i) (by omega),if_pos h43]
        refine Ev.val (gen_l0 s hs _ (i+1) (by omega)) ?_
        rw [show ((c.toNat:Int) == 45)=false by simp [h45]]
      · refine Ev.neg (by simp [h43]) (Ev.succ ?_)
        simp only [n_General.j2,if_neg h43]
        refine Ev.val (gen_l0 s hs _ i (by omega)) ?_
        rw [show ((c.toNat:Int) == 45)=false by simp [h45]]
        rfl
  · have hn : (L s).drop i = [] := List.drop_eq_nil_iff.2 (by rw [L_len]; omega)
    refine Ev.neg (by omega) (Ev.succ ?_)
    simp only [n_General.j0]
    refine Ev.neg (by decide) (Ev.neg (by omega) (Ev.succ ?_))
    simp only [n_General.j1]
    refine Ev.neg (by decide) (Ev.succ ?_)
    simp only [n_General.j2]
    refine Ev.val (gen_l0 s hs _ i (by omega)) ?_
    rw [hn,show sgE []=(false,0) from rfl,Nat.add_zero,hn]

theorem bg_infinity : ∀ n : List UInt8, bgN n wInfinity = true → bgN n wInf = true := by
  intro n h
  unfold wInfinity at h
  unfold wInf
  match n,h with
  | a :: b :: c :: r,h =>
    simp only [bgN,Bool.and_eq_true,beq_iff_eq] at h ⊢
    exact ⟨h.1,h.2.1,h.2.2.1,trivial⟩
  | [],h => simp [bgN] at h
  | [a],h => simp [bgN] at h
  | [a,b],h => simp [bgN] at h
theorem bg_nan : ∀ n : List UInt8, bgN n wNan = true → bgN n wInf = false := by
  intro n h
  unfold wNan at h
  unfold wInf
  cases n with
  | nil => simp [bgN] at h
  | cons a r =>
    simp only [bgN,Bool.and_eq_true,beq_iff_eq] at h ⊢
    rw [h.1]
    rfl
theorem zeros_tl (l : List UInt8) : (l.takeWhile is0).length + (tl l).length = l.length := by
  have:=congrArg List.length (List.takeWhile_append_dropWhile (p:=is0) (l:=l))
  rw [List.length_append] at this
  exact this
theorem tl_app (w f : List UInt8) : tl (w ++ f) = if tl w = [] then tl f else tl w ++ f := by
  unfold tl
  induction w with
  | nil => rfl
  | cons c w ih =>
    rw [List.cons_append,List.dropWhile_cons,List.dropWhile_cons]
    split
    · exact ih
    · rw [if_neg (by simp)];rfl
theorem Norm_ev (neg : Bool) (w f : List UInt8) (e : Int) (hl : w.length + f.length < 2305843009213693952) (he : -1125899906842624 ≤ e ∧ e ≤ 1125899906842624) :
    Ev (fun k => r_Norm.f k neg (mkB (w++f)) ((w.length:Int)+e) 0) (neg && !(digS w f e).1.isEmpty,mkB (digS w f e).1,(digS w f e).2,0):=by
  unfold r_Norm.f
  have hwf:(w++f).length=w.length+f.length:=List.length_append
  have hz:=zeros_ev (mkB (w++f)) (by rw [size_mk,big_eq,hwf];omega)
  rw [L_mk] at hz
  refine Ev.bind hz ?_
  have hzl:=zeros_tl (w++f)
  rw [size_mk]
  refine Ev.pos (by omega) (Ev.pos (by omega) ?_)
  have hy:(mkB (w++f)).extract ((w++f).takeWhile is0).length (w++f).length=mkB (tl (w++f)):=by
    have:=extract_end (mkB (w++f)) ((w++f).takeWhile is0).length
    rw [size_mk,L_mk,drop_run] at this
    exact this
  simp only [Int.toNat_natCast,hy]
  refine Ev.bind (trimmed_ev (tl (w++f)) (by rw [big_eq];omega)) ?_
  simp only [toList_mk]
  rw [tl_app] at hzl ⊢
  unfold digS
  have hzw:=zeros_tl w
  have hzf:=zeros_tl f
  by_cases h0:tl w=[]
  · rw [if_pos h0] at hzl
    simp only [if_pos h0]
    refine Ev.ite (fun h => ?_) (fun h => ?_)
    · rw [if_pos h]
      exact Ev.done (by simp;rfl)
    · rw [if_neg h]
      have:(tr (tl f)).isEmpty=false:=by cases hh:tr (tl f) with|nil => exact absurd hh h|cons => rfl
      refine Ev.done ?_
      rw [this,w64 (by omega)]
      simp only [Bool.not_false,Bool.and_true,Prod.mk.injEq,true_and,and_true]
      omega
  · rw [if_neg h0] at hzl
    simp only [if_neg h0]
    rw [List.length_append] at hzl
    refine Ev.ite (fun h => ?_) (fun h => ?_)
    · rw [if_pos h]
      exact Ev.done (by simp;rfl)
    · rw [if_neg h]
      have:(tr (tl w++f)).isEmpty=false:=by cases hh:tr (tl w++f) with|nil => exact absurd hh h|cons => rfl
      refine Ev.done ?_
      rw [this,w64 (by omega)]
      simp only [Bool.not_false,Bool.and_true,Prod.mk.injEq,true_and,and_true]
      omega
theorem pl12_len (l : List UInt8) : (plS l).1.length + (plS l).2.1.length ≤ l.length := by
  have h2:=congrArg List.length (List.takeWhile_append_dropWhile (p:=isDg) (l:=l))
  rw [List.length_append] at h2
  unfold plS
  cases hr:l.dropWhile isDg with
  | nil => simp only [List.length_nil];omega
  | cons c r =>
    rw [hr,List.length_cons] at h2
    have:=take_len (p:=isDg) r
    by_cases hc:(c.toNat:Int)=46
    · simp only [if_pos hc];omega
    · simp only [if_neg hc,List.length_nil];omega
theorem rgen_j1 (s : ByteArray) (hs : s.size < 2305843009213693952) (neg : Bool) (i : Nat) (hi : i ≤ s.size) : Ev (fun k => r_General.j1 k s (i : Int) neg) (gnV (genB neg ((L s).drop i) i)) := by
  have hb:s.size < big:=by rw [big_eq];omega
  have hb':=hb
  rw [big_eq] at hb'
  refine Ev.succ ?_
  simp only [r_General.j1]
  have hinf:=bg_infinity ((L s).drop i)
  have hnan:=bg_nan ((L s).drop i)
  refine Ev.bind (at_ev s hb i wNan hi (by decide)) ?_
  unfold genB
  by_cases h3:bgN ((L s).drop i) wNan=true
  · have h2 := hnan h3
    have h1 : ¬ bgN ((L s).drop i) wInfinity=true:=fun h => by rw [hinf h] at h2;cases h2
    have hl:i+3≤s.size:=by
      rcases Nat.lt_or_ge ((L s).drop i).length 3 with h|h
      · rw [bgN_short _ wNan h] at h3;cases h3
      · rw [List.length_drop,L_len] at h;omega
    have e8:wrap64 ((i:Int)+3)=((i+3:Nat):Int):=w64_nat (by omega) (by omega)
    rw [if_neg h1,if_neg (by rw [h2];decide),if_pos h3,e8]
    exact Ev.pos h3 (Ev.done rfl)
  refine Ev.neg h3 (Ev.bind (at_ev s hb i wInf hi (by decide)) ?_)
  by_cases h2:bgN ((L s).drop i) wInf=true
  · have hl:i+3≤s.size:=by
      rcases Nat.lt_or_ge ((L s).drop i).length 3 with h|h
      · rw [bgN_short _ wInf h] at h2;cases h2
      · rw [List.length_drop,L_len] at h;omega
    have e3:wrap64 ((i:Int)+3)=((i+3:Nat):Int):=w64_nat (by omega) (by omega)
    refine Ev.pos h2 ?_
    simp only [e3]
    have hl8:bgN ((L s).drop i) wInfinity=true→i+8≤s.size:=by
      intro h1
      rcases Nat.lt_or_ge ((L s).drop i).length 8 with h|h
      · rw [bgN_short _ wInfinity h] at h1;cases h1
      · rw [List.length_drop,L_len] at h;omega
    refine Ev.ite (fun hn => ?_) (fun hn => ?_)
    · refine Ev.succ ?_
      simp only [r_General.j2]
      refine Ev.bind (at_ev s hb i wInfinity hi (by decide)) ?_
      refine Ev.ite (fun h1 => ?_) (fun h1 => ?_)
      · have h8 := hl8 h1
        rw [if_pos h1,w64_nat (x:=(i:Int)+8) (n:=i+8) (by omega) (by omega)]
        exact Ev.done (by rw [hn];rfl)
      · rw [if_neg h1, if_pos h2]
        exact Ev.done (by rw [hn];rfl)
    · refine Ev.succ ?_
      simp only [r_General.j2]
      refine Ev.bind (at_ev s hb i wInfinity hi (by decide)) ?_
      refine Ev.ite (fun h1 => ?_) (fun h1 => ?_)
      · have h8 := hl8 h1
        rw [if_pos h1,w64_nat (x:=(i:Int)+8) (n:=i+8) (by omega) (by omega)]
        exact Ev.done (by rw [if_neg hn];rfl)
      · rw [if_neg h1, if_pos h2]
        exact Ev.done (by rw [if_neg hn];rfl)
  have h1 : ¬ bgN ((L s).drop i) wInfinity=true:=fun h => h2 (hinf h)
  rw [if_neg h1,if_neg h2,if_neg h3]
  have hpl:=plS_len ((L s).drop i)
  rw [List.length_drop,L_len] at hpl
  have hp1:=pl1_len ((L s).drop i)
  have hp2:=pl2_len ((L s).drop i)
  have hdl:=size_drop s i
  refine Ev.neg h2 (Ev.bind (Plain_ev s hb i hi) ?_)
  by_cases h0:noneAt ((L s).drop i)=true
  · rw [if_pos h0, if_pos h0]
    exact Ev.pos (by decide) (Ev.done rfl)
  · rw [if_neg h0, if_neg h0]
    refine Ev.neg (by simp only;omega) ?_
    refine Ev.bind (rexponent_ev s hb (i+(plS ((L s).drop i)).2.2) (by omega)) ?_
    rw [← List.drop_drop]
    have hr:=expS_range (((L s).drop i).drop (plS ((L s).drop i)).2.2)
    have hp12:(plS ((L s).drop i)).1.length+(plS ((L s).drop i)).2.1.length≤((L s).drop i).length:=pl12_len _
    simp only []
    rw [w64 (by omega)]
    refine Ev.bind (Norm_ev neg _ _ _ (by omega) (by omega)) ?_
    exact Ev.done rfl
theorem rGeneral_ev (s : ByteArray) (hs : s.size < 2305843009213693952) : Ev (fun k => r_General.f k s) (gnV (genS (L s))) := by
  have hb:s.size < big:=by rw [big_eq];omega
  have hb':=hb
  rw [big_eq] at hb'
  have hbl:=blkN_le s
  unfold r_General.f genS genN
  refine Ev.bind (start_ev s hb) ?_
  generalize blkN (L s)=i at *
  by_cases h:i < s.size
  · obtain ⟨c, hc, hbc⟩ := drop_some (s := s) (i := i) h
    refine Ev.pos (by omega) (Ev.pos (by omega) ?_)
    rw [hbc,hc]
    unfold sgE
    by_cases h45:(c.toNat:Int)=45
    · refine Ev.pos h45 (Ev.succ ?_)
      simp only [r_General.j0,if_pos h45,hbc]
      refine Ev.pos trivial (Ev.pos (by omega) (Ev.pos (by omega) ?_))
      simp only [w64_succ (i:=i) (by omega)]
      refine Ev.val (rgen_j1 s hs _ (i+1) (by omega)) ?_
      rw [show ((c.toNat:Int) == 45)=true by simp [h45]]
    · refine Ev.neg h45 (Ev.succ ?_)
      simp only [r_General.j0,if_neg h45,hbc]
      by_cases h43:(c.toNat:Int)=43
      · refine Ev.pos (by simp [h43]) (Ev.pos (by omega) (Ev.pos (by omega) ?_))
        simp only [w64_succ (i:=i) (by omega),if_pos h43]
        refine Ev.val (rgen_j1 s hs _ (i+1) (by omega)) ?_
        rw [show ((c.toNat:Int) == 45)=false by simp [h45]]
      · refine Ev.neg (by simp [h43]) ?_
        simp only [if_neg h43]
        exact rgen_j1 s hs false i (by omega)
  · have hn : (L s).drop i = [] := List.drop_eq_nil_iff.2 (by rw [L_len]; omega)
    refine Ev.neg (by omega) (Ev.succ ?_)
    simp only [r_General.j0]
    refine Ev.neg (by decide) ?_
    refine Ev.val (rgen_j1 s hs false i (by omega)) ?_
    rw [hn,show sgE []=(false,0) from rfl,Nat.add_zero,hn]
end Go.Proofs.YtcdajedmlfhmeaaDoor.XN
end

section
/- Byte strings whose bytewise order is a given order: the plain theory. (by this session) -/
set_option linter.unusedVariables false
set_option linter.unusedSimpArgs false
namespace Go.Proofs.YtcdajedmlfhmeaaDoor.XN
open Go.RowKit Go.Proofs.YtcdajedmlfhmeaaDoorW.PrintWords Go.Proofs.YtcdajedmlfhmeaaDoorW.PrintMore

theorem bcmp_nn : bcmp [] [] = 0 := rfl
theorem bcmp_nc (b : UInt8) (m : List UInt8) : bcmp [] (b :: m) = -1 := rfl
theorem bcmp_cn (a : UInt8) (l : List UInt8) : bcmp (a :: l) [] = 1 := rfl
theorem bcmp_cc (a b : UInt8) (l m : List UInt8) : bcmp (a :: l) (b :: m) = if a < b then -1 else if b < a then 1 else bcmp l m := rfl
theorem u8_tri (a b : UInt8) : a < b ∨ b < a ∨ a = b := by
  rcases Nat.lt_trichotomy a.toNat b.toNat with h|h|h
  · exact Or.inl (UInt8.lt_iff_toNat_lt.2 h)
  · exact Or.inr (Or.inr (UInt8.toNat_inj.1 h))
  · exact Or.inr (Or.inl (UInt8.lt_iff_toNat_lt.2 h))
theorem u8_asym {a b : UInt8} (h : a < b) : ¬ b < a := by rw [UInt8.lt_iff_toNat_lt] at *; omega
theorem u8_irr (a : UInt8) : ¬ a < a := UInt8.lt_irrefl a
theorem bcmp_self : ∀ l, bcmp l l = 0
  | [] => rfl
  | a :: l => by rw [bcmp_cc,if_neg (u8_irr a),if_neg (u8_irr a),bcmp_self l]
theorem bcmp_zero : ∀ {l m}, bcmp l m = 0 → l = m
  | [],[],_ => rfl
  | [],b :: m,h => by rw [bcmp_nc] at h;omega
  | a :: l,[],h => by rw [bcmp_cn] at h;omega
  | a :: l,b :: m,h => by
    rw [bcmp_cc] at h
    rcases u8_tri a b with h1|h1|h1
    · rw [if_pos h1] at h;omega
    · rw [if_neg (u8_asym h1),if_pos h1] at h;omega
    · subst h1
      rw [if_neg (u8_irr a),if_neg (u8_irr a)] at h
      rw [bcmp_zero h]
def dv : List UInt8 → List UInt8 → Bool
  | a :: l,b :: m => if a=b then dv l m else true
  | _,_ => false
theorem dv_no : ∀ {l m : List UInt8}, dv l m = true → ¬ l <+: m ∧ ¬ m <+: l
  | [],_,h => by simp [dv] at h
  | a :: l,[],h => by simp [dv] at h
  | a :: l,b :: m,h => by
    unfold dv at h
    constructor
    · rintro ⟨t, ht⟩
      simp only [List.cons_append,List.cons.injEq] at ht
      rw [if_pos ht.1] at h
      exact (dv_no h).1 ⟨t,ht.2⟩
    · rintro ⟨t, ht⟩
      simp only [List.cons_append,List.cons.injEq] at ht
      rw [if_pos ht.1.symm] at h
      exact (dv_no h).2 ⟨t,ht.2⟩
theorem dv_ne : ∀ {l m : List UInt8}, l.length = m.length → l ≠ m → dv l m = true
  | [],[],_,h => absurd rfl h
  | [],b :: m,h,_ => by simp at h
  | a :: l,[],h,_ => by simp at h
  | a :: l,b :: m,h,hne => by
    unfold dv
    by_cases e:a=b
    · rw [if_pos e]
      exact dv_ne (by simpa using h) (fun h' => hne (by rw [e,h']))
    · rw [if_neg e]
def Cp (c:Int) (l m:List UInt8):Prop:=(c=0∧l=m)∨(c ≠ 0∧dv l m=true∧bcmp l m=c)
theorem Cp.out {c : Int} {l m : List UInt8} (h : Cp c l m) : bcmp l m = c := by
  rcases h with ⟨h1,h2⟩|⟨_,_,h⟩
  · rw [h1,h2,bcmp_self]
  · exact h
theorem Cp.free {c : Int} {l m : List UInt8} (h : Cp c l m) (hne : l ≠ m) : ¬ l <+: m ∧ ¬ m <+: l := by
  rcases h with ⟨h1,h2⟩|⟨_,h,_⟩
  · exact absurd h2 hne
  · exact dv_no h
theorem Cp.val {c d : Int} {l m : List UInt8} (h : Cp c l m) (e : c = d) : Cp d l m := e ▸ h
theorem Cp.refl (l : List UInt8) : Cp 0 l l := Or.inl ⟨rfl, rfl⟩
def thn (c d:Int):Int:=if c=0 then d else c
theorem Cp.eqlen {l m : List UInt8} (h : l.length = m.length) : Cp (bcmp l m) l m := by
  by_cases e:l=m
  · subst e;rw [bcmp_self];exact Cp.refl l
  · exact Or.inr ⟨fun h0 => e (bcmp_zero h0),dv_ne h e,rfl⟩
def toB (x:Int):UInt8:=UInt8.ofNat x.toNat
theorem cmpI_lt {a b : Int} (h : a < b) : cmpI a b = -1 := by unfold cmpI; rw [if_pos h]
theorem cmpI_gt {a b : Int} (h : b < a) : cmpI a b = 1 := by unfold cmpI; rw [if_neg (by omega), if_pos h]
theorem cmpI_add (a b c : Int) : cmpI (a + c) (b + c) = cmpI a b := by
  rcases Int.lt_trichotomy a b with h|h|h
  · rw [cmpI_lt h,cmpI_lt (by omega)]
  · rw [h];unfold cmpI;rw [if_neg (by omega),if_neg (by omega),if_neg (by omega),if_neg (by omega)]
  · rw [cmpI_gt h,cmpI_gt (by omega)]
theorem cmpI_self (a : Int) : cmpI a a = 0 := by unfold cmpI; rw [if_neg (by omega), if_neg (by omega)]
theorem cmpI_zero {a b : Int} (h : cmpI a b = 0) : a = b := by
  unfold cmpI at h
  split at h
  · omega
  · split at h
    · omega
    · omega
def bee : Nat → Nat → List UInt8
  | 0,_ => []
  | k+1,n => UInt8.ofNat (n / 256 ^ k % 256) :: bee k n
theorem bee_len : ∀ k n, (bee k n).length = k
  | 0,_ => rfl
  | k+1,n => by unfold bee;rw [List.length_cons,bee_len k]
theorem bee_cmp : ∀ (k a b : Nat), bcmp (bee k a) (bee k b) = cmpI ((a % 256 ^ k : Nat) : Int) ((b % 256 ^ k : Nat) : Int)
  | 0,a,b => by simp [bee,Nat.mod_one,bcmp_nn,cmpI_self]
  | k+1,a,b => by
    have ih:=bee_cmp k a b
    unfold bee
    rw [bcmp_cc,ih]
    have ha:a % 256 ^ (k+1)=a % 256 ^ k+256 ^ k * (a / 256 ^ k % 256):=Nat.mod_pow_succ
    have hb:b % 256 ^ (k+1)=b % 256 ^ k+256 ^ k * (b / 256 ^ k % 256):=Nat.mod_pow_succ
    have hp:0 < 256 ^ k:=Nat.pow_pos (by decide)
    have la:=Nat.mod_lt a hp
    have lb:=Nat.mod_lt b hp
    rw [ha,hb]
    have l256a:a / 256 ^ k % 256 < 256:=Nat.mod_lt _ (by decide)
    have l256b:b / 256 ^ k % 256 < 256:=Nat.mod_lt _ (by decide)
    simp only [UInt8.lt_iff_toNat_lt,UInt8.toNat_ofNat']
    generalize a / 256 ^ k % 256=x at *
    generalize b / 256 ^ k % 256=y at *
    generalize 256 ^ k=P at *
    generalize a % P=u at *
    generalize b % P=v at *
    rw [Nat.mod_eq_of_lt (a:=x) (by omega),Nat.mod_eq_of_lt (a:=y) (by omega)]
    rcases Nat.lt_trichotomy x y with h|h|h
    · rw [if_pos h]
      have h1:P * (x+1)≤P * y:=Nat.mul_le_mul_left _ h
      rw [Nat.mul_add,Nat.mul_one] at h1
      rw [cmpI_lt (by omega)]
    · subst h
      rw [if_neg (by omega),if_neg (by omega),Int.natCast_add,Int.natCast_add,cmpI_add]
    · rw [if_neg (by omega), if_pos h]
      have h1:P * (y+1)≤P * x:=Nat.mul_le_mul_left _ h
      rw [Nat.mul_add,Nat.mul_one] at h1
      rw [cmpI_gt (by omega)]
def e8 (n:Nat):List UInt8:=bee 8 n
theorem Cp.e8 {a b : Nat} (ha : a < 18446744073709551616) (hb : b < 18446744073709551616) : Cp (cmpI (a : Int) (b : Int)) (e8 a) (e8 b) := by
  have:=Cp.eqlen (l:=bee 8 a) (m:=bee 8 b) (by rw [bee_len,bee_len])
  rw [bee_cmp, Nat.mod_eq_of_lt (a := a) (by have : 256 ^ 8 = 18446744073709551616 := by decide
                                             omega), Nat.mod_eq_of_lt (a := b) (by have : 256 ^ 8 = 18446744073709551616 := by decide
                                                                                   omega)] at this
  exact this
def cpl (c:UInt8):UInt8:=255 - c
theorem cpl_nat (c : UInt8) : (cpl c).toNat = 255 - c.toNat := by
  have : ∀ c:UInt8,(cpl c).toNat=255 - c.toNat:=all8 (by decide +kernel)
  exact this c
theorem cpl_lt (a b : UInt8) : cpl a < cpl b ↔ b < a := by
  rw [UInt8.lt_iff_toNat_lt,UInt8.lt_iff_toNat_lt,cpl_nat,cpl_nat]
  have:=a.toNat_lt
  have:=b.toNat_lt
  omega
theorem cpl_inj {a b : UInt8} : cpl a = cpl b ↔ a = b := by
  constructor
  · intro h
    have:=congrArg UInt8.toNat h
    rw [cpl_nat,cpl_nat] at this
    have h1:=a.toNat_lt
    have h2:=b.toNat_lt
    exact UInt8.toNat_inj.1 (by omega)
  · intro h;rw [h]
theorem cpl_dv : ∀ (l m : List UInt8), dv l m = true → dv (l.map cpl) (m.map cpl) = true ∧ bcmp (l.map cpl) (m.map cpl) = -bcmp l m
  | [],_,h => by simp [dv] at h
  | a :: l,[],h => by simp [dv] at h
  | a :: l,b :: m,h => by
    simp only [List.map_cons]
    rw [bcmp_cc,bcmp_cc]
    unfold dv at h ⊢
    simp only [cpl_lt,cpl_inj]
    by_cases e:a=b
    · subst e
      rw [if_pos rfl] at h ⊢
      rw [if_neg (u8_irr a),if_neg (u8_irr a)]
      have:=cpl_dv l m h
      exact ⟨this.1,by rw [if_neg (u8_irr a),if_neg (u8_irr a)];exact this.2⟩
    · rw [if_neg e]
      refine ⟨rfl,?_⟩
      rcases u8_tri a b with h1|h1|h1
      · rw [if_neg (u8_asym h1),if_pos h1,if_pos h1];rfl
      · rw [if_pos h1,if_neg (u8_asym h1),if_pos h1]
      · exact absurd h1 e
theorem Cp.neg {c : Int} {l m : List UInt8} (h : Cp c l m) : Cp (-c) (l.map cpl) (m.map cpl) := by
  rcases h with ⟨h1,h2⟩|⟨h1,h2,h3⟩
  · exact Or.inl ⟨by omega,by rw [h2]⟩
  · have := cpl_dv l m h2
    exact Or.inr ⟨by omega,this.1,by rw [this.2,h3]⟩
end Go.Proofs.YtcdajedmlfhmeaaDoor.XN
end

section
/- Each kind's order is the bytewise order of its embedding: the plain theory. (by this session) -/
set_option linter.unusedVariables false
set_option linter.unusedSimpArgs false
namespace Go.Proofs.YtcdajedmlfhmeaaDoor.XN
open Go.RowKit Go.Proofs.YtcdajedmlfhmeaaDoorW.PrintWords Go.Proofs.YtcdajedmlfhmeaaDoorW.PrintMore

theorem orS2 (x y : Int) : orS [x, y] = thn x y := by
  unfold thn
  simp only [orS]
  split
  · split <;> omega
  · rfl
theorem orS3 (x y z : Int) : orS [x, y, z] = thn x (thn y z) := by
  unfold thn
  simp only [orS]
  split
  · split
    · split <;> omega
    · rfl
  · rfl
theorem thn0 (y : Int) : thn 0 y = y := by unfold thn; rw [if_pos rfl]
theorem thn_ne {x y : Int} (h : x ≠ 0) : thn x y = x := by unfold thn; rw [if_neg h]

def zb (le:Bool) (z:Sz):List UInt8:=(if le=true then [toB z.2.1] else [])++(e8 (z.2.2.1+4611686018427387904).toNat++(z.2.2.2 ++ [0]))
def numE (le:Bool) (z:Sz):List UInt8:=if z.1=0 then [80] else if z.1=1 then [96]++zb le z else [64]++(zb le z).map cpl
structure SzOk (le : Bool) (z : Sz) : Prop where
  sign : z.1 = -1 ∨ z.1 = 0 ∨ z.1 = 1
  rank : 0 ≤ z.2.1 ∧ z.2.1 < 256
  rank0 : le = false → z.2.1 = 0
  exp : -2305843009213693952 ≤ z.2.2.1 ∧ z.2.2.1 ≤ 2305843009213693952
  dig : ∀ c ∈ z.2.2.2, c ≠ 0
theorem ordS_ne {a b : Sz} (h : ¬ a.1 = b.1) : ordS a b = cmpI a.1 b.1 := by unfold ordS; rw [if_neg (fun h' => h h'.1)]
theorem tr_sub (l : List UInt8) : ∀ c ∈ tr l, c ∈ l := by
  intro c hc
  unfold tr at hc
  have:=(List.dropWhile_sublist is0).subset (List.mem_reverse.1 hc)
  exact List.mem_reverse.1 this
theorem digS_dg {w f : List UInt8} {e : Int} (hw : ∀ c ∈ w, isDg c = true) (hf : ∀ c ∈ f, isDg c = true) : ∀ c ∈ (digS w f e).1, isDg c = true := by
  intro c hc
  unfold digS at hc
  split at hc
  · split at hc
    · cases hc
    · exact hf c ((List.dropWhile_sublist is0).subset (tr_sub _ c hc))
  · split at hc
    · cases hc
    · rcases List.mem_append.1 (tr_sub _ c hc) with h | h
      · exact hw c ((List.dropWhile_sublist is0).subset h)
      · exact hf c h
theorem digS_exp (w f : List UInt8) (e : Int) (B : Int) (hB : (w.length : Int) + f.length + 1099511627776 ≤ B) (he : -1099511627776 ≤ e ∧ e ≤ 1099511627776) : -B ≤ (digS w f e).2 ∧ (digS w f e).2 ≤ B := by
  have h1:=tl_len w
  have h2:=tl_len f
  unfold digS
  split
  · split
    · simp only;omega
    · simp only;omega
  · split
    · simp only;omega
    · simp only;omega
theorem pl_dg (l : List UInt8) : (∀ c ∈ (plS l).1, isDg c = true) ∧ (∀ c ∈ (plS l).2.1, isDg c = true) := by
  unfold plS
  split
  · exact ⟨run_dg l,(fun c h => by cases h)⟩
  · split
    · exact ⟨run_dg l,run_dg _⟩
    · exact ⟨run_dg l,(fun c h => by cases h)⟩
def gE (g:Gn):List UInt8:=if g.1=3 then numE false (szS g.2.1 g.2.2.1 g.2.2.2.1 0) else if g.1=0 then [16] else if g.1=1 then [32] else if g.1=2 then [48] else [112]
def ordG (x y:Gn):Int:=if x.1=y.1 then ordS (szS x.2.1 x.2.2.1 x.2.2.2.1 0) (szS y.2.1 y.2.2.1 y.2.2.2.1 0) else cmpI x.1 y.1
structure GnOk (g : Gn) : Prop where
  cls : g.1 = 0 ∨ g.1 = 1 ∨ g.1 = 2 ∨ g.1 = 3 ∨ g.1 = 4
  none : g.1 ≠ 3 → g.2.2.1 = []
  dig : ∀ c ∈ g.2.2.1, isDg c = true
  exp : -2305843009213693952 ≤ g.2.2.2.1 ∧ g.2.2.2.1 ≤ 2305843009213693952
theorem genB_ok (neg : Bool) (n : List UInt8) (i : Nat) (hn : n.length < 576460752303423488) : GnOk (genB neg n i) := by
  have hp1:=pl1_len n
  have hp2:=pl2_len n
  unfold genB
  split
  · exact ⟨by simp only;split <;> simp,fun _ => rfl,(fun c h => by cases h),by simp⟩
  · split
    · exact ⟨by simp only;split <;> simp,fun _ => rfl,(fun c h => by cases h),by simp⟩
    · split
      · exact ⟨by simp,fun _ => rfl,(fun c h => by cases h),by simp⟩
      · split
        · exact ⟨by simp,fun _ => rfl,(fun c h => by cases h),by simp⟩
        · obtain ⟨d1, d2⟩ := pl_dg n
          exact ⟨by simp,fun h => absurd rfl h,digS_dg d1 d2,digS_exp _ _ _ 2305843009213693952 (by omega) (expS_range _)⟩
theorem genS_ok (s : ByteArray) (hs : s.size < 576460752303423488) : GnOk (genS (L s)) := by
  unfold genS
  refine genB_ok _ _ _ ?_
  rw [List.length_drop,L_len]
  omega
def rkU (c:UInt8):UInt8:=toB (rkB c)
def rnE (d:List UInt8):List UInt8:=if d=[] then [0] else [1]++(e8 (tl d).length++tl d)
def hdE (l:List UInt8):List UInt8:=((pr1 l).map rkU ++ [2])++rnE (pr2 l)
def vEF : Nat → List UInt8 → List UInt8
  | 0, _ => hdE []
  | n + 1, l => if l = [] then hdE [] else hdE l ++ vEF n (pr3 l)
theorem pr1_no (l : List UInt8) : ∀ c ∈ pr1 l, isDg c = false := by
  unfold pr1
  induction l with
  | nil => intro c h;cases h
  | cons d l ih =>
    intro c h
    rw [List.takeWhile_cons] at h
    split at h
    · rename_i hd
      rcases List.mem_cons.1 h with rfl|h
      · simpa [noDg] using hd
      · exact ih c h
    · cases h
theorem pr1_nil : pr1 [] = [] := rfl
theorem pr2_nil : pr2 [] = [] := rfl
def vE (l:List UInt8):List UInt8:=vEF (l.length+1) l

def escE : List UInt8 → List UInt8
  | [] => [0]
  | c :: r => (if c = 0 then [1, 1] else if c = 1 then [1, 2] else [c]) ++ escE r
def embE (kind:Int) (s:ByteArray):List UInt8:=
  if kind = 16 ∨ kind = 64 then numE (decide (kind = 64)) (huS kind s) else if kind = 32 then gE (genS (L s)) else if kind = 128 then [toB (monS (L s))] else if kind = 256 then vE (L s) else escE (L s)
def cmpS (kind:Int) (s t:ByteArray):Int:=
  if kind = 16 ∨ kind = 64 then ordS (huS kind s) (huS kind t) else if kind = 32 then ordG (genS (L s)) (genS (L t)) else if kind = 128 then cmpI (monS (L s)) (monS (L t)) else if kind = 256 then vrS (L s) (L t) else bcmp (L s) (L t)
end Go.Proofs.YtcdajedmlfhmeaaDoor.XN
end

namespace Go.Proofs.YtcdajedmlfhmeaaDoor.XN
open Go.RowKit Go.Proofs.YtcdajedmlfhmeaaDoorW.PrintWords Go.Proofs.YtcdajedmlfhmeaaDoorW.PrintLast Go.Proofs.YtcdajedmlfhmeaaDoorW.PrintMore
attribute [local go_sem] max2_int min2_int max_two min_two max_three min_three max_four min_four
set_option linter.unusedVariables false
set_option linter.unusedSimpArgs false
set_option maxHeartbeats 8000000
set_option maxRecDepth 100000

mutual
def w_written.j0:Nat→Int→Int→ByteArray→Int→Option (ByteArray)
 | 0,_,_,_,_ => none
 | k+1,x0,x1,x5,x6 => w_written.l0 k x0 x1 x5 x6
def w_written.l0:Nat→Int→Int→ByteArray→Int→Option (ByteArray)
 | 0,_,_,_,_ => none
 | k+1,x0,x1,x5,x6 => if x6 > 0 then ((some (([(wrap64 (48+(Int.tmod x6 10))) % 256]:List Int):List Int)).bind fun y101 => (if (strOfNums y101).size+x5.size≤9223372036854775807 then (w_written.l0 k x0 x1 ((strOfNums y101)++x5) (wrap64 (Int.tdiv x6 10))) else (none))) else (if x5.toList=([]:List UInt8) then ((some (([(wrap64 (48+(Int.tmod x6 10))) % 256]:List Int):List Int)).bind fun y104 => (if (strOfNums y104).size+x5.size≤9223372036854775807 then (w_written.l0 k x0 x1 ((strOfNums y104)++x5) (wrap64 (Int.tdiv x6 10))) else (none))) else (w_written.l1 k x0 x1 x5 0))
def w_written.l1:Nat→Int→Int→ByteArray→Int→Option (ByteArray)
 | 0,_,_,_,_ => none
 | k+1,x0,x1,x5,x7 => if x7 < x1 then (if 1+x5.size≤9223372036854775807 then (w_written.l1 k x0 x1 ((⟨#[48]⟩:ByteArray)++x5) (wrap64 (x7+1))) else (none)) else (if x0 < 0 then (if 1+x5.size≤9223372036854775807 then (some ((⟨#[45]⟩:ByteArray)++x5)) else (none)) else (some x5))
end
def w_written.f (k:Nat) (a0:Int) (a1:Int):Option (ByteArray):=if a0 < 0 then (w_written.j0 k a0 a1 (⟨#[]⟩:ByteArray) (wrap64 (-a0))) else (w_written.j0 k a0 a1 (⟨#[]⟩:ByteArray) a0)
end Go.Proofs.YtcdajedmlfhmeaaDoor.XN

section
/- Whole numbers as text, and how their digits compare: the plain theory. (by this session) -/
-- NEEDS w_written
set_option linter.unusedVariables false
set_option linter.unusedSimpArgs false
namespace Go.Proofs.YtcdajedmlfhmeaaDoor.XN
open Go.RowKit Go.Proofs.YtcdajedmlfhmeaaDoorW.PrintWords Go.Proofs.YtcdajedmlfhmeaaDoorW.PrintMore

def decF : Nat → Nat → List UInt8
  | 0, m => [UInt8.ofNat (48 + m % 10)]
  | k + 1, m => if m < 10 then [UInt8.ofNat (48 + m % 10)] else decF k (m / 10) ++ [UInt8.ofNat (48 + m % 10)]
def dec (m:Nat):List UInt8:=decF m m
theorem tl_zeros (k : Nat) (l : List UInt8) : tl (List.replicate k 48 ++ l) = tl l := by
  induction k with
  | zero => rfl
  | succ k ih =>
    rw [List.replicate_succ,List.cons_append]
    unfold tl
    rw [List.dropWhile_cons,if_pos (by decide)]
    exact ih
def dcmp : List UInt8 → List UInt8 → Int
  | [],[] => 0
  | a :: l,[] => if a=48 then dcmp l [] else 1
  | [],b :: m => if b=48 then dcmp [] m else -1
  | a :: l,b :: m => if a < b then -1 else if b < a then 1 else dcmp l m
theorem dcmp_nn : dcmp [] [] = 0 := by simp only [dcmp]
theorem dcmp_cn (a : UInt8) (l : List UInt8) : dcmp (a :: l) [] = if a = 48 then dcmp l [] else 1 := by simp only [dcmp]
theorem dcmp_nc (b : UInt8) (m : List UInt8) : dcmp [] (b :: m) = if b = 48 then dcmp [] m else -1 := by simp only [dcmp]
theorem dcmp_cc (a b : UInt8) (l m : List UInt8) : dcmp (a :: l) (b :: m) = if a < b then -1 else if b < a then 1 else dcmp l m := by simp only [dcmp]
theorem dcmp_flip : ∀ (x y : List UInt8), dcmp y x = -dcmp x y
  | [],[] => by rw [dcmp_nn];rfl
  | a :: l,[] => by
    rw [dcmp_cn,dcmp_nc]
    split
    · exact dcmp_flip l []
    · rfl
  | [],b :: m => by
    rw [dcmp_cn,dcmp_nc]
    split
    · exact dcmp_flip [] m
    · rfl
  | a :: l,b :: m => by
    rw [dcmp_cc,dcmp_cc,dcmp_flip l m]
    rcases u8_tri a b with h1|h1|h1
    · rw [if_pos h1,if_neg (u8_asym h1),if_pos h1];rfl
    · rw [if_pos h1,if_neg (u8_asym h1),if_pos h1]
    · subst h1
      rw [if_neg (u8_irr a),if_neg (u8_irr a),if_neg (u8_irr a),if_neg (u8_irr a)]
theorem tr_zeros (l : List UInt8) : ∃ k, l = tr l ++ List.replicate k 48 := by
  unfold tr
  have h : ∀ r:List UInt8,∃ k,r=List.replicate k 48++r.dropWhile is0:=by
    intro r
    induction r with
    | nil => exact ⟨0,rfl⟩
    | cons c r ih =>
      rw [List.dropWhile_cons]
      split
      · rename_i hc
        obtain ⟨k,hk⟩:=ih
        refine ⟨k+1,?_⟩
        have:c=48:=u8_eq (d:=48) ((is0_iff c).1 hc)
        rw [List.replicate_succ,List.cons_append,← hk,this]
      · exact ⟨0,rfl⟩
  obtain ⟨k,hk⟩:=h l.reverse
  refine ⟨k,?_⟩
  have:=congrArg List.reverse hk
  rw [List.reverse_reverse,List.reverse_append,List.reverse_replicate] at this
  exact this
def Trm (l:List UInt8):Prop:=∀ c r,l.reverse=c :: r→is0 c=false
theorem tr_trm (l : List UInt8) : Trm (tr l) := by
  intro c r h
  unfold tr at h
  rw [List.reverse_reverse] at h
  exact dropWhile_head h
theorem trm_tail {a : UInt8} {l : List UInt8} (h : Trm (a :: l)) : Trm l := by
  intro c r hr
  refine h c (r ++ [a]) ?_
  rw [List.reverse_cons,hr]
  rfl
theorem trm_pos : ∀ {l : List UInt8}, l ≠ [] → Trm l → (∀ c ∈ l, isDg c = true) → dcmp l [] = 1
  | [],h,_,_ => absurd rfl h
  | [a],_,h,hd => by
    rw [dcmp_cn,dcmp_nn]
    have:=h a [] rfl
    have:=is0_false this
    rw [if_neg (fun e => this (by rw [e];rfl))]
  | a :: b :: l,_,h,hd => by
    rw [dcmp_cn]
    split
    · exact trm_pos (by simp) (trm_tail h) fun c hc => hd c (List.mem_cons_of_mem _ hc)
    · rfl
theorem dcmp_trm : ∀ (x y : List UInt8), Trm x → Trm y → (∀ c ∈ x, isDg c = true) → (∀ c ∈ y, isDg c = true) → dcmp x y = bcmp x y
  | [],[],_,_,_,_ => by rw [dcmp_nn,bcmp_nn]
  | a :: l,[],hx,_,dx,_ => by rw [trm_pos (by simp) hx dx,bcmp_cn]
  | [],b :: m,_,hy,_,dy => by rw [dcmp_flip,trm_pos (by simp) hy dy,bcmp_nc]
  | a :: l,b :: m,hx,hy,dx,dy => by
    rw [dcmp_cc,bcmp_cc,dcmp_trm l m (trm_tail hx) (trm_tail hy) (fun c hc => dx c (by simp [hc])) (fun c hc => dy c (by simp [hc]))]
def wrS (n:Int) (z:Nat):List UInt8:=(if n < 0 then [45] else [])++(List.replicate z 48++dec n.natAbs)
end Go.Proofs.YtcdajedmlfhmeaaDoor.XN
end

section
/- The document's Compare is cmpS, up to a bulk. (by this session) -/
-- NEEDS r_Compare r_Bytes r_ints r_Order r_Versions r_Pairs r_number r_general
set_option linter.unusedVariables false
set_option linter.unusedSimpArgs false
namespace Go.Proofs.YtcdajedmlfhmeaaDoor.XN
open Go.RowKit Go.Proofs.YtcdajedmlfhmeaaDoorW.PrintWords Go.Proofs.YtcdajedmlfhmeaaDoorW.PrintMore
theorem ints_f (a b : Int) : r_ints.f a b = some (cmpI a b) := by
  unfold r_ints.f cmpI
  split
  · rfl
  · split <;> rfl
theorem Bytes_l0 (s t : ByteArray) (hs : s.size < 1000000000) (ht : t.size < 1000000000) : ∀ (l m : List UInt8) (i : Nat), (L s).drop i = l → (L t).drop i = m → i ≤ s.size → i ≤ t.size →
    Ev (fun k => r_Bytes.l0 k s t (i:Int)) (bcmp l m)
  | [],m,i,h1,h2,hi,hj => by
    have a1:=drop_nil h1
    have hm:m.length=t.size - i:=by rw [← h2,List.length_drop,L_len]
    refine Ev.succ ?_
    simp only [r_Bytes.l0]
    refine Ev.neg (by omega) (Ev.succ ?_)
    simp only [r_Bytes.j1,ints_f,Option.bind_some]
    refine Ev.neg (by decide) (Ev.done ?_)
    cases m with
    | nil => rw [bcmp_nn,show (s.size:Int)=(t.size:Int) by simp at hm;omega,cmpI_self]
    | cons b m => rw [bcmp_nc,cmpI_lt (by simp at hm;omega)]
  | a :: l,[],i,h1,h2,hi,hj => by
    have a1:=drop_nil h2
    obtain ⟨b1,b2,b3⟩:=drop_cons h1
    refine Ev.succ ?_
    simp only [r_Bytes.l0]
    refine Ev.pos (by omega) (Ev.succ ?_)
    simp only [r_Bytes.j1,ints_f,Option.bind_some]
    refine Ev.neg (by simp;omega) (Ev.done ?_)
    rw [bcmp_cn,cmpI_gt (by omega)]
  | a :: l,b :: m,i,h1,h2,hi,hj => by
    obtain ⟨b1,b2,b3⟩:=drop_cons h1
    obtain ⟨c1,c2,c3⟩:=drop_cons h2
    have wa:wrap64 (a.toNat:Int)=(a.toNat:Int):=w64 (by have:=u8_lt a;omega)
    have wb:wrap64 (b.toNat:Int)=(b.toNat:Int):=w64 (by have:=u8_lt b;omega)
    refine Ev.succ ?_
    simp only [r_Bytes.l0]
    refine Ev.pos (by omega) (Ev.succ ?_)
    simp only [r_Bytes.j1,ints_f,Option.bind_some,b2,c2,wa,wb,w64_succ (i:=i) (by omega)]
    refine Ev.pos (by simp;omega) (Ev.pos (by omega) (Ev.pos (by omega) (Ev.pos (by omega) (Ev.ite (fun h => ?_) (fun h => ?_)))))
    · have e := u8_eq h
      subst e
      rw [bcmp_cc,if_neg (u8_irr a),if_neg (u8_irr a)]
      exact Bytes_l0 s t hs ht l m (i+1) b3 c3 (by omega) (by omega)
    · refine Ev.done ?_
      rw [bcmp_cc]
      rcases u8_tri a b with h' | h' | h'
      · rw [if_pos h',cmpI_lt (by rw [UInt8.lt_iff_toNat_lt] at h';omega)]
      · rw [if_neg (u8_asym h'),if_pos h',cmpI_gt (by rw [UInt8.lt_iff_toNat_lt] at h';omega)]
      · exact absurd (by rw [h']) h
theorem Bytes_ev (s t : ByteArray) (hs : s.size < 1000000000) (ht : t.size < 1000000000) : Ev (fun k => r_Bytes.f k s t) (bcmp (L s) (L t)) := by
  unfold r_Bytes.f
  exact Bytes_l0 s t hs ht (L s) (L t) 0 rfl rfl (Nat.zero_le _) (Nat.zero_le _)

def dgI (l:List UInt8):Int:=match l with | [] => 0|c :: _ => (c.toNat:Int) - 48
theorem dgI_nil : dgI [] = 0 := rfl
theorem dgI_cons (c : UInt8) (r : List UInt8) : dgI (c :: r) = (c.toNat : Int) - 48 := rfl
theorem digit_at (x : List UInt8) (hx : ∀ c ∈ x, isDg c = true) (i : Nat) : r_digit.f (mkB x) (i : Int) = some (dgI (x.drop i)) := by
  unfold r_digit.f
  rw [size_mk]
  by_cases h:i < x.length
  · rw [if_pos (by omega), if_pos (by omega), bt_nat (mkB x) i h]
    have hm:x[i] ∈ x:=List.getElem_mem h
    have:=(isDg_iff _).1 (hx _ hm)
    rw [List.drop_eq_getElem_cons h]
    show some ((((L (mkB x))[i].toNat:Int) - 48) % 256)=some ((x[i].toNat:Int) - 48)
    congr 1
    show ((x[i].toNat:Int) - 48) % 256=_
    omega
  · rw [if_neg (by omega), List.drop_eq_nil_iff.2 (by omega)]
    rfl
theorem dg_next (x : List UInt8) (i : Nat) : x.drop i = [] ∧ x.drop (i + 1) = [] ∨ ∃ c, x.drop i = c :: x.drop (i + 1) := by
  by_cases h:i < x.length
  · exact Or.inr ⟨x[i],List.drop_eq_getElem_cons h⟩
  · exact Or.inl ⟨List.drop_eq_nil_iff.2 (by omega),List.drop_eq_nil_iff.2 (by omega)⟩
theorem dcmp_next {x y : List UInt8} (hx : ∀ c ∈ x, isDg c = true) (hy : ∀ c ∈ y, isDg c = true) (i : Nat) : dcmp (x.drop i) (y.drop i) = if dgI (x.drop i) = dgI (y.drop i) then dcmp (x.drop (i + 1)) (y.drop (i + 1)) else cmpI (dgI (x.drop i)) (dgI (y.drop i)) := by
  have dgx : ∀ c,c ∈ x.drop i→48≤(c.toNat:Int)∧(c.toNat:Int)≤57:=fun c hc => (isDg_iff c).1 (hx c (List.mem_of_mem_drop hc))
  have dgy : ∀ c,c ∈ y.drop i→48≤(c.toNat:Int)∧(c.toNat:Int)≤57:=fun c hc => (isDg_iff c).1 (hy c (List.mem_of_mem_drop hc))
  rcases dg_next x i with ⟨h1,h2⟩|⟨a,h1⟩ <;> rcases dg_next y i with ⟨h3,h4⟩|⟨b,h3⟩
  · rw [h1,h2,h3,h4];rfl
  · have hb := dgy b (by rw [h3]; simp)
    rw [h1,h2,h3,dcmp_nc,dgI_nil,dgI_cons]
    by_cases e:b=48
    · rw [if_pos e,if_pos (by rw [e];rfl)]
    · have : (b.toNat : Int) ≠ 48 := fun h => e (u8_eq (d := 48) h)
      rw [if_neg e,if_neg (by omega),cmpI_lt (by omega)]
  · have ha := dgx a (by rw [h1]; simp)
    rw [h1,h3,h4,dcmp_cn,dgI_nil,dgI_cons]
    by_cases e:a=48
    · rw [if_pos e,if_pos (by rw [e];rfl)]
    · have : (a.toNat : Int) ≠ 48 := fun h => e (u8_eq (d := 48) h)
      rw [if_neg e,if_neg (by omega),cmpI_gt (by omega)]
  · rw [h1, h3, dcmp_cc, dgI_cons, dgI_cons]
    rcases u8_tri a b with h|h|h
    · have h' := UInt8.lt_iff_toNat_lt.1 h
      rw [if_pos h,if_neg (by omega),cmpI_lt (by omega)]
    · have h' := UInt8.lt_iff_toNat_lt.1 h
      rw [if_neg (u8_asym h),if_pos h,if_neg (by omega),cmpI_gt (by omega)]
    · subst h
      rw [if_neg (u8_irr a),if_neg (u8_irr a),if_pos rfl]
theorem size_l0 (x y : List UInt8) (hx : ∀ c ∈ x, isDg c = true) (hy : ∀ c ∈ y, isDg c = true) (bx bY : Bool) (px py rx ry : Int) (hl : x.length < 1000000000 ∧ y.length < 1000000000) : ∀ (d i : Nat), max x.length y.length - i = d →
    Ev (fun k => r_size.l0 k (i:Int) bx (mkB x) px rx bY (mkB y) py ry) (dcmp (x.drop i) (y.drop i))
  | d,i,h => by
    have step:i < max x.length y.length→Ev (fun k => (r_digit.f (mkB x) (i:Int)).bind fun t405 => ((r_digit.f (mkB y) (i:Int)).bind fun t406 => (if t405=t406 then (r_size.l0 k (wrap64 ((i:Int)+1)) bx (mkB x) px rx bY (mkB y) py ry) else ((r_digit.f (mkB x) (i:Int)).bind fun t407 => ((r_digit.f (mkB y) (i:Int)).bind fun t408 => ((r_ints.f t407 t408).bind fun t409 => (some t409))))))) (dcmp (x.drop i) (y.drop i)):=by
      intro hi
      simp only [digit_at x hx i,digit_at y hy i,Option.bind_some,ints_f,w64_succ (i:=i) (by omega)]
      rw [dcmp_next hx hy]
      refine Ev.ite (fun he => ?_) (fun he => ?_)
      · rw [if_pos he]
        exact size_l0 x y hx hy bx bY px py rx ry hl (d - 1) (i+1) (by omega)
      · rw [if_neg he]
        exact Ev.pure _
    refine Ev.succ ?_
    simp only [r_size.l0,size_mk]
    refine Ev.ite (fun h1 => step (by omega)) (fun h1 => Ev.ite (fun h2 => step (by omega)) (fun h2 => ?_))
    rw [List.drop_eq_nil_iff.2 (by omega),List.drop_eq_nil_iff.2 (by omega),dcmp_nn]
    exact Ev.pure _
termination_by d i => max x.length y.length - i
theorem size_ev (x y : List UInt8) (hx : ∀ c ∈ x, isDg c = true) (hy : ∀ c ∈ y, isDg c = true) (bx bY : Bool) (px py rx ry : Int) (hl : x.length < 1000000000 ∧ y.length < 1000000000) :
    Ev (fun k => r_size.f k bx (mkB x) px rx bY (mkB y) py ry) (thn (cmpI rx ry) (thn (cmpI px py) (dcmp x y))):=by
  unfold r_size.f
  simp only [ints_f,Option.bind_some]
  refine Ev.ite (fun h => ?_) (fun h => ?_)
  · rw [h, cmpI_self, thn0]
    refine Ev.ite (fun h' => ?_) (fun h' => ?_)
    · rw [h', cmpI_self, thn0]
      have:=size_l0 x y hx hy bx bY py py ry ry hl _ 0 rfl
      rw [List.drop_zero,List.drop_zero] at this
      exact this
    · rw [thn_ne (fun e => h' (cmpI_zero e))]
      exact Ev.pure _
  · rw [thn_ne (fun e => h (cmpI_zero e))]
    exact Ev.pure _
theorem sign_f (n : Bool) (d : List UInt8) (x r : Int) : r_sign.f n (mkB d) x r = some (szS n d x r).1 := by
  unfold r_sign.f szS
  simp only [toList_mk]
  split
  · rfl
  · split <;> rfl
theorem Order_ev (n n' : Bool) (d d' : List UInt8) (x x' r r' : Int) (hd : ∀ c ∈ d, isDg c = true) (hd' : ∀ c ∈ d', isDg c = true) (ht : Trm d) (ht' : Trm d') (hl : d.length < 1000000000 ∧ d'.length < 1000000000) :
    Ev (fun k => r_Order.f k n (mkB d) x r n' (mkB d') x' r') (ordS (szS n d x r) (szS n' d' x' r')):=by
  unfold r_Order.f
  simp only [sign_f,Option.bind_some]
  have s1:=szS_sign n d x r
  have s2:=szS_sign n' d' x' r'
  refine Ev.ite (fun h => ?_) (fun h => ?_)
  · refine Ev.succ ?_
    simp only [r_Order.j0,ints_f,Option.bind_some]
    by_cases h0:(szS n d x r).1=0
    · refine Ev.pos (by simp [h0]) (Ev.done ?_)
      unfold ordS
      rw [if_neg (fun hh => hh.2 h0)]
    · refine Ev.neg (by simp [h0]) (Ev.bind (size_ev d d' hd hd' n n' x x' r r' hl) (Ev.done ?_))
      have ne:d ≠ []:=by
        intro e
        apply h0
        unfold szS;rw [if_pos e]
      have ne' : d' ≠ []:=by
        intro e
        apply h0
        rw [h]
        unfold szS;rw [if_pos e]
      have e1:(szS n d x r).2=(r,x,d):=by unfold szS;rw [if_neg ne]
      have e2:(szS n' d' x' r').2=(r',x',d'):=by unfold szS;rw [if_neg ne']
      have hor:ordS (szS n d x r) (szS n' d' x' r')=(szS n d x r).1 * thn (cmpI r r') (thn (cmpI x x') (dcmp d d')):=by
        unfold ordS
        rw [if_pos ⟨h,h0⟩,orS3,e1,e2,dcmp_trm d d' ht ht' hd hd']
      rw [hor]
      have hr:thn (cmpI r r') (thn (cmpI x x') (dcmp d d'))=-1∨thn (cmpI r r') (thn (cmpI x x') (dcmp d d'))=0∨thn (cmpI r r') (thn (cmpI x x') (dcmp d d'))=1:=by
        rw [dcmp_trm d d' ht ht' hd hd']
        unfold thn
        split
        · split
          · exact bcmp_range _ _
          · exact cmpI_range _ _
        · exact cmpI_range _ _
      refine w64 ?_
      rcases s1 with e|e|e <;> rw [e] <;> omega
  · refine Ev.succ ?_
    simp only [r_Order.j0,ints_f,Option.bind_some]
    refine Ev.pos trivial (Ev.done ?_)
    rw [ordS_ne h]
theorem tl_tl (l : List UInt8) : tl (tl l) = tl l := by
  unfold tl
  induction l with
  | nil => rfl
  | cons c m ih =>
    rw [List.dropWhile_cons]
    split
    · exact ih
    · rename_i hc
      rw [List.dropWhile_cons,if_neg hc]
theorem tr_pad0 (l : List UInt8) (k : Nat) : tr (l ++ List.replicate k 48) = tr l := by
  unfold tr
  rw [List.reverse_append,List.reverse_replicate]
  have:=tl_zeros k l.reverse
  unfold tl at this
  rw [this]
theorem tl_rep (k : Nat) : tl (List.replicate k 48) = [] := by
  have:=tl_zeros k []
  rw [List.append_nil] at this
  rw [this];rfl
theorem tl_tr_ne {f : List UInt8} (h0 : tr f ≠ []) : tl (tr f) ≠ [] := by
  intro e
  have hall : ∀ c ∈ tr f,is0 c=true:=by
    intro c hc
    have h1:=List.takeWhile_append_dropWhile (p:=is0) (l:=tr f)
    unfold tl at e
    rw [e,List.append_nil] at h1
    rw [← h1] at hc
    exact List.all_eq_true.1 (List.all_takeWhile) c hc
  cases hr:(tr f).reverse with
  | nil => exact h0 (List.reverse_eq_nil_iff.1 hr)
  | cons c r =>
    have h1:=tr_trm f c r hr
    have h2:=hall c (List.mem_reverse.1 (by rw [hr];simp))
    rw [h1] at h2
    cases h2
theorem tr_ne0 {c : UInt8} {r : List UInt8} (hc : is0 c = false) : tr (c :: r) ≠ [] := by
  intro h
  obtain ⟨k,hk⟩:=tr_zeros (c :: r)
  rw [h,List.nil_append] at hk
  cases k with
  | zero => cases hk
  | succ k =>
    rw [List.replicate_succ] at hk
    injection hk with h3 h4
    rw [h3] at hc
    cases hc
theorem tr_tl_ne {l : List UInt8} (h : tl l ≠ []) (x : List UInt8) : tr (tl l ++ x) ≠ [] := by
  cases hl:tl l with
  | nil => exact absurd hl h
  | cons c r => exact tr_ne0 (dropWhile_head (show l.dropWhile is0=c :: r from hl))
theorem digS_trim (w f : List UInt8) : digS (tl w) (tr f) 0 = digS w f 0 := by
  obtain ⟨k,hk⟩:=tr_zeros f
  unfold digS
  rw [tl_tl]
  by_cases h:tl w=[]
  · rw [if_pos h, if_pos h]
    by_cases h0:tr f=[]
    · rw [h0, List.nil_append] at hk
      rw [h0]
      have e:tl f=[]:=by rw [hk];exact tl_rep k
      rw [e]
      rfl
    · have hne := tl_tr_ne h0
      have e1:tl f=tl (tr f)++List.replicate k 48:=by
        have:=tl_app (tr f) (List.replicate k 48)
        rw [if_neg hne,← hk] at this
        exact this
      have e2:tr (tl f)=tr (tl (tr f)):=by rw [e1,tr_pad0]
      have e3:(tl f).length=(tl (tr f)).length+k:=by
        have:=congrArg List.length e1
        rw [List.length_append,List.length_replicate] at this
        exact this
      have e4:f.length=(tr f).length+k:=by
        have:=congrArg List.length hk
        rw [List.length_append,List.length_replicate] at this
        exact this
      rw [e2,e3,e4]
      split
      · rfl
      · refine Prod.ext rfl ?_
        simp only
        omega
  · rw [if_neg h, if_neg h]
    have e:tr (tl w++f)=tr (tl w++tr f):=by
      have:=tr_pad0 (tl w++tr f) k
      rw [List.append_assoc,← hk] at this
      exact this
    rw [e]
theorem digS_trm (w f : List UInt8) (e : Int) : Trm (digS w f e).1 := by
  unfold digS
  split
  · split
    · intro c r h;cases h
    · exact tr_trm _
  · split
    · intro c r h;cases h
    · exact tr_trm _
theorem dig_iff (w f : List UInt8) : (digS w f 0).1 = [] ↔ (tl w).isEmpty = true ∧ (tr f).isEmpty = true := by
  rw [List.isEmpty_iff,List.isEmpty_iff,← digS_trim]
  unfold digS
  rw [tl_tl]
  by_cases h:tl w=[]
  · rw [if_pos h]
    by_cases h0:tr f=[]
    · rw [h0]
      simp only [tl,tr,List.reverse_nil,List.dropWhile_nil,if_true,h0,and_true,true_iff]
      exact h
    · have hne := tl_tr_ne h0
      have:=tr_tl_ne hne []
      rw [List.append_nil] at this
      rw [if_neg this]
      exact ⟨fun hh => absurd hh this,fun hh => absurd hh.2 h0⟩
  · rw [if_neg h, if_neg (tr_tl_ne h _)]
    exact ⟨fun hh => absurd hh (tr_tl_ne h _),fun hh => absurd hh.1 h⟩
theorem number_ev' (kind : Int) (s : ByteArray) (hs : s.size < 576460752303423488) : ∃ n d x r, Ev (fun k => r_number.f k kind s) (n, mkB d, x, r) ∧
    (∀ c ∈ d,isDg c=true)∧Trm d∧d.length≤2 * s.size∧((kind=16∨kind=64)→szS n d x r=huS kind s):=by
  have hb:s.size < big:=by rw [big_eq];omega
  have hdl:=size_drop s (sgN (L s))
  have hq:=pl_dg ((L s).drop (sgN (L s)))
  have hl1:=pl1_len ((L s).drop (sgN (L s)))
  have hl2:=pl2_len ((L s).drop (sgN (L s)))
  have hl12:(plS ((L s).drop (sgN (L s)))).1.length+(plS ((L s).drop (sgN (L s)))).2.1.length≤((L s).drop (sgN (L s))).length:=pl12_len _
  obtain ⟨f1,f2,f3⟩:=humS_fields s
  have hfin : ∀ (w f : List UInt8) (ng : Bool) (sz : Int), (∀ c ∈ w, isDg c = true) → (∀ c ∈ f, isDg c = true) → w.length + f.length ≤ s.size → ((decS (L s)).1 = (ng && !((tl w).isEmpty && (tr f).isEmpty)) ∧ (decS (L s)).2.1 = tl w ∧ (decS (L s)).2.2.1 = tr f) →
      ∃ n d x r,Ev (fun k => (r_Norm.f k ng (mkB (w++f)) (w.length:Int) 0).bind fun bt430 => (if kind=64 then (if bt430.2.1.toList=([]:List UInt8) then (some (bt430.1,bt430.2.1,bt430.2.2.1,bt430.2.2.2)) else ((r_Human.f k s).bind fun bt434 => (some (bt430.1,bt430.2.1,bt430.2.2.1,bt434.2.2.2.2)))) else (some (bt430.1,bt430.2.1,bt430.2.2.1,bt430.2.2.2)))) (n,mkB d,x,r)∧
      (∀ c ∈ d,isDg c=true)∧Trm d∧d.length≤2 * s.size∧((kind=16∨kind=64)→szS n d x r=huS kind s):=by
    intro w f ng sz hw hf hwf hdec
    have hN:=Norm_ev ng w f 0 (by omega) (by omega)
    rw [Int.add_zero] at hN
    have hlen:(digS w f 0).1.length≤w.length+f.length:=by
      have a1:=tl_len w
      have a2:=tl_len f
      unfold digS
      split
      · split
        · simp
        · have:=tr_len (tl f);simp only;omega
      · split
        · simp
        · have:=tr_len (tl w++f);rw [List.length_append] at this;simp only;omega
    have hiff:=dig_iff w f
    have hu : ∀ r:Int,(kind=16∨kind=64)→(r=if kind=16 then 0 else ((humS s).2:Int))∨(digS w f 0).1=[]→szS (ng && !(digS w f 0).1.isEmpty) (digS w f 0).1 (digS w f 0).2 r=huS kind s:=by
      intro r hk hr
      unfold huS
      rw [f1,f2,f3,hdec.1,hdec.2.1,hdec.2.2,digS_trim]
      by_cases hd:(digS w f 0).1=[]
      · unfold szS;rw [if_pos hd,if_pos hd]
      · have hr' : r = if kind = 16 then 0 else ((humS s).2 : Int) := hr.resolve_right hd
        have e1:(digS w f 0).1.isEmpty=false:=by cases h:(digS w f 0).1 with|nil => exact absurd h hd|cons => rfl
        have e2:((tl w).isEmpty && (tr f).isEmpty)=false:=by
          rw [Bool.eq_false_iff]
          intro h
          rw [Bool.and_eq_true] at h
          exact hd (hiff.2 h)
        rw [e1,e2,hr']
    by_cases h64:kind=64
    · by_cases hd : (digS w f 0).1 = []
      · refine ⟨_,(digS w f 0).1,(digS w f 0).2,0,Ev.bind hN (Ev.pos h64 (Ev.pos (by rw [toList_mk];exact hd) (Ev.pure _))),digS_dg hw hf,digS_trm w f 0,by omega,fun hk => hu 0 hk (Or.inr hd)⟩
      · refine ⟨_, (digS w f 0).1, (digS w f 0).2, ((humS s).2 : Int), Ev.bind hN (Ev.pos h64 (Ev.neg (by rw [toList_mk]; exact hd) (Ev.bind (rHuman_ev s hb) (Ev.pure _)))), digS_dg hw hf, digS_trm w f 0, by omega, fun hk => hu _ hk (Or.inl ?_)⟩
        rw [if_neg (by omega)]
    · refine ⟨_, (digS w f 0).1, (digS w f 0).2, 0, Ev.bind hN (Ev.neg h64 (Ev.pure _)), digS_dg hw hf, digS_trm w f 0, by omega, fun hk => hu 0 hk (Or.inl ?_)⟩
      rw [if_pos (hk.resolve_right h64)]
  have hsg:=rsigned_ev s hb
  unfold r_number.f
  by_cases h0:noneAt ((L s).drop (sgN (L s)))=true
  · rw [if_pos h0] at hsg
    have hdec:decS (L s)=(false,[],[],0):=by unfold decS;rw [if_pos h0]
    obtain ⟨n,d,x,r,h1,h2⟩:=hfin [] [] false 0 (fun c h => by cases h) (fun c h => by cases h) (by simp) (by rw [hdec];exact ⟨rfl,rfl,rfl⟩)
    exact ⟨n,d,x,r,Ev.bind hsg h1,h2⟩
  · rw [if_neg h0] at hsg
    have hdec:(decS (L s)).1=(sgNeg (L s) && !((tl (plS ((L s).drop (sgN (L s)))).1).isEmpty && (tr (plS ((L s).drop (sgN (L s)))).2.1).isEmpty))∧(decS (L s)).2.1=tl (plS ((L s).drop (sgN (L s)))).1∧(decS (L s)).2.2.1=tr (plS ((L s).drop (sgN (L s)))).2.1:=by
      unfold decS
      rw [if_neg h0]
      exact ⟨rfl,rfl,rfl⟩
    obtain ⟨n,d,x,r,h1,h2⟩:=hfin _ _ (sgNeg (L s)) 0 hq.1 hq.2 (by omega) hdec
    exact ⟨n,d,x,r,Ev.bind hsg h1,h2⟩
end Go.Proofs.YtcdajedmlfhmeaaDoor.XN
end

section
/- numeral.Compare at every kind is cmpS. (by this session) -/
-- NEEDS n_Compare api_Class_53 api_Class_77
set_option linter.unusedVariables false
set_option linter.unusedSimpArgs false
namespace Go.Proofs.YtcdajedmlfhmeaaDoor.XN
open Go.RowKit Go.Proofs.YtcdajedmlfhmeaaDoorW.PrintWords Go.Proofs.YtcdajedmlfhmeaaDoorW.PrintMore
theorem Class_f (a b : Int) : api_Class_53.f a b = some (cmpI a b) := by
  unfold api_Class_53.f api_Class_77.f cmpI
  simp only [Option.bind_some,bne_self_eq_false,Bool.false_eq_true,if_false]
  split
  · rfl
  · split <;> rfl
theorem Compare_g (s t : ByteArray) (hs : s.size < 576460752303423488) (ht : t.size < 576460752303423488) : Ev (fun k => n_Compare.f k 32 s t) (ordG (genS (L s)) (genS (L t))) := by
  unfold n_Compare.f
  refine Ev.neg (by decide) (Ev.succ ?_)
  simp only [n_Compare.j0]
  refine Ev.neg (by decide) (Ev.neg (by decide) (Ev.neg (by decide) (Ev.pos trivial ?_)))
  refine Ev.bind (General_ev s (by omega)) (Ev.bind (General_ev t (by omega)) ?_)
  unfold ordG gnV
  simp only [Class_f,Option.bind_some,sizeOf_f]
  refine Ev.ite (fun h => ?_) (fun h => ?_)
  · rw [if_pos h]
    exact Ev.bind (order_ev _ _ (szS_sign _ _ _ _)) (Ev.pure _)
  · rw [if_neg h]
    exact Ev.pure _
theorem Compare_b (kind : Int) (h1 : ¬ (kind = 16 ∨ kind = 64)) (h2 : ¬ kind = 32) (h3 : ¬ kind = 128) (h4 : ¬ kind = 256) (s t : ByteArray) : Ev (fun k => n_Compare.f k kind s t) (bcmp (L s) (L t)) := by
  unfold n_Compare.f
  refine Ev.neg (fun h => h1 (Or.inl h)) (Ev.succ ?_)
  simp only [n_Compare.j0]
  refine Ev.neg (by simp;exact fun h => h1 (Or.inr h)) (Ev.neg h3 (Ev.neg h4 (Ev.neg h2 ?_)))
  simp only [Compare_str_f,Option.bind_some]
  exact Ev.pure _
theorem Compare_ev (kind : Int) (s t : ByteArray) (hs : s.size < 576460752303423488) (ht : t.size < 576460752303423488) : Ev (fun k => n_Compare.f k kind s t) (cmpS kind s t) := by
  unfold cmpS
  by_cases h1:kind=16∨kind=64
  · rw [if_pos h1]
    exact Compare_h kind h1 s t (by omega) (by omega)
  rw [if_neg h1]
  by_cases h2:kind=32
  · rw [if_pos h2]
    subst h2
    exact Compare_g s t hs ht
  rw [if_neg h2]
  by_cases h3:kind=128
  · rw [if_pos h3]
    subst h3
    exact Compare_m s t (by rw [big_eq];omega) (by rw [big_eq];omega)
  rw [if_neg h3]
  by_cases h4:kind=256
  · rw [if_pos h4]
    subst h4
    exact Compare_v s t (by rw [big_eq];omega) (by rw [big_eq];omega)
  rw [if_neg h4]
  exact Compare_b kind h1 h2 h3 h4 s t
end Go.Proofs.YtcdajedmlfhmeaaDoor.XN
end
