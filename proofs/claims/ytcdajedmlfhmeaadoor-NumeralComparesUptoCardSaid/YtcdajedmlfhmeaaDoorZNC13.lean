/- The card of NumeralCompares (second form): the law answers true at every input up to the given bulk. Conditions: none beyond the row's own. -/
import Derived.Test.YtcdajedmlfhmeaaDoorZNC0
import Derived.Test.YtcdajedmlfhmeaaDoorZNC12
import Derived.Test.YtcdajedmlfhmeaaDoorZNC10
import Derived.Test.YtcdajedmlfhmeaaDoorZNC11
import Derived.Test.YtcdajedmlfhmeaaDoorCards
import Derived.Test.YtcdajedmlfhmeaaDoorTie
import Derived.Test.YtcdajedmlfhmeaaDoorZNC1
import Derived.WalkKit
import Derived.ProofKit
import Derived.OpenShut
import Derived.ShutString
import Derived.ChangeOld
import Derived.Below
import Derived.SizedLaws
import Derived.Deep.DeepHandedRow
import Derived.Lib.LaidTab
import Derived.Lay
import Derived.MakeChecks
import Derived.LaidSub
section
/- The document's Compare is cmpS, up to a bulk: versions, and all kinds. (by this session) -/
-- NEEDS r_Compare r_Versions r_Pairs r_pairs r_numbers r_rankAt r_Rank r_general
set_option linter.unusedVariables false
set_option linter.unusedSimpArgs false
namespace Go.Proofs.YtcdajedmlfhmeaaDoor.XN
open Go.RowKit Go.Proofs.YtcdajedmlfhmeaaDoorW.PrintWords Go.Proofs.YtcdajedmlfhmeaaDoorW.PrintMore
theorem Rank_ev (c : UInt8) (h : isDg c = false) : Ev (fun k => r_Rank.f k (c.toNat : Int)) (rkB c) := by
  have key : ∀ c:UInt8,isDg c=false→r_Rank.f 300 (c.toNat:Int)=some (rkB c):=all8 (by decide +kernel)
  exact Ev.of_ex ⟨300,key c h⟩ (fun k => r_Rank.mono _ _)
def rkI (l:List UInt8):Int:=match l with | [] => 2|c :: _ => rkB c
theorem rkI_nil : rkI [] = 2 := rfl
theorem rkI_cons (c : UInt8) (r : List UInt8) : rkI (c :: r) = rkB c := rfl
theorem rankAt_ev (x : List UInt8) (hx : ∀ c ∈ x, isDg c = false) (i : Nat) : Ev (fun k => r_rankAt.f k (mkB x) (i : Int)) (rkI (x.drop i)) := by
  unfold r_rankAt.f
  rw [size_mk]
  by_cases h:i < x.length
  · refine Ev.pos (by omega) (Ev.pos (by omega) ?_)
    rw [bt_nat (mkB x) i h,List.drop_eq_getElem_cons h]
    exact Ev.bind (Rank_ev _ (hx _ (List.getElem_mem h))) (Ev.pure _)
  · refine Ev.neg (by omega) (Ev.done ?_)
    rw [List.drop_eq_nil_iff.2 (by omega)]
    rfl
theorem wd_next {x y : List UInt8} (i : Nat) : wdS (x.drop i) (y.drop i) = if rkI (x.drop i) = rkI (y.drop i) then wdS (x.drop (i + 1)) (y.drop (i + 1)) else cmpI (rkI (x.drop i)) (rkI (y.drop i)) := by
  rcases dg_next x i with ⟨h1,h2⟩|⟨a,h1⟩ <;> rcases dg_next y i with ⟨h3,h4⟩|⟨b,h3⟩
  · rw [h1,h2,h3,h4,rkI_nil,if_pos rfl]
  · rw [h1, h2, h3, rkI_nil, rkI_cons]
    simp only [wdS]
  · rw [h1, h3, h4, rkI_nil, rkI_cons]
    simp only [wdS]
  · rw [h1, h3, rkI_cons, rkI_cons]
    simp only [wdS]
theorem one_f (a b : List UInt8) : r_one.f (mkB a) (mkB b) = some (if a = [] ∧ b = [] then 0 else 1) := by
  unfold r_one.f
  simp only [toList_mk]
  by_cases h:a=[]
  · rw [if_pos h]
    by_cases h' : b=[]
    · rw [if_pos h',if_pos ⟨h,h'⟩]
    · rw [if_neg h',if_neg (fun hh => h' hh.2)]
  · rw [if_neg h,if_neg (fun hh => h hh.1)]
theorem len_01 (a : List UInt8) : ((a = [] → (a.length : Int) = 0) ∧ (a ≠ [] → 0 < (a.length : Int))) := by
  constructor
  · rintro rfl;rfl
  · intro h
    have:=List.length_pos_iff.2 h
    omega
theorem numbers_ev (a b : List UInt8) (ha : a.length < 100000000) (hb : b.length < 100000000) : Ev (fun k => r_numbers.f k (mkB a) (mkB b)) (rnS a b) := by
  have hT:(a=[]∨b=[])→Ev (fun k => r_numbers.j0 k (mkB a) (mkB b) true) (rnS a b):=by
    intro h
    refine Ev.succ ?_
    simp only [r_numbers.j0,ints_f,one_f,Option.bind_some,size_mk]
    refine Ev.pos trivial (Ev.done ?_)
    unfold rnS
    rw [if_pos h]
    obtain ⟨a1,a2⟩:=len_01 a
    obtain ⟨b1,b2⟩:=len_01 b
    by_cases h1:a=[]
    · by_cases h2 : b = []
      · rw [if_pos ⟨h1,h2⟩,if_pos h1,if_pos h2,Int.mul_zero,cmpI_self];decide +kernel
      · rw [if_neg (fun hh => h2 hh.2),if_pos h1,if_neg h2,cmpI_lt (by have:=a1 h1;have:=b2 h2;omega)];decide +kernel
    · have h2 : b = [] := h.resolve_left h1
      rw [if_neg (fun hh => h1 hh.1),if_neg h1,if_pos h2,cmpI_gt (by have:=a2 h1;have:=b1 h2;omega)];decide +kernel
  unfold r_numbers.f
  simp only [toList_mk]
  refine Ev.ite (fun h => hT (Or.inl h)) (fun h => ?_)
  by_cases h2:b=[]
  · rw [show b.isEmpty = true by rw [h2]; rfl]
    exact hT (Or.inr h2)
  · rw [show b.isEmpty = false by cases b with | nil => exact absurd rfl h2 | cons => rfl]
    refine Ev.succ ?_
    simp only [r_numbers.j0,ints_f,Option.bind_some,size_mk]
    have za:=zeros_ev (mkB a) (by rw [size_mk,big_eq];omega)
    have zb:=zeros_ev (mkB b) (by rw [size_mk,big_eq];omega)
    rw [L_mk] at za zb
    have ea:=zeros_tl a
    have eb:=zeros_tl b
    have xa:(mkB a).extract (a.takeWhile is0).length a.length=mkB (tl a):=by
      have:=extract_end (mkB a) (a.takeWhile is0).length
      rw [size_mk,L_mk,drop_run] at this
      exact this
    have xb:(mkB b).extract (b.takeWhile is0).length b.length=mkB (tl b):=by
      have:=extract_end (mkB b) (b.takeWhile is0).length
      rw [size_mk,L_mk,drop_run] at this
      exact this
    refine Ev.neg (by decide) (Ev.bind za (Ev.pos (by omega) (Ev.pos (by omega) (Ev.bind zb (Ev.pos (by omega) (Ev.pos (by omega) ?_))))))
    simp only [Int.toNat_natCast,xa,xb]
    rw [show a.length - (a.takeWhile is0).length=(tl a).length by omega,show b.length - (b.takeWhile is0).length=(tl b).length by omega]
    unfold rnS
    rw [if_neg (by rintro (h' | h');exact h h';exact h2 h'),orS2]
    refine Ev.ite (fun hl => ?_) (fun hl => ?_)
    · rw [show ((tl a).length : Int) = ((tl b).length : Int) from hl, cmpI_self, thn0]
      have:=Bytes_ev (mkB (tl a)) (mkB (tl b)) (by rw [size_mk];omega) (by rw [size_mk];omega)
      rw [L_mk,L_mk] at this
      exact Ev.bind this (Ev.pure _)
    · rw [thn_ne (fun e => hl (cmpI_zero e))]
      exact Ev.pure _
theorem pairs_l0 (x y d e : List UInt8) (hx : ∀ c ∈ x, isDg c = false) (hy : ∀ c ∈ y, isDg c = false) (hl : x.length < 100000000 ∧ y.length < 100000000) (hd : d.length < 100000000 ∧ e.length < 100000000) : ∀ (n i : Nat), max x.length y.length - i = n →
    Ev (fun k => r_pairs.l0 k (i:Int) (mkB x) (mkB d) (mkB y) (mkB e)) (thn (wdS (x.drop i) (y.drop i)) (rnS d e))
  | n,i,h => by
    have step:i < max x.length y.length→Ev (fun k => r_pairs.j1 k (i:Int) true (mkB x) (mkB d) (mkB y) (mkB e)) (thn (wdS (x.drop i) (y.drop i)) (rnS d e)):=by
      intro hi
      refine Ev.succ ?_
      simp only [r_pairs.j1,ints_f,Option.bind_some,w64_succ (i:=i) (by omega)]
      refine Ev.pos trivial (Ev.bind (rankAt_ev x hx i) (Ev.bind (rankAt_ev y hy i) (Ev.ite (fun he => ?_) (fun he => ?_))))
      · rw [wd_next, if_pos he]
        exact pairs_l0 x y d e hx hy hl hd (n - 1) (i+1) (by omega)
      · refine Ev.bind (rankAt_ev x hx i) (Ev.bind (rankAt_ev y hy i) (Ev.done ?_))
        rw [wd_next,if_neg he,thn_ne (fun e => he (cmpI_zero e))]
    refine Ev.succ ?_
    simp only [r_pairs.l0,size_mk]
    refine Ev.ite (fun h1 => step (by omega)) (fun h1 => ?_)
    by_cases h2:(i:Int) < (y.length:Int)
    · rw [decide_eq_true h2]
      exact step (by omega)
    · rw [decide_eq_false h2, List.drop_eq_nil_iff.2 (by omega), List.drop_eq_nil_iff.2 (by omega)]
      refine Ev.succ ?_
      simp only [r_pairs.j1]
      refine Ev.neg (by decide) (Ev.bind (numbers_ev d e hd.1 hd.2) (Ev.done ?_))
      rw [show wdS [] []=0 by simp only [wdS],thn0]
termination_by n i => max x.length y.length - i
theorem pairs_ev (x y d e : List UInt8) (hx : ∀ c ∈ x, isDg c = false) (hy : ∀ c ∈ y, isDg c = false) (hl : x.length < 100000000 ∧ y.length < 100000000) (hd : d.length < 100000000 ∧ e.length < 100000000) :
    Ev (fun k => r_pairs.f k (mkB x) (mkB d) (mkB y) (mkB e)) (thn (wdS x y) (rnS d e)):=by
  unfold r_pairs.f
  have:=pairs_l0 x y d e hx hy hl hd _ 0 rfl
  rw [List.drop_zero,List.drop_zero] at this
  exact this
def prs : Nat → List UInt8 → List S101
  | 0,_ => [⟨mkB [],mkB []⟩]
  | n+1,l => if l=[] then [⟨mkB [],mkB []⟩] else ⟨mkB (pr1 l),mkB (pr2 l)⟩ :: prs n (pr3 l)
theorem prs_len : ∀ (n : Nat) (l : List UInt8), (prs n l).length ≤ l.length + 1
  | 0,l => by unfold prs;simp
  | n+1,l => by
    unfold prs
    split
    · simp
    · rename_i h
      have:=prs_len n (pr3 l)
      have:=pr_short h
      simp only [List.length_cons]
      omega
theorem Pairs_l1 (s : ByteArray) (hs : s.size < 100000000) (i : Nat) (acc : List S101) (v : List S101) : ∀ (l : List UInt8) (j : Nat), (L s).drop j = l → i ≤ j → j ≤ s.size → (i + ((L s).drop i |>.takeWhile noDg).length = j + (l.takeWhile noDg).length) → acc.length < 100000001 →
    Ev (fun k => r_Pairs.l0 k s (acc ++ [⟨mkB (pr1 ((L s).drop i)),mkB (pr2 ((L s).drop i))⟩]) ((i+(pr1 ((L s).drop i)).length+(pr2 ((L s).drop i)).length:Nat):Int)) v→
    Ev (fun k => r_Pairs.l1 k s acc (i:Int) (j:Int)) v:=by
  have hb:s.size < big:=by rw [big_eq];omega
  have hend : ∀ (l : List UInt8) (j : Nat), (L s).drop j = l → i ≤ j → j ≤ s.size → l.takeWhile noDg = [] → (i + ((L s).drop i |>.takeWhile noDg).length = j + (l.takeWhile noDg).length) →
      s.extract i j=mkB (pr1 ((L s).drop i))∧s.extract j (j+(l.takeWhile isDg).length)=mkB (pr2 ((L s).drop i))∧j+(l.takeWhile isDg).length=i+(pr1 ((L s).drop i)).length+(pr2 ((L s).drop i)).length∧j+(l.takeWhile isDg).length≤s.size:=by
    intro l j hl hij hj h0 he
    rw [h0,List.length_nil,Nat.add_zero] at he
    have h1:s.extract i j=mkB (pr1 ((L s).drop i)):=by
      rw [extract_mk',← he,Nat.add_sub_cancel_left,take_run];rfl
    have h2:((L s).drop i).dropWhile noDg=l:=by
      rw [← drop_run,List.drop_drop,he,hl]
    have h3:s.extract j (j+(l.takeWhile isDg).length)=mkB (pr2 ((L s).drop i)):=by
      rw [extract_mk',hl,Nat.add_sub_cancel_left,take_run]
      unfold pr2
      rw [h2]
    refine ⟨h1,h3,?_,?_⟩
    · show j + (l.takeWhile isDg).length = i + ((L s).drop i |>.takeWhile noDg).length + (pr2 ((L s).drop i)).length
      unfold pr2
      rw [h2]
      omega
    · have := take_len (p := isDg) l
      have h5:=congrArg List.length hl
      rw [List.length_drop,L_len] at h5
      omega
  intro l
  induction l with
  | nil =>
    intro j hl hij hj he ha hv
    have hz:=drop_nil hl
    obtain ⟨e1,e2,e3,e4⟩:=hend [] j hl hij hj rfl he
    have hr:=run_ev s hb j hj
    rw [hl] at hr
    refine Ev.succ ?_
    simp only [r_Pairs.l1]
    refine Ev.neg (by omega) (Ev.bind hr ?_)
    simp only [Int.toNat_natCast,e1,e2]
    refine Ev.pos (by omega) (Ev.pos (by omega) (Ev.pos (by omega) (Ev.pos (by omega) (Ev.pos (by omega) (Ev.pos (by omega) (Ev.pos (by omega) ?_))))))
    rw [e3]
    exact hv
  | cons c r ih =>
    intro j hl hij hj he ha hv
    obtain ⟨h1,h2,h3⟩:=drop_cons hl
    refine Ev.succ ?_
    simp only [r_Pairs.l1,h2,isDigit_f,Option.bind_some,w64_succ (i:=j) (by omega)]
    refine Ev.pos (by omega) (Ev.pos (by omega) ?_)
    by_cases hc:isDg c=true
    · have h0 : (c :: r).takeWhile noDg = [] := by rw [List.takeWhile_cons, if_neg (by simp [noDg, hc])]
      obtain ⟨e1,e2,e3,e4⟩:=hend (c :: r) j hl hij hj h0 he
      have hr:=run_ev s hb j hj
      rw [hl] at hr
      refine Ev.pos hc (Ev.bind hr ?_)
      simp only [Int.toNat_natCast,e1,e2]
      refine Ev.pos (by omega) (Ev.pos (by omega) (Ev.pos (by omega) (Ev.pos (by omega) (Ev.pos (by omega) (Ev.pos (by omega) ?_)))))
      rw [e3]
      exact hv
    · refine Ev.neg hc (ih (j + 1) h3 (by omega) (by omega) ?_ ha hv)
      rw [List.takeWhile_cons,if_pos (by simp [noDg,hc])] at he
      simp only [List.length_cons] at he
      omega
theorem pr3_drop (l : List UInt8) : l.drop ((pr1 l).length + (pr2 l).length) = pr3 l := by
  have h:(pr1 l++pr2 l++pr3 l).drop ((pr1 l).length+(pr2 l).length)=pr3 l:=by
    rw [← List.length_append]
    exact List.drop_left
  rw [List.append_assoc,pr_all] at h
  exact h
theorem Pairs_l0 (s : ByteArray) (hs : s.size < 100000000) : ∀ (n : Nat) (i : Nat) (acc : List S101), ((L s).drop i).length < n → i ≤ s.size → acc.length ≤ i →
    Ev (fun k => r_Pairs.l0 k s acc (i:Int)) (acc++prs n ((L s).drop i))
  | 0,i,acc,h,_,_ => by omega
  | n+1,i,acc,h,hi,ha => by
    refine Ev.succ ?_
    simp only [r_Pairs.l0]
    unfold prs
    by_cases h0:(L s).drop i=[]
    · have := drop_nil h0
      rw [if_pos h0]
      exact Ev.neg (by omega) (Ev.pos (by omega) (Ev.pure _))
    · have hlt:i < s.size:=by
        have:=List.length_pos_iff.2 h0
        rw [List.length_drop,L_len] at this
        omega
      rw [if_neg h0]
      have hsh:=pr_short h0
      have hpl:=pr_len ((L s).drop i)
      have hdl:((L s).drop i).length=s.size - i:=by rw [List.length_drop,L_len]
      have hp3:pr3 ((L s).drop i)=(L s).drop (i+(pr1 ((L s).drop i)).length+(pr2 ((L s).drop i)).length):=by
        rw [← pr3_drop,List.drop_drop]
        congr 1
        omega
      refine Ev.pos (by omega) (Pairs_l1 s hs i acc _ _ i rfl (Nat.le_refl _) hi rfl (by omega) ?_)
      have ih:=Pairs_l0 s hs n (i+(pr1 ((L s).drop i)).length+(pr2 ((L s).drop i)).length) (acc ++ [⟨mkB (pr1 ((L s).drop i)),mkB (pr2 ((L s).drop i))⟩]) (by rw [← hp3];omega) (by omega) (by simp;omega)
      rw [← hp3] at ih
      rw [List.append_assoc] at ih
      exact ih
theorem Pairs_ev (s : ByteArray) (hs : s.size < 100000000) : Ev (fun k => r_Pairs.f k s) (prs ((L s).length + 1) (L s)) := by
  unfold r_Pairs.f
  have:=Pairs_l0 s hs ((L s).length+1) 0 [] (by rw [List.drop_zero];omega) (Nat.zero_le _) (Nat.le_refl _)
  rw [List.drop_zero,List.nil_append] at this
  exact this
def Rep (xs:List S101) (i:Nat) (l:List UInt8):Prop:=(∃ n,l.length < n∧xs.drop i=prs n l)∨(xs.drop i=[]∧l=[])
theorem rep_drop {xs : List S101} {i : Nat} {l : List UInt8} (h : Rep xs i l) : Rep xs (i + 1) (pr3 l) ∧ (i < xs.length ↔ ¬ xs.drop i = []) ∧
    (i < xs.length→(rd_T101 xs (i:Int)).f0=mkB (pr1 l)∧(rd_T101 xs (i:Int)).f1=mkB (pr2 l))∧(¬ i < xs.length→l=[]):=by
  have hlt:i < xs.length↔¬ xs.drop i=[]:=by
    rw [List.drop_eq_nil_iff];omega
  have hrd : ∀ y r,xs.drop i=y :: r→rd_T101 xs (i:Int)=y:=by
    intro y r e
    unfold rd_T101
    rw [Int.toNat_natCast]
    have hi:i < xs.length:=hlt.2 (by rw [e];simp)
    have:=List.drop_eq_getElem_cons hi
    rw [e] at this
    injection this with h1 h2
    rw [h1]
    simp [List.getD,hi]
  have hnx : ∀ y r,xs.drop i=y :: r→xs.drop (i+1)=r:=by
    intro y r e
    rw [← List.drop_drop,e]
    rfl
  rcases h with ⟨n,hn,he⟩|⟨he,hl⟩
  · obtain ⟨n, rfl⟩ : ∃ m, n = m + 1 := ⟨n - 1, by omega⟩
    unfold prs at he
    by_cases h0:l=[]
    · rw [if_pos h0] at he
      subst h0
      refine ⟨Or.inr ⟨hnx _ _ he,rfl⟩,hlt,fun _ => ?_,fun h => absurd (hlt.2 (by rw [he];simp)) h⟩
      rw [hrd _ _ he]
      exact ⟨rfl,rfl⟩
    · rw [if_neg h0] at he
      have:=pr_short h0
      refine ⟨Or.inl ⟨n,by omega,hnx _ _ he⟩,hlt,fun _ => ?_,fun h => absurd (hlt.2 (by rw [he];simp)) h⟩
      rw [hrd _ _ he]
      exact ⟨rfl,rfl⟩
  · subst hl
    refine ⟨Or.inr ⟨?_,rfl⟩,hlt,fun h => absurd he (hlt.1 h),fun _ => rfl⟩
    rw [List.drop_eq_nil_iff] at he ⊢
    omega
theorem vrF_nil (n : Nat) : vrF n [] [] = 0 := by
  cases n with
  | zero => rfl
  | succ n => unfold vrF;rw [if_pos ⟨rfl,rfl⟩]
theorem Versions_l0 (xs ys : List S101) (hx : xs.length < 100000000) (hy : ys.length < 100000000) : ∀ (n i : Nat) (l m : List UInt8), max xs.length ys.length - i ≤ n → l.length < 100000000 → m.length < 100000000 → Rep xs i l → Rep ys i m → ∀ f, l.length + m.length < f →
    Ev (fun k => r_Versions.l0 k xs ys (i:Int)) (vrF f l m)
  | n,i,l,m,hn,hl,hm,rx,ry,f,hf => by
    obtain ⟨x1,x2,x3,x4⟩:=rep_drop rx
    obtain ⟨y1,y2,y3,y4⟩:=rep_drop ry
    have hpl:=pr_len l
    have hpm:=pr_len m
    have step:i < max xs.length ys.length→Ev (fun k => r_Versions.j1 k xs ys (i:Int) true) (vrF f l m):=by
      intro hi
      obtain ⟨n,rfl⟩ : ∃ j,n=j+1:=⟨n - 1,by omega⟩
      obtain ⟨f,rfl⟩ : ∃ j,f=j+1:=⟨f - 1,by omega⟩
      have hcmp:=pairs_ev (pr1 l) (pr1 m) (pr2 l) (pr2 m) (pr1_no l) (pr1_no m) (by omega) (by omega)
      have hval:vrF (f+1) l m=if thn (wdS (pr1 l) (pr1 m)) (rnS (pr2 l) (pr2 m))=0 then vrF f (pr3 l) (pr3 m) else thn (wdS (pr1 l) (pr1 m)) (rnS (pr2 l) (pr2 m)):=by
        have e:vrF (f+1) l m=if l=[]∧m=[] then 0 else if orS [wdS (pr1 l) (pr1 m),rnS (pr2 l) (pr2 m)]=0 then vrF f (pr3 l) (pr3 m) else orS [wdS (pr1 l) (pr1 m),rnS (pr2 l) (pr2 m)]:=rfl
        rw [e,orS2]
        by_cases h0:l=[]∧m=[]
        · rw [if_pos h0,h0.1,h0.2,pr1_nil,pr2_nil,pr3_nil,show wdS [] []=0 by simp only [wdS],thn0,show rnS [] []=0 by decide +kernel,if_pos rfl,vrF_nil]
        · rw [if_neg h0]
      have hnext:thn (wdS (pr1 l) (pr1 m)) (rnS (pr2 l) (pr2 m))=0→Ev (fun k => r_Versions.l0 k xs ys ((i+1:Nat):Int)) (vrF f (pr3 l) (pr3 m)):=by
        intro _
        by_cases h0:l=[]∧m=[]
        · have e : vrF f (pr3 l) (pr3 m) = vrF (f + 1) (pr3 l) (pr3 m) := by rw [h0.1, h0.2, pr3_nil, vrF_nil, vrF_nil]
          rw [e]
          exact Versions_l0 xs ys hx hy n (i+1) (pr3 l) (pr3 m) (by omega) (by omega) (by omega) x1 y1 (f+1) (by rw [h0.1,h0.2,pr3_nil];simp)
        · refine Versions_l0 xs ys hx hy n (i + 1) (pr3 l) (pr3 m) (by omega) (by omega) (by omega) x1 y1 f ?_
          by_cases h1:l=[]
          · have := pr_short (l := m) (fun h => h0 ⟨h1, h⟩)
            rw [h1,pr3_nil]
            rw [h1] at hf
            simp at hf ⊢
            omega
          · have := pr_short h1
            omega
      have hj2:Ev (fun k => r_Versions.j2 k xs ys (i:Int) (mkB (pr1 l)) (mkB (pr2 l)) (mkB []) (mkB [])) (vrF (f+1) l m):=by
        refine Ev.succ ?_
        simp only [r_Versions.j2,w64_succ (i:=i) (by omega)]
        rw [hval]
        refine Ev.ite (fun h => Ev.pos (by omega) ?_) (fun h => ?_)
        · obtain ⟨e1, e2⟩ := y3 (by omega)
          rw [e1,e2]
          refine Ev.bind hcmp (Ev.ite (fun h0 => ?_) (fun h0 => ?_))
          · rw [if_pos h0];exact hnext h0
          · rw [if_neg h0];exact Ev.pure _
        · have hm0 := y4 (by omega)
          have hc2:=hcmp
          rw [hm0,pr1_nil,pr2_nil] at hc2
          refine Ev.bind hc2 ?_
          rw [hm0,pr1_nil,pr2_nil,pr3_nil] at hnext ⊢
          refine Ev.ite (fun h0 => ?_) (fun h0 => ?_)
          · rw [if_pos h0];exact hnext h0
          · rw [if_neg h0];exact Ev.pure _
      refine Ev.succ ?_
      simp only [r_Versions.j1]
      refine Ev.pos trivial (Ev.ite (fun h => Ev.pos (by omega) ?_) (fun h => ?_))
      · obtain ⟨e1, e2⟩ := x3 (by omega)
        rw [e1,e2]
        exact hj2
      · have hl0 := x4 (by omega)
        rw [hl0,pr1_nil,pr2_nil] at hj2
        rw [hl0]
        exact hj2
    refine Ev.succ ?_
    simp only [r_Versions.l0]
    refine Ev.ite (fun h1 => step (by omega)) (fun h1 => ?_)
    by_cases h2:(i:Int) < (ys.length:Int)
    · rw [decide_eq_true h2]
      exact step (by omega)
    · rw [decide_eq_false h2]
      refine Ev.succ ?_
      simp only [r_Versions.j1]
      refine Ev.neg (by decide) (Ev.done ?_)
      rw [x4 (by omega),y4 (by omega),vrF_nil]
theorem Versions_ev (s t : ByteArray) (hs : s.size < 90000000) (ht : t.size < 90000000) : Ev (fun k => r_Versions.f k s t) (vrS (L s) (L t)) := by
  have p1:=prs_len ((L s).length+1) (L s)
  have p2:=prs_len ((L t).length+1) (L t)
  have l1:=L_len s
  have l2:=L_len t
  unfold r_Versions.f vrS
  refine Ev.bind (Pairs_ev s (by omega)) (Ev.bind (Pairs_ev t (by omega)) ?_)
  exact Versions_l0 _ _ (by omega) (by omega) _ 0 (L s) (L t) (Nat.le_refl _) (by omega) (by omega) (Or.inl ⟨(L s).length+1,by omega,List.drop_zero⟩) (Or.inl ⟨(L t).length+1,by omega,List.drop_zero⟩) _ (by omega)
theorem genS_dg (s : ByteArray) (hs : s.size < 10000000) : (genS (L s)).2.2.1.length < 1000000000 ∧ Trm (genS (L s)).2.2.1 := by
  have hn:((L s).drop (genN (L s))).length≤s.size:=by rw [List.length_drop,L_len];omega
  have ht:Trm []:=fun c r h => by cases h
  unfold genS genB
  split
  · exact ⟨by simp,ht⟩
  · split
    · exact ⟨by simp,ht⟩
    · split
      · exact ⟨by simp,ht⟩
      · split
        · exact ⟨by simp,ht⟩
        · have p1 := pl1_len ((L s).drop (genN (L s)))
          have p2:=pl2_len ((L s).drop (genN (L s)))
          refine ⟨?_,digS_trm _ _ _⟩
          simp only
          generalize (plS ((L s).drop (genN (L s)))).1=w at *
          generalize (plS ((L s).drop (genN (L s)))).2.1=f at *
          have a1:=tl_len w
          have a2:=tl_len f
          unfold digS
          split
          · split
            · simp
            · have:=tr_len (tl f);simp only;omega
          · split
            · simp
            · have:=tr_len (tl w++f);rw [List.length_append] at this;simp only;omega
theorem rCompare_ev (kind : Int) (s t : ByteArray) (hs : s.size < 2000000) (ht : t.size < 2000000) : Ev (fun k => r_Compare.f k kind s t) (cmpS kind s t) := by
  have hb:s.size < big:=by rw [big_eq];omega
  have hb' : t.size < big:=by rw [big_eq];omega
  have key : ∀ c:Bool,c=decide (kind=16∨kind=64)→Ev (fun k => r_Compare.j0 k kind s t kind c) (cmpS kind s t):=by
    intro c hc
    refine Ev.succ ?_
    simp only [r_Compare.j0]
    unfold cmpS
    by_cases h1:kind=16∨kind=64
    · rw [if_pos h1]
      obtain ⟨n,d,x,r,e1,e2,e3,e4,e5⟩:=number_ev' kind s (by omega)
      obtain ⟨n',d',x',r',f1,f2,f3,f4,f5⟩:=number_ev' kind t (by omega)
      refine Ev.pos (by rw [hc,decide_eq_true h1]) (Ev.bind e1 (Ev.bind f1 ?_))
      rw [← e5 h1,← f5 h1]
      exact Ev.bind (Order_ev n n' d d' x x' r r' e2 f2 e3 f3 (by omega)) (Ev.pure _)
    rw [if_neg h1]
    refine Ev.neg (by rw [hc,decide_eq_false h1];decide) ?_
    by_cases h2:kind=32
    · rw [if_pos h2]
      refine Ev.pos h2 (Ev.bind (rGeneral_ev s (by omega)) (Ev.bind (rGeneral_ev t (by omega)) ?_))
      have o1:=genS_ok s (by omega)
      have o2:=genS_ok t (by omega)
      have g1:=genS_dg s (by omega)
      have g2:=genS_dg t (by omega)
      unfold ordG gnV
      generalize genS (L s)=g at *
      generalize genS (L t)=g' at *
      simp only [ints_f,Option.bind_some,r_general.f]
      refine Ev.ite (fun h => ?_) (fun h => ?_)
      · rw [if_pos h]
        exact Ev.bind (Order_ev _ _ _ _ _ _ 0 0 o1.dig o2.dig g1.2 g2.2 ⟨g1.1,g2.1⟩) (Ev.pure _)
      · rw [if_neg h]
        refine Ev.done ?_
        rw [w64 (by rcases o1.cls with e|e|e|e|e <;> omega),w64 (by rcases o2.cls with e|e|e|e|e <;> omega)]
    rw [if_neg h2]
    refine Ev.neg h2 ?_
    by_cases h3:kind=128
    · rw [if_pos h3]
      refine Ev.pos h3 (Ev.bind (rMonth_ev s hb) (Ev.bind (rMonth_ev t hb') ?_))
      simp only [ints_f,Option.bind_some]
      exact Ev.pure _
    rw [if_neg h3]
    refine Ev.neg h3 ?_
    by_cases h4:kind=256
    · rw [if_pos h4]
      exact Ev.pos h4 (Ev.bind (Versions_ev s t (by omega) (by omega)) (Ev.pure _))
    rw [if_neg h4]
    exact Ev.neg h4 (Ev.bind (Bytes_ev s t (by omega) (by omega)) (Ev.pure _))
  unfold r_Compare.f
  refine Ev.ite (fun h => ?_) (fun h => ?_)
  · exact key _ (by simp [h])
  · exact key _ (by
      by_cases h' : kind=64
      · simp [h']
      · simp [h,h'])
end Go.Proofs.YtcdajedmlfhmeaaDoor.XN
end

section
/- NumeralCompares, the plain law, up to a bulk: of every kind and every two texts both sides say which comes first. (by this session) -/
-- NEEDS w_NumeralCompares
set_option linter.unusedVariables false
namespace Go.Proofs.YtcdajedmlfhmeaaDoor.XN
open Go.RowKit Go.Proofs.YtcdajedmlfhmeaaDoorW.PrintWords Go.Proofs.YtcdajedmlfhmeaaDoorW.PrintMore
theorem NumeralCompares_ev (kind : Int) (a b : ByteArray) (hk : 0 ≤ kind ∧ kind < 65536) (ha : a.size ≤ 1048576) (hb : b.size ≤ 1048576) : Ev (fun k => w_NumeralCompares.f k kind a b) true := by
  unfold w_NumeralCompares.f
  rw [w64 (by omega)]
  exact Ev.bind (Compare_ev kind a b (by omega) (by omega)) (Ev.bind (rCompare_ev kind a b (by omega) (by omega)) (Ev.pos rfl (Ev.bind alive_ev (Ev.pure _))))
end Go.Proofs.YtcdajedmlfhmeaaDoor.XN
namespace Go.Proofs.YtcdajedmlfhmeaaDoor.Pure
theorem NumeralCompares (kind : Int) (a b : ByteArray) (hk : (Lit.int .u16 kind).wf = true) (ha : a.size ≤ 1048576) (hb : b.size ≤ 1048576) : ∃ k, XN.w_NumeralCompares.f k kind a b = some true := by
  have h:0≤kind∧kind < 65536:=by
    simp [Lit.wf,IntKind.min,IntKind.max,IntKind.signed,IntKind.bits] at hk
    omega
  exact (XN.NumeralCompares_ev kind a b h ha hb).ex
end Go.Proofs.YtcdajedmlfhmeaaDoor.Pure
end

section
/- The card of NumeralCompares (second form): the law answers true at every input up to the given bulk. Conditions: none beyond the row's own. -/
set_option linter.unusedVariables false
set_option linter.unusedSimpArgs false
namespace Go.Proofs.YtcdajedmlfhmeaaDoor.numeralCompares
open Go.ChangeShapes Go.WideShapes Go.ChangeAt Go.RowKit
open Go.ChangeMaps (open_string shut_string)
theorem own : ownKnob Tryd.prog.godebug = none := by kernel_rfl
set_option maxRecDepth 100000 in
/-- What the walk gives, at every argument and every world that holds the listed variables. -/
theorem contract (H : Type) (enc : TypeId × Value → H) (W : World) (args : Array Value) (ds gs : List (DataW H)) (before : List MemPlace) (base : Nat)
    (hval0 : ∀ (j:Nat) t v,Tryd.f6.params[j]?=some t→args[j]?=some v→Value.okWide Tryd.prog W .any base t v)
    (hW:DataW.Whole enc Tryd.prog Tryd.f6.params.toList Rows.numeralComparesSpec.vars false W args.toList ds gs before)
    (hsz0:(DataW.weightsEach Tryd.prog (Tryd.f6.params.toList++Rows.numeralComparesSpec.plain.varTypes Tryd.prog) (ds++gs)).all (·≤reachBytes)=true)
    (hL:laidMetH Tryd.prog Rows.numeralComparesUptoRow.laid W) (hS:W.ShapedOpen Tryd.prog) (hk0:Rows.uptoSmall H (ds++gs)=true) :
    Calls Tryd.prog 6 args W fun e W' => ∃ v,e=.returned v∧Rows.numeralComparesSpec.post enc Tryd.prog Tryd.f6 false true false false W args v W':=by
  have hGL:XN.GOK W:=XN.gok_of hL (by kernel_rfl) hS 1 2 rfl rfl
  have hsz:(DataW.weightsEach Tryd.prog (Tryd.f6.params.toList++Rows.numeralComparesSpec.plain.varTypes Tryd.prog) (ds++gs)).all (·≤reachBytes)=true:=hsz0
  have hval : ∀ (j:Nat) t v,Tryd.f6.params[j]?=some t→args[j]?=some v→Value.okWide Tryd.prog W .any base t v:=hval0
  have hW':=hW
  obtain ⟨p,q,hA0,hV,rfl,hfz,hnd⟩:=hW
  have hA:DataW.TrodAll enc Tryd.prog W 0 (fun _ => true) true Tryd.f6.params.toList args.toList ds p:=hA0
  rw [Tryd.params6] at hA hval hsz
  obtain ⟨v0,vs0,d0,ds0,p0,q0,hargs,rfl,rfl,h0,r0⟩:=trodAll_cons hA
  obtain ⟨v1,vs1,d1,ds1,p1,q1,rfl,rfl,rfl,h1,r1⟩:=trodAll_cons r0
  obtain ⟨v2,vs2,d2,ds2,p2,q2,rfl,rfl,rfl,h2,r2⟩:=trodAll_cons r1
  obtain ⟨rfl,rfl,rfl⟩:=trodAll_nil r2
  obtain rfl:args=#[v0,v1,v2]:=by cases args;simp_all
  obtain ⟨rfl,rfl⟩:=trodVars_none hV
  obtain ⟨a0,rfl,rfl,rfl,w0⟩:=open_int Tryd.underlying39 (hval 0 39 v0 rfl rfl) h0
  obtain ⟨a1,rfl,rfl,rfl,y1⟩:=open_string Tryd.underlying9 (hval 1 9 v1 rfl rfl) h1
  have w1:a1.size≤140737488351232:=by
    have z:=sized_string hsz (j:=1) (t:=9) rfl rfl
    rw [Array.length_toList] at z
    exact z
  obtain ⟨a2,rfl,rfl,rfl,y2⟩:=open_string Tryd.underlying9 (hval 2 9 v2 rfl rfl) h2
  have w2:a2.size≤140737488351232:=by
    have z:=sized_string hsz (j:=2) (t:=9) rfl rfl
    rw [Array.length_toList] at z
    exact z
  have hk1:Rows.uptoBulkAll _≤1048576:=of_decide_eq_true hk0
  simp only [List.append_nil,List.cons_append,List.nil_append,Rows.uptoBulkAll,Rows.uptoBulk,Array.length_toList] at hk1
  have u1:a1.size≤1048576:=by
    have e:a1.data.size=a1.size:=rfl
    omega
  have u2:a2.size≤1048576:=by
    have e:a2.data.size=a2.size:=rfl
    omega
  obtain ⟨k,hkk⟩:=Pure.NumeralCompares a0 a1 a2 w0 u1 u2
  clear hA0 hval0 hsz0 hsz
  refine (XN.w_NumeralCompares.calls k a0 a1 a2 true W hGL hkk).mono fun e W' ⟨he,bel⟩ => ?_
  subst he
  exact ⟨_,rfl,_,_,_,[],_,[],hW',trodAll_mk1 (shut_bool Tryd.underlying4 _),(trodAll_cons_mk (shut_int Tryd.underlying39 w0) (trodAll_cons_mk (shut_string Tryd.underlying9 y1) (trodAll_cons_mk (shut_string Tryd.underlying9 y2) trodAll_mk0))),rfl,bel.frame _,fun h => by cases h⟩
set_option maxRecDepth 100000 in
theorem lifted (os : Os) (started : os.Started) (H : Type) (enc : TypeId × Value → H) (F : Stop.Interp) :
    ReturnsInHanded {} Tryd.checked os 6 .any ((Rows.OpenSpec.upto Rows.numeralComparesSpec).preRow enc Tryd.prog Tryd.f6 Rows.numeralComparesUptoRow.domain false Rows.numeralComparesUptoRow.laid) (((Rows.OpenSpec.upto Rows.numeralComparesSpec).at F).post enc Tryd.prog Tryd.f6 false true false false):=by
  have hx : ∃ places,DataW.whole enc Tryd.prog ((World.laidAll Tryd.prog os Rows.numeralComparesUptoRow.laid).forCall (fun _ _ => 0) ⟨#[],#[.int .u16 0,.string ⟨#[]⟩,.string ⟨#[]⟩],[]⟩).memory Tryd.f6.params.toList Rows.numeralComparesSpec.vars false (#[.int .u16 0,.string ⟨#[]⟩,.string ⟨#[]⟩]:Array Value).toList 8=some ([.lit (.int .u16 0),.lit (.string []),.lit (.string [])],[],places):=
    ⟨[],by kernel_rfl⟩
  obtain ⟨places,hx⟩:=hx
  refine returnsInHanded_of_row (C := Tryd.checked) (s := (Rows.OpenSpec.upto Rows.numeralComparesSpec)) own started (by kernel_rfl) Tryd.func6
    (witness_row_at (enc := enc) (C := Tryd.checked) false (World.laidAll Tryd.prog os Rows.numeralComparesUptoRow.laid) #[.int .u16 0, .string ⟨#[]⟩, .string ⟨#[]⟩] (World.laidAll_os _ _ _) (by kernel_rfl) (by kernel_rfl) (by kernel_rfl)
      (OpenSpec.preRow_of_cond 8 hx (by kernel_rfl) (fun k hk => by cases hk;kernel_rfl) (by kernel_rfl) (laidMet_laidAll _ (by kernel_rfl) (by kernel_rfl)))) ?_
  intro W base args ds gs before hval hW h1 h2 hsz hL hS h3
  exact contract H enc W args ds gs before base hval hW hsz hL hS (by first|exact h1 _ rfl|exact h2 _ rfl|exact h3 _ rfl)
theorem said : Rows.NumeralComparesUptoSaid :=
  OpenClaim.holds_of_cond 6 Tryd.f6 rfl rfl rfl rfl rfl rfl rfl ⟨rfl, rfl, rfl, rfl, rfl⟩ rfl rfl rfl rfl rfl (by kernel_rfl) Tryd.func6 (by kernel_rfl)
    (of_decide_eq_true (by kernel_rfl)) (by unfold Func.isWrapper;first|(rw [if_pos (by decide +kernel)];kernel_rfl)|(rw [if_neg (by decide +kernel)];exact ⟨rfl,rfl⟩))
    (fun os started H enc _ F => by rw [OpenClaim.pre_eq_preRow];exact lifted os started H enc F)
theorem plain (f : FuncId) (fn : Func) (hf : Tryd.pinned.checked.prog.funcNamed "mill/milllaw3.NumeralCompares" = some f) (hfn : Tryd.pinned.checked.prog.funcs[f]? = some fn) :
    false=Tryd.pinned.checked.prog.looks []∧∀ (j:Nat) t,fn.params[j]?=some t→Tryd.pinned.checked.prog.wantsStandIn t=false:=by
  obtain rfl : f = 6 := Option.some.inj ((show Tryd.prog.funcNamed "mill/milllaw3.NumeralCompares" = some 6 by kernel_rfl).symm.trans hf) |>.symm
  obtain rfl:fn=Tryd.f6:=(Option.some.inj (Tryd.func6.symm.trans hfn)).symm
  refine ⟨by kernel_rfl,fun j t ht => ?_⟩
  rw [Tryd.params6] at ht
  have hm:=Array.mem_of_getElem? ht
  simp only [List.mem_toArray,List.mem_cons,List.not_mem_nil,or_false] at hm
  rcases hm with rfl|rfl|rfl
  · exact (show Tryd.prog.wantsStandIn 39=false by kernel_rfl)
  · exact (show Tryd.prog.wantsStandIn 9=false by kernel_rfl)
  · exact (show Tryd.prog.wantsStandIn 9=false by kernel_rfl)
theorem card : Rows.NumeralComparesUptoCardSaid :=
  Claim7.holds_tied_plain_at .later [] _ _ _ _ said (fun _ h => by cases h) (by kernel_rfl) (fun _ h => by cases h) numeralComparesUpto_row_tie rfl ⟨rfl,rfl⟩ (by kernel_rfl) rfl plain (by kernel_rfl)
#print axioms card
end Go.Proofs.YtcdajedmlfhmeaaDoor.numeralCompares
namespace Go.Proofs.YtcdajedmlfhmeaaDoor
/-- The card, under a short name, for the claim. -/
theorem numeralCompares_card : Rows.NumeralComparesUptoCardSaid := numeralCompares.card
end Go.Proofs.YtcdajedmlfhmeaaDoor
end
