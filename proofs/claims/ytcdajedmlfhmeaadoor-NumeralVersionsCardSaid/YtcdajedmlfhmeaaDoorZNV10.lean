/- The card of NumeralVersions: the law answers true at every input. Conditions: none beyond the row's own. -/
import Derived.Test.YtcdajedmlfhmeaaDoorZNV0
import Derived.Test.YtcdajedmlfhmeaaDoorZNV9
import Derived.Test.YtcdajedmlfhmeaaDoorZNV8
import Derived.Test.YtcdajedmlfhmeaaDoorCards
import Derived.Test.YtcdajedmlfhmeaaDoorTie
import Derived.Test.YtcdajedmlfhmeaaDoorZNV1
import Derived.WalkKit
import Derived.ProofKit
import Derived.OpenShut
import Derived.ShutString
import Derived.ChangeOld
import Derived.Below
import Derived.SizedLaws
import Derived.Deep.DeepHandedRow
import Derived.Lib.LaidTab
import Derived.Lay
import Derived.MakeChecks
import Derived.LaidSub
section
/- NumeralVersions, the plain law: behind one and the same begin the numbers decide, then the rest. (by this session) -/
-- NEEDS milllaw3_NumeralVersions
set_option linter.unusedVariables false
set_option linter.unusedSimpArgs false
namespace Go.Proofs.YtcdajedmlfhmeaaDoor.XN
open Go.RowKit Go.Proofs.YtcdajedmlfhmeaaDoorW.PrintWords Go.Proofs.YtcdajedmlfhmeaaDoorW.PrintMore
/-- A begin that ends with no digit. -/
def NoEnd (l : List UInt8) : Prop := ∀ c r, l.reverse = c :: r → isDg c = false
theorem vrF_fuel : ∀ (n : Nat) (l m : List UInt8), l.length + m.length < n → ∀ k, vrF (n + k) l m = vrF n l m
  | 0, l, m, h, _ => by omega
  | n + 1, l, m, h, k => by
    rw [show n + 1 + k = (n + k) + 1 by omega]
    unfold vrF
    by_cases h1 : l = [] ∧ m = []
    · rw [if_pos h1, if_pos h1]
    · rw [if_neg h1, if_neg h1]
      have hs : (pr3 l).length + (pr3 m).length < n := by
        have a1 := pr_len l
        have a2 := pr_len m
        by_cases hl : l = []
        · subst hl
          have := pr_short (l := m) (fun h => h1 ⟨rfl, h⟩)
          rw [pr3_nil]
          simp at h ⊢
          omega
        · have := pr_short hl
          omega
      rw [vrF_fuel n _ _ hs k]
theorem vrS_at {l m : List UInt8} (n : Nat) (h : l.length + m.length < n) : vrF n l m = vrS l m := by
  unfold vrS
  obtain ⟨k, rfl⟩ : ∃ k, n = l.length + m.length + 1 + k := ⟨n - (l.length + m.length + 1), by omega⟩
  exact vrF_fuel _ l m (by omega) k
theorem vrS_step {l m : List UInt8} (h : ¬ (l = [] ∧ m = [])) : vrS l m = thn (thn (wdS (pr1 l) (pr1 m)) (rnS (pr2 l) (pr2 m))) (vrS (pr3 l) (pr3 m)) := by
  have hs : (pr3 l).length + (pr3 m).length < l.length + m.length := by
    have a1 := pr_len l
    have a2 := pr_len m
    by_cases hl : l = []
    · subst hl
      have := pr_short (l := m) (fun h' => h ⟨rfl, h'⟩)
      rw [pr3_nil]
      simp
      omega
    · have := pr_short hl
      omega
  have e : vrS l m = vrF (l.length + m.length + 1) l m := rfl
  rw [e, vrF, if_neg h, orS2]
  unfold thn
  rw [vrS_at _ hs]
theorem tw_no {l r : List UInt8} (h : ∀ c ∈ l, isDg c = false) (hr : ∀ c t, r = c :: t → isDg c = true) : (l ++ r).takeWhile noDg = l ∧ (l ++ r).dropWhile noDg = r :=
  tw_app (p := noDg) (fun c hc => by unfold noDg; rw [h c hc]; rfl) (fun c t e => by unfold noDg; rw [hr c t e]; rfl)
/-- A text is its word, its digits, the rest; the rest begins with no digit. -/
theorem pr_split (l : List UInt8) : l = pr1 l ++ (pr2 l ++ pr3 l) ∧ (∀ c t, pr3 l = c :: t → isDg c = false) ∧ (pr2 l = [] → pr3 l = []) := by
  refine ⟨(pr_all l).symm, fun c t h => dropWhile_head h, fun h => ?_⟩
  unfold pr3
  cases hd : l.dropWhile noDg with
  | nil => rfl
  | cons c r =>
    have hc := dropWhile_head hd
    have hc' : isDg c = true := by simpa [noDg] using hc
    unfold pr2 at h
    rw [hd, List.takeWhile_cons, if_pos hc'] at h
    cases h
theorem pr_cat {l x : List UInt8} (h3 : pr3 l ≠ []) : pr1 (l ++ x) = pr1 l ∧ pr2 (l ++ x) = pr2 l ∧ pr3 (l ++ x) = pr3 l ++ x := by
  obtain ⟨h1, h2, h4⟩ := pr_split l
  have hp2 : pr2 l ≠ [] := fun h => h3 (h4 h)
  have e : l ++ x = pr1 l ++ (pr2 l ++ (pr3 l ++ x)) := by
    rw [← List.append_assoc, ← List.append_assoc, List.append_assoc (pr1 l), ← h1]
  have hh : ∀ c t, pr2 l ++ (pr3 l ++ x) = c :: t → isDg c = true := by
    intro c t h
    cases hq : pr2 l with
    | nil => exact absurd hq hp2
    | cons d r =>
      rw [hq] at h
      injection h with h5 h6
      rw [← h5]
      have : d ∈ pr2 l := by rw [hq]; simp
      exact run_dg _ d this
  have t1 := tw_no (pr1_no l) hh
  have hh2 : ∀ c t, pr3 l ++ x = c :: t → isDg c = false := by
    intro c t h
    cases hq : pr3 l with
    | nil => exact absurd hq h3
    | cons d r =>
      rw [hq] at h
      injection h with h5 h6
      rw [← h5]
      exact h2 d r hq
  have t2 := tw_app (p := isDg) (x := pr2 l) (y := pr3 l ++ x) (run_dg _) hh2
  refine ⟨?_, ?_, ?_⟩
  · unfold pr1 at t1 ⊢
    rw [e]
    exact t1.1
  · have : (l ++ x).dropWhile noDg = pr2 l ++ (pr3 l ++ x) := by rw [e]; exact t1.2
    show ((l ++ x).dropWhile noDg).takeWhile isDg = _
    rw [this, t2.1]
  · have : (l ++ x).dropWhile noDg = pr2 l ++ (pr3 l ++ x) := by rw [e]; exact t1.2
    show ((l ++ x).dropWhile noDg).dropWhile isDg = _
    rw [this, t2.2]
theorem noEnd_tail {l : List UInt8} (h : NoEnd l) : NoEnd (pr3 l) := by
  intro c r hr
  obtain ⟨h1, _, _⟩ := pr_split l
  have e : l.reverse = (pr3 l).reverse ++ (pr1 l ++ pr2 l).reverse := by
    conv => lhs; rw [h1]
    rw [← List.append_assoc, List.reverse_append]
  refine h c (r ++ (pr1 l ++ pr2 l).reverse) ?_
  rw [e, hr]
  rfl
theorem noEnd_none {l : List UInt8} (h : NoEnd l) (h3 : pr3 l = []) : pr2 l = [] ∧ pr1 l = l := by
  obtain ⟨h1, _, _⟩ := pr_split l
  rw [h3, List.append_nil] at h1
  have hp2 : pr2 l = [] := by
    cases hq : (pr2 l).reverse with
    | nil => exact List.reverse_eq_nil_iff.1 hq
    | cons c r =>
      have e : l.reverse = (pr2 l).reverse ++ (pr1 l).reverse := by
        conv => lhs; rw [h1]
        rw [List.reverse_append]
      have h5 := h c (r ++ (pr1 l).reverse) (by rw [e, hq]; rfl)
      have hm : c ∈ pr2 l := List.mem_reverse.1 (by rw [hq]; simp)
      have h6 : isDg c = true := run_dg _ c hm
      rw [h5] at h6
      cases h6
  refine ⟨hp2, ?_⟩
  rw [hp2, List.append_nil] at h1
  exact h1.symm
theorem wd_self : ∀ l, wdS l l = 0
  | [] => by simp only [wdS]
  | a :: l => by simp only [wdS, if_true]; exact wd_self l
theorem rn_self (d : List UInt8) : rnS d d = 0 := by
  unfold rnS
  by_cases h : d = []
  · rw [if_pos (Or.inl h), cmpI_self]
  · rw [if_neg (by rintro (h' | h') <;> exact h h'), cmpI_self, bcmp_self]
    rfl
/-- One and the same begin: what stands behind it decides. -/
theorem vrS_begin (F : List UInt8 → Int) (X Y : List UInt8 → List UInt8)
    (hX : ∀ l x, X (l ++ x) = l ++ X x) (hY : ∀ l x, Y (l ++ x) = l ++ Y x) (v : Int)
    (hbase : ∀ l, NoEnd l → pr3 l = [] → vrS (X l) (Y l) = v) (hne : ∀ l, pr3 l ≠ [] → True) :
    ∀ (n : Nat) (l : List UInt8), l.length < n → NoEnd l → vrS (X l) (Y l) = v
  | 0, l, h, _ => by omega
  | n + 1, l, h, hl => by
    by_cases h3 : pr3 l = []
    · exact hbase l hl h3
    · have ex : X l = l ++ X [] := by have := hX l []; rwa [List.append_nil] at this
      have ey : Y l = l ++ Y [] := by have := hY l []; rwa [List.append_nil] at this
      have px := pr_cat (x := X []) h3
      have py := pr_cat (x := Y []) h3
      have hne : l ≠ [] := fun e => h3 (by rw [e]; rfl)
      rw [ex, ey, vrS_step (fun hh => hne (List.append_eq_nil_iff.1 hh.1).1), px.1, py.1, px.2.1, py.2.1, px.2.2, py.2.2, wd_self, rn_self, thn0, thn0]
      have ih := vrS_begin F X Y hX hY v hbase (fun _ _ => trivial) n (pr3 l) (by have := pr_short hne; omega) (noEnd_tail hl)
      rw [← ih]
      have e1 : X (pr3 l) = pr3 l ++ X [] := by have := hX (pr3 l) []; rwa [List.append_nil] at this
      have e2 : Y (pr3 l) = pr3 l ++ Y [] := by have := hY (pr3 l) []; rwa [List.append_nil] at this
      rw [e1, e2]
/-- Word l, then a number, then what begins with no digit. -/
theorem pr_num {l r : List UInt8} (z m : Nat) (hl : ∀ c ∈ l, isDg c = false) (hr : ∀ c t, r = c :: t → isDg c = false) : pr1 (l ++ (dz z m ++ r)) = l ∧ pr2 (l ++ (dz z m ++ r)) = dz z m ∧ pr3 (l ++ (dz z m ++ r)) = r := by
  have hh : ∀ c t, dz z m ++ r = c :: t → isDg c = true := by
    intro c t h
    obtain ⟨d, u, h1, h2⟩ := dz_head z m r
    rw [h1] at h
    injection h with h3 h4
    rw [← h3]; exact h2
  have t1 := tw_no hl hh
  have t2 := tw_app (p := isDg) (dz_dg z m) hr
  refine ⟨t1.1, ?_, ?_⟩
  · show ((l ++ (dz z m ++ r)).dropWhile noDg).takeWhile isDg = _
    rw [t1.2, t2.1]
  · show ((l ++ (dz z m ++ r)).dropWhile noDg).dropWhile isDg = _
    rw [t1.2, t2.2]
theorem pr_word {l : List UInt8} (hl : ∀ c ∈ l, isDg c = false) : pr1 l = l ∧ pr2 l = [] ∧ pr3 l = [] := by
  have t := tw_no (r := []) hl (fun c t e => by cases e)
  rw [List.append_nil] at t
  refine ⟨t.1, ?_, ?_⟩
  · show (l.dropWhile noDg).takeWhile isDg = _
    rw [t.2]; rfl
  · show (l.dropWhile noDg).dropWhile isDg = _
    rw [t.2]; rfl
theorem word_of {l : List UInt8} (hl : NoEnd l) (h3 : pr3 l = []) : ∀ c ∈ l, isDg c = false := by
  have := (noEnd_none hl h3).2
  intro c hc
  exact pr1_no l c (by rw [this]; exact hc)
theorem ver_nums (l x y : List UInt8) (a b : Nat) (z z' : Nat) (hl : NoEnd l) : vrS (l ++ (dz z a ++ ([45] ++ x))) (l ++ (dz z' b ++ ([45] ++ y))) = thn (cmpI (a : Int) (b : Int)) (vrS ([45] ++ x) ([45] ++ y)) := by
  refine vrS_begin (fun _ => 0) (fun l => l ++ (dz z a ++ ([45] ++ x))) (fun l => l ++ (dz z' b ++ ([45] ++ y))) (fun l x => by simp) (fun l x => by simp) _ ?_ (fun _ _ => trivial) (l.length + 1) l (by omega) hl
  intro l hl h3
  have hw := word_of hl h3
  have n45 : ∀ (u : List UInt8) c t, [45] ++ u = c :: t → isDg c = false := by
    intro u c t e
    injection e with e1 e2
    rw [← e1]; decide
  have p := pr_num (r := [45] ++ x) z a hw (n45 x)
  have q := pr_num (r := [45] ++ y) z' b hw (n45 y)
  show vrS (l ++ (dz z a ++ ([45] ++ x))) (l ++ (dz z' b ++ ([45] ++ y))) = _
  rw [vrS_step (fun hh => dz_ne z a (List.append_eq_nil_iff.1 (List.append_eq_nil_iff.1 hh.1).2).1), p.1, q.1, p.2.1, q.2.1, p.2.2, q.2.2, wd_self, thn0, rn_dz]
theorem ver_more (l : List UInt8) (a z : Nat) (hl : NoEnd l) : vrS l (l ++ dz z a) = -1 := by
  refine vrS_begin (fun _ => 0) (fun l => l) (fun l => l ++ dz z a) (fun l x => rfl) (fun l x => by simp) _ ?_ (fun _ _ => trivial) (l.length + 1) l (by omega) hl
  intro l hl h3
  have hw := word_of hl h3
  have p := pr_word hw
  have q := pr_num (r := []) z a hw (fun c t e => by cases e)
  rw [List.append_nil] at q
  show vrS l (l ++ dz z a) = _
  rw [vrS_step (fun hh => dz_ne z a (List.append_eq_nil_iff.1 hh.2).2), p.1, q.1, p.2.1, q.2.1, wd_self, thn0]
  have : rnS [] (dz z a) = -1 := by
    unfold rnS
    rw [if_pos (Or.inl rfl), if_pos rfl, if_neg (dz_ne z a)]
    rfl
  rw [this, thn_ne (by decide)]
theorem wd_tilde : ∀ l : List UInt8, wdS (l ++ [126]) l = -1
  | [] => by
    have e : rkB 126 = 1 := by decide +kernel
    rw [List.nil_append]
    simp only [wdS, e]
    rfl
  | a :: l => by
    rw [List.cons_append]
    simp only [wdS, if_true]
    exact wd_tilde l
theorem ver_tilde (l : List UInt8) (hl : NoEnd l) : vrS (l ++ [126]) l = -1 := by
  refine vrS_begin (fun _ => 0) (fun l => l ++ [126]) (fun l => l) (fun l x => by simp) (fun l x => rfl) _ ?_ (fun _ _ => trivial) (l.length + 1) l (by omega) hl
  intro l hl h3
  have hw := word_of hl h3
  have p := pr_word hw
  have q := pr_word (l := l ++ [126]) (fun c hc => by
    rcases List.mem_append.1 hc with h | h
    · exact hw c h
    · rw [List.mem_singleton.1 h]; decide)
  show vrS (l ++ [126]) l = _
  rw [vrS_step (fun hh => by simp at hh), p.1, q.1, wd_tilde, thn_ne (x := -1) (by decide), thn_ne (by decide)]
theorem lastB {s : ByteArray} (h : ¬ L s = []) (hs : s.size < big) : ∃ c r, (L s).reverse = c :: r ∧ bt s (wrap64 ((s.size : Int) - 1)) = (c.toNat : Int) ∧ 0 ≤ wrap64 ((s.size : Int) - 1) ∧ wrap64 ((s.size : Int) - 1) < (s.size : Int) := by
  have hp : 0 < s.size := by rw [← L_len]; exact List.length_pos_iff.2 h
  rw [big_eq] at hs
  have e : wrap64 ((s.size : Int) - 1) = ((s.size - 1 : Nat) : Int) := w64_nat (by omega) (by omega)
  obtain ⟨c, h1, h2⟩ := drop_some (s := s) (i := s.size - 1) (by omega)
  have hz : (L s).drop (s.size - 1 + 1) = [] := List.drop_eq_nil_iff.2 (by rw [L_len]; omega)
  rw [hz] at h1
  have h3 := List.take_append_drop (s.size - 1) (L s)
  rw [h1] at h3
  refine ⟨c, ((L s).take (s.size - 1)).reverse, ?_, by rw [e, h2], by omega, by omega⟩
  rw [← h3, List.reverse_append, h3]
  rfl
theorem versions_j1 (u x y : ByteArray) (a b : Int) (z : Nat) (hu : u.size ≤ 140737488351232) (hx : x.size ≤ 140737488351232) (hy : y.size ≤ 140737488351232) (ha : 0 ≤ a ∧ a < 4611686018427387904) (hb : 0 ≤ b ∧ b < 4611686018427387904) (hz : z ≤ 20) (hl : NoEnd (L u)) :
    Ev (fun k => milllaw3_NumeralVersions.j1 k u a b (z : Int) x y false) true := by
  have la := wr_len a z (by omega)
  have lb := wr_len b 0 (by omega)
  have ea : wrS a z = dz z a.natAbs := by rw [wr_dz]; simp [sgl]; omega
  have eb : wrS b 0 = dz 0 b.natAbs := by rw [wr_dz]; simp [sgl]; omega
  have lu := L_len u
  have lx := L_len x
  have ly := L_len y
  have hbig : ∀ m : Nat, m ≤ 422212465053800 → m < 576460752303423488 := fun m h => by omega
  refine Ev.succ ?_
  simp only [milllaw3_NumeralVersions.j1]
  refine Ev.neg (by decide) (Ev.pos (by omega) (Ev.pos (by omega) (Ev.bind (written_ev a z (by omega) (by omega)) ?_)))
  have e45 : (⟨#[45]⟩ : ByteArray) = mkB [45] := rfl
  have e126 : (⟨#[126]⟩ : ByteArray) = mkB [126] := rfl
  have eu := mk_L u
  have ex := mk_L x
  have ey := mk_L y
  rw [← eu, ← ex, ← ey]
  simp only [e45, e126, mk_append, size_mk]
  refine Ev.pos (by omega) (Ev.pos (by omega) (Ev.bind (written_ev b 0 (by omega) (by omega)) ?_))
  simp only [mk_append, size_mk]
  have v1 := ver_nums (L u) (L x) (L y) a.natAbs b.natAbs z 0 hl
  have v2 := ver_more (L u) a.natAbs z hl
  have v3 := ver_tilde (L u) hl
  rw [← ea, ← eb] at v1
  rw [← ea] at v2
  refine Ev.pos (by omega) (Ev.pos (by omega) (Ev.bind (Compare_at (v := thn (cmpI a b) (vrS ([45] ++ L x) ([45] ++ L y))) (by rw [size_mk]; simp; omega) (by rw [size_mk]; simp; omega) ?_) ?_))
  · rw [cmpS_v, L_mk, L_mk]
    rw [show ((a.natAbs : Nat) : Int) = a by omega, show ((b.natAbs : Nat) : Int) = b by omega] at v1
    simp only [List.append_assoc] at v1 ⊢
    exact v1
  refine Ev.ite (fun h => ?_) (fun h => ?_)
  · refine Ev.bind (Compare_at (v := vrS ([45] ++ L x) ([45] ++ L y)) (by rw [size_mk]; simp; omega) (by rw [size_mk]; simp; omega) (by rw [cmpS_v, L_mk, L_mk])) ?_
    refine Ev.pos (by rw [h, cmpI_self, thn0]) (Ev.bind (written_ev a z (by omega) (by omega)) ?_)
    simp only [mk_append, size_mk]
    refine Ev.pos (by omega) (Ev.bind (Compare_at (v := -1) (by rw [size_mk]; omega) (by rw [size_mk]; simp; omega) (by rw [cmpS_v, L_mk, L_mk]; exact v2)) ?_)
    refine Ev.pos rfl (Ev.pos (by omega) (Ev.bind (Compare_at (v := -1) (by rw [size_mk]; simp; omega) (by rw [size_mk]; omega) (by rw [cmpS_v, L_mk, L_mk]; exact v3)) (Ev.done rfl)))
  · rcases Int.lt_trichotomy a b with h1 | h1 | h1
    · rw [cmpI_lt h1, thn_ne (by decide)]
      exact Ev.pos (by simp [h1]) (Ev.done rfl)
    · exact absurd h1 h
    · rw [cmpI_gt h1, thn_ne (by decide)]
      exact Ev.pos (by simp; omega) (Ev.done rfl)
theorem NumeralVersions_ev (u : ByteArray) (a b i : Int) (x y : ByteArray) (hu : u.size ≤ 140737488351232) (hx : x.size ≤ 140737488351232) (hy : y.size ≤ 140737488351232) : Ev (fun k => milllaw3_NumeralVersions.f k u a b i x y) true := by
  have hT : Ev (fun k => milllaw3_NumeralVersions.j0 k u a b i x y true) true := by
    refine Ev.succ ?_
    simp only [milllaw3_NumeralVersions.j0]
    exact Ev.pos trivial (Ev.pure _)
  unfold milllaw3_NumeralVersions.f
  refine Ev.ite (fun _ => hT) (fun h1 => Ev.ite (fun _ => hT) (fun h2 => Ev.ite (fun _ => hT) (fun h3 => Ev.ite (fun _ => hT) (fun h4 => Ev.ite (fun _ => hT) (fun h5 => ?_)))))
  by_cases h6 : i > 20
  · rw [decide_eq_true h6]; exact hT
  rw [decide_eq_false h6]
  obtain ⟨i, rfl⟩ := Int.eq_ofNat_of_zero_le (show 0 ≤ i by omega)
  have key : NoEnd (L u) → Ev (fun k => milllaw3_NumeralVersions.j1 k u a b (i : Int) x y false) true := fun hl => versions_j1 u x y a b i hu hx hy (by omega) (by omega) (by omega) hl
  have hT1 : Ev (fun k => milllaw3_NumeralVersions.j1 k u a b (i : Int) x y true) true := by
    refine Ev.succ ?_
    simp only [milllaw3_NumeralVersions.j1]
    exact Ev.pos trivial (Ev.pure _)
  refine Ev.succ ?_
  simp only [milllaw3_NumeralVersions.j0, toList_L]
  refine Ev.neg (by decide) (Ev.ite (fun h => key ?_) (fun h => ?_))
  · intro c r e
    rw [h] at e
    cases e
  · obtain ⟨c, r, e1, e2, e3, e4⟩ := lastB h (by rw [big_eq]; omega)
    rw [e2]
    refine Ev.pos e3 (Ev.pos e4 (Ev.ite (fun h' => ?_) (fun h' => key ?_)))
    · by_cases h9 : (c.toNat : Int) ≤ 57
      · rw [decide_eq_true h9]; exact hT1
      · rw [decide_eq_false h9]
        refine key (fun d t e => ?_)
        rw [e1] at e
        injection e with e5 e6
        rw [← e5, Bool.eq_false_iff]
        intro hd
        have := (isDg_iff c).1 hd
        omega
    · intro d t e
      rw [e1] at e
      injection e with e5 e6
      rw [← e5, Bool.eq_false_iff]
      intro hd
      have := (isDg_iff c).1 hd
      omega
end Go.Proofs.YtcdajedmlfhmeaaDoor.XN
namespace Go.Proofs.YtcdajedmlfhmeaaDoor.Pure
theorem NumeralVersions : XN.milllaw3_NumeralVersions.Pure := fun u a b i x y hu _ _ _ hx hy => (XN.NumeralVersions_ev u a b i x y hu hx hy).ex
end Go.Proofs.YtcdajedmlfhmeaaDoor.Pure
end

section
/- The card of NumeralVersions: the law answers true at every input. Conditions: none beyond the row's own. -/
set_option linter.unusedVariables false
set_option linter.unusedSimpArgs false
namespace Go.Proofs.YtcdajedmlfhmeaaDoor.numeralVersions
open Go.ChangeShapes Go.WideShapes Go.ChangeAt Go.RowKit
open Go.ChangeMaps (open_string shut_string)
theorem own : ownKnob Tryd.prog.godebug = none := by kernel_rfl
set_option maxRecDepth 100000 in
/-- What the walk gives, at every argument and every world that holds the listed variables. -/
theorem contract (H : Type) (enc : TypeId × Value → H) (W : World) (args : Array Value) (ds gs : List (DataW H)) (before : List MemPlace) (base : Nat)
    (hval0 : ∀ (j : Nat) t v, Tryd.f12.params[j]? = some t → args[j]? = some v → Value.okWide Tryd.prog W .any base t v)
    (hW : DataW.Whole enc Tryd.prog Tryd.f12.params.toList Rows.numeralVersionsSpec.vars false W args.toList ds gs before)
    (hsz0 : (DataW.weightsEach Tryd.prog (Tryd.f12.params.toList ++ Rows.numeralVersionsSpec.plain.varTypes Tryd.prog) (ds ++ gs)).all (· ≤ reachBytes) = true)
    (hL : laidMetH Tryd.prog Rows.numeralVersionsRow.laid W) (hS : W.ShapedOpen Tryd.prog) :
    Calls Tryd.prog 12 args W fun e W' => ∃ v, e = .returned v ∧ Rows.numeralVersionsSpec.post enc Tryd.prog Tryd.f12 false true false false W args v W' := by
  have hGL : XN.GOK W := XN.gok_of hL (by kernel_rfl) hS 1 2 rfl rfl
  have hsz : (DataW.weightsEach Tryd.prog (Tryd.f12.params.toList ++ Rows.numeralVersionsSpec.plain.varTypes Tryd.prog) (ds ++ gs)).all (· ≤ reachBytes) = true := hsz0
  have hval : ∀ (j : Nat) t v, Tryd.f12.params[j]? = some t → args[j]? = some v → Value.okWide Tryd.prog W .any base t v := hval0
  have hW' := hW
  obtain ⟨p, q, hA0, hV, rfl, hfz, hnd⟩ := hW
  have hA : DataW.TrodAll enc Tryd.prog W 0 (fun _ => true) true Tryd.f12.params.toList args.toList ds p := hA0
  rw [Tryd.params12] at hA hval hsz
  obtain ⟨v0, vs0, d0, ds0, p0, q0, hargs, rfl, rfl, h0, r0⟩ := trodAll_cons hA
  obtain ⟨v1, vs1, d1, ds1, p1, q1, rfl, rfl, rfl, h1, r1⟩ := trodAll_cons r0
  obtain ⟨v2, vs2, d2, ds2, p2, q2, rfl, rfl, rfl, h2, r2⟩ := trodAll_cons r1
  obtain ⟨v3, vs3, d3, ds3, p3, q3, rfl, rfl, rfl, h3, r3⟩ := trodAll_cons r2
  obtain ⟨v4, vs4, d4, ds4, p4, q4, rfl, rfl, rfl, h4, r4⟩ := trodAll_cons r3
  obtain ⟨v5, vs5, d5, ds5, p5, q5, rfl, rfl, rfl, h5, r5⟩ := trodAll_cons r4
  obtain ⟨rfl, rfl, rfl⟩ := trodAll_nil r5
  obtain rfl : args = #[v0, v1, v2, v3, v4, v5] := by cases args; simp_all
  obtain ⟨rfl, rfl⟩ := trodVars_none hV
  obtain ⟨a0, rfl, rfl, rfl, y0⟩ := open_string Tryd.underlying9 (hval 0 9 v0 rfl rfl) h0
  have w0 : a0.size ≤ 140737488351232 := by
    have z := sized_string hsz (j := 0) (t := 9) rfl rfl
    rw [Array.length_toList] at z
    exact z
  obtain ⟨a1, rfl, rfl, rfl, w1⟩ := open_int Tryd.underlying3 (hval 1 3 v1 rfl rfl) h1
  obtain ⟨a2, rfl, rfl, rfl, w2⟩ := open_int Tryd.underlying3 (hval 2 3 v2 rfl rfl) h2
  obtain ⟨a3, rfl, rfl, rfl, w3⟩ := open_int Tryd.underlying3 (hval 3 3 v3 rfl rfl) h3
  obtain ⟨a4, rfl, rfl, rfl, y4⟩ := open_string Tryd.underlying9 (hval 4 9 v4 rfl rfl) h4
  have w4 : a4.size ≤ 140737488351232 := by
    have z := sized_string hsz (j := 4) (t := 9) rfl rfl
    rw [Array.length_toList] at z
    exact z
  obtain ⟨a5, rfl, rfl, rfl, y5⟩ := open_string Tryd.underlying9 (hval 5 9 v5 rfl rfl) h5
  have w5 : a5.size ≤ 140737488351232 := by
    have z := sized_string hsz (j := 5) (t := 9) rfl rfl
    rw [Array.length_toList] at z
    exact z
  clear hA0 hval0 hsz0 hsz
  refine (XN.milllaw3_NumeralVersions.walk Pure.NumeralVersions a0 a1 a2 a3 a4 a5 W hGL w0 w1 w2 w3 w4 w5).mono fun e W' ⟨he, bel⟩ => ?_
  subst he
  exact ⟨_, rfl, _, _, _, [], _, [], hW', trodAll_mk1 (shut_bool Tryd.underlying4 _), (trodAll_cons_mk (shut_string Tryd.underlying9 y0) (trodAll_cons_mk (shut_int Tryd.underlying3 w1) (trodAll_cons_mk (shut_int Tryd.underlying3 w2) (trodAll_cons_mk (shut_int Tryd.underlying3 w3) (trodAll_cons_mk (shut_string Tryd.underlying9 y4) (trodAll_cons_mk (shut_string Tryd.underlying9 y5) trodAll_mk0)))))), rfl, bel.frame _, fun h => by cases h⟩
set_option maxRecDepth 100000 in
theorem lifted (os : Os) (started : os.Started) (H : Type) (enc : TypeId × Value → H) (F : Stop.Interp) :
    ReturnsInHanded {} Tryd.checked os 12 .any ((OpenSpec.ofChange Rows.numeralVersionsSpec).preRow enc Tryd.prog Tryd.f12 Rows.numeralVersionsRow.domain false Rows.numeralVersionsRow.laid) (((OpenSpec.ofChange Rows.numeralVersionsSpec).at F).post enc Tryd.prog Tryd.f12 false true false false) := by
  have hx : ∃ places, DataW.whole enc Tryd.prog ((World.laidAll Tryd.prog os Rows.numeralVersionsRow.laid).forCall (fun _ _ => 0) ⟨#[], #[.string ⟨#[]⟩, .int .i64 0, .int .i64 0, .int .i64 0, .string ⟨#[]⟩, .string ⟨#[]⟩], []⟩).memory Tryd.f12.params.toList Rows.numeralVersionsSpec.vars false (#[.string ⟨#[]⟩, .int .i64 0, .int .i64 0, .int .i64 0, .string ⟨#[]⟩, .string ⟨#[]⟩] : Array Value).toList 8 = some ([.lit (.string []), .lit (.int .i64 0), .lit (.int .i64 0), .lit (.int .i64 0), .lit (.string []), .lit (.string [])], [], places) :=
    ⟨[], by kernel_rfl⟩
  obtain ⟨places, hx⟩ := hx
  refine returnsInHanded_of_row (C := Tryd.checked) (s := (OpenSpec.ofChange Rows.numeralVersionsSpec)) own started (by kernel_rfl) Tryd.func12
    (witness_row_at (enc := enc) (C := Tryd.checked) false (World.laidAll Tryd.prog os Rows.numeralVersionsRow.laid) #[.string ⟨#[]⟩, .int .i64 0, .int .i64 0, .int .i64 0, .string ⟨#[]⟩, .string ⟨#[]⟩] (World.laidAll_os _ _ _) (by kernel_rfl) (by kernel_rfl) (by kernel_rfl)
      (OpenSpec.preRow_of_cond 8 hx (by kernel_rfl) (fun k hk => by cases hk) (by kernel_rfl) (laidMet_laidAll _ (by kernel_rfl) (by kernel_rfl)))) ?_
  intro W base args ds gs before hval hW _ _ hsz hL hS _
  exact contract H enc W args ds gs before base hval hW hsz hL hS
theorem said : Rows.NumeralVersionsSaid :=
  OpenClaim.holds_of_cond 12 Tryd.f12 rfl rfl rfl rfl rfl rfl rfl ⟨rfl, rfl, rfl, rfl, rfl⟩ rfl rfl rfl rfl rfl (by kernel_rfl) Tryd.func12 (by kernel_rfl)
    (of_decide_eq_true (by kernel_rfl)) (by unfold Func.isWrapper; first | (rw [if_pos (by decide +kernel)]; kernel_rfl) | (rw [if_neg (by decide +kernel)]; exact ⟨rfl, rfl⟩))
    (fun os started H enc _ F => by rw [OpenClaim.pre_eq_preRow]; exact lifted os started H enc F)
theorem plain (f : FuncId) (fn : Func) (hf : Tryd.pinned.checked.prog.funcNamed "mill/milllaw3.NumeralVersions" = some f) (hfn : Tryd.pinned.checked.prog.funcs[f]? = some fn) :
    false = Tryd.pinned.checked.prog.looks [] ∧ ∀ (j : Nat) t, fn.params[j]? = some t → Tryd.pinned.checked.prog.wantsStandIn t = false := by
  obtain rfl : f = 12 := Option.some.inj ((show Tryd.prog.funcNamed "mill/milllaw3.NumeralVersions" = some 12 by kernel_rfl).symm.trans hf) |>.symm
  obtain rfl : fn = Tryd.f12 := (Option.some.inj (Tryd.func12.symm.trans hfn)).symm
  refine ⟨by kernel_rfl, fun j t ht => ?_⟩
  rw [Tryd.params12] at ht
  have hm := Array.mem_of_getElem? ht
  simp only [List.mem_toArray, List.mem_cons, List.not_mem_nil, or_false] at hm
  rcases hm with rfl | rfl | rfl | rfl | rfl | rfl
  · exact (show Tryd.prog.wantsStandIn 9 = false by kernel_rfl)
  · exact (show Tryd.prog.wantsStandIn 3 = false by kernel_rfl)
  · exact (show Tryd.prog.wantsStandIn 3 = false by kernel_rfl)
  · exact (show Tryd.prog.wantsStandIn 3 = false by kernel_rfl)
  · exact (show Tryd.prog.wantsStandIn 9 = false by kernel_rfl)
  · exact (show Tryd.prog.wantsStandIn 9 = false by kernel_rfl)
theorem card : Rows.NumeralVersionsCardSaid :=
  Claim7.holds_tied_plain_at .later [] _ _ _ _ said (fun _ h => by cases h) (by kernel_rfl) (fun _ h => by cases h) numeralVersions_row_tie rfl ⟨rfl, rfl⟩ (by kernel_rfl) rfl plain (by kernel_rfl)
#print axioms card
end Go.Proofs.YtcdajedmlfhmeaaDoor.numeralVersions
namespace Go.Proofs.YtcdajedmlfhmeaaDoor
/-- The card, under a short name, for the claim. -/
theorem numeralVersions_card : Rows.NumeralVersionsCardSaid := numeralVersions.card
end Go.Proofs.YtcdajedmlfhmeaaDoor
end
