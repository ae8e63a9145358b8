import Derived.Test.YtcdajedmlfhmeaaDoorZNE0
import Derived.Test.YtcdajedmlfhmeaaDoorZNE1
namespace Go.Proofs.YtcdajedmlfhmeaaDoor.XN
open Go.RowKit Go.Proofs.YtcdajedmlfhmeaaDoorW.PrintWords Go.Proofs.YtcdajedmlfhmeaaDoorW.PrintLast Go.Proofs.YtcdajedmlfhmeaaDoorW.PrintMore
attribute [local go_sem] max2_int min2_int max_two min_two max_three min_three max_four min_four
set_option linter.unusedVariables false
set_option linter.unusedSimpArgs false

/-! ### numeral_plain: function 36 (by hand) -/
def plainDig (x : Int) : Bool := decide (48 ≤ x) && decide (x ≤ 57)
def plainRun (s : ByteArray) : Nat → Nat → Nat
  | 0, i => i
  | k + 1, i => if i < s.size ∧ plainDig (bt s i) = true then plainRun s k (i + 1) else i
/-- The place behind the digits from i on. -/
def plainEnd (s : ByteArray) (i : Nat) : Nat := plainRun s (s.size - i) i
theorem plainEnd_eq (s : ByteArray) (i : Nat) : plainEnd s i = if i < s.size ∧ plainDig (bt s i) = true then plainEnd s (i + 1) else i := by
  unfold plainEnd
  by_cases h : i < s.size
  · obtain ⟨k, hk⟩ : ∃ k, s.size - i = k + 1 := ⟨s.size - i - 1, by omega⟩
    have hk' : s.size - (i + 1) = k := by omega
    rw [hk, hk']
    rfl
  · rw [if_neg (fun hh => h hh.1), show s.size - i = 0 from by omega]
    rfl
theorem plainEnd_yes {s : ByteArray} {i : Nat} (h : i < s.size) (hd : plainDig (bt s i) = true) : plainEnd s i = plainEnd s (i + 1) := by
  rw [plainEnd_eq, if_pos ⟨h, hd⟩]
theorem plainEnd_no {s : ByteArray} {i : Nat} (h : ¬ (i < s.size ∧ plainDig (bt s i) = true)) : plainEnd s i = i := by
  rw [plainEnd_eq, if_neg h]
theorem plainDig_f (x : Int) : numeral_digit.f x = some (plainDig x) := by
  unfold numeral_digit.f plainDig
  by_cases h : 48 ≤ x <;> simp [h]
/-- What the text holds from b on: the digits ahead of a point, those behind it, the place behind all; 0: there are none. -/
def plainF (s : ByteArray) (b : Nat) : Bool × ByteArray × ByteArray × Int :=
  if plainEnd s b < s.size ∧ bt s (plainEnd s b) = 46 then
    if (s.extract b (plainEnd s b)).toList = [] ∧ (s.extract (plainEnd s b + 1) (plainEnd s (plainEnd s b + 1))).toList = [] then (false, ⟨#[]⟩, ⟨#[]⟩, 0)
    else (false, s.extract b (plainEnd s b), s.extract (plainEnd s b + 1) (plainEnd s (plainEnd s b + 1)), (plainEnd s (plainEnd s b + 1) : Int))
  else if (s.extract b (plainEnd s b)).toList = [] then (false, ⟨#[]⟩, ⟨#[]⟩, 0) else (false, s.extract b (plainEnd s b), ⟨#[]⟩, (plainEnd s b : Int))
def numeral_plain.f (a0 : ByteArray) (a1 : Int) : Option (Bool × ByteArray × ByteArray × Int) :=
  if 0 ≤ a1 ∧ a1 ≤ (a0.size : Int) ∧ (a0.size : Int) < 9223372036854775807 then some (plainF a0 a1.toNat) else none

/-- As Q; by a goto: J of that label. -/
def plainJumps (J : Nat → Act → World → Prop) (Q : Exit → Act → World → Prop) : Exit → Act → World → Prop
  | .goto l, a, w => J l a w
  | e, a, w => Q e a w
/-- A scope of three labels: what holds at each jump, and a measure that each pass from a label lowers. -/
theorem plain_scope {P : Program} {Q : Exit → Act → World → Prop} {a : Act} {w : World} {c r0 r1 r2 : Code} (J : Nat → Act → World → Prop) (μ : Nat → Act → World → Nat) (hJ : ∀ l a w, J l a w → l = 0 ∨ l = 1 ∨ l = 2)
    (h0 : findLabel c 0 = some r0) (h1 : findLabel c 1 = some r1) (h2 : findLabel c 2 = some r2)
    (first : c.wp P (plainJumps J Q) a w)
    (p0 : ∀ a w, J 0 a w → r0.wp P (plainJumps (fun l a' w' => J l a' w' ∧ μ l a' w' < μ 0 a w) Q) a w)
    (p1 : ∀ a w, J 1 a w → r1.wp P (plainJumps (fun l a' w' => J l a' w' ∧ μ l a' w' < μ 1 a w) Q) a w)
    (p2 : ∀ a w, J 2 a w → r2.wp P (plainJumps (fun l a' w' => J l a' w' ∧ μ l a' w' < μ 2 a w) Q) a w) : (Code.scope c).wp P Q a w := by
  intro b k cs
  have key : ∀ n l a w, μ l a w = n → J l a w → ∃ rest, findLabel c l = some rest ∧ ∃ e a' w', Q e a' w' ∧ Arrives P (lone (b.at a (.code rest :: .inScope c :: k)) cs w) b k cs e a' w' := by
    intro n
    induction n using Nat.strongRecOn with
    | _ n ih =>
      intro l a w hn hl
      obtain ⟨rest, hr, hp⟩ : ∃ rest, findLabel c l = some rest ∧ rest.wp P (plainJumps (fun l' a' w' => J l' a' w' ∧ μ l' a' w' < μ l a w) Q) a w := by
        rcases hJ l a w hl with rfl | rfl | rfl
        · exact ⟨r0, h0, p0 a w hl⟩
        · exact ⟨r1, h1, p1 a w hl⟩
        · exact ⟨r2, h2, p2 a w hl⟩
      refine ⟨rest, hr, ?_⟩
      obtain ⟨e, a₁, w₁, hq, harr⟩ := hp b (.inScope c :: k) cs
      cases e with
      | normal => exact ⟨.normal, a₁, w₁, hq, Steps.trans harr (.one step_inScope)⟩
      | exit id => exact ⟨.exit id, a₁, w₁, hq, fun k' hk => harr k' (by simp [exitTo, hk])⟩
      | goto l' =>
        obtain ⟨hJ', hlt⟩ := hq
        obtain ⟨rest', hr', e₂, a₂, w₂, hq₂, harr₂⟩ := ih _ (by omega) l' a₁ w₁ rfl hJ'
        exact ⟨e₂, a₂, w₂, hq₂, .of_steps (harr _ (by simp [gotoIn, hr'])) harr₂⟩
      | ret => exact ⟨_, a₁, w₁, hq, harr⟩
      | panic ch => exact ⟨_, a₁, w₁, hq, harr⟩
      | outgrown => exact ⟨_, a₁, w₁, hq, harr⟩
  obtain ⟨e, a₁, w₁, hq, harr⟩ := first b (.inScope c :: k) cs
  cases e with
  | normal => exact ⟨.normal, a₁, w₁, hq, .head step_scope (Steps.trans harr (.one step_inScope))⟩
  | exit id => exact ⟨.exit id, a₁, w₁, hq, fun k' hk => .head step_scope (harr k' (by simp [exitTo, hk]))⟩
  | goto l =>
    obtain ⟨rest, hr, e₂, a₂, w₂, hq₂, harr₂⟩ := key _ l a₁ w₁ rfl hq
    exact ⟨e₂, a₂, w₂, hq₂, .of_steps (.head step_scope (harr _ (by simp [gotoIn, hr]))) harr₂⟩
  | ret => exact ⟨_, a₁, w₁, hq, .of_steps (.one step_scope) harr⟩
  | panic ch => exact ⟨_, a₁, w₁, hq, .of_steps (.one step_scope) harr⟩
  | outgrown => exact ⟨_, a₁, w₁, hq, .of_steps (.one step_scope) harr⟩

/-- What holds at each label. -/
def plainJ (s : ByteArray) (b : Nat) (w : World) : Nat → Act → World → Prop
  | 0, a, w' => ∃ (g4 g5 : Nat) (x : Int), Hid ((b : Int) ≤ x ∧ x ≤ (s.size : Int) ∧ plainEnd s x.toNat = plainEnd s b) ∧ Hid (g4 ≠ g5 ∧ w.heap.size ≤ g4 ∧ w.heap.size ≤ g5 ∧ Below w.heap.size w w' ∧ w'.heap[g4]? = some (.cells #[.bool false, .string ⟨#[]⟩, .string ⟨#[]⟩, .int .i64 0] 55 (0, 0)) ∧ w'.heap[g5]? = some (.cells #[.bool false, .string ⟨#[]⟩, .string ⟨#[]⟩, .int .i64 0] 55 (0, 0))) ∧ ∃ u2 u3 u8 u9 u10 u11 u12 u13 u14 u15 u16 u17 u18 u19 u20 u21 u22 u23 u24 u25 u26 u27 u28 u29 u30 u31 u32 u33 u34 u35 u36 u37 u38 u39 u40 u41 u42 u43 u44 u45 u46 u47 u48 u49 u50 u51 u52 u53 u54 u55 u56 u57 u58 u59 u60 u61 u62 u63 u64 u65 u66 u67 u68 u69 u70 u71 : Value, a = ⟨#[.string s, .int .i64 x, u2, u3, .pointer (some ⟨g4, 0, none⟩), .pointer (some ⟨g5, 0, none⟩), .int .i64 (b : Nat), .int .i64 (b : Nat), u8, u9, u10, u11, u12, u13, u14, u15, u16, u17, u18, u19, u20, u21, u22, u23, u24, u25, u26, u27, u28, u29, u30, u31, u32, u33, u34, u35, u36, u37, u38, u39, u40, u41, u42, u43, u44, u45, u46, u47, u48, u49, u50, u51, u52, u53, u54, u55, u56, u57, u58, u59, u60, u61, u62, u63, u64, u65, u66, u67, u68, u69, u70, u71], []⟩
  | 1, a, w' => ∃ (g4 g5 p : Nat) (x : Int), Hid (p = plainEnd s b ∧ p < s.size ∧ bt s p = 46 ∧ b ≤ p ∧ (p : Int) + 1 ≤ x ∧ x ≤ (s.size : Int) ∧ plainEnd s x.toNat = plainEnd s (p + 1)) ∧ Hid (g4 ≠ g5 ∧ w.heap.size ≤ g4 ∧ w.heap.size ≤ g5 ∧ Below w.heap.size w w' ∧ w'.heap[g4]? = some (.cells #[.bool false, .string ⟨#[]⟩, .string ⟨#[]⟩, .int .i64 0] 55 (0, 0)) ∧ w'.heap[g5]? = some (.cells #[.bool false, .string (s.extract b p), .string ⟨#[]⟩, .int .i64 0] 55 (0, 0))) ∧ ∃ u2 u3 u8 u9 u10 u11 u12 u13 u14 u15 u16 u17 u18 u19 u20 u21 u22 u23 u24 u25 u26 u27 u28 u29 u30 u31 u32 u33 u34 u35 u36 u37 u38 u39 u40 u41 u42 u43 u44 u45 u46 u47 u48 u49 u50 u51 u52 u53 u54 u55 u56 u57 u58 u59 u60 u61 u62 u63 u64 u65 u66 u67 u68 u69 u70 u71 : Value, a = ⟨#[.string s, .int .i64 x, u2, u3, .pointer (some ⟨g4, 0, none⟩), .pointer (some ⟨g5, 0, none⟩), .int .i64 ((p : Int) + 1), .int .i64 (p : Nat), u8, u9, u10, u11, u12, u13, u14, u15, u16, u17, u18, u19, u20, u21, u22, u23, u24, u25, u26, u27, u28, u29, u30, u31, u32, u33, u34, u35, u36, u37, u38, u39, u40, u41, u42, u43, u44, u45, u46, u47, u48, u49, u50, u51, u52, u53, u54, u55, u56, u57, u58, u59, u60, u61, u62, u63, u64, u65, u66, u67, u68, u69, u70, u71], []⟩
  | 2, a, w' => ∃ (g4 g5 p : Nat), Hid (p = plainEnd s b ∧ ¬ (p < s.size ∧ bt s p = 46) ∧ b ≤ p ∧ p ≤ s.size) ∧ Hid (g4 ≠ g5 ∧ w.heap.size ≤ g4 ∧ w.heap.size ≤ g5 ∧ Below w.heap.size w w' ∧ w'.heap[g4]? = some (.cells #[.bool false, .string ⟨#[]⟩, .string ⟨#[]⟩, .int .i64 0] 55 (0, 0)) ∧ w'.heap[g5]? = some (.cells #[.bool false, .string (s.extract b p), .string ⟨#[]⟩, .int .i64 0] 55 (0, 0))) ∧ ∃ u2 u3 u8 u9 u10 u11 u12 u13 u14 u15 u16 u17 u18 u19 u20 u21 u22 u23 u24 u25 u26 u27 u28 u29 u30 u31 u32 u33 u34 u35 u36 u37 u38 u39 u40 u41 u42 u43 u44 u45 u46 u47 u48 u49 u50 u51 u52 u53 u54 u55 u56 u57 u58 u59 u60 u61 u62 u63 u64 u65 u66 u67 u68 u69 u70 u71 : Value, a = ⟨#[.string s, .int .i64 (p : Nat), u2, u3, .pointer (some ⟨g4, 0, none⟩), .pointer (some ⟨g5, 0, none⟩), .int .i64 (b : Nat), .int .i64 (p : Nat), u8, u9, u10, u11, u12, u13, u14, u15, u16, u17, u18, u19, u20, u21, u22, u23, u24, u25, u26, u27, u28, u29, u30, u31, u32, u33, u34, u35, u36, u37, u38, u39, u40, u41, u42, u43, u44, u45, u46, u47, u48, u49, u50, u51, u52, u53, u54, u55, u56, u57, u58, u59, u60, u61, u62, u63, u64, u65, u66, u67, u68, u69, u70, u71], []⟩
  | _, _, _ => False
theorem plainJ_label {s : ByteArray} {b : Nat} {w : World} : ∀ l a w', plainJ s b w l a w' → l = 0 ∨ l = 1 ∨ l = 2
  | 0, _, _, _ => .inl rfl
  | 1, _, _, _ => .inr (.inl rfl)
  | 2, _, _, _ => .inr (.inr rfl)
  | _ + 3, _, _, h => h.elim
/-- The measure: the labels in their order, then what is left of the text. -/
def plainM (s : ByteArray) (l : Nat) (a : Act) (_ : World) : Nat := (2 - l) * (s.size + 1) + (s.size - (intOf (a.tmps.getD 1 undef)).toNat)
noncomputable def plainBody : Code := match Tryd.f36.body with | some (.seq _ (.scope c)) => c | _ => .skip
noncomputable def plainTail (l : Nat) : Code := match findLabel plainBody l with | some (.seq _ c) => c | _ => .skip
theorem plainDig_at {s : ByteArray} {x : Int} {d : Bool} (h : plainDig (bt s x) = d) : numeral_digit.f (bt s x) = some d := by rw [plainDig_f, h]

set_option maxRecDepth 100000 in
set_option maxHeartbeats 4000000 in
/-- From the first label on. -/
theorem plain_pass0 (s : ByteArray) (b : Nat) (w : World) (K : Nat → Act → World → Prop) (Q : Exit → Act → World → Prop) (W : World) (g4 g5 : Nat) (x : Int) (hs : (s.size : Int) < 9223372036854775807)
    (hx : Hid ((b : Int) ≤ x ∧ x ≤ (s.size : Int) ∧ plainEnd s x.toNat = plainEnd s b))
    (hw : Hid (g4 ≠ g5 ∧ w.heap.size ≤ g4 ∧ w.heap.size ≤ g5 ∧ Below w.heap.size w W ∧ W.heap[g4]? = some (.cells #[.bool false, .string ⟨#[]⟩, .string ⟨#[]⟩, .int .i64 0] 55 (0, 0)) ∧ W.heap[g5]? = some (.cells #[.bool false, .string ⟨#[]⟩, .string ⟨#[]⟩, .int .i64 0] 55 (0, 0))))
    (u2 u3 u8 u9 u10 u11 u12 u13 u14 u15 u16 u17 u18 u19 u20 u21 u22 u23 u24 u25 u26 u27 u28 u29 u30 u31 u32 u33 u34 u35 u36 u37 u38 u39 u40 u41 u42 u43 u44 u45 u46 u47 u48 u49 u50 u51 u52 u53 u54 u55 u56 u57 u58 u59 u60 u61 u62 u63 u64 u65 u66 u67 u68 u69 u70 u71 : Value)
    (hK : ∀ l a' w', plainJ s b w l a' w' → plainM s l a' w' < plainM s 0 ⟨#[.string s, .int .i64 x, u2, u3, .pointer (some ⟨g4, 0, none⟩), .pointer (some ⟨g5, 0, none⟩), .int .i64 (b : Nat), .int .i64 (b : Nat), u8, u9, u10, u11, u12, u13, u14, u15, u16, u17, u18, u19, u20, u21, u22, u23, u24, u25, u26, u27, u28, u29, u30, u31, u32, u33, u34, u35, u36, u37, u38, u39, u40, u41, u42, u43, u44, u45, u46, u47, u48, u49, u50, u51, u52, u53, u54, u55, u56, u57, u58, u59, u60, u61, u62, u63, u64, u65, u66, u67, u68, u69, u70, u71], []⟩ W → K l a' w') :
    Code.wp Tryd.prog (plainTail 0) (plainJumps K Q) ⟨#[.string s, .int .i64 x, u2, u3, .pointer (some ⟨g4, 0, none⟩), .pointer (some ⟨g5, 0, none⟩), .int .i64 (b : Nat), .int .i64 (b : Nat), u8, u9, u10, u11, u12, u13, u14, u15, u16, u17, u18, u19, u20, u21, u22, u23, u24, u25, u26, u27, u28, u29, u30, u31, u32, u33, u34, u35, u36, u37, u38, u39, u40, u41, u42, u43, u44, u45, u46, u47, u48, u49, u50, u51, u52, u53, u54, u55, u56, u57, u58, u59, u60, u61, u62, u63, u64, u65, u66, u67, u68, u69, u70, u71], []⟩ W := by
  conv => arg 2; whnf
  obtain ⟨hx1, hx2, hx3⟩ := hx.out
  have hx3 := Aside0.mk hx3
  obtain ⟨hn, hg4, hg5, hb, hc4, hc5⟩ := hw.out
  have HB := Aside0.mk hb
  have H4 := Aside0.mk hc4
  have H5 := Aside0.mk hc5
  clear hb hc4 hc5 hx hw
  have HK := Aside0.mk hK
  clear hK
  have hc50 : W.cell? ⟨g5, 1, none⟩ = some (.string ⟨#[]⟩) := (blk_cell H5.out 1).trans rfl
  have hf50 := blk_frozen H5.out 1
  have hx0 : 0 ≤ x := by omega
  have hbx := bt_at s x
  by_cases hlt : x < (s.size : Int)
  · by_cases hd : plainDig (bt s x) = true
    · have A1 := Aside0.mk (plainDig_at hd)
      have HD := Aside0.mk hd
      clear hd
      have p1 := eq_true hx0
      have q1 := eq_true hlt
      go_wp2_with (go_at_call 68; (with_reducible refine (numeral_digit.calls (bt s x) true _ A1.out).mono ?_); rintro e w' ⟨rfl, ⟨nd, rfl⟩⟩)
      go_step3
      refine HK.out 0 _ _ ⟨g4, g5, x + 1, ⟨by omega, by omega, ?_⟩, ⟨hn, hg4, hg5, pw_below_drewN HB.out _, blk_drewN H4.out _, blk_drewN H5.out _⟩, _, _, _, _, _, _, _, _, _, _, _, _, _, _, _, _, _, _, _, _, _, _, _, _, _, _, _, _, _, _, _, _, _, _, _, _, _, _, _, _, _, _, _, _, _, _, _, _, _, _, _, _, _, _, _, _, _, _, _, _, _, _, _, _, _, _, rfl⟩ ?_
      · rw [show (x + 1).toNat = x.toNat + 1 from by omega, ← plainEnd_yes (by omega) (by rw [show ((x.toNat : Nat) : Int) = x from by omega]; exact HD.out)]
        exact hx3.out
      · show (2 - 0) * (s.size + 1) + (s.size - (x + 1).toNat) < (2 - 0) * (s.size + 1) + (s.size - x.toNat)
        omega
    · have A1 := Aside0.mk (plainDig_at (d := false) (by simpa using hd))
      obtain ⟨p, rfl⟩ := Int.eq_ofNat_of_zero_le hx0
      have HP := Aside0.mk (show p = plainEnd s b from by rw [← hx3.out, Int.toNat_natCast, plainEnd_no (fun hh => hd hh.2)])
      clear hd
      have p1 := eq_true hx0
      have q1 := eq_true hlt
      have hsl : b ≤ p := by omega
      have hsp : p < s.size := by omega
      have hbx2 : ∀ h : p < s.size, ((s[p]'h).toNat : Int) = bt s (p : Int) := bt_at s (p : Int)
      by_cases hdot : bt s (p : Int) = 46
      · have hdb : (bt s (p : Int) == 46) = true := by simpa using hdot
        have HDOT := Aside0.mk hdot
        clear hdot
        go_wp2_with (go_at_call 68; (with_reducible refine (numeral_digit.calls (bt s (p : Int)) false _ A1.out).mono ?_); rintro e w' ⟨rfl, ⟨nd, rfl⟩⟩)
        go_step3
        refine HK.out 1 _ _ ⟨g4, g5, p, (p : Int) + 1, ⟨HP.out, hsp, HDOT.out, hsl, Int.le_refl _, by omega, by rw [show ((p : Int) + 1).toNat = p + 1 from by omega]⟩, ⟨hn, hg4, hg5, below_set (pw_below_drewN HB.out _) hg5, blk_far (blk_drewN H4.out _) hn _, blk_put (blk_drewN H5.out _) 1 _ rfl⟩, _, _, _, _, _, _, _, _, _, _, _, _, _, _, _, _, _, _, _, _, _, _, _, _, _, _, _, _, _, _, _, _, _, _, _, _, _, _, _, _, _, _, _, _, _, _, _, _, _, _, _, _, _, _, _, _, _, _, _, _, _, _, _, _, _, _, rfl⟩ ?_
        show (2 - 1) * (s.size + 1) + (s.size - ((p : Int) + 1).toNat) < (2 - 0) * (s.size + 1) + (s.size - (p : Int).toNat)
        omega
      · have hdb : (bt s (p : Int) == 46) = false := by simpa using hdot
        have HDOT := Aside0.mk hdot
        clear hdot
        go_wp2_with (go_at_call 68; (with_reducible refine (numeral_digit.calls (bt s (p : Int)) false _ A1.out).mono ?_); rintro e w' ⟨rfl, ⟨nd, rfl⟩⟩)
        go_step3
        refine HK.out 2 _ _ ⟨g4, g5, p, ⟨HP.out, fun hh => HDOT.out hh.2, hsl, by omega⟩, ⟨hn, hg4, hg5, below_set (pw_below_drewN HB.out _) hg5, blk_far (blk_drewN H4.out _) hn _, blk_put (blk_drewN H5.out _) 1 _ rfl⟩, _, _, _, _, _, _, _, _, _, _, _, _, _, _, _, _, _, _, _, _, _, _, _, _, _, _, _, _, _, _, _, _, _, _, _, _, _, _, _, _, _, _, _, _, _, _, _, _, _, _, _, _, _, _, _, _, _, _, _, _, _, _, _, _, _, _, rfl⟩ ?_
        show (2 - 2) * (s.size + 1) + (s.size - (p : Int).toNat) < (2 - 0) * (s.size + 1) + (s.size - (p : Int).toNat)
        omega
  · obtain ⟨p, rfl⟩ := Int.eq_ofNat_of_zero_le hx0
    have HP := Aside0.mk (show p = plainEnd s b from by rw [← hx3.out, Int.toNat_natCast, plainEnd_no (fun hh => hlt (by omega))])
    have hsl : b ≤ p := by omega
    go_wp2
    go_step3
    refine HK.out 2 _ _ ⟨g4, g5, p, ⟨HP.out, fun hh => absurd hh.1 (by omega), hsl, by omega⟩, ⟨hn, hg4, hg5, below_set HB.out hg5, blk_far H4.out hn _, blk_put H5.out 1 _ rfl⟩, _, _, _, _, _, _, _, _, _, _, _, _, _, _, _, _, _, _, _, _, _, _, _, _, _, _, _, _, _, _, _, _, _, _, _, _, _, _, _, _, _, _, _, _, _, _, _, _, _, _, _, _, _, _, _, _, _, _, _, _, _, _, _, _, _, _, rfl⟩ ?_
    show (2 - 2) * (s.size + 1) + (s.size - (p : Int).toNat) < (2 - 0) * (s.size + 1) + (s.size - (p : Int).toNat)
    omega
def plainOut (A B : ByteArray) (q : Int) : Bool × ByteArray × ByteArray × Int := if A.toList = [] ∧ B.toList = [] then (false, ⟨#[]⟩, ⟨#[]⟩, 0) else (false, A, B, q)
def plainCells (r : Bool × ByteArray × ByteArray × Int) : Array Value := #[.bool r.1, .string r.2.1, .string r.2.2.1, .int .i64 r.2.2.2]
set_option maxRecDepth 100000 in
set_option maxHeartbeats 4000000 in
/-- From the last label on. -/
theorem plain_pass2 (w : World) (K : Nat → Act → World → Prop) (Q : Exit → Act → World → Prop) (W : World) (g4 g5 p q : Nat) (s A B : ByteArray) (hpq : p ≤ q) (hq : (q : Int) < 9223372036854775807)
    (hw : Hid (g4 ≠ g5 ∧ w.heap.size ≤ g4 ∧ w.heap.size ≤ g5 ∧ Below w.heap.size w W ∧ W.heap[g4]? = some (.cells #[.bool false, .string ⟨#[]⟩, .string ⟨#[]⟩, .int .i64 0] 55 (0, 0)) ∧ W.heap[g5]? = some (.cells #[.bool false, .string A, .string B, .int .i64 0] 55 (0, 0))))
    (u6 u2 u3 u8 u9 u10 u11 u12 u13 u14 u15 u16 u17 u18 u19 u20 u21 u22 u23 u24 u25 u26 u27 u28 u29 u30 u31 u32 u33 u34 u35 u36 u37 u38 u39 u40 u41 u42 u43 u44 u45 u46 u47 u48 u49 u50 u51 u52 u53 u54 u55 u56 u57 u58 u59 u60 u61 u62 u63 u64 u65 u66 u67 u68 u69 u70 u71 : Value)
    (hQ : ∀ (g : Nat) (a' : Act) (W' : World), a'.tmps.getD 4 undef = .pointer (some ⟨g, 0, none⟩) → a'.defers = [] → W'.heap[g]? = some (.cells (plainCells (plainOut A B q)) 55 (0, 0)) → Below w.heap.size w W' → Q .ret a' W') :
    Code.wp Tryd.prog (plainTail 2) (plainJumps K Q) ⟨#[.string s, .int .i64 (q : Nat), u2, u3, .pointer (some ⟨g4, 0, none⟩), .pointer (some ⟨g5, 0, none⟩), u6, .int .i64 (p : Nat), u8, u9, u10, u11, u12, u13, u14, u15, u16, u17, u18, u19, u20, u21, u22, u23, u24, u25, u26, u27, u28, u29, u30, u31, u32, u33, u34, u35, u36, u37, u38, u39, u40, u41, u42, u43, u44, u45, u46, u47, u48, u49, u50, u51, u52, u53, u54, u55, u56, u57, u58, u59, u60, u61, u62, u63, u64, u65, u66, u67, u68, u69, u70, u71], []⟩ W := by
  conv => arg 2; whnf
  obtain ⟨hn, hg4, hg5, hb, hc4, hc5⟩ := hw.out
  have hn' := hn.symm
  have HB := Aside0.mk hb
  have H4 := Aside0.mk hc4
  have H5 := Aside0.mk hc5
  clear hb hc4 hc5 hw
  have HQ := Aside0.mk hQ
  clear hQ
  have hu := Tryd.underlying55
  have hc50 : W.cell? ⟨g5, 0, none⟩ = some (.bool false) := (blk_cell H5.out 0).trans rfl
  have hc51 : W.cell? ⟨g5, 1, none⟩ = some (.string A) := (blk_cell H5.out 1).trans rfl
  have hc52 : W.cell? ⟨g5, 2, none⟩ = some (.string B) := (blk_cell H5.out 2).trans rfl
  have hc53 : W.cell? ⟨g5, 3, none⟩ = some (.int .i64 0) := (blk_cell H5.out 3).trans rfl
  have hf53 := blk_frozen H5.out 3
  have hc40 : W.cell? ⟨g4, 0, none⟩ = some (.bool false) := (blk_cell H4.out 0).trans rfl
  have hc41 : W.cell? ⟨g4, 1, none⟩ = some (.string ⟨#[]⟩) := (blk_cell H4.out 1).trans rfl
  have hc42 : W.cell? ⟨g4, 2, none⟩ = some (.string ⟨#[]⟩) := (blk_cell H4.out 2).trans rfl
  have hc43 : W.cell? ⟨g4, 3, none⟩ = some (.int .i64 0) := (blk_cell H4.out 3).trans rfl
  have hf40 := blk_frozen H4.out 0
  have hf41 := blk_frozen H4.out 1
  have hf42 := blk_frozen H4.out 2
  have hf43 := blk_frozen H4.out 3
  by_cases hA : A.toList = []
  · have hAb : (A.toList == []) = true := by simpa using hA
    have hAc : A.toList.isEmpty = true := by simp [hA]
    have HA := Aside0.mk hA
    clear hA
    by_cases hB : B.toList = []
    · have hBb : (B.toList == []) = true := by simpa using hB
      have hBc : B.toList.isEmpty = true := by simp [hB]
      have HE := Aside0.mk (show plainOut A B q = (false, ⟨#[]⟩, ⟨#[]⟩, 0) from if_pos ⟨HA.out, hB⟩)
      clear hB
      go_wp2
      show Q .ret _ _
      refine HQ.out g4 _ _ rfl rfl ?_ (below_set (below_set (below_set (below_set HB.out hg4) hg4) hg4) hg4)
      rw [HE.out]
      exact blk_put (blk_put (blk_put (blk_put H4.out 0 _ rfl) 1 _ rfl) 2 _ rfl) 3 _ rfl
    · have hBb : (B.toList == []) = false := by simpa using hB
      have hBc : B.toList.isEmpty = false := by simpa using hB
      have HE := Aside0.mk (show plainOut A B q = (false, A, B, (q : Int)) from if_neg fun hh => hB hh.2)
      clear hB
      go_wp2
      show Q .ret _ _
      refine HQ.out g4 _ _ rfl rfl ?_ (below_set (below_set (below_set (below_set (below_set HB.out hg5) hg4) hg4) hg4) hg4)
      rw [HE.out]
      exact blk_put (blk_put (blk_put (blk_put (blk_far H4.out hn _) 0 _ rfl) 1 _ rfl) 2 _ rfl) 3 _ rfl
  · have hAb : (A.toList == []) = false := by simpa using hA
    have hAc : A.toList.isEmpty = false := by simpa using hA
    have HE := Aside0.mk (show plainOut A B q = (false, A, B, (q : Int)) from if_neg fun hh => hA hh.1)
    clear hA
    go_wp2
    show Q .ret _ _
    refine HQ.out g4 _ _ rfl rfl ?_ (below_set (below_set (below_set (below_set (below_set HB.out hg5) hg4) hg4) hg4) hg4)
    rw [HE.out]
    exact blk_put (blk_put (blk_put (blk_put (blk_far H4.out hn _) 0 _ rfl) 1 _ rfl) 2 _ rfl) 3 _ rfl

set_option maxRecDepth 100000 in
set_option maxHeartbeats 4000000 in
/-- From the middle label on. -/
theorem plain_pass1 (s : ByteArray) (b : Nat) (w : World) (K : Nat → Act → World → Prop) (Q : Exit → Act → World → Prop) (W : World) (g4 g5 p : Nat) (x : Int) (hs : (s.size : Int) < 9223372036854775807)
    (hx : Hid (p = plainEnd s b ∧ p < s.size ∧ bt s p = 46 ∧ b ≤ p ∧ (p : Int) + 1 ≤ x ∧ x ≤ (s.size : Int) ∧ plainEnd s x.toNat = plainEnd s (p + 1)))
    (hw : Hid (g4 ≠ g5 ∧ w.heap.size ≤ g4 ∧ w.heap.size ≤ g5 ∧ Below w.heap.size w W ∧ W.heap[g4]? = some (.cells #[.bool false, .string ⟨#[]⟩, .string ⟨#[]⟩, .int .i64 0] 55 (0, 0)) ∧ W.heap[g5]? = some (.cells #[.bool false, .string (s.extract b p), .string ⟨#[]⟩, .int .i64 0] 55 (0, 0))))
    (u2 u3 u8 u9 u10 u11 u12 u13 u14 u15 u16 u17 u18 u19 u20 u21 u22 u23 u24 u25 u26 u27 u28 u29 u30 u31 u32 u33 u34 u35 u36 u37 u38 u39 u40 u41 u42 u43 u44 u45 u46 u47 u48 u49 u50 u51 u52 u53 u54 u55 u56 u57 u58 u59 u60 u61 u62 u63 u64 u65 u66 u67 u68 u69 u70 u71 : Value)
    (hK : ∀ l a' w', plainJ s b w l a' w' → plainM s l a' w' < plainM s 1 ⟨#[.string s, .int .i64 x, u2, u3, .pointer (some ⟨g4, 0, none⟩), .pointer (some ⟨g5, 0, none⟩), .int .i64 ((p : Int) + 1), .int .i64 (p : Nat), u8, u9, u10, u11, u12, u13, u14, u15, u16, u17, u18, u19, u20, u21, u22, u23, u24, u25, u26, u27, u28, u29, u30, u31, u32, u33, u34, u35, u36, u37, u38, u39, u40, u41, u42, u43, u44, u45, u46, u47, u48, u49, u50, u51, u52, u53, u54, u55, u56, u57, u58, u59, u60, u61, u62, u63, u64, u65, u66, u67, u68, u69, u70, u71], []⟩ W → K l a' w')
    (hQ : ∀ (g : Nat) (a' : Act) (W' : World), a'.tmps.getD 4 undef = .pointer (some ⟨g, 0, none⟩) → a'.defers = [] → W'.heap[g]? = some (.cells (plainCells (plainF s b)) 55 (0, 0)) → Below w.heap.size w W' → Q .ret a' W') :
    Code.wp Tryd.prog (plainTail 1) (plainJumps K Q) ⟨#[.string s, .int .i64 x, u2, u3, .pointer (some ⟨g4, 0, none⟩), .pointer (some ⟨g5, 0, none⟩), .int .i64 ((p : Int) + 1), .int .i64 (p : Nat), u8, u9, u10, u11, u12, u13, u14, u15, u16, u17, u18, u19, u20, u21, u22, u23, u24, u25, u26, u27, u28, u29, u30, u31, u32, u33, u34, u35, u36, u37, u38, u39, u40, u41, u42, u43, u44, u45, u46, u47, u48, u49, u50, u51, u52, u53, u54, u55, u56, u57, u58, u59, u60, u61, u62, u63, u64, u65, u66, u67, u68, u69, u70, u71], []⟩ W := by
  conv => arg 2; whnf
  obtain ⟨hx1, hx2, hx3, hx4, hx5, hx6, hx7⟩ := hx.out
  have HX1 := Aside0.mk hx1
  have HX3 := Aside0.mk hx3
  have HX7 := Aside0.mk hx7
  clear hx1 hx3 hx7
  obtain ⟨hn, hg4, hg5, hb, hc4, hc5⟩ := hw.out
  have HB := Aside0.mk hb
  have H4 := Aside0.mk hc4
  have H5 := Aside0.mk hc5
  clear hb hc4 hc5 hx hw
  have HK := Aside0.mk hK
  have HQ := Aside0.mk hQ
  clear hK hQ
  have hc50 : W.cell? ⟨g5, 2, none⟩ = some (.string ⟨#[]⟩) := (blk_cell H5.out 2).trans rfl
  have hf50 := blk_frozen H5.out 2
  have hx0 : 0 ≤ x := by omega
  have hp0 : 0 ≤ (p : Int) + 1 := by omega
  have hp1 : ((p : Int) + 1).toNat = p + 1 := by omega
  by_cases hlt : x < (s.size : Int)
  · by_cases hd : plainDig (bt s x) = true
    · have A1 := Aside0.mk (plainDig_at hd)
      have HD := Aside0.mk hd
      clear hd
      have hbx := bt_at s x
      have p1 := eq_true hx0
      have q1 := eq_true hlt
      go_wp2_with (go_at_call 68; (with_reducible refine (numeral_digit.calls (bt s x) true _ A1.out).mono ?_); rintro e w' ⟨rfl, ⟨nd, rfl⟩⟩)
      go_step3
      refine HK.out 1 _ _ ⟨g4, g5, p, x + 1, ⟨HX1.out, hx2, HX3.out, hx4, by omega, by omega, ?_⟩, ⟨hn, hg4, hg5, pw_below_drewN HB.out _, blk_drewN H4.out _, blk_drewN H5.out _⟩, _, _, _, _, _, _, _, _, _, _, _, _, _, _, _, _, _, _, _, _, _, _, _, _, _, _, _, _, _, _, _, _, _, _, _, _, _, _, _, _, _, _, _, _, _, _, _, _, _, _, _, _, _, _, _, _, _, _, _, _, _, _, _, _, _, _, rfl⟩ ?_
      · rw [show (x + 1).toNat = x.toNat + 1 from by omega, ← plainEnd_yes (by omega) (by rw [show ((x.toNat : Nat) : Int) = x from by omega]; exact HD.out)]
        exact HX7.out
      · show (2 - 1) * (s.size + 1) + (s.size - (x + 1).toNat) < (2 - 1) * (s.size + 1) + (s.size - x.toNat)
        omega
    · have A1 := Aside0.mk (plainDig_at (d := false) (by simpa using hd))
      obtain ⟨q, rfl⟩ := Int.eq_ofNat_of_zero_le hx0
      have HP := Aside0.mk (show q = plainEnd s (p + 1) from by rw [← HX7.out, Int.toNat_natCast, plainEnd_no (fun hh => hd hh.2)])
      clear hd
      have hbx2 : ∀ h : q < s.size, ((s[q]'h).toNat : Int) = bt s (q : Int) := bt_at s (q : Int)
      have p1 := eq_true hx0
      have q1 := eq_true hlt
      have hsp : q < s.size := by omega
      have hpq : (p : Int) + 1 ≤ (q : Int) := by omega
      have HF := Aside0.mk (show plainF s b = plainOut (s.extract b p) (s.extract (p + 1) q) q from by unfold plainF plainOut; rw [← HX1.out, if_pos ⟨hx2, HX3.out⟩, ← HP.out])
      go_wp2_with (go_at_call 68; (with_reducible refine (numeral_digit.calls (bt s (q : Int)) false _ A1.out).mono ?_); rintro e w' ⟨rfl, ⟨nd, rfl⟩⟩)
      go_step3
      show (_ : Act → World → Prop) _ _
      refine (by assumption : ∀ (a_ : Act) (w_ : World), Code.wp Tryd.prog _ (plainJumps K Q) a_ w_ → _) _ _ ?_
      refine plain_pass2 w K Q _ g4 g5 p q s (s.extract b p) (s.extract (p + 1) q) (by omega) (by omega) ⟨hn, hg4, hg5, below_set (pw_below_drewN HB.out _) hg5, blk_far (blk_drewN H4.out _) hn _, blk_put (blk_drewN H5.out _) 2 _ rfl⟩ _ _ _ _ _ _ _ _ _ _ _ _ _ _ _ _ _ _ _ _ _ _ _ _ _ _ _ _ _ _ _ _ _ _ _ _ _ _ _ _ _ _ _ _ _ _ _ _ _ _ _ _ _ _ _ _ _ _ _ _ _ _ _ _ _ _ _ ?_
      intro g a' W' e1 e2 e3 e4
      exact HQ.out g a' W' e1 e2 (by rw [HF.out]; exact e3) e4
  · obtain ⟨q, rfl⟩ := Int.eq_ofNat_of_zero_le hx0
    have HP := Aside0.mk (show q = plainEnd s (p + 1) from by rw [← HX7.out, Int.toNat_natCast, plainEnd_no (fun hh => hlt (by omega))])
    have hpq : (p : Int) + 1 ≤ (q : Int) := by omega
    have HF := Aside0.mk (show plainF s b = plainOut (s.extract b p) (s.extract (p + 1) q) q from by unfold plainF plainOut; rw [← HX1.out, if_pos ⟨hx2, HX3.out⟩, ← HP.out])
    go_wp2
    go_step3
    show (_ : Act → World → Prop) _ _
    refine (by assumption : ∀ (a_ : Act) (w_ : World), Code.wp Tryd.prog _ (plainJumps K Q) a_ w_ → _) _ _ ?_
    refine plain_pass2 w K Q _ g4 g5 p q s (s.extract b p) (s.extract (p + 1) q) (by omega) (by omega) ⟨hn, hg4, hg5, below_set HB.out hg5, blk_far H4.out hn _, blk_put H5.out 2 _ rfl⟩ _ _ _ _ _ _ _ _ _ _ _ _ _ _ _ _ _ _ _ _ _ _ _ _ _ _ _ _ _ _ _ _ _ _ _ _ _ _ _ _ _ _ _ _ _ _ _ _ _ _ _ _ _ _ _ _ _ _ _ _ _ _ _ _ _ _ _ ?_
    intro g a' W' e1 e2 e3 e4
    exact HQ.out g a' W' e1 e2 (by rw [HF.out]; exact e3) e4

set_option maxRecDepth 100000 in
set_option maxHeartbeats 4000000 in
theorem numeral_plain.calls (a0 : ByteArray) (a1 : Int) (r1 : Bool) (r2 : ByteArray) (r3 : ByteArray) (r4 : Int) (w : World) (h : numeral_plain.f a0 a1 = some (r1, r2, r3, r4)) :
    Calls Tryd.prog 36 #[.string a0, .int .i64 a1] w fun e w' => e = .returned (.agg #[.bool r1, .string r2, .string r3, .int .i64 r4]) ∧ Below w.heap.size w w' := by
  unfold numeral_plain.f at h
  split at h
  · rename_i hh
    obtain ⟨h0, h1, h2⟩ := hh
    obtain ⟨b, rfl⟩ := Int.eq_ofNat_of_zero_le h0
    rw [Int.toNat_natCast] at h
    have HR := Aside0.mk (Option.some.inj h)
    clear h
    have hu := Tryd.underlying55
    have hQ : ∀ (g : Nat) (a' : Act) (W' : World), a'.tmps.getD 4 undef = .pointer (some ⟨g, 0, none⟩) → a'.defers = [] → W'.heap[g]? = some (.cells (plainCells (plainF a0 b)) 55 (0, 0)) → Below w.heap.size w W' →
        bodyPost Tryd.prog Tryd.f36 (fun e w' => e = .returned (.agg #[.bool r1, .string r2, .string r3, .int .i64 r4]) ∧ Below w.heap.size w w') .ret a' W' := by
      intro g a' W' e1 e2 e3 e4
      rw [HR.out] at e3
      refine bodyPost_ret (results_cell_row rfl _ _ g 55 (plainCells (r1, r2, r3, r4)) (0, 0) _ e1 e3 hu rfl (by kernel_rfl)) e2 ⟨rfl, e4⟩
    have HQ := Aside0.mk hQ
    clear hQ
    have HB := Aside0.mk (Below.refl w.heap.size w)
    go_enter Tryd.func36, Tryd.ntmps36
    go_wp2
    refine plain_scope (plainJ a0 b w) (plainM a0) plainJ_label rfl rfl rfl ?_ ?_ ?_ ?_
    · go_wp2_with fail
      go_step3
      show (_ : Act → World → Prop) _ _
      refine (by assumption : ∀ (a_ : Act) (w_ : World), Code.wp Tryd.prog _ (plainJumps _ _) a_ w_ → _) _ _ ?_
      refine plain_pass0 a0 b w _ _ _ w.heap.size (w.heap.size + 1) (b : Int) h2 ⟨Int.le_refl _, h1, rfl⟩ ⟨by omega, Nat.le_refl _, by omega, ?_, ?_, ?_⟩ _ _ _ _ _ _ _ _ _ _ _ _ _ _ _ _ _ _ _ _ _ _ _ _ _ _ _ _ _ _ _ _ _ _ _ _ _ _ _ _ _ _ _ _ _ _ _ _ _ _ _ _ _ _ _ _ _ _ _ _ _ _ _ _ _ _ (fun l a' w' h _ => h)
      · exact ((Below.refl _ _).alloc (Nat.le_refl _) _).alloc (by simp) _
      · exact (Below.heap_alloc _ _ _ (by simp)).trans (blk_new w _)
      · have := blk_new (w.alloc (.cells #[.bool false, .string ⟨#[]⟩, .string ⟨#[]⟩, .int .i64 0] 55 (0, 0))) (.cells #[.bool false, .string ⟨#[]⟩, .string ⟨#[]⟩, .int .i64 0] 55 (0, 0))
        rwa [World.size_alloc] at this
    · rintro a W ⟨g4, g5, x, hx, hw, u2, u3, u8, u9, u10, u11, u12, u13, u14, u15, u16, u17, u18, u19, u20, u21, u22, u23, u24, u25, u26, u27, u28, u29, u30, u31, u32, u33, u34, u35, u36, u37, u38, u39, u40, u41, u42, u43, u44, u45, u46, u47, u48, u49, u50, u51, u52, u53, u54, u55, u56, u57, u58, u59, u60, u61, u62, u63, u64, u65, u66, u67, u68, u69, u70, u71, rfl⟩
      refine wp_seq (wp_skip ?_)
      exact plain_pass0 a0 b w _ _ W g4 g5 x h2 hx hw u2 u3 u8 u9 u10 u11 u12 u13 u14 u15 u16 u17 u18 u19 u20 u21 u22 u23 u24 u25 u26 u27 u28 u29 u30 u31 u32 u33 u34 u35 u36 u37 u38 u39 u40 u41 u42 u43 u44 u45 u46 u47 u48 u49 u50 u51 u52 u53 u54 u55 u56 u57 u58 u59 u60 u61 u62 u63 u64 u65 u66 u67 u68 u69 u70 u71 (fun l a' w' h1 h2 => ⟨h1, h2⟩)
    · rintro a W ⟨g4, g5, p, x, hx, hw, u2, u3, u8, u9, u10, u11, u12, u13, u14, u15, u16, u17, u18, u19, u20, u21, u22, u23, u24, u25, u26, u27, u28, u29, u30, u31, u32, u33, u34, u35, u36, u37, u38, u39, u40, u41, u42, u43, u44, u45, u46, u47, u48, u49, u50, u51, u52, u53, u54, u55, u56, u57, u58, u59, u60, u61, u62, u63, u64, u65, u66, u67, u68, u69, u70, u71, rfl⟩
      refine wp_seq (wp_skip ?_)
      exact plain_pass1 a0 b w _ _ W g4 g5 p x h2 hx hw u2 u3 u8 u9 u10 u11 u12 u13 u14 u15 u16 u17 u18 u19 u20 u21 u22 u23 u24 u25 u26 u27 u28 u29 u30 u31 u32 u33 u34 u35 u36 u37 u38 u39 u40 u41 u42 u43 u44 u45 u46 u47 u48 u49 u50 u51 u52 u53 u54 u55 u56 u57 u58 u59 u60 u61 u62 u63 u64 u65 u66 u67 u68 u69 u70 u71 (fun l a' w' h1 h2 => ⟨h1, h2⟩) HQ.out
    · rintro a W ⟨g4, g5, p, hx, hw, u2, u3, u8, u9, u10, u11, u12, u13, u14, u15, u16, u17, u18, u19, u20, u21, u22, u23, u24, u25, u26, u27, u28, u29, u30, u31, u32, u33, u34, u35, u36, u37, u38, u39, u40, u41, u42, u43, u44, u45, u46, u47, u48, u49, u50, u51, u52, u53, u54, u55, u56, u57, u58, u59, u60, u61, u62, u63, u64, u65, u66, u67, u68, u69, u70, u71, rfl⟩
      obtain ⟨x1, x2, x3, x4⟩ := hx.out
      refine wp_seq (wp_skip ?_)
      refine plain_pass2 w _ _ W g4 g5 p p a0 (a0.extract b p) ⟨#[]⟩ (Nat.le_refl _) (by omega) hw _ u2 u3 u8 u9 u10 u11 u12 u13 u14 u15 u16 u17 u18 u19 u20 u21 u22 u23 u24 u25 u26 u27 u28 u29 u30 u31 u32 u33 u34 u35 u36 u37 u38 u39 u40 u41 u42 u43 u44 u45 u46 u47 u48 u49 u50 u51 u52 u53 u54 u55 u56 u57 u58 u59 u60 u61 u62 u63 u64 u65 u66 u67 u68 u69 u70 u71 ?_
      intro g a' W' e1 e2 e3 e4
      refine HQ.out g a' W' e1 e2 ?_ e4
      rw [show plainF a0 b = plainOut (a0.extract b p) ⟨#[]⟩ p from by unfold plainF plainOut; rw [← x1, if_neg x2]; simp]
      exact e3
  · cases h


/-! ### numeral_begins: function 35 -/
def numeral_begins.l0 : Nat → ByteArray → Int → ByteArray → Int → Int → Option (Bool)
 | 0, _, _, _, _, _ => none
 | k + 1, x0, x1, x2, x16, x17 => if x17 < x16 then (if 0 ≤ (wrap64 (x1 + x17)) then (if (wrap64 (x1 + x17)) < (x0.size : Int) then (if 0 ≤ x17 then (if x17 < (x2.size : Int) then (if (Go.bits .or .u8 (bt x0 (wrap64 (x1 + x17))) 32) = (bt x2 x17) then (if (bt x0 (wrap64 (x1 + x17))) < 65 then (some false) else (numeral_begins.l0 k x0 x1 x2 x16 (wrap64 (x17 + 1)))) else (some false)) else (none)) else (none)) else (none)) else (none)) else (some true)
def numeral_begins.f (k : Nat) (a0 : ByteArray) (a1 : Int) (a2 : ByteArray) : Option (Bool) := if (wrap64 ((a0.size : Int) - a1)) < (a2.size : Int) then (some false) else (numeral_begins.l0 k a0 a1 a2 (a2.size : Int) 0)
set_option maxHeartbeats 8000000 in
set_option maxRecDepth 100000 in
theorem numeral_begins.calls (k : Nat) (a0 : ByteArray) (a1 : Int) (a2 : ByteArray) (r : Bool) (w : World) (h : numeral_begins.f k a0 a1 a2 = some r) :
  Calls Tryd.prog 35 #[.string a0, .int .i64 a1, .string a2] w fun e w' => e = .returned (.bool r) ∧ Drawn0 w w' := by
 have H : (if (wrap64 ((a0.size : Int) - a1)) < (a2.size : Int) then (some false) else (numeral_begins.l0 k a0 a1 a2 (a2.size : Int) 0)) = some r := h
 clear h
 by_cases c4 : (wrap64 ((a0.size : Int) - a1)) < (a2.size : Int)
 ·
  rw [if_pos c4] at H
  have c4b0 : decide ((wrap64 ((a0.size : Int) - a1)) < (a2.size : Int)) = true := decide_eq_true c4
  clear c4
  obtain rfl := Option.some.inj H
  go_enter Tryd.func35, Tryd.ntmps35
  go_wp2
  repeat (go_quiet (fail); try go_wp2)
  go_ret
  exact ⟨qne2_, qne12_⟩
 ·
  rw [if_neg c4] at H
  have c4b0 : decide ((wrap64 ((a0.size : Int) - a1)) < (a2.size : Int)) = false := decide_eq_false c4
  clear c4
  have H' := Aside0.mk H
  clear H
  go_enter Tryd.func35, Tryd.ntmps35
  go_wp2
  repeat (go_quiet (fail); try go_wp2)
  go_loopg [17] k (fun kq v17 w' => ∃ (x17_1 : Int), v17 = .int .i64 x17_1 ∧ Aside0 (numeral_begins.l0 kq a0 a1 a2 (a2.size : Int) x17_1 = some r) ∧ Aside0 (kq ≤ k) ∧ Drawn0 w w')
  case atStart => exact ⟨(0), qne2_, H', ⟨Nat.le_refl _⟩, qne12_⟩
  case round =>
   clear H'
   (try clear p2); (try clear c3); (try clear c4); (try clear c4b0)
   obtain ⟨x17_1, rfl, HA, HK1, ⟨m1, rfl⟩⟩ := hrel
   cases gk with
   | zero => exact absurd HA.out (by simp [numeral_begins.l0])
   | succ k1 =>
    have H := HA.out
    clear HA
    simp only [numeral_begins.l0] at H
    by_cases c5 : x17_1 < (a2.size : Int)
    ·
     rw [if_pos c5] at H
     have c5b0 : decide (x17_1 < (a2.size : Int)) = true := decide_eq_true c5
     clear c5
     obtain ⟨ji6, hji6⟩ : ∃ j_ : Int, (wrap64 (a1 + x17_1)) = j_ := ⟨_, rfl⟩
     replace H : (if 0 ≤ (ji6) then (if (ji6) < (a0.size : Int) then (if 0 ≤ x17_1 then (if x17_1 < (a2.size : Int) then (if (Go.bits .or .u8 (bt a0 (ji6)) 32) = (bt a2 x17_1) then (if (bt a0 (ji6)) < 65 then (some false) else (numeral_begins.l0 k1 a0 a1 a2 (a2.size : Int) (wrap64 (x17_1 + 1)))) else (some false)) else (none)) else (none)) else (none)) else (none)) = some r := by first | (rw [hji6] at H; exact H) | (simp only [hji6] at H ⊢; exact H)
     have hji6w : (IntKind.i64.wrap (a1 + x17_1)) = ji6 := (i64_w _).trans hji6
     by_cases c7 : 0 ≤ (ji6)
     ·
      rw [if_pos c7] at H
      have c7b0 : decide (0 ≤ (ji6)) = true := decide_eq_true c7
      clear c7
      by_cases c8 : (ji6) < (a0.size : Int)
      ·
       rw [if_pos c8] at H
       have c8b0 : decide ((ji6) < (a0.size : Int)) = true := decide_eq_true c8
       clear c8
       by_cases c10 : 0 ≤ x17_1
       ·
        rw [if_pos c10] at H
        have c10b0 : decide (0 ≤ x17_1) = true := decide_eq_true c10
        clear c10
        by_cases c11 : x17_1 < (a2.size : Int)
        ·
         rw [if_pos c11] at H
         have c11b0 : decide (x17_1 < (a2.size : Int)) = true := decide_eq_true c11
         clear c11
         by_cases c13 : (Go.bits .or .u8 (bt a0 (ji6)) 32) = (bt a2 x17_1)
         ·
          rw [if_pos c13] at H
          have c13b0 : ((Go.bits .or .u8 (bt a0 (ji6)) 32) == (bt a2 x17_1)) = true := beq_iff_eq.mpr c13
          have c13b1 : ((Go.bits .or .u8 (bt a0 (ji6)) 32) != (bt a2 x17_1)) = false := bne_eq_false_iff_eq.mpr c13
          clear c13
          by_cases c15 : (bt a0 (ji6)) < 65
          ·
           rw [if_pos c15] at H
           have c15b0 : decide ((bt a0 (ji6)) < 65) = true := decide_eq_true c15
           clear c15
           obtain rfl := Option.some.inj H
           have p9 : 0 ≤ ((ji6) : Int) := of_decide_eq_true qne3_
           have q9 : (ji6) < (a0.size : Int) := of_decide_eq_true qne3_
           have hx9 := bt_at a0 (ji6)
           replace p9 := eq_true p9
           replace q9 := eq_true q9
           have p12 : 0 ≤ (x17_1 : Int) := of_decide_eq_true qne3_
           have q12 : x17_1 < (a2.size : Int) := of_decide_eq_true qne3_
           have hx12 := bt_at a2 x17_1
           replace p12 := eq_true p12
           replace q12 := eq_true q12
           have p14 : 0 ≤ ((ji6) : Int) := of_decide_eq_true qne3_
           have q14 : (ji6) < (a0.size : Int) := of_decide_eq_true qne3_
           have hx14 := bt_at a0 (ji6)
           replace p14 := eq_true p14
           replace q14 := eq_true q14
           go_wp2
           repeat (go_quiet (fail); try go_wp2)
           go_ret
           exact ⟨by first | rfl | (simp; done) | (simp only [← hji6] <;> (first | rfl | simp); done) | (simp [*]; done) | (simp; simp only [eq_iff_iff, iff_true] at *; omega) | (exfalso; simp_all; done), qne12_⟩
          ·
           rw [if_neg c15] at H
           have c15b0 : decide ((bt a0 (ji6)) < 65) = false := decide_eq_false c15
           clear c15
           have H' := Aside0.mk H
           clear H
           have p9 : 0 ≤ ((ji6) : Int) := of_decide_eq_true qne3_
           have q9 : (ji6) < (a0.size : Int) := of_decide_eq_true qne3_
           have hx9 := bt_at a0 (ji6)
           replace p9 := eq_true p9
           replace q9 := eq_true q9
           have p12 : 0 ≤ (x17_1 : Int) := of_decide_eq_true qne3_
           have q12 : x17_1 < (a2.size : Int) := of_decide_eq_true qne3_
           have hx12 := bt_at a2 x17_1
           replace p12 := eq_true p12
           replace q12 := eq_true q12
           have p14 : 0 ≤ ((ji6) : Int) := of_decide_eq_true qne3_
           have q14 : (ji6) < (a0.size : Int) := of_decide_eq_true qne3_
           have hx14 := bt_at a0 (ji6)
           replace p14 := eq_true p14
           replace q14 := eq_true q14
           go_wp2
           repeat (go_quiet (fail); try go_wp2)
           go_roundg k1
           case measure => have := HK1.out; omega
           case rel => exact ⟨(wrap64 (x17_1 + 1)), qne2_, H', ⟨by have := HK1.out; omega⟩, qne12_⟩
         ·
          rw [if_neg c13] at H
          have c13b0 : ((Go.bits .or .u8 (bt a0 (ji6)) 32) == (bt a2 x17_1)) = false := beq_eq_false_iff_ne.mpr c13
          have c13b1 : ((Go.bits .or .u8 (bt a0 (ji6)) 32) != (bt a2 x17_1)) = true := bne_iff_ne.mpr c13
          obtain rfl := Option.some.inj H
          have p9 : 0 ≤ ((ji6) : Int) := of_decide_eq_true qne3_
          have q9 : (ji6) < (a0.size : Int) := of_decide_eq_true qne3_
          have hx9 := bt_at a0 (ji6)
          replace p9 := eq_true p9
          replace q9 := eq_true q9
          have p12 : 0 ≤ (x17_1 : Int) := of_decide_eq_true qne3_
          have q12 : x17_1 < (a2.size : Int) := of_decide_eq_true qne3_
          have hx12 := bt_at a2 x17_1
          replace p12 := eq_true p12
          replace q12 := eq_true q12
          go_wp2
          repeat (go_quiet (fail); try go_wp2)
          go_ret
          exact ⟨by first | rfl | (simp; done) | (simp only [← hji6] <;> (first | rfl | simp); done) | (simp [*]; done) | (simp; simp only [eq_iff_iff, iff_true] at *; omega) | (exfalso; simp_all; done), qne12_⟩
        ·
         rw [if_neg c11] at H
         exact absurd H (by simp)
       ·
        rw [if_neg c10] at H
        exact absurd H (by simp)
      ·
       rw [if_neg c8] at H
       exact absurd H (by simp)
     ·
      rw [if_neg c7] at H
      exact absurd H (by simp)
    ·
     rw [if_neg c5] at H
     have c5b0 : decide (x17_1 < (a2.size : Int)) = false := decide_eq_false c5
     clear c5
     obtain rfl := Option.some.inj H
     go_wp2
     repeat (go_quiet (fail); try go_wp2)
     go_ret
     exact ⟨qne2_, qne12_⟩


/-! ### numeral_exponent: function 37 -/
def numeral_exponent.l0 : Nat → ByteArray → Int → Int → Int → Int → Option (Int × Int)
 | 0, _, _, _, _, _ => none
 | k + 1, x0, x1, x6, x7, x8 => if x1 < (x0.size : Int) then (if 0 ≤ x1 then ((numeral_digit.f (bt x0 x1)).bind fun t140 => (if t140 = true then (numeral_exponent.l0 k x0 (wrap64 (x1 + 1)) (wrap64 (x1 + 1)) x7 (mn (wrap64 ((wrap64 (x8 * 10)) + (((bt x0 x1) - 48) % 256))) 1099511627776)) else (some (wrap64 (x7 * x8), x6)))) else (none)) else (some (wrap64 (x7 * x8), x6))
def numeral_exponent.f (k : Nat) (a0 : ByteArray) (a1 : Int) : Option (Int × Int) := if a1 = (a0.size : Int) then (some (0, a1)) else (if 0 ≤ a1 then (if a1 < (a0.size : Int) then (if (Go.bits .or .u8 (bt a0 a1) 32) = 101 then (if (wrap64 (a1 + 1)) < (a0.size : Int) then (if 0 ≤ (wrap64 (a1 + 1)) then (if (bt a0 (wrap64 (a1 + 1))) = 45 then (numeral_exponent.l0 k a0 (wrap64 ((wrap64 (a1 + 1)) + 1)) a1 (-1) 0) else (if (bt a0 (wrap64 (a1 + 1))) = 43 then (numeral_exponent.l0 k a0 (wrap64 ((wrap64 (a1 + 1)) + 1)) a1 1 0) else (numeral_exponent.l0 k a0 (wrap64 (a1 + 1)) a1 1 0))) else (none)) else (numeral_exponent.l0 k a0 (wrap64 (a1 + 1)) a1 1 0)) else (some (0, a1))) else (none)) else (none))
set_option maxHeartbeats 8000000 in
set_option maxRecDepth 100000 in
theorem numeral_exponent.calls (k : Nat) (a0 : ByteArray) (a1 : Int) (r1 : Int) (r2 : Int) (w : World) (h : numeral_exponent.f k a0 a1 = some (r1, r2)) :
  Calls Tryd.prog 37 #[.string a0, .int .i64 a1] w fun e w' => e = .returned (.tuple #[.int .i64 r1, .int .i64 r2]) ∧ Below w.heap.size w w' := by
 have HB := Aside0.mk (Below.refl w.heap.size w)
 have H : (if a1 = (a0.size : Int) then (some (0, a1)) else (if 0 ≤ a1 then (if a1 < (a0.size : Int) then (if (Go.bits .or .u8 (bt a0 a1) 32) = 101 then (if (wrap64 (a1 + 1)) < (a0.size : Int) then (if 0 ≤ (wrap64 (a1 + 1)) then (if (bt a0 (wrap64 (a1 + 1))) = 45 then (numeral_exponent.l0 k a0 (wrap64 ((wrap64 (a1 + 1)) + 1)) a1 (-1) 0) else (if (bt a0 (wrap64 (a1 + 1))) = 43 then (numeral_exponent.l0 k a0 (wrap64 ((wrap64 (a1 + 1)) + 1)) a1 1 0) else (numeral_exponent.l0 k a0 (wrap64 (a1 + 1)) a1 1 0))) else (none)) else (numeral_exponent.l0 k a0 (wrap64 (a1 + 1)) a1 1 0)) else (some (0, a1))) else (none)) else (none))) = some (r1, r2) := h
 clear h
 by_cases c3 : a1 = (a0.size : Int)
 ·
  rw [if_pos c3] at H
  have c3b0 : (a1 == (a0.size : Int)) = true := beq_iff_eq.mpr c3
  have c3b1 : (a1 != (a0.size : Int)) = false := bne_eq_false_iff_eq.mpr c3
  clear c3
  simp only [Option.some.injEq, Prod.mk.injEq] at H
  obtain ⟨rfl, rfl⟩ := H
  go_enter Tryd.func37, Tryd.ntmps37
  go_wp2
  go_ret2
  exact ⟨qne5_, qne0_⟩
 ·
  rw [if_neg c3] at H
  have c3b0 : (a1 == (a0.size : Int)) = false := beq_eq_false_iff_ne.mpr c3
  have c3b1 : (a1 != (a0.size : Int)) = true := bne_iff_ne.mpr c3
  by_cases c4 : 0 ≤ a1
  ·
   rw [if_pos c4] at H
   have c4b0 : decide (0 ≤ a1) = true := decide_eq_true c4
   clear c4
   by_cases c5 : a1 < (a0.size : Int)
   ·
    rw [if_pos c5] at H
    have c5b0 : decide (a1 < (a0.size : Int)) = true := decide_eq_true c5
    clear c5
    by_cases c7 : (Go.bits .or .u8 (bt a0 a1) 32) = 101
    ·
     rw [if_pos c7] at H
     have c7b0 : ((Go.bits .or .u8 (bt a0 a1) 32) == 101) = true := beq_iff_eq.mpr c7
     have c7b1 : ((Go.bits .or .u8 (bt a0 a1) 32) != 101) = false := bne_eq_false_iff_eq.mpr c7
     clear c7
     by_cases c8 : (wrap64 (a1 + 1)) < (a0.size : Int)
     ·
      rw [if_pos c8] at H
      have c8b0 : decide ((wrap64 (a1 + 1)) < (a0.size : Int)) = true := decide_eq_true c8
      clear c8
      obtain ⟨ji9, hji9⟩ : ∃ j_ : Int, (wrap64 (a1 + 1)) = j_ := ⟨_, rfl⟩
      replace H : (if 0 ≤ (ji9) then (if (bt a0 (ji9)) = 45 then (numeral_exponent.l0 k a0 (wrap64 ((ji9) + 1)) a1 (-1) 0) else (if (bt a0 (ji9)) = 43 then (numeral_exponent.l0 k a0 (wrap64 ((ji9) + 1)) a1 1 0) else (numeral_exponent.l0 k a0 ji9 a1 1 0))) else (none)) = some (r1, r2) := by first | (rw [hji9] at H; exact H) | (simp only [hji9] at H ⊢; exact H)
      (try rw [hji9] at c8b0)
      have hji9w : (IntKind.i64.wrap (a1 + 1)) = ji9 := (i64_w _).trans hji9
      by_cases c10 : 0 ≤ (ji9)
      ·
       rw [if_pos c10] at H
       have c10b0 : decide (0 ≤ (ji9)) = true := decide_eq_true c10
       clear c10
       by_cases c12 : (bt a0 (ji9)) = 45
       ·
        rw [if_pos c12] at H
        have c12b0 : ((bt a0 (ji9)) == 45) = true := beq_iff_eq.mpr c12
        have c12b1 : ((bt a0 (ji9)) != 45) = false := bne_eq_false_iff_eq.mpr c12
        clear c12
        have H' := Aside0.mk H
        clear H
        have p6 : 0 ≤ (a1 : Int) := of_decide_eq_true qne3_
        have q6 : a1 < (a0.size : Int) := of_decide_eq_true qne3_
        have hx6 := bt_at a0 a1
        replace p6 := eq_true p6
        replace q6 := eq_true q6
        have p11 : 0 ≤ ((ji9) : Int) := of_decide_eq_true qne3_
        have q11 : (ji9) < (a0.size : Int) := of_decide_eq_true qne3_
        have hx11 := bt_at a0 (ji9)
        replace p11 := eq_true p11
        replace q11 := eq_true q11
        have p13 : 0 ≤ ((ji9) : Int) := of_decide_eq_true qne3_
        have q13 : (ji9) < (a0.size : Int) := of_decide_eq_true qne3_
        have hx13 := bt_at a0 (ji9)
        replace p13 := eq_true p13
        replace q13 := eq_true q13
        go_enter Tryd.func37, Tryd.ntmps37
        go_wp2
        go_loopg [1, 6, 8] k (fun kq v1 v6 v8 w' => ∃ (x1_1 : Int) (x6_1 : Int) (x8_1 : Int), v1 = .int .i64 x1_1 ∧ v6 = .int .i64 x6_1 ∧ v8 = .int .i64 x8_1 ∧ Aside0 (numeral_exponent.l0 kq a0 x1_1 x6_1 (-1) x8_1 = some (r1, r2)) ∧ Aside0 (kq ≤ k) ∧ Aside0 (Below w.heap.size w w'))
        case atStart => exact ⟨(wrap64 ((ji9) + 1)), (a1), (0), qne51_, qne2_, qne2_, H', ⟨Nat.le_refl _⟩, ⟨qne0_⟩⟩
        case round =>
         clear H'
         (try clear c1); (try clear p1); (try clear q1); (try clear hx1); (try clear p2); (try clear c3); (try clear c3b0); (try clear c3b1); (try clear c4); (try clear c4b0); (try clear c5); (try clear c5b0); (try clear p6); (try clear q6); (try clear hx6); (try clear c7); (try clear c7b0); (try clear c7b1); (try clear c8); (try clear c8b0); (try clear c10); (try clear c10b0); (try clear p11); (try clear q11)
         (try clear hx11); (try clear c12); (try clear c12b0); (try clear c12b1); (try clear p13); (try clear q13); (try clear hx13); (try clear p11); (try clear p13); (try clear p6); (try clear q11); (try clear q13); (try clear q6)
         obtain ⟨x1_1, x6_1, x8_1, rfl, rfl, rfl, HA, HK1, HB⟩ := hrel
         cases gk with
         | zero => exact absurd HA.out (by simp [numeral_exponent.l0])
         | succ k1 =>
          have H := HA.out
          clear HA
          simp only [numeral_exponent.l0] at H
          by_cases c14 : x1_1 < (a0.size : Int)
          ·
           rw [if_pos c14] at H
           have c14b0 : decide (x1_1 < (a0.size : Int)) = true := decide_eq_true c14
           clear c14
           by_cases c15 : 0 ≤ x1_1
           ·
            rw [if_pos c15] at H
            have c15b0 : decide (0 ≤ x1_1) = true := decide_eq_true c15
            clear c15
            replace H := Option.bind_eq_some_iff.mp H
            obtain ⟨t140, A170, H⟩ := H
            replace H : (if t140 = true then (numeral_exponent.l0 k1 a0 (wrap64 (x1_1 + 1)) (wrap64 (x1_1 + 1)) (-1) (mn (wrap64 ((wrap64 (x8_1 * 10)) + (((bt a0 x1_1) - 48) % 256))) 1099511627776)) else (some (wrap64 ((-1) * x8_1), x6_1))) = some (r1, r2) := H
            have A17 := Aside0.mk A170
            clear A170
            by_cases c18 : t140 = true
            ·
             subst c18
             have H1 : (numeral_exponent.l0 k1 a0 (wrap64 (x1_1 + 1)) (wrap64 (x1_1 + 1)) (-1) (mn (wrap64 ((wrap64 (x8_1 * 10)) + (((bt a0 x1_1) - 48) % 256))) 1099511627776)) = some (r1, r2) := by rw [if_pos rfl] at H; exact H
             clear H
             have H := H1
             clear H1
             obtain ⟨ji20, hji20⟩ : ∃ j_ : Int, (mn (wrap64 ((wrap64 (x8_1 * 10)) + (((bt a0 x1_1) - 48) % 256))) 1099511627776) = j_ := ⟨_, rfl⟩
             replace H : (numeral_exponent.l0 k1 a0 (wrap64 (x1_1 + 1)) (wrap64 (x1_1 + 1)) (-1) ji20) = some (r1, r2) := by first | (rw [hji20] at H; exact H) | (simp only [hji20] at H ⊢; exact H)
             (try rw [hji20] at A17)
             have hji20_ : (if 1099511627776 < (wrap64 ((wrap64 (x8_1 * 10)) + (((bt a0 x1_1) - 48) % 256))) then 1099511627776 else (wrap64 ((wrap64 (x8_1 * 10)) + (((bt a0 x1_1) - 48) % 256)))) = ji20 := hji20
             have H' := Aside0.mk H
             clear H
             have p16 : 0 ≤ (x1_1 : Int) := of_decide_eq_true qne3_
             have q16 : x1_1 < (a0.size : Int) := of_decide_eq_true qne3_
             have hx16 := bt_at a0 x1_1
             replace p16 := eq_true p16
             replace q16 := eq_true q16
             go_wp2_with (first | (go_at_call 68; (with_reducible refine (numeral_digit.calls (bt a0 x1_1) true _ A17.out).mono ?_); rintro e w' ⟨rfl, ⟨nd, rfl⟩⟩; have p19 : 0 ≤ (x1_1 : Int) := of_decide_eq_true qne3_; have q19 : x1_1 < (a0.size : Int) := of_decide_eq_true qne3_; have hx19 := bt_at a0 x1_1; replace p19 := eq_true p19; replace q19 := eq_true q19))
             go_roundg k1
             case measure => have := HK1.out; omega
             case rel => exact ⟨(wrap64 (x1_1 + 1)), (wrap64 (x1_1 + 1)), (ji20), qne2_, qne2_, (by first | rfl | (simp; done) | (simp only [← hji20] <;> (first | rfl | simp); done) | (simp [*]; done) | (simp; simp only [eq_iff_iff, iff_true] at *; omega) | (exfalso; simp_all; done)), H', ⟨by have := HK1.out; omega⟩, ⟨qne0_⟩⟩
            ·
             replace c18 := Bool.eq_false_iff.mpr c18
             subst c18
             have H1 : (some (wrap64 ((-1) * x8_1), x6_1)) = some (r1, r2) := by rw [if_neg (show ¬ (false = true) by decide)] at H; exact H
             clear H
             have H := H1
             clear H1
             simp only [Option.some.injEq, Prod.mk.injEq] at H
             obtain ⟨rfl, rfl⟩ := H
             have p16 : 0 ≤ (x1_1 : Int) := of_decide_eq_true qne3_
             have q16 : x1_1 < (a0.size : Int) := of_decide_eq_true qne3_
             have hx16 := bt_at a0 x1_1
             replace p16 := eq_true p16
             replace q16 := eq_true q16
             go_wp2_with (first | (go_at_call 68; (with_reducible refine (numeral_digit.calls (bt a0 x1_1) false _ A17.out).mono ?_); rintro e w' ⟨rfl, ⟨nd, rfl⟩⟩))
             go_ret2
             exact ⟨qne37_, qne0_⟩
           ·
            rw [if_neg c15] at H
            exact absurd H (by simp)
          ·
           rw [if_neg c14] at H
           have c14b0 : decide (x1_1 < (a0.size : Int)) = false := decide_eq_false c14
           clear c14
           simp only [Option.some.injEq, Prod.mk.injEq] at H
           obtain ⟨rfl, rfl⟩ := H
           go_wp2
           go_ret2
           exact ⟨qne37_, qne0_⟩
       ·
        rw [if_neg c12] at H
        have c12b0 : ((bt a0 (ji9)) == 45) = false := beq_eq_false_iff_ne.mpr c12
        have c12b1 : ((bt a0 (ji9)) != 45) = true := bne_iff_ne.mpr c12
        by_cases c22 : (bt a0 (ji9)) = 43
        ·
         rw [if_pos c22] at H
         have c22b0 : ((bt a0 (ji9)) == 43) = true := beq_iff_eq.mpr c22
         have c22b1 : ((bt a0 (ji9)) != 43) = false := bne_eq_false_iff_eq.mpr c22
         clear c22
         have H' := Aside0.mk H
         clear H
         have p6 : 0 ≤ (a1 : Int) := of_decide_eq_true qne3_
         have q6 : a1 < (a0.size : Int) := of_decide_eq_true qne3_
         have hx6 := bt_at a0 a1
         replace p6 := eq_true p6
         replace q6 := eq_true q6
         have p11 : 0 ≤ ((ji9) : Int) := of_decide_eq_true qne3_
         have q11 : (ji9) < (a0.size : Int) := of_decide_eq_true qne3_
         have hx11 := bt_at a0 (ji9)
         replace p11 := eq_true p11
         replace q11 := eq_true q11
         have p21 : 0 ≤ ((ji9) : Int) := of_decide_eq_true qne3_
         have q21 : (ji9) < (a0.size : Int) := of_decide_eq_true qne3_
         have hx21 := bt_at a0 (ji9)
         replace p21 := eq_true p21
         replace q21 := eq_true q21
         have p23 : 0 ≤ ((ji9) : Int) := of_decide_eq_true qne3_
         have q23 : (ji9) < (a0.size : Int) := of_decide_eq_true qne3_
         have hx23 := bt_at a0 (ji9)
         replace p23 := eq_true p23
         replace q23 := eq_true q23
         go_enter Tryd.func37, Tryd.ntmps37
         go_wp2
         go_loopg [1, 6, 8] k (fun kq v1 v6 v8 w' => ∃ (x1_1 : Int) (x6_1 : Int) (x8_1 : Int), v1 = .int .i64 x1_1 ∧ v6 = .int .i64 x6_1 ∧ v8 = .int .i64 x8_1 ∧ Aside0 (numeral_exponent.l0 kq a0 x1_1 x6_1 1 x8_1 = some (r1, r2)) ∧ Aside0 (kq ≤ k) ∧ Aside0 (Below w.heap.size w w'))
         case atStart => exact ⟨(wrap64 ((ji9) + 1)), (a1), (0), qne51_, qne2_, qne2_, H', ⟨Nat.le_refl _⟩, ⟨qne0_⟩⟩
         case round =>
          clear H'
          (try clear c1); (try clear p1); (try clear q1); (try clear hx1); (try clear c2); (try clear p2); (try clear q2); (try clear hx2); (try clear c3); (try clear c3b0); (try clear c3b1); (try clear c4); (try clear c4b0); (try clear c5); (try clear c5b0); (try clear p6); (try clear q6); (try clear hx6); (try clear c7); (try clear c7b0); (try clear c7b1); (try clear c8); (try clear c8b0); (try clear c10)
          (try clear c10b0); (try clear p11); (try clear q11); (try clear hx11); (try clear c12); (try clear c12b0); (try clear c12b1); (try clear p13); (try clear q13); (try clear hx13); (try clear c14); (try clear c14b0); (try clear c15); (try clear c15b0); (try clear p16); (try clear q16); (try clear hx16); (try clear c18); (try clear p19); (try clear q19); (try clear hx19); (try clear p21); (try clear q21)
          (try clear hx21); (try clear c22); (try clear c22b0); (try clear c22b1); (try clear p23); (try clear q23); (try clear hx23); (try clear p1); (try clear p11); (try clear p13); (try clear p16); (try clear p19); (try clear p2); (try clear p21); (try clear p23); (try clear p6); (try clear q1); (try clear q11); (try clear q13); (try clear q16); (try clear q19); (try clear q21); (try clear q23)
          (try clear q6)
          obtain ⟨x1_1, x6_1, x8_1, rfl, rfl, rfl, HA, HK1, HB⟩ := hrel
          cases gk with
          | zero => exact absurd HA.out (by simp [numeral_exponent.l0])
          | succ k1 =>
           have H := HA.out
           clear HA
           simp only [numeral_exponent.l0] at H
           by_cases c24 : x1_1 < (a0.size : Int)
           ·
            rw [if_pos c24] at H
            have c24b0 : decide (x1_1 < (a0.size : Int)) = true := decide_eq_true c24
            clear c24
            by_cases c25 : 0 ≤ x1_1
            ·
             rw [if_pos c25] at H
             have c25b0 : decide (0 ≤ x1_1) = true := decide_eq_true c25
             clear c25
             replace H := Option.bind_eq_some_iff.mp H
             obtain ⟨t140, A270, H⟩ := H
             replace H : (if t140 = true then (numeral_exponent.l0 k1 a0 (wrap64 (x1_1 + 1)) (wrap64 (x1_1 + 1)) 1 (mn (wrap64 ((wrap64 (x8_1 * 10)) + (((bt a0 x1_1) - 48) % 256))) 1099511627776)) else (some (wrap64 (1 * x8_1), x6_1))) = some (r1, r2) := H
             have A27 := Aside0.mk A270
             clear A270
             by_cases c28 : t140 = true
             ·
              subst c28
              have H1 : (numeral_exponent.l0 k1 a0 (wrap64 (x1_1 + 1)) (wrap64 (x1_1 + 1)) 1 (mn (wrap64 ((wrap64 (x8_1 * 10)) + (((bt a0 x1_1) - 48) % 256))) 1099511627776)) = some (r1, r2) := by rw [if_pos rfl] at H; exact H
              clear H
              have H := H1
              clear H1
              obtain ⟨ji30, hji30⟩ : ∃ j_ : Int, (mn (wrap64 ((wrap64 (x8_1 * 10)) + (((bt a0 x1_1) - 48) % 256))) 1099511627776) = j_ := ⟨_, rfl⟩
              replace H : (numeral_exponent.l0 k1 a0 (wrap64 (x1_1 + 1)) (wrap64 (x1_1 + 1)) 1 ji30) = some (r1, r2) := by first | (rw [hji30] at H; exact H) | (simp only [hji30] at H ⊢; exact H)
              (try rw [hji30] at A27)
              have hji30_ : (if 1099511627776 < (wrap64 ((wrap64 (x8_1 * 10)) + (((bt a0 x1_1) - 48) % 256))) then 1099511627776 else (wrap64 ((wrap64 (x8_1 * 10)) + (((bt a0 x1_1) - 48) % 256)))) = ji30 := hji30
              have H' := Aside0.mk H
              clear H
              have p26 : 0 ≤ (x1_1 : Int) := of_decide_eq_true qne3_
              have q26 : x1_1 < (a0.size : Int) := of_decide_eq_true qne3_
              have hx26 := bt_at a0 x1_1
              replace p26 := eq_true p26
              replace q26 := eq_true q26
              go_wp2_with (first | (go_at_call 68; (with_reducible refine (numeral_digit.calls (bt a0 x1_1) true _ A27.out).mono ?_); rintro e w' ⟨rfl, ⟨nd, rfl⟩⟩; have p29 : 0 ≤ (x1_1 : Int) := of_decide_eq_true qne3_; have q29 : x1_1 < (a0.size : Int) := of_decide_eq_true qne3_; have hx29 := bt_at a0 x1_1; replace p29 := eq_true p29; replace q29 := eq_true q29))
              go_roundg k1
              case measure => have := HK1.out; omega
              case rel => exact ⟨(wrap64 (x1_1 + 1)), (wrap64 (x1_1 + 1)), (ji30), qne2_, qne2_, (by first | rfl | (simp; done) | (simp only [← hji30] <;> (first | rfl | simp); done) | (simp [*]; done) | (simp; simp only [eq_iff_iff, iff_true] at *; omega) | (exfalso; simp_all; done)), H', ⟨by have := HK1.out; omega⟩, ⟨qne0_⟩⟩
             ·
              replace c28 := Bool.eq_false_iff.mpr c28
              subst c28
              have H1 : (some (wrap64 (1 * x8_1), x6_1)) = some (r1, r2) := by rw [if_neg (show ¬ (false = true) by decide)] at H; exact H
              clear H
              have H := H1
              clear H1
              simp only [Option.some.injEq, Prod.mk.injEq] at H
              obtain ⟨rfl, rfl⟩ := H
              have p26 : 0 ≤ (x1_1 : Int) := of_decide_eq_true qne3_
              have q26 : x1_1 < (a0.size : Int) := of_decide_eq_true qne3_
              have hx26 := bt_at a0 x1_1
              replace p26 := eq_true p26
              replace q26 := eq_true q26
              go_wp2_with (first | (go_at_call 68; (with_reducible refine (numeral_digit.calls (bt a0 x1_1) false _ A27.out).mono ?_); rintro e w' ⟨rfl, ⟨nd, rfl⟩⟩))
              go_ret2
              exact ⟨qne37_, qne0_⟩
            ·
             rw [if_neg c25] at H
             exact absurd H (by simp)
           ·
            rw [if_neg c24] at H
            have c24b0 : decide (x1_1 < (a0.size : Int)) = false := decide_eq_false c24
            clear c24
            simp only [Option.some.injEq, Prod.mk.injEq] at H
            obtain ⟨rfl, rfl⟩ := H
            go_wp2
            go_ret2
            exact ⟨qne37_, qne0_⟩
        ·
         rw [if_neg c22] at H
         have c22b0 : ((bt a0 (ji9)) == 43) = false := beq_eq_false_iff_ne.mpr c22
         have c22b1 : ((bt a0 (ji9)) != 43) = true := bne_iff_ne.mpr c22
         have H' := Aside0.mk H
         clear H
         have p6 : 0 ≤ (a1 : Int) := of_decide_eq_true qne3_
         have q6 : a1 < (a0.size : Int) := of_decide_eq_true qne3_
         have hx6 := bt_at a0 a1
         replace p6 := eq_true p6
         replace q6 := eq_true q6
         have p11 : 0 ≤ ((ji9) : Int) := of_decide_eq_true qne3_
         have q11 : (ji9) < (a0.size : Int) := of_decide_eq_true qne3_
         have hx11 := bt_at a0 (ji9)
         replace p11 := eq_true p11
         replace q11 := eq_true q11
         have p21 : 0 ≤ ((ji9) : Int) := of_decide_eq_true qne3_
         have q21 : (ji9) < (a0.size : Int) := of_decide_eq_true qne3_
         have hx21 := bt_at a0 (ji9)
         replace p21 := eq_true p21
         replace q21 := eq_true q21
         go_enter Tryd.func37, Tryd.ntmps37
         go_wp2
         go_loopg [1, 6, 8] k (fun kq v1 v6 v8 w' => ∃ (x1_1 : Int) (x6_1 : Int) (x8_1 : Int), v1 = .int .i64 x1_1 ∧ v6 = .int .i64 x6_1 ∧ v8 = .int .i64 x8_1 ∧ Aside0 (numeral_exponent.l0 kq a0 x1_1 x6_1 1 x8_1 = some (r1, r2)) ∧ Aside0 (kq ≤ k) ∧ Aside0 (Below w.heap.size w w'))
         case atStart => exact ⟨(ji9), (a1), (0), qne51_, qne2_, qne2_, H', ⟨Nat.le_refl _⟩, ⟨qne0_⟩⟩
         case round =>
          clear H'
          (try clear c1); (try clear p1); (try clear q1); (try clear hx1); (try clear c2); (try clear p2); (try clear q2); (try clear hx2); (try clear c3); (try clear c3b0); (try clear c3b1); (try clear c4); (try clear c4b0); (try clear c5); (try clear c5b0); (try clear p6); (try clear q6); (try clear hx6); (try clear c7); (try clear c7b0); (try clear c7b1); (try clear c8); (try clear c8b0); (try clear c10)
          (try clear c10b0); (try clear p11); (try clear q11); (try clear hx11); (try clear c12); (try clear c12b0); (try clear c12b1); (try clear p13); (try clear q13); (try clear hx13); (try clear c14); (try clear c14b0); (try clear c15); (try clear c15b0); (try clear p16); (try clear q16); (try clear hx16); (try clear c18); (try clear p19); (try clear q19); (try clear hx19); (try clear p21); (try clear q21)
          (try clear hx21); (try clear c22); (try clear c22b0); (try clear c22b1); (try clear p23); (try clear q23); (try clear hx23); (try clear c24); (try clear c24b0); (try clear c25); (try clear c25b0); (try clear p26); (try clear q26); (try clear hx26); (try clear c28); (try clear p29); (try clear q29); (try clear hx29); (try clear p1); (try clear p11); (try clear p13); (try clear p16); (try clear p19)
          (try clear p2); (try clear p21); (try clear p23); (try clear p26); (try clear p29); (try clear p6); (try clear q1); (try clear q11); (try clear q13); (try clear q16); (try clear q19); (try clear q2); (try clear q21); (try clear q23); (try clear q26); (try clear q29); (try clear q6)
          obtain ⟨x1_1, x6_1, x8_1, rfl, rfl, rfl, HA, HK1, HB⟩ := hrel
          cases gk with
          | zero => exact absurd HA.out (by simp [numeral_exponent.l0])
          | succ k1 =>
           have H := HA.out
           clear HA
           simp only [numeral_exponent.l0] at H
           by_cases c31 : x1_1 < (a0.size : Int)
           ·
            rw [if_pos c31] at H
            have c31b0 : decide (x1_1 < (a0.size : Int)) = true := decide_eq_true c31
            clear c31
            by_cases c32 : 0 ≤ x1_1
            ·
             rw [if_pos c32] at H
             have c32b0 : decide (0 ≤ x1_1) = true := decide_eq_true c32
             clear c32
             replace H := Option.bind_eq_some_iff.mp H
             obtain ⟨t140, A340, H⟩ := H
             replace H : (if t140 = true then (numeral_exponent.l0 k1 a0 (wrap64 (x1_1 + 1)) (wrap64 (x1_1 + 1)) 1 (mn (wrap64 ((wrap64 (x8_1 * 10)) + (((bt a0 x1_1) - 48) % 256))) 1099511627776)) else (some (wrap64 (1 * x8_1), x6_1))) = some (r1, r2) := H
             have A34 := Aside0.mk A340
             clear A340
             by_cases c35 : t140 = true
             ·
              subst c35
              have H1 : (numeral_exponent.l0 k1 a0 (wrap64 (x1_1 + 1)) (wrap64 (x1_1 + 1)) 1 (mn (wrap64 ((wrap64 (x8_1 * 10)) + (((bt a0 x1_1) - 48) % 256))) 1099511627776)) = some (r1, r2) := by rw [if_pos rfl] at H; exact H
              clear H
              have H := H1
              clear H1
              obtain ⟨ji37, hji37⟩ : ∃ j_ : Int, (mn (wrap64 ((wrap64 (x8_1 * 10)) + (((bt a0 x1_1) - 48) % 256))) 1099511627776) = j_ := ⟨_, rfl⟩
              replace H : (numeral_exponent.l0 k1 a0 (wrap64 (x1_1 + 1)) (wrap64 (x1_1 + 1)) 1 ji37) = some (r1, r2) := by first | (rw [hji37] at H; exact H) | (simp only [hji37] at H ⊢; exact H)
              (try rw [hji37] at A34)
              have hji37_ : (if 1099511627776 < (wrap64 ((wrap64 (x8_1 * 10)) + (((bt a0 x1_1) - 48) % 256))) then 1099511627776 else (wrap64 ((wrap64 (x8_1 * 10)) + (((bt a0 x1_1) - 48) % 256)))) = ji37 := hji37
              have H' := Aside0.mk H
              clear H
              have p33 : 0 ≤ (x1_1 : Int) := of_decide_eq_true qne3_
              have q33 : x1_1 < (a0.size : Int) := of_decide_eq_true qne3_
              have hx33 := bt_at a0 x1_1
              replace p33 := eq_true p33
              replace q33 := eq_true q33
              go_wp2_with (first | (go_at_call 68; (with_reducible refine (numeral_digit.calls (bt a0 x1_1) true _ A34.out).mono ?_); rintro e w' ⟨rfl, ⟨nd, rfl⟩⟩; have p36 : 0 ≤ (x1_1 : Int) := of_decide_eq_true qne3_; have q36 : x1_1 < (a0.size : Int) := of_decide_eq_true qne3_; have hx36 := bt_at a0 x1_1; replace p36 := eq_true p36; replace q36 := eq_true q36))
              go_roundg k1
              case measure => have := HK1.out; omega
              case rel => exact ⟨(wrap64 (x1_1 + 1)), (wrap64 (x1_1 + 1)), (ji37), qne2_, qne2_, (by first | rfl | (simp; done) | (simp only [← hji37] <;> (first | rfl | simp); done) | (simp [*]; done) | (simp; simp only [eq_iff_iff, iff_true] at *; omega) | (exfalso; simp_all; done)), H', ⟨by have := HK1.out; omega⟩, ⟨qne0_⟩⟩
             ·
              replace c35 := Bool.eq_false_iff.mpr c35
              subst c35
              have H1 : (some (wrap64 (1 * x8_1), x6_1)) = some (r1, r2) := by rw [if_neg (show ¬ (false = true) by decide)] at H; exact H
              clear H
              have H := H1
              clear H1
              simp only [Option.some.injEq, Prod.mk.injEq] at H
              obtain ⟨rfl, rfl⟩ := H
              have p33 : 0 ≤ (x1_1 : Int) := of_decide_eq_true qne3_
              have q33 : x1_1 < (a0.size : Int) := of_decide_eq_true qne3_
              have hx33 := bt_at a0 x1_1
              replace p33 := eq_true p33
              replace q33 := eq_true q33
              go_wp2_with (first | (go_at_call 68; (with_reducible refine (numeral_digit.calls (bt a0 x1_1) false _ A34.out).mono ?_); rintro e w' ⟨rfl, ⟨nd, rfl⟩⟩))
              go_ret2
              exact ⟨qne37_, qne0_⟩
            ·
             rw [if_neg c32] at H
             exact absurd H (by simp)
           ·
            rw [if_neg c31] at H
            have c31b0 : decide (x1_1 < (a0.size : Int)) = false := decide_eq_false c31
            clear c31
            simp only [Option.some.injEq, Prod.mk.injEq] at H
            obtain ⟨rfl, rfl⟩ := H
            go_wp2
            go_ret2
            exact ⟨qne37_, qne0_⟩
      ·
       rw [if_neg c10] at H
       exact absurd H (by simp)
     ·
      rw [if_neg c8] at H
      have c8b0 : decide ((wrap64 (a1 + 1)) < (a0.size : Int)) = false := decide_eq_false c8
      clear c8
      have H' := Aside0.mk H
      clear H
      have p6 : 0 ≤ (a1 : Int) := of_decide_eq_true qne3_
      have q6 : a1 < (a0.size : Int) := of_decide_eq_true qne3_
      have hx6 := bt_at a0 a1
      replace p6 := eq_true p6
      replace q6 := eq_true q6
      go_enter Tryd.func37, Tryd.ntmps37
      go_wp2
      go_loopg [1, 6, 8] k (fun kq v1 v6 v8 w' => ∃ (x1_1 : Int) (x6_1 : Int) (x8_1 : Int), v1 = .int .i64 x1_1 ∧ v6 = .int .i64 x6_1 ∧ v8 = .int .i64 x8_1 ∧ Aside0 (numeral_exponent.l0 kq a0 x1_1 x6_1 1 x8_1 = some (r1, r2)) ∧ Aside0 (kq ≤ k) ∧ Aside0 (Below w.heap.size w w'))
      case atStart => exact ⟨(wrap64 (a1 + 1)), (a1), (0), qne2_, qne2_, qne2_, H', ⟨Nat.le_refl _⟩, ⟨qne0_⟩⟩
      case round =>
       clear H'
       (try clear c1); (try clear p1); (try clear q1); (try clear hx1); (try clear c2); (try clear p2); (try clear q2); (try clear hx2); (try clear c3); (try clear c3b0); (try clear c3b1); (try clear p3); (try clear q3); (try clear hx3); (try clear c4); (try clear c4b0); (try clear c5); (try clear c5b0); (try clear p6); (try clear q6); (try clear hx6); (try clear c7); (try clear c7b0); (try clear c7b1)
       (try clear c8); (try clear c8b0); (try clear c10); (try clear c10b0); (try clear p11); (try clear q11); (try clear hx11); (try clear c12); (try clear c12b0); (try clear c12b1); (try clear p13); (try clear q13); (try clear hx13); (try clear c14); (try clear c14b0); (try clear c15); (try clear c15b0); (try clear p16); (try clear q16); (try clear hx16); (try clear c18); (try clear p19); (try clear q19)
       (try clear hx19); (try clear p21); (try clear q21); (try clear hx21); (try clear c22); (try clear c22b0); (try clear c22b1); (try clear p23); (try clear q23); (try clear hx23); (try clear c24); (try clear c24b0); (try clear c25); (try clear c25b0); (try clear p26); (try clear q26); (try clear hx26); (try clear c28); (try clear p29); (try clear q29); (try clear hx29); (try clear c31); (try clear c31b0)
       (try clear c32); (try clear c32b0); (try clear p33); (try clear q33); (try clear hx33); (try clear c35); (try clear p36); (try clear q36); (try clear hx36); (try clear c37); (try clear p1); (try clear p11); (try clear p13); (try clear p16); (try clear p19); (try clear p2); (try clear p21); (try clear p23); (try clear p26); (try clear p29); (try clear p33); (try clear p36); (try clear p6); (try clear q1)
       (try clear q11); (try clear q13); (try clear q16); (try clear q19); (try clear q2); (try clear q21); (try clear q23); (try clear q26); (try clear q29); (try clear q33); (try clear q36); (try clear q6)
       obtain ⟨x1_1, x6_1, x8_1, rfl, rfl, rfl, HA, HK1, HB⟩ := hrel
       cases gk with
       | zero => exact absurd HA.out (by simp [numeral_exponent.l0])
       | succ k1 =>
        have H := HA.out
        clear HA
        simp only [numeral_exponent.l0] at H
        by_cases c38 : x1_1 < (a0.size : Int)
        ·
         rw [if_pos c38] at H
         have c38b0 : decide (x1_1 < (a0.size : Int)) = true := decide_eq_true c38
         clear c38
         by_cases c39 : 0 ≤ x1_1
         ·
          rw [if_pos c39] at H
          have c39b0 : decide (0 ≤ x1_1) = true := decide_eq_true c39
          clear c39
          replace H := Option.bind_eq_some_iff.mp H
          obtain ⟨t140, A410, H⟩ := H
          replace H : (if t140 = true then (numeral_exponent.l0 k1 a0 (wrap64 (x1_1 + 1)) (wrap64 (x1_1 + 1)) 1 (mn (wrap64 ((wrap64 (x8_1 * 10)) + (((bt a0 x1_1) - 48) % 256))) 1099511627776)) else (some (wrap64 (1 * x8_1), x6_1))) = some (r1, r2) := H
          have A41 := Aside0.mk A410
          clear A410
          by_cases c42 : t140 = true
          ·
           subst c42
           have H1 : (numeral_exponent.l0 k1 a0 (wrap64 (x1_1 + 1)) (wrap64 (x1_1 + 1)) 1 (mn (wrap64 ((wrap64 (x8_1 * 10)) + (((bt a0 x1_1) - 48) % 256))) 1099511627776)) = some (r1, r2) := by rw [if_pos rfl] at H; exact H
           clear H
           have H := H1
           clear H1
           obtain ⟨ji44, hji44⟩ : ∃ j_ : Int, (mn (wrap64 ((wrap64 (x8_1 * 10)) + (((bt a0 x1_1) - 48) % 256))) 1099511627776) = j_ := ⟨_, rfl⟩
           replace H : (numeral_exponent.l0 k1 a0 (wrap64 (x1_1 + 1)) (wrap64 (x1_1 + 1)) 1 ji44) = some (r1, r2) := by first | (rw [hji44] at H; exact H) | (simp only [hji44] at H ⊢; exact H)
           (try rw [hji44] at A41)
           have hji44_ : (if 1099511627776 < (wrap64 ((wrap64 (x8_1 * 10)) + (((bt a0 x1_1) - 48) % 256))) then 1099511627776 else (wrap64 ((wrap64 (x8_1 * 10)) + (((bt a0 x1_1) - 48) % 256)))) = ji44 := hji44
           have H' := Aside0.mk H
           clear H
           have p40 : 0 ≤ (x1_1 : Int) := of_decide_eq_true qne3_
           have q40 : x1_1 < (a0.size : Int) := of_decide_eq_true qne3_
           have hx40 := bt_at a0 x1_1
           replace p40 := eq_true p40
           replace q40 := eq_true q40
           go_wp2_with (first | (go_at_call 68; (with_reducible refine (numeral_digit.calls (bt a0 x1_1) true _ A41.out).mono ?_); rintro e w' ⟨rfl, ⟨nd, rfl⟩⟩; have p43 : 0 ≤ (x1_1 : Int) := of_decide_eq_true qne3_; have q43 : x1_1 < (a0.size : Int) := of_decide_eq_true qne3_; have hx43 := bt_at a0 x1_1; replace p43 := eq_true p43; replace q43 := eq_true q43))
           go_roundg k1
           case measure => have := HK1.out; omega
           case rel => exact ⟨(wrap64 (x1_1 + 1)), (wrap64 (x1_1 + 1)), (ji44), qne2_, qne2_, (by first | rfl | (simp; done) | (simp only [← hji44] <;> (first | rfl | simp); done) | (simp [*]; done) | (simp; simp only [eq_iff_iff, iff_true] at *; omega) | (exfalso; simp_all; done)), H', ⟨by have := HK1.out; omega⟩, ⟨qne0_⟩⟩
          ·
           replace c42 := Bool.eq_false_iff.mpr c42
           subst c42
           have H1 : (some (wrap64 (1 * x8_1), x6_1)) = some (r1, r2) := by rw [if_neg (show ¬ (false = true) by decide)] at H; exact H
           clear H
           have H := H1
           clear H1
           simp only [Option.some.injEq, Prod.mk.injEq] at H
           obtain ⟨rfl, rfl⟩ := H
           have p40 : 0 ≤ (x1_1 : Int) := of_decide_eq_true qne3_
           have q40 : x1_1 < (a0.size : Int) := of_decide_eq_true qne3_
           have hx40 := bt_at a0 x1_1
           replace p40 := eq_true p40
           replace q40 := eq_true q40
           go_wp2_with (first | (go_at_call 68; (with_reducible refine (numeral_digit.calls (bt a0 x1_1) false _ A41.out).mono ?_); rintro e w' ⟨rfl, ⟨nd, rfl⟩⟩))
           go_ret2
           exact ⟨qne5_, qne0_⟩
         ·
          rw [if_neg c39] at H
          exact absurd H (by simp)
        ·
         rw [if_neg c38] at H
         have c38b0 : decide (x1_1 < (a0.size : Int)) = false := decide_eq_false c38
         clear c38
         simp only [Option.some.injEq, Prod.mk.injEq] at H
         obtain ⟨rfl, rfl⟩ := H
         go_wp2
         go_ret2
         exact ⟨qne5_, qne0_⟩
    ·
     rw [if_neg c7] at H
     have c7b0 : ((Go.bits .or .u8 (bt a0 a1) 32) == 101) = false := beq_eq_false_iff_ne.mpr c7
     have c7b1 : ((Go.bits .or .u8 (bt a0 a1) 32) != 101) = true := bne_iff_ne.mpr c7
     simp only [Option.some.injEq, Prod.mk.injEq] at H
     obtain ⟨rfl, rfl⟩ := H
     have p6 : 0 ≤ (a1 : Int) := of_decide_eq_true qne3_
     have q6 : a1 < (a0.size : Int) := of_decide_eq_true qne3_
     have hx6 := bt_at a0 a1
     replace p6 := eq_true p6
     replace q6 := eq_true q6
     go_enter Tryd.func37, Tryd.ntmps37
     go_wp2
     go_ret2
     exact ⟨qne5_, qne0_⟩
   ·
    rw [if_neg c5] at H
    exact absurd H (by simp)
  ·
   rw [if_neg c4] at H
   exact absurd H (by simp)


/-! ### strings_trimLeftByte: function 88 -/
def strings_trimLeftByte.l0 : Nat → ByteArray → Int → Option (ByteArray)
 | 0, _, _ => none
 | k + 1, x0, x1 => if (x0.size : Int) > 0 then (if 0 < (x0.size : Int) then (if (bt x0 0) = x1 then (if 1 ≤ (x0.size : Int) then (strings_trimLeftByte.l0 k (x0.extract 1 x0.size) x1) else (none)) else (some x0)) else (none)) else (some x0)
def strings_trimLeftByte.f (k : Nat) (a0 : ByteArray) (a1 : Int) : Option (ByteArray) := strings_trimLeftByte.l0 k a0 a1
set_option maxHeartbeats 8000000 in
set_option maxRecDepth 100000 in
theorem strings_trimLeftByte.calls (k : Nat) (a0 : ByteArray) (a1 : Int) (r : ByteArray) (w : World) (h : strings_trimLeftByte.f k a0 a1 = some r) :
  Calls Tryd.prog 88 #[.string a0, .int .u8 a1] w fun e w' => e = .returned (.string r) ∧ Drawn0 w w' := by
 have H : (strings_trimLeftByte.l0 k a0 a1) = some r := h
 clear h
 have H' := Aside0.mk H
 clear H
 go_enter Tryd.func88, Tryd.ntmps88
 go_wp2
 go_loopg [0] k (fun kq v0 w' => ∃ (x0_1 : ByteArray), v0 = .string x0_1 ∧ Aside0 (strings_trimLeftByte.l0 kq x0_1 a1 = some r) ∧ Aside0 (kq ≤ k) ∧ Drawn0 w w')
 case atStart => exact ⟨(a0), qne2_, H', ⟨Nat.le_refl _⟩, qne12_⟩
 case round =>
  clear H'
  (try clear p2)
  obtain ⟨x0_1, rfl, HA, HK1, ⟨m1, rfl⟩⟩ := hrel
  cases gk with
  | zero => exact absurd HA.out (by simp [strings_trimLeftByte.l0])
  | succ k1 =>
   have H := HA.out
   clear HA
   simp only [strings_trimLeftByte.l0] at H
   by_cases c3 : (x0_1.size : Int) > 0
   ·
    rw [if_pos c3] at H
    have c3b0 : decide (0 < (x0_1.size : Int)) = true := decide_eq_true c3
    have c3b1 : decide (0 < x0_1.size) = true := decide_eq_true (by omega)
    clear c3
    by_cases c4 : 0 < (x0_1.size : Int)
    ·
     rw [if_pos c4] at H
     have c4b0 : decide (0 < (x0_1.size : Int)) = true := decide_eq_true c4
     have c4b1 : decide (0 < x0_1.size) = true := decide_eq_true (by omega)
     clear c4
     by_cases c6 : (bt x0_1 0) = a1
     ·
      rw [if_pos c6] at H
      have c6b0 : ((bt x0_1 0) == a1) = true := beq_iff_eq.mpr c6
      have c6b1 : ((bt x0_1 0) != a1) = false := bne_eq_false_iff_eq.mpr c6
      clear c6
      by_cases c7 : 1 ≤ (x0_1.size : Int)
      ·
       rw [if_pos c7] at H
       have c7b0 := eq_true c7
       have c7b1 : decide (1 ≤ (x0_1.size : Int)) = true := decide_eq_true c7
       clear c7
       have H' := Aside0.mk H
       clear H
       have p5 : 0 ≤ (0 : Int) := (by omega)
       have q5 : 0 < x0_1.size := (by have : (0 : Int) < (x0_1.size : Int) := of_decide_eq_true qne3_; omega)
       have hx5 : ∀ h : 0 < x0_1.size, ((x0_1[0]'h).toNat : Int) = bt x0_1 0 := bt_at x0_1 0
       clear p5
       have qi5 : (0 < (x0_1.size : Int)) = True := eq_true (of_decide_eq_true qne3_)
       replace q5 := eq_true q5
       go_wp2
       go_roundg k1
       case measure => have := HK1.out; omega
       case rel => exact ⟨(x0_1.extract 1 x0_1.size), qne2_, H', ⟨by have := HK1.out; omega⟩, qne12_⟩
      ·
       rw [if_neg c7] at H
       exact absurd H (by simp)
     ·
      rw [if_neg c6] at H
      have c6b0 : ((bt x0_1 0) == a1) = false := beq_eq_false_iff_ne.mpr c6
      have c6b1 : ((bt x0_1 0) != a1) = true := bne_iff_ne.mpr c6
      obtain rfl := Option.some.inj H
      have p5 : 0 ≤ (0 : Int) := (by omega)
      have q5 : 0 < x0_1.size := (by have : (0 : Int) < (x0_1.size : Int) := of_decide_eq_true qne3_; omega)
      have hx5 : ∀ h : 0 < x0_1.size, ((x0_1[0]'h).toNat : Int) = bt x0_1 0 := bt_at x0_1 0
      clear p5
      have qi5 : (0 < (x0_1.size : Int)) = True := eq_true (of_decide_eq_true qne3_)
      replace q5 := eq_true q5
      go_wp2
      go_ret
      exact ⟨qne2_, qne12_⟩
    ·
     rw [if_neg c4] at H
     exact absurd H (by simp)
   ·
    rw [if_neg c3] at H
    have c3b0 : decide (0 < (x0_1.size : Int)) = false := decide_eq_false c3
    have c3b1 : decide (0 < x0_1.size) = false := decide_eq_false (by omega)
    clear c3
    obtain rfl := Option.some.inj H
    go_wp2
    go_ret
    exact ⟨qne2_, qne12_⟩


/-! ### strings_TrimLeft: function 66 -/
mutual
def strings_TrimLeft.j0 : Nat → ByteArray → ByteArray → Bool → Option (ByteArray)
 | 0, _, _, _ => none
 | k + 1, x0, x1, x12 => if x12 = true then (some x0) else (if (x1.size : Int) = 1 then (if 0 < (x1.size : Int) then (strings_TrimLeft.j1 k x0 x1 (decide ((bt x1 0) < 128))) else (none)) else (strings_TrimLeft.j1 k x0 x1 false))
def strings_TrimLeft.j1 : Nat → ByteArray → ByteArray → Bool → Option (ByteArray)
 | 0, _, _, _ => none
 | k + 1, x0, x1, x21 => if x21 = true then (if 0 < (x1.size : Int) then ((strings_trimLeftByte.f k x0 (bt x1 0)).bind fun t107 => (some t107)) else (none)) else (none)
end
def strings_TrimLeft.f (k : Nat) (a0 : ByteArray) (a1 : ByteArray) : Option (ByteArray) := if a0.toList = ([] : List UInt8) then (strings_TrimLeft.j0 k a0 a1 true) else (strings_TrimLeft.j0 k a0 a1 a1.toList.isEmpty)
set_option maxHeartbeats 8000000 in
set_option maxRecDepth 100000 in
theorem strings_TrimLeft.calls (k : Nat) (a0 : ByteArray) (a1 : ByteArray) (r : ByteArray) (w : World) (h : strings_TrimLeft.f k a0 a1 = some r) :
  Calls Tryd.prog 66 #[.string a0, .string a1] w fun e w' => e = .returned (.string r) ∧ Below w.heap.size w w' := by
 have HB := Aside0.mk (Below.refl w.heap.size w)
 have H : (if a0.toList = ([] : List UInt8) then (strings_TrimLeft.j0 k a0 a1 true) else (strings_TrimLeft.j0 k a0 a1 a1.toList.isEmpty)) = some r := h
 clear h
 have HC3 := Aside0.mk H
 clear H
 go_enter Tryd.func66, Tryd.ntmps66
 go_upto_region 1 with (fail)
 go_cut [12] (fun v12 wc => ∃ (kq : Nat) (x12_2 : Bool), v12 = .bool x12_2 ∧ Aside0 (strings_TrimLeft.j0 kq a0 a1 x12_2 = some r) ∧ Aside0 (kq ≤ k) ∧ Aside0 (Below w.heap.size w wc))
 case first =>
  have H := HC3.out
  clear HC3
  by_cases c4 : a0.toList = ([] : List UInt8)
  ·
   rw [if_pos c4] at H
   have c4b0 : (a0.toList == ([] : List UInt8)) = true := beq_iff_eq.mpr c4
   have c4b1 : (a0.toList != ([] : List UInt8)) = false := bne_eq_false_iff_eq.mpr c4
   clear c4
   (first | rw [c4b0] | (simp only [i64_w, i32_w]; rw [c4b0]) | skip)
   have H' := Aside0.mk H
   clear H
   go_wp2
   go_meet
   case rel => exact ⟨_, (true), qne2_, H', ⟨by first | omega | exact Nat.le_refl _⟩, ⟨qne0_⟩⟩
  ·
   rw [if_neg c4] at H
   have c4b0 : (a0.toList == ([] : List UInt8)) = false := beq_eq_false_iff_ne.mpr c4
   have c4b1 : (a0.toList != ([] : List UInt8)) = true := bne_iff_ne.mpr c4
   (first | rw [c4b0] | (simp only [i64_w, i32_w]; rw [c4b0]) | skip)
   have H' := Aside0.mk H
   clear H
   go_wp2
   go_meet
   case rel => exact ⟨_, (a1.toList.isEmpty), qne2_, H', ⟨by first | omega | exact Nat.le_refl _⟩, ⟨qne0_⟩⟩
 case rest =>
  clear HC3
  (try clear p2); (try clear c4); (try clear c4b0); (try clear c4b1)
  obtain ⟨kq, x12_2, rfl, HA, HJ2, HB⟩ := hcut
  cases kq with
  | zero => exact absurd HA.out (by simp [strings_TrimLeft.j0])
  | succ kj2 =>
   have H := HA.out
   clear HA
   simp only [strings_TrimLeft.j0] at H
   by_cases c5 : x12_2 = true
   ·
    subst c5
    have H1 : (some a0) = some r := by rw [if_pos rfl] at H; exact H
    clear H
    have H := H1
    clear H1
    obtain rfl := Option.some.inj H
    go_wp2
    go_ret
    exact ⟨qne5_, qne0_⟩
   ·
    replace c5 := Bool.eq_false_iff.mpr c5
    subst c5
    have H1 : (if (a1.size : Int) = 1 then (if 0 < (a1.size : Int) then (strings_TrimLeft.j1 kj2 a0 a1 (decide ((bt a1 0) < 128))) else (none)) else (strings_TrimLeft.j1 kj2 a0 a1 false)) = some r := by rw [if_neg (show ¬ (false = true) by decide)] at H; exact H
    clear H
    have H := H1
    clear H1
    have HC6 := Aside0.mk H
    clear H
    go_upto_region 3 with (fail)
    go_cut [21] (fun v21 wc => ∃ (kq : Nat) (x21_5 : Bool), v21 = .bool x21_5 ∧ Aside0 (strings_TrimLeft.j1 kq a0 a1 x21_5 = some r) ∧ Aside0 (kq ≤ kj2) ∧ Aside0 (Below w.heap.size w wc))
    case first =>
     have H := HC6.out
     clear HC6
     by_cases c7 : (a1.size : Int) = 1
     ·
      rw [if_pos c7] at H
      have c7b0 : ((a1.size : Int) == 1) = true := beq_iff_eq.mpr c7
      have c7b1 : ((a1.size : Int) != 1) = false := bne_eq_false_iff_eq.mpr c7
      clear c7
      (first | rw [c7b0] | (simp only [i64_w, i32_w]; rw [c7b0]) | skip)
      by_cases c8 : 0 < (a1.size : Int)
      ·
       rw [if_pos c8] at H
       have c8b0 : decide (0 < (a1.size : Int)) = true := decide_eq_true c8
       have c8b1 : decide (0 < a1.size) = true := decide_eq_true (by omega)
       clear c8
       have H' := Aside0.mk H
       clear H
       have p9 : 0 ≤ (0 : Int) := (by omega)
       have q9 : 0 < a1.size := qne59_
       have hx9 : ∀ h : 0 < a1.size, ((a1[0]'h).toNat : Int) = bt a1 0 := bt_at a1 0
       clear p9
       have qi9 : (0 < (a1.size : Int)) = True := eq_true (of_decide_eq_true qne3_)
       replace q9 := eq_true q9
       go_wp2
       go_meet
       case rel => exact ⟨_, (decide ((bt a1 0) < 128)), qne2_, H', ⟨by have := HJ2.out; first | omega | exact Nat.le_refl _⟩, ⟨qne0_⟩⟩
      ·
       rw [if_neg c8] at H
       exact absurd H (by simp)
     ·
      rw [if_neg c7] at H
      have c7b0 : ((a1.size : Int) == 1) = false := beq_eq_false_iff_ne.mpr c7
      have c7b1 : ((a1.size : Int) != 1) = true := bne_iff_ne.mpr c7
      (first | rw [c7b0] | (simp only [i64_w, i32_w]; rw [c7b0]) | skip)
      have H' := Aside0.mk H
      clear H
      go_wp2
      go_meet
      case rel => exact ⟨_, (false), qne2_, H', ⟨by have := HJ2.out; first | omega | exact Nat.le_refl _⟩, ⟨qne0_⟩⟩
    case rest =>
     clear HC6
     (try clear p2); (try clear c4); (try clear c4b0); (try clear c4b1); (try clear c5); (try clear c6); (try clear c7); (try clear c7b0); (try clear c7b1); (try clear c8); (try clear c8b0); (try clear c8b1); (try clear p9); (try clear q9); (try clear hx9); (try clear qi9); (try clear p2); (try clear p9); (try clear q9)
     obtain ⟨kq, x21_5, rfl, HA, HJ5, HB⟩ := hcut
     cases kq with
     | zero => exact absurd HA.out (by simp [strings_TrimLeft.j1])
     | succ kj5 =>
      have H := HA.out
      clear HA
      simp only [strings_TrimLeft.j1] at H
      by_cases c10 : x21_5 = true
      ·
       subst c10
       have H1 : (if 0 < (a1.size : Int) then ((strings_trimLeftByte.f kj5 a0 (bt a1 0)).bind fun t107 => (some t107)) else (none)) = some r := by rw [if_pos rfl] at H; exact H
       clear H
       have H := H1
       clear H1
       by_cases c11 : 0 < (a1.size : Int)
       ·
        rw [if_pos c11] at H
        have c11b0 : decide (0 < (a1.size : Int)) = true := decide_eq_true c11
        have c11b1 : decide (0 < a1.size) = true := decide_eq_true (by omega)
        clear c11
        replace H := Option.bind_eq_some_iff.mp H
        obtain ⟨t107, A130, H⟩ := H
        replace H : (some t107) = some r := H
        have A13 := Aside0.mk A130
        clear A130
        obtain rfl := Option.some.inj H
        have p12 : 0 ≤ (0 : Int) := (by omega)
        have q12 : 0 < a1.size := qne59_
        have hx12 : ∀ h : 0 < a1.size, ((a1[0]'h).toNat : Int) = bt a1 0 := bt_at a1 0
        clear p12
        have qi12 : (0 < (a1.size : Int)) = True := eq_true (of_decide_eq_true qne3_)
        replace q12 := eq_true q12
        go_wp2_with (first | ((with_reducible refine gate_callee (f := 88) rfl ?_); refine goesL_ (some 25) rfl rfl Tryd.func88 (by kernel_rfl) rfl #[.string a0, .int .u8 (bt a1 0)] rfl qne1_ ?_; (with_reducible refine (strings_trimLeftByte.calls kj5 a0 (bt a1 0) t107 _ A13.out).mono ?_); rintro e w' ⟨rfl, ⟨nd, rfl⟩⟩; refine ⟨_, rfl, ?_⟩))
        go_ret
        exact ⟨qne5_, qne0_⟩
       ·
        rw [if_neg c11] at H
        exact absurd H (by simp)
      ·
       replace c10 := Bool.eq_false_iff.mpr c10
       subst c10
       have H1 : (none) = some r := by rw [if_neg (show ¬ (false = true) by decide)] at H; exact H
       clear H
       have H := H1
       clear H1
       exact absurd H (by simp)


/-! ### strings_trimRightByte: function 92 -/
def strings_trimRightByte.l0 : Nat → ByteArray → Int → Option (ByteArray)
 | 0, _, _ => none
 | k + 1, x0, x1 => if (x0.size : Int) > 0 then (if 0 ≤ (wrap64 ((x0.size : Int) - 1)) then (if (wrap64 ((x0.size : Int) - 1)) < (x0.size : Int) then (if (bt x0 (wrap64 ((x0.size : Int) - 1))) = x1 then (if (wrap64 ((x0.size : Int) - 1)) ≤ (x0.size : Int) then (strings_trimRightByte.l0 k (x0.extract 0 ((wrap64 ((x0.size : Int) - 1)) : Int).toNat) x1) else (none)) else (some x0)) else (none)) else (none)) else (some x0)
def strings_trimRightByte.f (k : Nat) (a0 : ByteArray) (a1 : Int) : Option (ByteArray) := strings_trimRightByte.l0 k a0 a1
set_option maxHeartbeats 8000000 in
set_option maxRecDepth 100000 in
theorem strings_trimRightByte.calls (k : Nat) (a0 : ByteArray) (a1 : Int) (r : ByteArray) (w : World) (h : strings_trimRightByte.f k a0 a1 = some r) :
  Calls Tryd.prog 92 #[.string a0, .int .u8 a1] w fun e w' => e = .returned (.string r) ∧ Drawn0 w w' := by
 have H : (strings_trimRightByte.l0 k a0 a1) = some r := h
 clear h
 have H' := Aside0.mk H
 clear H
 go_enter Tryd.func92, Tryd.ntmps92
 go_wp2
 go_loopg [0] k (fun kq v0 w' => ∃ (x0_1 : ByteArray), v0 = .string x0_1 ∧ Aside0 (strings_trimRightByte.l0 kq x0_1 a1 = some r) ∧ Aside0 (kq ≤ k) ∧ Drawn0 w w')
 case atStart => exact ⟨(a0), qne2_, H', ⟨Nat.le_refl _⟩, qne12_⟩
 case round =>
  clear H'
  (try clear p2)
  obtain ⟨x0_1, rfl, HA, HK1, ⟨m1, rfl⟩⟩ := hrel
  cases gk with
  | zero => exact absurd HA.out (by simp [strings_trimRightByte.l0])
  | succ k1 =>
   have H := HA.out
   clear HA
   simp only [strings_trimRightByte.l0] at H
   by_cases c3 : (x0_1.size : Int) > 0
   ·
    rw [if_pos c3] at H
    have c3b0 : decide (0 < (x0_1.size : Int)) = true := decide_eq_true c3
    have c3b1 : decide (0 < x0_1.size) = true := decide_eq_true (by omega)
    clear c3
    obtain ⟨ji4, hji4⟩ : ∃ j_ : Int, (wrap64 ((x0_1.size : Int) - 1)) = j_ := ⟨_, rfl⟩
    replace H : (if 0 ≤ (ji4) then (if (ji4) < (x0_1.size : Int) then (if (bt x0_1 (ji4)) = a1 then (if (ji4) ≤ (x0_1.size : Int) then (strings_trimRightByte.l0 k1 (x0_1.extract 0 ((ji4) : Int).toNat) a1) else (none)) else (some x0_1)) else (none)) else (none)) = some r := by first | (rw [hji4] at H; exact H) | (simp only [hji4] at H ⊢; exact H)
    have hji4w : (IntKind.i64.wrap ((x0_1.size : Int) - 1)) = ji4 := (i64_w _).trans hji4
    by_cases c5 : 0 ≤ (ji4)
    ·
     rw [if_pos c5] at H
     have c5b0 : decide (0 ≤ (ji4)) = true := decide_eq_true c5
     clear c5
     by_cases c6 : (ji4) < (x0_1.size : Int)
     ·
      rw [if_pos c6] at H
      have c6b0 : decide ((ji4) < (x0_1.size : Int)) = true := decide_eq_true c6
      clear c6
      by_cases c8 : (bt x0_1 (ji4)) = a1
      ·
       rw [if_pos c8] at H
       have c8b0 : ((bt x0_1 (ji4)) == a1) = true := beq_iff_eq.mpr c8
       have c8b1 : ((bt x0_1 (ji4)) != a1) = false := bne_eq_false_iff_eq.mpr c8
       clear c8
       have c9b0 := eq_true (of_decide_eq_true qne3_ : 0 ≤ (ji4))
       by_cases c10 : (ji4) ≤ (x0_1.size : Int)
       ·
        rw [if_pos c10] at H
        have c10b0 := eq_true c10
        have c10b1 : decide ((ji4) ≤ (x0_1.size : Int)) = true := decide_eq_true c10
        clear c10
        have H' := Aside0.mk H
        clear H
        have p7 : 0 ≤ ((ji4) : Int) := of_decide_eq_true qne3_
        have q7 : (ji4) < (x0_1.size : Int) := of_decide_eq_true qne3_
        have hx7 := bt_at x0_1 (ji4)
        replace p7 := eq_true p7
        replace q7 := eq_true q7
        go_wp2
        go_roundg k1
        case measure => have := HK1.out; omega
        case rel => exact ⟨(x0_1.extract 0 ((ji4) : Int).toNat), (by first | rfl | (simp; done) | (simp only [← hji4] <;> (first | rfl | simp); done) | (simp [*]; done) | (simp; simp only [eq_iff_iff, iff_true] at *; omega) | (exfalso; simp_all; done)), H', ⟨by have := HK1.out; omega⟩, qne12_⟩
       ·
        rw [if_neg c10] at H
        exact absurd H (by simp)
      ·
       rw [if_neg c8] at H
       have c8b0 : ((bt x0_1 (ji4)) == a1) = false := beq_eq_false_iff_ne.mpr c8
       have c8b1 : ((bt x0_1 (ji4)) != a1) = true := bne_iff_ne.mpr c8
       obtain rfl := Option.some.inj H
       have p7 : 0 ≤ ((ji4) : Int) := of_decide_eq_true qne3_
       have q7 : (ji4) < (x0_1.size : Int) := of_decide_eq_true qne3_
       have hx7 := bt_at x0_1 (ji4)
       replace p7 := eq_true p7
       replace q7 := eq_true q7
       go_wp2
       go_ret
       exact ⟨by first | rfl | (simp; done) | (simp only [← hji4] <;> (first | rfl | simp); done) | (simp [*]; done) | (simp; simp only [eq_iff_iff, iff_true] at *; omega) | (exfalso; simp_all; done), qne12_⟩
     ·
      rw [if_neg c6] at H
      exact absurd H (by simp)
    ·
     rw [if_neg c5] at H
     exact absurd H (by simp)
   ·
    rw [if_neg c3] at H
    have c3b0 : decide (0 < (x0_1.size : Int)) = false := decide_eq_false c3
    have c3b1 : decide (0 < x0_1.size) = false := decide_eq_false (by omega)
    clear c3
    obtain rfl := Option.some.inj H
    go_wp2
    go_ret
    exact ⟨qne2_, qne12_⟩


/-! ### strings_TrimRight: function 67 -/
mutual
def strings_TrimRight.j0 : Nat → ByteArray → ByteArray → Bool → Option (ByteArray)
 | 0, _, _, _ => none
 | k + 1, x0, x1, x12 => if x12 = true then (some x0) else (if (x1.size : Int) = 1 then (if 0 < (x1.size : Int) then (strings_TrimRight.j1 k x0 x1 (decide ((bt x1 0) < 128))) else (none)) else (strings_TrimRight.j1 k x0 x1 false))
def strings_TrimRight.j1 : Nat → ByteArray → ByteArray → Bool → Option (ByteArray)
 | 0, _, _, _ => none
 | k + 1, x0, x1, x21 => if x21 = true then (if 0 < (x1.size : Int) then ((strings_trimRightByte.f k x0 (bt x1 0)).bind fun t108 => (some t108)) else (none)) else (none)
end
def strings_TrimRight.f (k : Nat) (a0 : ByteArray) (a1 : ByteArray) : Option (ByteArray) := if a0.toList = ([] : List UInt8) then (strings_TrimRight.j0 k a0 a1 true) else (strings_TrimRight.j0 k a0 a1 a1.toList.isEmpty)
set_option maxHeartbeats 8000000 in
set_option maxRecDepth 100000 in
theorem strings_TrimRight.calls (k : Nat) (a0 : ByteArray) (a1 : ByteArray) (r : ByteArray) (w : World) (h : strings_TrimRight.f k a0 a1 = some r) :
  Calls Tryd.prog 67 #[.string a0, .string a1] w fun e w' => e = .returned (.string r) ∧ Below w.heap.size w w' := by
 have HB := Aside0.mk (Below.refl w.heap.size w)
 have H : (if a0.toList = ([] : List UInt8) then (strings_TrimRight.j0 k a0 a1 true) else (strings_TrimRight.j0 k a0 a1 a1.toList.isEmpty)) = some r := h
 clear h
 have HC3 := Aside0.mk H
 clear H
 go_enter Tryd.func67, Tryd.ntmps67
 go_upto_region 1 with (fail)
 go_cut [12] (fun v12 wc => ∃ (kq : Nat) (x12_2 : Bool), v12 = .bool x12_2 ∧ Aside0 (strings_TrimRight.j0 kq a0 a1 x12_2 = some r) ∧ Aside0 (kq ≤ k) ∧ Aside0 (Below w.heap.size w wc))
 case first =>
  have H := HC3.out
  clear HC3
  by_cases c4 : a0.toList = ([] : List UInt8)
  ·
   rw [if_pos c4] at H
   have c4b0 : (a0.toList == ([] : List UInt8)) = true := beq_iff_eq.mpr c4
   have c4b1 : (a0.toList != ([] : List UInt8)) = false := bne_eq_false_iff_eq.mpr c4
   clear c4
   (first | rw [c4b0] | (simp only [i64_w, i32_w]; rw [c4b0]) | skip)
   have H' := Aside0.mk H
   clear H
   go_wp2
   go_meet
   case rel => exact ⟨_, (true), qne2_, H', ⟨by first | omega | exact Nat.le_refl _⟩, ⟨qne0_⟩⟩
  ·
   rw [if_neg c4] at H
   have c4b0 : (a0.toList == ([] : List UInt8)) = false := beq_eq_false_iff_ne.mpr c4
   have c4b1 : (a0.toList != ([] : List UInt8)) = true := bne_iff_ne.mpr c4
   (first | rw [c4b0] | (simp only [i64_w, i32_w]; rw [c4b0]) | skip)
   have H' := Aside0.mk H
   clear H
   go_wp2
   go_meet
   case rel => exact ⟨_, (a1.toList.isEmpty), qne2_, H', ⟨by first | omega | exact Nat.le_refl _⟩, ⟨qne0_⟩⟩
 case rest =>
  clear HC3
  (try clear p2); (try clear c4); (try clear c4b0); (try clear c4b1)
  obtain ⟨kq, x12_2, rfl, HA, HJ2, HB⟩ := hcut
  cases kq with
  | zero => exact absurd HA.out (by simp [strings_TrimRight.j0])
  | succ kj2 =>
   have H := HA.out
   clear HA
   simp only [strings_TrimRight.j0] at H
   by_cases c5 : x12_2 = true
   ·
    subst c5
    have H1 : (some a0) = some r := by rw [if_pos rfl] at H; exact H
    clear H
    have H := H1
    clear H1
    obtain rfl := Option.some.inj H
    go_wp2
    go_ret
    exact ⟨qne5_, qne0_⟩
   ·
    replace c5 := Bool.eq_false_iff.mpr c5
    subst c5
    have H1 : (if (a1.size : Int) = 1 then (if 0 < (a1.size : Int) then (strings_TrimRight.j1 kj2 a0 a1 (decide ((bt a1 0) < 128))) else (none)) else (strings_TrimRight.j1 kj2 a0 a1 false)) = some r := by rw [if_neg (show ¬ (false = true) by decide)] at H; exact H
    clear H
    have H := H1
    clear H1
    have HC6 := Aside0.mk H
    clear H
    go_upto_region 3 with (fail)
    go_cut [21] (fun v21 wc => ∃ (kq : Nat) (x21_5 : Bool), v21 = .bool x21_5 ∧ Aside0 (strings_TrimRight.j1 kq a0 a1 x21_5 = some r) ∧ Aside0 (kq ≤ kj2) ∧ Aside0 (Below w.heap.size w wc))
    case first =>
     have H := HC6.out
     clear HC6
     by_cases c7 : (a1.size : Int) = 1
     ·
      rw [if_pos c7] at H
      have c7b0 : ((a1.size : Int) == 1) = true := beq_iff_eq.mpr c7
      have c7b1 : ((a1.size : Int) != 1) = false := bne_eq_false_iff_eq.mpr c7
      clear c7
      (first | rw [c7b0] | (simp only [i64_w, i32_w]; rw [c7b0]) | skip)
      by_cases c8 : 0 < (a1.size : Int)
      ·
       rw [if_pos c8] at H
       have c8b0 : decide (0 < (a1.size : Int)) = true := decide_eq_true c8
       have c8b1 : decide (0 < a1.size) = true := decide_eq_true (by omega)
       clear c8
       have H' := Aside0.mk H
       clear H
       have p9 : 0 ≤ (0 : Int) := (by omega)
       have q9 : 0 < a1.size := qne59_
       have hx9 : ∀ h : 0 < a1.size, ((a1[0]'h).toNat : Int) = bt a1 0 := bt_at a1 0
       clear p9
       have qi9 : (0 < (a1.size : Int)) = True := eq_true (of_decide_eq_true qne3_)
       replace q9 := eq_true q9
       go_wp2
       go_meet
       case rel => exact ⟨_, (decide ((bt a1 0) < 128)), qne2_, H', ⟨by have := HJ2.out; first | omega | exact Nat.le_refl _⟩, ⟨qne0_⟩⟩
      ·
       rw [if_neg c8] at H
       exact absurd H (by simp)
     ·
      rw [if_neg c7] at H
      have c7b0 : ((a1.size : Int) == 1) = false := beq_eq_false_iff_ne.mpr c7
      have c7b1 : ((a1.size : Int) != 1) = true := bne_iff_ne.mpr c7
      (first | rw [c7b0] | (simp only [i64_w, i32_w]; rw [c7b0]) | skip)
      have H' := Aside0.mk H
      clear H
      go_wp2
      go_meet
      case rel => exact ⟨_, (false), qne2_, H', ⟨by have := HJ2.out; first | omega | exact Nat.le_refl _⟩, ⟨qne0_⟩⟩
    case rest =>
     clear HC6
     (try clear p2); (try clear c4); (try clear c4b0); (try clear c4b1); (try clear c5); (try clear c6); (try clear c7); (try clear c7b0); (try clear c7b1); (try clear c8); (try clear c8b0); (try clear c8b1); (try clear p9); (try clear q9); (try clear hx9); (try clear qi9); (try clear p2); (try clear p9); (try clear q9)
     obtain ⟨kq, x21_5, rfl, HA, HJ5, HB⟩ := hcut
     cases kq with
     | zero => exact absurd HA.out (by simp [strings_TrimRight.j1])
     | succ kj5 =>
      have H := HA.out
      clear HA
      simp only [strings_TrimRight.j1] at H
      by_cases c10 : x21_5 = true
      ·
       subst c10
       have H1 : (if 0 < (a1.size : Int) then ((strings_trimRightByte.f kj5 a0 (bt a1 0)).bind fun t108 => (some t108)) else (none)) = some r := by rw [if_pos rfl] at H; exact H
       clear H
       have H := H1
       clear H1
       by_cases c11 : 0 < (a1.size : Int)
       ·
        rw [if_pos c11] at H
        have c11b0 : decide (0 < (a1.size : Int)) = true := decide_eq_true c11
        have c11b1 : decide (0 < a1.size) = true := decide_eq_true (by omega)
        clear c11
        replace H := Option.bind_eq_some_iff.mp H
        obtain ⟨t108, A130, H⟩ := H
        replace H : (some t108) = some r := H
        have A13 := Aside0.mk A130
        clear A130
        obtain rfl := Option.some.inj H
        have p12 : 0 ≤ (0 : Int) := (by omega)
        have q12 : 0 < a1.size := qne59_
        have hx12 : ∀ h : 0 < a1.size, ((a1[0]'h).toNat : Int) = bt a1 0 := bt_at a1 0
        clear p12
        have qi12 : (0 < (a1.size : Int)) = True := eq_true (of_decide_eq_true qne3_)
        replace q12 := eq_true q12
        go_wp2_with (first | ((with_reducible refine gate_callee (f := 92) rfl ?_); refine goesL_ (some 25) rfl rfl Tryd.func92 (by kernel_rfl) rfl #[.string a0, .int .u8 (bt a1 0)] rfl qne1_ ?_; (with_reducible refine (strings_trimRightByte.calls kj5 a0 (bt a1 0) t108 _ A13.out).mono ?_); rintro e w' ⟨rfl, ⟨nd, rfl⟩⟩; refine ⟨_, rfl, ?_⟩))
        go_ret
        exact ⟨qne5_, qne0_⟩
       ·
        rw [if_neg c11] at H
        exact absurd H (by simp)
      ·
       replace c10 := Bool.eq_false_iff.mpr c10
       subst c10
       have H1 : (none) = some r := by rw [if_neg (show ¬ (false = true) by decide)] at H; exact H
       clear H
       have H := H1
       clear H1
       exact absurd H (by simp)


/-! ### numeral_digits: function 38 -/
def numeral_digits.f (k : Nat) (a0 : ByteArray) (a1 : ByteArray) (a2 : Int) : Option (ByteArray × Int) := (strings_TrimLeft.f k a0 (⟨#[48]⟩ : ByteArray)).bind fun t141 => (if t141.toList = ([] : List UInt8) then ((strings_TrimLeft.f k a1 (⟨#[48]⟩ : ByteArray)).bind fun t142 => ((strings_TrimRight.f k t142 (⟨#[48]⟩ : ByteArray)).bind fun t143 => (if t143.toList = ([] : List UInt8) then (some ((⟨#[]⟩ : ByteArray), 0)) else (some (t143, wrap64 ((wrap64 ((t142.size : Int) - (a1.size : Int))) + a2)))))) else (if t141.size + a1.size ≤ 9223372036854775807 then ((strings_TrimRight.f k (t141 ++ a1) (⟨#[48]⟩ : ByteArray)).bind fun t144 => (if t144.toList = ([] : List UInt8) then (some ((⟨#[]⟩ : ByteArray), 0)) else (some (t144, wrap64 ((t141.size : Int) + a2))))) else (none)))
set_option maxHeartbeats 8000000 in
set_option maxRecDepth 100000 in
theorem numeral_digits.calls (k : Nat) (a0 : ByteArray) (a1 : ByteArray) (a2 : Int) (r1 : ByteArray) (r2 : Int) (w : World) (h : numeral_digits.f k a0 a1 a2 = some (r1, r2)) :
  Calls Tryd.prog 38 #[.string a0, .string a1, .int .i64 a2] w fun e w' => e = .returned (.tuple #[.string r1, .int .i64 r2]) ∧ Below w.heap.size w w' := by
 have HB := Aside0.mk (Below.refl w.heap.size w)
 have H : ((strings_TrimLeft.f k a0 (⟨#[48]⟩ : ByteArray)).bind fun t141 => (if t141.toList = ([] : List UInt8) then ((strings_TrimLeft.f k a1 (⟨#[48]⟩ : ByteArray)).bind fun t142 => ((strings_TrimRight.f k t142 (⟨#[48]⟩ : ByteArray)).bind fun t143 => (if t143.toList = ([] : List UInt8) then (some ((⟨#[]⟩ : ByteArray), 0)) else (some (t143, wrap64 ((wrap64 ((t142.size : Int) - (a1.size : Int))) + a2)))))) else (if t141.size + a1.size ≤ 9223372036854775807 then ((strings_TrimRight.f k (t141 ++ a1) (⟨#[48]⟩ : ByteArray)).bind fun t144 => (if t144.toList = ([] : List UInt8) then (some ((⟨#[]⟩ : ByteArray), 0)) else (some (t144, wrap64 ((t141.size : Int) + a2))))) else (none)))) = some (r1, r2) := h
 clear h
 replace H := Option.bind_eq_some_iff.mp H
 obtain ⟨t141, A40, H⟩ := H
 replace H : (if t141.toList = ([] : List UInt8) then ((strings_TrimLeft.f k a1 (⟨#[48]⟩ : ByteArray)).bind fun t142 => ((strings_TrimRight.f k t142 (⟨#[48]⟩ : ByteArray)).bind fun t143 => (if t143.toList = ([] : List UInt8) then (some ((⟨#[]⟩ : ByteArray), 0)) else (some (t143, wrap64 ((wrap64 ((t142.size : Int) - (a1.size : Int))) + a2)))))) else (if t141.size + a1.size ≤ 9223372036854775807 then ((strings_TrimRight.f k (t141 ++ a1) (⟨#[48]⟩ : ByteArray)).bind fun t144 => (if t144.toList = ([] : List UInt8) then (some ((⟨#[]⟩ : ByteArray), 0)) else (some (t144, wrap64 ((t141.size : Int) + a2))))) else (none))) = some (r1, r2) := H
 have A4 := Aside0.mk A40
 clear A40
 by_cases c5 : t141.toList = ([] : List UInt8)
 ·
  rw [if_pos c5] at H
  have c5b0 : (t141.toList == ([] : List UInt8)) = true := beq_iff_eq.mpr c5
  have c5b1 : (t141.toList != ([] : List UInt8)) = false := bne_eq_false_iff_eq.mpr c5
  clear c5
  replace H := Option.bind_eq_some_iff.mp H
  obtain ⟨t142, A60, H⟩ := H
  replace H : ((strings_TrimRight.f k t142 (⟨#[48]⟩ : ByteArray)).bind fun t143 => (if t143.toList = ([] : List UInt8) then (some ((⟨#[]⟩ : ByteArray), 0)) else (some (t143, wrap64 ((wrap64 ((t142.size : Int) - (a1.size : Int))) + a2))))) = some (r1, r2) := H
  have A6 := Aside0.mk A60
  clear A60
  replace H := Option.bind_eq_some_iff.mp H
  obtain ⟨t143, A70, H⟩ := H
  replace H : (if t143.toList = ([] : List UInt8) then (some ((⟨#[]⟩ : ByteArray), 0)) else (some (t143, wrap64 ((wrap64 ((t142.size : Int) - (a1.size : Int))) + a2)))) = some (r1, r2) := H
  have A7 := Aside0.mk A70
  clear A70
  by_cases c8 : t143.toList = ([] : List UInt8)
  ·
   rw [if_pos c8] at H
   have c8b0 : (t143.toList == ([] : List UInt8)) = true := beq_iff_eq.mpr c8
   have c8b1 : (t143.toList != ([] : List UInt8)) = false := bne_eq_false_iff_eq.mpr c8
   clear c8
   simp only [Option.some.injEq, Prod.mk.injEq] at H
   obtain ⟨rfl, rfl⟩ := H
   go_enter Tryd.func38, Tryd.ntmps38
   have tk12 : True := trivial; have tk13 : True := trivial; have tk14 : True := trivial
   go_wp2_with (first | (have ztk12 := tk12; clear tk12 ztk12; (with_reducible refine gate_callee (f := 66) rfl ?_); refine goesL_ (some 12) rfl rfl Tryd.func66 (by kernel_rfl) rfl #[.string a0, .string (⟨#[48]⟩ : ByteArray)] rfl qne1_ ?_; (with_reducible refine (strings_TrimLeft.calls k a0 (⟨#[48]⟩ : ByteArray) t141 _ A4.out).mono ?_); rintro e w9 ⟨rfl, hb⟩; refine ⟨_, rfl, ?_⟩; have n0_ := Aside0.mk (below_step qne0_ hb); clear HB; have HB := n0_; clear n0_; (try clear hb); (try clear hb2); (try clear hk); (try clear hi)) | (have ztk13 := tk13; clear tk13 ztk13; (with_reducible refine gate_callee (f := 66) rfl ?_); refine goesL_ (some 18) rfl rfl Tryd.func66 (by kernel_rfl) rfl #[.string a1, .string (⟨#[48]⟩ : ByteArray)] rfl qne1_ ?_; (with_reducible refine (strings_TrimLeft.calls k a1 (⟨#[48]⟩ : ByteArray) t142 _ A6.out).mono ?_); rintro e w10 ⟨rfl, hb⟩; refine ⟨_, rfl, ?_⟩; have n0_ := Aside0.mk (below_step qne0_ hb); clear HB; have HB := n0_; clear n0_; (try clear hb); (try clear hb2); (try clear hk); (try clear hi)) | (have ztk14 := tk14; clear tk14 ztk14; (with_reducible refine gate_callee (f := 67) rfl ?_); refine goesL_ (some 29) rfl rfl Tryd.func67 (by kernel_rfl) rfl #[.string t142, .string (⟨#[48]⟩ : ByteArray)] rfl qne1_ ?_; (with_reducible refine (strings_TrimRight.calls k t142 (⟨#[48]⟩ : ByteArray) t143 _ A7.out).mono ?_); rintro e w11 ⟨rfl, hb⟩; refine ⟨_, rfl, ?_⟩; have n0_ := Aside0.mk (below_step qne0_ hb); clear HB; have HB := n0_; clear n0_; (try clear hb); (try clear hb2); (try clear hk); (try clear hi)))
   go_ret2
   exact ⟨qne5_, qne0_⟩
  ·
   rw [if_neg c8] at H
   have c8b0 : (t143.toList == ([] : List UInt8)) = false := beq_eq_false_iff_ne.mpr c8
   have c8b1 : (t143.toList != ([] : List UInt8)) = true := bne_iff_ne.mpr c8
   simp only [Option.some.injEq, Prod.mk.injEq] at H
   obtain ⟨rfl, rfl⟩ := H
   go_enter Tryd.func38, Tryd.ntmps38
   have tk18 : True := trivial; have tk19 : True := trivial; have tk20 : True := trivial
   go_wp2_with (first | (have ztk18 := tk18; clear tk18 ztk18; (with_reducible refine gate_callee (f := 66) rfl ?_); refine goesL_ (some 12) rfl rfl Tryd.func66 (by kernel_rfl) rfl #[.string a0, .string (⟨#[48]⟩ : ByteArray)] rfl qne1_ ?_; (with_reducible refine (strings_TrimLeft.calls k a0 (⟨#[48]⟩ : ByteArray) t141 _ A4.out).mono ?_); rintro e w15 ⟨rfl, hb⟩; refine ⟨_, rfl, ?_⟩; have n0_ := Aside0.mk (below_step qne0_ hb); clear HB; have HB := n0_; clear n0_; (try clear hb); (try clear hb2); (try clear hk); (try clear hi)) | (have ztk19 := tk19; clear tk19 ztk19; (with_reducible refine gate_callee (f := 66) rfl ?_); refine goesL_ (some 18) rfl rfl Tryd.func66 (by kernel_rfl) rfl #[.string a1, .string (⟨#[48]⟩ : ByteArray)] rfl qne1_ ?_; (with_reducible refine (strings_TrimLeft.calls k a1 (⟨#[48]⟩ : ByteArray) t142 _ A6.out).mono ?_); rintro e w16 ⟨rfl, hb⟩; refine ⟨_, rfl, ?_⟩; have n0_ := Aside0.mk (below_step qne0_ hb); clear HB; have HB := n0_; clear n0_; (try clear hb); (try clear hb2); (try clear hk); (try clear hi)) | (have ztk20 := tk20; clear tk20 ztk20; (with_reducible refine gate_callee (f := 67) rfl ?_); refine goesL_ (some 29) rfl rfl Tryd.func67 (by kernel_rfl) rfl #[.string t142, .string (⟨#[48]⟩ : ByteArray)] rfl qne1_ ?_; (with_reducible refine (strings_TrimRight.calls k t142 (⟨#[48]⟩ : ByteArray) t143 _ A7.out).mono ?_); rintro e w17 ⟨rfl, hb⟩; refine ⟨_, rfl, ?_⟩; have n0_ := Aside0.mk (below_step qne0_ hb); clear HB; have HB := n0_; clear n0_; (try clear hb); (try clear hb2); (try clear hk); (try clear hi)))
   go_ret2
   exact ⟨qne5_, qne0_⟩
 ·
  rw [if_neg c5] at H
  have c5b0 : (t141.toList == ([] : List UInt8)) = false := beq_eq_false_iff_ne.mpr c5
  have c5b1 : (t141.toList != ([] : List UInt8)) = true := bne_iff_ne.mpr c5
  by_cases c21 : t141.size + a1.size ≤ 9223372036854775807
  ·
   rw [if_pos c21] at H
   have c21b0 := eq_true c21
   have c21b1 : decide (t141.size + a1.size ≤ 9223372036854775807) = true := decide_eq_true c21
   try have c21b2 : (9223372036854775807 < t141.size + a1.size) = False := eq_false (Nat.not_lt.2 c21)
   replace H := Option.bind_eq_some_iff.mp H
   obtain ⟨t144, A220, H⟩ := H
   replace H : (if t144.toList = ([] : List UInt8) then (some ((⟨#[]⟩ : ByteArray), 0)) else (some (t144, wrap64 ((t141.size : Int) + a2)))) = some (r1, r2) := H
   have A22 := Aside0.mk A220
   clear A220
   by_cases c23 : t144.toList = ([] : List UInt8)
   ·
    rw [if_pos c23] at H
    have c23b0 : (t144.toList == ([] : List UInt8)) = true := beq_iff_eq.mpr c23
    have c23b1 : (t144.toList != ([] : List UInt8)) = false := bne_eq_false_iff_eq.mpr c23
    clear c23
    simp only [Option.some.injEq, Prod.mk.injEq] at H
    obtain ⟨rfl, rfl⟩ := H
    go_enter Tryd.func38, Tryd.ntmps38
    have tk26 : True := trivial; have tk27 : True := trivial
    go_wp2_with (first | (have ztk26 := tk26; clear tk26 ztk26; (with_reducible refine gate_callee (f := 66) rfl ?_); refine goesL_ (some 12) rfl rfl Tryd.func66 (by kernel_rfl) rfl #[.string a0, .string (⟨#[48]⟩ : ByteArray)] rfl qne1_ ?_; (with_reducible refine (strings_TrimLeft.calls k a0 (⟨#[48]⟩ : ByteArray) t141 _ A4.out).mono ?_); rintro e w24 ⟨rfl, hb⟩; refine ⟨_, rfl, ?_⟩; have n0_ := Aside0.mk (below_step qne0_ hb); clear HB; have HB := n0_; clear n0_; (try clear hb); (try clear hb2); (try clear hk); (try clear hi)) | (have ztk27 := tk27; clear tk27 ztk27; (with_reducible refine gate_callee (f := 67) rfl ?_); refine goesL_ (some 29) rfl rfl Tryd.func67 (by kernel_rfl) rfl #[.string (t141 ++ a1), .string (⟨#[48]⟩ : ByteArray)] rfl qne1_ ?_; (with_reducible refine (strings_TrimRight.calls k (t141 ++ a1) (⟨#[48]⟩ : ByteArray) t144 _ A22.out).mono ?_); rintro e w25 ⟨rfl, hb⟩; refine ⟨_, rfl, ?_⟩; have n0_ := Aside0.mk (below_step qne0_ hb); clear HB; have HB := n0_; clear n0_; (try clear hb); (try clear hb2); (try clear hk); (try clear hi)))
    go_ret2
    exact ⟨qne5_, qne0_⟩
   ·
    rw [if_neg c23] at H
    have c23b0 : (t144.toList == ([] : List UInt8)) = false := beq_eq_false_iff_ne.mpr c23
    have c23b1 : (t144.toList != ([] : List UInt8)) = true := bne_iff_ne.mpr c23
    simp only [Option.some.injEq, Prod.mk.injEq] at H
    obtain ⟨rfl, rfl⟩ := H
    go_enter Tryd.func38, Tryd.ntmps38
    have tk30 : True := trivial; have tk31 : True := trivial
    go_wp2_with (first | (have ztk30 := tk30; clear tk30 ztk30; (with_reducible refine gate_callee (f := 66) rfl ?_); refine goesL_ (some 12) rfl rfl Tryd.func66 (by kernel_rfl) rfl #[.string a0, .string (⟨#[48]⟩ : ByteArray)] rfl qne1_ ?_; (with_reducible refine (strings_TrimLeft.calls k a0 (⟨#[48]⟩ : ByteArray) t141 _ A4.out).mono ?_); rintro e w28 ⟨rfl, hb⟩; refine ⟨_, rfl, ?_⟩; have n0_ := Aside0.mk (below_step qne0_ hb); clear HB; have HB := n0_; clear n0_; (try clear hb); (try clear hb2); (try clear hk); (try clear hi)) | (have ztk31 := tk31; clear tk31 ztk31; (with_reducible refine gate_callee (f := 67) rfl ?_); refine goesL_ (some 29) rfl rfl Tryd.func67 (by kernel_rfl) rfl #[.string (t141 ++ a1), .string (⟨#[48]⟩ : ByteArray)] rfl qne1_ ?_; (with_reducible refine (strings_TrimRight.calls k (t141 ++ a1) (⟨#[48]⟩ : ByteArray) t144 _ A22.out).mono ?_); rintro e w29 ⟨rfl, hb⟩; refine ⟨_, rfl, ?_⟩; have n0_ := Aside0.mk (below_step qne0_ hb); clear HB; have HB := n0_; clear n0_; (try clear hb); (try clear hb2); (try clear hk); (try clear hi)))
    go_ret2
    exact ⟨qne5_, qne0_⟩
  ·
   rw [if_neg c21] at H
   exact absurd H (by simp)

end Go.Proofs.YtcdajedmlfhmeaaDoor.XN
