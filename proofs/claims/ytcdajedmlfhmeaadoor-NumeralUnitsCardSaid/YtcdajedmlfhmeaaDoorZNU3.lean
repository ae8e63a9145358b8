import Derived.Test.YtcdajedmlfhmeaaDoorZNU0
import Derived.Test.YtcdajedmlfhmeaaDoorZNU1
import Derived.Test.YtcdajedmlfhmeaaDoorZNU2
namespace Go.Proofs.YtcdajedmlfhmeaaDoor.XN
open Go.RowKit Go.Proofs.YtcdajedmlfhmeaaDoorW.PrintWords Go.Proofs.YtcdajedmlfhmeaaDoorW.PrintLast Go.Proofs.YtcdajedmlfhmeaaDoorW.PrintMore
attribute [local go_sem] max2_int min2_int max_two min_two max_three min_three max_four min_four
set_option linter.unusedVariables false
set_option linter.unusedSimpArgs false

/-! ### numeral_plain: function 36 (by hand) -/
def plainDig (x : Int) : Bool := decide (48 ≤ x) && decide (x ≤ 57)
def plainRun (s : ByteArray) : Nat → Nat → Nat
  | 0, i => i
  | k + 1, i => if i < s.size ∧ plainDig (bt s i) = true then plainRun s k (i + 1) else i
/-- The place behind the digits from i on. -/
def plainEnd (s : ByteArray) (i : Nat) : Nat := plainRun s (s.size - i) i
theorem plainEnd_eq (s : ByteArray) (i : Nat) : plainEnd s i = if i < s.size ∧ plainDig (bt s i) = true then plainEnd s (i + 1) else i := by
  unfold plainEnd
  by_cases h : i < s.size
  · obtain ⟨k, hk⟩ : ∃ k, s.size - i = k + 1 := ⟨s.size - i - 1, by omega⟩
    have hk' : s.size - (i + 1) = k := by omega
    rw [hk, hk']
    rfl
  · rw [if_neg (fun hh => h hh.1), show s.size - i = 0 from by omega]
    rfl
theorem plainEnd_yes {s : ByteArray} {i : Nat} (h : i < s.size) (hd : plainDig (bt s i) = true) : plainEnd s i = plainEnd s (i + 1) := by
  rw [plainEnd_eq, if_pos ⟨h, hd⟩]
theorem plainEnd_no {s : ByteArray} {i : Nat} (h : ¬ (i < s.size ∧ plainDig (bt s i) = true)) : plainEnd s i = i := by
  rw [plainEnd_eq, if_neg h]
theorem plainDig_f (x : Int) : numeral_digit.f x = some (plainDig x) := by
  unfold numeral_digit.f plainDig
  by_cases h : 48 ≤ x <;> simp [h]
/-- What the text holds from b on: the digits ahead of a point, those behind it, the place behind all; 0: there are none. -/
def plainF (s : ByteArray) (b : Nat) : Bool × ByteArray × ByteArray × Int :=
  if plainEnd s b < s.size ∧ bt s (plainEnd s b) = 46 then
    if (s.extract b (plainEnd s b)).toList = [] ∧ (s.extract (plainEnd s b + 1) (plainEnd s (plainEnd s b + 1))).toList = [] then (false, ⟨#[]⟩, ⟨#[]⟩, 0)
    else (false, s.extract b (plainEnd s b), s.extract (plainEnd s b + 1) (plainEnd s (plainEnd s b + 1)), (plainEnd s (plainEnd s b + 1) : Int))
  else if (s.extract b (plainEnd s b)).toList = [] then (false, ⟨#[]⟩, ⟨#[]⟩, 0) else (false, s.extract b (plainEnd s b), ⟨#[]⟩, (plainEnd s b : Int))
def numeral_plain.f (a0 : ByteArray) (a1 : Int) : Option (Bool × ByteArray × ByteArray × Int) :=
  if 0 ≤ a1 ∧ a1 ≤ (a0.size : Int) ∧ (a0.size : Int) < 9223372036854775807 then some (plainF a0 a1.toNat) else none

/-- As Q; by a goto: J of that label. -/
def plainJumps (J : Nat → Act → World → Prop) (Q : Exit → Act → World → Prop) : Exit → Act → World → Prop
  | .goto l, a, w => J l a w
  | e, a, w => Q e a w
/-- A scope of three labels: what holds at each jump, and a measure that each pass from a label lowers. -/
theorem plain_scope {P : Program} {Q : Exit → Act → World → Prop} {a : Act} {w : World} {c r0 r1 r2 : Code} (J : Nat → Act → World → Prop) (μ : Nat → Act → World → Nat) (hJ : ∀ l a w, J l a w → l = 0 ∨ l = 1 ∨ l = 2)
    (h0 : findLabel c 0 = some r0) (h1 : findLabel c 1 = some r1) (h2 : findLabel c 2 = some r2)
    (first : c.wp P (plainJumps J Q) a w)
    (p0 : ∀ a w, J 0 a w → r0.wp P (plainJumps (fun l a' w' => J l a' w' ∧ μ l a' w' < μ 0 a w) Q) a w)
    (p1 : ∀ a w, J 1 a w → r1.wp P (plainJumps (fun l a' w' => J l a' w' ∧ μ l a' w' < μ 1 a w) Q) a w)
    (p2 : ∀ a w, J 2 a w → r2.wp P (plainJumps (fun l a' w' => J l a' w' ∧ μ l a' w' < μ 2 a w) Q) a w) : (Code.scope c).wp P Q a w := by
  intro b k cs
  have key : ∀ n l a w, μ l a w = n → J l a w → ∃ rest, findLabel c l = some rest ∧ ∃ e a' w', Q e a' w' ∧ Arrives P (lone (b.at a (.code rest :: .inScope c :: k)) cs w) b k cs e a' w' := by
    intro n
    induction n using Nat.strongRecOn with
    | _ n ih =>
      intro l a w hn hl
      obtain ⟨rest, hr, hp⟩ : ∃ rest, findLabel c l = some rest ∧ rest.wp P (plainJumps (fun l' a' w' => J l' a' w' ∧ μ l' a' w' < μ l a w) Q) a w := by
        rcases hJ l a w hl with rfl | rfl | rfl
        · exact ⟨r0, h0, p0 a w hl⟩
        · exact ⟨r1, h1, p1 a w hl⟩
        · exact ⟨r2, h2, p2 a w hl⟩
      refine ⟨rest, hr, ?_⟩
      obtain ⟨e, a₁, w₁, hq, harr⟩ := hp b (.inScope c :: k) cs
      cases e with
      | normal => exact ⟨.normal, a₁, w₁, hq, Steps.trans harr (.one step_inScope)⟩
      | exit id => exact ⟨.exit id, a₁, w₁, hq, fun k' hk => harr k' (by simp [exitTo, hk])⟩
      | goto l' =>
        obtain ⟨hJ', hlt⟩ := hq
        obtain ⟨rest', hr', e₂, a₂, w₂, hq₂, harr₂⟩ := ih _ (by omega) l' a₁ w₁ rfl hJ'
        exact ⟨e₂, a₂, w₂, hq₂, .of_steps (harr _ (by simp [gotoIn, hr'])) harr₂⟩
      | ret => exact ⟨_, a₁, w₁, hq, harr⟩
      | panic ch => exact ⟨_, a₁, w₁, hq, harr⟩
      | outgrown => exact ⟨_, a₁, w₁, hq, harr⟩
  obtain ⟨e, a₁, w₁, hq, harr⟩ := first b (.inScope c :: k) cs
  cases e with
  | normal => exact ⟨.normal, a₁, w₁, hq, .head step_scope (Steps.trans harr (.one step_inScope))⟩
  | exit id => exact ⟨.exit id, a₁, w₁, hq, fun k' hk => .head step_scope (harr k' (by simp [exitTo, hk]))⟩
  | goto l =>
    obtain ⟨rest, hr, e₂, a₂, w₂, hq₂, harr₂⟩ := key _ l a₁ w₁ rfl hq
    exact ⟨e₂, a₂, w₂, hq₂, .of_steps (.head step_scope (harr _ (by simp [gotoIn, hr]))) harr₂⟩
  | ret => exact ⟨_, a₁, w₁, hq, .of_steps (.one step_scope) harr⟩
  | panic ch => exact ⟨_, a₁, w₁, hq, .of_steps (.one step_scope) harr⟩
  | outgrown => exact ⟨_, a₁, w₁, hq, .of_steps (.one step_scope) harr⟩

/-- What holds at each label. -/
def plainJ (s : ByteArray) (b : Nat) (w : World) : Nat → Act → World → Prop
  | 0, a, w' => ∃ (g4 g5 : Nat) (x : Int), Hid ((b : Int) ≤ x ∧ x ≤ (s.size : Int) ∧ plainEnd s x.toNat = plainEnd s b) ∧ Hid (g4 ≠ g5 ∧ w.heap.size ≤ g4 ∧ w.heap.size ≤ g5 ∧ Below w.heap.size w w' ∧ w'.heap[g4]? = some (.cells #[.bool false, .string ⟨#[]⟩, .string ⟨#[]⟩, .int .i64 0] 55 (0, 0)) ∧ w'.heap[g5]? = some (.cells #[.bool false, .string ⟨#[]⟩, .string ⟨#[]⟩, .int .i64 0] 55 (0, 0))) ∧ ∃ u2 u3 u8 u9 u10 u11 u12 u13 u14 u15 u16 u17 u18 u19 u20 u21 u22 u23 u24 u25 u26 u27 u28 u29 u30 u31 u32 u33 u34 u35 u36 u37 u38 u39 u40 u41 u42 u43 u44 u45 u46 u47 u48 u49 u50 u51 u52 u53 u54 u55 u56 u57 u58 u59 u60 u61 u62 u63 u64 u65 u66 u67 u68 u69 u70 u71 : Value, a = ⟨#[.string s, .int .i64 x, u2, u3, .pointer (some ⟨g4, 0, none⟩), .pointer (some ⟨g5, 0, none⟩), .int .i64 (b : Nat), .int .i64 (b : Nat), u8, u9, u10, u11, u12, u13, u14, u15, u16, u17, u18, u19, u20, u21, u22, u23, u24, u25, u26, u27, u28, u29, u30, u31, u32, u33, u34, u35, u36, u37, u38, u39, u40, u41, u42, u43, u44, u45, u46, u47, u48, u49, u50, u51, u52, u53, u54, u55, u56, u57, u58, u59, u60, u61, u62, u63, u64, u65, u66, u67, u68, u69, u70, u71], []⟩
  | 1, a, w' => ∃ (g4 g5 p : Nat) (x : Int), Hid (p = plainEnd s b ∧ p < s.size ∧ bt s p = 46 ∧ b ≤ p ∧ (p : Int) + 1 ≤ x ∧ x ≤ (s.size : Int) ∧ plainEnd s x.toNat = plainEnd s (p + 1)) ∧ Hid (g4 ≠ g5 ∧ w.heap.size ≤ g4 ∧ w.heap.size ≤ g5 ∧ Below w.heap.size w w' ∧ w'.heap[g4]? = some (.cells #[.bool false, .string ⟨#[]⟩, .string ⟨#[]⟩, .int .i64 0] 55 (0, 0)) ∧ w'.heap[g5]? = some (.cells #[.bool false, .string (s.extract b p), .string ⟨#[]⟩, .int .i64 0] 55 (0, 0))) ∧ ∃ u2 u3 u8 u9 u10 u11 u12 u13 u14 u15 u16 u17 u18 u19 u20 u21 u22 u23 u24 u25 u26 u27 u28 u29 u30 u31 u32 u33 u34 u35 u36 u37 u38 u39 u40 u41 u42 u43 u44 u45 u46 u47 u48 u49 u50 u51 u52 u53 u54 u55 u56 u57 u58 u59 u60 u61 u62 u63 u64 u65 u66 u67 u68 u69 u70 u71 : Value, a = ⟨#[.string s, .int .i64 x, u2, u3, .pointer (some ⟨g4, 0, none⟩), .pointer (some ⟨g5, 0, none⟩), .int .i64 ((p : Int) + 1), .int .i64 (p : Nat), u8, u9, u10, u11, u12, u13, u14, u15, u16, u17, u18, u19, u20, u21, u22, u23, u24, u25, u26, u27, u28, u29, u30, u31, u32, u33, u34, u35, u36, u37, u38, u39, u40, u41, u42, u43, u44, u45, u46, u47, u48, u49, u50, u51, u52, u53, u54, u55, u56, u57, u58, u59, u60, u61, u62, u63, u64, u65, u66, u67, u68, u69, u70, u71], []⟩
  | 2, a, w' => ∃ (g4 g5 p : Nat), Hid (p = plainEnd s b ∧ ¬ (p < s.size ∧ bt s p = 46) ∧ b ≤ p ∧ p ≤ s.size) ∧ Hid (g4 ≠ g5 ∧ w.heap.size ≤ g4 ∧ w.heap.size ≤ g5 ∧ Below w.heap.size w w' ∧ w'.heap[g4]? = some (.cells #[.bool false, .string ⟨#[]⟩, .string ⟨#[]⟩, .int .i64 0] 55 (0, 0)) ∧ w'.heap[g5]? = some (.cells #[.bool false, .string (s.extract b p), .string ⟨#[]⟩, .int .i64 0] 55 (0, 0))) ∧ ∃ u2 u3 u8 u9 u10 u11 u12 u13 u14 u15 u16 u17 u18 u19 u20 u21 u22 u23 u24 u25 u26 u27 u28 u29 u30 u31 u32 u33 u34 u35 u36 u37 u38 u39 u40 u41 u42 u43 u44 u45 u46 u47 u48 u49 u50 u51 u52 u53 u54 u55 u56 u57 u58 u59 u60 u61 u62 u63 u64 u65 u66 u67 u68 u69 u70 u71 : Value, a = ⟨#[.string s, .int .i64 (p : Nat), u2, u3, .pointer (some ⟨g4, 0, none⟩), .pointer (some ⟨g5, 0, none⟩), .int .i64 (b : Nat), .int .i64 (p : Nat), u8, u9, u10, u11, u12, u13, u14, u15, u16, u17, u18, u19, u20, u21, u22, u23, u24, u25, u26, u27, u28, u29, u30, u31, u32, u33, u34, u35, u36, u37, u38, u39, u40, u41, u42, u43, u44, u45, u46, u47, u48, u49, u50, u51, u52, u53, u54, u55, u56, u57, u58, u59, u60, u61, u62, u63, u64, u65, u66, u67, u68, u69, u70, u71], []⟩
  | _, _, _ => False
theorem plainJ_label {s : ByteArray} {b : Nat} {w : World} : ∀ l a w', plainJ s b w l a w' → l = 0 ∨ l = 1 ∨ l = 2
  | 0, _, _, _ => .inl rfl
  | 1, _, _, _ => .inr (.inl rfl)
  | 2, _, _, _ => .inr (.inr rfl)
  | _ + 3, _, _, h => h.elim
/-- The measure: the labels in their order, then what is left of the text. -/
def plainM (s : ByteArray) (l : Nat) (a : Act) (_ : World) : Nat := (2 - l) * (s.size + 1) + (s.size - (intOf (a.tmps.getD 1 undef)).toNat)
noncomputable def plainBody : Code := match Tryd.f36.body with | some (.seq _ (.scope c)) => c | _ => .skip
noncomputable def plainTail (l : Nat) : Code := match findLabel plainBody l with | some (.seq _ c) => c | _ => .skip
theorem plainDig_at {s : ByteArray} {x : Int} {d : Bool} (h : plainDig (bt s x) = d) : numeral_digit.f (bt s x) = some d := by rw [plainDig_f, h]

set_option maxRecDepth 100000 in
set_option maxHeartbeats 4000000 in
/-- From the first label on. -/
theorem plain_pass0 (s : ByteArray) (b : Nat) (w : World) (K : Nat → Act → World → Prop) (Q : Exit → Act → World → Prop) (W : World) (g4 g5 : Nat) (x : Int) (hs : (s.size : Int) < 9223372036854775807)
    (hx : Hid ((b : Int) ≤ x ∧ x ≤ (s.size : Int) ∧ plainEnd s x.toNat = plainEnd s b))
    (hw : Hid (g4 ≠ g5 ∧ w.heap.size ≤ g4 ∧ w.heap.size ≤ g5 ∧ Below w.heap.size w W ∧ W.heap[g4]? = some (.cells #[.bool false, .string ⟨#[]⟩, .string ⟨#[]⟩, .int .i64 0] 55 (0, 0)) ∧ W.heap[g5]? = some (.cells #[.bool false, .string ⟨#[]⟩, .string ⟨#[]⟩, .int .i64 0] 55 (0, 0))))
    (u2 u3 u8 u9 u10 u11 u12 u13 u14 u15 u16 u17 u18 u19 u20 u21 u22 u23 u24 u25 u26 u27 u28 u29 u30 u31 u32 u33 u34 u35 u36 u37 u38 u39 u40 u41 u42 u43 u44 u45 u46 u47 u48 u49 u50 u51 u52 u53 u54 u55 u56 u57 u58 u59 u60 u61 u62 u63 u64 u65 u66 u67 u68 u69 u70 u71 : Value)
    (hK : ∀ l a' w', plainJ s b w l a' w' → plainM s l a' w' < plainM s 0 ⟨#[.string s, .int .i64 x, u2, u3, .pointer (some ⟨g4, 0, none⟩), .pointer (some ⟨g5, 0, none⟩), .int .i64 (b : Nat), .int .i64 (b : Nat), u8, u9, u10, u11, u12, u13, u14, u15, u16, u17, u18, u19, u20, u21, u22, u23, u24, u25, u26, u27, u28, u29, u30, u31, u32, u33, u34, u35, u36, u37, u38, u39, u40, u41, u42, u43, u44, u45, u46, u47, u48, u49, u50, u51, u52, u53, u54, u55, u56, u57, u58, u59, u60, u61, u62, u63, u64, u65, u66, u67, u68, u69, u70, u71], []⟩ W → K l a' w') :
    Code.wp Tryd.prog (plainTail 0) (plainJumps K Q) ⟨#[.string s, .int .i64 x, u2, u3, .pointer (some ⟨g4, 0, none⟩), .pointer (some ⟨g5, 0, none⟩), .int .i64 (b : Nat), .int .i64 (b : Nat), u8, u9, u10, u11, u12, u13, u14, u15, u16, u17, u18, u19, u20, u21, u22, u23, u24, u25, u26, u27, u28, u29, u30, u31, u32, u33, u34, u35, u36, u37, u38, u39, u40, u41, u42, u43, u44, u45, u46, u47, u48, u49, u50, u51, u52, u53, u54, u55, u56, u57, u58, u59, u60, u61, u62, u63, u64, u65, u66, u67, u68, u69, u70, u71], []⟩ W := by
  conv => arg 2; whnf
  obtain ⟨hx1, hx2, hx3⟩ := hx.out
  have hx3 := Aside0.mk hx3
  obtain ⟨hn, hg4, hg5, hb, hc4, hc5⟩ := hw.out
  have HB := Aside0.mk hb
  have H4 := Aside0.mk hc4
  have H5 := Aside0.mk hc5
  clear hb hc4 hc5 hx hw
  have HK := Aside0.mk hK
  clear hK
  have hc50 : W.cell? ⟨g5, 1, none⟩ = some (.string ⟨#[]⟩) := (blk_cell H5.out 1).trans rfl
  have hf50 := blk_frozen H5.out 1
  have hx0 : 0 ≤ x := by omega
  have hbx := bt_at s x
  by_cases hlt : x < (s.size : Int)
  · by_cases hd : plainDig (bt s x) = true
    · have A1 := Aside0.mk (plainDig_at hd)
      have HD := Aside0.mk hd
      clear hd
      have p1 := eq_true hx0
      have q1 := eq_true hlt
      go_wp2_with (go_at_call 68; (with_reducible refine (numeral_digit.calls (bt s x) true _ A1.out).mono ?_); rintro e w' ⟨rfl, ⟨nd, rfl⟩⟩)
      go_step3
      refine HK.out 0 _ _ ⟨g4, g5, x + 1, ⟨by omega, by omega, ?_⟩, ⟨hn, hg4, hg5, pw_below_drewN HB.out _, blk_drewN H4.out _, blk_drewN H5.out _⟩, _, _, _, _, _, _, _, _, _, _, _, _, _, _, _, _, _, _, _, _, _, _, _, _, _, _, _, _, _, _, _, _, _, _, _, _, _, _, _, _, _, _, _, _, _, _, _, _, _, _, _, _, _, _, _, _, _, _, _, _, _, _, _, _, _, _, rfl⟩ ?_
      · rw [show (x + 1).toNat = x.toNat + 1 from by omega, ← plainEnd_yes (by omega) (by rw [show ((x.toNat : Nat) : Int) = x from by omega]; exact HD.out)]
        exact hx3.out
      · show (2 - 0) * (s.size + 1) + (s.size - (x + 1).toNat) < (2 - 0) * (s.size + 1) + (s.size - x.toNat)
        omega
    · have A1 := Aside0.mk (plainDig_at (d := false) (by simpa using hd))
      obtain ⟨p, rfl⟩ := Int.eq_ofNat_of_zero_le hx0
      have HP := Aside0.mk (show p = plainEnd s b from by rw [← hx3.out, Int.toNat_natCast, plainEnd_no (fun hh => hd hh.2)])
      clear hd
      have p1 := eq_true hx0
      have q1 := eq_true hlt
      have hsl : b ≤ p := by omega
      have hsp : p < s.size := by omega
      have hbx2 : ∀ h : p < s.size, ((s[p]'h).toNat : Int) = bt s (p : Int) := bt_at s (p : Int)
      by_cases hdot : bt s (p : Int) = 46
      · have hdb : (bt s (p : Int) == 46) = true := by simpa using hdot
        have HDOT := Aside0.mk hdot
        clear hdot
        go_wp2_with (go_at_call 68; (with_reducible refine (numeral_digit.calls (bt s (p : Int)) false _ A1.out).mono ?_); rintro e w' ⟨rfl, ⟨nd, rfl⟩⟩)
        go_step3
        refine HK.out 1 _ _ ⟨g4, g5, p, (p : Int) + 1, ⟨HP.out, hsp, HDOT.out, hsl, Int.le_refl _, by omega, by rw [show ((p : Int) + 1).toNat = p + 1 from by omega]⟩, ⟨hn, hg4, hg5, below_set (pw_below_drewN HB.out _) hg5, blk_far (blk_drewN H4.out _) hn _, blk_put (blk_drewN H5.out _) 1 _ rfl⟩, _, _, _, _, _, _, _, _, _, _, _, _, _, _, _, _, _, _, _, _, _, _, _, _, _, _, _, _, _, _, _, _, _, _, _, _, _, _, _, _, _, _, _, _, _, _, _, _, _, _, _, _, _, _, _, _, _, _, _, _, _, _, _, _, _, _, rfl⟩ ?_
        show (2 - 1) * (s.size + 1) + (s.size - ((p : Int) + 1).toNat) < (2 - 0) * (s.size + 1) + (s.size - (p : Int).toNat)
        omega
      · have hdb : (bt s (p : Int) == 46) = false := by simpa using hdot
        have HDOT := Aside0.mk hdot
        clear hdot
        go_wp2_with (go_at_call 68; (with_reducible refine (numeral_digit.calls (bt s (p : Int)) false _ A1.out).mono ?_); rintro e w' ⟨rfl, ⟨nd, rfl⟩⟩)
        go_step3
        refine HK.out 2 _ _ ⟨g4, g5, p, ⟨HP.out, fun hh => HDOT.out hh.2, hsl, by omega⟩, ⟨hn, hg4, hg5, below_set (pw_below_drewN HB.out _) hg5, blk_far (blk_drewN H4.out _) hn _, blk_put (blk_drewN H5.out _) 1 _ rfl⟩, _, _, _, _, _, _, _, _, _, _, _, _, _, _, _, _, _, _, _, _, _, _, _, _, _, _, _, _, _, _, _, _, _, _, _, _, _, _, _, _, _, _, _, _, _, _, _, _, _, _, _, _, _, _, _, _, _, _, _, _, _, _, _, _, _, _, rfl⟩ ?_
        show (2 - 2) * (s.size + 1) + (s.size - (p : Int).toNat) < (2 - 0) * (s.size + 1) + (s.size - (p : Int).toNat)
        omega
  · obtain ⟨p, rfl⟩ := Int.eq_ofNat_of_zero_le hx0
    have HP := Aside0.mk (show p = plainEnd s b from by rw [← hx3.out, Int.toNat_natCast, plainEnd_no (fun hh => hlt (by omega))])
    have hsl : b ≤ p := by omega
    go_wp2
    go_step3
    refine HK.out 2 _ _ ⟨g4, g5, p, ⟨HP.out, fun hh => absurd hh.1 (by omega), hsl, by omega⟩, ⟨hn, hg4, hg5, below_set HB.out hg5, blk_far H4.out hn _, blk_put H5.out 1 _ rfl⟩, _, _, _, _, _, _, _, _, _, _, _, _, _, _, _, _, _, _, _, _, _, _, _, _, _, _, _, _, _, _, _, _, _, _, _, _, _, _, _, _, _, _, _, _, _, _, _, _, _, _, _, _, _, _, _, _, _, _, _, _, _, _, _, _, _, _, rfl⟩ ?_
    show (2 - 2) * (s.size + 1) + (s.size - (p : Int).toNat) < (2 - 0) * (s.size + 1) + (s.size - (p : Int).toNat)
    omega
def plainOut (A B : ByteArray) (q : Int) : Bool × ByteArray × ByteArray × Int := if A.toList = [] ∧ B.toList = [] then (false, ⟨#[]⟩, ⟨#[]⟩, 0) else (false, A, B, q)
def plainCells (r : Bool × ByteArray × ByteArray × Int) : Array Value := #[.bool r.1, .string r.2.1, .string r.2.2.1, .int .i64 r.2.2.2]
set_option maxRecDepth 100000 in
set_option maxHeartbeats 4000000 in
/-- From the last label on. -/
theorem plain_pass2 (w : World) (K : Nat → Act → World → Prop) (Q : Exit → Act → World → Prop) (W : World) (g4 g5 p q : Nat) (s A B : ByteArray) (hpq : p ≤ q) (hq : (q : Int) < 9223372036854775807)
    (hw : Hid (g4 ≠ g5 ∧ w.heap.size ≤ g4 ∧ w.heap.size ≤ g5 ∧ Below w.heap.size w W ∧ W.heap[g4]? = some (.cells #[.bool false, .string ⟨#[]⟩, .string ⟨#[]⟩, .int .i64 0] 55 (0, 0)) ∧ W.heap[g5]? = some (.cells #[.bool false, .string A, .string B, .int .i64 0] 55 (0, 0))))
    (u6 u2 u3 u8 u9 u10 u11 u12 u13 u14 u15 u16 u17 u18 u19 u20 u21 u22 u23 u24 u25 u26 u27 u28 u29 u30 u31 u32 u33 u34 u35 u36 u37 u38 u39 u40 u41 u42 u43 u44 u45 u46 u47 u48 u49 u50 u51 u52 u53 u54 u55 u56 u57 u58 u59 u60 u61 u62 u63 u64 u65 u66 u67 u68 u69 u70 u71 : Value)
    (hQ : ∀ (g : Nat) (a' : Act) (W' : World), a'.tmps.getD 4 undef = .pointer (some ⟨g, 0, none⟩) → a'.defers = [] → W'.heap[g]? = some (.cells (plainCells (plainOut A B q)) 55 (0, 0)) → Below w.heap.size w W' → Q .ret a' W') :
    Code.wp Tryd.prog (plainTail 2) (plainJumps K Q) ⟨#[.string s, .int .i64 (q : Nat), u2, u3, .pointer (some ⟨g4, 0, none⟩), .pointer (some ⟨g5, 0, none⟩), u6, .int .i64 (p : Nat), u8, u9, u10, u11, u12, u13, u14, u15, u16, u17, u18, u19, u20, u21, u22, u23, u24, u25, u26, u27, u28, u29, u30, u31, u32, u33, u34, u35, u36, u37, u38, u39, u40, u41, u42, u43, u44, u45, u46, u47, u48, u49, u50, u51, u52, u53, u54, u55, u56, u57, u58, u59, u60, u61, u62, u63, u64, u65, u66, u67, u68, u69, u70, u71], []⟩ W := by
  conv => arg 2; whnf
  obtain ⟨hn, hg4, hg5, hb, hc4, hc5⟩ := hw.out
  have hn' := hn.symm
  have HB := Aside0.mk hb
  have H4 := Aside0.mk hc4
  have H5 := Aside0.mk hc5
  clear hb hc4 hc5 hw
  have HQ := Aside0.mk hQ
  clear hQ
  have hu := Tryd.underlying55
  have hc50 : W.cell? ⟨g5, 0, none⟩ = some (.bool false) := (blk_cell H5.out 0).trans rfl
  have hc51 : W.cell? ⟨g5, 1, none⟩ = some (.string A) := (blk_cell H5.out 1).trans rfl
  have hc52 : W.cell? ⟨g5, 2, none⟩ = some (.string B) := (blk_cell H5.out 2).trans rfl
  have hc53 : W.cell? ⟨g5, 3, none⟩ = some (.int .i64 0) := (blk_cell H5.out 3).trans rfl
  have hf53 := blk_frozen H5.out 3
  have hc40 : W.cell? ⟨g4, 0, none⟩ = some (.bool false) := (blk_cell H4.out 0).trans rfl
  have hc41 : W.cell? ⟨g4, 1, none⟩ = some (.string ⟨#[]⟩) := (blk_cell H4.out 1).trans rfl
  have hc42 : W.cell? ⟨g4, 2, none⟩ = some (.string ⟨#[]⟩) := (blk_cell H4.out 2).trans rfl
  have hc43 : W.cell? ⟨g4, 3, none⟩ = some (.int .i64 0) := (blk_cell H4.out 3).trans rfl
  have hf40 := blk_frozen H4.out 0
  have hf41 := blk_frozen H4.out 1
  have hf42 := blk_frozen H4.out 2
  have hf43 := blk_frozen H4.out 3
  by_cases hA : A.toList = []
  · have hAb : (A.toList == []) = true := by simpa using hA
    have hAc : A.toList.isEmpty = true := by simp [hA]
    have HA := Aside0.mk hA
    clear hA
    by_cases hB : B.toList = []
    · have hBb : (B.toList == []) = true := by simpa using hB
      have hBc : B.toList.isEmpty = true := by simp [hB]
      have HE := Aside0.mk (show plainOut A B q = (false, ⟨#[]⟩, ⟨#[]⟩, 0) from if_pos ⟨HA.out, hB⟩)
      clear hB
      go_wp2
      show Q .ret _ _
      refine HQ.out g4 _ _ rfl rfl ?_ (below_set (below_set (below_set (below_set HB.out hg4) hg4) hg4) hg4)
      rw [HE.out]
      exact blk_put (blk_put (blk_put (blk_put H4.out 0 _ rfl) 1 _ rfl) 2 _ rfl) 3 _ rfl
    · have hBb : (B.toList == []) = false := by simpa using hB
      have hBc : B.toList.isEmpty = false := by simpa using hB
      have HE := Aside0.mk (show plainOut A B q = (false, A, B, (q : Int)) from if_neg fun hh => hB hh.2)
      clear hB
      go_wp2
      show Q .ret _ _
      refine HQ.out g4 _ _ rfl rfl ?_ (below_set (below_set (below_set (below_set (below_set HB.out hg5) hg4) hg4) hg4) hg4)
      rw [HE.out]
      exact blk_put (blk_put (blk_put (blk_put (blk_far H4.out hn _) 0 _ rfl) 1 _ rfl) 2 _ rfl) 3 _ rfl
  · have hAb : (A.toList == []) = false := by simpa using hA
    have hAc : A.toList.isEmpty = false := by simpa using hA
    have HE := Aside0.mk (show plainOut A B q = (false, A, B, (q : Int)) from if_neg fun hh => hA hh.1)
    clear hA
    go_wp2
    show Q .ret _ _
    refine HQ.out g4 _ _ rfl rfl ?_ (below_set (below_set (below_set (below_set (below_set HB.out hg5) hg4) hg4) hg4) hg4)
    rw [HE.out]
    exact blk_put (blk_put (blk_put (blk_put (blk_far H4.out hn _) 0 _ rfl) 1 _ rfl) 2 _ rfl) 3 _ rfl

set_option maxRecDepth 100000 in
set_option maxHeartbeats 4000000 in
/-- From the middle label on. -/
theorem plain_pass1 (s : ByteArray) (b : Nat) (w : World) (K : Nat → Act → World → Prop) (Q : Exit → Act → World → Prop) (W : World) (g4 g5 p : Nat) (x : Int) (hs : (s.size : Int) < 9223372036854775807)
    (hx : Hid (p = plainEnd s b ∧ p < s.size ∧ bt s p = 46 ∧ b ≤ p ∧ (p : Int) + 1 ≤ x ∧ x ≤ (s.size : Int) ∧ plainEnd s x.toNat = plainEnd s (p + 1)))
    (hw : Hid (g4 ≠ g5 ∧ w.heap.size ≤ g4 ∧ w.heap.size ≤ g5 ∧ Below w.heap.size w W ∧ W.heap[g4]? = some (.cells #[.bool false, .string ⟨#[]⟩, .string ⟨#[]⟩, .int .i64 0] 55 (0, 0)) ∧ W.heap[g5]? = some (.cells #[.bool false, .string (s.extract b p), .string ⟨#[]⟩, .int .i64 0] 55 (0, 0))))
    (u2 u3 u8 u9 u10 u11 u12 u13 u14 u15 u16 u17 u18 u19 u20 u21 u22 u23 u24 u25 u26 u27 u28 u29 u30 u31 u32 u33 u34 u35 u36 u37 u38 u39 u40 u41 u42 u43 u44 u45 u46 u47 u48 u49 u50 u51 u52 u53 u54 u55 u56 u57 u58 u59 u60 u61 u62 u63 u64 u65 u66 u67 u68 u69 u70 u71 : Value)
    (hK : ∀ l a' w', plainJ s b w l a' w' → plainM s l a' w' < plainM s 1 ⟨#[.string s, .int .i64 x, u2, u3, .pointer (some ⟨g4, 0, none⟩), .pointer (some ⟨g5, 0, none⟩), .int .i64 ((p : Int) + 1), .int .i64 (p : Nat), u8, u9, u10, u11, u12, u13, u14, u15, u16, u17, u18, u19, u20, u21, u22, u23, u24, u25, u26, u27, u28, u29, u30, u31, u32, u33, u34, u35, u36, u37, u38, u39, u40, u41, u42, u43, u44, u45, u46, u47, u48, u49, u50, u51, u52, u53, u54, u55, u56, u57, u58, u59, u60, u61, u62, u63, u64, u65, u66, u67, u68, u69, u70, u71], []⟩ W → K l a' w')
    (hQ : ∀ (g : Nat) (a' : Act) (W' : World), a'.tmps.getD 4 undef = .pointer (some ⟨g, 0, none⟩) → a'.defers = [] → W'.heap[g]? = some (.cells (plainCells (plainF s b)) 55 (0, 0)) → Below w.heap.size w W' → Q .ret a' W') :
    Code.wp Tryd.prog (plainTail 1) (plainJumps K Q) ⟨#[.string s, .int .i64 x, u2, u3, .pointer (some ⟨g4, 0, none⟩), .pointer (some ⟨g5, 0, none⟩), .int .i64 ((p : Int) + 1), .int .i64 (p : Nat), u8, u9, u10, u11, u12, u13, u14, u15, u16, u17, u18, u19, u20, u21, u22, u23, u24, u25, u26, u27, u28, u29, u30, u31, u32, u33, u34, u35, u36, u37, u38, u39, u40, u41, u42, u43, u44, u45, u46, u47, u48, u49, u50, u51, u52, u53, u54, u55, u56, u57, u58, u59, u60, u61, u62, u63, u64, u65, u66, u67, u68, u69, u70, u71], []⟩ W := by
  conv => arg 2; whnf
  obtain ⟨hx1, hx2, hx3, hx4, hx5, hx6, hx7⟩ := hx.out
  have HX1 := Aside0.mk hx1
  have HX3 := Aside0.mk hx3
  have HX7 := Aside0.mk hx7
  clear hx1 hx3 hx7
  obtain ⟨hn, hg4, hg5, hb, hc4, hc5⟩ := hw.out
  have HB := Aside0.mk hb
  have H4 := Aside0.mk hc4
  have H5 := Aside0.mk hc5
  clear hb hc4 hc5 hx hw
  have HK := Aside0.mk hK
  have HQ := Aside0.mk hQ
  clear hK hQ
  have hc50 : W.cell? ⟨g5, 2, none⟩ = some (.string ⟨#[]⟩) := (blk_cell H5.out 2).trans rfl
  have hf50 := blk_frozen H5.out 2
  have hx0 : 0 ≤ x := by omega
  have hp0 : 0 ≤ (p : Int) + 1 := by omega
  have hp1 : ((p : Int) + 1).toNat = p + 1 := by omega
  by_cases hlt : x < (s.size : Int)
  · by_cases hd : plainDig (bt s x) = true
    · have A1 := Aside0.mk (plainDig_at hd)
      have HD := Aside0.mk hd
      clear hd
      have hbx := bt_at s x
      have p1 := eq_true hx0
      have q1 := eq_true hlt
      go_wp2_with (go_at_call 68; (with_reducible refine (numeral_digit.calls (bt s x) true _ A1.out).mono ?_); rintro e w' ⟨rfl, ⟨nd, rfl⟩⟩)
      go_step3
      refine HK.out 1 _ _ ⟨g4, g5, p, x + 1, ⟨HX1.out, hx2, HX3.out, hx4, by omega, by omega, ?_⟩, ⟨hn, hg4, hg5, pw_below_drewN HB.out _, blk_drewN H4.out _, blk_drewN H5.out _⟩, _, _, _, _, _, _, _, _, _, _, _, _, _, _, _, _, _, _, _, _, _, _, _, _, _, _, _, _, _, _, _, _, _, _, _, _, _, _, _, _, _, _, _, _, _, _, _, _, _, _, _, _, _, _, _, _, _, _, _, _, _, _, _, _, _, _, rfl⟩ ?_
      · rw [show (x + 1).toNat = x.toNat + 1 from by omega, ← plainEnd_yes (by omega) (by rw [show ((x.toNat : Nat) : Int) = x from by omega]; exact HD.out)]
        exact HX7.out
      · show (2 - 1) * (s.size + 1) + (s.size - (x + 1).toNat) < (2 - 1) * (s.size + 1) + (s.size - x.toNat)
        omega
    · have A1 := Aside0.mk (plainDig_at (d := false) (by simpa using hd))
      obtain ⟨q, rfl⟩ := Int.eq_ofNat_of_zero_le hx0
      have HP := Aside0.mk (show q = plainEnd s (p + 1) from by rw [← HX7.out, Int.toNat_natCast, plainEnd_no (fun hh => hd hh.2)])
      clear hd
      have hbx2 : ∀ h : q < s.size, ((s[q]'h).toNat : Int) = bt s (q : Int) := bt_at s (q : Int)
      have p1 := eq_true hx0
      have q1 := eq_true hlt
      have hsp : q < s.size := by omega
      have hpq : (p : Int) + 1 ≤ (q : Int) := by omega
      have HF := Aside0.mk (show plainF s b = plainOut (s.extract b p) (s.extract (p + 1) q) q from by unfold plainF plainOut; rw [← HX1.out, if_pos ⟨hx2, HX3.out⟩, ← HP.out])
      go_wp2_with (go_at_call 68; (with_reducible refine (numeral_digit.calls (bt s (q : Int)) false _ A1.out).mono ?_); rintro e w' ⟨rfl, ⟨nd, rfl⟩⟩)
      go_step3
      show (_ : Act → World → Prop) _ _
      refine (by assumption : ∀ (a_ : Act) (w_ : World), Code.wp Tryd.prog _ (plainJumps K Q) a_ w_ → _) _ _ ?_
      refine plain_pass2 w K Q _ g4 g5 p q s (s.extract b p) (s.extract (p + 1) q) (by omega) (by omega) ⟨hn, hg4, hg5, below_set (pw_below_drewN HB.out _) hg5, blk_far (blk_drewN H4.out _) hn _, blk_put (blk_drewN H5.out _) 2 _ rfl⟩ _ _ _ _ _ _ _ _ _ _ _ _ _ _ _ _ _ _ _ _ _ _ _ _ _ _ _ _ _ _ _ _ _ _ _ _ _ _ _ _ _ _ _ _ _ _ _ _ _ _ _ _ _ _ _ _ _ _ _ _ _ _ _ _ _ _ _ ?_
      intro g a' W' e1 e2 e3 e4
      exact HQ.out g a' W' e1 e2 (by rw [HF.out]; exact e3) e4
  · obtain ⟨q, rfl⟩ := Int.eq_ofNat_of_zero_le hx0
    have HP := Aside0.mk (show q = plainEnd s (p + 1) from by rw [← HX7.out, Int.toNat_natCast, plainEnd_no (fun hh => hlt (by omega))])
    have hpq : (p : Int) + 1 ≤ (q : Int) := by omega
    have HF := Aside0.mk (show plainF s b = plainOut (s.extract b p) (s.extract (p + 1) q) q from by unfold plainF plainOut; rw [← HX1.out, if_pos ⟨hx2, HX3.out⟩, ← HP.out])
    go_wp2
    go_step3
    show (_ : Act → World → Prop) _ _
    refine (by assumption : ∀ (a_ : Act) (w_ : World), Code.wp Tryd.prog _ (plainJumps K Q) a_ w_ → _) _ _ ?_
    refine plain_pass2 w K Q _ g4 g5 p q s (s.extract b p) (s.extract (p + 1) q) (by omega) (by omega) ⟨hn, hg4, hg5, below_set HB.out hg5, blk_far H4.out hn _, blk_put H5.out 2 _ rfl⟩ _ _ _ _ _ _ _ _ _ _ _ _ _ _ _ _ _ _ _ _ _ _ _ _ _ _ _ _ _ _ _ _ _ _ _ _ _ _ _ _ _ _ _ _ _ _ _ _ _ _ _ _ _ _ _ _ _ _ _ _ _ _ _ _ _ _ _ ?_
    intro g a' W' e1 e2 e3 e4
    exact HQ.out g a' W' e1 e2 (by rw [HF.out]; exact e3) e4

set_option maxRecDepth 100000 in
set_option maxHeartbeats 4000000 in
theorem numeral_plain.calls (a0 : ByteArray) (a1 : Int) (r1 : Bool) (r2 : ByteArray) (r3 : ByteArray) (r4 : Int) (w : World) (h : numeral_plain.f a0 a1 = some (r1, r2, r3, r4)) :
    Calls Tryd.prog 36 #[.string a0, .int .i64 a1] w fun e w' => e = .returned (.agg #[.bool r1, .string r2, .string r3, .int .i64 r4]) ∧ Below w.heap.size w w' := by
  unfold numeral_plain.f at h
  split at h
  · rename_i hh
    obtain ⟨h0, h1, h2⟩ := hh
    obtain ⟨b, rfl⟩ := Int.eq_ofNat_of_zero_le h0
    rw [Int.toNat_natCast] at h
    have HR := Aside0.mk (Option.some.inj h)
    clear h
    have hu := Tryd.underlying55
    have hQ : ∀ (g : Nat) (a' : Act) (W' : World), a'.tmps.getD 4 undef = .pointer (some ⟨g, 0, none⟩) → a'.defers = [] → W'.heap[g]? = some (.cells (plainCells (plainF a0 b)) 55 (0, 0)) → Below w.heap.size w W' →
        bodyPost Tryd.prog Tryd.f36 (fun e w' => e = .returned (.agg #[.bool r1, .string r2, .string r3, .int .i64 r4]) ∧ Below w.heap.size w w') .ret a' W' := by
      intro g a' W' e1 e2 e3 e4
      rw [HR.out] at e3
      refine bodyPost_ret (results_cell_row rfl _ _ g 55 (plainCells (r1, r2, r3, r4)) (0, 0) _ e1 e3 hu rfl (by kernel_rfl)) e2 ⟨rfl, e4⟩
    have HQ := Aside0.mk hQ
    clear hQ
    have HB := Aside0.mk (Below.refl w.heap.size w)
    go_enter Tryd.func36, Tryd.ntmps36
    go_wp2
    refine plain_scope (plainJ a0 b w) (plainM a0) plainJ_label rfl rfl rfl ?_ ?_ ?_ ?_
    · go_wp2_with fail
      go_step3
      show (_ : Act → World → Prop) _ _
      refine (by assumption : ∀ (a_ : Act) (w_ : World), Code.wp Tryd.prog _ (plainJumps _ _) a_ w_ → _) _ _ ?_
      refine plain_pass0 a0 b w _ _ _ w.heap.size (w.heap.size + 1) (b : Int) h2 ⟨Int.le_refl _, h1, rfl⟩ ⟨by omega, Nat.le_refl _, by omega, ?_, ?_, ?_⟩ _ _ _ _ _ _ _ _ _ _ _ _ _ _ _ _ _ _ _ _ _ _ _ _ _ _ _ _ _ _ _ _ _ _ _ _ _ _ _ _ _ _ _ _ _ _ _ _ _ _ _ _ _ _ _ _ _ _ _ _ _ _ _ _ _ _ (fun l a' w' h _ => h)
      · exact ((Below.refl _ _).alloc (Nat.le_refl _) _).alloc (by simp) _
      · exact (Below.heap_alloc _ _ _ (by simp)).trans (blk_new w _)
      · have := blk_new (w.alloc (.cells #[.bool false, .string ⟨#[]⟩, .string ⟨#[]⟩, .int .i64 0] 55 (0, 0))) (.cells #[.bool false, .string ⟨#[]⟩, .string ⟨#[]⟩, .int .i64 0] 55 (0, 0))
        rwa [World.size_alloc] at this
    · rintro a W ⟨g4, g5, x, hx, hw, u2, u3, u8, u9, u10, u11, u12, u13, u14, u15, u16, u17, u18, u19, u20, u21, u22, u23, u24, u25, u26, u27, u28, u29, u30, u31, u32, u33, u34, u35, u36, u37, u38, u39, u40, u41, u42, u43, u44, u45, u46, u47, u48, u49, u50, u51, u52, u53, u54, u55, u56, u57, u58, u59, u60, u61, u62, u63, u64, u65, u66, u67, u68, u69, u70, u71, rfl⟩
      refine wp_seq (wp_skip ?_)
      exact plain_pass0 a0 b w _ _ W g4 g5 x h2 hx hw u2 u3 u8 u9 u10 u11 u12 u13 u14 u15 u16 u17 u18 u19 u20 u21 u22 u23 u24 u25 u26 u27 u28 u29 u30 u31 u32 u33 u34 u35 u36 u37 u38 u39 u40 u41 u42 u43 u44 u45 u46 u47 u48 u49 u50 u51 u52 u53 u54 u55 u56 u57 u58 u59 u60 u61 u62 u63 u64 u65 u66 u67 u68 u69 u70 u71 (fun l a' w' h1 h2 => ⟨h1, h2⟩)
    · rintro a W ⟨g4, g5, p, x, hx, hw, u2, u3, u8, u9, u10, u11, u12, u13, u14, u15, u16, u17, u18, u19, u20, u21, u22, u23, u24, u25, u26, u27, u28, u29, u30, u31, u32, u33, u34, u35, u36, u37, u38, u39, u40, u41, u42, u43, u44, u45, u46, u47, u48, u49, u50, u51, u52, u53, u54, u55, u56, u57, u58, u59, u60, u61, u62, u63, u64, u65, u66, u67, u68, u69, u70, u71, rfl⟩
      refine wp_seq (wp_skip ?_)
      exact plain_pass1 a0 b w _ _ W g4 g5 p x h2 hx hw u2 u3 u8 u9 u10 u11 u12 u13 u14 u15 u16 u17 u18 u19 u20 u21 u22 u23 u24 u25 u26 u27 u28 u29 u30 u31 u32 u33 u34 u35 u36 u37 u38 u39 u40 u41 u42 u43 u44 u45 u46 u47 u48 u49 u50 u51 u52 u53 u54 u55 u56 u57 u58 u59 u60 u61 u62 u63 u64 u65 u66 u67 u68 u69 u70 u71 (fun l a' w' h1 h2 => ⟨h1, h2⟩) HQ.out
    · rintro a W ⟨g4, g5, p, hx, hw, u2, u3, u8, u9, u10, u11, u12, u13, u14, u15, u16, u17, u18, u19, u20, u21, u22, u23, u24, u25, u26, u27, u28, u29, u30, u31, u32, u33, u34, u35, u36, u37, u38, u39, u40, u41, u42, u43, u44, u45, u46, u47, u48, u49, u50, u51, u52, u53, u54, u55, u56, u57, u58, u59, u60, u61, u62, u63, u64, u65, u66, u67, u68, u69, u70, u71, rfl⟩
      obtain ⟨x1, x2, x3, x4⟩ := hx.out
      refine wp_seq (wp_skip ?_)
      refine plain_pass2 w _ _ W g4 g5 p p a0 (a0.extract b p) ⟨#[]⟩ (Nat.le_refl _) (by omega) hw _ u2 u3 u8 u9 u10 u11 u12 u13 u14 u15 u16 u17 u18 u19 u20 u21 u22 u23 u24 u25 u26 u27 u28 u29 u30 u31 u32 u33 u34 u35 u36 u37 u38 u39 u40 u41 u42 u43 u44 u45 u46 u47 u48 u49 u50 u51 u52 u53 u54 u55 u56 u57 u58 u59 u60 u61 u62 u63 u64 u65 u66 u67 u68 u69 u70 u71 ?_
      intro g a' W' e1 e2 e3 e4
      refine HQ.out g a' W' e1 e2 ?_ e4
      rw [show plainF a0 b = plainOut (a0.extract b p) ⟨#[]⟩ p from by unfold plainF plainOut; rw [← x1, if_neg x2]; simp]
      exact e3
  · cases h


/-! ### numeral_signed: function 33 -/
def numeral_signed.f (k : Nat) (a0 : ByteArray) : Option (Bool × ByteArray × ByteArray × Int) := (numeral_blanks.f k a0).bind fun t115 => (if t115 < (a0.size : Int) then (if 0 ≤ t115 then (if (bt a0 t115) = 45 then ((numeral_plain.f a0 (wrap64 (t115 + 1))).bind fun bt116 => (some (decide (bt116.2.2.2 > 0), bt116.2.1, bt116.2.2.1, bt116.2.2.2))) else ((numeral_plain.f a0 t115).bind fun bt121 => (some (false, bt121.2.1, bt121.2.2.1, bt121.2.2.2)))) else (none)) else ((numeral_plain.f a0 t115).bind fun bt126 => (some (false, bt126.2.1, bt126.2.2.1, bt126.2.2.2))))
set_option maxHeartbeats 8000000 in
set_option maxRecDepth 100000 in
theorem numeral_signed.calls (k : Nat) (a0 : ByteArray) (r1 : Bool) (r2 : ByteArray) (r3 : ByteArray) (r4 : Int) (w : World) (h : numeral_signed.f k a0 = some (r1, r2, r3, r4)) :
  Calls Tryd.prog 33 #[.string a0] w fun e w' => e = .returned (.agg #[.bool r1, .string r2, .string r3, .int .i64 r4]) ∧ Below w.heap.size w w' := by
 have hu55 := Tryd.underlying55
 have HB := Aside0.mk (Below.refl w.heap.size w)
 have H : ((numeral_blanks.f k a0).bind fun t115 => (if t115 < (a0.size : Int) then (if 0 ≤ t115 then (if (bt a0 t115) = 45 then ((numeral_plain.f a0 (wrap64 (t115 + 1))).bind fun bt116 => (some (decide (bt116.2.2.2 > 0), bt116.2.1, bt116.2.2.1, bt116.2.2.2))) else ((numeral_plain.f a0 t115).bind fun bt121 => (some (false, bt121.2.1, bt121.2.2.1, bt121.2.2.2)))) else (none)) else ((numeral_plain.f a0 t115).bind fun bt126 => (some (false, bt126.2.1, bt126.2.2.1, bt126.2.2.2))))) = some (r1, r2, r3, r4) := h
 clear h
 replace H := Option.bind_eq_some_iff.mp H
 obtain ⟨t115, A20, H⟩ := H
 replace H : (if t115 < (a0.size : Int) then (if 0 ≤ t115 then (if (bt a0 t115) = 45 then ((numeral_plain.f a0 (wrap64 (t115 + 1))).bind fun bt116 => (some (decide (bt116.2.2.2 > 0), bt116.2.1, bt116.2.2.1, bt116.2.2.2))) else ((numeral_plain.f a0 t115).bind fun bt121 => (some (false, bt121.2.1, bt121.2.2.1, bt121.2.2.2)))) else (none)) else ((numeral_plain.f a0 t115).bind fun bt126 => (some (false, bt126.2.1, bt126.2.2.1, bt126.2.2.2)))) = some (r1, r2, r3, r4) := H
 have A2 := Aside0.mk A20
 clear A20
 by_cases c3 : t115 < (a0.size : Int)
 ·
  rw [if_pos c3] at H
  have c3b0 : decide (t115 < (a0.size : Int)) = true := decide_eq_true c3
  clear c3
  by_cases c4 : 0 ≤ t115
  ·
   rw [if_pos c4] at H
   have c4b0 : decide (0 ≤ t115) = true := decide_eq_true c4
   clear c4
   by_cases c6 : (bt a0 t115) = 45
   ·
    rw [if_pos c6] at H
    have c6b0 : ((bt a0 t115) == 45) = true := beq_iff_eq.mpr c6
    have c6b1 : ((bt a0 t115) != 45) = false := bne_eq_false_iff_eq.mpr c6
    clear c6
    replace H := Option.bind_eq_some_iff.mp H
    obtain ⟨⟨t116, t117, t118, t119⟩, A70, H⟩ := H
    replace H : (some (decide (t119 > 0), t117, t118, t119)) = some (r1, r2, r3, r4) := H
    have A7 := Aside0.mk A70
    clear A70
    simp only [Option.some.injEq, Prod.mk.injEq] at H
    obtain ⟨rfl, rfl, rfl, rfl⟩ := H
    go_enter Tryd.func33, Tryd.ntmps33
    have tk15 : True := trivial; have tk16 : True := trivial; have tk17 : True := trivial; have tk18 : True := trivial
    go_wp2_with (first | (have ztk15 := tk15; clear tk15 ztk15; (with_reducible refine gate_dst (N := 2) rfl ?_); refine box_event ?hg (N := 2) ?hd (cs := #[.bool false, .string (⟨#[]⟩ : ByteArray), .string (⟨#[]⟩ : ByteArray), .int .i64 0]) (t := 55) ?hr ?_; (case hd => rfl); (case hg => rfl); (case hr => first | (go_simp; done) | (go_simp; rfl)); intro gb114 hg w8 hbox hb; have n0_ := Aside0.mk (below_step qnu1_ hb); have n1_ := Aside0.mk (hbox); have n2_ := Aside0.mk ((by rw [hg]; exact (below_size qnu1_) : w.heap.size ≤ gb114)); have n3_ := Aside0.mk ((by rw [hg]; exact (below_size qnu1_) : w.heap.size ≤ gb114)); clear HB; have HB := n0_; have BK114 := n1_; have GW114 := n2_; have GE114 := n3_; clear n0_ n1_ n2_ n3_; clear hb hbox hg) | (have ztk16 := tk16; clear tk16 ztk16; (with_reducible refine gate_callee (f := 34) rfl ?_); refine goesL_ (some 7) rfl rfl Tryd.func34 (by kernel_rfl) rfl #[.string a0] rfl qnu0_ ?_; (with_reducible refine (numeral_blanks.calls k a0 t115 _ A2.out).mono ?_); rintro e w' ⟨rfl, ⟨nd, rfl⟩⟩; refine ⟨_, rfl, ?_⟩; (try (rw [drewN_self w8]; generalize hq_ : World.drewN w8 _ = w8; have n0_ : Aside0 (w8.heap[gb114]? = some (.cells #[.bool false, .string (⟨#[]⟩ : ByteArray), .string (⟨#[]⟩ : ByteArray), .int .i64 0] 55 (0, 0))) := ⟨by rw [← hq_]; exact qnu20_⟩; have n1_ : Aside0 (Below w.heap.size w w8) := ⟨by rw [← hq_]; exact qnu16_⟩; clear BK114 HB hq_; have BK114 := n0_; have HB := n1_; clear n0_ n1_)); (try (have hcu9_0 : w8.cell? ⟨gb114, 0, none⟩ = some (.bool false) := (blk_cell BK114.out 0).trans rfl; have hfu9_0 := blk_frozen BK114.out 0; have hcu9_1 : w8.cell? ⟨gb114, 1, none⟩ = some (.string (⟨#[]⟩ : ByteArray)) := (blk_cell BK114.out 1).trans rfl; have hfu9_1 := blk_frozen BK114.out 1; have hcu9_2 : w8.cell? ⟨gb114, 2, none⟩ = some (.string (⟨#[]⟩ : ByteArray)) := (blk_cell BK114.out 2).trans rfl; have hfu9_2 := blk_frozen BK114.out 2; have hcu9_3 : w8.cell? ⟨gb114, 3, none⟩ = some (.int .i64 0) := (blk_cell BK114.out 3).trans rfl; have hfu9_3 := blk_frozen BK114.out 3)); have p5 : 0 ≤ (t115 : Int) := of_decide_eq_true qnu6_; have q5 : t115 < (a0.size : Int) := of_decide_eq_true qnu6_; have hx5 := bt_at a0 t115; replace p5 := eq_true p5; replace q5 := eq_true q5) | (have ztk17 := tk17; clear tk17 ztk17; (with_reducible refine gate_callee (f := 36) rfl ?_); refine goesL_ (some 23) rfl rfl Tryd.func36 (by kernel_rfl) rfl #[.string a0, .int .i64 (wrap64 (t115 + 1))] rfl qnu0_ ?_; (with_reducible refine (numeral_plain.calls a0 (wrap64 (t115 + 1)) t116 t117 t118 t119 _ A7.out).mono ?_); rintro e w10 ⟨rfl, hb⟩; refine ⟨_, rfl, ?_⟩; have n0_ := Aside0.mk (blk_below (g := gb114) (o := .cells #[.bool false, .string (⟨#[]⟩ : ByteArray), .string (⟨#[]⟩ : ByteArray), .int .i64 0] 55 (0, 0)) qnu20_ hb); have n1_ := Aside0.mk (below_step qnu16_ hb); clear BK114; clear HB; have BK114 := n0_; have HB := n1_; clear n0_ n1_; (try clear hb); (try clear hb2); (try clear hk); (try clear hi)) | (have ztk18 := tk18; clear tk18 ztk18; (with_reducible refine gate_dst (N := 5) rfl ?_); refine box_event ?hg (N := 5) ?hd (cs := #[.bool false, .string (⟨#[]⟩ : ByteArray), .string (⟨#[]⟩ : ByteArray), .int .i64 0]) (t := 55) ?hr ?_; (case hd => rfl); (case hg => rfl); (case hr => first | (go_simp; done) | (go_simp; rfl)); intro gb120 hg w11 hbox hb; have n0_ := Aside0.mk (blk_below (g := gb114) (o := .cells #[.bool false, .string (⟨#[]⟩ : ByteArray), .string (⟨#[]⟩ : ByteArray), .int .i64 0] 55 (0, 0)) qnu20_ hb); have n1_ := Aside0.mk (below_step qnu16_ hb); have n2_ := Aside0.mk (hbox); have n3_ := Aside0.mk ((by rw [hg]; exact (below_size qnu16_) : w.heap.size ≤ gb120)); have n4_ := Aside0.mk ((by rw [hg]; exact (below_size qnu16_) : w.heap.size ≤ gb120)); have n5_ := Aside0.mk ((by rw [hg]; exact Nat.ne_of_lt (blk_lt (g := gb114) (o := .cells #[.bool false, .string (⟨#[]⟩ : ByteArray), .string (⟨#[]⟩ : ByteArray), .int .i64 0] 55 (0, 0)) qnu20_) : gb114 ≠ gb120)); have n6_ := Aside0.mk ((by rw [hg]; exact Nat.ne_of_gt (blk_lt (g := gb114) (o := .cells #[.bool false, .string (⟨#[]⟩ : ByteArray), .string (⟨#[]⟩ : ByteArray), .int .i64 0] 55 (0, 0)) qnu20_) : gb120 ≠ gb114)); clear BK114; clear HB; have BK114 := n0_; have HB := n1_; have BK120 := n2_; have GW120 := n3_; have GE120 := n4_; have NB114_120 := n5_; have NB120_114 := n6_; clear n0_ n1_ n2_ n3_ n4_ n5_ n6_; clear hb hbox hg; have hnb12 := NB120_114.out; have hnc12 := NB114_120.out; have hcz13_0 : w11.cell? ⟨gb120, 0, none⟩ = some (.bool false) := (blk_cell BK120.out 0).trans rfl; have hcz13_1 : w11.cell? ⟨gb120, 1, none⟩ = some (.string (⟨#[]⟩ : ByteArray)) := (blk_cell BK120.out 1).trans rfl; have hcz13_2 : w11.cell? ⟨gb120, 2, none⟩ = some (.string (⟨#[]⟩ : ByteArray)) := (blk_cell BK120.out 2).trans rfl; have hcz13_3 : w11.cell? ⟨gb120, 3, none⟩ = some (.int .i64 0) := (blk_cell BK120.out 3).trans rfl; have hfz13_0 := blk_frozen BK120.out 0; have hfz13_1 := blk_frozen BK120.out 1; have hfz13_2 := blk_frozen BK120.out 2; have hfz13_3 := blk_frozen BK120.out 3; have hcz14_0 : w11.cell? ⟨gb114, 0, none⟩ = some (.bool false) := (blk_cell BK114.out 0).trans rfl; have hcz14_1 : w11.cell? ⟨gb114, 1, none⟩ = some (.string (⟨#[]⟩ : ByteArray)) := (blk_cell BK114.out 1).trans rfl; have hcz14_2 : w11.cell? ⟨gb114, 2, none⟩ = some (.string (⟨#[]⟩ : ByteArray)) := (blk_cell BK114.out 2).trans rfl; have hcz14_3 : w11.cell? ⟨gb114, 3, none⟩ = some (.int .i64 0) := (blk_cell BK114.out 3).trans rfl; have hfz14_0 := blk_frozen BK114.out 0; have hfz14_1 := blk_frozen BK114.out 1; have hfz14_2 := blk_frozen BK114.out 2; have hfz14_3 := blk_frozen BK114.out 3))
    refine bodyPost_ret (results_cell_row rfl _ _ gb114 55 #[.bool (decide (t119 > 0)), .string t117, .string t118, .int .i64 t119] (0, 0) _ rfl (by (with_reducible repeat (first | refine blk_drewN ?_ _ | refine blk_drew ?_ | refine blk_alloc ?_ _)); refine blk_put (cs := #[.bool (decide (t119 > 0)), .string t117, .string t118, .int .i64 0]) ?_ 3 _ rfl; (with_reducible repeat (first | refine blk_drewN ?_ _ | refine blk_drew ?_ | refine blk_alloc ?_ _)); refine blk_put (cs := #[.bool (decide (t119 > 0)), .string t117, .string (⟨#[]⟩ : ByteArray), .int .i64 0]) ?_ 2 _ rfl; (with_reducible repeat (first | refine blk_drewN ?_ _ | refine blk_drew ?_ | refine blk_alloc ?_ _)); refine blk_put (cs := #[.bool (decide (t119 > 0)), .string (⟨#[]⟩ : ByteArray), .string (⟨#[]⟩ : ByteArray), .int .i64 0]) ?_ 1 _ rfl; (with_reducible repeat (first | refine blk_drewN ?_ _ | refine blk_drew ?_ | refine blk_alloc ?_ _)); refine blk_put (cs := #[.bool false, .string (⟨#[]⟩ : ByteArray), .string (⟨#[]⟩ : ByteArray), .int .i64 0]) ?_ 0 _ rfl; (with_reducible repeat (first | refine blk_drewN ?_ _ | refine blk_drew ?_ | refine blk_alloc ?_ _)); refine blk_far ?_ NB114_120.out _; (with_reducible repeat (first | refine blk_drewN ?_ _ | refine blk_drew ?_ | refine blk_alloc ?_ _)); refine blk_far ?_ NB114_120.out _; (with_reducible repeat (first | refine blk_drewN ?_ _ | refine blk_drew ?_ | refine blk_alloc ?_ _)); refine blk_far ?_ NB114_120.out _; (with_reducible repeat (first | refine blk_drewN ?_ _ | refine blk_drew ?_ | refine blk_alloc ?_ _)); refine blk_far ?_ NB114_120.out _; (with_reducible repeat (first | refine blk_drewN ?_ _ | refine blk_drew ?_ | refine blk_alloc ?_ _)); refine blk_far ?_ NB114_120.out _; (with_reducible repeat (first | refine blk_drewN ?_ _ | refine blk_drew ?_ | refine blk_alloc ?_ _)); exact BK114.out) Tryd.underlying55 rfl (by kernel_rfl)) rfl ?_
    exact ⟨qnu10_, by repeat (first | (with_reducible first | exact HB.out | apply below_alloc | apply pw_below_drewN | apply below_drew1 | refine below_set ?_ GE114.out | refine below_set ?_ GE120.out) | exact HB.out)⟩
   ·
    rw [if_neg c6] at H
    have c6b0 : ((bt a0 t115) == 45) = false := beq_eq_false_iff_ne.mpr c6
    have c6b1 : ((bt a0 t115) != 45) = true := bne_iff_ne.mpr c6
    replace H := Option.bind_eq_some_iff.mp H
    obtain ⟨⟨t121, t122, t123, t124⟩, A190, H⟩ := H
    replace H : (some (false, t122, t123, t124)) = some (r1, r2, r3, r4) := H
    have A19 := Aside0.mk A190
    clear A190
    simp only [Option.some.injEq, Prod.mk.injEq] at H
    obtain ⟨rfl, rfl, rfl, rfl⟩ := H
    go_enter Tryd.func33, Tryd.ntmps33
    have tk27 : True := trivial; have tk28 : True := trivial; have tk29 : True := trivial; have tk30 : True := trivial
    go_wp2_with (first | (have ztk27 := tk27; clear tk27 ztk27; (with_reducible refine gate_dst (N := 2) rfl ?_); refine box_event ?hg (N := 2) ?hd (cs := #[.bool false, .string (⟨#[]⟩ : ByteArray), .string (⟨#[]⟩ : ByteArray), .int .i64 0]) (t := 55) ?hr ?_; (case hd => rfl); (case hg => rfl); (case hr => first | (go_simp; done) | (go_simp; rfl)); intro gb114 hg w20 hbox hb; have n0_ := Aside0.mk (below_step qnu1_ hb); have n1_ := Aside0.mk (hbox); have n2_ := Aside0.mk ((by rw [hg]; exact (below_size qnu1_) : w.heap.size ≤ gb114)); have n3_ := Aside0.mk ((by rw [hg]; exact (below_size qnu1_) : w.heap.size ≤ gb114)); clear HB; have HB := n0_; have BK114 := n1_; have GW114 := n2_; have GE114 := n3_; clear n0_ n1_ n2_ n3_; clear hb hbox hg) | (have ztk28 := tk28; clear tk28 ztk28; (with_reducible refine gate_callee (f := 34) rfl ?_); refine goesL_ (some 7) rfl rfl Tryd.func34 (by kernel_rfl) rfl #[.string a0] rfl qnu0_ ?_; (with_reducible refine (numeral_blanks.calls k a0 t115 _ A2.out).mono ?_); rintro e w' ⟨rfl, ⟨nd, rfl⟩⟩; refine ⟨_, rfl, ?_⟩; (try (rw [drewN_self w20]; generalize hq_ : World.drewN w20 _ = w20; have n0_ : Aside0 (w20.heap[gb114]? = some (.cells #[.bool false, .string (⟨#[]⟩ : ByteArray), .string (⟨#[]⟩ : ByteArray), .int .i64 0] 55 (0, 0))) := ⟨by rw [← hq_]; exact qnu20_⟩; have n1_ : Aside0 (Below w.heap.size w w20) := ⟨by rw [← hq_]; exact qnu16_⟩; clear BK114 HB hq_; have BK114 := n0_; have HB := n1_; clear n0_ n1_)); (try (have hcu21_0 : w20.cell? ⟨gb114, 0, none⟩ = some (.bool false) := (blk_cell BK114.out 0).trans rfl; have hfu21_0 := blk_frozen BK114.out 0; have hcu21_1 : w20.cell? ⟨gb114, 1, none⟩ = some (.string (⟨#[]⟩ : ByteArray)) := (blk_cell BK114.out 1).trans rfl; have hfu21_1 := blk_frozen BK114.out 1; have hcu21_2 : w20.cell? ⟨gb114, 2, none⟩ = some (.string (⟨#[]⟩ : ByteArray)) := (blk_cell BK114.out 2).trans rfl; have hfu21_2 := blk_frozen BK114.out 2; have hcu21_3 : w20.cell? ⟨gb114, 3, none⟩ = some (.int .i64 0) := (blk_cell BK114.out 3).trans rfl; have hfu21_3 := blk_frozen BK114.out 3)); have p5 : 0 ≤ (t115 : Int) := of_decide_eq_true qnu6_; have q5 : t115 < (a0.size : Int) := of_decide_eq_true qnu6_; have hx5 := bt_at a0 t115; replace p5 := eq_true p5; replace q5 := eq_true q5) | (have ztk29 := tk29; clear tk29 ztk29; (with_reducible refine gate_callee (f := 36) rfl ?_); refine goesL_ (some 23) rfl rfl Tryd.func36 (by kernel_rfl) rfl #[.string a0, .int .i64 t115] rfl qnu0_ ?_; (with_reducible refine (numeral_plain.calls a0 t115 t121 t122 t123 t124 _ A19.out).mono ?_); rintro e w22 ⟨rfl, hb⟩; refine ⟨_, rfl, ?_⟩; have n0_ := Aside0.mk (blk_below (g := gb114) (o := .cells #[.bool false, .string (⟨#[]⟩ : ByteArray), .string (⟨#[]⟩ : ByteArray), .int .i64 0] 55 (0, 0)) qnu20_ hb); have n1_ := Aside0.mk (below_step qnu16_ hb); clear BK114; clear HB; have BK114 := n0_; have HB := n1_; clear n0_ n1_; (try clear hb); (try clear hb2); (try clear hk); (try clear hi)) | (have ztk30 := tk30; clear tk30 ztk30; (with_reducible refine gate_dst (N := 5) rfl ?_); refine box_event ?hg (N := 5) ?hd (cs := #[.bool false, .string (⟨#[]⟩ : ByteArray), .string (⟨#[]⟩ : ByteArray), .int .i64 0]) (t := 55) ?hr ?_; (case hd => rfl); (case hg => rfl); (case hr => first | (go_simp; done) | (go_simp; rfl)); intro gb125 hg w23 hbox hb; have n0_ := Aside0.mk (blk_below (g := gb114) (o := .cells #[.bool false, .string (⟨#[]⟩ : ByteArray), .string (⟨#[]⟩ : ByteArray), .int .i64 0] 55 (0, 0)) qnu20_ hb); have n1_ := Aside0.mk (below_step qnu16_ hb); have n2_ := Aside0.mk (hbox); have n3_ := Aside0.mk ((by rw [hg]; exact (below_size qnu16_) : w.heap.size ≤ gb125)); have n4_ := Aside0.mk ((by rw [hg]; exact (below_size qnu16_) : w.heap.size ≤ gb125)); have n5_ := Aside0.mk ((by rw [hg]; exact Nat.ne_of_lt (blk_lt (g := gb114) (o := .cells #[.bool false, .string (⟨#[]⟩ : ByteArray), .string (⟨#[]⟩ : ByteArray), .int .i64 0] 55 (0, 0)) qnu20_) : gb114 ≠ gb125)); have n6_ := Aside0.mk ((by rw [hg]; exact Nat.ne_of_gt (blk_lt (g := gb114) (o := .cells #[.bool false, .string (⟨#[]⟩ : ByteArray), .string (⟨#[]⟩ : ByteArray), .int .i64 0] 55 (0, 0)) qnu20_) : gb125 ≠ gb114)); clear BK114; clear HB; have BK114 := n0_; have HB := n1_; have BK125 := n2_; have GW125 := n3_; have GE125 := n4_; have NB114_125 := n5_; have NB125_114 := n6_; clear n0_ n1_ n2_ n3_ n4_ n5_ n6_; clear hb hbox hg; have hnb24 := NB125_114.out; have hnc24 := NB114_125.out; have hcz25_0 : w23.cell? ⟨gb125, 0, none⟩ = some (.bool false) := (blk_cell BK125.out 0).trans rfl; have hcz25_1 : w23.cell? ⟨gb125, 1, none⟩ = some (.string (⟨#[]⟩ : ByteArray)) := (blk_cell BK125.out 1).trans rfl; have hcz25_2 : w23.cell? ⟨gb125, 2, none⟩ = some (.string (⟨#[]⟩ : ByteArray)) := (blk_cell BK125.out 2).trans rfl; have hcz25_3 : w23.cell? ⟨gb125, 3, none⟩ = some (.int .i64 0) := (blk_cell BK125.out 3).trans rfl; have hfz25_0 := blk_frozen BK125.out 0; have hfz25_1 := blk_frozen BK125.out 1; have hfz25_2 := blk_frozen BK125.out 2; have hfz25_3 := blk_frozen BK125.out 3; have hcz26_0 : w23.cell? ⟨gb114, 0, none⟩ = some (.bool false) := (blk_cell BK114.out 0).trans rfl; have hcz26_1 : w23.cell? ⟨gb114, 1, none⟩ = some (.string (⟨#[]⟩ : ByteArray)) := (blk_cell BK114.out 1).trans rfl; have hcz26_2 : w23.cell? ⟨gb114, 2, none⟩ = some (.string (⟨#[]⟩ : ByteArray)) := (blk_cell BK114.out 2).trans rfl; have hcz26_3 : w23.cell? ⟨gb114, 3, none⟩ = some (.int .i64 0) := (blk_cell BK114.out 3).trans rfl; have hfz26_0 := blk_frozen BK114.out 0; have hfz26_1 := blk_frozen BK114.out 1; have hfz26_2 := blk_frozen BK114.out 2; have hfz26_3 := blk_frozen BK114.out 3))
    refine bodyPost_ret (results_cell_row rfl _ _ gb114 55 #[.bool false, .string t122, .string t123, .int .i64 t124] (0, 0) _ rfl (by (with_reducible repeat (first | refine blk_drewN ?_ _ | refine blk_drew ?_ | refine blk_alloc ?_ _)); refine blk_put (cs := #[.bool false, .string t122, .string t123, .int .i64 0]) ?_ 3 _ rfl; (with_reducible repeat (first | refine blk_drewN ?_ _ | refine blk_drew ?_ | refine blk_alloc ?_ _)); refine blk_put (cs := #[.bool false, .string t122, .string (⟨#[]⟩ : ByteArray), .int .i64 0]) ?_ 2 _ rfl; (with_reducible repeat (first | refine blk_drewN ?_ _ | refine blk_drew ?_ | refine blk_alloc ?_ _)); refine blk_put (cs := #[.bool false, .string (⟨#[]⟩ : ByteArray), .string (⟨#[]⟩ : ByteArray), .int .i64 0]) ?_ 1 _ rfl; (with_reducible repeat (first | refine blk_drewN ?_ _ | refine blk_drew ?_ | refine blk_alloc ?_ _)); refine blk_put (cs := #[.bool false, .string (⟨#[]⟩ : ByteArray), .string (⟨#[]⟩ : ByteArray), .int .i64 0]) ?_ 0 _ rfl; (with_reducible repeat (first | refine blk_drewN ?_ _ | refine blk_drew ?_ | refine blk_alloc ?_ _)); refine blk_far ?_ NB114_125.out _; (with_reducible repeat (first | refine blk_drewN ?_ _ | refine blk_drew ?_ | refine blk_alloc ?_ _)); refine blk_far ?_ NB114_125.out _; (with_reducible repeat (first | refine blk_drewN ?_ _ | refine blk_drew ?_ | refine blk_alloc ?_ _)); refine blk_far ?_ NB114_125.out _; (with_reducible repeat (first | refine blk_drewN ?_ _ | refine blk_drew ?_ | refine blk_alloc ?_ _)); refine blk_far ?_ NB114_125.out _; (with_reducible repeat (first | refine blk_drewN ?_ _ | refine blk_drew ?_ | refine blk_alloc ?_ _)); refine blk_far ?_ NB114_125.out _; (with_reducible repeat (first | refine blk_drewN ?_ _ | refine blk_drew ?_ | refine blk_alloc ?_ _)); exact BK114.out) Tryd.underlying55 rfl (by kernel_rfl)) rfl ?_
    exact ⟨qnu10_, by repeat (first | (with_reducible first | exact HB.out | apply below_alloc | apply pw_below_drewN | apply below_drew1 | refine below_set ?_ GE114.out | refine below_set ?_ GE125.out) | exact HB.out)⟩
  ·
   rw [if_neg c4] at H
   exact absurd H (by simp)
 ·
  rw [if_neg c3] at H
  have c3b0 : decide (t115 < (a0.size : Int)) = false := decide_eq_false c3
  clear c3
  replace H := Option.bind_eq_some_iff.mp H
  obtain ⟨⟨t126, t127, t128, t129⟩, A310, H⟩ := H
  replace H : (some (false, t127, t128, t129)) = some (r1, r2, r3, r4) := H
  have A31 := Aside0.mk A310
  clear A310
  simp only [Option.some.injEq, Prod.mk.injEq] at H
  obtain ⟨rfl, rfl, rfl, rfl⟩ := H
  go_enter Tryd.func33, Tryd.ntmps33
  have tk39 : True := trivial; have tk40 : True := trivial; have tk41 : True := trivial; have tk42 : True := trivial
  go_wp2_with (first | (have ztk39 := tk39; clear tk39 ztk39; (with_reducible refine gate_dst (N := 2) rfl ?_); refine box_event ?hg (N := 2) ?hd (cs := #[.bool false, .string (⟨#[]⟩ : ByteArray), .string (⟨#[]⟩ : ByteArray), .int .i64 0]) (t := 55) ?hr ?_; (case hd => rfl); (case hg => rfl); (case hr => first | (go_simp; done) | (go_simp; rfl)); intro gb114 hg w32 hbox hb; have n0_ := Aside0.mk (below_step qnu1_ hb); have n1_ := Aside0.mk (hbox); have n2_ := Aside0.mk ((by rw [hg]; exact (below_size qnu1_) : w.heap.size ≤ gb114)); have n3_ := Aside0.mk ((by rw [hg]; exact (below_size qnu1_) : w.heap.size ≤ gb114)); clear HB; have HB := n0_; have BK114 := n1_; have GW114 := n2_; have GE114 := n3_; clear n0_ n1_ n2_ n3_; clear hb hbox hg) | (have ztk40 := tk40; clear tk40 ztk40; (with_reducible refine gate_callee (f := 34) rfl ?_); refine goesL_ (some 7) rfl rfl Tryd.func34 (by kernel_rfl) rfl #[.string a0] rfl qnu0_ ?_; (with_reducible refine (numeral_blanks.calls k a0 t115 _ A2.out).mono ?_); rintro e w' ⟨rfl, ⟨nd, rfl⟩⟩; refine ⟨_, rfl, ?_⟩; (try (rw [drewN_self w32]; generalize hq_ : World.drewN w32 _ = w32; have n0_ : Aside0 (w32.heap[gb114]? = some (.cells #[.bool false, .string (⟨#[]⟩ : ByteArray), .string (⟨#[]⟩ : ByteArray), .int .i64 0] 55 (0, 0))) := ⟨by rw [← hq_]; exact qnu20_⟩; have n1_ : Aside0 (Below w.heap.size w w32) := ⟨by rw [← hq_]; exact qnu16_⟩; clear BK114 HB hq_; have BK114 := n0_; have HB := n1_; clear n0_ n1_)); (try (have hcu33_0 : w32.cell? ⟨gb114, 0, none⟩ = some (.bool false) := (blk_cell BK114.out 0).trans rfl; have hfu33_0 := blk_frozen BK114.out 0; have hcu33_1 : w32.cell? ⟨gb114, 1, none⟩ = some (.string (⟨#[]⟩ : ByteArray)) := (blk_cell BK114.out 1).trans rfl; have hfu33_1 := blk_frozen BK114.out 1; have hcu33_2 : w32.cell? ⟨gb114, 2, none⟩ = some (.string (⟨#[]⟩ : ByteArray)) := (blk_cell BK114.out 2).trans rfl; have hfu33_2 := blk_frozen BK114.out 2; have hcu33_3 : w32.cell? ⟨gb114, 3, none⟩ = some (.int .i64 0) := (blk_cell BK114.out 3).trans rfl; have hfu33_3 := blk_frozen BK114.out 3))) | (have ztk41 := tk41; clear tk41 ztk41; (with_reducible refine gate_callee (f := 36) rfl ?_); refine goesL_ (some 23) rfl rfl Tryd.func36 (by kernel_rfl) rfl #[.string a0, .int .i64 t115] rfl qnu0_ ?_; (with_reducible refine (numeral_plain.calls a0 t115 t126 t127 t128 t129 _ A31.out).mono ?_); rintro e w34 ⟨rfl, hb⟩; refine ⟨_, rfl, ?_⟩; have n0_ := Aside0.mk (blk_below (g := gb114) (o := .cells #[.bool false, .string (⟨#[]⟩ : ByteArray), .string (⟨#[]⟩ : ByteArray), .int .i64 0] 55 (0, 0)) qnu20_ hb); have n1_ := Aside0.mk (below_step qnu16_ hb); clear BK114; clear HB; have BK114 := n0_; have HB := n1_; clear n0_ n1_; (try clear hb); (try clear hb2); (try clear hk); (try clear hi)) | (have ztk42 := tk42; clear tk42 ztk42; (with_reducible refine gate_dst (N := 5) rfl ?_); refine box_event ?hg (N := 5) ?hd (cs := #[.bool false, .string (⟨#[]⟩ : ByteArray), .string (⟨#[]⟩ : ByteArray), .int .i64 0]) (t := 55) ?hr ?_; (case hd => rfl); (case hg => rfl); (case hr => first | (go_simp; done) | (go_simp; rfl)); intro gb130 hg w35 hbox hb; have n0_ := Aside0.mk (blk_below (g := gb114) (o := .cells #[.bool false, .string (⟨#[]⟩ : ByteArray), .string (⟨#[]⟩ : ByteArray), .int .i64 0] 55 (0, 0)) qnu20_ hb); have n1_ := Aside0.mk (below_step qnu16_ hb); have n2_ := Aside0.mk (hbox); have n3_ := Aside0.mk ((by rw [hg]; exact (below_size qnu16_) : w.heap.size ≤ gb130)); have n4_ := Aside0.mk ((by rw [hg]; exact (below_size qnu16_) : w.heap.size ≤ gb130)); have n5_ := Aside0.mk ((by rw [hg]; exact Nat.ne_of_lt (blk_lt (g := gb114) (o := .cells #[.bool false, .string (⟨#[]⟩ : ByteArray), .string (⟨#[]⟩ : ByteArray), .int .i64 0] 55 (0, 0)) qnu20_) : gb114 ≠ gb130)); have n6_ := Aside0.mk ((by rw [hg]; exact Nat.ne_of_gt (blk_lt (g := gb114) (o := .cells #[.bool false, .string (⟨#[]⟩ : ByteArray), .string (⟨#[]⟩ : ByteArray), .int .i64 0] 55 (0, 0)) qnu20_) : gb130 ≠ gb114)); clear BK114; clear HB; have BK114 := n0_; have HB := n1_; have BK130 := n2_; have GW130 := n3_; have GE130 := n4_; have NB114_130 := n5_; have NB130_114 := n6_; clear n0_ n1_ n2_ n3_ n4_ n5_ n6_; clear hb hbox hg; have hnb36 := NB130_114.out; have hnc36 := NB114_130.out; have hcz37_0 : w35.cell? ⟨gb130, 0, none⟩ = some (.bool false) := (blk_cell BK130.out 0).trans rfl; have hcz37_1 : w35.cell? ⟨gb130, 1, none⟩ = some (.string (⟨#[]⟩ : ByteArray)) := (blk_cell BK130.out 1).trans rfl; have hcz37_2 : w35.cell? ⟨gb130, 2, none⟩ = some (.string (⟨#[]⟩ : ByteArray)) := (blk_cell BK130.out 2).trans rfl; have hcz37_3 : w35.cell? ⟨gb130, 3, none⟩ = some (.int .i64 0) := (blk_cell BK130.out 3).trans rfl; have hfz37_0 := blk_frozen BK130.out 0; have hfz37_1 := blk_frozen BK130.out 1; have hfz37_2 := blk_frozen BK130.out 2; have hfz37_3 := blk_frozen BK130.out 3; have hcz38_0 : w35.cell? ⟨gb114, 0, none⟩ = some (.bool false) := (blk_cell BK114.out 0).trans rfl; have hcz38_1 : w35.cell? ⟨gb114, 1, none⟩ = some (.string (⟨#[]⟩ : ByteArray)) := (blk_cell BK114.out 1).trans rfl; have hcz38_2 : w35.cell? ⟨gb114, 2, none⟩ = some (.string (⟨#[]⟩ : ByteArray)) := (blk_cell BK114.out 2).trans rfl; have hcz38_3 : w35.cell? ⟨gb114, 3, none⟩ = some (.int .i64 0) := (blk_cell BK114.out 3).trans rfl; have hfz38_0 := blk_frozen BK114.out 0; have hfz38_1 := blk_frozen BK114.out 1; have hfz38_2 := blk_frozen BK114.out 2; have hfz38_3 := blk_frozen BK114.out 3))
  refine bodyPost_ret (results_cell_row rfl _ _ gb114 55 #[.bool false, .string t127, .string t128, .int .i64 t129] (0, 0) _ rfl (by (with_reducible repeat (first | refine blk_drewN ?_ _ | refine blk_drew ?_ | refine blk_alloc ?_ _)); refine blk_put (cs := #[.bool false, .string t127, .string t128, .int .i64 0]) ?_ 3 _ rfl; (with_reducible repeat (first | refine blk_drewN ?_ _ | refine blk_drew ?_ | refine blk_alloc ?_ _)); refine blk_put (cs := #[.bool false, .string t127, .string (⟨#[]⟩ : ByteArray), .int .i64 0]) ?_ 2 _ rfl; (with_reducible repeat (first | refine blk_drewN ?_ _ | refine blk_drew ?_ | refine blk_alloc ?_ _)); refine blk_put (cs := #[.bool false, .string (⟨#[]⟩ : ByteArray), .string (⟨#[]⟩ : ByteArray), .int .i64 0]) ?_ 1 _ rfl; (with_reducible repeat (first | refine blk_drewN ?_ _ | refine blk_drew ?_ | refine blk_alloc ?_ _)); refine blk_put (cs := #[.bool false, .string (⟨#[]⟩ : ByteArray), .string (⟨#[]⟩ : ByteArray), .int .i64 0]) ?_ 0 _ rfl; (with_reducible repeat (first | refine blk_drewN ?_ _ | refine blk_drew ?_ | refine blk_alloc ?_ _)); refine blk_far ?_ NB114_130.out _; (with_reducible repeat (first | refine blk_drewN ?_ _ | refine blk_drew ?_ | refine blk_alloc ?_ _)); refine blk_far ?_ NB114_130.out _; (with_reducible repeat (first | refine blk_drewN ?_ _ | refine blk_drew ?_ | refine blk_alloc ?_ _)); refine blk_far ?_ NB114_130.out _; (with_reducible repeat (first | refine blk_drewN ?_ _ | refine blk_drew ?_ | refine blk_alloc ?_ _)); refine blk_far ?_ NB114_130.out _; (with_reducible repeat (first | refine blk_drewN ?_ _ | refine blk_drew ?_ | refine blk_alloc ?_ _)); refine blk_far ?_ NB114_130.out _; (with_reducible repeat (first | refine blk_drewN ?_ _ | refine blk_drew ?_ | refine blk_alloc ?_ _)); exact BK114.out) Tryd.underlying55 rfl (by kernel_rfl)) rfl ?_
  exact ⟨qnu10_, by repeat (first | (with_reducible first | exact HB.out | apply below_alloc | apply pw_below_drewN | apply below_drew1 | refine below_set ?_ GE114.out | refine below_set ?_ GE130.out) | exact HB.out)⟩


/-! ### numeral_Decimal: function 16 -/
def numeral_Decimal.f (k : Nat) (a0 : ByteArray) : Option (Bool × ByteArray × ByteArray × Int) := (numeral_signed.f k a0).bind fun bt132 => ((numeral_decimal.f k bt132.1 bt132.2.1 bt132.2.2.1 bt132.2.2.2).bind fun bt136 => (some (bt136.1, bt136.2.1, bt136.2.2.1, bt136.2.2.2)))
set_option maxHeartbeats 8000000 in
set_option maxRecDepth 100000 in
theorem numeral_Decimal.calls (k : Nat) (a0 : ByteArray) (r1 : Bool) (r2 : ByteArray) (r3 : ByteArray) (r4 : Int) (w : World) (h : numeral_Decimal.f k a0 = some (r1, r2, r3, r4)) :
  Calls Tryd.prog 16 #[.string a0] w fun e w' => e = .returned (.agg #[.bool r1, .string r2, .string r3, .int .i64 r4]) ∧ Below w.heap.size w w' := by
 have hu25 := Tryd.underlying25
 have HB := Aside0.mk (Below.refl w.heap.size w)
 have H : ((numeral_signed.f k a0).bind fun bt132 => ((numeral_decimal.f k bt132.1 bt132.2.1 bt132.2.2.1 bt132.2.2.2).bind fun bt136 => (some (bt136.1, bt136.2.1, bt136.2.2.1, bt136.2.2.2)))) = some (r1, r2, r3, r4) := h
 clear h
 replace H := Option.bind_eq_some_iff.mp H
 obtain ⟨⟨t132, t133, t134, t135⟩, A20, H⟩ := H
 replace H : ((numeral_decimal.f k t132 t133 t134 t135).bind fun bt136 => (some (bt136.1, bt136.2.1, bt136.2.2.1, bt136.2.2.2))) = some (r1, r2, r3, r4) := H
 have A2 := Aside0.mk A20
 clear A20
 replace H := Option.bind_eq_some_iff.mp H
 obtain ⟨⟨t136, t137, t138, t139⟩, A30, H⟩ := H
 replace H : (some (t136, t137, t138, t139)) = some (r1, r2, r3, r4) := H
 have A3 := Aside0.mk A30
 clear A30
 simp only [Option.some.injEq, Prod.mk.injEq] at H
 obtain ⟨rfl, rfl, rfl, rfl⟩ := H
 go_enter Tryd.func16, Tryd.ntmps16
 have tk8 : True := trivial; have tk9 : True := trivial; have tk10 : True := trivial
 go_wp2_with (first | (have ztk8 := tk8; clear tk8 ztk8; (with_reducible refine gate_dst (N := 2) rfl ?_); refine box_event ?hg (N := 2) ?hd (cs := #[.bool false, .string (⟨#[]⟩ : ByteArray), .string (⟨#[]⟩ : ByteArray), .int .i64 0]) (t := 25) ?hr ?_; (case hd => rfl); (case hg => rfl); (case hr => first | (go_simp; done) | (go_simp; rfl)); intro gb131 hg w4 hbox hb; have n0_ := Aside0.mk (below_step qnu1_ hb); have n1_ := Aside0.mk (hbox); have n2_ := Aside0.mk ((by rw [hg]; exact (below_size qnu1_) : w.heap.size ≤ gb131)); have n3_ := Aside0.mk ((by rw [hg]; exact (below_size qnu1_) : w.heap.size ≤ gb131)); clear HB; have HB := n0_; have BK131 := n1_; have GW131 := n2_; have GE131 := n3_; clear n0_ n1_ n2_ n3_; clear hb hbox hg) | (have ztk9 := tk9; clear tk9 ztk9; (with_reducible refine gate_callee (f := 33) rfl ?_); refine goesL_ (some 4) rfl rfl Tryd.func33 (by kernel_rfl) rfl #[.string a0] rfl qnu0_ ?_; (with_reducible refine (numeral_signed.calls k a0 t132 t133 t134 t135 _ A2.out).mono ?_); rintro e w5 ⟨rfl, hb⟩; refine ⟨_, rfl, ?_⟩; have n0_ := Aside0.mk (blk_below (g := gb131) (o := .cells #[.bool false, .string (⟨#[]⟩ : ByteArray), .string (⟨#[]⟩ : ByteArray), .int .i64 0] 25 (0, 0)) (by (with_reducible repeat (first | refine blk_drewN ?_ _ | refine blk_drew ?_ | refine blk_alloc ?_ _)); exact BK131.out) hb); have n1_ := Aside0.mk (below_step qnu50_ hb); clear BK131; clear HB; have BK131 := n0_; have HB := n1_; clear n0_ n1_; (try clear hb); (try clear hb2); (try clear hk); (try clear hi)) | (have ztk10 := tk10; clear tk10 ztk10; (with_reducible refine gate_callee (f := 32) rfl ?_); refine goesL_ (some 5) rfl rfl Tryd.func32 (by kernel_rfl) rfl #[.agg #[.bool t132, .string t133, .string t134, .int .i64 t135]] rfl qnu0_ ?_; (with_reducible refine (numeral_decimal.calls k t132 t133 t134 t135 t136 t137 t138 t139 _ A3.out).mono ?_); rintro e w6 ⟨rfl, hb⟩; refine ⟨_, rfl, ?_⟩; have n0_ := Aside0.mk (blk_below (g := gb131) (o := .cells #[.bool false, .string (⟨#[]⟩ : ByteArray), .string (⟨#[]⟩ : ByteArray), .int .i64 0] 25 (0, 0)) (by (with_reducible repeat (first | refine blk_drewN ?_ _ | refine blk_drew ?_ | refine blk_alloc ?_ _)); exact BK131.out) hb); have n1_ := Aside0.mk (below_step qnu50_ hb); clear BK131; clear HB; have BK131 := n0_; have HB := n1_; clear n0_ n1_; (try clear hb); (try clear hb2); (try clear hk); (try clear hi); have hcz7_0 : w6.cell? ⟨gb131, 0, none⟩ = some (.bool false) := (blk_cell BK131.out 0).trans rfl; have hcz7_1 : w6.cell? ⟨gb131, 1, none⟩ = some (.string (⟨#[]⟩ : ByteArray)) := (blk_cell BK131.out 1).trans rfl; have hcz7_2 : w6.cell? ⟨gb131, 2, none⟩ = some (.string (⟨#[]⟩ : ByteArray)) := (blk_cell BK131.out 2).trans rfl; have hcz7_3 : w6.cell? ⟨gb131, 3, none⟩ = some (.int .i64 0) := (blk_cell BK131.out 3).trans rfl; have hfz7_0 := blk_frozen BK131.out 0; have hfz7_1 := blk_frozen BK131.out 1; have hfz7_2 := blk_frozen BK131.out 2; have hfz7_3 := blk_frozen BK131.out 3))
 refine bodyPost_ret (results_cell_row rfl _ _ gb131 25 #[.bool t136, .string t137, .string t138, .int .i64 t139] (0, 0) _ rfl (by (with_reducible repeat (first | refine blk_drewN ?_ _ | refine blk_drew ?_ | refine blk_alloc ?_ _)); refine blk_put (cs := #[.bool t136, .string t137, .string t138, .int .i64 0]) ?_ 3 _ rfl; (with_reducible repeat (first | refine blk_drewN ?_ _ | refine blk_drew ?_ | refine blk_alloc ?_ _)); refine blk_put (cs := #[.bool t136, .string t137, .string (⟨#[]⟩ : ByteArray), .int .i64 0]) ?_ 2 _ rfl; (with_reducible repeat (first | refine blk_drewN ?_ _ | refine blk_drew ?_ | refine blk_alloc ?_ _)); refine blk_put (cs := #[.bool t136, .string (⟨#[]⟩ : ByteArray), .string (⟨#[]⟩ : ByteArray), .int .i64 0]) ?_ 1 _ rfl; (with_reducible repeat (first | refine blk_drewN ?_ _ | refine blk_drew ?_ | refine blk_alloc ?_ _)); refine blk_put (cs := #[.bool false, .string (⟨#[]⟩ : ByteArray), .string (⟨#[]⟩ : ByteArray), .int .i64 0]) ?_ 0 _ rfl; (with_reducible repeat (first | refine blk_drewN ?_ _ | refine blk_drew ?_ | refine blk_alloc ?_ _)); exact BK131.out) Tryd.underlying25 rfl (by kernel_rfl)) rfl ?_
 exact ⟨qnu10_, qnu50_⟩


/-! ### stringslite_IndexByte: function 69 (by hand) -/
def stringslite_IndexByte.f (a0 : ByteArray) (a1 : Int) : Option (Int) := some (Lib.indexByte a0.data.toList a1.toNat.toUInt8)
set_option maxHeartbeats 1000000 in
set_option maxRecDepth 100000 in
theorem stringslite_IndexByte.calls (a0 : ByteArray) (a1 : Int) (r : Int) (w : World) (h : stringslite_IndexByte.f a0 a1 = some r) :
    Calls Tryd.prog 69 #[.string a0, .int .u8 a1] w fun e w' => e = .returned (.int .i64 r) ∧ Drawn0 w w' := by
  obtain rfl := Option.some.inj h
  clear h
  go_enter Tryd.func69, Tryd.ntmps69
  go_wp2
  rw [run_callFunc_extern Tryd.func95 (by kernel_rfl) (by kernel_rfl) (by kernel_rfl) (e := Extern.BytealgIndexByte.indexByte) (by kernel_rfl), Lib.run_indexByteString]
  simp only [Result.andThen]
  rw [Oper.upon_value]
  go_wp2
  go_ret
  exact ⟨rfl, Drawn0.refl _⟩


/-! ### strings_IndexByte: function 39 -/
def strings_IndexByte.f (a0 : ByteArray) (a1 : Int) : Option (Int) := (stringslite_IndexByte.f a0 a1).bind fun t186 => (some t186)
set_option maxHeartbeats 8000000 in
set_option maxRecDepth 100000 in
theorem strings_IndexByte.calls (a0 : ByteArray) (a1 : Int) (r : Int) (w : World) (h : strings_IndexByte.f a0 a1 = some r) :
  Calls Tryd.prog 39 #[.string a0, .int .u8 a1] w fun e w' => e = .returned (.int .i64 r) ∧ Drawn0 w w' := by
 have H : ((stringslite_IndexByte.f a0 a1).bind fun t186 => (some t186)) = some r := h
 clear h
 replace H := Option.bind_eq_some_iff.mp H
 obtain ⟨t186, A30, H⟩ := H
 replace H : (some t186) = some r := H
 have A3 := Aside0.mk A30
 clear A30
 obtain rfl := Option.some.inj H
 go_enter Tryd.func39, Tryd.ntmps39
 go_wp2_with (first | ((with_reducible refine gate_callee (f := 69) rfl ?_); refine goesL_ (some 7) rfl rfl Tryd.func69 (by kernel_rfl) rfl #[.string a0, .int .u8 a1] rfl qnu0_ ?_; (with_reducible refine (stringslite_IndexByte.calls a0 a1 t186 _ A3.out).mono ?_); rintro e w' ⟨rfl, ⟨nd, rfl⟩⟩; refine ⟨_, rfl, ?_⟩))
 go_ret
 exact ⟨qnu2_, qnu12_⟩

end Go.Proofs.YtcdajedmlfhmeaaDoor.XN
